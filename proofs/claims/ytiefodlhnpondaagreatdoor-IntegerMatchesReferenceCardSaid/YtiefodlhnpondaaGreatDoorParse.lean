/-
  parse: the signed number that a valid text is.
-/
import Derived.Test.YtiefodlhnpondaaGreatDoorNum
import Derived.Test.YtiefodlhnpondaaGreatDoorVal
import Derived.Lib.SmallJoins
import Derived.Lib.PathFns
namespace Go.Proofs.YtiefodlhnpondaaGreatDoor
open Go.RowKit Go.Shelf
attribute [local go_sem] Oper.semAt_some

theorem valB_append (a b : List UInt8) : valB (a ++ b) = valB a * 10 ^ b.length + valB b := by
  unfold valB
  rw [List.reverse_append, List.map_append, val_append]
  simp
  rw [Nat.mul_comm]; omega
theorem valB_one (c : UInt8) : valB [c] = c.toNat - 48 := by simp [valB, val]
theorem valB_cons (c : UInt8) (t : List UInt8) : valB (c :: t) = (c.toNat - 48) * 10 ^ t.length + valB t := by
  rw [show c :: t = [c] ++ t from rfl, valB_append, valB_one]
theorem valB_lt {l : List UInt8} (hd : ∀ c ∈ l, 48 ≤ c.toNat ∧ c.toNat ≤ 57) : valB l < 10 ^ l.length := by
  have := val_lt (B := 10) (by omega) (l.reverse.map fun c => c.toNat - 48) (by
    intro d hm
    obtain ⟨c, hc, rfl⟩ := List.mem_map.1 hm
    have := hd c (by simpa using hc)
    omega)
  simpa [valB] using this
theorem decFrom_valB : ∀ (l : List UInt8) (acc : Nat), (∀ c ∈ l, 48 ≤ c.toNat ∧ c.toNat ≤ 57) → Lib.decFrom acc l = some (acc * 10 ^ l.length + valB l)
  | [], acc, _ => by simp [Lib.decFrom, valB, val]
  | c :: t, acc, h => by
    have hc := h c (by simp)
    have e : Lib.digitVal c = some (c.toNat - 48) := by unfold Lib.digitVal; rw [if_pos hc]
    simp only [Lib.decFrom, e]
    rw [decFrom_valB t _ (fun c hm => h c (by simp [hm])), valB_cons, List.length_cons, Nat.pow_succ, Nat.add_mul]
    rw [Nat.mul_assoc, Nat.mul_comm (10 ^ t.length) 10]
    congr 1
    omega
theorem atoi_digits {l : List UInt8} (hne : l ≠ []) (h : ∀ c ∈ l, 48 ≤ c.toNat ∧ c.toNat ≤ 57) : Lib.atoi l = some (valB l : Int) := by
  cases l with
  | nil => exact absurd rfl hne
  | cons c t =>
    have hc := h c (by simp)
    have h1 : (c == 45) = false := by
      apply beq_eq_false_iff_ne.2
      intro e; subst e; revert hc; decide
    have h2 : (c == 43) = false := by
      apply beq_eq_false_iff_ne.2
      intro e; subst e; revert hc; decide
    unfold Lib.atoi
    simp only [h1, h2, Lib.decNat, List.isEmpty_cons, Bool.false_eq_true, if_false]
    rw [decFrom_valB _ _ h]
    simp

/-- A signed number: its sign, and its size. A 0 may bear either sign. -/
def Sg (w : World) (v : Value) (neg : Bool) (n lo hi : Nat) : Prop := ∃ s, v = .agg #[.bool neg, s] ∧ Nm w s n lo hi

/-- What parse knows before a round: the digits still to be read are the first k of them, and ds holds the groups read. -/
structure ParseAt (u : List UInt8) (k : Nat) (ds : List Nat) : Prop where
  le : k ≤ u.length
  dlt : ∀ d ∈ ds, d < 10000
  far : k = 0 ∨ u.length = k + 4 * ds.length
  len : ds.length ≤ u.length
  eq : k = 0 → val 10000 ds = valB u
  eq2 : u.length = k + 4 * ds.length → valB (u.take k) * 10 ^ (4 * ds.length) + val 10000 ds = valB u

theorem ParseAt.step {u : List UInt8} {k : Nat} {ds : List Nat} (h : ParseAt u k ds) (hd : ∀ c ∈ u, 48 ≤ c.toNat ∧ c.toNat ≤ 57) (hk : 0 < k) : ParseAt u (k - 4) (ds ++ [valB ((u.take k).drop (k - 4))]) := by
  obtain ⟨h1, h2, h3, h4, h5, h6⟩ := h
  have h7 : u.length = k + 4 * ds.length := by omega
  have h8 := h6 h7
  have hgl : ((u.take k).drop (k - 4)).length = k - (k - 4) := by simp; omega
  have hp : ∀ n, 10000 ^ n = 10 ^ (4 * n) := fun n => by rw [Nat.pow_mul]
  have hg : valB ((u.take k).drop (k - 4)) < 10000 := by
    have := valB_lt (l := (u.take k).drop (k - 4)) (fun c hc => hd c (List.mem_of_mem_take (List.mem_of_mem_drop hc)))
    rw [hgl] at this
    have h9 : 10 ^ (k - (k - 4)) ≤ 10 ^ 4 := Nat.pow_le_pow_right (by omega) (by omega)
    omega
  refine ⟨by omega, ?_, ?_, ?_, ?_, ?_⟩
  · intro d hm
    rcases List.mem_append.1 hm with hm | hm
    · exact h2 d hm
    · simp at hm; omega
  · simp; omega
  · simp; omega
  · intro hk0
    rw [hk0, List.drop_zero, val_append, hp]
    simp only [val, Nat.mul_zero, Nat.add_zero]
    rw [← h8, Nat.mul_comm, Nat.add_comm]
  · intro hl
    have hk4 : 4 ≤ k := by simp at hl; omega
    have e : u.take k = u.take (k - 4) ++ (u.take k).drop (k - 4) := by
      have := (List.take_append_drop (k - 4) (u.take k)).symm
      rwa [List.take_take, Nat.min_eq_left (by omega)] at this
    have h9 := congrArg valB e
    rw [valB_append, hgl, show k - (k - 4) = 4 from by omega] at h9
    rw [h9, Nat.add_mul] at h8
    rw [val_append, hp, List.length_append, List.length_singleton, Nat.mul_add, Nat.pow_add]
    simp only [val, Nat.mul_zero, Nat.add_zero]
    rw [← h8, Nat.mul_one, Nat.mul_comm (10 ^ (4 * ds.length)) (10 ^ 4), ← Nat.mul_assoc, Nat.mul_comm (10 ^ (4 * ds.length)) (valB _)]
    omega
theorem ParseAt.start (u : List UInt8) : ParseAt u u.length [] :=
  ⟨Nat.le_refl _, by simp, by simp, by simp, fun h => by rw [List.eq_nil_of_length_eq_zero h]; rfl, fun _ => by simp [val]⟩
theorem Atoi_group (l : List UInt8) (hne : l ≠ []) (hl : l.length ≤ 4) (h : ∀ c ∈ l, 48 ≤ c.toNat ∧ c.toNat ≤ 57) (w : World) :
    Calls Tryz.prog 57 #[.string ⟨l.toArray⟩] w fun e w' => e = .returned (.tuple #[.int .i64 (valB l : Int), .nilIface]) ∧ Below w.heap.size w w' := by
  refine (Tryz.strconv_Atoi ⟨l.toArray⟩ (valB l : Int) (by show l.length ≤ 18; omega) (atoi_digits hne h) w).mono ?_
  rintro e w' ⟨rfl, t, rfl⟩
  exact ⟨rfl, Joins.below_bytesWorld _ _ _ _ (Nat.le_refl _)⟩

/-- How parse's memory stands between two steps. -/
structure PaAt (N : Nat) (neg : Bool) (w W : World) (v : Value) (ds : List Nat) : Prop where
  c0 : W.cell? ⟨N + 1, 0, none⟩ = some (.bool neg)
  c1 : W.cell? ⟨N + 1, 1, none⟩ = some v
  ow : W.ownsRow (N + 2) 3 1 v ds.length (ds.map fun n : Nat => Value.int .i64 (n : Int))
  f1 : W.frozen? ⟨N + 1, 1, none⟩ = false
  r0 : W.frozen? ⟨N, 0, none⟩ = false
  r1 : W.frozen? ⟨N, 1, none⟩ = false
  sz : N + 2 ≤ W.heap.size
  bw : Below N w W
  q0 : W.cell? ⟨N, 0, none⟩ = some (.bool false)
  q1 : W.cell? ⟨N, 1, none⟩ = some (.slice none 0 0)
theorem owns_below {w w' : World} {base : Nat} {e : TypeId} {size : Nat} {v : Value} {n : Nat} {xs : List Value} (h : w.ownsRow base e size v n xs) (hb : Below w.heap.size w w') : w'.ownsRow base e size v n xs := by
  obtain ⟨h1, ⟨rfl, rfl⟩ | ⟨g, cap, cur, rfl, e2, e3, e4⟩⟩ := h
  · exact ⟨h1, .inl ⟨rfl, rfl⟩⟩
  · exact ⟨h1, .inr ⟨g, cap, cur, rfl, e2, (hb.block g (Array.getElem?_eq_some_iff.1 e3).1).trans e3, e4⟩⟩
theorem PaAt.below {N : Nat} {neg : Bool} {w W W' : World} {v : Value} {ds : List Nat} (h : PaAt N neg w W v ds) (hb : Below W.heap.size W W') : PaAt N neg w W' v ds := by
  have hs := h.sz
  have hs' := hb.size
  obtain ⟨b1, b2⟩ := bcell hb
  exact ⟨(b1 _ _ (by omega)).trans h.c0, (b1 _ _ (by omega)).trans h.c1, owns_below h.ow hb, (b2 _ _ (by omega)).trans h.f1, (b2 _ _ (by omega)).trans h.r0, (b2 _ _ (by omega)).trans h.r1, by omega, h.bw.trans (hb.mono (by omega)), (b1 _ _ (by omega)).trans h.q0, (b1 _ _ (by omega)).trans h.q1⟩

theorem PaAt.put {N : Nat} {neg : Bool} {w W W' : World} {v v' : Value} {ds : List Nat} {G : Nat} (h : PaAt N neg w W v ds) (hb : Below (N + 2) W W')
    (ho : W'.ownsRow (N + 2) 3 1 v' (ds.length + 1) (ds.map (fun n : Nat => Value.int .i64 (n : Int)) ++ [Value.int .i64 (G : Int)])) : PaAt N neg w (W'.setCell ⟨N + 1, 1, none⟩ v') v' (ds ++ [G]) := by
  have hs := h.sz
  have hs' := hb.size
  have b1 := fun b o (h : b < N + 2) => hb.cell (p := ⟨b, o, none⟩) h
  have b2 := fun b o (h : b < N + 2) => hb.frozen (p := ⟨b, o, none⟩) h
  have hc1 := (b1 _ _ (by omega)).trans h.c1
  have ho' := own_snoc_int (by omega) ho
  simp only [Int.toNat_natCast] at ho'
  refine ⟨?_, ?_, ownsRow_setCell_below ho' (by simp) _, ?_, ?_, ?_, by simp; omega, ?_, ?_, ?_⟩
  · have := (b1 _ _ (by omega)).trans h.c0
    simp [go_sem, this]
  · exact World.cell?_setCell_same _ _ _ hc1
  · have := (b2 _ _ (by omega)).trans h.f1
    simp [go_sem, this]
  · have := (b2 _ _ (by omega)).trans h.r0
    simp [go_sem, this]
  · have := (b2 _ _ (by omega)).trans h.r1
    simp [go_sem, this]
  · exact (h.bw.trans (hb.mono (by omega))).setCell (by simp) _
  · have := (b1 _ _ (by omega)).trans h.q0
    simp [go_sem, this]
  · have := (b1 _ _ (by omega)).trans h.q1
    simp [go_sem, this]

set_option maxHeartbeats 8000000 in
set_option maxRecDepth 100000 in
theorem parse_any (s : ByteArray) (w : World) (hv : validL s.data.toList = true) :
    Calls Tryz.prog 59 #[.string s] w fun e w' => (∃ v, e = .returned v ∧ Sg w' v (decide (s.data.toList.head? = some 45)) (valB (unsign s.data.toList)) w.heap.size w'.heap.size) ∧ Below w.heap.size w w' := by
  obtain ⟨i0, hi, hz0, hz1, hz2⟩ := info_parts A_info3
  have hT := Tryz.strings_TrimPrefix s ⟨#[45]⟩
  rw [show (⟨#[45]⟩ : ByteArray).data.toList = [45] from rfl, trimPrefix_unsign] at hT
  generalize hl : s.data.toList = l at hT hv ⊢
  have hvv : (unsign l ≠ [] ∧ (unsign l).length ≤ 200) ∧ ∀ c ∈ unsign l, 48 ≤ c.toNat ∧ c.toNat ≤ 57 := by
    unfold validL at hv
    simp only [Bool.and_eq_true, Bool.not_eq_true', List.isEmpty_eq_false_iff, decide_eq_true_eq, List.all_eq_true] at hv
    exact ⟨hv.1.1, hv.1.2⟩
  have hlen : (decide ((unsign l).length < s.size)) = decide (l.head? = some 45) := by
    have hs : s.size = l.length := by rw [← hl]; rfl
    rw [hs]
    unfold unsign
    split
    · rename_i h
      cases l with
      | nil => cases h
      | cons a t => rw [h, List.tail_cons]; simp only [List.length_cons, decide_true]; exact decide_eq_true (by omega)
    · rename_i h; simp [h]
  generalize decide (l.head? = some 45) = neg at hlen ⊢
  generalize unsign l = u at hT hvv hlen ⊢
  obtain ⟨⟨hne, hu⟩, hd⟩ := hvv
  have HD := Lib.hid hd
  have HLEN := Lib.hid hlen
  clear hd hv hl hlen
  go_enter Tryz.func59, Tryz.ntmps59
  go_wp2_with (first
    | (go_at_call 73; refine (hT _).mono ?_; rintro e w' ⟨rfl, rfl⟩))
  go_loopw [3, 5, 6, 7] (fun d _ _ _ W => ∃ (k : Nat) (ds : List Nat) (v : Value), d = .string ⟨(u.take k).toArray⟩ ∧ ParseAt u k ds ∧ PaAt w.heap.size neg w W v ds)
    (fun d _ _ _ _ => match d with | .string s => s.size | _ => 0)
  case atStart =>
    refine ⟨u.length, [], .slice none 0 0, by rw [List.take_length], ParseAt.start u, ?_⟩
    refine ⟨?_, ?_, World.ownsRow_nil _ _ _ _, ?_, ?_, ?_, by simp, ((Below.refl _ _).alloc (Nat.le_refl _) _).alloc (by simp) _, ?_, ?_⟩
    · rw [HLEN.out]; simp [go_sem]
    all_goals simp [go_sem]
  case round =>
    obtain ⟨k, ds, v, rfl, hpa, hW⟩ := hrel
    have hkl := hpa.le
    have hdl := hpa.len
    have HPA := Lib.hid hpa
    have c0 := hW.c0
    have c1 := hW.c1
    have f1 := hW.f1
    have hsz := hW.sz
    have HW := Lib.hid hW
    clear hpa hW
    rcases Nat.lt_or_ge 0 k with hk | hk
    · have HS := Lib.hid (HPA.out.step HD.out hk)
      have hmx : (max 0 ((k : Int) - 4)).toNat = k - 4 := by omega
      have hx1 : (⟨(u.take k).toArray⟩ : ByteArray).extract (k - 4) k = ⟨((u.take k).drop (k - 4)).toArray⟩ := by
        have := Lib.extract_from ⟨(u.take k).toArray⟩ (k - 4)
        rw [show (⟨(u.take k).toArray⟩ : ByteArray).size = k from by show (u.take k).length = k; simp; omega] at this
        exact this
      have hx2 : (⟨(u.take k).toArray⟩ : ByteArray).extract 0 (k - 4) = ⟨(u.take (k - 4)).toArray⟩ := by
        rw [Lib.extract_upto]
        show (⟨((u.take k).take (k - 4)).toArray⟩ : ByteArray) = _
        rw [List.take_take, Nat.min_eq_left (by omega)]
      have hA := Atoi_group ((u.take k).drop (k - 4)) (by intro e; have := congrArg List.length e; simp at this; omega) (by simp; omega) (fun c hc => HD.out c (List.mem_of_mem_take (List.mem_of_mem_drop hc)))
      rw [← hx1] at hA
      generalize valB ((u.take k).drop (k - 4)) = G at hA HS
      rw [← hmx] at hA
      have HX1 := Lib.hid hx1
      have HX2 := Lib.hid hx2
      clear hx1 hx2
      have HMX := Lib.hid hmx
      clear hmx
      clear c0 c1 f1
      go_wp2_with (first
        | (go_at_call 57; refine (hA _).mono ?_; rintro e w1 ⟨rfl, hb1⟩; have hs1 := hb1.size; have HW1 := Lib.hid (HW.out.below hb1); have c1 := HW1.out.c1; have f1 := HW1.out.f1; have c0 := HW1.out.c0)
        | (at_builtin; refine wpList_append_own _ rfl _ _ 48 rfl (w.heap.size + 2) 3 i0 (.int .i64 0) 1 8 Tryz.underlying48 hi hz0 hz1 hz2 rfl (by decide) v _ _ rfl (HW1.out.ow.alloc _) ⟨w1.heap.size, 0, none⟩ 1 1 [.int .i64 (G : Int)] rfl rfl (cell_one_new _ _ _) (by simp [Value.oneCell']) (by unfold maxLen; omega) (by omega) (by simp; omega) ?_; intro v' w3 hown' hgrow _
           obtain ⟨g, cap, rfl⟩ := Joins.ownsRow_form hown' (by omega)
           have hb3 := (((Below.refl (w.heap.size + 2) w1).alloc (by omega) _).grown hgrow (by simp; omega) (fun r e => (HW1.out.ow.lt r e).1))
           have hs3 := hb3.size
           have c3 := (hb3.cell (p := ⟨w.heap.size + 1, 1, none⟩) (show w.heap.size + 1 < _ by omega)).trans HW1.out.c1
           have f3 := (hb3.frozen (p := ⟨w.heap.size + 1, 1, none⟩) (show w.heap.size + 1 < _ by omega)).trans HW1.out.f1
           clear hgrow))
      refine ⟨⟨k - 4, ds ++ [G], _, by rw [HMX.out, HX2.out], HS.out, HW1.out.put hb3 hown'⟩, ?_⟩
      rw [HMX.out, HX2.out]
      show (u.take (k - 4)).length < (u.take k).length
      simp; omega
    · obtain rfl : k = 0 := by omega
      have heq := HPA.out.eq rfl
      have htr := trim_dig (B := 10000) (by omega) ds HPA.out.dlt
      rw [heq] at htr
      have HTR := Lib.hid htr
      clear heq htr
      have hns := Sl.of_owns HW.out.ow
      obtain ⟨a0, cap0, rfl⟩ : ∃ a cap, v = .slice a ds.length cap := by obtain ⟨a, cap, e, _⟩ := hns; exact ⟨a, cap, e⟩
      have HNS := Lib.hid hns
      clear hns
      have hu0 : (u.take 0).length = 0 := by simp
      have r0 := HW.out.r0
      have r1 := HW.out.r1
      have q0 := HW.out.q0
      have q1 := HW.out.q1
      go_wp2_with (first
        | (go_at_call 65; refine (trimmed_any _ ds _ _ _ HNS.out).mono ?_; rintro e w2 ⟨⟨v', rfl, hv'⟩, rfl⟩; obtain ⟨a1, cap1, rfl⟩ : ∃ a cap, v' = .slice a (trim ds).length cap := (by obtain ⟨a, cap, e, _⟩ := hv'; exact ⟨a, cap, e⟩); have HV2 := Lib.hid hv'; clear hv'))
      obtain ⟨W4, hW4⟩ : ∃ W4, (((wr.setCell ⟨w.heap.size + 1, 1, none⟩ (.slice a1 (trim ds).length cap1)).setCell ⟨w.heap.size, 0, none⟩ (.bool neg)).setCell ⟨w.heap.size, 1, none⟩ (.slice a1 (trim ds).length cap1)) = W4 := ⟨_, rfl⟩
      have p0 : W4.cell? ⟨w.heap.size, 0, none⟩ = some (.bool neg) := by
        rw [← hW4, World.cell?_setCell_other _ _ _ _ (by simp)]
        exact World.cell?_setCell_same _ _ _ (u := .bool false) (by rw [World.cell?_setCell_other _ _ _ _ (by simp)]; exact q0)
      have p1 : W4.cell? ⟨w.heap.size, 1, none⟩ = some (.slice a1 (trim ds).length cap1) := by
        rw [← hW4]
        exact World.cell?_setCell_same _ _ _ (u := .slice none 0 0) (by rw [World.cell?_setCell_other _ _ _ _ (by simp), World.cell?_setCell_other _ _ _ _ (by simp)]; exact q1)
      have hsl : Nm W4 (.slice a1 (trim ds).length cap1) (valB u) w.heap.size W4.heap.size := by
        have h1 := HV2.out.keep (w' := W4) (by rw [← hW4]; exact (((Agree.refl _ _ _).setCell (.inl (by simp)) _).setCell (.inl (by simp)) _).setCell (.inl (by simp)) _)
        rw [HTR.out] at h1 ⊢
        exact h1.mono (by omega) (by rw [← hW4]; simp)
      have hbl : Below w.heap.size w W4 := by
        rw [← hW4]
        exact ((HW.out.bw.setCell (by simp) _).setCell (by simp) _).setCell (by simp) _
      rw [hW4]
      clear hW4 q0 q1 r0 r1 c0 c1 f1
      (try simp only [Exit.inBlock, Exit.then])
      refine bodyPost_ret (v := .agg #[.bool neg, .slice a1 (trim ds).length cap1]) ?_ rfl ⟨⟨_, rfl, _, rfl, hsl⟩, hbl⟩
      simp [results, Tryz.results59, go_sem, p0, p1, Result.andThen]
end Go.Proofs.YtiefodlhnpondaaGreatDoor
