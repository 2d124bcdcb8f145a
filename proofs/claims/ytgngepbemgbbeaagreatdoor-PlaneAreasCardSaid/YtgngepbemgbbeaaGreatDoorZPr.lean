/-
  Package plane: Reverse; chain.
  Package plane: chain.
  Package plane: Grow of no slice; Concat of two slices of places.
-/
import Derived.Lib.AppendZerosOnto
import Derived.Lib.Walk
import Derived.Test.YtgngepbemgbbeaaGreatDoorZPq
import Derived.Test.YtgngepbemgbbeaaGreatDoorZAr
import Derived.Test.YtgngepbemgbbeaaGreatDoorZLimQP
namespace Go.Proofs.YtgngepbemgbbeaaGreatDoor
open Go.RowKit Go.Shelf
attribute [local go_sem] Oper.semAt_some

theorem rev_step {l M : List Pl} {n i j : Nat} {p q : Pl} (hM : M.length = n) (hj : j = n - 1 - i) (hij : i < j) (hjn : j < n) (hp : l[i]? = some p) (hq : l[j]? = some q)
    (h : ∀ k, k < n → M[k]? = if k < i ∨ n - 1 - k < i then l[n - 1 - k]? else l[k]?) :
    ∀ k, k < n → ((M.set i q).set j p)[k]? = if k < i + 1 ∨ n - 1 - k < i + 1 then l[n - 1 - k]? else l[k]? := by
  intro k hk
  by_cases h1 : k = j
  · subst h1
    rw [List.getElem?_set_self (by rw [List.length_set, hM]; exact hk), if_pos (by omega), show n - 1 - k = i by omega, hp]
  · rw [List.getElem?_set_ne (Ne.symm h1)]
    by_cases h2 : k = i
    · subst h2
      rw [List.getElem?_set_self (by rw [hM]; exact hk), if_pos (by omega), show n - 1 - k = j by omega, hq]
    · rw [List.getElem?_set_ne (Ne.symm h2), h k hk]
      by_cases h3 : k < i ∨ n - 1 - k < i
      · rw [if_pos h3, if_pos (by omega)]
      · rw [if_neg h3, if_neg (by omega)]
theorem rev_done {l M : List Pl} {n i : Nat} (hl : l.length = n) (hM : M.length = n) (hi : n ≤ i + i + 1) (h : ∀ k, k < n → M[k]? = if k < i ∨ n - 1 - k < i then l[n - 1 - k]? else l[k]?) : M = l.reverse := by
  apply List.ext_getElem?
  intro k
  by_cases hk : k < n
  · rw [h k hk, List.getElem?_reverse (by omega), hl]
    split
    · rfl
    · rename_i h1
      rw [show n - 1 - k = k by omega]
  · rw [List.getElem?_eq_none (by omega), List.getElem?_eq_none (by simp; omega)]
set_option maxHeartbeats 4000000 in
set_option maxRecDepth 100000 in
theorem reverse_s {B cap n : Nat} {l : List Pl} (hl : l.length = n) (hn1 : 1 ≤ n) (hn : n ≤ 1000000) {R : List (Nat × List Value)} {w W : World} (h : PzAt B l R w W) :
    Calls Tryz.prog 57 #[.slice (some ⟨B, 0, none⟩) n cap] W fun e W' => e = .returned (.tuple #[]) ∧ PzAt B l.reverse R w W' := by
  have HL := Lib.hid hl
  have H0 := Lib.hid h
  clear h hl
  go_enter Tryz.func57, Tryz.ntmps57
  go_wp2
  go_loopw [2, 3] (fun v2 v3 wr => ∃ (i : Nat) (M : List Pl), i ≤ n ∧ v2 = .int .i64 (i : Int) ∧ v3 = .int .i64 ((n : Int) - 1 - (i : Int)) ∧ M.length = n ∧ PzAt B M R w wr ∧ ∀ k, k < n → M[k]? = if k < i ∨ n - 1 - k < i then l[n - 1 - k]? else l[k]?) (fun v2 _ _ => n - (intOf v2).toNat)
  case atStart => exact ⟨0, l, by omega, rfl, by go_num, HL.out, H0.out, fun k hk => by simp⟩
  case round =>
    obtain ⟨i, M, hi, rfl, rfl, hMl, hM, hR⟩ := hrel
    have HMl := Lib.hid hMl
    have HM := Lib.hid hM
    have HR := Lib.hid hR
    clear hMl hM hR
    by_cases hlt : i + i + 1 < n
    · obtain ⟨j, hj⟩ : ∃ j, j = n - 1 - i := ⟨_, rfl⟩
      rw [show (n : Int) - 1 - (i : Int) = (j : Int) by omega]
      have hij : i < j := by omega
      have hjn : j < n := by omega
      obtain ⟨p, hp⟩ : ∃ p, l[i]? = some p := ⟨l[i]'(by have := HL.out; omega), List.getElem?_eq_getElem _⟩
      obtain ⟨q, hq⟩ : ∃ q, l[j]? = some q := ⟨l[j]'(by have := HL.out; omega), List.getElem?_eq_getElem _⟩
      have hMi : M[i]? = some p := by rw [HR.out i (by omega), if_neg (by omega), hp]
      have hMj : M[j]? = some q := by rw [HR.out j (by omega), if_neg (by omega), hq]
      have HS := Lib.hid (rev_step HMl.out hj hij hjn hp hq HR.out)
      obtain ⟨c0, c1⟩ := HM.out.ns.row i p hMi
      obtain ⟨d0, d1⟩ := HM.out.ns.row j q hMj
      have f0 := HM.out.ns.fz (i * 2) (by rw [HMl.out]; omega)
      have f1 := HM.out.ns.fz (i * 2 + 1) (by rw [HMl.out]; omega)
      have f2 := HM.out.ns.fz (j * 2) (by rw [HMl.out]; omega)
      have f3 := HM.out.ns.fz (j * 2 + 1) (by rw [HMl.out]; omega)
      have hj2 := Lib.hid hj
      clear hp hq hMi hMj hj
      have i1 : (0 : Int) ≤ (i : Int) := by omega
      have i2 : (i : Int) < (n : Int) := by omega
      have j1 : (0 : Int) ≤ (j : Int) := by omega
      have j2 : (j : Int) < (n : Int) := by omega
      have ij : (i : Int) < (j : Int) := by omega
      have hw1 : IntKind.i64.wrap ((i : Int) + 1) = (i : Int) + 1 := IntWalk.i64_in _ (by omega)
      have hw2 : IntKind.i64.wrap ((j : Int) - 1) = (j : Int) - 1 := IntWalk.i64_in _ (by omega)
      go_wp2
      go_region
      all_goals
        go_wp2
        have H2 := ((HM.out.set (k := i) (by rw [HMl.out]; omega) q).set (k := j) (by rw [List.length_set, HMl.out]; omega) p).drew
        refine ⟨⟨i + 1, (M.set i q).set j p, by omega, by go_num, ?_, by rw [List.length_set, List.length_set, HMl.out], H2, HS.out⟩, by simp only [intOf]; omega⟩
        have := hj2.out
        congr 1
        omega
    · have HE := Lib.hid (rev_done HL.out HMl.out (by omega) HR.out)
      have hlt2 : decide ((i : Int) < (n : Int) - 1 - (i : Int)) = false := decide_eq_false (by omega)
      go_wp2
      go_end0
      rw [← HE.out]
      exact ⟨rfl, HM.out⟩
end Go.Proofs.YtgngepbemgbbeaaGreatDoor

namespace Go.Proofs.YtgngepbemgbbeaaGreatDoor
open Go.RowKit Go.Shelf Go.Sort
attribute [local go_sem] Oper.semAt_some

def lenV : Value → Nat
  | .slice _ m _ => m
  | _ => 0
theorem popL_len (ok : Pl → Pl → Pl → Bool) (x : Pl) : ∀ r : List Pl, (popL ok x r).length ≤ r.length
  | [] => Nat.le_refl _
  | [_] => Nat.le_refl _
  | b :: a :: l => by
    unfold popL
    split
    · exact Nat.le_refl _
    · have := popL_len ok x (a :: l)
      simp only [List.length_cons] at this ⊢
      omega
theorem popL_mem (ok : Pl → Pl → Pl → Bool) (x : Pl) : ∀ (r : List Pl) (q : Pl), q ∈ popL ok x r → q ∈ r
  | [], _, h => h
  | [_], _, h => h
  | b :: a :: l, q, h => by
    unfold popL at h
    split at h
    · exact h
    · exact List.mem_cons_of_mem _ (popL_mem ok x (a :: l) q h)
theorem chainR_succ {ok : Pl → Pl → Pl → Bool} {l : List Pl} {k : Nat} {x : Pl} (hx : l[k]? = some x) : chainR ok (l.take (k + 1)) = x :: popL ok x (chainR ok (l.take k)) := by
  unfold chainR
  rw [List.take_add_one, hx, List.foldl_append]
  rfl
theorem chainR_len (ok : Pl → Pl → Pl → Bool) (l : List Pl) (k : Nat) (hk : k ≤ l.length) : (chainR ok (l.take k)).length ≤ k := by
  induction k with
  | zero => simp [chainR]
  | succ k ih =>
    rw [chainR_succ (List.getElem?_eq_getElem (by omega))]
    have h1 := popL_len ok l[k] (chainR ok (l.take k))
    have h2 := ih (by omega)
    simp only [List.length_cons]
    omega
theorem chainR_mem (ok : Pl → Pl → Pl → Bool) (l : List Pl) (k : Nat) (hk : k ≤ l.length) : ∀ q ∈ chainR ok (l.take k), q ∈ l := by
  induction k with
  | zero => intro q hq; simp [chainR] at hq
  | succ k ih =>
    intro q hq
    rw [chainR_succ (List.getElem?_eq_getElem (by omega))] at hq
    rcases List.mem_cons.1 hq with rfl | hq
    · exact List.getElem_mem _
    · exact ih (by omega) q (popL_mem ok _ _ q hq)
/-- A slice of places, the last one first in r. -/
theorem OzAt.pop {e : TypeId} {g c n : Nat} {b a : Pl} {r : List Pl} {R : List (Nat × List Value)} {w W : World} (h : OzAt e (.slice (some ⟨g, 0, none⟩) (n + 2) c) (n + 2) (plC (b :: a :: r).reverse) R w W) :
    OzAt e (.slice (some ⟨g, 0, none⟩) (n + 1) c) (n + 1) (plC (a :: r).reverse) R w W := by
  refine ⟨h.az, ?_, h.ne⟩
  have e1 : plC (b :: a :: r).reverse = plC (a :: r).reverse ++ plC [b] := by rw [List.reverse_cons, plC_append]
  have h1 := h.own.1
  rw [e1, List.length_append, plC_length, plC_length, List.length_reverse] at h1
  simp only [List.length_cons, List.length_nil] at h1
  refine ⟨by rw [plC_length, List.length_reverse]; simp only [List.length_cons]; omega, ?_⟩
  rcases h.own.2 with ⟨hv, _⟩ | ⟨g', cap, cur, hv, hb, hc, hn, hm, hs, ht⟩
  · cases hv
  · injection hv with hv1 hv2 hv3
    injection hv1 with hv1
    injection hv1 with hv1
    subst hv1
    subst hv3
    refine .inr ⟨g, c, cur, rfl, hb, hc, by omega, hm, hs, ?_⟩
    rw [e1] at ht
    have h2 : (n + 1) * 2 = (plC (a :: r).reverse).length := by rw [plC_length, List.length_reverse]; simp only [List.length_cons]; omega
    have h3 : (cur.toList.take ((n + 2) * 2)).take ((n + 1) * 2) = cur.toList.take ((n + 1) * 2) := by rw [List.take_take]; congr 1; omega
    rw [← h3, ht, h2, List.take_left]
theorem OzAt.cap_le {e : TypeId} {g c n : Nat} {xs : List Value} {R : List (Nat × List Value)} {w W : World} (h : OzAt e (.slice (some ⟨g, 0, none⟩) n c) n xs R w W) : n ≤ c ∧ c ≤ 9223372036854775807 := by
  rcases h.own.2 with ⟨hv, _⟩ | ⟨g', cap, cur, hv, hb, hc, hn, hm, hs, ht⟩
  · cases hv
  · injection hv with hv1 hv2 hv3
    subst hv3
    unfold maxLen at hm
    omega
theorem chainR_end {ok : Pl → Pl → Pl → Bool} {e : TypeId} {v : Value} {l r : List Pl} {k n : Nat} {x : Pl} {X : Nat} {xs : List Value} {R : List (Nat × List Value)} {w W : World} (hx : l[k]? = some x) (hn : r.length = n)
    (hp : r = popL ok x (chainR ok (l.take k))) (h : OzAt e v (n + 1) (plC r.reverse ++ [.int .i64 x.x, .int .i64 x.y]) ((X, xs) :: R) w W) :
    (chainR ok (l.take (k + 1))).length = n + 1 ∧ OzAt e v (n + 1) (plC (chainR ok (l.take (k + 1))).reverse) R w W := by
  rw [chainR_succ hx, ← hp]
  refine ⟨by rw [List.length_cons, hn], ?_⟩
  rw [List.reverse_cons, plC_append]
  exact h.sub (fun u hu => List.mem_cons_of_mem _ hu)
set_option maxHeartbeats 8000000 in
set_option maxRecDepth 100000 in
theorem chain_s {B cap n : Nat} {l : List Pl} (hl : l.length = n) (hn : n ≤ 1000) (hv : ∀ p ∈ l, vP p = true) {W : World} (h : PsAt B l W) :
    Calls Tryz.prog 56 #[.slice (some ⟨B, 0, none⟩) n cap, .func (.func 54) #[] #[]] W fun e W' => ∃ v, e = .returned v ∧ Below W.heap.size W W' ∧ OzAt 26 v (chainR leftP l).length (plC (chainL leftP l)) [] W W' := by
  have HL := Lib.hid hl
  have HV := Lib.hid hv
  have HP := Lib.hid h
  have H0 := Lib.hid (show OzAt 26 (.slice none 0 0) 0 (plC (chainR leftP (l.take 0)).reverse) [] W W from OzAt.nil (AzAt.start W) _)
  clear h hl hv
  obtain ⟨i0, hi0, hz0, hz1, hz2⟩ := info_parts info_place
  have hB : B < W.heap.size := HP.out.sz
  go_enter Tryz.func56, Tryz.ntmps56
  go_wp2
  go_loopw [5, 10] (fun v5 v10 wr => ∃ (k : Nat) (v : Value), k ≤ n ∧ v10 = .int .i64 (k : Int) ∧ v = v5 ∧ ((v = .slice none 0 0 ∧ k = 0) ∨ ∃ g c m, v = .slice (some ⟨g, 0, none⟩) m c) ∧ OzAt 26 v (chainR leftP (l.take k)).length (plC (chainR leftP (l.take k)).reverse) [] W wr) (fun _ v10 _ => n - (intOf v10).toNat)
  case atStart => exact ⟨0, _, by omega, rfl, rfl, .inl ⟨rfl, rfl⟩, H0.out⟩
  case round =>
    obtain ⟨k, v, hk, rfl, rfl, hvk, hZ⟩ := hrel
    have HZ := Lib.hid hZ
    clear hZ
    by_cases hlt : k < n
    · obtain ⟨x, hx⟩ : ∃ x, l[k]? = some x := ⟨l[k]'(by have := HL.out; omega), List.getElem?_eq_getElem _⟩
      obtain ⟨c0, c1⟩ := (HP.out.below HZ.out.az.bw).row k x hx
      have sB : B < wr.heap.size := Nat.lt_of_lt_of_le hB HZ.out.az.bw.size
      have vx := HV.out x (List.mem_of_getElem? hx)
      have HX := Lib.hid (And.intro hx vx)
      have hlen := chainR_len leftP l k (by have := HL.out; omega)
      have HMEM := Lib.hid (chainR_mem leftP l k (by have := HL.out; omega))
      have HZ1 := Lib.hid (HZ.out.push [.int .i64 x.x, .int .i64 x.y] 26)
      obtain ⟨r0, hr0⟩ : ∃ r0, r0 = chainR leftP (l.take k) := ⟨_, rfl⟩
      rw [← hr0] at hlen HMEM HZ1
      have HR0 := Lib.hid hr0
      clear hx vx hr0
      have hX : ∃ X, X = wr.heap.size := ⟨_, rfl⟩
      obtain ⟨X, hX⟩ := hX
      rw [← hX] at HZ1
      rcases hvk with ⟨rfl, rfl⟩ | ⟨g, c, m, rfl⟩
      · obtain rfl : r0 = [] := by rw [HR0.out]; rfl
        go_wp2
        rw [← hX]
        generalize wr.alloc (.cells #[.int .i64 x.x, .int .i64 x.y] 26) = wA at HZ1 ⊢
        clear hX HZ c0 c1
        go_loopw [5] (fun v5 wq => v5 = .slice none 0 0 ∧ OzAt 26 (.slice none 0 0) 0 (plC ([] : List Pl).reverse) [(X, [.int .i64 x.x, .int .i64 x.y])] W wq) (fun _ _ => 0)
        case atStart => exact ⟨rfl, HZ1.out⟩
        case round =>
          obtain ⟨rfl, hq⟩ := hrel
          have HQ := Lib.hid hq
          clear hq
          have cl := True.intro
          go_wp2
          refine wp_region_quiet_below (by kernel_rfl) (by kernel_rfl) ?_
          repeat (go_big_quiet_step (first | with_reducible exact cl _ _))
          refine wpQuiet_nil ?_
          intro W1 hw'
          have hb1 : Below wr.heap.size wr W1 := by obtain ⟨⟨dq, osq⟩, hw''⟩ := hw'; rw [hw'']; exact below_regrown wr dq osq
          have H1 := Lib.hid (HQ.out.below hb1)
          have hs1 := H1.out.az.bw.size
          clear hw' hb1 
          have y0 := (H1.out.az.row (X, [.int .i64 x.x, .int .i64 x.y]) (by simp)).row 0 _ rfl
          have y1 := (H1.out.az.row (X, [.int .i64 x.x, .int .i64 x.y]) (by simp)).row 1 _ rfl
          go_wp2_with (first
            | (at_builtin; refine wpList_append_own_at _ rfl _ _ 27 rfl W.heap.size 26 i0 (.agg #[.int .i64 0, .int .i64 0]) 2 16 Tryz.underlying27 hi0 hz0 hz1 hz2 rfl (by decide) (.slice none 0 0) 0 (plC ([] : List Pl).reverse) rfl (H1.out.own.alloc _) ⟨W1.heap.size, 0, none⟩ 1 1 [.int .i64 x.x, .int .i64 x.y] rfl rfl (two_new _ _ _ _) (by simp [Value.oneCell']) (by unfold maxLen; omega) (by omega) (by simp; omega) ?_; intro v' w7 hown' hgrow _ hat; have HZ7 := Lib.hid (H1.out.append hown' hgrow hat); clear hown' hgrow hat)
            | fail)
          obtain ⟨g7, c7, rfl⟩ := ownsRow_succ HZ7.out.own
          have he := chainR_end HX.out.1 (r := []) rfl (by rw [← HR0.out]; rfl) HZ7.out
          refine ⟨⟨1, .slice (some ⟨g7, 0, none⟩) (0 + 1) c7, by omega, by go_num, rfl, .inr ⟨g7, c7, 0 + 1, rfl⟩, ?_⟩, by simp only [intOf]; omega⟩
          have h1 := he.1
          have h2 := he.2
          rw [Nat.zero_add] at h1 h2
          rw [h1]
          exact h2
      · obtain rfl : r0.length = m := (HZ1.out.blk rfl).2.2.1
        go_wp2
        rw [← hX]
        generalize wr.alloc (.cells #[.int .i64 x.x, .int .i64 x.y] 26) = wA at HZ1 ⊢
        clear hX HZ c0 c1
        go_loopw [5] (fun v5 wq => ∃ (r : List Pl) (m : Nat), v5 = .slice (some ⟨g, 0, none⟩) m c ∧ r.length = m ∧ OzAt 26 (.slice (some ⟨g, 0, none⟩) m c) m (plC r.reverse) [(X, [.int .i64 x.x, .int .i64 x.y])] W wq ∧ popL leftP x r = popL leftP x r0 ∧ (∀ q ∈ r, q ∈ l) ∧ m ≤ k) (fun v5 _ => lenV v5)
        case atStart => exact ⟨r0, r0.length, rfl, rfl, HZ1.out, rfl, HMEM.out, hlen⟩
        case round =>
          obtain ⟨r, m, rfl, hrm, hq, hpop, hmem, hmk⟩ := hrel
          have HRM := Lib.hid hrm
          have HQ := Lib.hid hq
          have HPOP := Lib.hid hpop
          have HME := Lib.hid hmem
          clear hrm hq hpop hmem
          by_cases hm1 : m ≤ 1
          · have HP2 := Lib.hid (show r = popL leftP x (chainR leftP (l.take k)) from by
              rw [← HR0.out, ← HPOP.out]
              have := HRM.out
              match r, this with
              | [], _ => rfl
              | [_], _ => rfl
              | _ :: _ :: _, h => simp at h; omega)
            have cl := True.intro
            have hg1 : decide ((1 : Int) < (m : Int)) = false := decide_eq_false (by omega)
            have hg2 : decide (1 < m) = false := decide_eq_false (by omega)
            go_wp2
            refine wp_region_quiet_below (by kernel_rfl) (by kernel_rfl) ?_
            repeat (go_big_quiet_step (first | with_reducible exact cl _ _))
            refine wpQuiet_nil ?_
            intro W1 hw'
            have hb1 : Below wr.heap.size wr W1 := by obtain ⟨⟨dq, osq⟩, hw''⟩ := hw'; rw [hw'']; exact below_regrown wr dq osq
            have H1 := Lib.hid (HQ.out.below hb1)
            have hs1 := H1.out.az.bw.size
            clear hw' hb1 
            have y0 := (H1.out.az.row (X, [.int .i64 x.x, .int .i64 x.y]) (by simp)).row 0 _ rfl
            have y1 := (H1.out.az.row (X, [.int .i64 x.x, .int .i64 x.y]) (by simp)).row 1 _ rfl
            go_wp2_with (first
              | (at_builtin; refine wpList_append_own_at _ rfl _ _ 27 rfl W.heap.size 26 i0 (.agg #[.int .i64 0, .int .i64 0]) 2 16 Tryz.underlying27 hi0 hz0 hz1 hz2 rfl (by decide) (.slice (some ⟨g, 0, none⟩) m c) m (plC r.reverse) rfl (H1.out.own.alloc _) ⟨W1.heap.size, 0, none⟩ 1 1 [.int .i64 x.x, .int .i64 x.y] rfl rfl (two_new _ _ _ _) (by simp [Value.oneCell']) (by unfold maxLen; omega) (by omega) (by simp; omega) ?_; intro v' w7 hown' hgrow _ hat; have HZ7 := Lib.hid (H1.out.append hown' hgrow hat); clear hown' hgrow hat)
              | fail)
            obtain ⟨g7, c7, rfl⟩ := ownsRow_succ HZ7.out.own
            have he := chainR_end HX.out.1 HRM.out HP2.out HZ7.out
            refine ⟨⟨k + 1, .slice (some ⟨g7, 0, none⟩) (m + 1) c7, by omega, by go_num, rfl, .inr ⟨g7, c7, m + 1, rfl⟩, ?_⟩, by simp only [intOf]; omega⟩
            rw [he.1]
            exact he.2
          · obtain ⟨mp, rfl⟩ : ∃ mp, m = mp + 2 := ⟨m - 2, by omega⟩
            obtain ⟨b, a, t, rfl⟩ : ∃ b a t, r = b :: a :: t := by
              have := HRM.out
              match r, this with
              | [], h => simp at h
              | [_], h => simp at h
              | b :: a :: t, _ => exact ⟨b, a, t, rfl⟩
            have ht : t.length = mp := by have := HRM.out; simp only [List.length_cons] at this; omega
            have hra : (b :: a :: t).reverse[mp]? = some a := by simp [← ht]
            have hrb : (b :: a :: t).reverse[mp + 1]? = some b := by simp [← ht]
            have va := HV.out a (HME.out a (by simp))
            have vb := HV.out b (HME.out b (by simp))
            have vx := HX.out.2
            have hrow := HQ.out.pz.ns.row
            have a0 := cell_regrown (hrow mp a hra).1
            have a1 := cell_regrown (hrow mp a hra).2
            have b0 := cell_regrown (hrow (mp + 1) b hrb).1
            have b1 := cell_regrown (hrow (mp + 1) b hrb).2
            have x0 := cell_regrown ((HQ.out.az.row (X, [.int .i64 x.x, .int .i64 x.y]) (by simp)).row 0 _ rfl)
            have x1 := cell_regrown ((HQ.out.az.row (X, [.int .i64 x.x, .int .i64 x.y]) (by simp)).row 1 _ rfl)
            have hw1 : IntKind.i64.wrap (mp : Int) = (mp : Int) := IntWalk.i64_in _ (by omega)
            have hw2 : IntKind.i64.wrap ((mp : Int) + 1) = (mp : Int) + 1 := IntWalk.i64_in _ (by omega)
            have hw3 : IntKind.i64.wrap ((mp : Int) + 2 - 1) = (mp : Int) + 1 := by rw [show (mp : Int) + 2 - 1 = (mp : Int) + 1 by omega]; exact hw2
            have hw4 : IntKind.i64.wrap ((mp : Int) + 2 - 2) = (mp : Int) := by rw [show (mp : Int) + 2 - 2 = (mp : Int) by omega]; exact hw1
            have jz : (mp : Int) + 1 < (mp : Int) + 2 := by omega
            have hcap := HQ.out.cap_le
            have hc1 : (mp : Int) + 1 ≤ (c : Int) := by omega
            have hc2 : (mp : Int) + 2 ≤ (c : Int) := by omega
            have jz2 : decide ((1 : Int) < (mp : Int) + 2) = true := decide_eq_true (by omega)
            have jz1 : (mp : Int) < (mp : Int) + 2 := by omega
            have p0 : (0 : Int) ≤ (mp : Int) + 1 := by omega
            have e0 : ((mp : Int) + 1).toNat = mp + 1 := by omega
            have KL := Lib.hid (fun (U : World) => left_s va vb vx U)
            clear hra hrb va vb vx hrow
            cases hlf : leftP a b x with
            | true =>
              rw [hlf] at KL
              have HP2 := Lib.hid (show b :: a :: t = popL leftP x (chainR leftP (l.take k)) from by
                rw [← HR0.out, ← HPOP.out]
                unfold popL
                rw [hlf]
                rfl)
              have cl := fun d os => Calls.regrown_of (d := d) (os := os) (KL.out (grow (redrawn wr d) os))
              go_wp2
              refine wp_region_quiet_below (by kernel_rfl) (by kernel_rfl) ?_
              repeat (go_big_quiet_step (first | with_reducible exact cl _ _))
              refine wpQuiet_nil ?_
              intro W1 hw'
              have hb1 : Below wr.heap.size wr W1 := by obtain ⟨⟨dq, osq⟩, hw''⟩ := hw'; rw [hw'']; exact below_regrown wr dq osq
              have H1 := Lib.hid (HQ.out.below hb1)
              have hs1 := H1.out.az.bw.size
              clear hw' hb1 a0 a1 b0 b1 x0 x1 cl KL
              have y0 := (H1.out.az.row (X, [.int .i64 x.x, .int .i64 x.y]) (by simp)).row 0 _ rfl
              have y1 := (H1.out.az.row (X, [.int .i64 x.x, .int .i64 x.y]) (by simp)).row 1 _ rfl
              go_wp2_with (first
                | (at_builtin; refine wpList_append_own_at _ rfl _ _ 27 rfl W.heap.size 26 i0 (.agg #[.int .i64 0, .int .i64 0]) 2 16 Tryz.underlying27 hi0 hz0 hz1 hz2 rfl (by decide) (.slice (some ⟨g, 0, none⟩) (mp + 2) c) (mp + 2) (plC (b :: a :: t).reverse) rfl (H1.out.own.alloc _) ⟨W1.heap.size, 0, none⟩ 1 1 [.int .i64 x.x, .int .i64 x.y] rfl rfl (two_new _ _ _ _) (by simp [Value.oneCell']) (by unfold maxLen; omega) (by omega) (by simp; omega) ?_; intro v' w7 hown' hgrow _ hat; have HZ7 := Lib.hid (H1.out.append hown' hgrow hat); clear hown' hgrow hat)
                | fail)
              obtain ⟨g7, c7, rfl⟩ := ownsRow_succ HZ7.out.own
              have he := chainR_end HX.out.1 HRM.out HP2.out HZ7.out
              refine ⟨⟨k + 1, .slice (some ⟨g7, 0, none⟩) (mp + 2 + 1) c7, by omega, by go_num, rfl, .inr ⟨g7, c7, mp + 2 + 1, rfl⟩, ?_⟩, by simp only [intOf]; omega⟩
              rw [he.1]
              exact he.2
            | false =>
              rw [hlf] at KL
              have HP2 := Lib.hid (show popL leftP x (a :: t) = popL leftP x r0 from by
                rw [← HPOP.out]
                show _ = popL leftP x (b :: a :: t)
                conv => rhs; unfold popL
                rw [hlf]
                rfl)
              have cl := fun d os => Calls.regrown_of (d := d) (os := os) (KL.out (grow (redrawn wr d) os))
              go_wp2
              refine wp_region_quiet_below (by kernel_rfl) (by kernel_rfl) ?_
              repeat (go_big_quiet_step (first | with_reducible exact cl _ _))
              refine wpQuiet_nil ?_
              intro W1 hw'
              have hb1 : Below wr.heap.size wr W1 := by obtain ⟨⟨dq, osq⟩, hw''⟩ := hw'; rw [hw'']; exact below_regrown wr dq osq
              have H1 := Lib.hid (HQ.out.below hb1)
              have hs1 := H1.out.az.bw.size
              clear hw' hb1 a0 a1 b0 b1 x0 x1 cl KL
              go_wp2
              exact ⟨⟨a :: t, mp + 1, rfl, by simp only [List.length_cons]; omega, H1.out.pop, HP2.out, fun q hq => HME.out q (List.mem_cons_of_mem _ hq), by omega⟩, by simp only [lenV]; omega⟩
    · obtain rfl : k = n := by omega
      have HE := Lib.hid (show OzAt 26 v (chainR leftP l).length (plC (chainL leftP l)) [] W wr from by
        have := HZ.out
        rw [List.take_of_length_le (by rw [HL.out]; exact Nat.le_refl _)] at this
        exact this)
      clear HZ
      go_wp2
      go_ret
      exact ⟨v, rfl, HE.out.az.bw, HE.out⟩
end Go.Proofs.YtgngepbemgbbeaaGreatDoor

namespace Go.Proofs.YtgngepbemgbbeaaGreatDoor
open Go.RowKit Go.Shelf Go.Sort
attribute [local go_sem] Oper.semAt_some

theorem own_slice {e : TypeId} {g c n n' : Nat} {v : Value} {xs : List Value} {R : List (Nat × List Value)} {w W : World} {P : Prop} (h : OzAt e v n xs R w W) (hn : v = .slice none 0 0 ↔ (.slice (some ⟨g, 0, none⟩) n' c : Value) = .slice none 0 0 ∧ P) : ∃ g c, v = .slice (some ⟨g, 0, none⟩) n c := by
  rcases h.own.2 with ⟨rfl, _⟩ | ⟨g', cap, cur, hv, _⟩
  · have := (hn.1 rfl).1
    cases this
  · exact ⟨g', cap, hv⟩
theorem zeroCells_size (z : Array Value) (n : Nat) : (Builtin.zeroCells z n).size = n * z.size := by
  simp [Builtin.zeroCells]
set_option maxHeartbeats 2000000 in
set_option maxRecDepth 100000 in
theorem grow_s {n : Nat} (h1 : 1 ≤ n) (hn : n ≤ 1000000) {R : List (Nat × List Value)} {w W : World} (hA : AzAt R w W) :
    Calls Tryz.prog 90 #[.slice none 0 0, .int .i64 n] W fun e W' => ∃ g c, e = .returned (.slice (some ⟨g, 0, none⟩) 0 c) ∧ OzAt 26 (.slice (some ⟨g, 0, none⟩) 0 c) 0 [] R w W' := by
  obtain ⟨i0, hi0, hz0, hz1, hz2⟩ := info_parts info_place
  have hold : (Builtin.firstCells i0.size 0 (.slice none 0 0)).run Tryz.prog W.drew = .ok #[] W.drew := run_firstCells_none W.drew i0.size 0 0 0
  have hrz : ∀ ty, (Builtin.append_ #[27, 3] ty #[.slice none 0 0, .int .i64 (n : Int)]).run Tryz.prog W =
      .ok (.slice (some ⟨W.heap.size, 0, none⟩) n (grownCap W n 0 26)) (W.drew.alloc (.cells (Builtin.zeroCells (Value.agg #[.int .i64 0, .int .i64 0]).cells n ++ Builtin.zeroCells (Value.agg #[.int .i64 0, .int .i64 0]).cells (grownCap W n 0 26 - n)) 26)) := fun ty => by
    have h := Lib.run_append_grow_zeros W 27 3 ty 26 i0 _ .i64 .i64 Tryz.underlying27 Tryz.underlying3 hi0 hz0 none 0 0 [] hold n (by omega) (by omega) (by omega) (by omega) (by rw [hz2]; omega) (growslice_fits (by omega) (by rw [hz2]; omega))
    simpa using h
  have hGn : n ≤ grownCap W n 0 26 := grownCap_ge W _ _ _
  have hG63 : grownCap W n 0 26 ≤ maxLen := grownCap_le_maxLen W n 0 26 (by unfold maxLen; omega)
  obtain ⟨G, hG⟩ : ∃ G, G = grownCap W n 0 26 := ⟨_, rfl⟩
  rw [← hG] at hrz hGn hG63
  obtain ⟨cur, hcur⟩ : ∃ cur, cur = Builtin.zeroCells (Value.agg #[.int .i64 0, .int .i64 0]).cells n ++ Builtin.zeroCells (Value.agg #[.int .i64 0, .int .i64 0]).cells (G - n) := ⟨_, rfl⟩
  have hcs : cur.size = G * 2 := by
    rw [hcur, Array.size_append, zeroCells_size, zeroCells_size]
    show n * 2 + (G - n) * 2 = G * 2
    omega
  rw [← hcur] at hrz
  have H0 := Lib.hid (show OzAt 26 (.slice (some ⟨W.heap.size, 0, none⟩) 0 G) 0 [] R w (W.drew.alloc (.cells cur 26)) from
    ⟨(hA.drew.al _), ⟨rfl, .inr ⟨W.heap.size, G, cur, rfl, hA.bw.size, World.alloc_heap_new W.drew _, by omega, hG63, hcs, by simp⟩⟩, fun x hx hk => by
      have := (hA.row x hx).sz
      have hk' : W.heap.size = x.1 := Option.some.inj hk
      omega⟩)
  have hG2 : G ≤ 9223372036854775807 := by unfold maxLen at hG63; exact hG63
  clear hcur hcs hold hG hA hG63
  go_enter Tryz.func90, Tryz.ntmps90
  go_wp2_with (at_builtin; refine Lib.wpList_append_run _ rfl _ _ _ _ rfl _ _ rfl rfl _ _ (hrz _) ?_)
  all_goals
    go_ret
    exact ⟨_, _, rfl, H0.out⟩
set_option maxHeartbeats 4000000 in
set_option maxRecDepth 100000 in
theorem concat_s {S g1 g2 m1 m2 c1 c2 cs : Nat} {l1 l2 : List Pl} (h1 : l1.length = m1) (h2 : l2.length = m2) (hn : m1 ≤ 1000 ∧ m2 ≤ 1000 ∧ 1 ≤ m1 + m2) {w W : World} (hA : AzAt [(S, [.slice (some ⟨g1, 0, none⟩) m1 c1, .slice (some ⟨g2, 0, none⟩) m2 c2]), (g1, plC l1), (g2, plC l2)] w W) :
    Calls Tryz.prog 58 #[.slice (some ⟨S, 0, none⟩) 2 cs] W fun e W' => ∃ g c, e = .returned (.slice (some ⟨g, 0, none⟩) (m1 + m2) c) ∧ OzAt 26 (.slice (some ⟨g, 0, none⟩) (m1 + m2) c) (m1 + m2) (plC (l1 ++ l2)) [(S, [.slice (some ⟨g1, 0, none⟩) m1 c1, .slice (some ⟨g2, 0, none⟩) m2 c2]), (g1, plC l1), (g2, plC l2)] w W' := by
  obtain ⟨i0, hi0, hz0, hz1, hz2⟩ := info_parts info_place
  have HL := Lib.hid (And.intro h1 h2)
  have HG := Lib.hid (grow_s (n := m1 + m2) (by omega) (by omega) hA)
  rw [Int.natCast_add] at HG
  have s0 := (hA.row (S, [.slice (some ⟨g1, 0, none⟩) m1 c1, .slice (some ⟨g2, 0, none⟩) m2 c2]) (by simp)).row 0 _ rfl
  have s1 := (hA.row (S, [.slice (some ⟨g1, 0, none⟩) m1 c1, .slice (some ⟨g2, 0, none⟩) m2 c2]) (by simp)).row 1 _ rfl
  have hS := (hA.row (S, [.slice (some ⟨g1, 0, none⟩) m1 c1, .slice (some ⟨g2, 0, none⟩) m2 c2]) (by simp)).sz
  clear hA h1 h2
  have hm1 : IntKind.i64.wrap (m1 : Int) = (m1 : Int) := IntWalk.i64_in _ (by omega)
  have hm2 : IntKind.i64.wrap ((m1 : Int) + (m2 : Int)) = (m1 : Int) + (m2 : Int) := IntWalk.i64_in _ (by omega)
  go_enter Tryz.func58, Tryz.ntmps58
  go_wp2
  go_loopw [3, 11] (fun v3 v11 wr => ∃ k : Nat, k ≤ 2 ∧ v11 = .int .i64 (k : Int) ∧ wr = W ∧ v3 = .int .i64 (if k = 0 then 0 else if k = 1 then (m1 : Int) else (m1 : Int) + (m2 : Int))) (fun _ v11 _ => 2 - (intOf v11).toNat)
  case atStart => exact ⟨0, by omega, rfl, rfl, rfl⟩
  case round =>
    obtain ⟨k, hk, rfl, rfl, rfl⟩ := hrel
    rcases (by omega : k = 0 ∨ k = 1 ∨ k = 2) with rfl | rfl | rfl
    · rw [if_pos rfl]
      go_wp2
      exact ⟨⟨1, by omega, by go_num, trivial, by simp⟩, by simp only [intOf]; omega⟩
    · rw [if_neg (by decide), if_pos rfl]
      go_wp2
      exact ⟨⟨2, by omega, by go_num, trivial, by simp⟩, by simp only [intOf]; omega⟩
    · rw [if_neg (by decide), if_neg (by decide)]
      go_wp2_with (first
        | (go_at_call 90; (with_reducible refine (HG.out).mono ?_); rintro e w1 ⟨g, c, rfl, hz⟩; have HZ0 := Lib.hid hz; clear hz)
        | fail)
      clear HG s0 s1 hS
      go_loopw [6, 27] (fun v6 v27 wr => ∃ k g c : Nat, v27 = .int .i64 (k : Int) ∧ ((k = 0 ∧ v6 = .slice (some ⟨g, 0, none⟩) 0 c ∧ OzAt 26 (.slice (some ⟨g, 0, none⟩) 0 c) 0 (plC []) [(S, [.slice (some ⟨g1, 0, none⟩) m1 c1, .slice (some ⟨g2, 0, none⟩) m2 c2]), (g1, plC l1), (g2, plC l2)] w wr) ∨ (k = 1 ∧ v6 = .slice (some ⟨g, 0, none⟩) m1 c ∧ OzAt 26 (.slice (some ⟨g, 0, none⟩) m1 c) m1 (plC l1) [(S, [.slice (some ⟨g1, 0, none⟩) m1 c1, .slice (some ⟨g2, 0, none⟩) m2 c2]), (g1, plC l1), (g2, plC l2)] w wr) ∨ (k = 2 ∧ v6 = .slice (some ⟨g, 0, none⟩) (m1 + m2) c ∧ OzAt 26 (.slice (some ⟨g, 0, none⟩) (m1 + m2) c) (m1 + m2) (plC (l1 ++ l2)) [(S, [.slice (some ⟨g1, 0, none⟩) m1 c1, .slice (some ⟨g2, 0, none⟩) m2 c2]), (g1, plC l1), (g2, plC l2)] w wr))) (fun _ v27 _ => 2 - (intOf v27).toNat)
      case atStart => exact ⟨0, g, c, rfl, .inl ⟨rfl, rfl, HZ0.out⟩⟩
      case round =>
        obtain ⟨k, g, c, rfl, hrel⟩ := hrel
        rcases hrel with ⟨rfl, rfl, hz⟩ | ⟨rfl, rfl, hz⟩ | ⟨rfl, rfl, hz⟩
        all_goals
          have HZ := Lib.hid hz
          clear hz
        · have y0 := (HZ.out.az.row (S, [.slice (some ⟨g1, 0, none⟩) m1 c1, .slice (some ⟨g2, 0, none⟩) m2 c2]) (by simp)).row 0 _ rfl
          have hyS := (HZ.out.az.row (S, [.slice (some ⟨g1, 0, none⟩) m1 c1, .slice (some ⟨g2, 0, none⟩) m2 c2]) (by simp)).sz
          have HN := Lib.hid (PsAt.of (HZ.out.az.row (g1, plC l1) (by simp)))
          have hb0 := HZ.out.az.bw.size
          go_wp2_with (first
            | (at_builtin; refine wpList_append_own_at _ rfl _ _ 27 rfl w.heap.size 26 i0 (.agg #[.int .i64 0, .int .i64 0]) 2 16 Tryz.underlying27 hi0 hz0 hz1 hz2 rfl (by decide) (.slice (some ⟨g, 0, none⟩) 0 c) 0 (plC []) rfl HZ.out.own ⟨g1, 0, none⟩ m1 c1 (plC l1) rfl (by rw [plC_length, HL.out.1]) (ps_news HN.out) (plC_one l1) (by unfold maxLen; omega) (by omega) hb0 ?_; intro v' w7 hown' hgrow hnil hat; have HZ7 := Lib.hid (HZ.out.grown hown' hgrow hat); clear hown' hgrow hat)
            | fail)
          have h7 := HZ7.out
          rw [Nat.zero_add] at h7
          obtain ⟨g7, c7, e7⟩ := own_slice h7 hnil
          subst e7
          exact ⟨⟨1, g7, c7, by go_num, .inr (.inl ⟨rfl, rfl, h7⟩)⟩, by simp only [intOf]; omega⟩
        · have y0 := (HZ.out.az.row (S, [.slice (some ⟨g1, 0, none⟩) m1 c1, .slice (some ⟨g2, 0, none⟩) m2 c2]) (by simp)).row 1 _ rfl
          have hyS := (HZ.out.az.row (S, [.slice (some ⟨g1, 0, none⟩) m1 c1, .slice (some ⟨g2, 0, none⟩) m2 c2]) (by simp)).sz
          have HN := Lib.hid (PsAt.of (HZ.out.az.row (g2, plC l2) (by simp)))
          have hb0 := HZ.out.az.bw.size
          go_wp2_with (first
            | (at_builtin; refine wpList_append_own_at _ rfl _ _ 27 rfl w.heap.size 26 i0 (.agg #[.int .i64 0, .int .i64 0]) 2 16 Tryz.underlying27 hi0 hz0 hz1 hz2 rfl (by decide) (.slice (some ⟨g, 0, none⟩) m1 c) m1 (plC l1) rfl HZ.out.own ⟨g2, 0, none⟩ m2 c2 (plC l2) rfl (by rw [plC_length, HL.out.2]) (ps_news HN.out) (plC_one l2) (by unfold maxLen; omega) (by omega) hb0 ?_; intro v' w7 hown' hgrow hnil hat; have HZ7 := Lib.hid (HZ.out.grown hown' hgrow hat); clear hown' hgrow hat)
            | fail)
          have h7 := HZ7.out
          rw [← plC_append] at h7
          obtain ⟨g7, c7, e7⟩ := own_slice h7 hnil
          subst e7
          exact ⟨⟨2, g7, c7, by go_num, .inr (.inr ⟨rfl, rfl, h7⟩)⟩, by simp only [intOf]; omega⟩
        · go_wp2
          go_ret
          exact ⟨g, c, rfl, HZ.out⟩
end Go.Proofs.YtgngepbemgbbeaaGreatDoor

