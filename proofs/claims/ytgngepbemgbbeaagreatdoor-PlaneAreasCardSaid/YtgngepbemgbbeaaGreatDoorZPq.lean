/-
  Package plane: slices of places: Clone, Equal, Compact, Reverse, and the test of a turn to the left.
-/
import Derived.Test.YtgngepbemgbbeaaGreatDoorZPz
import Derived.Test.YtgngepbemgbbeaaGreatDoorZPl1
namespace Go.Proofs.YtgngepbemgbbeaaGreatDoor
open Go.RowKit Go.Shelf
attribute [local go_sem] Oper.semAt_some

theorem OzAt.grown {e : TypeId} {v v' : Value} {n n' : Nat} {xs xs' : List Value} {R : List (Nat × List Value)} {w W1 w' : World} (h1 : OzAt e v n xs R w W1) (hown : w'.ownsRow w.heap.size e 2 v' n' xs') (hg : W1.grownBy w' v.ownBlock)
    (hv : v'.ownBlock = v.ownBlock ∨ v'.ownBlock = some W1.heap.size) : OzAt e v' n' xs' R w w' := by
  refine ⟨⟨h1.az.bw.grown hg h1.az.bw.size (fun k hk => (ownBlock_lt h1.own k hk).2), fun x hx => ?_⟩, hown, fun x hx => ?_⟩
  · exact (h1.az.row x hx).of_block (hg.block x.1 (h1.az.row x hx).sz (fun hk => h1.ne x hx hk.symm)) hg.size
  · rcases hv with hv | hv
    · rw [hv]; exact h1.ne x hx
    · rw [hv]
      intro hk
      have := (h1.az.row x hx).sz
      have hk' := Option.some.inj hk
      omega
theorem plC_length (l : List Pl) : (plC l).length = l.length * 2 := by
  induction l with
  | nil => rfl
  | cons p l ih => simp only [plC, List.length_cons, ih]; omega
theorem plC_append (l k : List Pl) : plC (l ++ k) = plC l ++ plC k := by
  induction l with
  | nil => rfl
  | cons p l ih => simp only [List.cons_append, plC, ih]
theorem plC_one (l : List Pl) : ∀ u ∈ plC l, u.oneCell' = true := by
  induction l with
  | nil => intro u hu; cases hu
  | cons p l ih =>
    intro u hu
    rcases List.mem_cons.1 hu with rfl | hu
    · rfl
    · rcases List.mem_cons.1 hu with rfl | hu
      · rfl
      · exact ih u hu
/-- The cells of places in a row, one by one. -/
theorem plC_cells {l : List Pl} {f : Nat → Option Value} (h : ∀ (k : Nat) (p : Pl), l[k]? = some p → f (k * 2) = some (.int .i64 p.x) ∧ f (k * 2 + 1) = some (.int .i64 p.y)) : ∀ (i : Nat) (v : Value), (plC l)[i]? = some v → f i = some v := by
  intro i v hv
  have hi : i < l.length * 2 := by
    rcases Nat.lt_or_ge i (l.length * 2) with h | h
    · exact h
    · rw [List.getElem?_eq_none (by rw [plC_length]; exact h)] at hv; cases hv
  obtain ⟨k, hk⟩ : ∃ k, i = k * 2 ∨ i = k * 2 + 1 := ⟨i / 2, by omega⟩
  obtain ⟨p, hp⟩ : ∃ p, l[k]? = some p := ⟨l[k]'(by omega), List.getElem?_eq_getElem _⟩
  obtain ⟨h1, h2⟩ := h k p hp
  obtain ⟨g1, g2⟩ := plC_at hp
  rcases hk with rfl | rfl
  · rw [hv] at g1; rw [h1]; exact g1.symm
  · rw [hv] at g2; rw [h2]; exact g2.symm
theorem OzAt.pz {e : TypeId} {B m cap : Nat} {l : List Pl} {R : List (Nat × List Value)} {w W : World} (h : OzAt e (.slice (some ⟨B, 0, none⟩) m cap) m (plC l) R w W) : PzAt B l R w W :=
  ⟨h.az, ⟨fun _ _ hx => ⟨h.cell rfl (plC_at hx).1, h.cell rfl (plC_at hx).2⟩, fun o _ => h.fz rfl o, (h.blk rfl).1⟩, (h.blk rfl).2.1, (h.blk rfl).2.2.2⟩
theorem OzAt.ar {e : TypeId} {B m cap : Nat} {xs : List Value} {R : List (Nat × List Value)} {w W : World} (h : OzAt e (.slice (some ⟨B, 0, none⟩) m cap) m xs R w W) : AzAt ((B, xs) :: R) w W :=
  h.az.cons ⟨fun _ _ hx => h.cell rfl hx, fun o _ => h.fz rfl o, (h.blk rfl).1⟩
theorem PzAt.ar {B : Nat} {l : List Pl} {R : List (Nat × List Value)} {w W : World} (h : PzAt B l R w W) : AzAt ((B, plC l) :: R) w W :=
  h.az.cons ⟨plC_cells (f := fun i => W.cell? ⟨B, i, none⟩) h.ns.row, fun o ho => h.ns.fz o (by rwa [plC_length] at ho), h.ns.sz⟩
theorem AzAt.pz {B : Nat} {l : List Pl} {R : List (Nat × List Value)} {w W : World} (h : AzAt ((B, plC l) :: R) w W) (hB : w.heap.size ≤ B) (hne : ∀ x ∈ R, B ≠ x.1) : PzAt B l R w W :=
  ⟨h.sub (fun x hx => List.mem_cons_of_mem _ hx), ⟨fun _ _ hx => ⟨(h.row (B, plC l) (by simp)).row _ _ (plC_at hx).1, (h.row (B, plC l) (by simp)).row _ _ (plC_at hx).2⟩, fun o ho => (h.row (B, plC l) (by simp)).fz o (by rw [plC_length]; exact ho), (h.row (B, plC l) (by simp)).sz⟩, hB, hne⟩
theorem PzAt.ps {B : Nat} {l : List Pl} {R : List (Nat × List Value)} {w W : World} (h : PzAt B l R w W) : PsAt B l W := ⟨h.ns.row, h.ns.sz⟩

theorem ps_news {B : Nat} {ps : List Pl} {W : World} (h : PsAt B ps W) : ∀ j u, (plC ps)[j]? = some u → W.cell? ((⟨B, 0, none⟩ : Addr).add j) = some u := fun j u hj => by
  have := plC_cells (f := fun i => W.cell? ⟨B, i, none⟩) h.row j u hj
  have e : ((⟨B, 0, none⟩ : Addr).add j) = ⟨B, j, none⟩ := by
    unfold Addr.add
    split
    · rename_i h0
      first | (subst h0; rfl) | (simp at h0; subst h0; rfl)
    · simp
  rw [e]
  exact this
set_option maxHeartbeats 1000000 in
set_option maxRecDepth 100000 in
theorem clone_s {B cap n : Nat} {ps : List Pl} (hl : ps.length = n) (hn : n ≤ 1000000) {R : List (Nat × List Value)} {w W : World} (hA : AzAt R w W) (h : PsAt B ps W) :
    Calls Tryz.prog 50 #[.slice (some ⟨B, 0, none⟩) n cap] W fun e W' => ∃ v, e = .returned v ∧ OzAt 26 v n (plC ps) R w W' := by
  have H0 := Lib.hid (OzAt.lit hA [] 26 0 rfl (by omega))
  have HP := Lib.hid h
  have HL := Lib.hid hl
  have hsz := hA.bw.size
  clear hA h
  obtain ⟨i0, hi0, hz0, hz1, hz2⟩ := info_parts info_place
  have hnil : ∀ W : World, (binOp .eql 27 (.slice (some ⟨B, 0, none⟩) n cap) (.slice none 0 0)).run Tryz.prog W = .ok (.bool false) W := fun _ => rfl
  go_enter Tryz.func50, Tryz.ntmps50
  go_wp2_with (first
    | (at_builtin; refine wpList_append_own_at _ rfl _ _ 27 rfl w.heap.size 26 i0 (.agg #[.int .i64 0, .int .i64 0]) 2 16 Tryz.underlying27 hi0 hz0 hz1 hz2 rfl (by decide) (.slice (some ⟨W.heap.size, 0, none⟩) 0 0) 0 [] rfl H0.out.own ⟨B, 0, none⟩ n cap (plC ps) rfl (by rw [plC_length, HL.out]) (ps_news (HP.out.below ((Below.refl _ _).alloc (Nat.le_refl _) _))) (plC_one ps) (by unfold maxLen; omega) (by omega) (by simp; omega) ?_; intro v' w7 hown' hgrow _ hat; have HZ7 := Lib.hid (H0.out.grown hown' hgrow hat); clear hown' hgrow hat)
    | fail)
  go_ret
  have := HZ7.out
  rw [Nat.zero_add, List.nil_append] at this
  exact ⟨_, rfl, this⟩
set_option maxHeartbeats 1000000 in
theorem left_s {a b c : Pl} (ha : vP a = true) (hb : vP b = true) (hc : vP c = true) (w : World) :
    Calls Tryz.prog 54 #[.agg #[.int .i64 a.x, .int .i64 a.y], .agg #[.int .i64 b.x, .int .i64 b.y], .agg #[.int .i64 c.x, .int .i64 c.y]] w fun e W' => e = .returned (.bool (leftP a b c)) ∧ Below w.heap.size w W' := by
  have K := Lib.hid (fun W => turn_s ha hb hc W)
  have H0 := Lib.hid ((((AzAt.start w).push [.int .i64 a.x, .int .i64 a.y] 26).push [.int .i64 b.x, .int .i64 b.y] 26).push [.int .i64 c.x, .int .i64 c.y] 26)
  unfold leftP
  generalize turnP a b c = t at K ⊢
  go_enter Tryz.func54, Tryz.ntmps54
  go_wp2_with (first
    | (go_at_call 55; (with_reducible refine (K.out _).mono ?_); rintro e w1 ⟨rfl, hb⟩; have H1 := Lib.hid (H0.out.below hb).bw; clear hb)
    | fail)
  go_ret
  exact ⟨rfl, H1.out⟩
set_option maxHeartbeats 2000000 in
/-- Equal slices are equal. -/
theorem equal_s {B C n c1 c2 : Nat} {ps : List Pl} (hp : ps.length = n) (hn : n ≤ 1000000) (w : World) (h1 : PsAt B ps w) (h2 : PsAt C ps w) :
    Calls Tryz.prog 63 #[.slice (some ⟨B, 0, none⟩) n c1, .slice (some ⟨C, 0, none⟩) n c2] w fun e w' => e = .returned (.bool true) ∧ Below w.heap.size w w' := by
  have HP := Lib.hid hp
  have H1 := Lib.hid h1
  have H2 := Lib.hid h2
  clear h1 h2 hp
  go_enter Tryz.func63, Tryz.ntmps63
  go_wp2
  go_loopw [13] (fun i wr => ∃ k : Nat, k ≤ n ∧ i = .int .i64 (k : Int) ∧ Below w.heap.size w wr) (fun i _ => n - (intOf i).toNat)
  case atStart => exact ⟨0, Nat.zero_le _, rfl, Below.refl _ _⟩
  case round =>
    obtain ⟨k, hk, rfl, hb⟩ := hrel
    by_cases hlt : k < n
    · obtain ⟨p, hp⟩ : ∃ p, ps[k]? = some p := ⟨ps[k]'(by have := HP.out; omega), List.getElem?_eq_getElem _⟩
      obtain ⟨c0, c1'⟩ := ((H1.out.below hb).row k p hp)
      obtain ⟨d0, d1⟩ := ((H2.out.below hb).row k p hp)
      have HB := Lib.hid hb
      clear hb hp
      have i1 : (0 : Int) ≤ (k : Int) := by omega
      have i2 : (k : Int) < (n : Int) := by omega
      go_wp2
      go_region
      all_goals
        go_wp2
        exact ⟨⟨k + 1, by omega, by go_num, HB.out.drew⟩, by simp only [intOf]; omega⟩
    · obtain rfl : k = n := by omega
      have HB := Lib.hid hb
      clear hb
      go_wp2
      go_ret
      exact ⟨rfl, HB.out⟩
set_option maxHeartbeats 2000000 in
/-- Compact, where no two neighbours are equal: it hands back what it was handed. -/
theorem compact_s {B n c1 : Nat} {ps : List Pl} (hp : ps.length = n) (hn : n ≤ 1000000) (hd : ∀ k p q, ps[k]? = some p → ps[k + 1]? = some q → p ≠ q) (w : World) (h1 : PsAt B ps w) :
    Calls Tryz.prog 53 #[.slice (some ⟨B, 0, none⟩) n c1] w fun e w' => e = .returned (.slice (some ⟨B, 0, none⟩) n c1) ∧ Below w.heap.size w w' := by
  have HP := Lib.hid hp
  have H1 := Lib.hid h1
  have HD := Lib.hid hd
  clear h1 hp hd
  by_cases hn2 : n < 2
  · have hn3 : (n : Int) < 2 := by omega
    go_enter Tryz.func53, Tryz.ntmps53
    go_wp2
    go_ret
    exact ⟨rfl, Below.refl _ _⟩
  go_enter Tryz.func53, Tryz.ntmps53
  go_wp2
  go_loopw [3] (fun i wr => ∃ k : Nat, 1 ≤ k ∧ k ≤ n ∧ i = .int .i64 (k : Int) ∧ Below w.heap.size w wr) (fun i _ => n - (intOf i).toNat)
  case atStart => exact ⟨1, by omega, by omega, rfl, Below.refl _ _⟩
  case round =>
    obtain ⟨k, hk1, hk, rfl, hb⟩ := hrel
    by_cases hlt : k < n
    · obtain ⟨kp, rfl⟩ : ∃ kp, k = kp + 1 := ⟨k - 1, by omega⟩
      obtain ⟨p, hp⟩ : ∃ p, ps[kp]? = some p := ⟨ps[kp]'(by have := HP.out; omega), List.getElem?_eq_getElem _⟩
      obtain ⟨q, hq⟩ : ∃ q, ps[kp + 1]? = some q := ⟨ps[kp + 1]'(by have := HP.out; omega), List.getElem?_eq_getElem _⟩
      obtain ⟨c0, c1'⟩ := ((H1.out.below hb).row kp p hp)
      obtain ⟨d0, d1⟩ := ((H1.out.below hb).row (kp + 1) q hq)
      have hpq := HD.out kp p q hp hq
      have HB := Lib.hid hb
      clear hb hp hq
      have hwp : IntKind.i64.wrap (kp : Int) = (kp : Int) := IntWalk.i64_in _ (by omega)
      have jz : (kp : Int) + 1 < (n : Int) := by omega
      have jz1 : (kp : Int) < (n : Int) := by omega
      have p0 : (0 : Int) ≤ (kp : Int) + 1 := by omega
      have e0 : ((kp : Int) + 1).toNat = kp + 1 := by omega
      rw [show ((kp + 1 : Nat) : Int) = (kp : Int) + 1 from by omega]
      have hd : (q.x == p.x) = false ∨ ((q.x == p.x) = true ∧ (q.y == p.y) = false) := by
        by_cases hx : q.x = p.x
        · right
          refine ⟨beq_iff_eq.2 hx, beq_eq_false_iff_ne.2 fun hy => hpq ?_⟩
          cases p
          cases q
          simp_all
        · exact .inl (beq_eq_false_iff_ne.2 hx)
      clear hpq
      rcases hd with hx | ⟨hx, hy⟩
      all_goals
        go_wp2
        go_region
        all_goals
          go_wp2
          exact ⟨⟨kp + 1 + 1, by omega, by omega, by go_num, HB.out.drew⟩, by simp only [intOf]; omega⟩
    · obtain rfl : k = n := by omega
      have HB := Lib.hid hb
      clear hb
      go_wp2
      go_ret
      exact ⟨rfl, HB.out⟩
end Go.Proofs.YtgngepbemgbbeaaGreatDoor

