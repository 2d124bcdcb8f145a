/-
  Package plane: the library's sort of a few places (printed out of the texts on fractions).
-/
import Derived.Test.YtgngepbemgbbeaaGreatDoorZPl1
import Derived.Test.YtgngepbemgbbeaaGreatDoorZPl17
import Derived.Test.YtgngepbemgbbeaaGreatDoorZPl6
namespace Go.Proofs.YtgngepbemgbbeaaGreatDoor
open Go.RowKit Go.Shelf
attribute [local go_sem] Oper.semAt_some

theorem ltP_ord (a b : Pl) : ltP a b = decide (ordP a b < 0) := by
  unfold ltP ordP orInt cmpI
  rw [← Bool.decide_and, ← Bool.decide_or]
  refine decide_eq_decide.2 ?_
  (repeat' split) <;> omega

/-- Pairs of texts in a row. -/
structure PqAt (B : Nat) (l : List (Pl)) (W : World) : Prop where
  row : ∀ (k : Nat) (x : Pl), l[k]? = some x → W.cell? ⟨B, k * 2, none⟩ = some (.int .i64 x.x) ∧ W.cell? ⟨B, k * 2 + 1, none⟩ = some (.int .i64 x.y)
  fz : ∀ o, o < l.length * 2 → W.frozen? ⟨B, o, none⟩ = false
  sz : B < W.heap.size
theorem PqAt.below {B : Nat} {l : List (Pl)} {W W' : World} (h : PqAt B l W) (hb : Below W.heap.size W W') : PqAt B l W' :=
  ⟨fun k x hx => ⟨(hb.cell (p := ⟨B, k * 2, none⟩) h.sz).trans (h.row k x hx).1, (hb.cell (p := ⟨B, k * 2 + 1, none⟩) h.sz).trans (h.row k x hx).2⟩, fun o ho => (hb.frozen (p := ⟨B, o, none⟩) h.sz).trans (h.fz o ho), Nat.lt_of_lt_of_le h.sz hb.size⟩
theorem PqAt.drew {B : Nat} {l : List (Pl)} {W : World} (h : PqAt B l W) : PqAt B l W.drew := ⟨h.row, h.fz, h.sz⟩
theorem PqAt.set {B : Nat} {l : List (Pl)} {W : World} (h : PqAt B l W) {k : Nat} (hk : k < l.length) (x : Pl) : PqAt B (l.set k x) ((W.setCell ⟨B, k * 2, none⟩ (.int .i64 x.x)).setCell ⟨B, k * 2 + 1, none⟩ (.int .i64 x.y)) := by
  obtain ⟨y, hy⟩ : ∃ y, l[k]? = some y := ⟨l[k], List.getElem?_eq_getElem hk⟩
  obtain ⟨y0, y1⟩ := h.row k y hy
  have n1 : (⟨B, k * 2, none⟩ : Addr) ≠ ⟨B, k * 2 + 1, none⟩ := fun e => by have := congrArg Addr.off e; simp at this
  refine ⟨fun j z hz => ?_, fun o ho => ?_, by simpa using h.sz⟩
  · by_cases hj : k = j
    · subst hj
      rw [List.getElem?_set_self hk] at hz
      cases hz
      refine ⟨?_, ?_⟩
      · rw [World.cell?_setCell_other _ _ _ _ n1.symm]
        exact World.cell?_setCell_same _ _ _ y0
      · exact World.cell?_setCell_same _ _ _ ((World.cell?_setCell_other _ _ _ _ n1).trans y1)
    · rw [List.getElem?_set_ne hj] at hz
      obtain ⟨z0, z1⟩ := h.row j z hz
      refine ⟨?_, ?_⟩
      · rw [World.cell?_setCell_other _ _ _ _ (fun e => by have := congrArg Addr.off e; simp at this; omega), World.cell?_setCell_other _ _ _ _ (fun e => by have := congrArg Addr.off e; simp at this; omega)]
        exact z0
      · rw [World.cell?_setCell_other _ _ _ _ (fun e => by have := congrArg Addr.off e; simp at this; omega), World.cell?_setCell_other _ _ _ _ (fun e => by have := congrArg Addr.off e; simp at this; omega)]
        exact z1
  · have := h.fz o (by simpa using ho)
    simpa [go_sem] using this
/-- Pairs of texts in a row of its own, beside blocks that may be written. -/
structure PzAt (B : Nat) (l : List (Pl)) (R : List (Nat × List Value)) (w W : World) : Prop where
  az : AzAt R w W
  ns : PqAt B l W
  hB : w.heap.size ≤ B
  ne : ∀ x ∈ R, B ≠ x.1
theorem PzAt.below {B : Nat} {l : List (Pl)} {R : List (Nat × List Value)} {w W W' : World} (h : PzAt B l R w W) (hb : Below W.heap.size W W') : PzAt B l R w W' := ⟨h.az.below hb, h.ns.below hb, h.hB, h.ne⟩
theorem PzAt.drew {B : Nat} {l : List (Pl)} {R : List (Nat × List Value)} {w W : World} (h : PzAt B l R w W) : PzAt B l R w W.drew := ⟨h.az.drew, h.ns.drew, h.hB, h.ne⟩
theorem PzAt.set {B : Nat} {l : List (Pl)} {R : List (Nat × List Value)} {w W : World} (h : PzAt B l R w W) {k : Nat} (hk : k < l.length) (x : Pl) : PzAt B (l.set k x) R w ((W.setCell ⟨B, k * 2, none⟩ (.int .i64 x.x)).setCell ⟨B, k * 2 + 1, none⟩ (.int .i64 x.y)) :=
  ⟨⟨(h.az.bw.setCell h.hB _).setCell h.hB _, fun x hx => ((h.az.row x hx).other (h.ne x hx) _ _).other (h.ne x hx) _ _⟩, h.ns.set hk x, h.hB, h.ne⟩
set_option maxHeartbeats 4000000 in
set_option maxRecDepth 100000 in
theorem insP_s {B cap n : Nat} {l : List (Pl)} {R : List (Nat × List Value)} {w W : World} (hl : l.length = n) (hn : n ≤ 1000000) (h : PzAt B l R w W) :
    Calls Tryz.prog 129 #[.slice (some ⟨B, 0, none⟩) n cap, .int .i64 0, .int .i64 n, .func (.func 52) #[] #[]] W fun e W' => e = .returned (.tuple #[]) ∧ PzAt B (sortN ltP l) R w W' := by
  obtain ⟨S, hS⟩ : ∃ S, S = sortN ltP l := ⟨_, rfl⟩
  rw [← hS]
  have HS := Lib.hid (show outN ltP l 1 (n - 1) = S by rw [hS, ← hl]; rfl)
  have H0 := Lib.hid h
  have HL := Lib.hid hl
  clear h hl hS
  go_enter Tryz.func129, Tryz.ntmps129
  go_wp2
  go_loopw [8] (fun vi wr => ∃ (i : Nat) (L : List (Pl)), vi = .int .i64 (i : Int) ∧ 1 ≤ i ∧ i ≤ n + 1 ∧ L.length = n ∧ PzAt B L R w wr ∧ outN ltP L i (n - i) = S) (fun i _ => n + 1 - (intOf i).toNat)
  case atStart => exact ⟨1, l, by go_num, by omega, by omega, HL.out, H0.out, HS.out⟩
  case round =>
    obtain ⟨i, L, rfl, hi1, hi2, hLl, hA, hO⟩ := hrel
    have HLl := Lib.hid hLl
    have HA := Lib.hid hA
    have HO := Lib.hid hO
    clear hLl hA hO
    by_cases hlt : i < n
    · have hltz : (i : Int) < (n : Int) := by omega
      go_wp2
      go_loopw [9] (fun vj wq => ∃ (j : Nat) (M : List (Pl)), vj = .int .i64 (j : Int) ∧ j ≤ i ∧ M.length = n ∧ PzAt B M R w wq ∧ innerN ltP M j = innerN ltP L i) (fun j _ => (intOf j).toNat)
      case atStart => exact ⟨i, L, rfl, Nat.le_refl _, HLl.out, HA.out, rfl⟩
      case round =>
        obtain ⟨j, M, rfl, hj, hMl, hM, hIn⟩ := hrel
        have HMl := Lib.hid hMl
        have HM := Lib.hid hM
        have HIn := Lib.hid hIn
        clear hMl hM hIn
        have END : innerN ltP M j = M → ∀ wz, PzAt B M R w wz → ∃ (i' : Nat) (L' : List (Pl)), Value.int .i64 ((i : Int) + 1) = .int .i64 (i' : Int) ∧ 1 ≤ i' ∧ i' ≤ n + 1 ∧ L'.length = n ∧ PzAt B L' R w wz ∧ outN ltP L' i' (n - i') = S := fun he wz hz =>
          ⟨i + 1, M, by go_num, by omega, by omega, HMl.out, hz, by
            rw [← HO.out, show n - i = n - (i + 1) + 1 by omega]
            show _ = outN ltP (innerN ltP L i) (i + 1) (n - (i + 1))
            rw [← HIn.out, he]⟩
        have HEND := Lib.hid END
        clear END
        cases j with
        | zero =>
          rw [show ((0 : Nat) : Int) = 0 from rfl]
          go_wp2
          refine wp_region_quiet_below (by kernel_rfl) (by kernel_rfl) ?_
          repeat (go_big_quiet_step (fail))
          refine wpQuiet_nil ?_
          intro W1 hw'
          have hb1 : Below wr.heap.size wr W1 := by obtain ⟨⟨dq, osq⟩, hw''⟩ := hw'; rw [hw'']; exact below_regrown wr dq osq
          have H1 := Lib.hid (HM.out.below hb1)
          clear hw' hb1
          go_wp2
          exact ⟨HEND.out rfl _ H1.out, by simp only [intOf]; omega⟩
        | succ jp =>
          obtain ⟨x, hx⟩ : ∃ x, M[jp + 1]? = some x := ⟨M[jp + 1]'(by have := HMl.out; omega), List.getElem?_eq_getElem _⟩
          obtain ⟨y, hy⟩ : ∃ y, M[jp]? = some y := ⟨M[jp]'(by have := HMl.out; omega), List.getElem?_eq_getElem _⟩
          obtain ⟨x0, x1⟩ := HM.out.ns.row _ _ hx
          obtain ⟨y0, y1⟩ := HM.out.ns.row _ _ hy
          have K := Lib.hid (fun (W : World) (h : Below w.heap.size w W) => order_s x y W)
          have HLTP := Lib.hid (ltP_ord x y)
          have e1 : M[jp + 1]?.getD default = x := by rw [hx]; rfl
          have e2 : M[jp]?.getD default = y := by rw [hy]; rfl
          have hIN : innerN ltP M (jp + 1) = if decide (ordP x y < 0) then innerN ltP (swpN M jp) jp else M := by
            show (if ltP (M[jp + 1]?.getD default) (M[jp]?.getD default) then innerN ltP (swpN M jp) jp else M) = _
            rw [e1, e2, HLTP.out]
          have HIN := Lib.hid hIN
          have HE := Lib.hid (show swpN M jp = (M.set (jp + 1) y).set jp x by unfold swpN; rw [e1, e2])
          clear hIN e1 e2
          have hwp : IntKind.i64.wrap (jp : Int) = (jp : Int) := IntWalk.i64_in _ (by omega)
          have jz : (jp : Int) + 1 < (n : Int) := by omega
          have jz1 : (jp : Int) < (n : Int) := by omega
          have p0 : (0 : Int) ≤ (jp : Int) + 1 := by omega
          have e0 : ((jp : Int) + 1).toNat = jp + 1 := by omega
          have g0 : (0 : Int) < (jp : Int) + 1 := by omega
          rw [show ((jp + 1 : Nat) : Int) = (jp : Int) + 1 from by omega]
          have HXY := Lib.hid (And.intro hx hy)
          clear hx hy
          obtain ⟨xn, hxn⟩ : ∃ v, v = x.x := ⟨_, rfl⟩
          obtain ⟨xd, hxd⟩ : ∃ v, v = x.y := ⟨_, rfl⟩
          obtain ⟨yn, hyn⟩ : ∃ v, v = y.x := ⟨_, rfl⟩
          obtain ⟨yd, hyd⟩ : ∃ v, v = y.y := ⟨_, rfl⟩
          rw [← hxn] at x0 K
          rw [← hxd] at x1 K
          rw [← hyn] at y0 K
          rw [← hyd] at y1 K
          have HQ := Lib.hid (show xn = x.x ∧ xd = x.y ∧ yn = y.x ∧ yd = y.y from ⟨hxn, hxd, hyn, hyd⟩)
          clear hxn hxd hyn hyd
          obtain ⟨c, hc⟩ : ∃ c, c = ordP x y := ⟨_, rfl⟩
          rw [← hc] at K HIN
          clear hc
          have k0 := cell_regrown x0
          have k1 := cell_regrown x1
          have k2 := cell_regrown y0
          have k3 := cell_regrown y1
          have c0 := fun d os => Calls.regrown_of (d := d) (os := os) (K.out _ (HM.out.az.bw.trans ((below_regrown wr d os).mono HM.out.az.bw.size)))
          go_wp2
          refine wp_region_quiet_below (by kernel_rfl) (by kernel_rfl) ?_
          repeat (go_big_quiet_step ((with_reducible exact c0 _ _)))
          refine wpQuiet_nil ?_
          intro W1 hw'
          have hb1 : Below wr.heap.size wr W1 := by obtain ⟨⟨dq, osq⟩, hw''⟩ := hw'; rw [hw'']; exact below_regrown wr dq osq
          have H1 := Lib.hid (HM.out.below hb1)
          clear hw' hb1 k0 k1 k2 k3 c0 x0 x1 y0 y1
          by_cases hcz : c < 0
          · have hcd : decide (c < 0) = true := decide_eq_true hcz
            have HI2 := Lib.hid (show innerN ltP M (jp + 1) = innerN ltP (swpN M jp) jp by rw [HIN.out, hcd]; rfl)
            clear hcd HIN HEND
            have z0 := (H1.out.ns.row _ _ HXY.out.1).1
            have z1 := (H1.out.ns.row _ _ HXY.out.1).2
            have z2 := (H1.out.ns.row _ _ HXY.out.2).1
            have z3 := (H1.out.ns.row _ _ HXY.out.2).2
            rw [← HQ.out.1] at z0
            rw [← HQ.out.2.1] at z1
            rw [← HQ.out.2.2.1] at z2
            rw [← HQ.out.2.2.2] at z3
            have q0 := H1.out.ns.fz ((jp + 1) * 2) (by rw [HMl.out]; omega)
            have q1 := H1.out.ns.fz ((jp + 1) * 2 + 1) (by rw [HMl.out]; omega)
            have q2 := H1.out.ns.fz (jp * 2) (by rw [HMl.out]; omega)
            have q3 := H1.out.ns.fz (jp * 2 + 1) (by rw [HMl.out]; omega)
            go_wp2
            go_region
            all_goals
              go_wp2
              have H2 := ((H1.out.set (k := jp + 1) (by rw [HMl.out]; omega) y).set (k := jp) (by rw [List.length_set, HMl.out]; omega) x).drew
              rw [← HQ.out.1, ← HQ.out.2.1, ← HQ.out.2.2.1, ← HQ.out.2.2.2] at H2
              refine ⟨⟨jp, (M.set (jp + 1) y).set jp x, rfl, by omega, by rw [List.length_set, List.length_set, HMl.out], H2, by rw [← HIn.out, HI2.out, HE.out]⟩, by simp only [intOf]; omega⟩
          · have hcd : decide (c < 0) = false := decide_eq_false hcz
            have HI2 := Lib.hid (show innerN ltP M (jp + 1) = M by rw [HIN.out, hcd]; rfl)
            clear hcd HIN
            go_wp2
            exact ⟨HEND.out HI2.out _ H1.out, by simp only [intOf]; omega⟩
    · have e : L = S := by
        have := HO.out
        rw [show n - i = 0 by omega] at this
        exact this
      subst e
      clear HO HS
      have hlt2 : decide ((i : Int) < (n : Int)) = false := decide_eq_false (by omega)
      go_wp2
      go_end0
      exact ⟨rfl, HA.out⟩
set_option maxHeartbeats 2000000 in
theorem pdqP_s {B cap n : Nat} {k : Int} {l : List (Pl)} {R : List (Nat × List Value)} {w W : World} (hl : l.length = n) (hn : n ≤ 12) (h : PzAt B l R w W) :
    Calls Tryz.prog 87 #[.slice (some ⟨B, 0, none⟩) n cap, .int .i64 0, .int .i64 n, .int .i64 k, .func (.func 52) #[] #[]] W fun e W' => e = .returned (.tuple #[]) ∧ PzAt B (sortN ltP l) R w W' := by
  have K := Lib.hid (insP_s (cap := cap) hl (by omega) h)
  clear hl h
  have hn1 : (n : Int) ≤ 12 := by omega
  have hw1 : IntKind.i64.wrap (n : Int) = (n : Int) := IntWalk.i64_in _ (by omega)
  go_enter Tryz.func87, Tryz.ntmps87
  go_wp2
  refine wp_loop_rounds 1 ?_
  rw [rounds_succ]
  go_wp2_with (go_at_call 129; (with_reducible refine (K.out).mono ?_); rintro e w' ⟨rfl, hz⟩)
  (try simp only [Exit.inBlock, Exit.then]); refine bodyPost_ret (results_none rfl _ _ _) rfl ?_
  exact ⟨rfl, hz⟩
set_option maxHeartbeats 2000000 in
theorem sortP_s {B cap n : Nat} {l : List (Pl)} {R : List (Nat × List Value)} {w W : World} (hl : l.length = n) (hn : n ≤ 12) (h : PzAt B l R w W) :
    Calls Tryz.prog 51 #[.slice (some ⟨B, 0, none⟩) n cap, .func (.func 52) #[] #[]] W fun e W' => e = .returned (.tuple #[]) ∧ PzAt B (sortN ltP l) R w W' := by
  have K := Lib.hid (fun (k : Int) => pdqP_s (cap := cap) (k := k) hl hn h)
  have K2 := Lib.hid (fun W => bitsLen_s (x := (n : Int)) (by omega) (by omega) W)
  clear hl h
  have hw1 : IntKind.u64.wrap (n : Int) = (n : Int) := by simp [IntKind.wrap, IntKind.bits, IntKind.signed]; omega
  go_enter Tryz.func51, Tryz.ntmps51
  go_wp2_with (first
    | (go_at_call 88; (with_reducible refine (K2.out _).mono ?_); rintro e w' ⟨⟨k, rfl⟩, rfl⟩)
    | (go_at_call 87; (with_reducible refine (K.out _).mono ?_); rintro e w' ⟨rfl, hz⟩)
    | fail)
  go_end0
  exact ⟨rfl, hz⟩
section
variable {B : Nat} {l : List (Pl)} {R : List (Nat × List Value)} {w W : World}
theorem PqAt.other (h : PqAt B l W) {X : Nat} (hne : X ≠ B) (i : Nat) (u : Value) : PqAt B l (W.setCell ⟨X, i, none⟩ u) :=
  ⟨fun k x hx => ⟨(World.cell?_setCell_other _ _ _ _ (fun e => hne (by have := congrArg Addr.block e; simpa using this))).trans (h.row k x hx).1, (World.cell?_setCell_other _ _ _ _ (fun e => hne (by have := congrArg Addr.block e; simpa using this))).trans (h.row k x hx).2⟩,
    fun o ho => by have := h.fz o ho; simpa [go_sem] using this, by simpa using h.sz⟩
theorem PzAt.cons (h : PzAt B l R w W) {X : Nat} {vs : List Value} (c : ArAt X vs W) (hne : B ≠ X) : PzAt B l ((X, vs) :: R) w W :=
  ⟨h.az.cons c, h.ns, h.hB, fun x hx => by rcases List.mem_cons.1 hx with rfl | hx; exact hne; exact h.ne x hx⟩
theorem PzAt.push (h : PzAt B l R w W) (vs : List Value) (t : TypeId) : PzAt B l ((W.heap.size, vs) :: R) w (W.alloc (.cells vs.toArray t)) :=
  (h.below ((Below.refl _ _).alloc (Nat.le_refl _) _)).cons (ArAt.mk' W vs t) (by have := h.ns.sz; omega)
theorem PzAt.sub {R' : List (Nat × List Value)} (h : PzAt B l R w W) (hs : ∀ x ∈ R', x ∈ R) : PzAt B l R' w W := ⟨h.az.sub hs, h.ns, h.hB, fun x hx => h.ne x (hs x hx)⟩
theorem PzAt.set2 {X : Nat} {a b : Value} (h : PzAt B l ((X, [a, b]) :: R) w W) (hX : w.heap.size ≤ X) (hd : ∀ x ∈ R, X ≠ x.1) (u t : Value) : PzAt B l ((X, [u, t]) :: R) w ((W.setCell ⟨X, 0, none⟩ u).setCell ⟨X, 1, none⟩ t) := by
  have hne : B ≠ X := h.ne (X, [a, b]) (by simp)
  exact ⟨h.az.set2 hX hd u t, (h.ns.other (Ne.symm hne) _ _).other (Ne.symm hne) _ _, h.hB, fun x hx => by
    rcases List.mem_cons.1 hx with rfl | hx
    · exact hne
    · exact h.ne x (by simp [hx])⟩
end
end Go.Proofs.YtgngepbemgbbeaaGreatDoor

