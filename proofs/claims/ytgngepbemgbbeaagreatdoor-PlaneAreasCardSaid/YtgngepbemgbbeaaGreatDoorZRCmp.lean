/-
  Package rational: Compare.
  Package rational: Compare, at all texts.
-/
import Derived.ScopeJumps
import Derived.WalkMore
import Derived.Test.YtgngepbemgbbeaaGreatDoorZRat
namespace Go.Proofs.YtgngepbemgbbeaaGreatDoor
open Go.RowKit Go.Shelf
attribute [local go_sem] Oper.semAt_some

theorem sz_str {z : Int} (h : small z = true) : Sz (str z) := by rw [← opS_small h]; exact opS_sz _
theorem ratO_sz {n d : ByteArray} {r : Rat} (h : ratO n d = some r) : Sz n ∧ Sz d := by
  obtain ⟨e1, e2, h1, h2⟩ := ratO_some h
  rw [e1, e2]
  exact ⟨sz_str h1, sz_str h2⟩
theorem floor_small {r : Rat} (h : fitsR r) : small r.floor = true := by rw [floor_num]; exact small_div _ h.1
theorem rest_small {r : Rat} (h : fitsR r) : small (r.num % (r.den : Int)) = true := small_mod (by have := rat_dpos r; omega) h.2
theorem ratO_div {n d : ByteArray} {r : Rat} (h : ratO n d = some r) : divO n d = some r.floor ∧ modO n d = some (r.num % (r.den : Int)) := by
  obtain ⟨h1, h2⟩ := ratO_num h
  have := rat_dpos r
  unfold divO modO
  rw [h1, h2, floor_num]
  exact ⟨if_neg (by omega), if_neg (by omega)⟩
theorem ratO_next {n d : ByteArray} {r : Rat} (h : ratO n d = some r) (h0 : r.num % (r.den : Int) ≠ 0) : ratO d (str (r.num % (r.den : Int))) = some (Rat.divInt r.den (r.num % r.den)) := by
  obtain ⟨_, e2, hf⟩ := ratO_some h
  obtain ⟨k1, k2⟩ := next_low h0
  have := ratO_str (r := Rat.divInt r.den (r.num % r.den)) (by unfold fitsR; rw [k1, k2]; exact ⟨hf.2, rest_small hf⟩)
  rw [k1, k2, ← e2] at this
  exact this
theorem next_den {r : Rat} (h0 : r.num % (r.den : Int) ≠ 0) : (Rat.divInt r.den (r.num % r.den)).den < r.den := by
  obtain ⟨_, k2⟩ := next_low h0
  have := (rest_pos h0).2
  omega
theorem cmpI_cases (p q : Int) : cmpI p q = -1 ∨ cmpI p q = 0 ∨ cmpI p q = 1 := by
  unfold cmpI
  split
  · exact .inl rfl
  · split
    · exact .inr (.inr rfl)
    · exact .inr (.inl rfl)
theorem cmpI_zero {p q : Int} (h : cmpI p q = 0) : p = q := by
  unfold cmpI at h
  split at h
  · cases h
  · split at h
    · cases h
    · omega
theorem num_str {z : Int} (h : small z = true) : numOf (str z) = some z := by rw [numOf_str, if_pos h]

/-- Two fractions in two blocks that may be written. -/
structure CpAt (n1 d1 n2 d2 : ByteArray) (w W : World) : Prop where
  bw : Below w.heap.size w W
  x0 : W.cell? ⟨w.heap.size, 0, none⟩ = some (.string n1)
  x1 : W.cell? ⟨w.heap.size, 1, none⟩ = some (.string d1)
  y0 : W.cell? ⟨w.heap.size + 1, 0, none⟩ = some (.string n2)
  y1 : W.cell? ⟨w.heap.size + 1, 1, none⟩ = some (.string d2)
  f0 : W.frozen? ⟨w.heap.size, 0, none⟩ = false
  f1 : W.frozen? ⟨w.heap.size, 1, none⟩ = false
  g0 : W.frozen? ⟨w.heap.size + 1, 0, none⟩ = false
  g1 : W.frozen? ⟨w.heap.size + 1, 1, none⟩ = false
  sz : w.heap.size + 1 + 1 ≤ W.heap.size
theorem CpAt.below {n1 d1 n2 d2 : ByteArray} {w W W' : World} (h : CpAt n1 d1 n2 d2 w W) (hb : Below W.heap.size W W') : CpAt n1 d1 n2 d2 w W' := by
  obtain ⟨c, f⟩ := bcell hb
  have hs := h.sz
  have hs' := hb.size
  exact ⟨h.bw.trans (hb.mono (by omega)), (c _ _ (by omega)).trans h.x0, (c _ _ (by omega)).trans h.x1, (c _ _ (by omega)).trans h.y0, (c _ _ (by omega)).trans h.y1, (f _ _ (by omega)).trans h.f0, (f _ _ (by omega)).trans h.f1, (f _ _ (by omega)).trans h.g0, (f _ _ (by omega)).trans h.g1, by omega⟩
theorem CpAt.start (w : World) (n1 d1 n2 d2 : ByteArray) (t : TypeId) : CpAt n1 d1 n2 d2 w ((w.alloc (.cells #[.string n1, .string d1] t)).alloc (.cells #[.string n2, .string d2] t)) := by
  refine ⟨((Below.refl _ _).alloc (Nat.le_refl _) _).alloc (by simp) _, ?_, ?_, ?_, ?_, ?_, ?_, ?_, ?_, by simp⟩ <;> simp [go_sem]
theorem CpAt.set {n1 d1 n2 d2 : ByteArray} {w W : World} (h : CpAt n1 d1 n2 d2 w W) (p1 q1 p2 q2 : ByteArray) :
    CpAt p1 q1 p2 q2 w ((((W.setCell ⟨w.heap.size, 0, none⟩ (.string p1)).setCell ⟨w.heap.size, 1, none⟩ (.string q1)).setCell ⟨w.heap.size + 1, 0, none⟩ (.string p2)).setCell ⟨w.heap.size + 1, 1, none⟩ (.string q2)) := by
  have oth : ∀ (W : World) (x y : Addr) (u : Value), y ≠ x → (W.setCell x u).cell? y = W.cell? y := fun W x y u h => World.cell?_setCell_other _ _ _ _ (by first | exact h | exact fun e => h e.symm)
  have sz := h.sz
  obtain ⟨hb, x0, x1, y0, y1, f0, f1, g0, g1, _⟩ := h
  refine ⟨(((hb.setCell (by simp) _).setCell (by simp) _).setCell (by simp) _).setCell (by simp) _, ?_, ?_, ?_, ?_, ?_, ?_, ?_, ?_, by simpa using sz⟩
  · rw [oth _ _ _ _ (by simp), oth _ _ _ _ (by simp), oth _ _ _ _ (by simp)]
    exact World.cell?_setCell_same _ _ _ x0
  · rw [oth _ _ _ _ (by simp), oth _ _ _ _ (by simp)]
    exact World.cell?_setCell_same _ _ _ (by rw [oth _ _ _ _ (by simp)]; exact x1)
  · rw [oth _ _ _ _ (by simp)]
    exact World.cell?_setCell_same _ _ _ (by rw [oth _ _ _ _ (by simp), oth _ _ _ _ (by simp)]; exact y0)
  · exact World.cell?_setCell_same _ _ _ (by rw [oth _ _ _ _ (by simp), oth _ _ _ _ (by simp), oth _ _ _ _ (by simp)]; exact y1)
  all_goals simpa [go_sem] using (by assumption)
/-- The denominator that lies in a cell. -/
def cellDen (N : Nat) (W : World) : Nat := match W.cell? ⟨N, 1, none⟩ with | some (.string d) => ((numOf d).getD 0).natAbs | _ => 0
theorem cellDen_eq {N : Nat} {W : World} {n d : ByteArray} {r : Rat} (h : W.cell? ⟨N, 1, none⟩ = some (.string d)) (hr : ratO n d = some r) : cellDen N W = r.den := by
  unfold cellDen
  rw [h]
  show ((numOf d).getD 0).natAbs = r.den
  rw [(ratO_num hr).2]
  show (r.den : Int).natAbs = r.den
  omega

theorem CpAt.drew {n1 d1 n2 d2 : ByteArray} {w W : World} (h : CpAt n1 d1 n2 d2 w W) : CpAt n1 d1 n2 d2 w W.drew := ⟨h.bw.drew, h.x0, h.x1, h.y0, h.y1, h.f0, h.f1, h.g0, h.g1, h.sz⟩
theorem cmp_frame (a1 a2 b1 b2 : ByteArray) (s : Int) (w : World) (x6 x7 x8 x9 x10 x11 x12 x13 x14 x15 x16 x17 x18 x19 x20 x21 x22 x23 x24 x25 x26 x27 x28 x29 x30 x31 x32 x33 x34 x35 x36 x37 x38 x39 x40 x41 x42 x43 x44 x45 x46 x47 x48 x49 x50 x51 x52 x53 x54 x55 x56 x57 x58 x59 x60 x61 x62 x63 x64 x65 x66 x67 x68 x69 x70 x71 x72 x73 : Value) : ∃ u : Nat → Value, ({ tmps := #[.agg #[.string a1, .string a2], .agg #[.string b1, .string b2], .pointer (some ⟨w.heap.size, 0, none⟩), .pointer (some ⟨w.heap.size + 1, 0, none⟩), .int .i64 0, .int .i64 s, x6, x7, x8, x9, x10, x11, x12, x13, x14, x15, x16, x17, x18, x19, x20, x21, x22, x23, x24, x25, x26, x27, x28, x29, x30, x31, x32, x33, x34, x35, x36, x37, x38, x39, x40, x41, x42, x43, x44, x45, x46, x47, x48, x49, x50, x51, x52, x53, x54, x55, x56, x57, x58, x59, x60, x61, x62, x63, x64, x65, x66, x67, x68, x69, x70, x71, x72, x73], defers := [] } : Act) = { tmps := #[.agg #[.string a1, .string a2], .agg #[.string b1, .string b2], .pointer (some ⟨w.heap.size, 0, none⟩), .pointer (some ⟨w.heap.size + 1, 0, none⟩), .int .i64 0, .int .i64 s, (u 6), (u 7), (u 8), (u 9), (u 10), (u 11), (u 12), (u 13), (u 14), (u 15), (u 16), (u 17), (u 18), (u 19), (u 20), (u 21), (u 22), (u 23), (u 24), (u 25), (u 26), (u 27), (u 28), (u 29), (u 30), (u 31), (u 32), (u 33), (u 34), (u 35), (u 36), (u 37), (u 38), (u 39), (u 40), (u 41), (u 42), (u 43), (u 44), (u 45), (u 46), (u 47), (u 48), (u 49), (u 50), (u 51), (u 52), (u 53), (u 54), (u 55), (u 56), (u 57), (u 58), (u 59), (u 60), (u 61), (u 62), (u 63), (u 64), (u 65), (u 66), (u 67), (u 68), (u 69), (u 70), (u 71), (u 72), (u 73)], defers := [] } := ⟨fun i => [x6, x7, x8, x9, x10, x11, x12, x13, x14, x15, x16, x17, x18, x19, x20, x21, x22, x23, x24, x25, x26, x27, x28, x29, x30, x31, x32, x33, x34, x35, x36, x37, x38, x39, x40, x41, x42, x43, x44, x45, x46, x47, x48, x49, x50, x51, x52, x53, x54, x55, x56, x57, x58, x59, x60, x61, x62, x63, x64, x65, x66, x67, x68, x69, x70, x71, x72, x73].getD (i - 6) undef, rfl⟩
theorem jump_weak {l : Nat} {J K : Act → World → Prop} {Q : Exit → Act → World → Prop} (hJ : ∀ a w, J a w → K a w) : ∀ e a w, Exit.jump l J Q e a w → Exit.jump l K Q e a w := by
  intro e a w h
  cases e with
  | goto l' => exact ⟨h.1, hJ _ _ h.2⟩
  | _ => exact h
/-- What holds at the label of Compare's loop. -/
def CmpJ (a1 a2 b1 b2 : ByteArray) (a b : Rat) (w : World) (a' : Act) (W : World) : Prop :=
  ∃ (s : Int) (n1 d1 n2 d2 : ByteArray) (A B : Rat), (∃ u : Nat → Value, a' = { tmps := #[.agg #[.string a1, .string a2], .agg #[.string b1, .string b2], .pointer (some ⟨w.heap.size, 0, none⟩), .pointer (some ⟨w.heap.size + 1, 0, none⟩), .int .i64 0, .int .i64 s, (u 6), (u 7), (u 8), (u 9), (u 10), (u 11), (u 12), (u 13), (u 14), (u 15), (u 16), (u 17), (u 18), (u 19), (u 20), (u 21), (u 22), (u 23), (u 24), (u 25), (u 26), (u 27), (u 28), (u 29), (u 30), (u 31), (u 32), (u 33), (u 34), (u 35), (u 36), (u 37), (u 38), (u 39), (u 40), (u 41), (u 42), (u 43), (u 44), (u 45), (u 46), (u 47), (u 48), (u 49), (u 50), (u 51), (u 52), (u 53), (u 54), (u 55), (u 56), (u 57), (u 58), (u 59), (u 60), (u 61), (u 62), (u 63), (u 64), (u 65), (u 66), (u 67), (u 68), (u 69), (u 70), (u 71), (u 72), (u 73)], defers := [] }) ∧ CpAt n1 d1 n2 d2 w W ∧ ratO n1 d1 = some A ∧ ratO n2 d2 = some B ∧ (s = 1 ∨ s = -1) ∧ s * cmpR A B = cmpR a b

set_option maxRecDepth 100000 in
set_option maxHeartbeats 8000000 in
theorem Compare_some {a1 a2 b1 b2 : ByteArray} {a b : Rat} {w : World} (hi : IOps w) (ha : ratO a1 a2 = some a) (hb : ratO b1 b2 = some b) :
    Calls Tryz.prog 40 #[.agg #[.string a1, .string a2], .agg #[.string b1, .string b2]] w fun e W' => e = .returned (.int .i64 (cmpR a b)) ∧ Below w.heap.size w W' := by
  obtain ⟨za1, za2⟩ := ratO_sz ha
  obtain ⟨zb1, zb2⟩ := ratO_sz hb
  have v1 := Lib.hid (fun W (h : CpAt a1 a2 b1 b2 w W) => by have := Valid_q za1 za2 (hi.below h.bw); rw [show vR a1 a2 = true by unfold vR; rw [ha]; rfl] at this; exact this)
  have v2 := Lib.hid (fun W (h : CpAt a1 a2 b1 b2 w W) => by have := Valid_q zb1 zb2 (hi.below h.bw); rw [show vR b1 b2 = true by unfold vR; rw [hb]; rfl] at this; exact this)
  have H0 := Lib.hid (CpAt.start w a1 a2 b1 b2 47)
  have HI := Lib.hid hi
  have HA := Lib.hid ha
  have HB := Lib.hid hb
  clear hi ha hb za1 za2 zb1 zb2
  go_enter Tryz.func40, Tryz.ntmps40
  go_wp2
  refine wp_scope_jumps 0 (CmpJ a1 a2 b1 b2 a b w) (fun _ W => cellDen w.heap.size W) rfl ?_ ?_
  · go_wp2_with (first
      | (go_at_call 82; with_reducible refine (v1.out _ H0.out).mono ?_; rintro e w1 ⟨rfl, hb⟩; have h1 := H0.out.below hb; obtain ⟨_, x0, x1, y0, y1, _⟩ := id h1; have H1 := Lib.hid h1; clear h1 hb)
      | (go_at_call 82; with_reducible refine (v2.out _ H1.out).mono ?_; rintro e w2 ⟨rfl, hb⟩; have H2 := Lib.hid (H1.out.below hb); clear hb)
      | fail)
    go_step3
    have hc := H2.out
    have h1 := HA.out
    have h2 := HB.out
    obtain ⟨cc, hcc⟩ : ∃ cc, cmpR a b = cc := ⟨_, rfl⟩
    have HCC := Lib.hid hcc
    have hm : 1 * cmpR a b = cc := by rw [hcc]; omega
    clear hcc
    clear v1 v2
    obtain ⟨za1, za2⟩ := ratO_sz h1
    obtain ⟨zb1, zb2⟩ := ratO_sz h2
    obtain ⟨e1, e2⟩ := ratO_div h1
    obtain ⟨e3, e4⟩ := ratO_div h2
    have fA := (ratO_some h1).2.2
    have fB := (ratO_some h2).2.2
    have k1 := Lib.hid (fun W' (h : CpAt a1 a2 b1 b2 w W') => by have := HI.out.div za1 za2 W' h.bw; rw [e1, e2, opS_small (floor_small fA), opS_small (rest_small fA), opN_small (floor_small fA)] at this; exact this)
    have k2 := Lib.hid (fun W' (h : CpAt a1 a2 b1 b2 w W') => by have := HI.out.div zb1 zb2 W' h.bw; rw [e3, e4, opS_small (floor_small fB), opS_small (rest_small fB), opN_small (floor_small fB)] at this; exact this)
    have k3 := Lib.hid (fun W' (h : CpAt a1 a2 b1 b2 w W') => by have := HI.out.cmp (sz_str (floor_small fA)) (sz_str (floor_small fB)) W' h.bw; rw [show cmpO (str a.floor) (str b.floor) = cmpI a.floor b.floor by unfold cmpO; rw [num_str (floor_small fA), num_str (floor_small fB)]] at this; exact this)
    obtain ⟨_, x0, x1, y0, y1, _⟩ := id hc
    have H1 := Lib.hid hc
    clear hc e1 e2 e3 e4 za1 zb1 za2 zb2
    have FF := Lib.hid (cmpR_floor (a := a) (b := b))
    have RR := Lib.hid (cmpR_rest (a := a) (b := b))
    have ZA := zero_eq (z := a.num % (a.den : Int))
    have ZB := zero_eq (z := b.num % (b.den : Int))
    have NA := Lib.hid (ratO_next h1)
    have NB := Lib.hid (ratO_next h2)
    have HA1 := Lib.hid h1
    have HB1 := Lib.hid h2
    have HM := Lib.hid hm
    clear hm h1 h2 fA fB
    generalize str a.floor = tp at k1 k3
    generalize str b.floor = tq at k2 k3
    generalize hr1 : str (a.num % (a.den : Int)) = tr at k1 ZA NA
    generalize hr2 : str (b.num % (b.den : Int)) = ts at k2 ZB NB
    rcases cmpI_cases a.floor b.floor with hc | hc | hc
    · have hres := FF.out (by omega)
      rw [hc] at hres
      rw [hc] at k3
      have hfin := HM.out
      rw [hres] at hfin
      replace hfin : cmpR a b = -1 := HCC.out.trans (show cc = -1 by omega)
      have hfin := Lib.hid hfin
      clear hres ZA ZB
      go_wp2_with (first
        | (go_at_call 83; with_reducible refine (k1.out _ H1.out).mono ?_; rintro e w1 ⟨rfl, hb⟩; have h2 := H1.out.below hb; obtain ⟨_, x0', x1', y0', y1', _⟩ := id h2; have H2 := Lib.hid h2; clear h2 hb)
        | (go_at_call 83; with_reducible refine (k2.out _ H2.out).mono ?_; rintro e w2 ⟨rfl, hb⟩; have H3 := Lib.hid (H2.out.below hb); clear hb)
        | (go_at_call 84; with_reducible refine (k3.out _ H3.out).mono ?_; rintro e w3 ⟨rfl, hb⟩; have h4 := H3.out.below hb; obtain ⟨_, x0'', x1'', y0'', y1'', f0'', f1'', g0'', g1'', _⟩ := id h4; have H4 := Lib.hid h4; clear h4 hb)
        | fail)
      simp only [Exit.jump]
      go_ret
      exact ⟨by rw [hfin.out]; rfl, H4.out.bw⟩
    · have hf := cmpI_zero hc
      have hres := RR.out hf
      rw [hc] at k3
      have hm := HM.out
      rw [hres] at hm
      clear hres hf hc
      by_cases hA : a.num % (a.den : Int) = 0
      · rw [decide_eq_true hA] at ZA
        rw [if_pos hA] at hm
        by_cases hB : b.num % (b.den : Int) = 0
        · rw [decide_eq_true hB] at ZB
          rw [if_pos hB] at hm
          replace hm : cmpR a b = 0 := HCC.out.trans (show cc = 0 by omega)
          have hfin := Lib.hid hm
          clear hm hA hB
          go_wp2_with (first
            | (go_at_call 83; with_reducible refine (k1.out _ H1.out).mono ?_; rintro e w1 ⟨rfl, hb⟩; have h2 := H1.out.below hb; obtain ⟨_, x0', x1', y0', y1', _⟩ := id h2; have H2 := Lib.hid h2; clear h2 hb)
            | (go_at_call 83; with_reducible refine (k2.out _ H2.out).mono ?_; rintro e w2 ⟨rfl, hb⟩; have H3 := Lib.hid (H2.out.below hb); clear hb)
            | (go_at_call 84; with_reducible refine (k3.out _ H3.out).mono ?_; rintro e w3 ⟨rfl, hb⟩; have h4 := H3.out.below hb; obtain ⟨_, x0'', x1'', y0'', y1'', f0'', f1'', g0'', g1'', _⟩ := id h4; have H4 := Lib.hid h4; clear h4 hb)
            | fail)
          simp only [Exit.jump]
          go_ret
          exact ⟨by rw [hfin.out]; rfl, H4.out.bw⟩
        · rw [decide_eq_false hB] at ZB
          rw [if_neg hB] at hm
          replace hm : cmpR a b = -1 := HCC.out.trans (show cc = -1 by omega)
          have hfin := Lib.hid hm
          clear hm hA hB
          go_wp2_with (first
            | (go_at_call 83; with_reducible refine (k1.out _ H1.out).mono ?_; rintro e w1 ⟨rfl, hb⟩; have h2 := H1.out.below hb; obtain ⟨_, x0', x1', y0', y1', _⟩ := id h2; have H2 := Lib.hid h2; clear h2 hb)
            | (go_at_call 83; with_reducible refine (k2.out _ H2.out).mono ?_; rintro e w2 ⟨rfl, hb⟩; have H3 := Lib.hid (H2.out.below hb); clear hb)
            | (go_at_call 84; with_reducible refine (k3.out _ H3.out).mono ?_; rintro e w3 ⟨rfl, hb⟩; have h4 := H3.out.below hb; obtain ⟨_, x0'', x1'', y0'', y1'', f0'', f1'', g0'', g1'', _⟩ := id h4; have H4 := Lib.hid h4; clear h4 hb)
            | fail)
          simp only [Exit.jump]
          go_ret
          exact ⟨by rw [hfin.out]; rfl, H4.out.bw⟩
      · rw [decide_eq_false hA] at ZA
        rw [if_neg hA] at hm
        by_cases hB : b.num % (b.den : Int) = 0
        · rw [decide_eq_true hB] at ZB
          rw [if_pos hB] at hm
          replace hm : cmpR a b = 1 := HCC.out.trans (show cc = 1 by omega)
          have hfin := Lib.hid hm
          clear hm hA hB
          go_wp2_with (first
            | (go_at_call 83; with_reducible refine (k1.out _ H1.out).mono ?_; rintro e w1 ⟨rfl, hb⟩; have h2 := H1.out.below hb; obtain ⟨_, x0', x1', y0', y1', _⟩ := id h2; have H2 := Lib.hid h2; clear h2 hb)
            | (go_at_call 83; with_reducible refine (k2.out _ H2.out).mono ?_; rintro e w2 ⟨rfl, hb⟩; have H3 := Lib.hid (H2.out.below hb); clear hb)
            | (go_at_call 84; with_reducible refine (k3.out _ H3.out).mono ?_; rintro e w3 ⟨rfl, hb⟩; have h4 := H3.out.below hb; obtain ⟨_, x0'', x1'', y0'', y1'', f0'', f1'', g0'', g1'', _⟩ := id h4; have H4 := Lib.hid h4; clear h4 hb)
            | fail)
          simp only [Exit.jump]
          go_ret
          exact ⟨by rw [hfin.out]; rfl, H4.out.bw⟩
        · rw [decide_eq_false hB] at ZB
          rw [if_neg hB] at hm
          have na := NA.out hA
          have nb := NB.out hB
          have nd := next_den hA
          have HN := Lib.hid (And.intro na (And.intro nb (And.intro nd hm)))
          clear hm na nb nd hA hB
          go_wp2_with (first
            | (go_at_call 83; with_reducible refine (k1.out _ H1.out).mono ?_; rintro e w1 ⟨rfl, hb⟩; have h2 := H1.out.below hb; obtain ⟨_, x0', x1', y0', y1', _⟩ := id h2; have H2 := Lib.hid h2; clear h2 hb)
            | (go_at_call 83; with_reducible refine (k2.out _ H2.out).mono ?_; rintro e w2 ⟨rfl, hb⟩; have H3 := Lib.hid (H2.out.below hb); clear hb)
            | (go_at_call 84; with_reducible refine (k3.out _ H3.out).mono ?_; rintro e w3 ⟨rfl, hb⟩; have h4 := H3.out.below hb; obtain ⟨_, x0'', x1'', y0'', y1'', f0'', f1'', g0'', g1'', _⟩ := id h4; have H4 := Lib.hid h4; clear h4 hb)
            | fail)
          go_region
          go_wp2
          go_step3
          obtain ⟨na, nb, nd, hm⟩ := HN.out
          have h5 := (H4.out.set a2 tr b2 ts).drew
          refine ⟨rfl, -1, a2, tr, b2, ts, _, _, ?_, h5, na, nb, ?_, ?_⟩
          · exact cmp_frame _ _ _ _ _ _ _ _ _ _ _ _ _ _ _ _ _ _ _ _ _ _ _ _ _ _ _ _ _ _ _ _ _ _ _ _ _ _ _ _ _ _ _ _ _ _ _ _ _ _ _ _ _ _ _ _ _ _ _ _ _ _ _ _ _ _ _ _ _ _ _ _ _ _
          · exact .inr rfl
          · rw [HCC.out, ← hm]; omega
    · have hres := FF.out (by omega)
      rw [hc] at hres
      rw [hc] at k3
      have hfin := HM.out
      rw [hres] at hfin
      replace hfin : cmpR a b = 1 := HCC.out.trans (show cc = 1 by omega)
      have hfin := Lib.hid hfin
      clear hres ZA ZB
      go_wp2_with (first
        | (go_at_call 83; with_reducible refine (k1.out _ H1.out).mono ?_; rintro e w1 ⟨rfl, hb⟩; have h2 := H1.out.below hb; obtain ⟨_, x0', x1', y0', y1', _⟩ := id h2; have H2 := Lib.hid h2; clear h2 hb)
        | (go_at_call 83; with_reducible refine (k2.out _ H2.out).mono ?_; rintro e w2 ⟨rfl, hb⟩; have H3 := Lib.hid (H2.out.below hb); clear hb)
        | (go_at_call 84; with_reducible refine (k3.out _ H3.out).mono ?_; rintro e w3 ⟨rfl, hb⟩; have h4 := H3.out.below hb; obtain ⟨_, x0'', x1'', y0'', y1'', f0'', f1'', g0'', g1'', _⟩ := id h4; have H4 := Lib.hid h4; clear h4 hb)
        | fail)
      simp only [Exit.jump]
      go_ret
      exact ⟨by rw [hfin.out]; rfl, H4.out.bw⟩
  · rintro a' W ⟨s, n1, d1, n2, d2, A, B, ⟨u, rfl⟩, hc, h1, h2, hs, hm⟩
    obtain ⟨zn1, zd1⟩ := ratO_sz h1
    obtain ⟨zn2, zd2⟩ := ratO_sz h2
    obtain ⟨e1, e2⟩ := ratO_div h1
    obtain ⟨e3, e4⟩ := ratO_div h2
    have fA := (ratO_some h1).2.2
    have fB := (ratO_some h2).2.2
    have k1 := Lib.hid (fun W' (h : CpAt n1 d1 n2 d2 w W') => by have := HI.out.div zn1 zd1 W' h.bw; rw [e1, e2, opS_small (floor_small fA), opS_small (rest_small fA), opN_small (floor_small fA)] at this; exact this)
    have k2 := Lib.hid (fun W' (h : CpAt n1 d1 n2 d2 w W') => by have := HI.out.div zn2 zd2 W' h.bw; rw [e3, e4, opS_small (floor_small fB), opS_small (rest_small fB), opN_small (floor_small fB)] at this; exact this)
    have k3 := Lib.hid (fun W' (h : CpAt n1 d1 n2 d2 w W') => by have := HI.out.cmp (sz_str (floor_small fA)) (sz_str (floor_small fB)) W' h.bw; rw [show cmpO (str A.floor) (str B.floor) = cmpI A.floor B.floor by unfold cmpO; rw [num_str (floor_small fA), num_str (floor_small fB)]] at this; exact this)
    obtain ⟨_, x0, x1, y0, y1, _⟩ := id hc
    have H1 := Lib.hid hc
    clear hc e1 e2 e3 e4 zn1 zn2 zd1 zd2
    have hsb : -1 ≤ s ∧ s ≤ 1 := by rcases hs with rfl | rfl <;> omega
    obtain ⟨sb1, sb2⟩ := hsb
    have FF := Lib.hid (cmpR_floor (a := A) (b := B))
    have RR := Lib.hid (cmpR_rest (a := A) (b := B))
    have ZA := zero_eq (z := A.num % (A.den : Int))
    have ZB := zero_eq (z := B.num % (B.den : Int))
    have NA := Lib.hid (ratO_next h1)
    have NB := Lib.hid (ratO_next h2)
    have hden := Lib.hid (cellDen_eq H1.out.x1 h1)
    have HA1 := Lib.hid h1
    have HB1 := Lib.hid h2
    have HM := Lib.hid hm
    have HSS := Lib.hid hs
    clear hm h1 h2 hs fA fB
    generalize str A.floor = tp at k1 k3
    generalize str B.floor = tq at k2 k3
    generalize hr1 : str (A.num % (A.den : Int)) = tr at k1 ZA NA
    generalize hr2 : str (B.num % (B.den : Int)) = ts at k2 ZB NB
    rcases cmpI_cases A.floor B.floor with hc | hc | hc
    · have hres := FF.out (by omega)
      rw [hc] at hres
      rw [hc] at k3
      have hfin := HM.out
      rw [hres] at hfin
      replace hfin : cmpR a b = -s := by omega
      have hfin := Lib.hid hfin
      clear hres ZA ZB
      go_wp2_with (first
        | (go_at_call 83; with_reducible refine (k1.out _ H1.out).mono ?_; rintro e w1 ⟨rfl, hb⟩; have h2 := H1.out.below hb; obtain ⟨_, x0', x1', y0', y1', _⟩ := id h2; have H2 := Lib.hid h2; clear h2 hb)
        | (go_at_call 83; with_reducible refine (k2.out _ H2.out).mono ?_; rintro e w2 ⟨rfl, hb⟩; have H3 := Lib.hid (H2.out.below hb); clear hb)
        | (go_at_call 84; with_reducible refine (k3.out _ H3.out).mono ?_; rintro e w3 ⟨rfl, hb⟩; have h4 := H3.out.below hb; obtain ⟨_, x0'', x1'', y0'', y1'', f0'', f1'', g0'', g1'', _⟩ := id h4; have H4 := Lib.hid h4; clear h4 hb)
        | fail)
      simp only [Exit.jump]
      go_ret
      exact ⟨by rw [hfin.out]; rfl, H4.out.bw⟩
    · have hf := cmpI_zero hc
      have hres := RR.out hf
      rw [hc] at k3
      have hm := HM.out
      rw [hres] at hm
      clear hres hf hc
      by_cases hA : A.num % (A.den : Int) = 0
      · rw [decide_eq_true hA] at ZA
        rw [if_pos hA] at hm
        by_cases hB : B.num % (B.den : Int) = 0
        · rw [decide_eq_true hB] at ZB
          rw [if_pos hB] at hm
          replace hm : cmpR a b = 0 := by omega
          have hfin := Lib.hid hm
          clear hm hA hB
          go_wp2_with (first
            | (go_at_call 83; with_reducible refine (k1.out _ H1.out).mono ?_; rintro e w1 ⟨rfl, hb⟩; have h2 := H1.out.below hb; obtain ⟨_, x0', x1', y0', y1', _⟩ := id h2; have H2 := Lib.hid h2; clear h2 hb)
            | (go_at_call 83; with_reducible refine (k2.out _ H2.out).mono ?_; rintro e w2 ⟨rfl, hb⟩; have H3 := Lib.hid (H2.out.below hb); clear hb)
            | (go_at_call 84; with_reducible refine (k3.out _ H3.out).mono ?_; rintro e w3 ⟨rfl, hb⟩; have h4 := H3.out.below hb; obtain ⟨_, x0'', x1'', y0'', y1'', f0'', f1'', g0'', g1'', _⟩ := id h4; have H4 := Lib.hid h4; clear h4 hb)
            | fail)
          simp only [Exit.jump]
          go_ret
          exact ⟨by rw [hfin.out]; rfl, H4.out.bw⟩
        · rw [decide_eq_false hB] at ZB
          rw [if_neg hB] at hm
          replace hm : cmpR a b = -s := by omega
          have hfin := Lib.hid hm
          clear hm hA hB
          go_wp2_with (first
            | (go_at_call 83; with_reducible refine (k1.out _ H1.out).mono ?_; rintro e w1 ⟨rfl, hb⟩; have h2 := H1.out.below hb; obtain ⟨_, x0', x1', y0', y1', _⟩ := id h2; have H2 := Lib.hid h2; clear h2 hb)
            | (go_at_call 83; with_reducible refine (k2.out _ H2.out).mono ?_; rintro e w2 ⟨rfl, hb⟩; have H3 := Lib.hid (H2.out.below hb); clear hb)
            | (go_at_call 84; with_reducible refine (k3.out _ H3.out).mono ?_; rintro e w3 ⟨rfl, hb⟩; have h4 := H3.out.below hb; obtain ⟨_, x0'', x1'', y0'', y1'', f0'', f1'', g0'', g1'', _⟩ := id h4; have H4 := Lib.hid h4; clear h4 hb)
            | fail)
          simp only [Exit.jump]
          go_ret
          exact ⟨by rw [hfin.out]; rfl, H4.out.bw⟩
      · rw [decide_eq_false hA] at ZA
        rw [if_neg hA] at hm
        by_cases hB : B.num % (B.den : Int) = 0
        · rw [decide_eq_true hB] at ZB
          rw [if_pos hB] at hm
          replace hm : cmpR a b = s := by omega
          have hfin := Lib.hid hm
          clear hm hA hB
          go_wp2_with (first
            | (go_at_call 83; with_reducible refine (k1.out _ H1.out).mono ?_; rintro e w1 ⟨rfl, hb⟩; have h2 := H1.out.below hb; obtain ⟨_, x0', x1', y0', y1', _⟩ := id h2; have H2 := Lib.hid h2; clear h2 hb)
            | (go_at_call 83; with_reducible refine (k2.out _ H2.out).mono ?_; rintro e w2 ⟨rfl, hb⟩; have H3 := Lib.hid (H2.out.below hb); clear hb)
            | (go_at_call 84; with_reducible refine (k3.out _ H3.out).mono ?_; rintro e w3 ⟨rfl, hb⟩; have h4 := H3.out.below hb; obtain ⟨_, x0'', x1'', y0'', y1'', f0'', f1'', g0'', g1'', _⟩ := id h4; have H4 := Lib.hid h4; clear h4 hb)
            | fail)
          simp only [Exit.jump]
          go_ret
          exact ⟨by rw [hfin.out]; rfl, H4.out.bw⟩
        · rw [decide_eq_false hB] at ZB
          rw [if_neg hB] at hm
          have na := NA.out hA
          have nb := NB.out hB
          have nd := next_den hA
          have HN := Lib.hid (And.intro na (And.intro nb (And.intro nd hm)))
          clear hm na nb nd hA hB
          go_wp2_with (first
            | (go_at_call 83; with_reducible refine (k1.out _ H1.out).mono ?_; rintro e w1 ⟨rfl, hb⟩; have h2 := H1.out.below hb; obtain ⟨_, x0', x1', y0', y1', _⟩ := id h2; have H2 := Lib.hid h2; clear h2 hb)
            | (go_at_call 83; with_reducible refine (k2.out _ H2.out).mono ?_; rintro e w2 ⟨rfl, hb⟩; have H3 := Lib.hid (H2.out.below hb); clear hb)
            | (go_at_call 84; with_reducible refine (k3.out _ H3.out).mono ?_; rintro e w3 ⟨rfl, hb⟩; have h4 := H3.out.below hb; obtain ⟨_, x0'', x1'', y0'', y1'', f0'', f1'', g0'', g1'', _⟩ := id h4; have H4 := Lib.hid h4; clear h4 hb)
            | fail)
          go_region
          go_wp2
          go_step3
          obtain ⟨na, nb, nd, hm⟩ := HN.out
          have h5 := (H4.out.set d1 tr d2 ts).drew
          refine ⟨rfl, ⟨-s, d1, tr, d2, ts, _, _, ?_, h5, na, nb, ?_, ?_⟩, ?_⟩
          · exact cmp_frame _ _ _ _ _ _ _ _ _ _ _ _ _ _ _ _ _ _ _ _ _ _ _ _ _ _ _ _ _ _ _ _ _ _ _ _ _ _ _ _ _ _ _ _ _ _ _ _ _ _ _ _ _ _ _ _ _ _ _ _ _ _ _ _ _ _ _ _ _ _ _ _ _ _
          · rcases HSS.out with rfl | rfl
            · exact .inr rfl
            · exact .inl rfl
          · rw [← hm, Int.neg_mul, Int.mul_neg]
          · show cellDen w.heap.size _ < cellDen w.heap.size W
            rw [hden.out, cellDen_eq h5.x1 na]
            exact nd
    · have hres := FF.out (by omega)
      rw [hc] at hres
      rw [hc] at k3
      have hfin := HM.out
      rw [hres] at hfin
      replace hfin : cmpR a b = s := by omega
      have hfin := Lib.hid hfin
      clear hres ZA ZB
      go_wp2_with (first
        | (go_at_call 83; with_reducible refine (k1.out _ H1.out).mono ?_; rintro e w1 ⟨rfl, hb⟩; have h2 := H1.out.below hb; obtain ⟨_, x0', x1', y0', y1', _⟩ := id h2; have H2 := Lib.hid h2; clear h2 hb)
        | (go_at_call 83; with_reducible refine (k2.out _ H2.out).mono ?_; rintro e w2 ⟨rfl, hb⟩; have H3 := Lib.hid (H2.out.below hb); clear hb)
        | (go_at_call 84; with_reducible refine (k3.out _ H3.out).mono ?_; rintro e w3 ⟨rfl, hb⟩; have h4 := H3.out.below hb; obtain ⟨_, x0'', x1'', y0'', y1'', f0'', f1'', g0'', g1'', _⟩ := id h4; have H4 := Lib.hid h4; clear h4 hb)
        | fail)
      simp only [Exit.jump]
      go_ret
      exact ⟨by rw [hfin.out]; rfl, H4.out.bw⟩
end Go.Proofs.YtgngepbemgbbeaaGreatDoor

namespace Go.Proofs.YtgngepbemgbbeaaGreatDoor
open Go.RowKit Go.Shelf
attribute [local go_sem] Oper.semAt_some

set_option maxRecDepth 100000 in
set_option maxHeartbeats 4000000 in
theorem RCompare_no {a1 a2 b1 b2 : ByteArray} {w : World} (hi : IOps w) (z1 : Sz a1) (z2 : Sz a2) (z3 : Sz b1) (z4 : Sz b2) (hn : ratO a1 a2 = none ∨ ratO b1 b2 = none) :
    Calls Tryz.prog 40 #[.agg #[.string a1, .string a2], .agg #[.string b1, .string b2]] w fun e W' => e = .returned (.int .i64 0) ∧ Below w.heap.size w W' := by
  have v1 := fun W (h : CpAt a1 a2 b1 b2 w W) => Valid_q z1 z2 (hi.below h.bw)
  have v2 := fun W (h : CpAt a1 a2 b1 b2 w W) => Valid_q z3 z4 (hi.below h.bw)
  have H0 := Lib.hid (CpAt.start w a1 a2 b1 b2 47)
  have hv : vR a1 a2 = false ∨ vR a1 a2 = true ∧ vR b1 b2 = false := by
    unfold vR
    rcases hn with h | h
    · rw [h]; exact .inl rfl
    · rw [h]
      cases ratO a1 a2
      · exact .inl rfl
      · exact .inr ⟨rfl, rfl⟩
  clear hi z1 z2 z3 z4 hn
  rcases hv with h | ⟨h, h'⟩
  · rw [h] at v1
    have V1 := Lib.hid v1
    clear v1 v2 h
    go_enter Tryz.func40, Tryz.ntmps40
    go_wp2
    go_step3
    go_wp2_with (first
      | (go_at_call 82; with_reducible refine (V1.out _ H0.out).mono ?_; rintro e w1 ⟨rfl, hb⟩; have H1 := Lib.hid (H0.out.below hb); clear hb)
      | fail)
    rw [Exit.noGoto_ret]
    go_ret
    exact ⟨rfl, H1.out.bw⟩
  · rw [h] at v1
    rw [h'] at v2
    have V1 := Lib.hid v1
    have V2 := Lib.hid v2
    clear v1 v2 h h'
    go_enter Tryz.func40, Tryz.ntmps40
    go_wp2
    go_step3
    go_wp2_with (first
      | (go_at_call 82; with_reducible refine (V1.out _ H0.out).mono ?_; rintro e w1 ⟨rfl, hb⟩; have h1 := H0.out.below hb; obtain ⟨_, x0, x1, y0, y1, _⟩ := id h1; have H1 := Lib.hid h1; clear hb h1)
      | (go_at_call 82; with_reducible refine (V2.out _ H1.out).mono ?_; rintro e w2 ⟨rfl, hb⟩; have H2 := Lib.hid (H1.out.below hb); clear hb)
      | fail)
    rw [Exit.noGoto_ret]
    go_ret
    exact ⟨rfl, H2.out.bw⟩
theorem RCompare_q {a1 a2 b1 b2 : ByteArray} {w : World} (hi : IOps w) (z1 : Sz a1) (z2 : Sz a2) (z3 : Sz b1) (z4 : Sz b2) :
    Calls Tryz.prog 40 #[.agg #[.string a1, .string a2], .agg #[.string b1, .string b2]] w fun e W' => e = .returned (.int .i64 (cmpS a1 a2 b1 b2)) ∧ Below w.heap.size w W' := by
  by_cases hn : ratO a1 a2 = none ∨ ratO b1 b2 = none
  · rw [cmpS_none hn]
    exact RCompare_no hi z1 z2 z3 z4 hn
  · obtain ⟨a, ha⟩ : ∃ a, ratO a1 a2 = some a := Option.ne_none_iff_exists'.1 (fun h => hn (.inl h))
    obtain ⟨b, hb⟩ : ∃ b, ratO b1 b2 = some b := Option.ne_none_iff_exists'.1 (fun h => hn (.inr h))
    rw [cmpS_some ha hb]
    exact Compare_some hi ha hb
end Go.Proofs.YtgngepbemgbbeaaGreatDoor

