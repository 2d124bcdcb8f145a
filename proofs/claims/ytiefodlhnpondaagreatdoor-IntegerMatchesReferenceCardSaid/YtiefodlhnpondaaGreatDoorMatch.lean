/-
  The law IntegerMatchesReference: package integer and its reference implementation answer the same.
-/
import Derived.Test.YtiefodlhnpondaaGreatDoorAll
namespace Go.Proofs.YtiefodlhnpondaaGreatDoor
open Go.RowKit Go.Shelf
attribute [local go_sem] Oper.semAt_some

theorem str_sz {z : Int} {s : ByteArray} (e : s = str z) (h : small z = true) : Sz s := by
  unfold Sz
  rw [e, str_size]
  have := txt_length z
  have : nDig z.natAbs ≤ 200 := by simpa [small] using h
  omega

/-- Three pairs of texts, in a block of their own. -/
structure TabAt (B : Nat) (W : World) : Prop where
  row : ∀ k, k < 3 → ∃ x y, Sz x ∧ Sz y ∧ W.cell? ⟨B, k * 2, none⟩ = some (.string x) ∧ W.cell? ⟨B, k * 2 + 1, none⟩ = some (.string y)
  sz : B < W.heap.size
theorem TabAt.below {B : Nat} {W W' : World} (h : TabAt B W) (hb : Below W.heap.size W W') : TabAt B W' := by
  refine ⟨fun k hk => ?_, Nat.lt_of_lt_of_le h.sz hb.size⟩
  obtain ⟨x, y, h1, h2, h3, h4⟩ := h.row k hk
  exact ⟨x, y, h1, h2, (hb.cell (p := ⟨B, k * 2, none⟩) h.sz).trans h3, (hb.cell (p := ⟨B, k * 2 + 1, none⟩) h.sz).trans h4⟩
theorem TabAt.start {w : World} {a b c d e f : ByteArray} (t : TypeId) (ha : Sz a) (hb : Sz b) (hc : Sz c) (hd : Sz d) (he : Sz e) (hf : Sz f) :
    TabAt w.heap.size (w.alloc (.cells #[.string a, .string b, .string c, .string d, .string e, .string f] t)) := by
  refine ⟨fun k hk => ?_, by simp⟩
  rcases k with _ | _ | _ | k
  · exact ⟨a, b, ha, hb, by simp [go_sem], by simp [go_sem]⟩
  · exact ⟨c, d, hc, hd, by simp [go_sem], by simp [go_sem]⟩
  · exact ⟨e, f, he, hf, by simp [go_sem], by simp [go_sem]⟩
  · omega

/-- The same, and the pair at hand in a box of its own; all behind a first world. -/
structure PairAt2 (w : World) (B X : Nat) (x y : ByteArray) (W : World) : Prop where
  bw : Below w.heap.size w W
  tab : TabAt B W
  c0 : W.cell? ⟨X, 0, none⟩ = some (.string x)
  c1 : W.cell? ⟨X, 1, none⟩ = some (.string y)
  sz : X < W.heap.size
theorem PairAt2.below {w : World} {B X : Nat} {x y : ByteArray} {W W' : World} (h : PairAt2 w B X x y W) (hb : Below W.heap.size W W') : PairAt2 w B X x y W' :=
  ⟨h.bw.trans (hb.mono h.bw.size), h.tab.below hb, (hb.cell (p := ⟨X, 0, none⟩) h.sz).trans h.c0, (hb.cell (p := ⟨X, 1, none⟩) h.sz).trans h.c1, Nat.lt_of_lt_of_le h.sz hb.size⟩
theorem PairAt2.drew {w : World} {B X : Nat} {x y : ByteArray} {W : World} (h : PairAt2 w B X x y W) : PairAt2 w B X x y W.drew :=
  ⟨h.bw.drew, ⟨h.tab.row, h.tab.sz⟩, h.c0, h.c1, h.sz⟩
theorem PairAt2.start {w : World} {B : Nat} {x y : ByteArray} {W : World} (t : TypeId) (h1 : Below w.heap.size w W) (h2 : TabAt B W) : PairAt2 w B W.heap.size x y (W.alloc (.cells #[.string x, .string y] t)) :=
  ⟨h1.alloc h1.size _, h2.below ((Below.refl _ _).alloc (Nat.le_refl _) _), by simp [go_sem], by simp [go_sem], by simp⟩
theorem PairAt2.calls {w : World} {B X : Nat} {x y : ByteArray} {W : World} {f : FuncId} {args : Array Value} {v : Value} (h : PairAt2 w B X x y W)
    (hc : Calls Tryz.prog f args W fun e W' => e = .returned v ∧ Below W.heap.size W W') : Calls Tryz.prog f args W fun e W' => e = .returned v ∧ PairAt2 w B X x y W' :=
  hc.mono fun _ _ ⟨he, hb⟩ => ⟨he, h.below hb⟩

set_option maxHeartbeats 16000000 in
set_option maxRecDepth 100000 in
theorem IntegerMatchesReference_law (a b : ByteArray) (n : Int) (ha : a.size ≤ maxLen) (hb : b.size ≤ maxLen) (hn : -9223372036854775808 ≤ n ∧ n ≤ 9223372036854775807) (w : World) (hG : Glob w) (hE : GlobE w) :
    Calls Tryz.prog 9 #[.string a, .string b, .int .i64 n] w fun e w' => e = .returned (.bool true) ∧ Below w.heap.size w w' := by
  obtain ⟨n1, n2⟩ := hn
  unfold maxLen at ha hb
  have hk0 := Below.refl w.heap.size w
  have s0 := Lib.hid (sane_s hG)
  obtain ⟨u, hu⟩ : ∃ u, u = a.extract 0 (min (a.size : Int) 210).toNat := ⟨_, rfl⟩
  obtain ⟨v, hv⟩ : ∃ v, v = b.extract 0 (min (b.size : Int) 210).toNat := ⟨_, rfl⟩
  have zu : Sz u := by unfold Sz; rw [hu, ByteArray.size_extract]; omega
  have zv : Sz v := by unfold Sz; rw [hv, ByteArray.size_extract]; omega
  have HU := Lib.hid hu
  have HV := Lib.hid hv
  clear hu hv
  have bm := fun (l : List UInt8) (k : Nat) (h0 : 0 < k) (h : k ≤ 200) => (made_bd l k h0).small h
  obtain ⟨p1, hp1⟩ : ∃ s, s = str (madeZ u.data.toList 70) := ⟨_, rfl⟩
  obtain ⟨q1, hq1⟩ : ∃ s, s = str (madeZ v.data.toList 30) := ⟨_, rfl⟩
  obtain ⟨p2, hp2⟩ : ∃ s, s = str (madeZ u.data.toList 12) := ⟨_, rfl⟩
  obtain ⟨q2, hq2⟩ : ∃ s, s = str n := ⟨_, rfl⟩
  have m1 := Lib.hid (Made_s (w := w) (s := u) (t := p1) (most := 70) (i := 70) rfl (by omega) hp1)
  have m2 := Lib.hid (Made_s (w := w) (s := v) (t := q1) (most := 30) (i := 30) rfl (by omega) hq1)
  have m3 := Lib.hid (Made_s (w := w) (s := u) (t := p2) (most := 12) (i := 12) rfl (by omega) hp2)
  have f1 := Lib.hid (rFromInt_s (w := w) n1 n2 hq2)
  have f2 := Lib.hid (FromInt_s hG n1 n2 hq2)
  have zp1 : Sz p1 := str_sz hp1 (bm _ 70 (by omega) (by omega))
  have zq1 : Sz q1 := str_sz hq1 (bm _ 30 (by omega) (by omega))
  have zp2 : Sz p2 := str_sz hp2 (bm _ 12 (by omega) (by omega))
  have zq2 : Sz q2 := str_sz hq2 (small_i64 n1 n2)
  clear hp1 hq1 hp2 hq2 bm
  go_enter Tryz.func9, Tryz.ntmps9
  go_wp2_with (go_at_call 12; with_reducible refine (s0.out _ hk0).mono ?_; rintro e w1 ⟨rfl, hk1⟩)
  rw [← HU.out, ← HV.out]
  go_wp2_with (first
    | (go_at_call 13; with_reducible refine (m1.out _ hk1).mono ?_; rintro e w2 ⟨rfl, hk2⟩)
    | (go_at_call 13; with_reducible refine (m2.out _ hk2).mono ?_; rintro e w3 ⟨rfl, hk3⟩)
    | (go_at_call 13; with_reducible refine (m3.out _ hk3).mono ?_; rintro e w4 ⟨rfl, hk4⟩)
    | (go_at_call 24; with_reducible refine (f1.out _ hk4).mono ?_; rintro e w5 ⟨rfl, hk5⟩))
  obtain ⟨B, hB⟩ : ∃ B, B = w5.heap.size := ⟨_, rfl⟩
  obtain ⟨W0, hW0⟩ : ∃ W0, w5.alloc (.cells #[.string u, .string v, .string p1, .string q1, .string p2, .string q2] 37) = W0 := ⟨_, rfl⟩
  have ht : TabAt B W0 := by rw [hB, ← hW0]; exact TabAt.start _ zu zv zp1 zq1 zp2 zq2
  have hk6 : Below w.heap.size w W0 := by rw [← hW0]; exact hk5.alloc hk5.size _
  rw [hW0, ← hB]
  have HT := Lib.hid ht
  have HK6 := Lib.hid hk6
  clear ht hk6 hW0 hB zu zv zp1 zq1 zp2 zq2 m1 m2 m3
  go_loopw [50] (fun i wr => ∃ k : Nat, k ≤ 3 ∧ i = .int .i64 (k : Int) ∧ TabAt B wr ∧ Below w.heap.size w wr) (fun i _ => 3 - (intOf i).toNat)
  case atStart => exact ⟨0, by omega, rfl, HT.out, HK6.out⟩
  case round =>
    obtain ⟨k, hk, rfl, htab, hb⟩ := hrel
    by_cases hk3 : k < 3
    · obtain ⟨x, y, zx, zy, hcx, hcy⟩ := htab.row k hk3
      have HTB := Lib.hid htab
      have HB := Lib.hid hb
      clear htab hb
      have c0 := Lib.hid (fun (X : Nat) (W : World) (h : PairAt2 w B X x y W) => h.calls (iAdd_all (hG.below h.bw) zx zy W (Below.refl _ _)))
      have c1 := Lib.hid (fun (X : Nat) (W : World) (h : PairAt2 w B X x y W) => h.calls (rAdd_all zx zy W (Below.refl _ _)))
      have c2 := Lib.hid (fun (X : Nat) (W : World) (h : PairAt2 w B X x y W) => h.calls (iSub_all (hG.below h.bw) zx zy W (Below.refl _ _)))
      have c3 := Lib.hid (fun (X : Nat) (W : World) (h : PairAt2 w B X x y W) => h.calls (rSub_all zx zy W (Below.refl _ _)))
      have c4 := Lib.hid (fun (X : Nat) (W : World) (h : PairAt2 w B X x y W) => h.calls (iMul_all (hG.below h.bw) zx zy W (Below.refl _ _)))
      have c5 := Lib.hid (fun (X : Nat) (W : World) (h : PairAt2 w B X x y W) => h.calls (rMul_all zx zy W (Below.refl _ _)))
      have c6 := Lib.hid (fun (X : Nat) (W : World) (h : PairAt2 w B X x y W) => h.calls (iDiv_all (hG.below h.bw) zx zy W (Below.refl _ _)))
      have c7 := Lib.hid (fun (X : Nat) (W : World) (h : PairAt2 w B X x y W) => h.calls (rDiv_all zx zy W (Below.refl _ _)))
      have c8 := Lib.hid (fun (X : Nat) (W : World) (h : PairAt2 w B X x y W) => h.calls (iGcd_all (hG.below h.bw) zx zy W (Below.refl _ _)))
      have c9 := Lib.hid (fun (X : Nat) (W : World) (h : PairAt2 w B X x y W) => h.calls (rGcd_all zx zy W (Below.refl _ _)))
      have c10 := Lib.hid (fun (X : Nat) (W : World) (h : PairAt2 w B X x y W) => h.calls (iRoot_all (hG.below h.bw) zx W (Below.refl _ _)))
      have c11 := Lib.hid (fun (X : Nat) (W : World) (h : PairAt2 w B X x y W) => h.calls (rRoot_all zx W (Below.refl _ _)))
      have c12 := Lib.hid (fun (X : Nat) (W : World) (h : PairAt2 w B X x y W) => h.calls (iToInt_all (hE.below h.bw) zx W (Below.refl _ _)))
      have c13 := Lib.hid (fun (X : Nat) (W : World) (h : PairAt2 w B X x y W) => h.calls (rToInt_all zx W (Below.refl _ _)))
      have c14 := Lib.hid (fun (X : Nat) (W : World) (h : PairAt2 w B X x y W) => h.calls (iValid_all zx W (Below.refl _ _)))
      have c15 := Lib.hid (fun (X : Nat) (W : World) (h : PairAt2 w B X x y W) => h.calls (rValid_all zx W (Below.refl _ _)))
      have c16 := Lib.hid (fun (X : Nat) (W : World) (h : PairAt2 w B X x y W) => h.calls (iCompare_all zx zy W (Below.refl _ _)))
      have c17 := Lib.hid (fun (X : Nat) (W : World) (h : PairAt2 w B X x y W) => h.calls (rCompare_all zx zy W (Below.refl _ _)))
      have hst := PairAt2.start (x := x) (y := y) 37 HB.out HTB.out
      go_wp2_with (first
        | (go_at_call 14; with_reducible refine (c0.out _ _ hst).mono ?_; rintro e v0 ⟨rfl, hA0⟩; obtain ⟨_, _, x0, y0, _⟩ := id hA0)
        | (go_at_call 25; with_reducible refine (c1.out _ _ hA0).mono ?_; rintro e v1 ⟨rfl, hA1⟩; obtain ⟨_, _, x1, y1, _⟩ := id hA1)
        | (go_at_call 16; with_reducible refine (c2.out _ _ hA1).mono ?_; rintro e v2 ⟨rfl, hA2⟩; obtain ⟨_, _, x2, y2, _⟩ := id hA2)
        | (go_at_call 26; with_reducible refine (c3.out _ _ hA2).mono ?_; rintro e v3 ⟨rfl, hA3⟩; obtain ⟨_, _, x3, y3, _⟩ := id hA3)
        | (go_at_call 15; with_reducible refine (c4.out _ _ hA3).mono ?_; rintro e v4 ⟨rfl, hA4⟩; obtain ⟨_, _, x4, y4, _⟩ := id hA4)
        | (go_at_call 27; with_reducible refine (c5.out _ _ hA4).mono ?_; rintro e v5 ⟨rfl, hA5⟩; obtain ⟨_, _, x5, y5, _⟩ := id hA5)
        | (go_at_call 17; with_reducible refine (c6.out _ _ hA5).mono ?_; rintro e v6 ⟨rfl, hA6⟩; obtain ⟨_, _, x6, y6, _⟩ := id hA6)
        | (go_at_call 28; with_reducible refine (c7.out _ _ hA6).mono ?_; rintro e v7 ⟨rfl, hA7⟩; obtain ⟨_, _, x7, y7, _⟩ := id hA7)
        | (go_at_call 20; with_reducible refine (c8.out _ _ hA7).mono ?_; rintro e v8 ⟨rfl, hA8⟩; obtain ⟨_, _, x8, y8, _⟩ := id hA8)
        | (go_at_call 29; with_reducible refine (c9.out _ _ hA8).mono ?_; rintro e v9 ⟨rfl, hA9⟩; obtain ⟨_, _, x9, y9, _⟩ := id hA9)
        | (go_at_call 21; with_reducible refine (c10.out _ _ hA9).mono ?_; rintro e v10 ⟨rfl, hA10⟩; obtain ⟨_, _, x10, y10, _⟩ := id hA10)
        | (go_at_call 30; with_reducible refine (c11.out _ _ hA10).mono ?_; rintro e v11 ⟨rfl, hA11⟩; obtain ⟨_, _, x11, y11, _⟩ := id hA11)
        | (go_at_call 31; with_reducible refine (c12.out _ _ hA11).mono ?_; rintro e v12 ⟨rfl, hA12⟩; obtain ⟨_, _, x12, y12, _⟩ := id hA12)
        | (go_at_call 32; with_reducible refine (c13.out _ _ hA12).mono ?_; rintro e v13 ⟨rfl, hA13⟩; obtain ⟨_, _, x13, y13, _⟩ := id hA13))
      clear hst hA0 hA1 hA2 hA3 hA4 hA5 hA6 hA7 hA8 hA9 hA10 hA11 hA12 x0 x1 x2 x3 x4 x5 x6 x7 x8 x9 x10 x11 x12 y0 y1 y2 y3 y4 y5 y6 y7 y8 y9 y10 y11 y12 c0 c1 c2 c3 c4 c5 c6 c7 c8 c9 c10 c11 c12 c13
      have HA := Lib.hid hA13
      clear hA13
      go_region_held3 (fun W => W.cell? ⟨wr.heap.size, 0, none⟩ = some (.string x) ∧ W.cell? ⟨wr.heap.size, 1, none⟩ = some (.string y)) (first | exact ⟨HA17.out.c0, HA17.out.c1⟩ | exact ⟨HA16.out.c0, HA16.out.c1⟩ | exact ⟨HA15.out.c0, HA15.out.c1⟩ | exact ⟨HA14.out.c0, HA14.out.c1⟩ | exact ⟨HA.out.c0, HA.out.c1⟩) (first
        | (go_at_call 19; refine (c14.out _ _ (by exact HA.out.drew)).mono ?_; rintro e v14 ⟨rfl, hA14⟩; have HA14 := Lib.hid hA14; clear hA14)
        | (go_at_call 33; refine (c15.out _ _ (by exact HA14.out)).mono ?_; rintro e v15 ⟨rfl, hA15⟩; have HA15 := Lib.hid hA15; clear hA15)
        | (go_at_call 18; refine (c16.out _ _ (by exact HA15.out)).mono ?_; rintro e v16 ⟨rfl, hA16⟩; have HA16 := Lib.hid hA16; clear hA16)
        | (go_at_call 34; refine (c17.out _ _ (by exact HA16.out)).mono ?_; rintro e v17 ⟨rfl, hA17⟩; have HA17 := Lib.hid hA17; clear hA17))
      all_goals go_wp2
      all_goals exact ⟨⟨k + 1, by omega, by go_num, HA17.out.tab, HA17.out.bw⟩, by simp only [intOf]; omega⟩
    · obtain rfl : k = 3 := by omega
      clear htab HT HK6
      go_wp2_with (first
        | (go_at_call 35; with_reducible refine (f2.out _ hb).mono ?_; rintro e v1 ⟨rfl, hb1⟩)
        | (go_at_call 24; with_reducible refine (f1.out _ hb1).mono ?_; rintro e v2 ⟨rfl, hb2⟩))
      go_ret
      exact ⟨rfl, hb2⟩
end Go.Proofs.YtiefodlhnpondaaGreatDoor
