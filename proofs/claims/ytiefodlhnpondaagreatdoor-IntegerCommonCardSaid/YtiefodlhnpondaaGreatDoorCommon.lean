/-
  The law IntegerCommon: the greatest common divisor.
-/
import Derived.Test.YtiefodlhnpondaaGreatDoorAt
import Derived.Test.YtiefodlhnpondaaGreatDoorDivided
namespace Go.Proofs.YtiefodlhnpondaaGreatDoor
open Go.RowKit Go.Shelf
attribute [local go_sem] Oper.semAt_some

/-- What is left of two integers behind their greatest common divisor. -/
theorem gcd_left {x y : Int} {G : Nat} (hG : G = Nat.gcd x.natAbs y.natAbs) (h0 : 0 < G) : x % (G : Int) = 0 ∧ y % (G : Int) = 0 ∧ Nat.gcd (x / (G : Int)).natAbs (y / (G : Int)).natAbs = 1 := by
  have dx : (G : Int) ∣ x := by rw [hG]; exact Int.ofNat_dvd_left.2 (Nat.gcd_dvd_left _ _)
  have dy : (G : Int) ∣ y := by rw [hG]; exact Int.ofNat_dvd_left.2 (Nat.gcd_dvd_right _ _)
  obtain ⟨p, rfl⟩ := dx
  obtain ⟨q, rfl⟩ := dy
  have hg0 : (G : Int) ≠ 0 := by omega
  refine ⟨Int.mul_emod_right _ _, Int.mul_emod_right _ _, ?_⟩
  rw [Int.mul_ediv_cancel_left _ hg0, Int.mul_ediv_cancel_left _ hg0]
  rw [Int.natAbs_mul, Int.natAbs_mul, Int.natAbs_natCast, Nat.gcd_mul_left] at hG
  have h1 : G * Nat.gcd p.natAbs q.natAbs = G * 1 := by omega
  exact Nat.eq_of_mul_eq_mul_left h0 h1
theorem gcd_all {x y z : Int} {G : Nat} (hG : G = Nat.gcd x.natAbs y.natAbs) : Nat.gcd (x * z).natAbs (y * z).natAbs = G * z.natAbs := by
  rw [Int.natAbs_mul, Int.natAbs_mul, Nat.gcd_mul_right, hG]
theorem is_zero {y : Int} {sy : ByteArray} (ey : sy = str y) (h : y = 0) : sy.toList = [48] := by
  rw [ey, h, ← str0, Lib.toList_data]

set_option maxHeartbeats 8000000 in
set_option maxRecDepth 100000 in
theorem Common_0 (a b c : ByteArray) (w : World) (hG : Glob w) (x y z : Int) (ex : x = madeZ a.data.toList 40) (ey : y = madeZ b.data.toList 40) (ez : z = madeZ c.data.toList 40) (x0 : x = 0) (y0 : y = 0) :
    Calls Tryz.prog 5 #[.string a, .string b, .string c] w fun e w' => e = .returned (.bool true) ∧ Below w.heap.size w w' := by
  have hk0 := Below.refl w.heap.size w
  have s0 := sane_s hG
  have bx := made_bd a.data.toList 40 (by omega)
  have bY := made_bd b.data.toList 40 (by omega)
  have bz := made_bd c.data.toList 40 (by omega)
  rw [← ex] at bx
  rw [← ey] at bY
  rw [← ez] at bz
  obtain ⟨sx, tx⟩ : ∃ s, s = str x := ⟨_, rfl⟩
  have hx := bx.small (by omega)
  have mx := Made_s (w := w) (s := a) (t := sx) (most := 40) (i := 40) rfl (by omega) (by rw [tx, ex])
  obtain ⟨sy, ty⟩ : ∃ s, s = str y := ⟨_, rfl⟩
  have hy := bY.small (by omega)
  have my := Made_s (w := w) (s := b) (t := sy) (most := 40) (i := 40) rfl (by omega) (by rw [ty, ey])
  obtain ⟨sz, tz⟩ : ∃ s, s = str z := ⟨_, rfl⟩
  have hz := bz.small (by omega)
  have mz := Made_s (w := w) (s := c) (t := sz) (most := 40) (i := 40) rfl (by omega) (by rw [tz, ez])
  have c1 := Gcd_s hG hx hy tx ty (so := ⟨#[48]⟩) (by rw [x0, y0]; exact str0)
  have c2 := Gcd_s hG hy hx ty tx (so := ⟨#[48]⟩) (by rw [x0, y0]; exact str0)
  have c3 := Compare_v (k := 0) (w := w) (x := 0) (y := 0) (sx := ⟨#[48]⟩) (sy := ⟨#[48]⟩) (by decide) (by decide) str0 str0 (by decide)
  have z1 := is_zero tx x0
  have z2 := is_zero ty y0
  have z3 : (sx.toList == [48]) = true := by rw [z1]; rfl
  have z4 : (sy.toList == [48]) = true := by rw [z2]; rfl
  clear tx ty tz hx hy hz bx bY bz ex ey ez x0 y0
  go_enter Tryz.func5, Tryz.ntmps5
  go_wp2_with (first
    | (go_at_call 12; with_reducible refine (s0 _ hk0).mono ?_; rintro e w' ⟨rfl, hk1⟩)
    | (go_at_call 13; with_reducible refine (mx _ hk1).mono ?_; rintro e w' ⟨rfl, hk2⟩)
    | (go_at_call 13; with_reducible refine (my _ hk2).mono ?_; rintro e w' ⟨rfl, hk3⟩)
    | (go_at_call 13; with_reducible refine (mz _ hk3).mono ?_; rintro e w' ⟨rfl, hk4⟩)
    | (go_at_call 20; with_reducible refine (c1 _ hk4).mono ?_; rintro e w' ⟨rfl, hk5⟩)
    | (go_at_call 20; with_reducible refine (c2 _ hk5).mono ?_; rintro e w' ⟨rfl, hk6⟩)
    | (go_at_call 18; with_reducible refine (c3 _ hk6).mono ?_; rintro e w' ⟨rfl, hk7⟩))
  go_ret
  exact ⟨rfl, hk7⟩

set_option maxHeartbeats 8000000 in
set_option maxRecDepth 100000 in
theorem Common_1 (a b c : ByteArray) (w : World) (hG : Glob w) (x y z : Int) (ex : x = madeZ a.data.toList 40) (ey : y = madeZ b.data.toList 40) (ez : z = madeZ c.data.toList 40) (x0 : x ≠ 0) (zn : z < 0) :
    Calls Tryz.prog 5 #[.string a, .string b, .string c] w fun e w' => e = .returned (.bool true) ∧ Below w.heap.size w w' := by
  have hk0 := Below.refl w.heap.size w
  have s0 := sane_s hG
  have bx := made_bd a.data.toList 40 (by omega)
  have bY := made_bd b.data.toList 40 (by omega)
  have bz := made_bd c.data.toList 40 (by omega)
  rw [← ex] at bx
  rw [← ey] at bY
  rw [← ez] at bz
  obtain ⟨sx, tx⟩ : ∃ s, s = str x := ⟨_, rfl⟩
  have hx := bx.small (by omega)
  have mx := Made_s (w := w) (s := a) (t := sx) (most := 40) (i := 40) rfl (by omega) (by rw [tx, ex])
  obtain ⟨sy, ty⟩ : ∃ s, s = str y := ⟨_, rfl⟩
  have hy := bY.small (by omega)
  have my := Made_s (w := w) (s := b) (t := sy) (most := 40) (i := 40) rfl (by omega) (by rw [ty, ey])
  obtain ⟨sz, tz⟩ : ∃ s, s = str z := ⟨_, rfl⟩
  have hz := bz.small (by omega)
  have mz := Made_s (w := w) (s := c) (t := sz) (most := 40) (i := 40) rfl (by omega) (by rw [tz, ez])
  obtain ⟨G, hg⟩ : ∃ G, G = Nat.gcd x.natAbs y.natAbs := ⟨_, rfl⟩
  have hg0 : 0 < G := by
    rcases Nat.eq_zero_or_pos G with h | h
    · rw [h] at hg
      have := Nat.gcd_eq_zero_iff.1 hg.symm
      omega
    · exact h
  obtain ⟨g1, g2, g3⟩ := gcd_left hg hg0
  have g4 := gcd_all (z := z) hg
  have bg : Bd (G : Int) 40 := by
    rcases Nat.eq_zero_or_pos x.natAbs with h | h
    · rw [h, Nat.gcd_zero_left] at hg
      exact bY.le (by omega)
    · exact bx.le (by have := Nat.gcd_le_left y.natAbs h; omega)
  have hgi : (G : Int) ≠ 0 := by omega
  obtain ⟨sg, tg⟩ : ∃ s, s = str ((G : Int)) := ⟨_, rfl⟩
  have hg1 : small ((G : Int)) = true := (bg).small (by decide)
  obtain ⟨sp, tp⟩ : ∃ s, s = str (x / (G : Int)) := ⟨_, rfl⟩
  have hp : small (x / (G : Int)) = true := (bx.le (Int.natAbs_ediv_le_natAbs x (G : Int))).small (by decide)
  obtain ⟨sq, tq⟩ : ∃ s, s = str (y / (G : Int)) := ⟨_, rfl⟩
  have hq : small (y / (G : Int)) = true := (bY.le (Int.natAbs_ediv_le_natAbs y (G : Int))).small (by decide)
  obtain ⟨su, tu⟩ : ∃ s, s = str (x * z) := ⟨_, rfl⟩
  have hu : small (x * z) = true := (bx.mul bz).small (by decide)
  obtain ⟨sv, tv⟩ : ∃ s, s = str (y * z) := ⟨_, rfl⟩
  have hv : small (y * z) = true := (bY.mul bz).small (by decide)
  obtain ⟨sw, tw⟩ : ∃ s, s = str ((G : Int) * z) := ⟨_, rfl⟩
  have hw : small ((G : Int) * z) = true := (bg.mul bz).small (by decide)
  obtain ⟨sn, tn⟩ : ∃ s, s = str (0 - (G : Int) * z) := ⟨_, rfl⟩
  have hn : small (0 - (G : Int) * z) = true := ((show Bd (0 - (G : Int) * z) 80 from by have := (bg.mul bz).neg; rwa [show -((G : Int) * z) = 0 - (G : Int) * z from by omega] at this)).small (by decide)
  have hz0 : (G : Int) * z < 0 := Int.mul_neg_of_pos_of_neg (by omega) zn
  have hall : ((G * z.natAbs : Nat) : Int) = 0 - (G : Int) * z := by
    rw [Int.natCast_mul, show ((z.natAbs : Nat) : Int) = -z from by omega, Int.mul_neg]; omega
  have c1 := Gcd_s hG hx hy tx ty (so := sg) (by rw [← hg]; exact tg)
  have c2 := Gcd_s hG hy hx ty tx (so := sg) (by rw [Nat.gcd_comm, ← hg]; exact tg)
  have c3 := Compare_v (k := 1) (w := w) (y := 0) (sy := ⟨#[48]⟩) hg1 (by decide) tg str0 (by exact cmpI_gt (by omega))
  have c4 := Div_s hG (sq := sp) (sr := ⟨#[48]⟩) hx hg1 tx tg hgi tp (by rw [g1]; exact str0)
  have c5 := Div_s hG (sq := sq) (sr := ⟨#[48]⟩) hy hg1 ty tg hgi tq (by rw [g2]; exact str0)
  have c6 := Gcd_s hG hp hq tp tq (so := ⟨#[49]⟩) (by rw [g3]; decide +kernel)
  have c7 := Mul_s hG hx hz tx tz hu tu
  have c8 := Mul_s hG hy hz ty tz hv tv
  have c9 := Gcd_s hG hu hv tu tv (so := sn) (by rw [g4, hall]; exact tn)
  have c10 := Mul_s hG hg1 hz tg tz hw tw
  have c11 := Compare_v (k := -1) (w := w) (y := 0) (sy := ⟨#[48]⟩) hw (by decide) tw str0 (by exact cmpI_lt hz0)
  have c12 := Sub_s hG (x := 0) (sx := ⟨#[48]⟩) (by decide) hw str0 tw hn tn
  have z1 := not_zero tx x0
  have z3 := beq_ne z1
  clear tx ty tz hx hy hz bx bY bz ex ey ez bg hgi g1 g2 g3 g4 hg hg0 hz0 hall zn hg1 tg tp hp tq hq tu hu tv hv tw hw tn hn x0
  go_enter Tryz.func5, Tryz.ntmps5
  go_wp2_with (first
    | (go_at_call 12; with_reducible refine (s0 _ hk0).mono ?_; rintro e w' ⟨rfl, hk1⟩)
    | (go_at_call 13; with_reducible refine (mx _ hk1).mono ?_; rintro e w' ⟨rfl, hk2⟩)
    | (go_at_call 13; with_reducible refine (my _ hk2).mono ?_; rintro e w' ⟨rfl, hk3⟩)
    | (go_at_call 13; with_reducible refine (mz _ hk3).mono ?_; rintro e w' ⟨rfl, hk4⟩)
    | (go_at_call 20; with_reducible refine (c1 _ hk4).mono ?_; rintro e w' ⟨rfl, hk5⟩)
    | (go_at_call 20; with_reducible refine (c2 _ hk5).mono ?_; rintro e w' ⟨rfl, hk6⟩)
    | (go_at_call 18; with_reducible refine (c3 _ hk6).mono ?_; rintro e w' ⟨rfl, hk7⟩)
    | (go_at_call 17; with_reducible refine (c4 _ hk7).mono ?_; rintro e w' ⟨rfl, hk8⟩)
    | (go_at_call 17; with_reducible refine (c5 _ hk8).mono ?_; rintro e w' ⟨rfl, hk9⟩)
    | (go_at_call 20; with_reducible refine (c6 _ hk9).mono ?_; rintro e w' ⟨rfl, hk10⟩)
    | (go_at_call 15; with_reducible refine (c7 _ hk10).mono ?_; rintro e w' ⟨rfl, hk11⟩)
    | (go_at_call 15; with_reducible refine (c8 _ hk11).mono ?_; rintro e w' ⟨rfl, hk12⟩)
    | (go_at_call 20; with_reducible refine (c9 _ hk12).mono ?_; rintro e w' ⟨rfl, hk13⟩)
    | (go_at_call 15; with_reducible refine (c10 _ hk13).mono ?_; rintro e w' ⟨rfl, hk14⟩)
    | (go_at_call 18; with_reducible refine (c11 _ hk14).mono ?_; rintro e w' ⟨rfl, hk15⟩)
    | (go_at_call 16; with_reducible refine (c12 _ hk15).mono ?_; rintro e w' ⟨rfl, hk16⟩))
  go_ret
  exact ⟨rfl, hk16⟩

set_option maxHeartbeats 8000000 in
set_option maxRecDepth 100000 in
theorem Common_2 (a b c : ByteArray) (w : World) (hG : Glob w) (x y z : Int) (ex : x = madeZ a.data.toList 40) (ey : y = madeZ b.data.toList 40) (ez : z = madeZ c.data.toList 40) (x0 : x ≠ 0) (zn : 0 ≤ z) :
    Calls Tryz.prog 5 #[.string a, .string b, .string c] w fun e w' => e = .returned (.bool true) ∧ Below w.heap.size w w' := by
  have hk0 := Below.refl w.heap.size w
  have s0 := sane_s hG
  have bx := made_bd a.data.toList 40 (by omega)
  have bY := made_bd b.data.toList 40 (by omega)
  have bz := made_bd c.data.toList 40 (by omega)
  rw [← ex] at bx
  rw [← ey] at bY
  rw [← ez] at bz
  obtain ⟨sx, tx⟩ : ∃ s, s = str x := ⟨_, rfl⟩
  have hx := bx.small (by omega)
  have mx := Made_s (w := w) (s := a) (t := sx) (most := 40) (i := 40) rfl (by omega) (by rw [tx, ex])
  obtain ⟨sy, ty⟩ : ∃ s, s = str y := ⟨_, rfl⟩
  have hy := bY.small (by omega)
  have my := Made_s (w := w) (s := b) (t := sy) (most := 40) (i := 40) rfl (by omega) (by rw [ty, ey])
  obtain ⟨sz, tz⟩ : ∃ s, s = str z := ⟨_, rfl⟩
  have hz := bz.small (by omega)
  have mz := Made_s (w := w) (s := c) (t := sz) (most := 40) (i := 40) rfl (by omega) (by rw [tz, ez])
  obtain ⟨G, hg⟩ : ∃ G, G = Nat.gcd x.natAbs y.natAbs := ⟨_, rfl⟩
  have hg0 : 0 < G := by
    rcases Nat.eq_zero_or_pos G with h | h
    · rw [h] at hg
      have := Nat.gcd_eq_zero_iff.1 hg.symm
      omega
    · exact h
  obtain ⟨g1, g2, g3⟩ := gcd_left hg hg0
  have g4 := gcd_all (z := z) hg
  have bg : Bd (G : Int) 40 := by
    rcases Nat.eq_zero_or_pos x.natAbs with h | h
    · rw [h, Nat.gcd_zero_left] at hg
      exact bY.le (by omega)
    · exact bx.le (by have := Nat.gcd_le_left y.natAbs h; omega)
  have hgi : (G : Int) ≠ 0 := by omega
  obtain ⟨sg, tg⟩ : ∃ s, s = str ((G : Int)) := ⟨_, rfl⟩
  have hg1 : small ((G : Int)) = true := (bg).small (by decide)
  obtain ⟨sp, tp⟩ : ∃ s, s = str (x / (G : Int)) := ⟨_, rfl⟩
  have hp : small (x / (G : Int)) = true := (bx.le (Int.natAbs_ediv_le_natAbs x (G : Int))).small (by decide)
  obtain ⟨sq, tq⟩ : ∃ s, s = str (y / (G : Int)) := ⟨_, rfl⟩
  have hq : small (y / (G : Int)) = true := (bY.le (Int.natAbs_ediv_le_natAbs y (G : Int))).small (by decide)
  obtain ⟨su, tu⟩ : ∃ s, s = str (x * z) := ⟨_, rfl⟩
  have hu : small (x * z) = true := (bx.mul bz).small (by decide)
  obtain ⟨sv, tv⟩ : ∃ s, s = str (y * z) := ⟨_, rfl⟩
  have hv : small (y * z) = true := (bY.mul bz).small (by decide)
  obtain ⟨sw, tw⟩ : ∃ s, s = str ((G : Int) * z) := ⟨_, rfl⟩
  have hw : small ((G : Int) * z) = true := (bg.mul bz).small (by decide)
  have hz0 : 0 ≤ (G : Int) * z := Int.mul_nonneg (by omega) zn
  have hall : ((G * z.natAbs : Nat) : Int) = (G : Int) * z := by
    rw [Int.natCast_mul, show ((z.natAbs : Nat) : Int) = z from by omega]
  obtain ⟨k, hk, hkp⟩ := cmp_nonneg hz0
  have c1 := Gcd_s hG hx hy tx ty (so := sg) (by rw [← hg]; exact tg)
  have c2 := Gcd_s hG hy hx ty tx (so := sg) (by rw [Nat.gcd_comm, ← hg]; exact tg)
  have c3 := Compare_v (k := 1) (w := w) (y := 0) (sy := ⟨#[48]⟩) hg1 (by decide) tg str0 (by exact cmpI_gt (by omega))
  have c4 := Div_s hG (sq := sp) (sr := ⟨#[48]⟩) hx hg1 tx tg hgi tp (by rw [g1]; exact str0)
  have c5 := Div_s hG (sq := sq) (sr := ⟨#[48]⟩) hy hg1 ty tg hgi tq (by rw [g2]; exact str0)
  have c6 := Gcd_s hG hp hq tp tq (so := ⟨#[49]⟩) (by rw [g3]; decide +kernel)
  have c7 := Mul_s hG hx hz tx tz hu tu
  have c8 := Mul_s hG hy hz ty tz hv tv
  have c9 := Gcd_s hG hu hv tu tv (so := sw) (by rw [g4, hall]; exact tw)
  have c10 := Mul_s hG hg1 hz tg tz hw tw
  have c11 := Compare_v (k := k) (w := w) (y := 0) (sy := ⟨#[48]⟩) hw (by decide) tw str0 hk
  have z1 := not_zero tx x0
  have z3 := beq_ne z1
  clear tx ty tz hx hy hz bx bY bz ex ey ez bg hgi g1 g2 g3 g4 hg hg0 hz0 hall zn hg1 tg tp hp tq hq tu hu tv hv tw hw hk x0
  go_enter Tryz.func5, Tryz.ntmps5
  go_wp2_with (first
    | (go_at_call 12; with_reducible refine (s0 _ hk0).mono ?_; rintro e w' ⟨rfl, hk1⟩)
    | (go_at_call 13; with_reducible refine (mx _ hk1).mono ?_; rintro e w' ⟨rfl, hk2⟩)
    | (go_at_call 13; with_reducible refine (my _ hk2).mono ?_; rintro e w' ⟨rfl, hk3⟩)
    | (go_at_call 13; with_reducible refine (mz _ hk3).mono ?_; rintro e w' ⟨rfl, hk4⟩)
    | (go_at_call 20; with_reducible refine (c1 _ hk4).mono ?_; rintro e w' ⟨rfl, hk5⟩)
    | (go_at_call 20; with_reducible refine (c2 _ hk5).mono ?_; rintro e w' ⟨rfl, hk6⟩)
    | (go_at_call 18; with_reducible refine (c3 _ hk6).mono ?_; rintro e w' ⟨rfl, hk7⟩)
    | (go_at_call 17; with_reducible refine (c4 _ hk7).mono ?_; rintro e w' ⟨rfl, hk8⟩)
    | (go_at_call 17; with_reducible refine (c5 _ hk8).mono ?_; rintro e w' ⟨rfl, hk9⟩)
    | (go_at_call 20; with_reducible refine (c6 _ hk9).mono ?_; rintro e w' ⟨rfl, hk10⟩)
    | (go_at_call 15; with_reducible refine (c7 _ hk10).mono ?_; rintro e w' ⟨rfl, hk11⟩)
    | (go_at_call 15; with_reducible refine (c8 _ hk11).mono ?_; rintro e w' ⟨rfl, hk12⟩)
    | (go_at_call 20; with_reducible refine (c9 _ hk12).mono ?_; rintro e w' ⟨rfl, hk13⟩)
    | (go_at_call 15; with_reducible refine (c10 _ hk13).mono ?_; rintro e w' ⟨rfl, hk14⟩)
    | (go_at_call 18; with_reducible refine (c11 _ hk14).mono ?_; rintro e w' ⟨rfl, hk15⟩))
  go_ret
  exact ⟨rfl, hk15⟩

set_option maxHeartbeats 8000000 in
set_option maxRecDepth 100000 in
theorem Common_3 (a b c : ByteArray) (w : World) (hG : Glob w) (x y z : Int) (ex : x = madeZ a.data.toList 40) (ey : y = madeZ b.data.toList 40) (ez : z = madeZ c.data.toList 40) (x0 : x = 0) (y0 : y ≠ 0) (zn : z < 0) :
    Calls Tryz.prog 5 #[.string a, .string b, .string c] w fun e w' => e = .returned (.bool true) ∧ Below w.heap.size w w' := by
  have hk0 := Below.refl w.heap.size w
  have s0 := sane_s hG
  have bx := made_bd a.data.toList 40 (by omega)
  have bY := made_bd b.data.toList 40 (by omega)
  have bz := made_bd c.data.toList 40 (by omega)
  rw [← ex] at bx
  rw [← ey] at bY
  rw [← ez] at bz
  obtain ⟨sx, tx⟩ : ∃ s, s = str x := ⟨_, rfl⟩
  have hx := bx.small (by omega)
  have mx := Made_s (w := w) (s := a) (t := sx) (most := 40) (i := 40) rfl (by omega) (by rw [tx, ex])
  obtain ⟨sy, ty⟩ : ∃ s, s = str y := ⟨_, rfl⟩
  have hy := bY.small (by omega)
  have my := Made_s (w := w) (s := b) (t := sy) (most := 40) (i := 40) rfl (by omega) (by rw [ty, ey])
  obtain ⟨sz, tz⟩ : ∃ s, s = str z := ⟨_, rfl⟩
  have hz := bz.small (by omega)
  have mz := Made_s (w := w) (s := c) (t := sz) (most := 40) (i := 40) rfl (by omega) (by rw [tz, ez])
  obtain ⟨G, hg⟩ : ∃ G, G = Nat.gcd x.natAbs y.natAbs := ⟨_, rfl⟩
  have hg0 : 0 < G := by
    rcases Nat.eq_zero_or_pos G with h | h
    · rw [h] at hg
      have := Nat.gcd_eq_zero_iff.1 hg.symm
      omega
    · exact h
  obtain ⟨g1, g2, g3⟩ := gcd_left hg hg0
  have g4 := gcd_all (z := z) hg
  have bg : Bd (G : Int) 40 := by
    rcases Nat.eq_zero_or_pos x.natAbs with h | h
    · rw [h, Nat.gcd_zero_left] at hg
      exact bY.le (by omega)
    · exact bx.le (by have := Nat.gcd_le_left y.natAbs h; omega)
  have hgi : (G : Int) ≠ 0 := by omega
  obtain ⟨sg, tg⟩ : ∃ s, s = str ((G : Int)) := ⟨_, rfl⟩
  have hg1 : small ((G : Int)) = true := (bg).small (by decide)
  obtain ⟨sp, tp⟩ : ∃ s, s = str (x / (G : Int)) := ⟨_, rfl⟩
  have hp : small (x / (G : Int)) = true := (bx.le (Int.natAbs_ediv_le_natAbs x (G : Int))).small (by decide)
  obtain ⟨sq, tq⟩ : ∃ s, s = str (y / (G : Int)) := ⟨_, rfl⟩
  have hq : small (y / (G : Int)) = true := (bY.le (Int.natAbs_ediv_le_natAbs y (G : Int))).small (by decide)
  obtain ⟨su, tu⟩ : ∃ s, s = str (x * z) := ⟨_, rfl⟩
  have hu : small (x * z) = true := (bx.mul bz).small (by decide)
  obtain ⟨sv, tv⟩ : ∃ s, s = str (y * z) := ⟨_, rfl⟩
  have hv : small (y * z) = true := (bY.mul bz).small (by decide)
  obtain ⟨sw, tw⟩ : ∃ s, s = str ((G : Int) * z) := ⟨_, rfl⟩
  have hw : small ((G : Int) * z) = true := (bg.mul bz).small (by decide)
  obtain ⟨sn, tn⟩ : ∃ s, s = str (0 - (G : Int) * z) := ⟨_, rfl⟩
  have hn : small (0 - (G : Int) * z) = true := ((show Bd (0 - (G : Int) * z) 80 from by have := (bg.mul bz).neg; rwa [show -((G : Int) * z) = 0 - (G : Int) * z from by omega] at this)).small (by decide)
  have hz0 : (G : Int) * z < 0 := Int.mul_neg_of_pos_of_neg (by omega) zn
  have hall : ((G * z.natAbs : Nat) : Int) = 0 - (G : Int) * z := by
    rw [Int.natCast_mul, show ((z.natAbs : Nat) : Int) = -z from by omega, Int.mul_neg]; omega
  have c1 := Gcd_s hG hx hy tx ty (so := sg) (by rw [← hg]; exact tg)
  have c2 := Gcd_s hG hy hx ty tx (so := sg) (by rw [Nat.gcd_comm, ← hg]; exact tg)
  have c3 := Compare_v (k := 1) (w := w) (y := 0) (sy := ⟨#[48]⟩) hg1 (by decide) tg str0 (by exact cmpI_gt (by omega))
  have c4 := Div_s hG (sq := sp) (sr := ⟨#[48]⟩) hx hg1 tx tg hgi tp (by rw [g1]; exact str0)
  have c5 := Div_s hG (sq := sq) (sr := ⟨#[48]⟩) hy hg1 ty tg hgi tq (by rw [g2]; exact str0)
  have c6 := Gcd_s hG hp hq tp tq (so := ⟨#[49]⟩) (by rw [g3]; decide +kernel)
  have c7 := Mul_s hG hx hz tx tz hu tu
  have c8 := Mul_s hG hy hz ty tz hv tv
  have c9 := Gcd_s hG hu hv tu tv (so := sn) (by rw [g4, hall]; exact tn)
  have c10 := Mul_s hG hg1 hz tg tz hw tw
  have c11 := Compare_v (k := -1) (w := w) (y := 0) (sy := ⟨#[48]⟩) hw (by decide) tw str0 (by exact cmpI_lt hz0)
  have c12 := Sub_s hG (x := 0) (sx := ⟨#[48]⟩) (by decide) hw str0 tw hn tn
  have z1 := is_zero tx x0
  have z3 : (sx.toList == [48]) = true := by rw [z1]; rfl
  have z2 := not_zero ty y0
  have z4 := beq_ne z2
  clear tx ty tz hx hy hz bx bY bz ex ey ez bg hgi g1 g2 g3 g4 hg hg0 hz0 hall zn hg1 tg tp hp tq hq tu hu tv hv tw hw tn hn x0 y0
  go_enter Tryz.func5, Tryz.ntmps5
  go_wp2_with (first
    | (go_at_call 12; with_reducible refine (s0 _ hk0).mono ?_; rintro e w' ⟨rfl, hk1⟩)
    | (go_at_call 13; with_reducible refine (mx _ hk1).mono ?_; rintro e w' ⟨rfl, hk2⟩)
    | (go_at_call 13; with_reducible refine (my _ hk2).mono ?_; rintro e w' ⟨rfl, hk3⟩)
    | (go_at_call 13; with_reducible refine (mz _ hk3).mono ?_; rintro e w' ⟨rfl, hk4⟩)
    | (go_at_call 20; with_reducible refine (c1 _ hk4).mono ?_; rintro e w' ⟨rfl, hk5⟩)
    | (go_at_call 20; with_reducible refine (c2 _ hk5).mono ?_; rintro e w' ⟨rfl, hk6⟩)
    | (go_at_call 18; with_reducible refine (c3 _ hk6).mono ?_; rintro e w' ⟨rfl, hk7⟩)
    | (go_at_call 17; with_reducible refine (c4 _ hk7).mono ?_; rintro e w' ⟨rfl, hk8⟩)
    | (go_at_call 17; with_reducible refine (c5 _ hk8).mono ?_; rintro e w' ⟨rfl, hk9⟩)
    | (go_at_call 20; with_reducible refine (c6 _ hk9).mono ?_; rintro e w' ⟨rfl, hk10⟩)
    | (go_at_call 15; with_reducible refine (c7 _ hk10).mono ?_; rintro e w' ⟨rfl, hk11⟩)
    | (go_at_call 15; with_reducible refine (c8 _ hk11).mono ?_; rintro e w' ⟨rfl, hk12⟩)
    | (go_at_call 20; with_reducible refine (c9 _ hk12).mono ?_; rintro e w' ⟨rfl, hk13⟩)
    | (go_at_call 15; with_reducible refine (c10 _ hk13).mono ?_; rintro e w' ⟨rfl, hk14⟩)
    | (go_at_call 18; with_reducible refine (c11 _ hk14).mono ?_; rintro e w' ⟨rfl, hk15⟩)
    | (go_at_call 16; with_reducible refine (c12 _ hk15).mono ?_; rintro e w' ⟨rfl, hk16⟩))
  go_ret
  exact ⟨rfl, hk16⟩

set_option maxHeartbeats 8000000 in
set_option maxRecDepth 100000 in
theorem Common_4 (a b c : ByteArray) (w : World) (hG : Glob w) (x y z : Int) (ex : x = madeZ a.data.toList 40) (ey : y = madeZ b.data.toList 40) (ez : z = madeZ c.data.toList 40) (x0 : x = 0) (y0 : y ≠ 0) (zn : 0 ≤ z) :
    Calls Tryz.prog 5 #[.string a, .string b, .string c] w fun e w' => e = .returned (.bool true) ∧ Below w.heap.size w w' := by
  have hk0 := Below.refl w.heap.size w
  have s0 := sane_s hG
  have bx := made_bd a.data.toList 40 (by omega)
  have bY := made_bd b.data.toList 40 (by omega)
  have bz := made_bd c.data.toList 40 (by omega)
  rw [← ex] at bx
  rw [← ey] at bY
  rw [← ez] at bz
  obtain ⟨sx, tx⟩ : ∃ s, s = str x := ⟨_, rfl⟩
  have hx := bx.small (by omega)
  have mx := Made_s (w := w) (s := a) (t := sx) (most := 40) (i := 40) rfl (by omega) (by rw [tx, ex])
  obtain ⟨sy, ty⟩ : ∃ s, s = str y := ⟨_, rfl⟩
  have hy := bY.small (by omega)
  have my := Made_s (w := w) (s := b) (t := sy) (most := 40) (i := 40) rfl (by omega) (by rw [ty, ey])
  obtain ⟨sz, tz⟩ : ∃ s, s = str z := ⟨_, rfl⟩
  have hz := bz.small (by omega)
  have mz := Made_s (w := w) (s := c) (t := sz) (most := 40) (i := 40) rfl (by omega) (by rw [tz, ez])
  obtain ⟨G, hg⟩ : ∃ G, G = Nat.gcd x.natAbs y.natAbs := ⟨_, rfl⟩
  have hg0 : 0 < G := by
    rcases Nat.eq_zero_or_pos G with h | h
    · rw [h] at hg
      have := Nat.gcd_eq_zero_iff.1 hg.symm
      omega
    · exact h
  obtain ⟨g1, g2, g3⟩ := gcd_left hg hg0
  have g4 := gcd_all (z := z) hg
  have bg : Bd (G : Int) 40 := by
    rcases Nat.eq_zero_or_pos x.natAbs with h | h
    · rw [h, Nat.gcd_zero_left] at hg
      exact bY.le (by omega)
    · exact bx.le (by have := Nat.gcd_le_left y.natAbs h; omega)
  have hgi : (G : Int) ≠ 0 := by omega
  obtain ⟨sg, tg⟩ : ∃ s, s = str ((G : Int)) := ⟨_, rfl⟩
  have hg1 : small ((G : Int)) = true := (bg).small (by decide)
  obtain ⟨sp, tp⟩ : ∃ s, s = str (x / (G : Int)) := ⟨_, rfl⟩
  have hp : small (x / (G : Int)) = true := (bx.le (Int.natAbs_ediv_le_natAbs x (G : Int))).small (by decide)
  obtain ⟨sq, tq⟩ : ∃ s, s = str (y / (G : Int)) := ⟨_, rfl⟩
  have hq : small (y / (G : Int)) = true := (bY.le (Int.natAbs_ediv_le_natAbs y (G : Int))).small (by decide)
  obtain ⟨su, tu⟩ : ∃ s, s = str (x * z) := ⟨_, rfl⟩
  have hu : small (x * z) = true := (bx.mul bz).small (by decide)
  obtain ⟨sv, tv⟩ : ∃ s, s = str (y * z) := ⟨_, rfl⟩
  have hv : small (y * z) = true := (bY.mul bz).small (by decide)
  obtain ⟨sw, tw⟩ : ∃ s, s = str ((G : Int) * z) := ⟨_, rfl⟩
  have hw : small ((G : Int) * z) = true := (bg.mul bz).small (by decide)
  have hz0 : 0 ≤ (G : Int) * z := Int.mul_nonneg (by omega) zn
  have hall : ((G * z.natAbs : Nat) : Int) = (G : Int) * z := by
    rw [Int.natCast_mul, show ((z.natAbs : Nat) : Int) = z from by omega]
  obtain ⟨k, hk, hkp⟩ := cmp_nonneg hz0
  have c1 := Gcd_s hG hx hy tx ty (so := sg) (by rw [← hg]; exact tg)
  have c2 := Gcd_s hG hy hx ty tx (so := sg) (by rw [Nat.gcd_comm, ← hg]; exact tg)
  have c3 := Compare_v (k := 1) (w := w) (y := 0) (sy := ⟨#[48]⟩) hg1 (by decide) tg str0 (by exact cmpI_gt (by omega))
  have c4 := Div_s hG (sq := sp) (sr := ⟨#[48]⟩) hx hg1 tx tg hgi tp (by rw [g1]; exact str0)
  have c5 := Div_s hG (sq := sq) (sr := ⟨#[48]⟩) hy hg1 ty tg hgi tq (by rw [g2]; exact str0)
  have c6 := Gcd_s hG hp hq tp tq (so := ⟨#[49]⟩) (by rw [g3]; decide +kernel)
  have c7 := Mul_s hG hx hz tx tz hu tu
  have c8 := Mul_s hG hy hz ty tz hv tv
  have c9 := Gcd_s hG hu hv tu tv (so := sw) (by rw [g4, hall]; exact tw)
  have c10 := Mul_s hG hg1 hz tg tz hw tw
  have c11 := Compare_v (k := k) (w := w) (y := 0) (sy := ⟨#[48]⟩) hw (by decide) tw str0 hk
  have z1 := is_zero tx x0
  have z3 : (sx.toList == [48]) = true := by rw [z1]; rfl
  have z2 := not_zero ty y0
  have z4 := beq_ne z2
  clear tx ty tz hx hy hz bx bY bz ex ey ez bg hgi g1 g2 g3 g4 hg hg0 hz0 hall zn hg1 tg tp hp tq hq tu hu tv hv tw hw hk x0 y0
  go_enter Tryz.func5, Tryz.ntmps5
  go_wp2_with (first
    | (go_at_call 12; with_reducible refine (s0 _ hk0).mono ?_; rintro e w' ⟨rfl, hk1⟩)
    | (go_at_call 13; with_reducible refine (mx _ hk1).mono ?_; rintro e w' ⟨rfl, hk2⟩)
    | (go_at_call 13; with_reducible refine (my _ hk2).mono ?_; rintro e w' ⟨rfl, hk3⟩)
    | (go_at_call 13; with_reducible refine (mz _ hk3).mono ?_; rintro e w' ⟨rfl, hk4⟩)
    | (go_at_call 20; with_reducible refine (c1 _ hk4).mono ?_; rintro e w' ⟨rfl, hk5⟩)
    | (go_at_call 20; with_reducible refine (c2 _ hk5).mono ?_; rintro e w' ⟨rfl, hk6⟩)
    | (go_at_call 18; with_reducible refine (c3 _ hk6).mono ?_; rintro e w' ⟨rfl, hk7⟩)
    | (go_at_call 17; with_reducible refine (c4 _ hk7).mono ?_; rintro e w' ⟨rfl, hk8⟩)
    | (go_at_call 17; with_reducible refine (c5 _ hk8).mono ?_; rintro e w' ⟨rfl, hk9⟩)
    | (go_at_call 20; with_reducible refine (c6 _ hk9).mono ?_; rintro e w' ⟨rfl, hk10⟩)
    | (go_at_call 15; with_reducible refine (c7 _ hk10).mono ?_; rintro e w' ⟨rfl, hk11⟩)
    | (go_at_call 15; with_reducible refine (c8 _ hk11).mono ?_; rintro e w' ⟨rfl, hk12⟩)
    | (go_at_call 20; with_reducible refine (c9 _ hk12).mono ?_; rintro e w' ⟨rfl, hk13⟩)
    | (go_at_call 15; with_reducible refine (c10 _ hk13).mono ?_; rintro e w' ⟨rfl, hk14⟩)
    | (go_at_call 18; with_reducible refine (c11 _ hk14).mono ?_; rintro e w' ⟨rfl, hk15⟩))
  go_ret
  exact ⟨rfl, hk15⟩

theorem IntegerCommon_law (a b c : ByteArray) (w : World) (hG : Glob w) :
    Calls Tryz.prog 5 #[.string a, .string b, .string c] w fun e w' => e = .returned (.bool true) ∧ Below w.heap.size w w' := by
  by_cases x0 : madeZ a.data.toList 40 = 0
  · by_cases y0 : madeZ b.data.toList 40 = 0
    · exact Common_0 a b c w hG _ _ _ rfl rfl rfl x0 y0
    · by_cases zn : madeZ c.data.toList 40 < 0
      · exact Common_3 a b c w hG _ _ _ rfl rfl rfl x0 y0 zn
      · exact Common_4 a b c w hG _ _ _ rfl rfl rfl x0 y0 (by omega)
  · by_cases zn : madeZ c.data.toList 40 < 0
    · exact Common_1 a b c w hG _ _ _ rfl rfl rfl x0 zn
    · exact Common_2 a b c w hG _ _ _ rfl rfl rfl x0 (by omega)
end Go.Proofs.YtiefodlhnpondaaGreatDoor
