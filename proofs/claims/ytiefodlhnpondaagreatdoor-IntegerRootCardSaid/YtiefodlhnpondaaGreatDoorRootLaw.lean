/-
  The law IntegerRoot: the root of an integer.
-/
import Derived.Test.YtiefodlhnpondaaGreatDoorAt
import Derived.Test.YtiefodlhnpondaaGreatDoorDivided
namespace Go.Proofs.YtiefodlhnpondaaGreatDoor
open Go.RowKit Go.Shelf
attribute [local go_sem] Oper.semAt_some

theorem sqrt_exists (X : Nat) : ∃ R, R * R ≤ X ∧ X < (R + 1) * (R + 1) := by
  induction X with
  | zero => exact ⟨0, by omega, by omega⟩
  | succ X ih =>
    obtain ⟨R, h1, h2⟩ := ih
    by_cases h : X + 1 < (R + 1) * (R + 1)
    · exact ⟨R, by omega, h⟩
    · refine ⟨R + 1, by omega, ?_⟩
      have : (R + 1 + 1) * (R + 1 + 1) = (R + 1) * (R + 1) + 2 * (R + 1) + 1 := by
        simp only [Nat.add_mul, Nat.mul_add]; omega
      omega
theorem sq_up (n : Nat) : n * n < (n + 1) * (n + 1) := Nat.mul_lt_mul'' (by omega) (by omega)

set_option maxHeartbeats 8000000 in
set_option maxRecDepth 100000 in
theorem Root_law_n (a : ByteArray) (w : World) (hG : Glob w) (x : Int) (ex : x = madeZ a.data.toList 80) (h0 : x < 0) :
    Calls Tryz.prog 6 #[.string a] w fun e w' => e = .returned (.bool true) ∧ Below w.heap.size w w' := by
  have hk0 := Below.refl w.heap.size w
  have s0 := sane_s hG
  have bx := made_bd a.data.toList 80 (by omega)
  rw [← ex] at bx
  obtain ⟨sx, tx⟩ : ∃ s, s = str x := ⟨_, rfl⟩
  have hx := bx.small (by omega)
  have mx := Made_s (w := w) (s := a) (t := sx) (most := 80) (i := 80) rfl (by omega) (by rw [tx, ex])
  obtain ⟨sm, tm⟩ : ∃ s, s = str (x * x) := ⟨_, rfl⟩
  have hm := (bx.mul bx).small (by decide)
  have hab : (x * x).natAbs = x.natAbs * x.natAbs := Int.natAbs_mul x x
  have hsq : 0 ≤ x * x := by
    have : ((x.natAbs * x.natAbs : Nat) : Int) = x * x := by rw [Int.natCast_mul]; exact Int.natAbs_mul_self
    omega
  have bn : Bd ((x.natAbs : Nat) : Int) 80 := bx.le (by omega)
  obtain ⟨sn, tn⟩ : ∃ s, s = str ((x.natAbs : Nat) : Int) := ⟨_, rfl⟩
  have hn := bn.small (by omega)
  have c1 := Root_n (w := w) hx tx h0
  have c2 := Mul_s hG hx hx tx tx hm tm
  have c3 := Root_s hG (r := x.natAbs) (so := sn) hm tm (by omega) (by rw [hab]; exact Nat.le_refl _) (by rw [hab]; exact sq_up _) (tn)
  have c4 := Add_s hG hn hx tn tx (so := ⟨#[48]⟩) (by rw [show ((x.natAbs : Nat) : Int) + x = 0 from by omega]; decide) (by rw [show ((x.natAbs : Nat) : Int) + x = 0 from by omega]; exact str0)
  have c5 := Compare_v (k := -1) (w := w) (y := 0) (sy := ⟨#[48]⟩) hx (by decide) tx str0 (by exact cmpI_lt h0)
  have hne := str_list_ne tn tx (by omega)
  have hne2 := beq_ne hne
  clear tx hx bx ex tm hm hab hsq bn tn hn h0
  go_enter Tryz.func6, Tryz.ntmps6
  go_wp2_with (first
    | (go_at_call 12; with_reducible refine (s0 _ hk0).mono ?_; rintro e w' ⟨rfl, hk1⟩)
    | (go_at_call 13; with_reducible refine (mx _ hk1).mono ?_; rintro e w' ⟨rfl, hk2⟩)
    | (go_at_call 21; with_reducible refine (c1 _ hk2).mono ?_; rintro e w' ⟨rfl, hk3⟩)
    | (go_at_call 15; with_reducible refine (c2 _ hk3).mono ?_; rintro e w' ⟨rfl, hk4⟩)
    | (go_at_call 21; with_reducible refine (c3 _ hk4).mono ?_; rintro e w' ⟨rfl, hk5⟩)
    | (go_at_call 14; with_reducible refine (c4 _ hk5).mono ?_; rintro e w' ⟨rfl, hk6⟩)
    | (go_at_call 18; with_reducible refine (c5 _ hk6).mono ?_; rintro e w' ⟨rfl, hk7⟩))
  go_ret
  exact ⟨rfl, hk7⟩

set_option maxHeartbeats 8000000 in
set_option maxRecDepth 100000 in
theorem Root_law_p (a : ByteArray) (w : World) (hG : Glob w) (x : Int) (ex : x = madeZ a.data.toList 80) (h0 : 0 ≤ x) :
    Calls Tryz.prog 6 #[.string a] w fun e w' => e = .returned (.bool true) ∧ Below w.heap.size w w' := by
  have hk0 := Below.refl w.heap.size w
  have s0 := sane_s hG
  have bx := made_bd a.data.toList 80 (by omega)
  rw [← ex] at bx
  obtain ⟨sx, tx⟩ : ∃ s, s = str x := ⟨_, rfl⟩
  have hx := bx.small (by omega)
  have mx := Made_s (w := w) (s := a) (t := sx) (most := 80) (i := 80) rfl (by omega) (by rw [tx, ex])
  obtain ⟨sm, tm⟩ : ∃ s, s = str (x * x) := ⟨_, rfl⟩
  have hm := (bx.mul bx).small (by decide)
  have hab : (x * x).natAbs = x.natAbs * x.natAbs := Int.natAbs_mul x x
  have hsq : 0 ≤ x * x := by
    have : ((x.natAbs * x.natAbs : Nat) : Int) = x * x := by rw [Int.natCast_mul]; exact Int.natAbs_mul_self
    omega
  obtain ⟨R, r1, r2⟩ := sqrt_exists x.natAbs
  have hRx : R ≤ x.natAbs := by
    rcases Nat.eq_zero_or_pos R with h | h
    · omega
    · exact Nat.le_trans (Nat.le_mul_of_pos_left R h) r1
  have br : Bd (R : Int) 80 := bx.le (by omega)
  have b1 : Bd 1 1 := by show (1 : Int).natAbs < _; decide
  have hxe : x = ((x.natAbs : Nat) : Int) := by omega
  obtain ⟨sr, tr⟩ : ∃ s, s = str ((R : Int)) := ⟨_, rfl⟩
  have hr : small ((R : Int)) = true := (br).small (by decide)
  obtain ⟨sl, tl⟩ : ∃ s, s = str ((R : Int) * R) := ⟨_, rfl⟩
  have hl : small ((R : Int) * R) = true := (br.mul br).small (by decide)
  obtain ⟨se, te⟩ : ∃ s, s = str ((R : Int) + 1) := ⟨_, rfl⟩
  have he : small ((R : Int) + 1) = true := (br.add b1).small (by decide)
  obtain ⟨sh, th⟩ : ∃ s, s = str (((R : Int) + 1) * (R + 1)) := ⟨_, rfl⟩
  have hh : small (((R : Int) + 1) * (R + 1)) = true := ((br.add b1).mul (br.add b1)).small (by decide)
  have hl1 : (R : Int) * R ≤ x := by
    have : ((R * R : Nat) : Int) = (R : Int) * R := Int.natCast_mul R R
    omega
  have hh1 : x < ((R : Int) + 1) * (R + 1) := by
    have : (((R + 1) * (R + 1) : Nat) : Int) = ((R : Int) + 1) * (R + 1) := Int.natCast_mul (R + 1) (R + 1)
    omega
  obtain ⟨k, hk, hkp⟩ : ∃ k, cmpI ((R : Int) * R) x = k ∧ k ≤ 0 := by
    refine ⟨_, rfl, ?_⟩
    unfold cmpI
    split
    · omega
    · rw [if_neg (by omega)]; omega
  obtain ⟨kx, hkx, hkxp⟩ := cmp_nonneg h0
  obtain ⟨sb, tb⟩ : ∃ s, s = str (x + x) := ⟨_, rfl⟩
  have hb : small (x + x) = true := (bx.add bx).small (by decide)
  have c1 := Root_s hG (so := sr) hx tx (by omega) r1 r2 tr
  have c2 := Mul_s hG hx hx tx tx hm tm
  have c3 := Root_s hG (r := x.natAbs) (so := sx) hm tm (by omega) (by rw [hab]; exact Nat.le_refl _) (by rw [hab]; exact sq_up _) (by rw [← hxe]; exact tx)
  have c4 := Add_s hG hx hx tx tx hb tb
  have c5 := Compare_v (k := kx) (w := w) (y := 0) (sy := ⟨#[48]⟩) hx (by decide) tx str0 hkx
  have c6 := Mul_s hG hr hr tr tr hl tl
  have c7 := Add_s hG (y := 1) (sy := ⟨#[49]⟩) hr (by decide) tr (by decide +kernel) he te
  have c8 := Mul_s hG he he te te hh th
  have c9 := Compare_v (k := k) (w := w) hl hx tl tx hk
  have c10 := Compare_v (k := 1) (w := w) hh hx th tx (by exact cmpI_gt hh1)
  clear tx hx bx ex tm hm hab hsq h0 r1 r2 hRx br b1 hxe hl1 hh1 hk hkx tb hb tr hr tl hl te he th hh
  go_enter Tryz.func6, Tryz.ntmps6
  go_wp2_with (first
    | (go_at_call 12; with_reducible refine (s0 _ hk0).mono ?_; rintro e w' ⟨rfl, hk1⟩)
    | (go_at_call 13; with_reducible refine (mx _ hk1).mono ?_; rintro e w' ⟨rfl, hk2⟩)
    | (go_at_call 21; with_reducible refine (c1 _ hk2).mono ?_; rintro e w' ⟨rfl, hk3⟩)
    | (go_at_call 15; with_reducible refine (c2 _ hk3).mono ?_; rintro e w' ⟨rfl, hk4⟩)
    | (go_at_call 21; with_reducible refine (c3 _ hk4).mono ?_; rintro e w' ⟨rfl, hk5⟩)
    | (go_at_call 14; with_reducible refine (c4 _ hk5).mono ?_; rintro e w' ⟨rfl, hk6⟩)
    | (go_at_call 18; with_reducible refine (c5 _ hk6).mono ?_; rintro e w' ⟨rfl, hk7⟩)
    | (go_at_call 15; with_reducible refine (c6 _ hk7).mono ?_; rintro e w' ⟨rfl, hk8⟩)
    | (go_at_call 14; with_reducible refine (c7 _ hk8).mono ?_; rintro e w' ⟨rfl, hk9⟩)
    | (go_at_call 15; with_reducible refine (c8 _ hk9).mono ?_; rintro e w' ⟨rfl, hk10⟩)
    | (go_at_call 18; with_reducible refine (c9 _ hk10).mono ?_; rintro e w' ⟨rfl, hk11⟩)
    | (go_at_call 18; with_reducible refine (c10 _ hk11).mono ?_; rintro e w' ⟨rfl, hk12⟩))
  go_ret
  exact ⟨rfl, hk12⟩

theorem IntegerRoot_law (a : ByteArray) (w : World) (hG : Glob w) :
    Calls Tryz.prog 6 #[.string a] w fun e w' => e = .returned (.bool true) ∧ Below w.heap.size w w' := by
  by_cases h : madeZ a.data.toList 80 < 0
  · exact Root_law_n a w hG _ rfl h
  · exact Root_law_p a w hG _ rfl (by omega)
end Go.Proofs.YtiefodlhnpondaaGreatDoor
