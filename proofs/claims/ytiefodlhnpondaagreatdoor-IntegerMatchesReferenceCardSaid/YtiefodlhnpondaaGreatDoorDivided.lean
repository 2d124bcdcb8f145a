/-
  The law IntegerDivided: quotient and remainder.
-/
import Derived.Test.YtiefodlhnpondaaGreatDoorAt
import Derived.Test.YtiefodlhnpondaaGreatDoorOrder
namespace Go.Proofs.YtiefodlhnpondaaGreatDoor
open Go.RowKit Go.Shelf
attribute [local go_sem] Oper.semAt_some

theorem str0 : (⟨#[48]⟩ : ByteArray) = str 0 := by decide +kernel
theorem not_zero {y : Int} {sy : ByteArray} (ey : sy = str y) (h : y ≠ 0) : ¬ sy.toList = [48] := fun hh => str_list_ne ey str0 h (hh.trans (by rw [Lib.toList_data]))
theorem valid_str {z : Int} {s : ByteArray} (h : small z = true) (e : s = str z) : validL s.data.toList = true := by
  rw [e, str_list, validL_txt]
  exact h
theorem cmp_nonneg {a : Int} (h : 0 ≤ a) : ∃ k, cmpI a 0 = k ∧ 0 ≤ k := by
  refine ⟨_, rfl, ?_⟩
  unfold cmpI
  rw [if_neg (by omega)]
  split <;> omega

set_option maxHeartbeats 8000000 in
set_option maxRecDepth 100000 in
theorem Divided_0 (a b : ByteArray) (w : World) (hG : Glob w) (x y : Int) (ex : x = madeZ a.data.toList 90) (ey : y = madeZ b.data.toList 60) (h0 : y = 0) :
    Calls Tryz.prog 4 #[.string a, .string b] w fun e w' => e = .returned (.bool true) ∧ Below w.heap.size w w' := by
  have hk0 := Below.refl w.heap.size w
  have s0 := sane_s hG
  have bx := made_bd a.data.toList 90 (by omega)
  have bY := made_bd b.data.toList 60 (by omega)
  rw [← ex] at bx
  rw [← ey] at bY
  obtain ⟨sx, tx⟩ : ∃ s, s = str x := ⟨_, rfl⟩
  have hx := bx.small (by omega)
  have mx := Made_s (w := w) (s := a) (t := sx) (most := 90) (i := 90) rfl (by omega) (by rw [tx, ex])
  have my := Made_s (w := w) (s := b) (t := ⟨#[48]⟩) (most := 60) (i := 60) rfl (by omega) (by rw [← ey, h0]; exact str0)
  have c1 := Div_z hG (sy := ⟨#[48]⟩) hx tx str0
  clear tx hx bx bY ex ey h0
  go_enter Tryz.func4, Tryz.ntmps4
  go_wp2_with (first
    | (go_at_call 12; with_reducible refine (s0 _ hk0).mono ?_; rintro e w' ⟨rfl, hk1⟩)
    | (go_at_call 13; with_reducible refine (mx _ hk1).mono ?_; rintro e w' ⟨rfl, hk2⟩)
    | (go_at_call 13; with_reducible refine (my _ hk2).mono ?_; rintro e w' ⟨rfl, hk3⟩)
    | (go_at_call 17; with_reducible refine (c1 _ hk3).mono ?_; rintro e w' ⟨rfl, hk4⟩))
  go_ret
  exact ⟨rfl, hk4⟩

set_option maxHeartbeats 8000000 in
set_option maxRecDepth 100000 in
theorem Divided_p (a b : ByteArray) (w : World) (hG : Glob w) (x y : Int) (ex : x = madeZ a.data.toList 90) (ey : y = madeZ b.data.toList 60) (h0 : 0 < y) :
    Calls Tryz.prog 4 #[.string a, .string b] w fun e w' => e = .returned (.bool true) ∧ Below w.heap.size w w' := by
  have hk0 := Below.refl w.heap.size w
  have s0 := sane_s hG
  have bx := made_bd a.data.toList 90 (by omega)
  have bY := made_bd b.data.toList 60 (by omega)
  rw [← ex] at bx
  rw [← ey] at bY
  obtain ⟨sx, tx⟩ : ∃ s, s = str x := ⟨_, rfl⟩
  have hx := bx.small (by omega)
  have mx := Made_s (w := w) (s := a) (t := sx) (most := 90) (i := 90) rfl (by omega) (by rw [tx, ex])
  have hy0 : y ≠ 0 := by omega
  obtain ⟨sy, ty⟩ : ∃ s, s = str y := ⟨_, rfl⟩
  have hy := bY.small (by omega)
  have my := Made_s (w := w) (s := b) (t := sy) (most := 60) (i := 60) rfl (by omega) (by rw [ty, ey])
  have bq : Bd (x / y) 90 := bx.le (Int.natAbs_ediv_le_natAbs x y)
  have hr0 := Int.emod_nonneg x hy0
  have hr1 := Int.emod_lt x hy0
  have br : Bd (x % y) 60 := bY.le (by omega)
  obtain ⟨sq, tq⟩ : ∃ s, s = str (x / y) := ⟨_, rfl⟩
  have hq : small (x / y) = true := (bq).small (by decide)
  obtain ⟨sr, tr⟩ : ∃ s, s = str (x % y) := ⟨_, rfl⟩
  have hr : small (x % y) = true := (br).small (by decide)
  obtain ⟨sp, tp⟩ : ∃ s, s = str (x / y * y) := ⟨_, rfl⟩
  have hp : small (x / y * y) = true := (bq.mul bY).small (by decide)
  obtain ⟨sm, tm⟩ : ∃ s, s = str (x * y) := ⟨_, rfl⟩
  have hm : small (x * y) = true := (bx.mul bY).small (by decide)
  obtain ⟨k, hk, hkp⟩ := cmp_nonneg hr0
  have hsum : x / y * y + x % y = x := by rw [Int.mul_comm]; exact Int.mul_ediv_add_emod x y
  have c1 := Div_s hG hx hy tx ty hy0 tq tr
  have c2 := Mul_s hG hq hy tq ty hp tp
  have c3 := Add_s hG hp hr tp tr (so := sx) (by rw [hsum]; exact hx) (by rw [hsum]; exact tx)
  have c4 := Mul_s hG (y := 1) (sy := ⟨#[49]⟩) hy (by decide +kernel) ty (by decide +kernel) (so := sy) (by rw [Int.mul_one]; exact hy) (by rw [Int.mul_one]; exact ty)
  have c5 := Compare_v (k := 1) (w := w) (y := 0) (sy := ⟨#[48]⟩) hy (by decide +kernel) ty str0 (by exact cmpI_gt h0)
  have c6 := Mul_s hG hx hy tx ty hm tm
  have c7 := Div_s hG (sq := sx) (sr := ⟨#[48]⟩) hm hy tm ty hy0 (by rw [Int.mul_ediv_cancel _ hy0]; exact tx) (by rw [Int.mul_emod_left]; exact str0)
  have c8 := Compare_v (k := k) (w := w) (y := 0) (sy := ⟨#[48]⟩) hr (by decide +kernel) tr str0 hk
  have c9 := Compare_v (k := -1) (w := w) hr hy tr ty (by exact cmpI_lt (by omega))
  have c10 := Valid_s (w := w) (s := sr) (b := true) (by rw [tr]; exact small_size hr) (valid_str hr tr)
  have hne := not_zero ty hy0
  have hne2 := beq_ne hne
  clear tx ty hx hy bx bY ex ey bq br hr0 hr1 hk hsum tq hq tr hr tp hp tm hm hy0 h0
  go_enter Tryz.func4, Tryz.ntmps4
  go_wp2_with (first
    | (go_at_call 12; with_reducible refine (s0 _ hk0).mono ?_; rintro e w' ⟨rfl, hk1⟩)
    | (go_at_call 13; with_reducible refine (mx _ hk1).mono ?_; rintro e w' ⟨rfl, hk2⟩)
    | (go_at_call 13; with_reducible refine (my _ hk2).mono ?_; rintro e w' ⟨rfl, hk3⟩)
    | (go_at_call 17; with_reducible refine (c1 _ hk3).mono ?_; rintro e w' ⟨rfl, hk4⟩)
    | (go_at_call 15; with_reducible refine (c2 _ hk4).mono ?_; rintro e w' ⟨rfl, hk5⟩)
    | (go_at_call 14; with_reducible refine (c3 _ hk5).mono ?_; rintro e w' ⟨rfl, hk6⟩)
    | (go_at_call 15; with_reducible refine (c4 _ hk6).mono ?_; rintro e w' ⟨rfl, hk7⟩)
    | (go_at_call 18; with_reducible refine (c5 _ hk7).mono ?_; rintro e w' ⟨rfl, hk8⟩)
    | (go_at_call 15; with_reducible refine (c6 _ hk8).mono ?_; rintro e w' ⟨rfl, hk9⟩)
    | (go_at_call 17; with_reducible refine (c7 _ hk9).mono ?_; rintro e w' ⟨rfl, hk10⟩)
    | (go_at_call 18; with_reducible refine (c8 _ hk10).mono ?_; rintro e w' ⟨rfl, hk11⟩)
    | (go_at_call 18; with_reducible refine (c9 _ hk11).mono ?_; rintro e w' ⟨rfl, hk12⟩)
    | (go_at_call 19; with_reducible refine (c10 _ hk12).mono ?_; rintro e w' ⟨rfl, hk13⟩))
  go_ret
  exact ⟨rfl, hk13⟩

set_option maxHeartbeats 8000000 in
set_option maxRecDepth 100000 in
theorem Divided_n (a b : ByteArray) (w : World) (hG : Glob w) (x y : Int) (ex : x = madeZ a.data.toList 90) (ey : y = madeZ b.data.toList 60) (h0 : y < 0) :
    Calls Tryz.prog 4 #[.string a, .string b] w fun e w' => e = .returned (.bool true) ∧ Below w.heap.size w w' := by
  have hk0 := Below.refl w.heap.size w
  have s0 := sane_s hG
  have bx := made_bd a.data.toList 90 (by omega)
  have bY := made_bd b.data.toList 60 (by omega)
  rw [← ex] at bx
  rw [← ey] at bY
  obtain ⟨sx, tx⟩ : ∃ s, s = str x := ⟨_, rfl⟩
  have hx := bx.small (by omega)
  have mx := Made_s (w := w) (s := a) (t := sx) (most := 90) (i := 90) rfl (by omega) (by rw [tx, ex])
  have hy0 : y ≠ 0 := by omega
  obtain ⟨sy, ty⟩ : ∃ s, s = str y := ⟨_, rfl⟩
  have hy := bY.small (by omega)
  have my := Made_s (w := w) (s := b) (t := sy) (most := 60) (i := 60) rfl (by omega) (by rw [ty, ey])
  have bq : Bd (x / y) 90 := bx.le (Int.natAbs_ediv_le_natAbs x y)
  have hr0 := Int.emod_nonneg x hy0
  have hr1 := Int.emod_lt x hy0
  have br : Bd (x % y) 60 := bY.le (by omega)
  obtain ⟨sq, tq⟩ : ∃ s, s = str (x / y) := ⟨_, rfl⟩
  have hq : small (x / y) = true := (bq).small (by decide)
  obtain ⟨sr, tr⟩ : ∃ s, s = str (x % y) := ⟨_, rfl⟩
  have hr : small (x % y) = true := (br).small (by decide)
  obtain ⟨sp, tp⟩ : ∃ s, s = str (x / y * y) := ⟨_, rfl⟩
  have hp : small (x / y * y) = true := (bq.mul bY).small (by decide)
  obtain ⟨sm, tm⟩ : ∃ s, s = str (x * y) := ⟨_, rfl⟩
  have hm : small (x * y) = true := (bx.mul bY).small (by decide)
  obtain ⟨sn, tn⟩ : ∃ s, s = str (0 - y) := ⟨_, rfl⟩
  have hn : small (0 - y) = true := ((show Bd (0 - y) 60 from by have := bY.neg; rwa [show -y = 0 - y from by omega] at this)).small (by decide)
  obtain ⟨k, hk, hkp⟩ := cmp_nonneg hr0
  have hsum : x / y * y + x % y = x := by rw [Int.mul_comm]; exact Int.mul_ediv_add_emod x y
  have c1 := Div_s hG hx hy tx ty hy0 tq tr
  have c2 := Mul_s hG hq hy tq ty hp tp
  have c3 := Add_s hG hp hr tp tr (so := sx) (by rw [hsum]; exact hx) (by rw [hsum]; exact tx)
  have c4 := Mul_s hG (y := 1) (sy := ⟨#[49]⟩) hy (by decide +kernel) ty (by decide +kernel) (so := sy) (by rw [Int.mul_one]; exact hy) (by rw [Int.mul_one]; exact ty)
  have c5 := Compare_v (k := -1) (w := w) (y := 0) (sy := ⟨#[48]⟩) hy (by decide +kernel) ty str0 (by exact cmpI_lt h0)
  have c6 := Sub_s hG (x := 0) (sx := ⟨#[48]⟩) (by decide +kernel) hy str0 ty hn tn
  have c7 := Mul_s hG hx hy tx ty hm tm
  have c8 := Div_s hG (sq := sx) (sr := ⟨#[48]⟩) hm hy tm ty hy0 (by rw [Int.mul_ediv_cancel _ hy0]; exact tx) (by rw [Int.mul_emod_left]; exact str0)
  have c9 := Compare_v (k := k) (w := w) (y := 0) (sy := ⟨#[48]⟩) hr (by decide +kernel) tr str0 hk
  have c10 := Compare_v (k := -1) (w := w) hr hn tr tn (by exact cmpI_lt (by omega))
  have c11 := Valid_s (w := w) (s := sr) (b := true) (by rw [tr]; exact small_size hr) (valid_str hr tr)
  have hne := not_zero ty hy0
  have hne2 := beq_ne hne
  clear tx ty hx hy bx bY ex ey bq br hr0 hr1 hk hsum tq hq tr hr tp hp tm hm tn hn hy0 h0
  go_enter Tryz.func4, Tryz.ntmps4
  go_wp2_with (first
    | (go_at_call 12; with_reducible refine (s0 _ hk0).mono ?_; rintro e w' ⟨rfl, hk1⟩)
    | (go_at_call 13; with_reducible refine (mx _ hk1).mono ?_; rintro e w' ⟨rfl, hk2⟩)
    | (go_at_call 13; with_reducible refine (my _ hk2).mono ?_; rintro e w' ⟨rfl, hk3⟩)
    | (go_at_call 17; with_reducible refine (c1 _ hk3).mono ?_; rintro e w' ⟨rfl, hk4⟩)
    | (go_at_call 15; with_reducible refine (c2 _ hk4).mono ?_; rintro e w' ⟨rfl, hk5⟩)
    | (go_at_call 14; with_reducible refine (c3 _ hk5).mono ?_; rintro e w' ⟨rfl, hk6⟩)
    | (go_at_call 15; with_reducible refine (c4 _ hk6).mono ?_; rintro e w' ⟨rfl, hk7⟩)
    | (go_at_call 18; with_reducible refine (c5 _ hk7).mono ?_; rintro e w' ⟨rfl, hk8⟩)
    | (go_at_call 16; with_reducible refine (c6 _ hk8).mono ?_; rintro e w' ⟨rfl, hk9⟩)
    | (go_at_call 15; with_reducible refine (c7 _ hk9).mono ?_; rintro e w' ⟨rfl, hk10⟩)
    | (go_at_call 17; with_reducible refine (c8 _ hk10).mono ?_; rintro e w' ⟨rfl, hk11⟩)
    | (go_at_call 18; with_reducible refine (c9 _ hk11).mono ?_; rintro e w' ⟨rfl, hk12⟩)
    | (go_at_call 18; with_reducible refine (c10 _ hk12).mono ?_; rintro e w' ⟨rfl, hk13⟩)
    | (go_at_call 19; with_reducible refine (c11 _ hk13).mono ?_; rintro e w' ⟨rfl, hk14⟩))
  go_ret
  exact ⟨rfl, hk14⟩

theorem IntegerDivided_law (a b : ByteArray) (w : World) (hG : Glob w) :
    Calls Tryz.prog 4 #[.string a, .string b] w fun e w' => e = .returned (.bool true) ∧ Below w.heap.size w w' := by
  rcases Int.lt_trichotomy (madeZ b.data.toList 60) 0 with h | h | h
  · exact Divided_n a b w hG _ _ rfl rfl h
  · exact Divided_0 a b w hG _ _ rfl rfl h
  · exact Divided_p a b w hG _ _ rfl rfl h
end Go.Proofs.YtiefodlhnpondaaGreatDoor
