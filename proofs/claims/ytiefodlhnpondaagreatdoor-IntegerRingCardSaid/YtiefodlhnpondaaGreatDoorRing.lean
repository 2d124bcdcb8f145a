/-
  The law IntegerRing: sums and products of integers of at most 60 digits, as strings determine them.
-/
import Derived.Test.YtiefodlhnpondaaGreatDoorAt
namespace Go.Proofs.YtiefodlhnpondaaGreatDoor
open Go.RowKit Go.Shelf
attribute [local go_sem] Oper.semAt_some

set_option maxHeartbeats 8000000 in
set_option maxRecDepth 100000 in
theorem IntegerRing_law (a b c : ByteArray) (w : World) (hG : Glob w) :
    Calls Tryz.prog 3 #[.string a, .string b, .string c] w fun e w' => e = .returned (.bool true) ∧ Below w.heap.size w w' := by
  have bx := made_bd a.data.toList 60 (by omega)
  have bY := made_bd b.data.toList 60 (by omega)
  have bz := made_bd c.data.toList 60 (by omega)
  have hk0 := Below.refl w.heap.size w
  have s0 := sane_s hG
  obtain ⟨x, ex⟩ : ∃ x, x = madeZ a.data.toList 60 := ⟨_, rfl⟩
  obtain ⟨sx, tx⟩ : ∃ s, s = str x := ⟨_, rfl⟩
  have mx := Made_s (w := w) (s := a) (t := sx) (most := 60) (i := 60) rfl (by omega) (by rw [tx, ex])
  obtain ⟨y, ey⟩ : ∃ y, y = madeZ b.data.toList 60 := ⟨_, rfl⟩
  obtain ⟨sy, ty⟩ : ∃ s, s = str y := ⟨_, rfl⟩
  have my := Made_s (w := w) (s := b) (t := sy) (most := 60) (i := 60) rfl (by omega) (by rw [ty, ey])
  obtain ⟨z, ez⟩ : ∃ z, z = madeZ c.data.toList 60 := ⟨_, rfl⟩
  obtain ⟨sz, tz⟩ : ∃ s, s = str z := ⟨_, rfl⟩
  have mz := Made_s (w := w) (s := c) (t := sz) (most := 60) (i := 60) rfl (by omega) (by rw [tz, ez])
  rw [← ex] at bx
  rw [← ey] at bY
  rw [← ez] at bz
  have hx := bx.small (by omega)
  have hy := bY.small (by omega)
  have hz := bz.small (by omega)
  obtain ⟨sxy, txy⟩ : ∃ s, s = str (x + y) := ⟨_, rfl⟩
  have hxy : small (x + y) = true := (bx.add bY).small (by decide)
  obtain ⟨syz, tyz⟩ : ∃ s, s = str (y + z) := ⟨_, rfl⟩
  have hyz : small (y + z) = true := (bY.add bz).small (by decide)
  obtain ⟨sxyz, txyz⟩ : ∃ s, s = str (x + y + z) := ⟨_, rfl⟩
  have hxyz : small (x + y + z) = true := ((bx.add bY).add bz).small (by decide)
  obtain ⟨sp, tp⟩ : ∃ s, s = str (x * y) := ⟨_, rfl⟩
  have hp : small (x * y) = true := (bx.mul bY).small (by decide)
  obtain ⟨spz, tpz⟩ : ∃ s, s = str (x * y * z) := ⟨_, rfl⟩
  have hpz : small (x * y * z) = true := ((bx.mul bY).mul bz).small (by decide)
  obtain ⟨sr, tr⟩ : ∃ s, s = str (y * z) := ⟨_, rfl⟩
  have hr : small (y * z) = true := (bY.mul bz).small (by decide)
  obtain ⟨sl, tl⟩ : ∃ s, s = str ((x + y) * z) := ⟨_, rfl⟩
  have hl : small ((x + y) * z) = true := ((bx.add bY).mul bz).small (by decide)
  obtain ⟨sxz, txz⟩ : ∃ s, s = str (x * z) := ⟨_, rfl⟩
  have hxz : small (x * z) = true := (bx.mul bz).small (by decide)
  obtain ⟨sd, td⟩ : ∃ s, s = str (x - y) := ⟨_, rfl⟩
  have hd : small (x - y) = true := (bx.sub bY).small (by decide)
  have c1 := Add_s hG hx hy tx ty hxy txy
  have c2 := Add_s hG hy hx ty tx (so := sxy) (by rw [Int.add_comm]; exact hxy) (by rw [Int.add_comm]; exact txy)
  have c3 := Add_s hG hxy hz txy tz hxyz txyz
  have c4 := Add_s hG hy hz ty tz hyz tyz
  have c5 := Add_s hG hx hyz tx tyz (so := sxyz) (by rw [← Int.add_assoc]; exact hxyz) (by rw [← Int.add_assoc]; exact txyz)
  have d1 := Mul_s hG hx hy tx ty hp tp
  have d2 := Mul_s hG hy hx ty tx (so := sp) (by rw [Int.mul_comm]; exact hp) (by rw [Int.mul_comm]; exact tp)
  have d3 := Mul_s hG hp hz tp tz hpz tpz
  have d4 := Mul_s hG hy hz ty tz hr tr
  have d5 := Mul_s hG hx hr tx tr (so := spz) (by rw [← Int.mul_assoc]; exact hpz) (by rw [← Int.mul_assoc]; exact tpz)
  have d6 := Mul_s hG hxy hz txy tz hl tl
  have d7 := Mul_s hG hx hz tx tz hxz txz
  have c6 := Add_s hG hxz hr txz tr (so := sl) (by rw [← Int.add_mul]; exact hl) (by rw [← Int.add_mul]; exact tl)
  have f1 := Sub_s hG hx hy tx ty hd td
  have c7 := Add_s hG hd hy td ty (so := sx) (by rw [Int.sub_add_cancel]; exact hx) (by rw [Int.sub_add_cancel]; exact tx)
  have d8 := Mul_s hG (y := 1) (sy := ⟨#[49]⟩) hx (by decide +kernel) tx (by decide +kernel) (so := sx) (by rw [Int.mul_one]; exact hx) (by rw [Int.mul_one]; exact tx)
  have d9 := Mul_s hG (y := 0) (sy := ⟨#[48]⟩) hx (by decide +kernel) tx (by decide +kernel) (so := ⟨#[48]⟩) (by rw [Int.mul_zero]; decide +kernel) (by rw [Int.mul_zero]; decide +kernel)
  clear tx ty tz txy tyz txyz tp tpz tr tl txz td hx hy hz hxy hyz hxyz hp hpz hr hl hxz hd bx bY bz ex ey ez
  go_enter Tryz.func3, Tryz.ntmps3
  go_wp2_with (first
    | (go_at_call 12; with_reducible refine (s0 _ hk0).mono ?_; rintro e w' ⟨rfl, hk1⟩)
    | (go_at_call 13; with_reducible refine (mx _ hk1).mono ?_; rintro e w' ⟨rfl, hk2⟩)
    | (go_at_call 13; with_reducible refine (my _ hk2).mono ?_; rintro e w' ⟨rfl, hk3⟩)
    | (go_at_call 13; with_reducible refine (mz _ hk3).mono ?_; rintro e w' ⟨rfl, hk4⟩)
    | (go_at_call 14; with_reducible refine (c1 _ hk4).mono ?_; rintro e w' ⟨rfl, hk5⟩)
    | (go_at_call 14; with_reducible refine (c2 _ hk5).mono ?_; rintro e w' ⟨rfl, hk6⟩)
    | (go_at_call 14; with_reducible refine (c3 _ hk6).mono ?_; rintro e w' ⟨rfl, hk7⟩)
    | (go_at_call 14; with_reducible refine (c4 _ hk7).mono ?_; rintro e w' ⟨rfl, hk8⟩)
    | (go_at_call 14; with_reducible refine (c5 _ hk8).mono ?_; rintro e w' ⟨rfl, hk9⟩)
    | (go_at_call 15; with_reducible refine (d1 _ hk9).mono ?_; rintro e w' ⟨rfl, hk10⟩)
    | (go_at_call 15; with_reducible refine (d2 _ hk10).mono ?_; rintro e w' ⟨rfl, hk11⟩)
    | (go_at_call 15; with_reducible refine (d3 _ hk11).mono ?_; rintro e w' ⟨rfl, hk12⟩)
    | (go_at_call 15; with_reducible refine (d4 _ hk12).mono ?_; rintro e w' ⟨rfl, hk13⟩)
    | (go_at_call 15; with_reducible refine (d5 _ hk13).mono ?_; rintro e w' ⟨rfl, hk14⟩)
    | (go_at_call 15; with_reducible refine (d6 _ hk14).mono ?_; rintro e w' ⟨rfl, hk15⟩)
    | (go_at_call 15; with_reducible refine (d7 _ hk15).mono ?_; rintro e w' ⟨rfl, hk16⟩)
    | (go_at_call 14; with_reducible refine (c6 _ hk16).mono ?_; rintro e w' ⟨rfl, hk17⟩)
    | (go_at_call 16; with_reducible refine (f1 _ hk17).mono ?_; rintro e w' ⟨rfl, hk18⟩)
    | (go_at_call 14; with_reducible refine (c7 _ hk18).mono ?_; rintro e w' ⟨rfl, hk19⟩)
    | (go_at_call 15; with_reducible refine (d8 _ hk19).mono ?_; rintro e w' ⟨rfl, hk20⟩)
    | (go_at_call 15; with_reducible refine (d9 _ hk20).mono ?_; rintro e w' ⟨rfl, hk21⟩))
  go_ret
  exact ⟨rfl, hk21⟩
end Go.Proofs.YtiefodlhnpondaaGreatDoor
