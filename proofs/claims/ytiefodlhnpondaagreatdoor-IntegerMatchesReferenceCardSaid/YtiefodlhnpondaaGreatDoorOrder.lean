/-
  The law IntegerOrder: Compare is the order of the integers.
-/
import Derived.Test.YtiefodlhnpondaaGreatDoorAt
namespace Go.Proofs.YtiefodlhnpondaaGreatDoor
open Go.RowKit Go.Shelf
attribute [local go_sem] Oper.semAt_some

theorem cmpI_lt {a b : Int} (h : a < b) : cmpI a b = -1 := by unfold cmpI; rw [if_pos h]
theorem cmpI_eq {a b : Int} (h : a = b) : cmpI a b = 0 := by unfold cmpI; rw [if_neg (by omega), if_neg (by omega)]
theorem cmpI_gt {a b : Int} (h : b < a) : cmpI a b = 1 := by unfold cmpI; rw [if_neg (by omega), if_pos h]
theorem Compare_v {w : World} {x y k : Int} {sx sy : ByteArray} (hx : small x = true) (hy : small y = true) (ex : sx = str x) (ey : sy = str y) (hk : cmpI x y = k) (W : World) (hb : Below w.heap.size w W) :
    Calls Tryz.prog 18 #[.string sx, .string sy] W fun e W' => e = .returned (.int .i64 k) ∧ Below w.heap.size w W' := by
  subst hk
  exact Compare_s hx hy ex ey W hb

set_option maxHeartbeats 8000000 in
set_option maxRecDepth 100000 in
theorem Order_gt (a b c : ByteArray) (w : World) (hG : Glob w) (x y z : Int) (ex : x = madeZ a.data.toList 60) (ey : y = madeZ b.data.toList 60) (ez : z = madeZ c.data.toList 60) (hxy : y < x) :
    Calls Tryz.prog 7 #[.string a, .string b, .string c] w fun e w' => e = .returned (.bool true) ∧ Below w.heap.size w w' := by
  have hk0 := Below.refl w.heap.size w
  have s0 := sane_s hG
  have bx := made_bd a.data.toList 60 (by omega)
  have bY := made_bd b.data.toList 60 (by omega)
  have bz := made_bd c.data.toList 60 (by omega)
  rw [← ex] at bx
  rw [← ey] at bY
  rw [← ez] at bz
  obtain ⟨sx, tx⟩ : ∃ s, s = str x := ⟨_, rfl⟩
  have hx := bx.small (by omega)
  have mx := Made_s (w := w) (s := a) (t := sx) (most := 60) (i := 60) rfl (by omega) (by rw [tx, ex])
  obtain ⟨sy, ty⟩ : ∃ s, s = str y := ⟨_, rfl⟩
  have hy := bY.small (by omega)
  have my := Made_s (w := w) (s := b) (t := sy) (most := 60) (i := 60) rfl (by omega) (by rw [ty, ey])
  obtain ⟨sz, tz⟩ : ∃ s, s = str z := ⟨_, rfl⟩
  have hz := bz.small (by omega)
  have mz := Made_s (w := w) (s := c) (t := sz) (most := 60) (i := 60) rfl (by omega) (by rw [tz, ez])
  obtain ⟨sd, td⟩ : ∃ s, s = str (x - y) := ⟨_, rfl⟩
  have hd : small (x - y) = true := (bx.sub bY).small (by decide)
  obtain ⟨sxz, txz⟩ : ∃ s, s = str (x + z) := ⟨_, rfl⟩
  have hxz : small (x + z) = true := (bx.add bz).small (by decide)
  obtain ⟨syz, tyz⟩ : ∃ s, s = str (y + z) := ⟨_, rfl⟩
  have hyz : small (y + z) = true := (bY.add bz).small (by decide)
  have c1 := Compare_v (k := 1) (w := w) hx hy tx ty (by exact cmpI_gt hxy)
  have c2 := Sub_s hG hx hy tx ty hd td
  have c3 := Add_s hG hx hz tx tz hxz txz
  have c4 := Add_s hG hy hz ty tz hyz tyz
  have c5 := Compare_v (k := -1) (w := w) hy hx ty tx (by exact cmpI_lt hxy)
  have c6 := Compare_v (k := 1) (w := w) (y := 0) (sy := ⟨#[48]⟩) hd (by decide +kernel) td (by decide +kernel) (by exact cmpI_gt (by omega))
  have c7 := Compare_v (k := 1) (w := w) hxz hyz txz tyz (by exact cmpI_gt (by omega))
  have hne := str_list_ne tx ty (by omega)
  have hne2 := beq_ne hne
  clear tx tz ty td txz tyz hx hz hy hd hxz hyz bx bY bz ex ey ez
  go_enter Tryz.func7, Tryz.ntmps7
  go_wp2_with (first
    | (go_at_call 12; with_reducible refine (s0 _ hk0).mono ?_; rintro e w' ⟨rfl, hk1⟩)
    | (go_at_call 13; with_reducible refine (mx _ hk1).mono ?_; rintro e w' ⟨rfl, hk2⟩)
    | (go_at_call 13; with_reducible refine (my _ hk2).mono ?_; rintro e w' ⟨rfl, hk3⟩)
    | (go_at_call 13; with_reducible refine (mz _ hk3).mono ?_; rintro e w' ⟨rfl, hk4⟩)
    | (go_at_call 18; with_reducible refine (c1 _ hk4).mono ?_; rintro e w' ⟨rfl, hk5⟩)
    | (go_at_call 16; with_reducible refine (c2 _ hk5).mono ?_; rintro e w' ⟨rfl, hk6⟩)
    | (go_at_call 14; with_reducible refine (c3 _ hk6).mono ?_; rintro e w' ⟨rfl, hk7⟩)
    | (go_at_call 14; with_reducible refine (c4 _ hk7).mono ?_; rintro e w' ⟨rfl, hk8⟩)
    | (go_at_call 18; with_reducible refine (c5 _ hk8).mono ?_; rintro e w' ⟨rfl, hk9⟩)
    | (go_at_call 18; with_reducible refine (c6 _ hk9).mono ?_; rintro e w' ⟨rfl, hk10⟩)
    | (go_at_call 18; with_reducible refine (c7 _ hk10).mono ?_; rintro e w' ⟨rfl, hk11⟩))
  go_ret
  exact ⟨rfl, hk11⟩

set_option maxHeartbeats 8000000 in
set_option maxRecDepth 100000 in
theorem Order_lt1 (a b c : ByteArray) (w : World) (hG : Glob w) (x y z : Int) (ex : x = madeZ a.data.toList 60) (ey : y = madeZ b.data.toList 60) (ez : z = madeZ c.data.toList 60) (hxy : x < y) (hc : z < y) :
    Calls Tryz.prog 7 #[.string a, .string b, .string c] w fun e w' => e = .returned (.bool true) ∧ Below w.heap.size w w' := by
  have hk0 := Below.refl w.heap.size w
  have s0 := sane_s hG
  have bx := made_bd a.data.toList 60 (by omega)
  have bY := made_bd b.data.toList 60 (by omega)
  have bz := made_bd c.data.toList 60 (by omega)
  rw [← ex] at bx
  rw [← ey] at bY
  rw [← ez] at bz
  obtain ⟨sx, tx⟩ : ∃ s, s = str x := ⟨_, rfl⟩
  have hx := bx.small (by omega)
  have mx := Made_s (w := w) (s := a) (t := sx) (most := 60) (i := 60) rfl (by omega) (by rw [tx, ex])
  obtain ⟨sy, ty⟩ : ∃ s, s = str y := ⟨_, rfl⟩
  have hy := bY.small (by omega)
  have my := Made_s (w := w) (s := b) (t := sy) (most := 60) (i := 60) rfl (by omega) (by rw [ty, ey])
  obtain ⟨sz, tz⟩ : ∃ s, s = str z := ⟨_, rfl⟩
  have hz := bz.small (by omega)
  have mz := Made_s (w := w) (s := c) (t := sz) (most := 60) (i := 60) rfl (by omega) (by rw [tz, ez])
  obtain ⟨sd, td⟩ : ∃ s, s = str (x - y) := ⟨_, rfl⟩
  have hd : small (x - y) = true := (bx.sub bY).small (by decide)
  obtain ⟨sxz, txz⟩ : ∃ s, s = str (x + z) := ⟨_, rfl⟩
  have hxz : small (x + z) = true := (bx.add bz).small (by decide)
  obtain ⟨syz, tyz⟩ : ∃ s, s = str (y + z) := ⟨_, rfl⟩
  have hyz : small (y + z) = true := (bY.add bz).small (by decide)
  have c1 := Compare_v (k := -1) (w := w) hx hy tx ty (by exact cmpI_lt hxy)
  have c2 := Sub_s hG hx hy tx ty hd td
  have c3 := Add_s hG hx hz tx tz hxz txz
  have c4 := Add_s hG hy hz ty tz hyz tyz
  have c5 := Compare_v (k := 1) (w := w) hy hx ty tx (by exact cmpI_gt hxy)
  have c6 := Compare_v (k := -1) (w := w) (y := 0) (sy := ⟨#[48]⟩) hd (by decide +kernel) td (by decide +kernel) (by exact cmpI_lt (by omega))
  have c7 := Compare_v (k := -1) (w := w) hxz hyz txz tyz (by exact cmpI_lt (by omega))
  have c8 := Compare_v (k := 1) (w := w) hy hz ty tz (by exact cmpI_gt hc)
  have hne := str_list_ne tx ty (by omega)
  have hne2 := beq_ne hne
  clear tx tz ty td txz tyz hx hz hy hd hxz hyz bx bY bz ex ey ez
  go_enter Tryz.func7, Tryz.ntmps7
  go_wp2_with (first
    | (go_at_call 12; with_reducible refine (s0 _ hk0).mono ?_; rintro e w' ⟨rfl, hk1⟩)
    | (go_at_call 13; with_reducible refine (mx _ hk1).mono ?_; rintro e w' ⟨rfl, hk2⟩)
    | (go_at_call 13; with_reducible refine (my _ hk2).mono ?_; rintro e w' ⟨rfl, hk3⟩)
    | (go_at_call 13; with_reducible refine (mz _ hk3).mono ?_; rintro e w' ⟨rfl, hk4⟩)
    | (go_at_call 18; with_reducible refine (c1 _ hk4).mono ?_; rintro e w' ⟨rfl, hk5⟩)
    | (go_at_call 16; with_reducible refine (c2 _ hk5).mono ?_; rintro e w' ⟨rfl, hk6⟩)
    | (go_at_call 14; with_reducible refine (c3 _ hk6).mono ?_; rintro e w' ⟨rfl, hk7⟩)
    | (go_at_call 14; with_reducible refine (c4 _ hk7).mono ?_; rintro e w' ⟨rfl, hk8⟩)
    | (go_at_call 18; with_reducible refine (c5 _ hk8).mono ?_; rintro e w' ⟨rfl, hk9⟩)
    | (go_at_call 18; with_reducible refine (c6 _ hk9).mono ?_; rintro e w' ⟨rfl, hk10⟩)
    | (go_at_call 18; with_reducible refine (c7 _ hk10).mono ?_; rintro e w' ⟨rfl, hk11⟩)
    | (go_at_call 18; with_reducible refine (c8 _ hk11).mono ?_; rintro e w' ⟨rfl, hk12⟩))
  go_ret
  exact ⟨rfl, hk12⟩

set_option maxHeartbeats 8000000 in
set_option maxRecDepth 100000 in
theorem Order_lt2 (a b c : ByteArray) (w : World) (hG : Glob w) (x y z : Int) (ex : x = madeZ a.data.toList 60) (ey : y = madeZ b.data.toList 60) (ez : z = madeZ c.data.toList 60) (hxy : x < y) (hc : y < z) :
    Calls Tryz.prog 7 #[.string a, .string b, .string c] w fun e w' => e = .returned (.bool true) ∧ Below w.heap.size w w' := by
  have hk0 := Below.refl w.heap.size w
  have s0 := sane_s hG
  have bx := made_bd a.data.toList 60 (by omega)
  have bY := made_bd b.data.toList 60 (by omega)
  have bz := made_bd c.data.toList 60 (by omega)
  rw [← ex] at bx
  rw [← ey] at bY
  rw [← ez] at bz
  obtain ⟨sx, tx⟩ : ∃ s, s = str x := ⟨_, rfl⟩
  have hx := bx.small (by omega)
  have mx := Made_s (w := w) (s := a) (t := sx) (most := 60) (i := 60) rfl (by omega) (by rw [tx, ex])
  obtain ⟨sy, ty⟩ : ∃ s, s = str y := ⟨_, rfl⟩
  have hy := bY.small (by omega)
  have my := Made_s (w := w) (s := b) (t := sy) (most := 60) (i := 60) rfl (by omega) (by rw [ty, ey])
  obtain ⟨sz, tz⟩ : ∃ s, s = str z := ⟨_, rfl⟩
  have hz := bz.small (by omega)
  have mz := Made_s (w := w) (s := c) (t := sz) (most := 60) (i := 60) rfl (by omega) (by rw [tz, ez])
  obtain ⟨sd, td⟩ : ∃ s, s = str (x - y) := ⟨_, rfl⟩
  have hd : small (x - y) = true := (bx.sub bY).small (by decide)
  obtain ⟨sxz, txz⟩ : ∃ s, s = str (x + z) := ⟨_, rfl⟩
  have hxz : small (x + z) = true := (bx.add bz).small (by decide)
  obtain ⟨syz, tyz⟩ : ∃ s, s = str (y + z) := ⟨_, rfl⟩
  have hyz : small (y + z) = true := (bY.add bz).small (by decide)
  have c1 := Compare_v (k := -1) (w := w) hx hy tx ty (by exact cmpI_lt hxy)
  have c2 := Sub_s hG hx hy tx ty hd td
  have c3 := Add_s hG hx hz tx tz hxz txz
  have c4 := Add_s hG hy hz ty tz hyz tyz
  have c5 := Compare_v (k := 1) (w := w) hy hx ty tx (by exact cmpI_gt hxy)
  have c6 := Compare_v (k := -1) (w := w) (y := 0) (sy := ⟨#[48]⟩) hd (by decide +kernel) td (by decide +kernel) (by exact cmpI_lt (by omega))
  have c7 := Compare_v (k := -1) (w := w) hxz hyz txz tyz (by exact cmpI_lt (by omega))
  have c8 := Compare_v (k := -1) (w := w) hy hz ty tz (by exact cmpI_lt hc)
  have c9 := Compare_v (k := -1) (w := w) hx hz tx tz (by exact cmpI_lt (by omega))
  have hne := str_list_ne tx ty (by omega)
  have hne2 := beq_ne hne
  clear tx tz ty td txz tyz hx hz hy hd hxz hyz bx bY bz ex ey ez
  go_enter Tryz.func7, Tryz.ntmps7
  go_wp2_with (first
    | (go_at_call 12; with_reducible refine (s0 _ hk0).mono ?_; rintro e w' ⟨rfl, hk1⟩)
    | (go_at_call 13; with_reducible refine (mx _ hk1).mono ?_; rintro e w' ⟨rfl, hk2⟩)
    | (go_at_call 13; with_reducible refine (my _ hk2).mono ?_; rintro e w' ⟨rfl, hk3⟩)
    | (go_at_call 13; with_reducible refine (mz _ hk3).mono ?_; rintro e w' ⟨rfl, hk4⟩)
    | (go_at_call 18; with_reducible refine (c1 _ hk4).mono ?_; rintro e w' ⟨rfl, hk5⟩)
    | (go_at_call 16; with_reducible refine (c2 _ hk5).mono ?_; rintro e w' ⟨rfl, hk6⟩)
    | (go_at_call 14; with_reducible refine (c3 _ hk6).mono ?_; rintro e w' ⟨rfl, hk7⟩)
    | (go_at_call 14; with_reducible refine (c4 _ hk7).mono ?_; rintro e w' ⟨rfl, hk8⟩)
    | (go_at_call 18; with_reducible refine (c5 _ hk8).mono ?_; rintro e w' ⟨rfl, hk9⟩)
    | (go_at_call 18; with_reducible refine (c6 _ hk9).mono ?_; rintro e w' ⟨rfl, hk10⟩)
    | (go_at_call 18; with_reducible refine (c7 _ hk10).mono ?_; rintro e w' ⟨rfl, hk11⟩)
    | (go_at_call 18; with_reducible refine (c8 _ hk11).mono ?_; rintro e w' ⟨rfl, hk12⟩)
    | (go_at_call 18; with_reducible refine (c9 _ hk12).mono ?_; rintro e w' ⟨rfl, hk13⟩))
  go_ret
  exact ⟨rfl, hk13⟩

set_option maxHeartbeats 8000000 in
set_option maxRecDepth 100000 in
theorem Order_lt3 (a b c : ByteArray) (w : World) (hG : Glob w) (x y z : Int) (ex : x = madeZ a.data.toList 60) (ey : y = madeZ b.data.toList 60) (ez : z = madeZ c.data.toList 60) (hxy : x < y) (hc : y = z) :
    Calls Tryz.prog 7 #[.string a, .string b, .string c] w fun e w' => e = .returned (.bool true) ∧ Below w.heap.size w w' := by
  have hk0 := Below.refl w.heap.size w
  have s0 := sane_s hG
  have bx := made_bd a.data.toList 60 (by omega)
  have bY := made_bd b.data.toList 60 (by omega)
  have bz := made_bd c.data.toList 60 (by omega)
  rw [← ex] at bx
  rw [← ey] at bY
  rw [← ez] at bz
  obtain ⟨sx, tx⟩ : ∃ s, s = str x := ⟨_, rfl⟩
  have hx := bx.small (by omega)
  have mx := Made_s (w := w) (s := a) (t := sx) (most := 60) (i := 60) rfl (by omega) (by rw [tx, ex])
  obtain ⟨sy, ty⟩ : ∃ s, s = str y := ⟨_, rfl⟩
  have hy := bY.small (by omega)
  have my := Made_s (w := w) (s := b) (t := sy) (most := 60) (i := 60) rfl (by omega) (by rw [ty, ey])
  obtain ⟨sz, tz⟩ : ∃ s, s = str z := ⟨_, rfl⟩
  have hz := bz.small (by omega)
  have mz := Made_s (w := w) (s := c) (t := sz) (most := 60) (i := 60) rfl (by omega) (by rw [tz, ez])
  obtain ⟨sd, td⟩ : ∃ s, s = str (x - y) := ⟨_, rfl⟩
  have hd : small (x - y) = true := (bx.sub bY).small (by decide)
  obtain ⟨sxz, txz⟩ : ∃ s, s = str (x + z) := ⟨_, rfl⟩
  have hxz : small (x + z) = true := (bx.add bz).small (by decide)
  obtain ⟨syz, tyz⟩ : ∃ s, s = str (y + z) := ⟨_, rfl⟩
  have hyz : small (y + z) = true := (bY.add bz).small (by decide)
  have c1 := Compare_v (k := -1) (w := w) hx hy tx ty (by exact cmpI_lt hxy)
  have c2 := Sub_s hG hx hy tx ty hd td
  have c3 := Add_s hG hx hz tx tz hxz txz
  have c4 := Add_s hG hy hz ty tz hyz tyz
  have c5 := Compare_v (k := 1) (w := w) hy hx ty tx (by exact cmpI_gt hxy)
  have c6 := Compare_v (k := -1) (w := w) (y := 0) (sy := ⟨#[48]⟩) hd (by decide +kernel) td (by decide +kernel) (by exact cmpI_lt (by omega))
  have c7 := Compare_v (k := -1) (w := w) hxz hyz txz tyz (by exact cmpI_lt (by omega))
  have c8 := Compare_v (k := 0) (w := w) hy hz ty tz (by exact cmpI_eq hc)
  have c9 := Compare_v (k := -1) (w := w) hx hz tx tz (by exact cmpI_lt (by omega))
  have hne := str_list_ne tx ty (by omega)
  have hne2 := beq_ne hne
  clear tx tz ty td txz tyz hx hz hy hd hxz hyz bx bY bz ex ey ez
  go_enter Tryz.func7, Tryz.ntmps7
  go_wp2_with (first
    | (go_at_call 12; with_reducible refine (s0 _ hk0).mono ?_; rintro e w' ⟨rfl, hk1⟩)
    | (go_at_call 13; with_reducible refine (mx _ hk1).mono ?_; rintro e w' ⟨rfl, hk2⟩)
    | (go_at_call 13; with_reducible refine (my _ hk2).mono ?_; rintro e w' ⟨rfl, hk3⟩)
    | (go_at_call 13; with_reducible refine (mz _ hk3).mono ?_; rintro e w' ⟨rfl, hk4⟩)
    | (go_at_call 18; with_reducible refine (c1 _ hk4).mono ?_; rintro e w' ⟨rfl, hk5⟩)
    | (go_at_call 16; with_reducible refine (c2 _ hk5).mono ?_; rintro e w' ⟨rfl, hk6⟩)
    | (go_at_call 14; with_reducible refine (c3 _ hk6).mono ?_; rintro e w' ⟨rfl, hk7⟩)
    | (go_at_call 14; with_reducible refine (c4 _ hk7).mono ?_; rintro e w' ⟨rfl, hk8⟩)
    | (go_at_call 18; with_reducible refine (c5 _ hk8).mono ?_; rintro e w' ⟨rfl, hk9⟩)
    | (go_at_call 18; with_reducible refine (c6 _ hk9).mono ?_; rintro e w' ⟨rfl, hk10⟩)
    | (go_at_call 18; with_reducible refine (c7 _ hk10).mono ?_; rintro e w' ⟨rfl, hk11⟩)
    | (go_at_call 18; with_reducible refine (c8 _ hk11).mono ?_; rintro e w' ⟨rfl, hk12⟩)
    | (go_at_call 18; with_reducible refine (c9 _ hk12).mono ?_; rintro e w' ⟨rfl, hk13⟩))
  go_ret
  exact ⟨rfl, hk13⟩

set_option maxHeartbeats 8000000 in
set_option maxRecDepth 100000 in
theorem Order_eq1 (a b c : ByteArray) (w : World) (hG : Glob w) (x y z : Int) (ex : x = madeZ a.data.toList 60) (ey : y = madeZ b.data.toList 60) (ez : z = madeZ c.data.toList 60) (hxy : x = y) (hc : z < x) :
    Calls Tryz.prog 7 #[.string a, .string b, .string c] w fun e w' => e = .returned (.bool true) ∧ Below w.heap.size w w' := by
  have hk0 := Below.refl w.heap.size w
  have s0 := sane_s hG
  have bx := made_bd a.data.toList 60 (by omega)
  have bY := made_bd b.data.toList 60 (by omega)
  have bz := made_bd c.data.toList 60 (by omega)
  rw [← ex] at bx
  rw [← ey] at bY
  rw [← ez] at bz
  subst hxy
  obtain ⟨sx, tx⟩ : ∃ s, s = str x := ⟨_, rfl⟩
  have hx := bx.small (by omega)
  have mx := Made_s (w := w) (s := a) (t := sx) (most := 60) (i := 60) rfl (by omega) (by rw [tx, ex])
  have my := Made_s (w := w) (s := b) (t := sx) (most := 60) (i := 60) rfl (by omega) (by rw [tx, ey])
  obtain ⟨sz, tz⟩ : ∃ s, s = str z := ⟨_, rfl⟩
  have hz := bz.small (by omega)
  have mz := Made_s (w := w) (s := c) (t := sz) (most := 60) (i := 60) rfl (by omega) (by rw [tz, ez])
  obtain ⟨sd, td⟩ : ∃ s, s = str (x - x) := ⟨_, rfl⟩
  have hd : small (x - x) = true := (bx.sub bx).small (by decide)
  obtain ⟨sxz, txz⟩ : ∃ s, s = str (x + z) := ⟨_, rfl⟩
  have hxz : small (x + z) = true := (bx.add bz).small (by decide)
  have c1 := Compare_v (k := 0) (w := w) hx hx tx tx (by exact cmpI_eq rfl)
  have c2 := Sub_s hG hx hx tx tx hd td
  have c3 := Add_s hG hx hz tx tz hxz txz
  have c4 := Add_s hG hx hz tx tz hxz txz
  have c5 := Compare_v (k := 0) (w := w) hx hx tx tx (by exact cmpI_eq rfl)
  have c6 := Compare_v (k := 0) (w := w) (y := 0) (sy := ⟨#[48]⟩) hd (by decide +kernel) td (by decide +kernel) (by exact cmpI_eq (by omega))
  have c7 := Compare_v (k := 0) (w := w) hxz hxz txz txz (by exact cmpI_eq rfl)
  have c8 := Compare_v (k := 1) (w := w) hx hz tx tz (by exact cmpI_gt hc)
  clear tx tz td txz hx hz hd hxz bx bY bz ex ey ez
  go_enter Tryz.func7, Tryz.ntmps7
  go_wp2_with (first
    | (go_at_call 12; with_reducible refine (s0 _ hk0).mono ?_; rintro e w' ⟨rfl, hk1⟩)
    | (go_at_call 13; with_reducible refine (mx _ hk1).mono ?_; rintro e w' ⟨rfl, hk2⟩)
    | (go_at_call 13; with_reducible refine (my _ hk2).mono ?_; rintro e w' ⟨rfl, hk3⟩)
    | (go_at_call 13; with_reducible refine (mz _ hk3).mono ?_; rintro e w' ⟨rfl, hk4⟩)
    | (go_at_call 18; with_reducible refine (c1 _ hk4).mono ?_; rintro e w' ⟨rfl, hk5⟩)
    | (go_at_call 16; with_reducible refine (c2 _ hk5).mono ?_; rintro e w' ⟨rfl, hk6⟩)
    | (go_at_call 14; with_reducible refine (c3 _ hk6).mono ?_; rintro e w' ⟨rfl, hk7⟩)
    | (go_at_call 14; with_reducible refine (c4 _ hk7).mono ?_; rintro e w' ⟨rfl, hk8⟩)
    | (go_at_call 18; with_reducible refine (c5 _ hk8).mono ?_; rintro e w' ⟨rfl, hk9⟩)
    | (go_at_call 18; with_reducible refine (c6 _ hk9).mono ?_; rintro e w' ⟨rfl, hk10⟩)
    | (go_at_call 18; with_reducible refine (c7 _ hk10).mono ?_; rintro e w' ⟨rfl, hk11⟩)
    | (go_at_call 18; with_reducible refine (c8 _ hk11).mono ?_; rintro e w' ⟨rfl, hk12⟩))
  go_ret
  exact ⟨rfl, hk12⟩

set_option maxHeartbeats 8000000 in
set_option maxRecDepth 100000 in
theorem Order_eq2 (a b c : ByteArray) (w : World) (hG : Glob w) (x y z : Int) (ex : x = madeZ a.data.toList 60) (ey : y = madeZ b.data.toList 60) (ez : z = madeZ c.data.toList 60) (hxy : x = y) (hc : x < z) :
    Calls Tryz.prog 7 #[.string a, .string b, .string c] w fun e w' => e = .returned (.bool true) ∧ Below w.heap.size w w' := by
  have hk0 := Below.refl w.heap.size w
  have s0 := sane_s hG
  have bx := made_bd a.data.toList 60 (by omega)
  have bY := made_bd b.data.toList 60 (by omega)
  have bz := made_bd c.data.toList 60 (by omega)
  rw [← ex] at bx
  rw [← ey] at bY
  rw [← ez] at bz
  subst hxy
  obtain ⟨sx, tx⟩ : ∃ s, s = str x := ⟨_, rfl⟩
  have hx := bx.small (by omega)
  have mx := Made_s (w := w) (s := a) (t := sx) (most := 60) (i := 60) rfl (by omega) (by rw [tx, ex])
  have my := Made_s (w := w) (s := b) (t := sx) (most := 60) (i := 60) rfl (by omega) (by rw [tx, ey])
  obtain ⟨sz, tz⟩ : ∃ s, s = str z := ⟨_, rfl⟩
  have hz := bz.small (by omega)
  have mz := Made_s (w := w) (s := c) (t := sz) (most := 60) (i := 60) rfl (by omega) (by rw [tz, ez])
  obtain ⟨sd, td⟩ : ∃ s, s = str (x - x) := ⟨_, rfl⟩
  have hd : small (x - x) = true := (bx.sub bx).small (by decide)
  obtain ⟨sxz, txz⟩ : ∃ s, s = str (x + z) := ⟨_, rfl⟩
  have hxz : small (x + z) = true := (bx.add bz).small (by decide)
  have c1 := Compare_v (k := 0) (w := w) hx hx tx tx (by exact cmpI_eq rfl)
  have c2 := Sub_s hG hx hx tx tx hd td
  have c3 := Add_s hG hx hz tx tz hxz txz
  have c4 := Add_s hG hx hz tx tz hxz txz
  have c5 := Compare_v (k := 0) (w := w) hx hx tx tx (by exact cmpI_eq rfl)
  have c6 := Compare_v (k := 0) (w := w) (y := 0) (sy := ⟨#[48]⟩) hd (by decide +kernel) td (by decide +kernel) (by exact cmpI_eq (by omega))
  have c7 := Compare_v (k := 0) (w := w) hxz hxz txz txz (by exact cmpI_eq rfl)
  have c8 := Compare_v (k := -1) (w := w) hx hz tx tz (by exact cmpI_lt hc)
  have c9 := Compare_v (k := -1) (w := w) hx hz tx tz (by exact cmpI_lt hc)
  clear tx tz td txz hx hz hd hxz bx bY bz ex ey ez
  go_enter Tryz.func7, Tryz.ntmps7
  go_wp2_with (first
    | (go_at_call 12; with_reducible refine (s0 _ hk0).mono ?_; rintro e w' ⟨rfl, hk1⟩)
    | (go_at_call 13; with_reducible refine (mx _ hk1).mono ?_; rintro e w' ⟨rfl, hk2⟩)
    | (go_at_call 13; with_reducible refine (my _ hk2).mono ?_; rintro e w' ⟨rfl, hk3⟩)
    | (go_at_call 13; with_reducible refine (mz _ hk3).mono ?_; rintro e w' ⟨rfl, hk4⟩)
    | (go_at_call 18; with_reducible refine (c1 _ hk4).mono ?_; rintro e w' ⟨rfl, hk5⟩)
    | (go_at_call 16; with_reducible refine (c2 _ hk5).mono ?_; rintro e w' ⟨rfl, hk6⟩)
    | (go_at_call 14; with_reducible refine (c3 _ hk6).mono ?_; rintro e w' ⟨rfl, hk7⟩)
    | (go_at_call 14; with_reducible refine (c4 _ hk7).mono ?_; rintro e w' ⟨rfl, hk8⟩)
    | (go_at_call 18; with_reducible refine (c5 _ hk8).mono ?_; rintro e w' ⟨rfl, hk9⟩)
    | (go_at_call 18; with_reducible refine (c6 _ hk9).mono ?_; rintro e w' ⟨rfl, hk10⟩)
    | (go_at_call 18; with_reducible refine (c7 _ hk10).mono ?_; rintro e w' ⟨rfl, hk11⟩)
    | (go_at_call 18; with_reducible refine (c8 _ hk11).mono ?_; rintro e w' ⟨rfl, hk12⟩)
    | (go_at_call 18; with_reducible refine (c9 _ hk12).mono ?_; rintro e w' ⟨rfl, hk13⟩))
  go_ret
  exact ⟨rfl, hk13⟩

set_option maxHeartbeats 8000000 in
set_option maxRecDepth 100000 in
theorem Order_eq3 (a b c : ByteArray) (w : World) (hG : Glob w) (x y z : Int) (ex : x = madeZ a.data.toList 60) (ey : y = madeZ b.data.toList 60) (ez : z = madeZ c.data.toList 60) (hxy : x = y) (hc : x = z) :
    Calls Tryz.prog 7 #[.string a, .string b, .string c] w fun e w' => e = .returned (.bool true) ∧ Below w.heap.size w w' := by
  have hk0 := Below.refl w.heap.size w
  have s0 := sane_s hG
  have bx := made_bd a.data.toList 60 (by omega)
  have bY := made_bd b.data.toList 60 (by omega)
  have bz := made_bd c.data.toList 60 (by omega)
  rw [← ex] at bx
  rw [← ey] at bY
  rw [← ez] at bz
  subst hxy
  obtain ⟨sx, tx⟩ : ∃ s, s = str x := ⟨_, rfl⟩
  have hx := bx.small (by omega)
  have mx := Made_s (w := w) (s := a) (t := sx) (most := 60) (i := 60) rfl (by omega) (by rw [tx, ex])
  have my := Made_s (w := w) (s := b) (t := sx) (most := 60) (i := 60) rfl (by omega) (by rw [tx, ey])
  obtain ⟨sz, tz⟩ : ∃ s, s = str z := ⟨_, rfl⟩
  have hz := bz.small (by omega)
  have mz := Made_s (w := w) (s := c) (t := sz) (most := 60) (i := 60) rfl (by omega) (by rw [tz, ez])
  obtain ⟨sd, td⟩ : ∃ s, s = str (x - x) := ⟨_, rfl⟩
  have hd : small (x - x) = true := (bx.sub bx).small (by decide)
  obtain ⟨sxz, txz⟩ : ∃ s, s = str (x + z) := ⟨_, rfl⟩
  have hxz : small (x + z) = true := (bx.add bz).small (by decide)
  have c1 := Compare_v (k := 0) (w := w) hx hx tx tx (by exact cmpI_eq rfl)
  have c2 := Sub_s hG hx hx tx tx hd td
  have c3 := Add_s hG hx hz tx tz hxz txz
  have c4 := Add_s hG hx hz tx tz hxz txz
  have c5 := Compare_v (k := 0) (w := w) hx hx tx tx (by exact cmpI_eq rfl)
  have c6 := Compare_v (k := 0) (w := w) (y := 0) (sy := ⟨#[48]⟩) hd (by decide +kernel) td (by decide +kernel) (by exact cmpI_eq (by omega))
  have c7 := Compare_v (k := 0) (w := w) hxz hxz txz txz (by exact cmpI_eq rfl)
  have c8 := Compare_v (k := 0) (w := w) hx hz tx tz (by exact cmpI_eq hc)
  have c9 := Compare_v (k := 0) (w := w) hx hz tx tz (by exact cmpI_eq hc)
  clear tx tz td txz hx hz hd hxz bx bY bz ex ey ez
  go_enter Tryz.func7, Tryz.ntmps7
  go_wp2_with (first
    | (go_at_call 12; with_reducible refine (s0 _ hk0).mono ?_; rintro e w' ⟨rfl, hk1⟩)
    | (go_at_call 13; with_reducible refine (mx _ hk1).mono ?_; rintro e w' ⟨rfl, hk2⟩)
    | (go_at_call 13; with_reducible refine (my _ hk2).mono ?_; rintro e w' ⟨rfl, hk3⟩)
    | (go_at_call 13; with_reducible refine (mz _ hk3).mono ?_; rintro e w' ⟨rfl, hk4⟩)
    | (go_at_call 18; with_reducible refine (c1 _ hk4).mono ?_; rintro e w' ⟨rfl, hk5⟩)
    | (go_at_call 16; with_reducible refine (c2 _ hk5).mono ?_; rintro e w' ⟨rfl, hk6⟩)
    | (go_at_call 14; with_reducible refine (c3 _ hk6).mono ?_; rintro e w' ⟨rfl, hk7⟩)
    | (go_at_call 14; with_reducible refine (c4 _ hk7).mono ?_; rintro e w' ⟨rfl, hk8⟩)
    | (go_at_call 18; with_reducible refine (c5 _ hk8).mono ?_; rintro e w' ⟨rfl, hk9⟩)
    | (go_at_call 18; with_reducible refine (c6 _ hk9).mono ?_; rintro e w' ⟨rfl, hk10⟩)
    | (go_at_call 18; with_reducible refine (c7 _ hk10).mono ?_; rintro e w' ⟨rfl, hk11⟩)
    | (go_at_call 18; with_reducible refine (c8 _ hk11).mono ?_; rintro e w' ⟨rfl, hk12⟩)
    | (go_at_call 18; with_reducible refine (c9 _ hk12).mono ?_; rintro e w' ⟨rfl, hk13⟩))
  go_ret
  exact ⟨rfl, hk13⟩

theorem IntegerOrder_law (a b c : ByteArray) (w : World) (hG : Glob w) :
    Calls Tryz.prog 7 #[.string a, .string b, .string c] w fun e w' => e = .returned (.bool true) ∧ Below w.heap.size w w' := by
  obtain ⟨x, ex⟩ : ∃ x, x = madeZ a.data.toList 60 := ⟨_, rfl⟩
  obtain ⟨y, ey⟩ : ∃ x, x = madeZ b.data.toList 60 := ⟨_, rfl⟩
  obtain ⟨z, ez⟩ : ∃ x, x = madeZ c.data.toList 60 := ⟨_, rfl⟩
  rcases Int.lt_trichotomy x y with h | h | h
  · rcases Int.lt_trichotomy y z with k | k | k
    · exact Order_lt2 a b c w hG x y z ex ey ez h k
    · exact Order_lt3 a b c w hG x y z ex ey ez h k
    · exact Order_lt1 a b c w hG x y z ex ey ez h k
  · rcases Int.lt_trichotomy x z with k | k | k
    · exact Order_eq2 a b c w hG x y z ex ey ez h k
    · exact Order_eq3 a b c w hG x y z ex ey ez h k
    · exact Order_eq1 a b c w hG x y z ex ey ez h k
  · exact Order_gt a b c w hG x y z ex ey ez h
end Go.Proofs.YtiefodlhnpondaaGreatDoor
