/-
  The law IntegerLimits: results of more than 200 digits are refused, and no others.
-/
import Derived.Test.YtiefodlhnpondaaGreatDoorNines
import Derived.Test.YtiefodlhnpondaaGreatDoorNinesP
import Derived.Test.YtiefodlhnpondaaGreatDoorDivided
namespace Go.Proofs.YtiefodlhnpondaaGreatDoor
open Go.RowKit Go.Shelf
attribute [local go_sem] Oper.semAt_some

theorem nines_s {w : World} {k : Nat} {i : Int} {s : ByteArray} (hi : i = (k : Int)) (hk : k ≤ 1000) (hs : s.data.toList = List.replicate k 57) (W : World) (hb : Below w.heap.size w W) :
    Calls Tryz.prog 22 #[.int .i64 i] W fun e W' => e = .returned (.string s) ∧ Below w.heap.size w W' := by
  subst hi
  refine (nines_any k hk W).mono ?_
  rintro e w' ⟨⟨t, rfl, ht⟩, rfl⟩
  have : t = s := by
    apply ByteArray.ext
    apply Array.toList_inj.1
    rw [ht, hs]
  rw [this]
  exact ⟨rfl, hb⟩
theorem pick_s {w : World} {c : Int} {k : Nat} (h0 : -9223372036854775808 ≤ c) (h1 : c ≤ 9223372036854775807) (hk : k = pickN c 200) (W : World) (hb : Below w.heap.size w W) :
    Calls Tryz.prog 23 #[.int .i64 c, .int .i64 200] W fun e W' => e = .returned (.int .i64 (k : Int)) ∧ Below w.heap.size w W' := by
  subst hk
  refine (pick_any c h0 h1 W).mono ?_
  rintro e w' ⟨rfl, rfl⟩
  exact ⟨rfl, hb⟩
theorem great_of {z : Int} (h : 10 ^ 200 ≤ z.natAbs) : small z = false := by
  unfold small
  rw [decide_eq_false_iff_not, nDig_le (by decide)]
  omega
theorem small_of {z : Int} (h : z.natAbs < 10 ^ 200) : small z = true := by
  unfold small
  rw [decide_eq_true_iff, nDig_le (by decide)]
  exact h

set_option maxHeartbeats 8000000 in
set_option maxRecDepth 100000 in
theorem Limits_1 (a : ByteArray) (m n : Int) (m1 : -9223372036854775808 ≤ m) (m2 : m ≤ 9223372036854775807) (n1 : -9223372036854775808 ≤ n) (n2 : n ≤ 9223372036854775807) (w : World) (hG : Glob w) (x : Int) (ex : x = madeZ a.data.toList 5) (M N : Nat) (eM : M = pickN m 200) (eN : N = pickN n 200) (h0 : 0 < x) (hM0 : M = 0) (hmn : M + N < 200) :
    Calls Tryz.prog 8 #[.string a, .int .i64 m, .int .i64 n] w fun e w' => e = .returned (.bool true) ∧ Below w.heap.size w w' := by
  have hk0 := Below.refl w.heap.size w
  have s0 := sane_s hG
  have bx := made_bd a.data.toList 5 (by omega)
  rw [← ex] at bx
  obtain ⟨sx, tx⟩ : ∃ s, s = str x := ⟨_, rfl⟩
  have hx := bx.small (by omega)
  have mx := Made_s (w := w) (s := a) (t := sx) (most := 5) (i := 5) rfl (by omega) (by rw [tx, ex])
  have hM : M < 200 := by rw [eM]; exact Nat.mod_lt _ (by omega)
  have hN : N < 200 := by rw [eN]; exact Nat.mod_lt _ (by omega)
  have pm := pick_s (w := w) m1 m2 eM
  have pn := pick_s (w := w) n1 n2 eN
  obtain ⟨Z, hZ⟩ : ∃ Z : Nat, Z = 10 ^ 200 - 1 := ⟨_, rfl⟩
  have hZ1 : Z + 1 = 10 ^ 200 := by rw [hZ]
  have hZ5 : 10 ^ 5 ≤ Z + 1 := by rw [hZ1]; exact Nat.pow_le_pow_right (by decide) (by decide)
  have bx5 : x.natAbs < 10 ^ 5 := bx
  have z9 : small (Z : Int) = true := small_of (by rw [← hZ1]; omega)
  have z9n : small (-(Z : Int)) = true := small_of (by rw [← hZ1]; omega)
  obtain ⟨sm, tm⟩ : ∃ s : ByteArray, s.data.toList = List.replicate 200 57 := ⟨⟨(List.replicate 200 57).toArray⟩, by simp⟩
  have nm := nines_s (w := w) (k := 200) (i := 200) (s := sm) rfl (by omega) tm
  have em : sm = str (Z : Int) := str_of_txt tm (by rw [hZ]; exact nines_txt (by decide))
  have tmn : ((⟨#[45]⟩ : ByteArray) ++ sm).data.toList = 45 :: List.replicate 200 57 := by rw [ba_append, tm]; rfl
  have emn : (⟨#[45]⟩ : ByteArray) ++ sm = str (-(Z : Int)) := str_of_txt tmn (by rw [hZ]; exact neg_nines_txt (by decide))
  have hsz : sm.size = 200 := by rw [ba_size, tm, List.length_replicate]
  have tm9 : (sm ++ (⟨#[57]⟩ : ByteArray)).data.toList = List.replicate 200 57 ++ [57] := by rw [ba_append, tm]
  have v1 := Valid_s (w := w) (s := sm ++ (⟨#[57]⟩ : ByteArray)) (b := false) (by rw [ba_size, tm9]; decide) (by rw [tm9]; decide +kernel)
  have v2 := Valid_s (w := w) (s := (⟨#[45]⟩ : ByteArray) ++ sm) (b := true) (by rw [ba_size, tmn]; decide) (by rw [tmn]; decide +kernel)
  obtain ⟨sn, tn⟩ : ∃ s : ByteArray, s.data.toList = List.replicate N 57 := ⟨⟨(List.replicate N 57).toArray⟩, by simp⟩
  have nn := nines_s (w := w) (k := N) (i := (N : Int)) (s := sn) rfl (by omega) tn
  have hszn : sn.size = N := by rw [ba_size, tn, List.length_replicate]
  have t2 : ((⟨#[49]⟩ : ByteArray) ++ sn).data.toList = 49 :: List.replicate N 57 := by rw [ba_append, tn]; rfl
  have e2 : (⟨#[49]⟩ : ByteArray) ++ sn = str ((2 * 10 ^ N - 1 : Nat) : Int) := str_of_txt t2 (one_nines_txt N)
  have hp10 : ∀ k, 0 < 10 ^ k := fun k => Nat.pow_pos (by decide)
  have h200 : ∀ k, k < 200 → 10 ^ (k + 1) ≤ 10 ^ 200 := fun k hk => Nat.pow_le_pow_right (by decide) hk
  have z2 : small ((2 * 10 ^ N - 1 : Nat) : Int) = true := small_of (by
    have h1 := h200 N hN
    have h2 := hp10 N
    rw [Nat.pow_succ] at h1
    rw [Int.natAbs_natCast]
    omega)
  have z1 : small ((10 ^ M : Nat) : Int) = true := small_of (by
    have h1 := h200 M hM
    have h2 := hp10 M
    rw [Nat.pow_succ] at h1
    rw [Int.natAbs_natCast]
    omega)
  obtain ⟨so, tone⟩ : ∃ s, s = str ((10 ^ M : Nat) : Int) := ⟨_, rfl⟩
  have hcast : ((10 ^ M : Nat) : Int) * ((2 * 10 ^ N - 1 : Nat) : Int) = ((10 ^ M * (2 * 10 ^ N - 1) : Nat) : Int) := (Int.natCast_mul _ _).symm
  have hld := limit_digits M N
  have c1 := Add_g hG z9 hx em tx (great_of (by rw [← hZ1]; omega))
  have c2 := Sub_g hG z9n hx emn tx (great_of (by rw [← hZ1]; omega))
  have c9 := Compare_v (k := 1) (w := w) (y := 0) (sy := ⟨#[48]⟩) hx (by decide) tx str0 (by exact cmpI_gt h0)
  have nz := nines_s (w := w) (k := 0) (i := 0) (s := ⟨#[]⟩) rfl (by omega) rfl
  have c3 : ∀ W : World, Below w.heap.size w W → Calls Tryz.prog 14 #[.string ⟨#[]⟩, .string ⟨#[49]⟩] W fun e W' => e = .returned (.tuple #[.string ⟨#[]⟩, .int .i64 30]) ∧ Below w.heap.size w W' := fun W hk => (Add_no ⟨#[]⟩ ⟨#[49]⟩ W (by decide) (by decide) (by decide +kernel)).mono (by rintro e w' ⟨rfl, hb⟩; exact ⟨rfl, hk.trans (hb.mono hk.size)⟩)
  have c4 := Add_s hG (x := 0) (y := 1) (sx := ⟨#[48]⟩) (sy := ⟨#[49]⟩) (so := so) (by decide) (by decide) str0 (by decide +kernel) (by decide) (by rw [tone, hM0]; rfl)
  have zp : small (((10 ^ M : Nat) : Int) * ((2 * 10 ^ N - 1 : Nat) : Int)) = true := by
    rw [hcast]
    unfold small
    rw [Int.natAbs_natCast, hld]
    exact decide_eq_true (by omega)
  obtain ⟨sp, tp⟩ : ∃ s, s = str (((10 ^ M : Nat) : Int) * ((2 * 10 ^ N - 1 : Nat) : Int)) := ⟨_, rfl⟩
  have c5 := Mul_s hG z1 z2 tone e2 zp tp
  have hps : sp.size = M + N + 1 := by
    rw [tp, str_size, hcast]
    unfold txt
    rw [if_neg (by omega), Int.natAbs_natCast]
    exact hld
  have hpq : ((sp.size : Int) == (M : Int) + (N : Int) + 1) = true := beq_iff_eq.2 (by omega)
  have hpq0 : M = 0 → ((sp.size : Int) == (N : Int) + 1) = true := fun h => beq_iff_eq.2 (by omega)
  have hpq1 := hpq0 hM0
  clear hpq0
  have hdd : decide ((N : Int) < 200) = true := decide_eq_true (by omega)
  subst hM0
  clear tx hx bx ex eM eN m1 m2 n1 n2 hZ hZ1 hZ5 bx5 z9 z9n tm em tmn emn tm9 tn t2 e2 hp10 h200 z2 z1 tone hcast hld h0 zp tp
  go_enter Tryz.func8, Tryz.ntmps8
  go_wp2_with (first
    | (go_at_call 12; with_reducible refine (s0 _ hk0).mono ?_; rintro e w' ⟨rfl, hk1⟩)
    | (go_at_call 13; with_reducible refine (mx _ hk1).mono ?_; rintro e w' ⟨rfl, hk2⟩)
    | (go_at_call 22; with_reducible refine (nm _ hk2).mono ?_; rintro e w' ⟨rfl, hk3⟩)
    | (go_at_call 14; with_reducible refine (c1 _ hk3).mono ?_; rintro e w' ⟨rfl, hk4⟩)
    | (go_at_call 16; with_reducible refine (c2 _ hk4).mono ?_; rintro e w' ⟨rfl, hk5⟩)
    | (go_at_call 23; with_reducible refine (pm _ hk5).mono ?_; rintro e w' ⟨rfl, hk6⟩)
    | (go_at_call 23; with_reducible refine (pn _ hk6).mono ?_; rintro e w' ⟨rfl, hk7⟩)
    | (go_at_call 22; with_reducible refine (nz _ hk7).mono ?_; rintro e w' ⟨rfl, hk8⟩)
    | (go_at_call 14; with_reducible refine (c3 _ hk8).mono ?_; rintro e w' ⟨rfl, hk9⟩)
    | (go_at_call 14; with_reducible refine (c4 _ hk9).mono ?_; rintro e w' ⟨rfl, hk10⟩)
    | (go_at_call 22; with_reducible refine (nn _ hk10).mono ?_; rintro e w' ⟨rfl, hk11⟩)
    | (go_at_call 15; with_reducible refine (c5 _ hk11).mono ?_; rintro e w' ⟨rfl, hk12⟩)
    | (go_at_call 18; with_reducible refine (c9 _ hk12).mono ?_; rintro e w' ⟨rfl, hk13⟩)
    | (go_at_call 19; with_reducible refine (v1 _ hk13).mono ?_; rintro e w' ⟨rfl, hk14⟩)
    | (go_at_call 19; with_reducible refine (v2 _ hk14).mono ?_; rintro e w' ⟨rfl, hk15⟩))
  go_ret
  exact ⟨rfl, hk15⟩

set_option maxHeartbeats 8000000 in
set_option maxRecDepth 100000 in
theorem Limits_2 (a : ByteArray) (m n : Int) (m1 : -9223372036854775808 ≤ m) (m2 : m ≤ 9223372036854775807) (n1 : -9223372036854775808 ≤ n) (n2 : n ≤ 9223372036854775807) (w : World) (hG : Glob w) (x : Int) (ex : x = madeZ a.data.toList 5) (M N : Nat) (eM : M = pickN m 200) (eN : N = pickN n 200) (h0 : 0 < x) (hM0 : 0 < M) (hmn : M + N < 200) :
    Calls Tryz.prog 8 #[.string a, .int .i64 m, .int .i64 n] w fun e w' => e = .returned (.bool true) ∧ Below w.heap.size w w' := by
  have hk0 := Below.refl w.heap.size w
  have s0 := sane_s hG
  have bx := made_bd a.data.toList 5 (by omega)
  rw [← ex] at bx
  obtain ⟨sx, tx⟩ : ∃ s, s = str x := ⟨_, rfl⟩
  have hx := bx.small (by omega)
  have mx := Made_s (w := w) (s := a) (t := sx) (most := 5) (i := 5) rfl (by omega) (by rw [tx, ex])
  have hM : M < 200 := by rw [eM]; exact Nat.mod_lt _ (by omega)
  have hN : N < 200 := by rw [eN]; exact Nat.mod_lt _ (by omega)
  have pm := pick_s (w := w) m1 m2 eM
  have pn := pick_s (w := w) n1 n2 eN
  obtain ⟨Z, hZ⟩ : ∃ Z : Nat, Z = 10 ^ 200 - 1 := ⟨_, rfl⟩
  have hZ1 : Z + 1 = 10 ^ 200 := by rw [hZ]
  have hZ5 : 10 ^ 5 ≤ Z + 1 := by rw [hZ1]; exact Nat.pow_le_pow_right (by decide) (by decide)
  have bx5 : x.natAbs < 10 ^ 5 := bx
  have z9 : small (Z : Int) = true := small_of (by rw [← hZ1]; omega)
  have z9n : small (-(Z : Int)) = true := small_of (by rw [← hZ1]; omega)
  obtain ⟨sm, tm⟩ : ∃ s : ByteArray, s.data.toList = List.replicate 200 57 := ⟨⟨(List.replicate 200 57).toArray⟩, by simp⟩
  have nm := nines_s (w := w) (k := 200) (i := 200) (s := sm) rfl (by omega) tm
  have em : sm = str (Z : Int) := str_of_txt tm (by rw [hZ]; exact nines_txt (by decide))
  have tmn : ((⟨#[45]⟩ : ByteArray) ++ sm).data.toList = 45 :: List.replicate 200 57 := by rw [ba_append, tm]; rfl
  have emn : (⟨#[45]⟩ : ByteArray) ++ sm = str (-(Z : Int)) := str_of_txt tmn (by rw [hZ]; exact neg_nines_txt (by decide))
  have hsz : sm.size = 200 := by rw [ba_size, tm, List.length_replicate]
  have tm9 : (sm ++ (⟨#[57]⟩ : ByteArray)).data.toList = List.replicate 200 57 ++ [57] := by rw [ba_append, tm]
  have v1 := Valid_s (w := w) (s := sm ++ (⟨#[57]⟩ : ByteArray)) (b := false) (by rw [ba_size, tm9]; decide) (by rw [tm9]; decide +kernel)
  have v2 := Valid_s (w := w) (s := (⟨#[45]⟩ : ByteArray) ++ sm) (b := true) (by rw [ba_size, tmn]; decide) (by rw [tmn]; decide +kernel)
  obtain ⟨sn, tn⟩ : ∃ s : ByteArray, s.data.toList = List.replicate N 57 := ⟨⟨(List.replicate N 57).toArray⟩, by simp⟩
  have nn := nines_s (w := w) (k := N) (i := (N : Int)) (s := sn) rfl (by omega) tn
  have hszn : sn.size = N := by rw [ba_size, tn, List.length_replicate]
  have t2 : ((⟨#[49]⟩ : ByteArray) ++ sn).data.toList = 49 :: List.replicate N 57 := by rw [ba_append, tn]; rfl
  have e2 : (⟨#[49]⟩ : ByteArray) ++ sn = str ((2 * 10 ^ N - 1 : Nat) : Int) := str_of_txt t2 (one_nines_txt N)
  have hp10 : ∀ k, 0 < 10 ^ k := fun k => Nat.pow_pos (by decide)
  have h200 : ∀ k, k < 200 → 10 ^ (k + 1) ≤ 10 ^ 200 := fun k hk => Nat.pow_le_pow_right (by decide) hk
  have z2 : small ((2 * 10 ^ N - 1 : Nat) : Int) = true := small_of (by
    have h1 := h200 N hN
    have h2 := hp10 N
    rw [Nat.pow_succ] at h1
    rw [Int.natAbs_natCast]
    omega)
  have z1 : small ((10 ^ M : Nat) : Int) = true := small_of (by
    have h1 := h200 M hM
    have h2 := hp10 M
    rw [Nat.pow_succ] at h1
    rw [Int.natAbs_natCast]
    omega)
  obtain ⟨so, tone⟩ : ∃ s, s = str ((10 ^ M : Nat) : Int) := ⟨_, rfl⟩
  have hcast : ((10 ^ M : Nat) : Int) * ((2 * 10 ^ N - 1 : Nat) : Int) = ((10 ^ M * (2 * 10 ^ N - 1) : Nat) : Int) := (Int.natCast_mul _ _).symm
  have hld := limit_digits M N
  have c1 := Add_g hG z9 hx em tx (great_of (by rw [← hZ1]; omega))
  have c2 := Sub_g hG z9n hx emn tx (great_of (by rw [← hZ1]; omega))
  have c9 := Compare_v (k := 1) (w := w) (y := 0) (sy := ⟨#[48]⟩) hx (by decide) tx str0 (by exact cmpI_gt h0)
  obtain ⟨sM, tM⟩ : ∃ s : ByteArray, s.data.toList = List.replicate M 57 := ⟨⟨(List.replicate M 57).toArray⟩, by simp⟩
  have nz := nines_s (w := w) (k := M) (i := (M : Int)) (s := sM) rfl (by omega) tM
  have eM' : sM = str ((10 ^ M - 1 : Nat) : Int) := str_of_txt tM (nines_txt hM0)
  have hs1 : ((10 ^ M - 1 : Nat) : Int) + 1 = ((10 ^ M : Nat) : Int) := by
    have := hp10 M
    omega
  have zM : small ((10 ^ M - 1 : Nat) : Int) = true := small_le z1 (by rw [Int.natAbs_natCast, Int.natAbs_natCast]; omega)
  have c3 := Add_s hG (y := 1) (sy := ⟨#[49]⟩) zM (by decide) eM' (by decide +kernel) (so := so) (by rw [hs1]; exact z1) (by rw [hs1]; exact tone)
  have hMz : ((M : Int) == 0) = false := by rw [beq_eq_false_iff_ne]; omega
  have zp : small (((10 ^ M : Nat) : Int) * ((2 * 10 ^ N - 1 : Nat) : Int)) = true := by
    rw [hcast]
    unfold small
    rw [Int.natAbs_natCast, hld]
    exact decide_eq_true (by omega)
  obtain ⟨sp, tp⟩ : ∃ s, s = str (((10 ^ M : Nat) : Int) * ((2 * 10 ^ N - 1 : Nat) : Int)) := ⟨_, rfl⟩
  have c5 := Mul_s hG z1 z2 tone e2 zp tp
  have hps : sp.size = M + N + 1 := by
    rw [tp, str_size, hcast]
    unfold txt
    rw [if_neg (by omega), Int.natAbs_natCast]
    exact hld
  have hpq : ((sp.size : Int) == (M : Int) + (N : Int) + 1) = true := beq_iff_eq.2 (by omega)
  have hpq0 : M = 0 → ((sp.size : Int) == (N : Int) + 1) = true := fun h => beq_iff_eq.2 (by omega)
  clear hpq0
  have hdd : decide ((M : Int) + (N : Int) < 200) = true := decide_eq_true (by omega)
  clear tx hx bx ex eM eN m1 m2 n1 n2 hZ hZ1 hZ5 bx5 z9 z9n tm em tmn emn tm9 tn t2 e2 hp10 h200 z2 z1 tone hcast hld h0 zp tM eM' hs1 zM tp
  go_enter Tryz.func8, Tryz.ntmps8
  go_wp2_with (first
    | (go_at_call 12; with_reducible refine (s0 _ hk0).mono ?_; rintro e w' ⟨rfl, hk1⟩)
    | (go_at_call 13; with_reducible refine (mx _ hk1).mono ?_; rintro e w' ⟨rfl, hk2⟩)
    | (go_at_call 22; with_reducible refine (nm _ hk2).mono ?_; rintro e w' ⟨rfl, hk3⟩)
    | (go_at_call 14; with_reducible refine (c1 _ hk3).mono ?_; rintro e w' ⟨rfl, hk4⟩)
    | (go_at_call 16; with_reducible refine (c2 _ hk4).mono ?_; rintro e w' ⟨rfl, hk5⟩)
    | (go_at_call 23; with_reducible refine (pm _ hk5).mono ?_; rintro e w' ⟨rfl, hk6⟩)
    | (go_at_call 23; with_reducible refine (pn _ hk6).mono ?_; rintro e w' ⟨rfl, hk7⟩)
    | (go_at_call 22; with_reducible refine (nz _ hk7).mono ?_; rintro e w' ⟨rfl, hk8⟩)
    | (go_at_call 14; with_reducible refine (c3 _ hk8).mono ?_; rintro e w' ⟨rfl, hk9⟩)
    | (go_at_call 22; with_reducible refine (nn _ hk9).mono ?_; rintro e w' ⟨rfl, hk10⟩)
    | (go_at_call 15; with_reducible refine (c5 _ hk10).mono ?_; rintro e w' ⟨rfl, hk11⟩)
    | (go_at_call 18; with_reducible refine (c9 _ hk11).mono ?_; rintro e w' ⟨rfl, hk12⟩)
    | (go_at_call 19; with_reducible refine (v1 _ hk12).mono ?_; rintro e w' ⟨rfl, hk13⟩)
    | (go_at_call 19; with_reducible refine (v2 _ hk13).mono ?_; rintro e w' ⟨rfl, hk14⟩))
  go_ret
  exact ⟨rfl, hk14⟩

set_option maxHeartbeats 8000000 in
set_option maxRecDepth 100000 in
theorem Limits_3 (a : ByteArray) (m n : Int) (m1 : -9223372036854775808 ≤ m) (m2 : m ≤ 9223372036854775807) (n1 : -9223372036854775808 ≤ n) (n2 : n ≤ 9223372036854775807) (w : World) (hG : Glob w) (x : Int) (ex : x = madeZ a.data.toList 5) (M N : Nat) (eM : M = pickN m 200) (eN : N = pickN n 200) (h0 : 0 < x) (hM0 : 0 < M) (hmn : 200 ≤ M + N) :
    Calls Tryz.prog 8 #[.string a, .int .i64 m, .int .i64 n] w fun e w' => e = .returned (.bool true) ∧ Below w.heap.size w w' := by
  have hk0 := Below.refl w.heap.size w
  have s0 := sane_s hG
  have bx := made_bd a.data.toList 5 (by omega)
  rw [← ex] at bx
  obtain ⟨sx, tx⟩ : ∃ s, s = str x := ⟨_, rfl⟩
  have hx := bx.small (by omega)
  have mx := Made_s (w := w) (s := a) (t := sx) (most := 5) (i := 5) rfl (by omega) (by rw [tx, ex])
  have hM : M < 200 := by rw [eM]; exact Nat.mod_lt _ (by omega)
  have hN : N < 200 := by rw [eN]; exact Nat.mod_lt _ (by omega)
  have pm := pick_s (w := w) m1 m2 eM
  have pn := pick_s (w := w) n1 n2 eN
  obtain ⟨Z, hZ⟩ : ∃ Z : Nat, Z = 10 ^ 200 - 1 := ⟨_, rfl⟩
  have hZ1 : Z + 1 = 10 ^ 200 := by rw [hZ]
  have hZ5 : 10 ^ 5 ≤ Z + 1 := by rw [hZ1]; exact Nat.pow_le_pow_right (by decide) (by decide)
  have bx5 : x.natAbs < 10 ^ 5 := bx
  have z9 : small (Z : Int) = true := small_of (by rw [← hZ1]; omega)
  have z9n : small (-(Z : Int)) = true := small_of (by rw [← hZ1]; omega)
  obtain ⟨sm, tm⟩ : ∃ s : ByteArray, s.data.toList = List.replicate 200 57 := ⟨⟨(List.replicate 200 57).toArray⟩, by simp⟩
  have nm := nines_s (w := w) (k := 200) (i := 200) (s := sm) rfl (by omega) tm
  have em : sm = str (Z : Int) := str_of_txt tm (by rw [hZ]; exact nines_txt (by decide))
  have tmn : ((⟨#[45]⟩ : ByteArray) ++ sm).data.toList = 45 :: List.replicate 200 57 := by rw [ba_append, tm]; rfl
  have emn : (⟨#[45]⟩ : ByteArray) ++ sm = str (-(Z : Int)) := str_of_txt tmn (by rw [hZ]; exact neg_nines_txt (by decide))
  have hsz : sm.size = 200 := by rw [ba_size, tm, List.length_replicate]
  have tm9 : (sm ++ (⟨#[57]⟩ : ByteArray)).data.toList = List.replicate 200 57 ++ [57] := by rw [ba_append, tm]
  have v1 := Valid_s (w := w) (s := sm ++ (⟨#[57]⟩ : ByteArray)) (b := false) (by rw [ba_size, tm9]; decide) (by rw [tm9]; decide +kernel)
  have v2 := Valid_s (w := w) (s := (⟨#[45]⟩ : ByteArray) ++ sm) (b := true) (by rw [ba_size, tmn]; decide) (by rw [tmn]; decide +kernel)
  obtain ⟨sn, tn⟩ : ∃ s : ByteArray, s.data.toList = List.replicate N 57 := ⟨⟨(List.replicate N 57).toArray⟩, by simp⟩
  have nn := nines_s (w := w) (k := N) (i := (N : Int)) (s := sn) rfl (by omega) tn
  have hszn : sn.size = N := by rw [ba_size, tn, List.length_replicate]
  have t2 : ((⟨#[49]⟩ : ByteArray) ++ sn).data.toList = 49 :: List.replicate N 57 := by rw [ba_append, tn]; rfl
  have e2 : (⟨#[49]⟩ : ByteArray) ++ sn = str ((2 * 10 ^ N - 1 : Nat) : Int) := str_of_txt t2 (one_nines_txt N)
  have hp10 : ∀ k, 0 < 10 ^ k := fun k => Nat.pow_pos (by decide)
  have h200 : ∀ k, k < 200 → 10 ^ (k + 1) ≤ 10 ^ 200 := fun k hk => Nat.pow_le_pow_right (by decide) hk
  have z2 : small ((2 * 10 ^ N - 1 : Nat) : Int) = true := small_of (by
    have h1 := h200 N hN
    have h2 := hp10 N
    rw [Nat.pow_succ] at h1
    rw [Int.natAbs_natCast]
    omega)
  have z1 : small ((10 ^ M : Nat) : Int) = true := small_of (by
    have h1 := h200 M hM
    have h2 := hp10 M
    rw [Nat.pow_succ] at h1
    rw [Int.natAbs_natCast]
    omega)
  obtain ⟨so, tone⟩ : ∃ s, s = str ((10 ^ M : Nat) : Int) := ⟨_, rfl⟩
  have hcast : ((10 ^ M : Nat) : Int) * ((2 * 10 ^ N - 1 : Nat) : Int) = ((10 ^ M * (2 * 10 ^ N - 1) : Nat) : Int) := (Int.natCast_mul _ _).symm
  have hld := limit_digits M N
  have c1 := Add_g hG z9 hx em tx (great_of (by rw [← hZ1]; omega))
  have c2 := Sub_g hG z9n hx emn tx (great_of (by rw [← hZ1]; omega))
  have c9 := Compare_v (k := 1) (w := w) (y := 0) (sy := ⟨#[48]⟩) hx (by decide) tx str0 (by exact cmpI_gt h0)
  obtain ⟨sM, tM⟩ : ∃ s : ByteArray, s.data.toList = List.replicate M 57 := ⟨⟨(List.replicate M 57).toArray⟩, by simp⟩
  have nz := nines_s (w := w) (k := M) (i := (M : Int)) (s := sM) rfl (by omega) tM
  have eM' : sM = str ((10 ^ M - 1 : Nat) : Int) := str_of_txt tM (nines_txt hM0)
  have hs1 : ((10 ^ M - 1 : Nat) : Int) + 1 = ((10 ^ M : Nat) : Int) := by
    have := hp10 M
    omega
  have zM : small ((10 ^ M - 1 : Nat) : Int) = true := small_le z1 (by rw [Int.natAbs_natCast, Int.natAbs_natCast]; omega)
  have c3 := Add_s hG (y := 1) (sy := ⟨#[49]⟩) zM (by decide) eM' (by decide +kernel) (so := so) (by rw [hs1]; exact z1) (by rw [hs1]; exact tone)
  have hMz : ((M : Int) == 0) = false := by rw [beq_eq_false_iff_ne]; omega
  have zp : small (((10 ^ M : Nat) : Int) * ((2 * 10 ^ N - 1 : Nat) : Int)) = false := by
    rw [hcast]
    unfold small
    rw [Int.natAbs_natCast, hld]
    exact decide_eq_false (by omega)
  have c5 := Mul_g hG z1 z2 tone e2 zp
  clear tx hx bx ex eM eN m1 m2 n1 n2 hZ hZ1 hZ5 bx5 z9 z9n tm em tmn emn tm9 tn t2 e2 hp10 h200 z2 z1 tone hcast hld h0 zp tM eM' hs1 zM
  go_enter Tryz.func8, Tryz.ntmps8
  go_wp2_with (first
    | (go_at_call 12; with_reducible refine (s0 _ hk0).mono ?_; rintro e w' ⟨rfl, hk1⟩)
    | (go_at_call 13; with_reducible refine (mx _ hk1).mono ?_; rintro e w' ⟨rfl, hk2⟩)
    | (go_at_call 22; with_reducible refine (nm _ hk2).mono ?_; rintro e w' ⟨rfl, hk3⟩)
    | (go_at_call 14; with_reducible refine (c1 _ hk3).mono ?_; rintro e w' ⟨rfl, hk4⟩)
    | (go_at_call 16; with_reducible refine (c2 _ hk4).mono ?_; rintro e w' ⟨rfl, hk5⟩)
    | (go_at_call 23; with_reducible refine (pm _ hk5).mono ?_; rintro e w' ⟨rfl, hk6⟩)
    | (go_at_call 23; with_reducible refine (pn _ hk6).mono ?_; rintro e w' ⟨rfl, hk7⟩)
    | (go_at_call 22; with_reducible refine (nz _ hk7).mono ?_; rintro e w' ⟨rfl, hk8⟩)
    | (go_at_call 14; with_reducible refine (c3 _ hk8).mono ?_; rintro e w' ⟨rfl, hk9⟩)
    | (go_at_call 22; with_reducible refine (nn _ hk9).mono ?_; rintro e w' ⟨rfl, hk10⟩)
    | (go_at_call 15; with_reducible refine (c5 _ hk10).mono ?_; rintro e w' ⟨rfl, hk11⟩)
    | (go_at_call 18; with_reducible refine (c9 _ hk11).mono ?_; rintro e w' ⟨rfl, hk12⟩)
    | (go_at_call 19; with_reducible refine (v1 _ hk12).mono ?_; rintro e w' ⟨rfl, hk13⟩)
    | (go_at_call 19; with_reducible refine (v2 _ hk13).mono ?_; rintro e w' ⟨rfl, hk14⟩))
  go_ret
  exact ⟨rfl, hk14⟩

set_option maxHeartbeats 8000000 in
set_option maxRecDepth 100000 in
theorem Limits_4 (a : ByteArray) (m n : Int) (m1 : -9223372036854775808 ≤ m) (m2 : m ≤ 9223372036854775807) (n1 : -9223372036854775808 ≤ n) (n2 : n ≤ 9223372036854775807) (w : World) (hG : Glob w) (x : Int) (ex : x = madeZ a.data.toList 5) (M N : Nat) (eM : M = pickN m 200) (eN : N = pickN n 200) (h0 : x ≤ 0) (hM0 : M = 0) (hmn : M + N < 200) :
    Calls Tryz.prog 8 #[.string a, .int .i64 m, .int .i64 n] w fun e w' => e = .returned (.bool true) ∧ Below w.heap.size w w' := by
  have hk0 := Below.refl w.heap.size w
  have s0 := sane_s hG
  have bx := made_bd a.data.toList 5 (by omega)
  rw [← ex] at bx
  obtain ⟨sx, tx⟩ : ∃ s, s = str x := ⟨_, rfl⟩
  have hx := bx.small (by omega)
  have mx := Made_s (w := w) (s := a) (t := sx) (most := 5) (i := 5) rfl (by omega) (by rw [tx, ex])
  have hM : M < 200 := by rw [eM]; exact Nat.mod_lt _ (by omega)
  have hN : N < 200 := by rw [eN]; exact Nat.mod_lt _ (by omega)
  have pm := pick_s (w := w) m1 m2 eM
  have pn := pick_s (w := w) n1 n2 eN
  obtain ⟨Z, hZ⟩ : ∃ Z : Nat, Z = 10 ^ 200 - 1 := ⟨_, rfl⟩
  have hZ1 : Z + 1 = 10 ^ 200 := by rw [hZ]
  have hZ5 : 10 ^ 5 ≤ Z + 1 := by rw [hZ1]; exact Nat.pow_le_pow_right (by decide) (by decide)
  have bx5 : x.natAbs < 10 ^ 5 := bx
  have z9 : small (Z : Int) = true := small_of (by rw [← hZ1]; omega)
  have z9n : small (-(Z : Int)) = true := small_of (by rw [← hZ1]; omega)
  obtain ⟨sm, tm⟩ : ∃ s : ByteArray, s.data.toList = List.replicate 200 57 := ⟨⟨(List.replicate 200 57).toArray⟩, by simp⟩
  have nm := nines_s (w := w) (k := 200) (i := 200) (s := sm) rfl (by omega) tm
  have em : sm = str (Z : Int) := str_of_txt tm (by rw [hZ]; exact nines_txt (by decide))
  have tmn : ((⟨#[45]⟩ : ByteArray) ++ sm).data.toList = 45 :: List.replicate 200 57 := by rw [ba_append, tm]; rfl
  have emn : (⟨#[45]⟩ : ByteArray) ++ sm = str (-(Z : Int)) := str_of_txt tmn (by rw [hZ]; exact neg_nines_txt (by decide))
  have hsz : sm.size = 200 := by rw [ba_size, tm, List.length_replicate]
  have tm9 : (sm ++ (⟨#[57]⟩ : ByteArray)).data.toList = List.replicate 200 57 ++ [57] := by rw [ba_append, tm]
  have v1 := Valid_s (w := w) (s := sm ++ (⟨#[57]⟩ : ByteArray)) (b := false) (by rw [ba_size, tm9]; decide) (by rw [tm9]; decide +kernel)
  have v2 := Valid_s (w := w) (s := (⟨#[45]⟩ : ByteArray) ++ sm) (b := true) (by rw [ba_size, tmn]; decide) (by rw [tmn]; decide +kernel)
  obtain ⟨sn, tn⟩ : ∃ s : ByteArray, s.data.toList = List.replicate N 57 := ⟨⟨(List.replicate N 57).toArray⟩, by simp⟩
  have nn := nines_s (w := w) (k := N) (i := (N : Int)) (s := sn) rfl (by omega) tn
  have hszn : sn.size = N := by rw [ba_size, tn, List.length_replicate]
  have t2 : ((⟨#[49]⟩ : ByteArray) ++ sn).data.toList = 49 :: List.replicate N 57 := by rw [ba_append, tn]; rfl
  have e2 : (⟨#[49]⟩ : ByteArray) ++ sn = str ((2 * 10 ^ N - 1 : Nat) : Int) := str_of_txt t2 (one_nines_txt N)
  have hp10 : ∀ k, 0 < 10 ^ k := fun k => Nat.pow_pos (by decide)
  have h200 : ∀ k, k < 200 → 10 ^ (k + 1) ≤ 10 ^ 200 := fun k hk => Nat.pow_le_pow_right (by decide) hk
  have z2 : small ((2 * 10 ^ N - 1 : Nat) : Int) = true := small_of (by
    have h1 := h200 N hN
    have h2 := hp10 N
    rw [Nat.pow_succ] at h1
    rw [Int.natAbs_natCast]
    omega)
  have z1 : small ((10 ^ M : Nat) : Int) = true := small_of (by
    have h1 := h200 M hM
    have h2 := hp10 M
    rw [Nat.pow_succ] at h1
    rw [Int.natAbs_natCast]
    omega)
  obtain ⟨so, tone⟩ : ∃ s, s = str ((10 ^ M : Nat) : Int) := ⟨_, rfl⟩
  have hcast : ((10 ^ M : Nat) : Int) * ((2 * 10 ^ N - 1 : Nat) : Int) = ((10 ^ M * (2 * 10 ^ N - 1) : Nat) : Int) := (Int.natCast_mul _ _).symm
  have hld := limit_digits M N
  obtain ⟨s1, t1⟩ : ∃ s, s = str ((Z : Int) + x) := ⟨_, rfl⟩
  obtain ⟨s2, t2'⟩ : ∃ s, s = str (-(Z : Int) - x) := ⟨_, rfl⟩
  have c1 := Add_s hG z9 hx em tx (small_of (by rw [← hZ1]; omega)) t1
  have c2 := Sub_s hG z9n hx emn tx (small_of (by rw [← hZ1]; omega)) t2'
  obtain ⟨k, hk, hkp⟩ : ∃ k, cmpI x 0 = k ∧ k ≤ 0 := by
    refine ⟨_, rfl, ?_⟩
    unfold cmpI
    split
    · omega
    · rw [if_neg (by omega)]; omega
  have c9 := Compare_v (k := k) (w := w) (y := 0) (sy := ⟨#[48]⟩) hx (by decide) tx str0 hk
  have nz := nines_s (w := w) (k := 0) (i := 0) (s := ⟨#[]⟩) rfl (by omega) rfl
  have c3 : ∀ W : World, Below w.heap.size w W → Calls Tryz.prog 14 #[.string ⟨#[]⟩, .string ⟨#[49]⟩] W fun e W' => e = .returned (.tuple #[.string ⟨#[]⟩, .int .i64 30]) ∧ Below w.heap.size w W' := fun W hk => (Add_no ⟨#[]⟩ ⟨#[49]⟩ W (by decide) (by decide) (by decide +kernel)).mono (by rintro e w' ⟨rfl, hb⟩; exact ⟨rfl, hk.trans (hb.mono hk.size)⟩)
  have c4 := Add_s hG (x := 0) (y := 1) (sx := ⟨#[48]⟩) (sy := ⟨#[49]⟩) (so := so) (by decide) (by decide) str0 (by decide +kernel) (by decide) (by rw [tone, hM0]; rfl)
  have zp : small (((10 ^ M : Nat) : Int) * ((2 * 10 ^ N - 1 : Nat) : Int)) = true := by
    rw [hcast]
    unfold small
    rw [Int.natAbs_natCast, hld]
    exact decide_eq_true (by omega)
  obtain ⟨sp, tp⟩ : ∃ s, s = str (((10 ^ M : Nat) : Int) * ((2 * 10 ^ N - 1 : Nat) : Int)) := ⟨_, rfl⟩
  have c5 := Mul_s hG z1 z2 tone e2 zp tp
  have hps : sp.size = M + N + 1 := by
    rw [tp, str_size, hcast]
    unfold txt
    rw [if_neg (by omega), Int.natAbs_natCast]
    exact hld
  have hpq : ((sp.size : Int) == (M : Int) + (N : Int) + 1) = true := beq_iff_eq.2 (by omega)
  have hpq0 : M = 0 → ((sp.size : Int) == (N : Int) + 1) = true := fun h => beq_iff_eq.2 (by omega)
  have hpq1 := hpq0 hM0
  clear hpq0
  have hdd : decide ((N : Int) < 200) = true := decide_eq_true (by omega)
  subst hM0
  clear tx hx bx ex eM eN m1 m2 n1 n2 hZ hZ1 hZ5 bx5 z9 z9n tm em tmn emn tm9 tn t2 e2 hp10 h200 z2 z1 tone hcast hld h0 zp t1 t2' hk tp
  go_enter Tryz.func8, Tryz.ntmps8
  go_wp2_with (first
    | (go_at_call 12; with_reducible refine (s0 _ hk0).mono ?_; rintro e w' ⟨rfl, hk1⟩)
    | (go_at_call 13; with_reducible refine (mx _ hk1).mono ?_; rintro e w' ⟨rfl, hk2⟩)
    | (go_at_call 22; with_reducible refine (nm _ hk2).mono ?_; rintro e w' ⟨rfl, hk3⟩)
    | (go_at_call 14; with_reducible refine (c1 _ hk3).mono ?_; rintro e w' ⟨rfl, hk4⟩)
    | (go_at_call 16; with_reducible refine (c2 _ hk4).mono ?_; rintro e w' ⟨rfl, hk5⟩)
    | (go_at_call 23; with_reducible refine (pm _ hk5).mono ?_; rintro e w' ⟨rfl, hk6⟩)
    | (go_at_call 23; with_reducible refine (pn _ hk6).mono ?_; rintro e w' ⟨rfl, hk7⟩)
    | (go_at_call 22; with_reducible refine (nz _ hk7).mono ?_; rintro e w' ⟨rfl, hk8⟩)
    | (go_at_call 14; with_reducible refine (c3 _ hk8).mono ?_; rintro e w' ⟨rfl, hk9⟩)
    | (go_at_call 14; with_reducible refine (c4 _ hk9).mono ?_; rintro e w' ⟨rfl, hk10⟩)
    | (go_at_call 22; with_reducible refine (nn _ hk10).mono ?_; rintro e w' ⟨rfl, hk11⟩)
    | (go_at_call 15; with_reducible refine (c5 _ hk11).mono ?_; rintro e w' ⟨rfl, hk12⟩)
    | (go_at_call 18; with_reducible refine (c9 _ hk12).mono ?_; rintro e w' ⟨rfl, hk13⟩)
    | (go_at_call 19; with_reducible refine (v1 _ hk13).mono ?_; rintro e w' ⟨rfl, hk14⟩)
    | (go_at_call 19; with_reducible refine (v2 _ hk14).mono ?_; rintro e w' ⟨rfl, hk15⟩))
  go_ret
  exact ⟨rfl, hk15⟩

set_option maxHeartbeats 8000000 in
set_option maxRecDepth 100000 in
theorem Limits_5 (a : ByteArray) (m n : Int) (m1 : -9223372036854775808 ≤ m) (m2 : m ≤ 9223372036854775807) (n1 : -9223372036854775808 ≤ n) (n2 : n ≤ 9223372036854775807) (w : World) (hG : Glob w) (x : Int) (ex : x = madeZ a.data.toList 5) (M N : Nat) (eM : M = pickN m 200) (eN : N = pickN n 200) (h0 : x ≤ 0) (hM0 : 0 < M) (hmn : M + N < 200) :
    Calls Tryz.prog 8 #[.string a, .int .i64 m, .int .i64 n] w fun e w' => e = .returned (.bool true) ∧ Below w.heap.size w w' := by
  have hk0 := Below.refl w.heap.size w
  have s0 := sane_s hG
  have bx := made_bd a.data.toList 5 (by omega)
  rw [← ex] at bx
  obtain ⟨sx, tx⟩ : ∃ s, s = str x := ⟨_, rfl⟩
  have hx := bx.small (by omega)
  have mx := Made_s (w := w) (s := a) (t := sx) (most := 5) (i := 5) rfl (by omega) (by rw [tx, ex])
  have hM : M < 200 := by rw [eM]; exact Nat.mod_lt _ (by omega)
  have hN : N < 200 := by rw [eN]; exact Nat.mod_lt _ (by omega)
  have pm := pick_s (w := w) m1 m2 eM
  have pn := pick_s (w := w) n1 n2 eN
  obtain ⟨Z, hZ⟩ : ∃ Z : Nat, Z = 10 ^ 200 - 1 := ⟨_, rfl⟩
  have hZ1 : Z + 1 = 10 ^ 200 := by rw [hZ]
  have hZ5 : 10 ^ 5 ≤ Z + 1 := by rw [hZ1]; exact Nat.pow_le_pow_right (by decide) (by decide)
  have bx5 : x.natAbs < 10 ^ 5 := bx
  have z9 : small (Z : Int) = true := small_of (by rw [← hZ1]; omega)
  have z9n : small (-(Z : Int)) = true := small_of (by rw [← hZ1]; omega)
  obtain ⟨sm, tm⟩ : ∃ s : ByteArray, s.data.toList = List.replicate 200 57 := ⟨⟨(List.replicate 200 57).toArray⟩, by simp⟩
  have nm := nines_s (w := w) (k := 200) (i := 200) (s := sm) rfl (by omega) tm
  have em : sm = str (Z : Int) := str_of_txt tm (by rw [hZ]; exact nines_txt (by decide))
  have tmn : ((⟨#[45]⟩ : ByteArray) ++ sm).data.toList = 45 :: List.replicate 200 57 := by rw [ba_append, tm]; rfl
  have emn : (⟨#[45]⟩ : ByteArray) ++ sm = str (-(Z : Int)) := str_of_txt tmn (by rw [hZ]; exact neg_nines_txt (by decide))
  have hsz : sm.size = 200 := by rw [ba_size, tm, List.length_replicate]
  have tm9 : (sm ++ (⟨#[57]⟩ : ByteArray)).data.toList = List.replicate 200 57 ++ [57] := by rw [ba_append, tm]
  have v1 := Valid_s (w := w) (s := sm ++ (⟨#[57]⟩ : ByteArray)) (b := false) (by rw [ba_size, tm9]; decide) (by rw [tm9]; decide +kernel)
  have v2 := Valid_s (w := w) (s := (⟨#[45]⟩ : ByteArray) ++ sm) (b := true) (by rw [ba_size, tmn]; decide) (by rw [tmn]; decide +kernel)
  obtain ⟨sn, tn⟩ : ∃ s : ByteArray, s.data.toList = List.replicate N 57 := ⟨⟨(List.replicate N 57).toArray⟩, by simp⟩
  have nn := nines_s (w := w) (k := N) (i := (N : Int)) (s := sn) rfl (by omega) tn
  have hszn : sn.size = N := by rw [ba_size, tn, List.length_replicate]
  have t2 : ((⟨#[49]⟩ : ByteArray) ++ sn).data.toList = 49 :: List.replicate N 57 := by rw [ba_append, tn]; rfl
  have e2 : (⟨#[49]⟩ : ByteArray) ++ sn = str ((2 * 10 ^ N - 1 : Nat) : Int) := str_of_txt t2 (one_nines_txt N)
  have hp10 : ∀ k, 0 < 10 ^ k := fun k => Nat.pow_pos (by decide)
  have h200 : ∀ k, k < 200 → 10 ^ (k + 1) ≤ 10 ^ 200 := fun k hk => Nat.pow_le_pow_right (by decide) hk
  have z2 : small ((2 * 10 ^ N - 1 : Nat) : Int) = true := small_of (by
    have h1 := h200 N hN
    have h2 := hp10 N
    rw [Nat.pow_succ] at h1
    rw [Int.natAbs_natCast]
    omega)
  have z1 : small ((10 ^ M : Nat) : Int) = true := small_of (by
    have h1 := h200 M hM
    have h2 := hp10 M
    rw [Nat.pow_succ] at h1
    rw [Int.natAbs_natCast]
    omega)
  obtain ⟨so, tone⟩ : ∃ s, s = str ((10 ^ M : Nat) : Int) := ⟨_, rfl⟩
  have hcast : ((10 ^ M : Nat) : Int) * ((2 * 10 ^ N - 1 : Nat) : Int) = ((10 ^ M * (2 * 10 ^ N - 1) : Nat) : Int) := (Int.natCast_mul _ _).symm
  have hld := limit_digits M N
  obtain ⟨s1, t1⟩ : ∃ s, s = str ((Z : Int) + x) := ⟨_, rfl⟩
  obtain ⟨s2, t2'⟩ : ∃ s, s = str (-(Z : Int) - x) := ⟨_, rfl⟩
  have c1 := Add_s hG z9 hx em tx (small_of (by rw [← hZ1]; omega)) t1
  have c2 := Sub_s hG z9n hx emn tx (small_of (by rw [← hZ1]; omega)) t2'
  obtain ⟨k, hk, hkp⟩ : ∃ k, cmpI x 0 = k ∧ k ≤ 0 := by
    refine ⟨_, rfl, ?_⟩
    unfold cmpI
    split
    · omega
    · rw [if_neg (by omega)]; omega
  have c9 := Compare_v (k := k) (w := w) (y := 0) (sy := ⟨#[48]⟩) hx (by decide) tx str0 hk
  obtain ⟨sM, tM⟩ : ∃ s : ByteArray, s.data.toList = List.replicate M 57 := ⟨⟨(List.replicate M 57).toArray⟩, by simp⟩
  have nz := nines_s (w := w) (k := M) (i := (M : Int)) (s := sM) rfl (by omega) tM
  have eM' : sM = str ((10 ^ M - 1 : Nat) : Int) := str_of_txt tM (nines_txt hM0)
  have hs1 : ((10 ^ M - 1 : Nat) : Int) + 1 = ((10 ^ M : Nat) : Int) := by
    have := hp10 M
    omega
  have zM : small ((10 ^ M - 1 : Nat) : Int) = true := small_le z1 (by rw [Int.natAbs_natCast, Int.natAbs_natCast]; omega)
  have c3 := Add_s hG (y := 1) (sy := ⟨#[49]⟩) zM (by decide) eM' (by decide +kernel) (so := so) (by rw [hs1]; exact z1) (by rw [hs1]; exact tone)
  have hMz : ((M : Int) == 0) = false := by rw [beq_eq_false_iff_ne]; omega
  have zp : small (((10 ^ M : Nat) : Int) * ((2 * 10 ^ N - 1 : Nat) : Int)) = true := by
    rw [hcast]
    unfold small
    rw [Int.natAbs_natCast, hld]
    exact decide_eq_true (by omega)
  obtain ⟨sp, tp⟩ : ∃ s, s = str (((10 ^ M : Nat) : Int) * ((2 * 10 ^ N - 1 : Nat) : Int)) := ⟨_, rfl⟩
  have c5 := Mul_s hG z1 z2 tone e2 zp tp
  have hps : sp.size = M + N + 1 := by
    rw [tp, str_size, hcast]
    unfold txt
    rw [if_neg (by omega), Int.natAbs_natCast]
    exact hld
  have hpq : ((sp.size : Int) == (M : Int) + (N : Int) + 1) = true := beq_iff_eq.2 (by omega)
  have hpq0 : M = 0 → ((sp.size : Int) == (N : Int) + 1) = true := fun h => beq_iff_eq.2 (by omega)
  clear hpq0
  have hdd : decide ((M : Int) + (N : Int) < 200) = true := decide_eq_true (by omega)
  clear tx hx bx ex eM eN m1 m2 n1 n2 hZ hZ1 hZ5 bx5 z9 z9n tm em tmn emn tm9 tn t2 e2 hp10 h200 z2 z1 tone hcast hld h0 zp t1 t2' hk tM eM' hs1 zM tp
  go_enter Tryz.func8, Tryz.ntmps8
  go_wp2_with (first
    | (go_at_call 12; with_reducible refine (s0 _ hk0).mono ?_; rintro e w' ⟨rfl, hk1⟩)
    | (go_at_call 13; with_reducible refine (mx _ hk1).mono ?_; rintro e w' ⟨rfl, hk2⟩)
    | (go_at_call 22; with_reducible refine (nm _ hk2).mono ?_; rintro e w' ⟨rfl, hk3⟩)
    | (go_at_call 14; with_reducible refine (c1 _ hk3).mono ?_; rintro e w' ⟨rfl, hk4⟩)
    | (go_at_call 16; with_reducible refine (c2 _ hk4).mono ?_; rintro e w' ⟨rfl, hk5⟩)
    | (go_at_call 23; with_reducible refine (pm _ hk5).mono ?_; rintro e w' ⟨rfl, hk6⟩)
    | (go_at_call 23; with_reducible refine (pn _ hk6).mono ?_; rintro e w' ⟨rfl, hk7⟩)
    | (go_at_call 22; with_reducible refine (nz _ hk7).mono ?_; rintro e w' ⟨rfl, hk8⟩)
    | (go_at_call 14; with_reducible refine (c3 _ hk8).mono ?_; rintro e w' ⟨rfl, hk9⟩)
    | (go_at_call 22; with_reducible refine (nn _ hk9).mono ?_; rintro e w' ⟨rfl, hk10⟩)
    | (go_at_call 15; with_reducible refine (c5 _ hk10).mono ?_; rintro e w' ⟨rfl, hk11⟩)
    | (go_at_call 18; with_reducible refine (c9 _ hk11).mono ?_; rintro e w' ⟨rfl, hk12⟩)
    | (go_at_call 19; with_reducible refine (v1 _ hk12).mono ?_; rintro e w' ⟨rfl, hk13⟩)
    | (go_at_call 19; with_reducible refine (v2 _ hk13).mono ?_; rintro e w' ⟨rfl, hk14⟩))
  go_ret
  exact ⟨rfl, hk14⟩

set_option maxHeartbeats 8000000 in
set_option maxRecDepth 100000 in
theorem Limits_6 (a : ByteArray) (m n : Int) (m1 : -9223372036854775808 ≤ m) (m2 : m ≤ 9223372036854775807) (n1 : -9223372036854775808 ≤ n) (n2 : n ≤ 9223372036854775807) (w : World) (hG : Glob w) (x : Int) (ex : x = madeZ a.data.toList 5) (M N : Nat) (eM : M = pickN m 200) (eN : N = pickN n 200) (h0 : x ≤ 0) (hM0 : 0 < M) (hmn : 200 ≤ M + N) :
    Calls Tryz.prog 8 #[.string a, .int .i64 m, .int .i64 n] w fun e w' => e = .returned (.bool true) ∧ Below w.heap.size w w' := by
  have hk0 := Below.refl w.heap.size w
  have s0 := sane_s hG
  have bx := made_bd a.data.toList 5 (by omega)
  rw [← ex] at bx
  obtain ⟨sx, tx⟩ : ∃ s, s = str x := ⟨_, rfl⟩
  have hx := bx.small (by omega)
  have mx := Made_s (w := w) (s := a) (t := sx) (most := 5) (i := 5) rfl (by omega) (by rw [tx, ex])
  have hM : M < 200 := by rw [eM]; exact Nat.mod_lt _ (by omega)
  have hN : N < 200 := by rw [eN]; exact Nat.mod_lt _ (by omega)
  have pm := pick_s (w := w) m1 m2 eM
  have pn := pick_s (w := w) n1 n2 eN
  obtain ⟨Z, hZ⟩ : ∃ Z : Nat, Z = 10 ^ 200 - 1 := ⟨_, rfl⟩
  have hZ1 : Z + 1 = 10 ^ 200 := by rw [hZ]
  have hZ5 : 10 ^ 5 ≤ Z + 1 := by rw [hZ1]; exact Nat.pow_le_pow_right (by decide) (by decide)
  have bx5 : x.natAbs < 10 ^ 5 := bx
  have z9 : small (Z : Int) = true := small_of (by rw [← hZ1]; omega)
  have z9n : small (-(Z : Int)) = true := small_of (by rw [← hZ1]; omega)
  obtain ⟨sm, tm⟩ : ∃ s : ByteArray, s.data.toList = List.replicate 200 57 := ⟨⟨(List.replicate 200 57).toArray⟩, by simp⟩
  have nm := nines_s (w := w) (k := 200) (i := 200) (s := sm) rfl (by omega) tm
  have em : sm = str (Z : Int) := str_of_txt tm (by rw [hZ]; exact nines_txt (by decide))
  have tmn : ((⟨#[45]⟩ : ByteArray) ++ sm).data.toList = 45 :: List.replicate 200 57 := by rw [ba_append, tm]; rfl
  have emn : (⟨#[45]⟩ : ByteArray) ++ sm = str (-(Z : Int)) := str_of_txt tmn (by rw [hZ]; exact neg_nines_txt (by decide))
  have hsz : sm.size = 200 := by rw [ba_size, tm, List.length_replicate]
  have tm9 : (sm ++ (⟨#[57]⟩ : ByteArray)).data.toList = List.replicate 200 57 ++ [57] := by rw [ba_append, tm]
  have v1 := Valid_s (w := w) (s := sm ++ (⟨#[57]⟩ : ByteArray)) (b := false) (by rw [ba_size, tm9]; decide) (by rw [tm9]; decide +kernel)
  have v2 := Valid_s (w := w) (s := (⟨#[45]⟩ : ByteArray) ++ sm) (b := true) (by rw [ba_size, tmn]; decide) (by rw [tmn]; decide +kernel)
  obtain ⟨sn, tn⟩ : ∃ s : ByteArray, s.data.toList = List.replicate N 57 := ⟨⟨(List.replicate N 57).toArray⟩, by simp⟩
  have nn := nines_s (w := w) (k := N) (i := (N : Int)) (s := sn) rfl (by omega) tn
  have hszn : sn.size = N := by rw [ba_size, tn, List.length_replicate]
  have t2 : ((⟨#[49]⟩ : ByteArray) ++ sn).data.toList = 49 :: List.replicate N 57 := by rw [ba_append, tn]; rfl
  have e2 : (⟨#[49]⟩ : ByteArray) ++ sn = str ((2 * 10 ^ N - 1 : Nat) : Int) := str_of_txt t2 (one_nines_txt N)
  have hp10 : ∀ k, 0 < 10 ^ k := fun k => Nat.pow_pos (by decide)
  have h200 : ∀ k, k < 200 → 10 ^ (k + 1) ≤ 10 ^ 200 := fun k hk => Nat.pow_le_pow_right (by decide) hk
  have z2 : small ((2 * 10 ^ N - 1 : Nat) : Int) = true := small_of (by
    have h1 := h200 N hN
    have h2 := hp10 N
    rw [Nat.pow_succ] at h1
    rw [Int.natAbs_natCast]
    omega)
  have z1 : small ((10 ^ M : Nat) : Int) = true := small_of (by
    have h1 := h200 M hM
    have h2 := hp10 M
    rw [Nat.pow_succ] at h1
    rw [Int.natAbs_natCast]
    omega)
  obtain ⟨so, tone⟩ : ∃ s, s = str ((10 ^ M : Nat) : Int) := ⟨_, rfl⟩
  have hcast : ((10 ^ M : Nat) : Int) * ((2 * 10 ^ N - 1 : Nat) : Int) = ((10 ^ M * (2 * 10 ^ N - 1) : Nat) : Int) := (Int.natCast_mul _ _).symm
  have hld := limit_digits M N
  obtain ⟨s1, t1⟩ : ∃ s, s = str ((Z : Int) + x) := ⟨_, rfl⟩
  obtain ⟨s2, t2'⟩ : ∃ s, s = str (-(Z : Int) - x) := ⟨_, rfl⟩
  have c1 := Add_s hG z9 hx em tx (small_of (by rw [← hZ1]; omega)) t1
  have c2 := Sub_s hG z9n hx emn tx (small_of (by rw [← hZ1]; omega)) t2'
  obtain ⟨k, hk, hkp⟩ : ∃ k, cmpI x 0 = k ∧ k ≤ 0 := by
    refine ⟨_, rfl, ?_⟩
    unfold cmpI
    split
    · omega
    · rw [if_neg (by omega)]; omega
  have c9 := Compare_v (k := k) (w := w) (y := 0) (sy := ⟨#[48]⟩) hx (by decide) tx str0 hk
  obtain ⟨sM, tM⟩ : ∃ s : ByteArray, s.data.toList = List.replicate M 57 := ⟨⟨(List.replicate M 57).toArray⟩, by simp⟩
  have nz := nines_s (w := w) (k := M) (i := (M : Int)) (s := sM) rfl (by omega) tM
  have eM' : sM = str ((10 ^ M - 1 : Nat) : Int) := str_of_txt tM (nines_txt hM0)
  have hs1 : ((10 ^ M - 1 : Nat) : Int) + 1 = ((10 ^ M : Nat) : Int) := by
    have := hp10 M
    omega
  have zM : small ((10 ^ M - 1 : Nat) : Int) = true := small_le z1 (by rw [Int.natAbs_natCast, Int.natAbs_natCast]; omega)
  have c3 := Add_s hG (y := 1) (sy := ⟨#[49]⟩) zM (by decide) eM' (by decide +kernel) (so := so) (by rw [hs1]; exact z1) (by rw [hs1]; exact tone)
  have hMz : ((M : Int) == 0) = false := by rw [beq_eq_false_iff_ne]; omega
  have zp : small (((10 ^ M : Nat) : Int) * ((2 * 10 ^ N - 1 : Nat) : Int)) = false := by
    rw [hcast]
    unfold small
    rw [Int.natAbs_natCast, hld]
    exact decide_eq_false (by omega)
  have c5 := Mul_g hG z1 z2 tone e2 zp
  clear tx hx bx ex eM eN m1 m2 n1 n2 hZ hZ1 hZ5 bx5 z9 z9n tm em tmn emn tm9 tn t2 e2 hp10 h200 z2 z1 tone hcast hld h0 zp t1 t2' hk tM eM' hs1 zM
  go_enter Tryz.func8, Tryz.ntmps8
  go_wp2_with (first
    | (go_at_call 12; with_reducible refine (s0 _ hk0).mono ?_; rintro e w' ⟨rfl, hk1⟩)
    | (go_at_call 13; with_reducible refine (mx _ hk1).mono ?_; rintro e w' ⟨rfl, hk2⟩)
    | (go_at_call 22; with_reducible refine (nm _ hk2).mono ?_; rintro e w' ⟨rfl, hk3⟩)
    | (go_at_call 14; with_reducible refine (c1 _ hk3).mono ?_; rintro e w' ⟨rfl, hk4⟩)
    | (go_at_call 16; with_reducible refine (c2 _ hk4).mono ?_; rintro e w' ⟨rfl, hk5⟩)
    | (go_at_call 23; with_reducible refine (pm _ hk5).mono ?_; rintro e w' ⟨rfl, hk6⟩)
    | (go_at_call 23; with_reducible refine (pn _ hk6).mono ?_; rintro e w' ⟨rfl, hk7⟩)
    | (go_at_call 22; with_reducible refine (nz _ hk7).mono ?_; rintro e w' ⟨rfl, hk8⟩)
    | (go_at_call 14; with_reducible refine (c3 _ hk8).mono ?_; rintro e w' ⟨rfl, hk9⟩)
    | (go_at_call 22; with_reducible refine (nn _ hk9).mono ?_; rintro e w' ⟨rfl, hk10⟩)
    | (go_at_call 15; with_reducible refine (c5 _ hk10).mono ?_; rintro e w' ⟨rfl, hk11⟩)
    | (go_at_call 18; with_reducible refine (c9 _ hk11).mono ?_; rintro e w' ⟨rfl, hk12⟩)
    | (go_at_call 19; with_reducible refine (v1 _ hk12).mono ?_; rintro e w' ⟨rfl, hk13⟩)
    | (go_at_call 19; with_reducible refine (v2 _ hk13).mono ?_; rintro e w' ⟨rfl, hk14⟩))
  go_ret
  exact ⟨rfl, hk14⟩

theorem IntegerLimits_law (a : ByteArray) (m n : Int) (m1 : -9223372036854775808 ≤ m ∧ m ≤ 9223372036854775807) (n1 : -9223372036854775808 ≤ n ∧ n ≤ 9223372036854775807) (w : World) (hG : Glob w) :
    Calls Tryz.prog 8 #[.string a, .int .i64 m, .int .i64 n] w fun e w' => e = .returned (.bool true) ∧ Below w.heap.size w w' := by
  have hN : pickN n 200 < 200 := Nat.mod_lt _ (by omega)
  by_cases h0 : 0 < madeZ a.data.toList 5
  · by_cases hM : pickN m 200 = 0
    · exact Limits_1 a m n m1.1 m1.2 n1.1 n1.2 w hG _ rfl _ _ rfl rfl h0 hM (by omega)
    · by_cases hs : pickN m 200 + pickN n 200 < 200
      · exact Limits_2 a m n m1.1 m1.2 n1.1 n1.2 w hG _ rfl _ _ rfl rfl h0 (by omega) hs
      · exact Limits_3 a m n m1.1 m1.2 n1.1 n1.2 w hG _ rfl _ _ rfl rfl h0 (by omega) (by omega)
  · by_cases hM : pickN m 200 = 0
    · exact Limits_4 a m n m1.1 m1.2 n1.1 n1.2 w hG _ rfl _ _ rfl rfl (by omega) hM (by omega)
    · by_cases hs : pickN m 200 + pickN n 200 < 200
      · exact Limits_5 a m n m1.1 m1.2 n1.1 n1.2 w hG _ rfl _ _ rfl rfl (by omega) (by omega) hs
      · exact Limits_6 a m n m1.1 m1.2 n1.1 n1.2 w hG _ rfl _ _ rfl rfl (by omega) (by omega) (by omega)
end Go.Proofs.YtiefodlhnpondaaGreatDoor
