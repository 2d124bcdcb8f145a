/-
  The reference's Small: a fraction of small integers that two integers determine.
-/
import Derived.IntWalk
import Derived.Test.YtkekafamfoifmaaGreatDoorZPrs
import Derived.Test.YtkekafamfoifmaaGreatDoorZLng
import Derived.Test.YtkekafamfoifmaaGreatDoorZLimQP
namespace Go.Proofs.YtkekafamfoifmaaGreatDoor
open Go.RowKit Go.Shelf
attribute [local go_sem] Oper.semAt_some

/-- The two integers' box, and the result's block. -/
def SmAt (x0 x1 : Int) (w W : World) : Prop := Below w.heap.size w W ∧ ArAt w.heap.size [.int .i64 x0, .int .i64 x1] W ∧ ArAt (w.heap.size + 1) [.string ⟨#[]⟩, .string ⟨#[]⟩] W
theorem SmAt.below {x0 x1 : Int} {w W W' : World} (h : SmAt x0 x1 w W) (hb : Below W.heap.size W W') : SmAt x0 x1 w W' := ⟨h.1.trans (hb.mono h.1.size), ArAt.below h.2.1 hb, ArAt.below h.2.2 hb⟩
theorem SmAt.drew {x0 x1 : Int} {w W : World} (h : SmAt x0 x1 w W) : SmAt x0 x1 w W.drew := ⟨Below.drew h.1, ArAt.drew h.2.1, ArAt.drew h.2.2⟩
theorem SmAt.al {x0 x1 : Int} {w W : World} (h : SmAt x0 x1 w W) (o : Obj) : SmAt x0 x1 w (W.alloc o) := SmAt.below h ((Below.refl _ _).alloc (Nat.le_refl _) _)
theorem SmAt.set2 {x0 x1 : Int} {w W : World} {X : Nat} (h : SmAt x0 x1 w W) (hX : w.heap.size + 1 < X) (u v : Value) : SmAt x0 x1 w ((W.setCell ⟨X, 0, none⟩ u).setCell ⟨X, 1, none⟩ v) :=
  ⟨(Below.setCell (Below.setCell h.1 (by simp; omega) _) (by simp; omega) _), (ArAt.other (ArAt.other h.2.1 (by omega) _ _) (by omega) _ _), (ArAt.other (ArAt.other h.2.2 (by omega) _ _) (by omega) _ _)⟩
theorem SmAt.start (w : World) (x0 x1 : Int) (t u : TypeId) : SmAt x0 x1 w ((w.alloc (.cells #[.int .i64 x0, .int .i64 x1] t)).alloc (.cells #[.string ⟨#[]⟩, .string ⟨#[]⟩] u)) := by
  have s1 := ArAt.start w #[.int .i64 x0, .int .i64 x1] t
  have s := ArAt.start (w.alloc (.cells #[.int .i64 x0, .int .i64 x1] t)) #[.string ⟨#[]⟩, .string ⟨#[]⟩] u
  simp only [World.size_alloc] at s
  exact ⟨((Below.refl _ _).alloc (Nat.le_refl _) _).alloc (by simp only [World.size_alloc]; omega) _, s1.al _, s⟩
theorem SmAt.rs {x0 x1 : Int} {w W : World} (h : SmAt x0 x1 w W) : RsAt (w.heap.size + 1) w W :=
  ⟨h.1, h.2.2.row 0 _ rfl, h.2.2.row 1 _ rfl, h.2.2.fz 0 (by simp), h.2.2.fz 1 (by simp), by omega, h.2.2.sz⟩
/-- The two, and the box of the answer. -/
def SmTo (X : Nat) (s t : ByteArray) (w W : World) : Prop := RsAt (w.heap.size + 1) w W ∧ W.cell? ⟨X, 0, none⟩ = some (.string s) ∧ W.cell? ⟨X, 1, none⟩ = some (.string t)
theorem SmAt.push {x0 x1 : Int} {w W : World} (h : SmAt x0 x1 w W) (s t : ByteArray) (u : TypeId) : SmTo W.heap.size s t w (W.alloc (.cells #[.string s, .string t] u)) := by
  have a := ArAt.start W #[.string s, .string t] u
  exact ⟨SmAt.rs (SmAt.al h _), a.row 0 _ rfl, a.row 1 _ rfl⟩
theorem SmAt.put {x0 x1 : Int} {w W : World} {X : Nat} {u v : Value} (h : SmAt x0 x1 w W) (hX : w.heap.size + 1 < X) (c0 : W.cell? ⟨X, 0, none⟩ = some u) (c1 : W.cell? ⟨X, 1, none⟩ = some v) (s t : ByteArray) :
    SmTo X s t w ((W.setCell ⟨X, 0, none⟩ (.string s)).setCell ⟨X, 1, none⟩ (.string t)) :=
  ⟨SmAt.rs (SmAt.set2 h hX _ _), (World.cell?_setCell_other _ _ _ _ (by simp)).trans (World.cell?_setCell_same _ _ _ c0), World.cell?_setCell_same _ _ _ ((World.cell?_setCell_other _ _ _ _ (by simp)).trans c1)⟩

set_option maxRecDepth 100000 in
set_option maxHeartbeats 8000000 in
theorem Small_f (x0 x1 : Int) (h00 : -9223372036854775808 ≤ x0) (h01 : x0 ≤ 9223372036854775807) (h10 : -9223372036854775808 ≤ x1) (h11 : x1 ≤ 9223372036854775807) (w : World) :
    Calls Tryz.prog 28 #[.agg #[.int .i64 x0, .int .i64 x1]] w fun e W' => (∃ r : Rat, Mch r ∧ e = .returned (.agg #[.string (str r.num), .string (str (r.den : Int))])) ∧ Below w.heap.size w W' := by
  have pc : ∀ (x : Int) (k : Nat), -9223372036854775808 ≤ x → x ≤ 9223372036854775807 → 0 < k → k ≤ 4294967296 → ∀ (i : Int), (k : Int) = i → ∀ W, Calls Tryz.prog 46 #[.int .i64 x, .int .i64 i] W fun e w' => e = .returned (.int .i64 (pickN x k : Nat)) ∧ W = w' := fun x k a b c d i e W => by subst e; exact pick_f x k a b c d W
  obtain ⟨a, ea⟩ : ∃ n, n = pickN x0 1999 := ⟨_, rfl⟩
  obtain ⟨b, eb⟩ : ∃ n, n = pickN x1 60 := ⟨_, rfl⟩
  have ha : a < 1999 := by rw [ea]; exact pickN_lt _ (by decide)
  have hb : b < 60 := by rw [eb]; exact pickN_lt _ (by decide)
  have P0 := Lib.hid (fun W => by have := pc x0 1999 h00 h01 (by decide) (by decide) 1999 rfl W; rw [← ea] at this; exact this)
  have P1 := Lib.hid (fun W => by have := pc x1 60 h10 h11 (by decide) (by decide) 60 rfl W; rw [← eb] at this; exact this)
  obtain ⟨r, er⟩ : ∃ r, r = Rat.divInt ((a : Int) - 999) (1 + (b : Int)) := ⟨_, rfl⟩
  have hm : Mch r := by rw [er]; exact Mch.of (by omega) (by omega) (by omega)
  have KO := Lib.hid (fun W => by
    have := Of_f (n := (a : Int) - 999) (d := 1 + (b : Int)) (by omega) (by omega) (by omega) (by omega) W
    rw [show makeR ((a : Int) - 999) (1 + (b : Int)) = some r by rw [er]; exact if_neg (by omega)] at this
    exact this)
  have H4 := Lib.hid (SmAt.start w x0 x1 47 23)
  have HM := Lib.hid hm
  have wa : IntKind.i64.wrap ((a : Int) - 999) = (a : Int) - 999 := IntWalk.i64_in _ (by omega)
  have wb : IntKind.i64.wrap (1 + (b : Int)) = 1 + (b : Int) := IntWalk.i64_in _ (by omega)
  have en : qN (some r) = str r.num := rfl
  have ed : qD (some r) = str (r.den : Int) := rfl
  rw [en, ed, qE_some] at KO
  obtain ⟨s, es⟩ : ∃ s, s = str r.num := ⟨_, rfl⟩
  obtain ⟨t, et⟩ : ∃ t, t = str (r.den : Int) := ⟨_, rfl⟩
  rw [← es, ← et] at KO
  have ES := Lib.hid es
  have ET := Lib.hid et
  clear pc ea eb er hm h00 h01 h10 h11 en ed es et
  go_enter Tryz.func28, Tryz.ntmps28
  go_wp2
  go_cut [3] from 5 (fun v3 wX => ∃ X, v3 = .pointer (some ⟨X, 0, none⟩) ∧ SmTo X s t w wX)
  case first =>
    go_region_held3 (fun W => W.cell? ⟨w.heap.size, 0, none⟩ = some (.int .i64 x0) ∧ W.cell? ⟨w.heap.size, 1, none⟩ = some (.int .i64 x1)) (first | exact ⟨((SmAt.set2 H6.out (by omega) _ _).2.1).row 0 _ rfl, ((SmAt.set2 H6.out (by omega) _ _).2.1).row 1 _ rfl⟩ | exact ⟨(H6.out.2.1).row 0 _ rfl, (H6.out.2.1).row 1 _ rfl⟩ | exact ⟨((H6.out.al _).2.1).row 0 _ rfl, ((H6.out.al _).2.1).row 1 _ rfl⟩ | exact ⟨(H4.out.2.1).row 0 _ rfl, (H4.out.2.1).row 1 _ rfl⟩ | exact ⟨((H4.out.al _).2.1).row 0 _ rfl, ((H4.out.al _).2.1).row 1 _ rfl⟩ | exact ⟨(H4.out.drew.2.1).row 0 _ rfl, (H4.out.drew.2.1).row 1 _ rfl⟩) (first
      | (go_at_call 46; with_reducible refine (P0.out _).mono ?_; rintro e w' ⟨rfl, rfl⟩)
      | (go_at_call 46; with_reducible refine (P1.out _).mono ?_; rintro e w' ⟨rfl, rfl⟩)
      | (go_at_call 42; refine (KO.out _).mono ?_; rintro e w6 ⟨rfl, hb6⟩; have H6 := Lib.hid (SmAt.below (by first | exact H4.out.drew | exact (H4.out.drew).al _ | exact (H4.out.al _).drew) hb6); (first | (with_reducible have hz := zero_at hb6; obtain ⟨za0, za1, za2, za3, za4⟩ := hz; (try simp at za0 za1 za2 za3 za4)) | (with_reducible have hz := zero_at_drew hb6; obtain ⟨za0, za1, za2, za3, za4⟩ := hz; (try simp at za0 za1 za2 za3 za4)) | (with_reducible have hz := zero_at_drew2 hb6; obtain ⟨za0, za1, za2, za3, za4⟩ := hz; (try simp at za0 za1 za2 za3 za4)) | skip); clear hb6))
    all_goals
      go_wp2
      go_meet
      exact ⟨_, rfl, by first | exact H6.out.push _ _ _ | exact SmAt.put H6.out (by omega) za0 za1 _ _⟩
  case rest =>
    obtain ⟨X, rfl, hX⟩ := hcut
    obtain ⟨hr, x0', x1'⟩ := hX
    obtain ⟨_, q1, q2, q3, q4, _, _⟩ := id hr
    have HR := Lib.hid hr
    clear hr
    go_wp2
    obtain ⟨W5, hW5, p0, p1, hbl⟩ := HR.out.fin s t
    rw [hW5]
    clear hW5 q1 q2 q3 q4
    refine bodyPost_ret (v := .agg #[.string s, .string t]) ?_ rfl ⟨⟨r, HM.out, by rw [ES.out, ET.out]⟩, hbl⟩
    simp [results, Tryz.results28, go_sem, p0, p1, Result.andThen]
end Go.Proofs.YtkekafamfoifmaaGreatDoor

