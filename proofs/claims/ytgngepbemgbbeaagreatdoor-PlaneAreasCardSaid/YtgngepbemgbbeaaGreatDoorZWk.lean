/-
  A calculation of package rational: its flag in a block of its own; the function that does an operation unless the flag is set.
-/
import Derived.Test.YtgngepbemgbbeaaGreatDoorZNum
namespace Go.Proofs.YtgngepbemgbbeaaGreatDoor
open Go.RowKit Go.Shelf
attribute [local go_sem] Oper.semAt_some

/-- The flag b of a calculation lies in block N; nothing below block n has changed since the world w. -/
structure WkAt (n N : Nat) (b : Bool) (w W : World) : Prop where
  bw : Below n w W
  c : W.cell? ⟨N, 0, none⟩ = some (.bool b)
  f : W.frozen? ⟨N, 0, none⟩ = false
  le : n ≤ N
  sz : N < W.heap.size
theorem WkAt.below {n N : Nat} {b : Bool} {w W W' : World} (h : WkAt n N b w W) (hb : Below W.heap.size W W') : WkAt n N b w W' := by
  have hs := h.sz
  have hl := h.le
  obtain ⟨c, f⟩ := bcell hb
  exact ⟨h.bw.trans (hb.mono (by omega)), (c _ _ hs).trans h.c, (f _ _ hs).trans h.f, hl, Nat.lt_of_lt_of_le hs hb.size⟩
theorem WkAt.drew {n N : Nat} {b : Bool} {w W : World} (h : WkAt n N b w W) : WkAt n N b w W.drew := ⟨h.bw.drew, h.c, h.f, h.le, h.sz⟩
theorem WkAt.alloc {n N : Nat} {b : Bool} {w W : World} (h : WkAt n N b w W) (o : Obj) : WkAt n N b w (W.alloc o) := h.below ((Below.refl _ _).alloc (Nat.le_refl _) _)
theorem WkAt.set {n N : Nat} {b : Bool} {w W : World} (h : WkAt n N b w W) (b' : Bool) : WkAt n N b' w (W.setCell ⟨N, 0, none⟩ (.bool b')) := by
  refine ⟨h.bw.setCell h.le _, World.cell?_setCell_same _ _ _ h.c, ?_, h.le, by simpa using h.sz⟩
  have := h.f
  simpa [go_sem] using this
theorem WkAt.start {n : Nat} {w W : World} (h : Below n w W) (hn : n ≤ W.heap.size) (b : Bool) : WkAt n W.heap.size b w (W.alloc (.cells #[.bool b] 134)) := by
  refine ⟨h.alloc hn _, ?_, ?_, hn, by simp⟩ <;> simp [go_sem]

/-- From W to W' the calculation's flag has become b; all other blocks are kept. -/
structure WkTo (n N : Nat) (b : Bool) (w W W' : World) : Prop where
  wk : WkAt n N b w W'
  ag : Agree (N + 1) W.heap.size W W'
  size : W.heap.size ≤ W'.heap.size
theorem WkTo.keep {n N R : Nat} {b : Bool} {w W W' : World} (h : WkTo n N b w W W') (h1 : N < R) (h2 : R < W.heap.size) : (∀ o, W'.cell? ⟨R, o, none⟩ = W.cell? ⟨R, o, none⟩) ∧ (∀ o, W'.frozen? ⟨R, o, none⟩ = W.frozen? ⟨R, o, none⟩) := by
  have := h.ag R (by omega) h2
  exact ⟨fun o => World.cell?_of_block (w := W) this, fun o => World.frozen?_of_block (w := W) this⟩
theorem WkTo.refl {n N : Nat} {b : Bool} {w W : World} (h : WkAt n N b w W) : WkTo n N b w W W := ⟨h, Agree.refl _ _ _, Nat.le_refl _⟩
theorem WkTo.below {n N : Nat} {b : Bool} {w W W' : World} (h : WkAt n N b w W) (hb : Below W.heap.size W W') : WkTo n N b w W W' := ⟨h.below hb, Agree.of_below hb (Nat.le_refl _), hb.size⟩

set_option maxRecDepth 100000 in
set_option maxHeartbeats 1000000 in
theorem do_any (K : Nat) {n N : Nat} {b : Bool} {w W : World} (x y s : ByteArray) (k : Int) (h : WkAt n N b w W)
    (hent : ∀ (args : Array Value) (w : World), (callFunc K args).run Tryz.prog w = .ok (.enter K args) w)
    (hK : b = false → Calls Tryz.prog K #[.string x, .string y] W fun e W' => e = .returned (.tuple #[.string s, .int .i64 k]) ∧ Below W.heap.size W W') :
    Calls Tryz.prog 125 #[.pointer (some ⟨N, 0, none⟩), .func (.func K) #[] #[], .string x, .string y] W fun e W' => e = .returned (.string (if b = true then ⟨#[]⟩ else s)) ∧ WkTo n N (b || (k != 0)) w W W' := by
  have c0 := h.c
  have f0 := h.f
  have HH := Lib.hid h
  clear h
  cases b with
  | true =>
    clear hK
    go_enter Tryz.func125, Tryz.ntmps125
    go_wp2
    go_ret
    exact ⟨rfl, by simpa using WkTo.refl HH.out⟩
  | false =>
    have HK := Lib.hid (hK rfl)
    clear hK
    go_enter Tryz.func125, Tryz.ntmps125
    go_wp2_with ((with_reducible refine HK.out.mono ?_); rintro e w1 ⟨rfl, hb1⟩; have h1 := HH.out.below hb1; have c1 := h1.c; have f1 := h1.f; have H1 := Lib.hid h1; clear h1)
    go_ret
    exact ⟨rfl, H1.out.set _, (Agree.of_below hb1 (Nat.le_refl _)).setCell (.inl (by simp)) _, by simpa using hb1.size⟩
end Go.Proofs.YtgngepbemgbbeaaGreatDoor

