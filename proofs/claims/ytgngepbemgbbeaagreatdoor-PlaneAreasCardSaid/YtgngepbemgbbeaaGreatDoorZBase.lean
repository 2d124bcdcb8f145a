/-
  General facts that the walks of this seat use: slices that read as lists, kept by worlds that agree on a range of blocks. No code of the program is named here.
  append of a slice that came from anywhere, nil or not, to a row of the call's own: one law, inside a fence and outside.
-/
import Derived.WalkKit
import Derived.WalkSpells
import Derived.WalkLawsBesides
import Derived.Lib.Hide
import Derived.OwnWalkIn
import Derived.Laws.AppendOwnNone
namespace Go.Proofs.YtgngepbemgbbeaaGreatDoor
open Go.RowKit

/-- Two worlds agree on the blocks from lo up to, but not including, hi. -/
def Agree (lo hi : Nat) (w w' : World) : Prop := ∀ k, lo ≤ k → k < hi → w'.heap[k]? = w.heap[k]?
theorem Agree.of_below {B lo hi : Nat} {w w' : World} (h : Below B w w') (hb : hi ≤ B) : Agree lo hi w w' := fun k _ hk => h.block k (by omega)
theorem Agree.refl (lo hi : Nat) (w : World) : Agree lo hi w w := fun _ _ _ => rfl
theorem Agree.trans {lo hi : Nat} {a b c : World} (h : Agree lo hi a b) (k : Agree lo hi b c) : Agree lo hi a c := fun i h1 h2 => (k i h1 h2).trans (h i h1 h2)
theorem Agree.alloc {lo hi : Nat} {a w : World} (h : Agree lo hi a w) (hb : hi ≤ w.heap.size) (o : Obj) : Agree lo hi a (w.alloc o) := fun k h1 h2 => (Below.heap_alloc _ _ _ (by omega)).trans (h k h1 h2)
theorem Agree.setCell {lo hi : Nat} {a w : World} (h : Agree lo hi a w) {p : Addr} (hp : p.block < lo ∨ hi ≤ p.block) (u : Value) : Agree lo hi a (w.setCell p u) := fun k h1 h2 => (Below.heap_setCell _ _ _ _ (by omega)).trans (h k h1 h2)
theorem Agree.drew {lo hi : Nat} {a w : World} (h : Agree lo hi a w) : Agree lo hi a w.drew := h

/-- The slice value v has n elements of sz cells each, which hold cs; its cells lie in a block from lo up to, but not including, hi. -/
def Sl (w : World) (v : Value) (n sz : Nat) (cs : List Value) (lo hi : Nat) : Prop :=
  ∃ (a : Option Addr) (cap : Nat), v = .slice a n cap ∧ n ≤ cap ∧ cap ≤ maxLen ∧ cs.length = n * sz ∧ (a = none → cap = 0) ∧
    (∀ ad, a = some ad → ∃ b off, ad = ⟨b, off, none⟩ ∧ lo ≤ b ∧ b < hi ∧ ∀ i u, cs[i]? = some u → w.cell? ⟨b, off + i, none⟩ = some u)

theorem Sl.mono {w : World} {v : Value} {n sz : Nat} {cs : List Value} {lo hi lo' hi' : Nat} (h : Sl w v n sz cs lo hi) (h1 : lo' ≤ lo) (h2 : hi ≤ hi') : Sl w v n sz cs lo' hi' := by
  obtain ⟨a, cap, hv, h3, h4, h5, h6, h7⟩ := h
  refine ⟨a, cap, hv, h3, h4, h5, h6, fun ad ha => ?_⟩
  obtain ⟨b, off, e, l1, l2, l3⟩ := h7 ad ha
  exact ⟨b, off, e, by omega, by omega, l3⟩
theorem Sl.keep {w w' : World} {v : Value} {n sz : Nat} {cs : List Value} {lo hi : Nat} (h : Sl w v n sz cs lo hi) (hk : Agree lo hi w w') : Sl w' v n sz cs lo hi := by
  obtain ⟨a, cap, hv, h3, h4, h5, h6, h7⟩ := h
  refine ⟨a, cap, hv, h3, h4, h5, h6, fun ad ha => ?_⟩
  obtain ⟨b, off, e, l1, l2, l3⟩ := h7 ad ha
  refine ⟨b, off, e, l1, l2, fun i u hu => ?_⟩
  rw [World.cell?_of_block (w := w) (hk b l1 l2)]
  exact l3 i u hu
theorem Sl.below {w w' : World} {v : Value} {n sz : Nat} {cs : List Value} {lo hi B : Nat} (h : Sl w v n sz cs lo hi) (hk : Below B w w') (hb : hi ≤ B) : Sl w' v n sz cs lo hi := h.keep (Agree.of_below hk hb)
theorem Sl.nil (w : World) (sz lo hi : Nat) : Sl w (.slice none 0 0) 0 sz [] lo hi := ⟨none, 0, rfl, Nat.le_refl _, by decide, by simp, fun _ => rfl, fun ad h => by cases h⟩

/-- A slice of integers that reads as a list of natural numbers. -/
abbrev Ns (w : World) (v : Value) (xs : List Nat) (lo hi : Nat) : Prop := Sl w v xs.length 1 (xs.map fun n : Nat => Value.int .i64 (n : Int)) lo hi

theorem Ns.nil (w : World) (lo hi : Nat) : Ns w (.slice none 0 0) [] lo hi := Sl.nil w 1 lo hi

theorem Ns.take {w : World} {a : Option Addr} {cap : Nat} {xs : List Nat} {lo hi : Nat} (h : Ns w (.slice a xs.length cap) xs lo hi) {k : Nat} (hk : k ≤ xs.length) : Ns w (.slice a k cap) (xs.take k) lo hi := by
  obtain ⟨a', cap', hv, h3, h4, h5, h6, h7⟩ := h
  simp only [Value.slice.injEq, true_and] at hv
  obtain ⟨rfl, rfl⟩ := hv
  refine ⟨a, cap, by simp [Nat.min_eq_left hk], by simp; omega, h4, by simp, h6, fun ad ha => ?_⟩
  obtain ⟨b, off, e, l1, l2, l3⟩ := h7 ad ha
  refine ⟨b, off, e, l1, l2, fun i u hu => ?_⟩
  refine l3 i u ?_
  rw [List.map_take, List.getElem?_take] at hu
  split at hu
  · exact hu
  · cases hu
theorem Ns.len {w : World} {v : Value} {xs : List Nat} {lo hi : Nat} (h : Ns w v xs lo hi) : xs.length ≤ maxLen := by
  obtain ⟨a', cap', hv, h3, h4, _⟩ := h
  omega
/-- Where a slice has an element, its address is known. -/
theorem Ns.at {w : World} {a : Option Addr} {cap : Nat} {xs : List Nat} {lo hi n : Nat} (h : Ns w (.slice a n cap) xs lo hi) {k : Nat} (hk : k < xs.length) :
    ∃ b off, a = some ⟨b, off, none⟩ ∧ lo ≤ b ∧ b < hi ∧ w.cell? ⟨b, off + k, none⟩ = some (.int .i64 (xs[k]'hk : Nat)) := by
  obtain ⟨a', cap', hv, h3, h4, h5, h6, h7⟩ := h
  simp only [Value.slice.injEq] at hv
  obtain ⟨rfl, rfl, rfl⟩ := hv
  cases a with
  | none => have := h6 rfl; omega
  | some ad =>
    obtain ⟨b, off, e, l1, l2, l3⟩ := h7 ad rfl
    exact ⟨b, off, by rw [e], l1, l2, l3 k _ (by simp [hk])⟩

theorem Ns.cells {w : World} {a : Option Addr} {cap n : Nat} {xs : List Nat} {lo hi : Nat} (h : Ns w (.slice a n cap) xs lo hi) : ∀ b off, a = some ⟨b, off, none⟩ → ∀ j u, (xs.map fun n : Nat => Value.int .i64 (n : Int))[j]? = some u → w.cell? ⟨b, off + j, none⟩ = some u := by
  obtain ⟨a', cap', hv, h3, h4, h5, h6, h7⟩ := h
  simp only [Value.slice.injEq] at hv
  obtain ⟨rfl, rfl, rfl⟩ := hv
  intro b off e j u hu
  obtain ⟨b', off', e', _, _, l3⟩ := h7 _ e
  simp only [Addr.mk.injEq, and_true] at e'
  obtain ⟨rfl, rfl⟩ := e'
  exact l3 j u hu
theorem addr_add (b o j : Nat) : (⟨b, o, none⟩ : Addr).add j = ⟨b, o + j, none⟩ := by unfold Addr.add; split <;> simp_all
theorem cells_new (W : World) (b o : Nat) (cs : List Value) (hb : b < W.heap.size) (h : ∀ j u, cs[j]? = some u → W.cell? ⟨b, o + j, none⟩ = some u) (ob : Obj) : ∀ j u, cs[j]? = some u → (W.alloc ob).cell? ((⟨b, o, none⟩ : Addr).add j) = some u := by
  intro j u hu
  rw [addr_add, World.cell?_of_block (w := W) (a := ⟨b, o + j, none⟩) (Below.heap_alloc W ob b hb)]
  exact h j u hu
theorem ints_one (xs : List Nat) : ∀ u ∈ xs.map (fun n : Nat => Value.int .i64 (n : Int)), u.oneCell' = true := by
  intro u hu
  obtain ⟨n, _, rfl⟩ := List.mem_map.1 hu
  rfl

/-- A row that the call itself made, read as a slice. -/
theorem Sl.of_owns {w : World} {base : Nat} {e : TypeId} {sz : Nat} {v : Value} {n : Nat} {cs : List Value} (h : w.ownsRow base e sz v n cs) : Sl w v n sz cs base w.heap.size := by
  obtain ⟨h1, ⟨rfl, rfl⟩ | ⟨g, cap, cur, rfl, hb, hg, hn, hm, hs, ht⟩⟩ := h
  · have : cs = [] := List.eq_nil_of_length_eq_zero (by simpa using h1)
    subst this
    exact Sl.nil w sz _ _
  · refine ⟨some ⟨g, 0, none⟩, cap, rfl, hn, hm, h1, fun h => by simp at h, fun ad ha => ?_⟩
    simp only [Option.some.injEq] at ha
    subst ha
    refine ⟨g, 0, rfl, hb, (Array.getElem?_eq_some_iff.1 hg).1, fun i u hu => ?_⟩
    rw [Nat.zero_add, cell_of_row w g i cur e (0, 0) hg]
    rw [← ht, List.getElem?_take] at hu
    split at hu
    · simpa using hu
    · cases hu

/-- Nothing has turned but the count of what was drawn. -/
structure Still (w w' : World) : Prop where
  os : w'.os = w.os
  tape : w'.tape = w.tape
  output : w'.output = w.output
  heap : w'.heap = w.heap
theorem Still.refl (w : World) : Still w w := ⟨rfl, rfl, rfl, rfl⟩
theorem Still.trans {a b c : World} (h : Still a b) (k : Still b c) : Still a c := ⟨k.os.trans h.os, k.tape.trans h.tape, k.output.trans h.output, k.heap.trans h.heap⟩
theorem Still.drewN (w : World) (q : Nat) : Still w (w.drewN q) := ⟨rfl, rfl, rfl, rfl⟩
theorem Still.below {w w' : World} (h : Still w w') (B : Nat) : Below B w w' := ⟨h.os, h.tape, h.output, by rw [h.heap]; exact Nat.le_refl _, fun k _ => by rw [h.heap]⟩
theorem Still.owns {w w' : World} (h : Still w w') {base : Nat} {e : TypeId} {sz : Nat} {v : Value} {n : Nat} {cs : List Value} (ho : w.ownsRow base e sz v n cs) : w'.ownsRow base e sz v n cs := by
  obtain ⟨h1, h2⟩ := ho
  refine ⟨h1, ?_⟩
  rw [h.heap]
  exact h2
theorem Still.cell {w w' : World} (h : Still w w') (a : Addr) : w'.cell? a = w.cell? a := by simp [World.cell?, h.heap]

/-- An element has been laid in a block of its own, and appended to a row of the call's own. -/
theorem below_append {B : Nat} {w wr w2 w3 : World} {e : TypeId} {sz n : Nat} {v : Value} {cs : List Value} {o : Obj} (hb : Below B w wr) (hst : Below B wr w2) (hB : B ≤ wr.heap.size) (hown : wr.ownsRow B e sz v n cs)
    (hgrow : (w2.alloc o).grownBy w3 v.ownBlock) : Below B w w3 :=
  ((hb.trans hst).alloc (Nat.le_trans hB hst.size) o).grown hgrow (by have := hst.size; simp; omega) (fun k e => (hown.lt k e).1)

theorem own_snoc_int {w : World} {B : Nat} {e : TypeId} {v : Value} {ds : List Nat} {d : Int} (h0 : 0 ≤ d) (h : w.ownsRow B e 1 v (ds.length + 1) (ds.map (fun d : Nat => Value.int .i64 (d : Int)) ++ [Value.int .i64 d])) :
    w.ownsRow B e 1 v (ds ++ [d.toNat]).length ((ds ++ [d.toNat]).map fun d : Nat => Value.int .i64 (d : Int)) := by
  have e : ((d.toNat : Nat) : Int) = d := by omega
  simpa [e] using h

theorem quiet_eq {P : Program} {f : FuncId} {args : Array Value} {w : World} {n : Nat} {v : Value}
    (h : Calls P f args (w.drewN n) fun e w' => e = .returned v ∧ w.drewN n = w') : Calls P f args (w.drewN n) fun e w'' => e = .returned v ∧ ∃ m, w'' = w.drewN m :=
  h.mono fun _ _ ⟨he, hm⟩ => ⟨he, n, hm.symm⟩
theorem quiet_eq_add {P : Program} {f : FuncId} {args : Array Value} {w : World} {a n : Nat} {v : Value}
    (h : Calls P f args (w.drewN (a + n)) fun e w' => e = .returned v ∧ w.drewN (a + n) = w') : Calls P f args (w.drewN (a + n)) fun e w'' => e = .returned v ∧ ∃ m, w'' = w.drewN (a + m) :=
  h.mono fun _ _ ⟨he, hm⟩ => ⟨he, n, hm.symm⟩
theorem Sl.drewN {w : World} {v : Value} {n sz : Nat} {cs : List Value} {lo hi : Nat} (h : Sl w v n sz cs lo hi) (q : Nat) : Sl (w.drewN q) v n sz cs lo hi := h.keep fun _ _ _ => rfl

/-- The length of a slice value: for a loop's measure. -/
def lenOf : Value → Nat | .slice _ n _ => n | _ => 0
theorem ret_int {k : IntKind} {a b : Int} (h : a = b) : Ending.returned (.int k a) = .returned (.int k b) := by rw [h]
theorem ret_bool {a b : Bool} (h : a = b) : Ending.returned (.bool a) = .returned (.bool b) := by rw [h]
theorem ret_string {a b : ByteArray} (h : a = b) : Ending.returned (.string a) = .returned (.string b) := by rw [h]

/-- What an array of one element type takes: as a fact of four parts. -/
theorem bcell {W w1 : World} (hb : Below W.heap.size W w1) : (∀ b o, b < W.heap.size → w1.cell? ⟨b, o, none⟩ = W.cell? ⟨b, o, none⟩) ∧ (∀ b o, b < W.heap.size → w1.frozen? ⟨b, o, none⟩ = W.frozen? ⟨b, o, none⟩) :=
  ⟨fun b o h => hb.cell (p := ⟨b, o, none⟩) h, fun b o h => hb.frozen (p := ⟨b, o, none⟩) h⟩

end Go.Proofs.YtgngepbemgbbeaaGreatDoor

namespace Go.Proofs.YtgngepbemgbbeaaGreatDoor
open Go.RowKit

theorem wpList_append_sl {P : Program} (w : World) {ops : Array Oper} {rest : List Oper} {o : Oper} {a : Act} {Q : Exit → Act → World → Prop}
    (hg : o.guard = none) (s x : Operand) (t : TypeId) (hop : o.op = Op.call { callee := Callee.builtin Builtin.append, args := #[s, x], argTypes := #[t, t] })
    (base : Nat) (e : TypeId) (i : TypeInfo) (z : Value) (size bytes : Nat) (h1 : P.underlying t = some (.slice e)) (h2 : P.info? e = some i) (h3 : i.zero = some z) (h4 : i.size = size) (h5 : i.bytes = bytes) (h6 : z.cells.size = size) (h7 : 0 < size)
    (v : Value) (k : Nat) (xs : List Value) (hs : a.eval s = v) (hown : w.ownsRow base e size v k xs) (vs : Value) (m : Nat) (news : List Value) (lo hi : Nat) (hx : a.eval x = vs) (hsrc : Sl w vs m size news lo hi)
    (h1c : ∀ u ∈ news, u.oneCell' = true) (b1 : k + m ≤ maxLen) (b2 : (k + m) * bytes ≤ 140737488355328) (b3 : base ≤ w.heap.size)
    (hK : ∀ v' w', w'.ownsRow base e size v' (k + m) (xs ++ news) → w.grownBy w' v.ownBlock → wpList P ops Q rest (a.put o.dst v') w') :
    wpList P ops Q (o :: rest) a w := by
  obtain ⟨ao, cap, rfl, hn, _, hl, hz, hc⟩ := hsrc
  cases ao with
  | some ad =>
    obtain ⟨b, off, rfl, _, _, hcs⟩ := hc ad rfl
    exact wpList_append_own w hg s x t hop base e i z size bytes h1 h2 h3 h4 h5 h6 h7 v k xs hs hown ⟨b, off, none⟩ m cap news hx hl (fun j u hu => by rw [addr_add]; exact hcs j u hu) h1c b1 b2 b3 (fun v' w' r1 r2 _ => hK v' w' r1 r2)
  | none =>
    obtain rfl : cap = 0 := hz rfl
    obtain rfl : m = 0 := by omega
    obtain rfl : news = [] := List.eq_nil_of_length_eq_zero (by omega)
    exact wpList_append_own_none hg s x t hop base e i size h1 h2 v k xs hs hown hx (hK v w (by simpa using hown) (World.grownBy.refl _ _))

theorem wpListIn_append_sl {F : Fence} {n : Nat} {P : Program} (w : World) {ops : Array Oper} {rest : List Oper} {o : Oper} {a : Act} {Q : Exit → Act → World → Prop}
    (hg : o.guard = none) (s x : Operand) (t : TypeId) (hop : o.op = Op.call { callee := Callee.builtin Builtin.append, args := #[s, x], argTypes := #[t, t] })
    (base : Nat) (e : TypeId) (i : TypeInfo) (z : Value) (size bytes : Nat) (h1 : P.underlying t = some (.slice e)) (h2 : P.info? e = some i) (h3 : i.zero = some z) (h4 : i.size = size) (h5 : i.bytes = bytes) (h6 : z.cells.size = size) (h7 : 0 < size)
    (v : Value) (k : Nat) (xs : List Value) (hs : a.eval s = v) (hown : w.ownsRow base e size v k xs) (vs : Value) (m : Nat) (news : List Value) (lo hi : Nat) (hx : a.eval x = vs) (hsrc : Sl w vs m size news lo hi)
    (h1c : ∀ u ∈ news, u.oneCell' = true) (b1 : k + m ≤ maxLen) (b2 : (k + m) * bytes ≤ 140737488355328) (b3 : base ≤ w.heap.size)
    (hK : ∀ v' w', w'.ownsRow base e size v' (k + m) (xs ++ news) → w.grownBy w' v.ownBlock → wpListIn F n P ops Q rest (a.put o.dst v') w') :
    wpListIn F n P ops Q (o :: rest) a w := by
  obtain ⟨ao, cap, rfl, hn, _, hl, hz, hc⟩ := hsrc
  cases ao with
  | some ad =>
    obtain ⟨b, off, rfl, _, _, hcs⟩ := hc ad rfl
    exact wpListIn_append_own w hg s x t hop base e i z size bytes h1 h2 h3 h4 h5 h6 h7 v k xs hs hown ⟨b, off, none⟩ m cap news hx hl (fun j u hu => by rw [addr_add]; exact hcs j u hu) h1c b1 b2 b3 (fun v' w' r1 r2 _ => hK v' w' r1 r2)
  | none =>
    obtain rfl : cap = 0 := hz rfl
    obtain rfl : m = 0 := by omega
    obtain rfl : news = [] := List.eq_nil_of_length_eq_zero (by omega)
    refine wpListIn_plain hg fun K hK' => ?_
    have hrun := run_append_owned_none (P := P) w base t o.type e i size h1 h2 v k xs hown
    unfold Oper.wpIn
    refine ⟨?_, ?_⟩
    · simp [Oper.about, hop, resolve, Target.leads, Sem.run_pure]
    · rw [Oper.semAt_plain F _ _ (by rw [hop]; intro c hc'; cases hc')]
      simp [execOp, hop, resolve, invoke, builtin, hs, hx, hrun, Result.andThen]
      exact hK' _ _ (hK v w (by simpa using hown) (World.grownBy.refl _ _))
end Go.Proofs.YtgngepbemgbbeaaGreatDoor

