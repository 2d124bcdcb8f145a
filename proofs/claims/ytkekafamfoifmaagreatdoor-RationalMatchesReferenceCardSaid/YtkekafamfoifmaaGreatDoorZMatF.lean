/-
  What package rational and its reference implementation answer of the same texts, under common names.
-/
import Derived.Test.YtkekafamfoifmaaGreatDoorZPrs
import Derived.Test.YtkekafamfoifmaaGreatDoorZFqP
import Derived.Test.YtkekafamfoifmaaGreatDoorZFqO
import Derived.Test.YtkekafamfoifmaaGreatDoorZFqG
import Derived.Test.YtkekafamfoifmaaGreatDoorZRat
namespace Go.Proofs.YtkekafamfoifmaaGreatDoor
open Go.RowKit Go.Shelf

/-- The four operations and Compare, of two fractions. -/
structure MatP (w : World) (n1 d1 n2 d2 : ByteArray) (T : Nat → ByteArray) (K : Nat → Int) : Prop where
  four : ∀ W, Below w.heap.size w W → Calls Tryz.prog 29 #[.agg #[.string (n1), .string (d1)], .agg #[.string (n2), .string (d2)]] W fun e W' => e = .returned (.tuple #[.agg #[.string (T 0), .string (T 1), .string (T 2), .string (T 3), .string (T 4), .string (T 5), .string (T 6), .string (T 7)], .agg #[.int .i64 (K 0), .int .i64 (K 1), .int .i64 (K 2), .int .i64 (K 3)]]) ∧ Below W.heap.size W W'
  add : ∀ W, Calls Tryz.prog 30 #[.agg #[.string (n1), .string (d1)], .agg #[.string (n2), .string (d2)]] W fun e W' => e = .returned (.tuple #[.agg #[.string (T 0), .string (T 1)], .int .i64 (K 0)]) ∧ Below W.heap.size W W'
  sub : ∀ W, Calls Tryz.prog 31 #[.agg #[.string (n1), .string (d1)], .agg #[.string (n2), .string (d2)]] W fun e W' => e = .returned (.tuple #[.agg #[.string (T 2), .string (T 3)], .int .i64 (K 1)]) ∧ Below W.heap.size W W'
  mul : ∀ W, Calls Tryz.prog 32 #[.agg #[.string (n1), .string (d1)], .agg #[.string (n2), .string (d2)]] W fun e W' => e = .returned (.tuple #[.agg #[.string (T 4), .string (T 5)], .int .i64 (K 2)]) ∧ Below W.heap.size W W'
  div : ∀ W, Calls Tryz.prog 33 #[.agg #[.string (n1), .string (d1)], .agg #[.string (n2), .string (d2)]] W fun e W' => e = .returned (.tuple #[.agg #[.string (T 6), .string (T 7)], .int .i64 (K 3)]) ∧ Below W.heap.size W W'
  cmp : ∀ W, Below w.heap.size w W → Calls Tryz.prog 23 #[.agg #[.string (n1), .string (d1)], .agg #[.string (n2), .string (d2)]] W fun e W' => e = .returned (.int .i64 (K 4)) ∧ Below W.heap.size W W'
  rcmp : ∀ W, Calls Tryz.prog 34 #[.agg #[.string (n1), .string (d1)], .agg #[.string (n2), .string (d2)]] W fun e W' => e = .returned (.int .i64 (K 4)) ∧ Below W.heap.size W W'
theorem mat_facts {w : World} (hq : QOps w) {n1 d1 n2 d2 : ByteArray} (z1 : Sz n1) (z2 : Sz d1) (z3 : Sz n2) (z4 : Sz d2) : ∃ T K, MatP w n1 d1 n2 d2 T K :=
  ⟨fun i => ([qN (op2 addR n1 d1 n2 d2), qD (op2 addR n1 d1 n2 d2), qN (op2 subR n1 d1 n2 d2), qD (op2 subR n1 d1 n2 d2), qN (op2 mulR n1 d1 n2 d2), qD (op2 mulR n1 d1 n2 d2), qN (op2 divR n1 d1 n2 d2), qD (op2 divR n1 d1 n2 d2)] : List ByteArray).getD i ⟨#[]⟩, fun i => ([qE (op2 addR n1 d1 n2 d2), qE (op2 subR n1 d1 n2 d2), qE (op2 mulR n1 d1 n2 d2), qE (op2 divR n1 d1 n2 d2), cmpS n1 d1 n2 d2] : List Int).getD i 0,
    fun W hk => four_w W (fun _ hv => Add_q ((hq.below hk).below hv).io z1 z2 z3 z4) (fun _ hv => Sub_q ((hq.below hk).below hv).io z1 z2 z3 z4) (fun _ hv => Mul_q ((hq.below hk).below hv).io z1 z2 z3 z4) (fun _ hv => Div_q ((hq.below hk).below hv).io z1 z2 z3 z4),
    fun W => Add_f z1 z2 z3 z4 W, fun W => Sub_f z1 z2 z3 z4 W, fun W => Mul_f z1 z2 z3 z4 W, fun W => Div_f z1 z2 z3 z4 W, fun _ hk => RCompare_q (hq.below hk).io z1 z2 z3 z4, fun W => Compare_f z1 z2 z3 z4 W⟩
/-- Down and Up, of a fraction and places. -/
structure GrdP (w : World) (n d : ByteArray) (k : Int) (T : Nat → ByteArray) (K : Nat → Int) : Prop where
  down : ∀ W, Below w.heap.size w W → Calls Tryz.prog 35 #[.agg #[.string (n), .string (d)], .int .i64 k] W fun e W' => e = .returned (.tuple #[.agg #[.string (T 0), .string (T 1)], .int .i64 (K 0)]) ∧ Below W.heap.size W W'
  rdown : ∀ W, Calls Tryz.prog 36 #[.agg #[.string (n), .string (d)], .int .i64 k] W fun e W' => e = .returned (.tuple #[.agg #[.string (T 0), .string (T 1)], .int .i64 (K 0)]) ∧ Below W.heap.size W W'
  up : ∀ W, Below w.heap.size w W → Calls Tryz.prog 37 #[.agg #[.string (n), .string (d)], .int .i64 k] W fun e W' => e = .returned (.tuple #[.agg #[.string (T 2), .string (T 3)], .int .i64 (K 1)]) ∧ Below W.heap.size W W'
  rup : ∀ W, Calls Tryz.prog 38 #[.agg #[.string (n), .string (d)], .int .i64 k] W fun e W' => e = .returned (.tuple #[.agg #[.string (T 2), .string (T 3)], .int .i64 (K 1)]) ∧ Below W.heap.size W W'
theorem grd_facts {w : World} (hq : QOps w) {n d : ByteArray} {k : Int} (z1 : Sz n) (z2 : Sz d) (k1 : -9223372036854775808 ≤ k) (k2 : k ≤ 9223372036854775807) : ∃ T K, GrdP w n d k T K :=
  ⟨fun i => ([qN (gridS downR n d k), qD (gridS downR n d k), qN (gridS upR n d k), qD (gridS upR n d k)] : List ByteArray).getD i ⟨#[]⟩, fun i => ([qE (gridS downR n d k), qE (gridS upR n d k)] : List Int).getD i 0,
    fun _ hk => Down_q (hq.below hk).io z1 z2 k1 k2, fun W => Down_f z1 z2 k1 k2 W, fun _ hk => Up_q (hq.below hk).io z1 z2 k1 k2, fun W => Up_f z1 z2 k1 k2 W⟩
/-- Make, of two texts, and Valid, of two texts. -/
structure MakP (w : World) (n d : ByteArray) (T : Nat → ByteArray) (K : Nat → Int) : Prop where
  make : ∀ W, Below w.heap.size w W → Calls Tryz.prog 22 #[.string n, .string d] W fun e W' => e = .returned (.tuple #[.agg #[.string (T 0), .string (T 1)], .int .i64 (K 0)]) ∧ Below W.heap.size W W'
  rmake : ∀ W, Calls Tryz.prog 39 #[.string n, .string d] W fun e W' => e = .returned (.tuple #[.agg #[.string (T 0), .string (T 1)], .int .i64 (K 0)]) ∧ Below W.heap.size W W'
theorem mak_facts {w : World} (hq : QOps w) {n d : ByteArray} (z1 : Sz n) (z2 : Sz d) : ∃ T K, MakP w n d T K :=
  ⟨fun i => ([qN (makeS n d), qD (makeS n d)] : List ByteArray).getD i ⟨#[]⟩, fun i => ([qE (makeS n d)] : List Int).getD i 0, fun _ hk => Make_q (hq.below hk).io z1 z2, fun W => Make_f z1 z2 W⟩
structure VldP (w : World) (n d : ByteArray) (b : Bool) : Prop where
  vld : ∀ W, Below w.heap.size w W → Calls Tryz.prog 17 #[.agg #[.string (n), .string (d)]] W fun e W' => e = .returned (.bool b) ∧ Below W.heap.size W W'
  rvld : ∀ W, Calls Tryz.prog 40 #[.agg #[.string (n), .string (d)]] W fun e W' => e = .returned (.bool b) ∧ Below W.heap.size W W'
theorem vld_facts {w : World} (hq : QOps w) {n d : ByteArray} (z1 : Sz n) (z2 : Sz d) : ∃ b, VldP w n d b :=
  ⟨_, fun _ hk => Valid_q z1 z2 (hq.below hk).io, fun W => Valid_f z1 z2 W⟩
/-- Of, of two integers. -/
structure OfP (w : World) (n d : Int) (T : Nat → ByteArray) (K : Nat → Int) : Prop where
  of : ∀ W, Below w.heap.size w W → Calls Tryz.prog 41 #[.int .i64 n, .int .i64 d] W fun e W' => e = .returned (.tuple #[.agg #[.string (T 0), .string (T 1)], .int .i64 (K 0)]) ∧ Below W.heap.size W W'
  rof : ∀ W, Calls Tryz.prog 42 #[.int .i64 n, .int .i64 d] W fun e W' => e = .returned (.tuple #[.agg #[.string (T 0), .string (T 1)], .int .i64 (K 0)]) ∧ Below W.heap.size W W'
theorem of_facts {w : World} (hq : QOps w) {n d : Int} (n1 : -9223372036854775808 ≤ n) (n2 : n ≤ 9223372036854775807) (d1 : -9223372036854775808 ≤ d) (d2 : d ≤ 9223372036854775807) : ∃ T K, OfP w n d T K :=
  ⟨fun i => ([qN (makeR n d), qD (makeR n d)] : List ByteArray).getD i ⟨#[]⟩, fun i => ([qE (makeR n d)] : List Int).getD i 0, fun _ hk => Of_q (hq.below hk).io (hq.below hk).fr n1 n2 d1 d2, fun W => Of_f n1 n2 d1 d2 W⟩
end Go.Proofs.YtkekafamfoifmaaGreatDoor

