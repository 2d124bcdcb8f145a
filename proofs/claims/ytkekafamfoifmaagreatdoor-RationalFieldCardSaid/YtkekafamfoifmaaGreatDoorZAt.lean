/-
  The exported functions' contracts, at any world behind a first one, over texts by name; and what sane answers.
  From a law's walk to its row's statement: what a law over strings and numbers leaves; the witness's world.
-/
import Derived.Test.YtkekafamfoifmaaGreatDoorCards
import Derived.Test.YtkekafamfoifmaaGreatDoorTie
import Derived.ProofKit
import Derived.OpenShut
import Derived.Deep.DeepHandedRow
import Derived.Lib.LaidTab
import Derived.Lay
import Derived.Test.YtkekafamfoifmaaGreatDoorZOut
import Derived.Test.YtkekafamfoifmaaGreatDoorZMade
namespace Go.Proofs.YtkekafamfoifmaaGreatDoor
open Go.RowKit Go.Shelf
attribute [local go_sem] Oper.semAt_some

theorem str_list_ne {x y : Int} {sx sy : ByteArray} (ex : sx = str x) (ey : sy = str y) (h : x ≠ y) : ¬ sx.toList = sy.toList := by
  subst ex ey
  intro hh
  rw [Lib.toList_data, Lib.toList_data, str_list, str_list] at hh
  exact h (txt_inj hh)
theorem beq_ne {a b : List UInt8} (h : ¬ a = b) : (a == b) = false := by simpa using h
theorem outZ_small {z : Int} {s : ByteArray} {n : Int} (hs : small z = true) (h : outZ z = #[.string s, .int .i64 n]) : s = str z ∧ n = 0 := by
  unfold outZ at h
  rw [if_pos hs] at h
  simp only [Array.mk.injEq, List.cons.injEq, Value.string.injEq, Value.int.injEq, true_and, and_true] at h
  exact ⟨h.1.symm, h.2.symm⟩
theorem outZ_great {z : Int} {s : ByteArray} {n : Int} (hs : small z = false) (h : outZ z = #[.string s, .int .i64 n]) : s = ⟨#[]⟩ ∧ n = 30 := by
  unfold outZ at h
  rw [if_neg (by rw [hs]; simp)] at h
  simp only [Array.mk.injEq, List.cons.injEq, Value.string.injEq, Value.int.injEq, true_and, and_true] at h
  exact ⟨h.1.symm, h.2.symm⟩
theorem small_size {x : Int} (h : small x = true) : (str x).size ≤ 9223372036854775807 := by
  rw [str_size]
  have := txt_length x
  have : nDig x.natAbs ≤ 200 := by simpa [small] using h
  omega

theorem Add_s {w : World} (hG : Glob w) {x y : Int} {sx sy so : ByteArray} (hx : small x = true) (hy : small y = true) (ex : sx = str x) (ey : sy = str y) (hs : small (x + y) = true) (eo : so = str (x + y)) (W : World) (hk : Below w.heap.size w W) :
    Calls Tryz.prog 62 #[.string sx, .string sy] W fun e W' => e = .returned (.tuple #[.string so, .int .i64 0]) ∧ Below w.heap.size w W' := by
  subst ex ey eo
  refine (Add_ok x y W (hG.below hk) hx hy).mono ?_
  rintro e w' ⟨⟨s, n, h1, rfl⟩, hb⟩
  obtain ⟨rfl, rfl⟩ := outZ_small hs h1
  exact ⟨rfl, hk.trans (hb.mono hk.size)⟩
theorem Add_g {w : World} (hG : Glob w) {x y : Int} {sx sy : ByteArray} (hx : small x = true) (hy : small y = true) (ex : sx = str x) (ey : sy = str y) (hs : small (x + y) = false) (W : World) (hk : Below w.heap.size w W) :
    Calls Tryz.prog 62 #[.string sx, .string sy] W fun e W' => e = .returned (.tuple #[.string ⟨#[]⟩, .int .i64 30]) ∧ Below w.heap.size w W' := by
  subst ex ey
  refine (Add_ok x y W (hG.below hk) hx hy).mono ?_
  rintro e w' ⟨⟨s, n, h1, rfl⟩, hb⟩
  obtain ⟨rfl, rfl⟩ := outZ_great hs h1
  exact ⟨rfl, hk.trans (hb.mono hk.size)⟩
theorem Sub_s {w : World} (hG : Glob w) {x y : Int} {sx sy so : ByteArray} (hx : small x = true) (hy : small y = true) (ex : sx = str x) (ey : sy = str y) (hs : small (x - y) = true) (eo : so = str (x - y)) (W : World) (hk : Below w.heap.size w W) :
    Calls Tryz.prog 73 #[.string sx, .string sy] W fun e W' => e = .returned (.tuple #[.string so, .int .i64 0]) ∧ Below w.heap.size w W' := by
  subst ex ey eo
  refine (Sub_ok x y W (hG.below hk) hx hy).mono ?_
  rintro e w' ⟨⟨s, n, h1, rfl⟩, hb⟩
  obtain ⟨rfl, rfl⟩ := outZ_small hs h1
  exact ⟨rfl, hk.trans (hb.mono hk.size)⟩
theorem Sub_g {w : World} (hG : Glob w) {x y : Int} {sx sy : ByteArray} (hx : small x = true) (hy : small y = true) (ex : sx = str x) (ey : sy = str y) (hs : small (x - y) = false) (W : World) (hk : Below w.heap.size w W) :
    Calls Tryz.prog 73 #[.string sx, .string sy] W fun e W' => e = .returned (.tuple #[.string ⟨#[]⟩, .int .i64 30]) ∧ Below w.heap.size w W' := by
  subst ex ey
  refine (Sub_ok x y W (hG.below hk) hx hy).mono ?_
  rintro e w' ⟨⟨s, n, h1, rfl⟩, hb⟩
  obtain ⟨rfl, rfl⟩ := outZ_great hs h1
  exact ⟨rfl, hk.trans (hb.mono hk.size)⟩
theorem Mul_s {w : World} (hG : Glob w) {x y : Int} {sx sy so : ByteArray} (hx : small x = true) (hy : small y = true) (ex : sx = str x) (ey : sy = str y) (hs : small (x * y) = true) (eo : so = str (x * y)) (W : World) (hk : Below w.heap.size w W) :
    Calls Tryz.prog 89 #[.string sx, .string sy] W fun e W' => e = .returned (.tuple #[.string so, .int .i64 0]) ∧ Below w.heap.size w W' := by
  subst ex ey eo
  refine (Mul_ok x y W (hG.below hk) hx hy).mono ?_
  rintro e w' ⟨⟨s, n, h1, rfl⟩, hb⟩
  obtain ⟨rfl, rfl⟩ := outZ_small hs h1
  exact ⟨rfl, hk.trans (hb.mono hk.size)⟩
theorem Mul_g {w : World} (hG : Glob w) {x y : Int} {sx sy : ByteArray} (hx : small x = true) (hy : small y = true) (ex : sx = str x) (ey : sy = str y) (hs : small (x * y) = false) (W : World) (hk : Below w.heap.size w W) :
    Calls Tryz.prog 89 #[.string sx, .string sy] W fun e W' => e = .returned (.tuple #[.string ⟨#[]⟩, .int .i64 30]) ∧ Below w.heap.size w W' := by
  subst ex ey
  refine (Mul_ok x y W (hG.below hk) hx hy).mono ?_
  rintro e w' ⟨⟨s, n, h1, rfl⟩, hb⟩
  obtain ⟨rfl, rfl⟩ := outZ_great hs h1
  exact ⟨rfl, hk.trans (hb.mono hk.size)⟩
theorem Div_s {w : World} (hG : Glob w) {x y : Int} {sx sy : ByteArray} (hx : small x = true) (hy : small y = true) (ex : sx = str x) (ey : sy = str y) {sq sr : ByteArray} (hy0 : y ≠ 0) (eq : sq = str (x / y)) (er : sr = str (x % y)) (W : World) (hk : Below w.heap.size w W) :
    Calls Tryz.prog 58 #[.string sx, .string sy] W fun e W' => e = .returned (.tuple #[.string sq, .string sr, .int .i64 0]) ∧ Below w.heap.size w W' := by
  subst ex ey eq er
  refine (Div_ok x y W (hG.below hk) hx hy hy0).mono ?_
  rintro e w' ⟨rfl, hb⟩
  exact ⟨rfl, hk.trans (hb.mono hk.size)⟩
theorem Div_z {w : World} (hG : Glob w) {x : Int} {sx sy : ByteArray} (hx : small x = true) (ex : sx = str x) (ez : sy = str 0) (W : World) (hk : Below w.heap.size w W) :
    Calls Tryz.prog 58 #[.string sx, .string sy] W fun e W' => e = .returned (.tuple #[.string ⟨#[]⟩, .string ⟨#[]⟩, .int .i64 30]) ∧ Below w.heap.size w W' := by
  subst ex ez
  refine (Div_zero x W (hG.below hk) hx).mono ?_
  rintro e w' ⟨rfl, hb⟩
  exact ⟨rfl, hk.trans (hb.mono hk.size)⟩
theorem Gcd_s {w : World} (hG : Glob w) {x y : Int} {sx sy so : ByteArray} (hx : small x = true) (hy : small y = true) (ex : sx = str x) (ey : sy = str y) (eo : so = str ((Nat.gcd x.natAbs y.natAbs : Nat) : Int)) (W : World) (hk : Below w.heap.size w W) :
    Calls Tryz.prog 51 #[.string sx, .string sy] W fun e W' => e = .returned (.tuple #[.string so, .int .i64 0]) ∧ Below w.heap.size w W' := by
  subst ex ey eo
  have hs : small ((Nat.gcd x.natAbs y.natAbs : Nat) : Int) = true := by
    rcases Nat.eq_zero_or_pos x.natAbs with h | h
    · rw [h, Nat.gcd_zero_left]
      exact small_le hy (by omega)
    · exact small_le hx (by have := Nat.gcd_le_left y.natAbs h; omega)
  refine (Gcd_ok x y W (hG.below hk) hx hy).mono ?_
  rintro e w' ⟨⟨s, n, h1, rfl⟩, hb⟩
  obtain ⟨rfl, rfl⟩ := outZ_small hs h1
  exact ⟨rfl, hk.trans (hb.mono hk.size)⟩
theorem sq_lt_uniq {s r X : Nat} (h1 : s * s ≤ X) (h2 : X < (s + 1) * (s + 1)) (h3 : r * r ≤ X) (h4 : X < (r + 1) * (r + 1)) : s = r := by
  rcases Nat.lt_trichotomy s r with h | h | h
  · have := Nat.mul_le_mul (show s + 1 ≤ r from h) (show s + 1 ≤ r from h); omega
  · exact h
  · have := Nat.mul_le_mul (show r + 1 ≤ s from h) (show r + 1 ≤ s from h); omega
theorem Compare_s {w : World} {x y : Int} {sx sy : ByteArray} (hx : small x = true) (hy : small y = true) (ex : sx = str x) (ey : sy = str y) (W : World) (hk : Below w.heap.size w W) :
    Calls Tryz.prog 50 #[.string sx, .string sy] W fun e W' => e = .returned (.int .i64 (cmpI x y)) ∧ Below w.heap.size w W' := by
  subst ex ey
  refine (Compare_ok x y W hx hy).mono ?_
  rintro e w' ⟨rfl, hb⟩
  exact ⟨rfl, hk.trans (hb.mono hk.size)⟩
theorem Valid_s {w : World} {s : ByteArray} {b : Bool} (hs : s.size ≤ 9223372036854775807) (hb : validL s.data.toList = b) (W : World) (hk : Below w.heap.size w W) :
    Calls Tryz.prog 49 #[.string s] W fun e W' => e = .returned (.bool b) ∧ Below w.heap.size w W' := by
  refine (Valid_any s W hs).mono ?_
  rintro e w' ⟨rfl, h⟩
  rw [numOf_valid, hb]
  exact ⟨rfl, hk.trans (h.mono hk.size)⟩
/-- An integer of at most k digits. -/
def Bd (z : Int) (k : Nat) : Prop := z.natAbs < 10 ^ k
theorem Bd.mono {z : Int} {k l : Nat} (h : Bd z k) (hk : k ≤ l) : Bd z l := Nat.lt_of_lt_of_le h (Nat.pow_le_pow_right (by omega) hk)
theorem Bd.small {z : Int} {k : Nat} (h : Bd z k) (hk : k ≤ 200) : small z = true := by
  unfold Go.Proofs.YtkekafamfoifmaaGreatDoor.small
  exact decide_eq_true ((nDig_le (by omega)).2 (h.mono hk))
theorem Bd.add {x y : Int} {k l : Nat} (hx : Bd x k) (hy : Bd y l) : Bd (x + y) (max k l + 1) := by
  have h1 := hx.mono (Nat.le_max_left k l)
  have h2 := hy.mono (Nat.le_max_right k l)
  unfold Bd at h1 h2 ⊢
  rw [Nat.pow_succ]
  omega
theorem Bd.neg {x : Int} {k : Nat} (hx : Bd x k) : Bd (-x) k := by unfold Bd at *; omega
theorem Bd.sub {x y : Int} {k l : Nat} (hx : Bd x k) (hy : Bd y l) : Bd (x - y) (max k l + 1) := by
  rw [Int.sub_eq_add_neg]
  exact hx.add hy.neg
theorem Bd.mul {x y : Int} {k l : Nat} (hx : Bd x k) (hy : Bd y l) : Bd (x * y) (k + l) := by
  unfold Bd at *
  rw [Int.natAbs_mul, Nat.pow_add]
  exact Nat.mul_lt_mul'' hx hy
theorem Bd.le {x y : Int} {k : Nat} (hx : Bd x k) (h : y.natAbs ≤ x.natAbs) : Bd y k := Nat.lt_of_le_of_lt h hx
theorem made_bd (l : List UInt8) (k : Nat) (h : 0 < k) : Bd (madeZ l k) k := (nDig_le h).1 (made_small l k h)
end Go.Proofs.YtkekafamfoifmaaGreatDoor

namespace Go.Proofs.YtkekafamfoifmaaGreatDoor
open Go.ChangeShapes Go.WideShapes Go.ChangeAt Go.RowKit
open Go.ChangeMaps (open_string shut_string)

/-- A call whose arguments lie in no place: it answers, and leaves what lay. -/
theorem post_plain {H : Type} {enc : TypeId × Value → H} {P : Program} {f : Func} {s : ChangeSpec} {apart fresh handsOn again : Bool} {W W' : World} {args : Array Value} {v : Value} {ds gs : List (DataW H)}
    (hW : DataW.Whole enc P f.params.toList s.vars apart W args.toList ds gs [])
    (hres : ∀ (b : Nat) (sp : Nat → Bool) (hd : Bool), DataW.TrodAll enc P W' b sp hd f.resultTypes.toList (v.resultList f.resultTypes.size) (s.fn H (ds ++ gs)).results [])
    (hargs : ∀ sp : Nat → Bool, DataW.TrodAll enc P W' 0 sp true f.params.toList args.toList (s.fn H (ds ++ gs)).args [])
    (hvars : ∀ sp : Nat → Bool, DataW.TrodVars enc P W' sp s.vars (s.fn H (ds ++ gs)).vars [])
    (hb : Below W.heap.size W W')
    (hok : ∀ (j : Nat) (t : TypeId) (r : Value), f.resultTypes[j]? = some t → (v.resultList f.resultTypes.size)[j]? = some r → Value.okWide P W' .any 0 t r) :
    s.post enc P f apart fresh handsOn again W args v W' :=
  ⟨ds, gs, [], [], [], [], hW, hres _ _ _, hargs _, hvars _, World.keptBut_mono (fun _ h => (List.not_mem_nil h).elim) (hb.frame (· ∈ ([] : List MemPlace))), fun _ =>
    ⟨hok, _, _, [], ⟨[], [], trodAll_append (hargs _) (hres _ _ _), hvars _, rfl, fun _ _ h => (List.not_mem_nil h).elim, fun _ => List.nodup_nil⟩, fun _ h _ => (List.not_mem_nil h).elim⟩⟩

theorem own : ownKnob Tryz.prog.godebug = none := by kernel_rfl
/-- The variables that the rows list. -/
def laidAll : List (String × DataW Unit) := Rows.rationalFieldRow.laid
theorem pow_kept : (laidAll.filter fun x => x.1 == "internal/strconv.uint64pow10") = [("internal/strconv.uint64pow10", Rows.laid_internal_strconv_uint64pow10)] := by kernel_rfl
theorem gPow : Tryz.prog.globalNamed "internal/strconv.uint64pow10" = some 1 := by kernel_rfl
theorem gPowT : (Tryz.prog.globals[1]?).map (·.type) = some 169 := by kernel_rfl
theorem cellsPow : Tryz.prog.cellsOf 169 = 20 := by kernel_rfl
theorem cellsU64 : Tryz.prog.cellsOf 146 = 1 := by kernel_rfl
/-- What the rows' list gives. -/
theorem glob_of {W : World} (h : laidMetH Tryz.prog laidAll W) : Glob W := by
  have h1 := h.filter fun x => x.1 == "internal/strconv.uint64pow10"
  rw [pow_kept] at h1
  exact ⟨Lib.tabIs_of_head (rest := []) gPow gPowT Tryz.underlying169 Tryz.underlying146 cellsU64 cellsPow h1⟩

/-- A world for the witness: the settled one, the listed variables holding what their initialisers lay. -/
def laidNames : List String := laidAll.map (·.1)
noncomputable def laidWorld (os : Os) : World := (World.holding Tryz.prog os ⟨#[], #[], []⟩).layVars Tryz.prog (laidAll.filter fun x => laidNames.contains x.1)
theorem laid_met (os : Os) (args : Array Value) : laidMet Tryz.prog laidAll ((laidWorld os).forCall (fun _ _ => 0) ⟨#[], args, []⟩).memory :=
  laidMet_layVars (w0 := World.holding Tryz.prog os ⟨#[], #[], []⟩) laidNames [] (by kernel_rfl) (by kernel_rfl) (by kernel_rfl) (by
    have : (laidAll.filter fun x => !laidNames.contains x.1) = [] := by kernel_rfl
    rw [this]
    exact LaidIn.none)
end Go.Proofs.YtkekafamfoifmaaGreatDoor

