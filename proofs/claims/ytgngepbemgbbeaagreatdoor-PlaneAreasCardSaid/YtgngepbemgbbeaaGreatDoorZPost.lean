/-
  From a law's walk to its row's statement: what a law over strings and numbers leaves; the witness's world.
-/
import Derived.Test.YtgngepbemgbbeaaGreatDoorCards
import Derived.Test.YtgngepbemgbbeaaGreatDoorTie
import Derived.ProofKit
import Derived.OpenShut
import Derived.Deep.DeepHandedRow
import Derived.Lib.LaidTab
import Derived.Lay
import Derived.Test.YtgngepbemgbbeaaGreatDoorZAt
namespace Go.Proofs.YtgngepbemgbbeaaGreatDoor
open Go.ChangeShapes Go.WideShapes Go.ChangeAt Go.RowKit
open Go.ChangeMaps (open_string shut_string)

/-- A call whose arguments lie in no place: it answers, and leaves what lay. -/
theorem post_plain {H : Type} {enc : TypeId × Value → H} {P : Program} {f : Func} {s : ChangeSpec} {apart fresh handsOn again : Bool} {W W' : World} {args : Array Value} {v : Value} {ds gs : List (DataW H)}
    (hW : DataW.Whole enc P f.params.toList s.vars apart W args.toList ds gs [])
    (hres : ∀ (b : Nat) (sp : Nat → Bool) (hd : Bool), DataW.TrodAll enc P W' b sp hd f.resultTypes.toList (v.resultList f.resultTypes.size) (s.fn H (ds ++ gs)).results [])
    (hargs : ∀ sp : Nat → Bool, DataW.TrodAll enc P W' 0 sp true f.params.toList args.toList (s.fn H (ds ++ gs)).args [])
    (hvars : ∀ sp : Nat → Bool, DataW.TrodVars enc P W' sp s.vars (s.fn H (ds ++ gs)).vars [])
    (hb : Below W.heap.size W W')
    (hok : ∀ (j : Nat) (t : TypeId) (r : Value), f.resultTypes[j]? = some t → (v.resultList f.resultTypes.size)[j]? = some r → Value.okWide P W' .any 0 t r) :
    s.post enc P f apart fresh handsOn again W args v W' :=
  ⟨ds, gs, [], [], [], [], hW, hres _ _ _, hargs _, hvars _, World.keptBut_mono (fun _ h => (List.not_mem_nil h).elim) (hb.frame (· ∈ ([] : List MemPlace))), fun _ =>
    ⟨hok, _, _, [], ⟨[], [], trodAll_append (hargs _) (hres _ _ _), hvars _, rfl, fun _ _ h => (List.not_mem_nil h).elim, fun _ => List.nodup_nil⟩, fun _ h _ => (List.not_mem_nil h).elim⟩⟩

theorem own : ownKnob Tryz.prog.godebug = none := by kernel_rfl
/-- The variables that the rows list. -/
def laidAll : List (String × DataW Unit) := Rows.planeSidesRow.laid
theorem pow_kept : (laidAll.filter fun x => x.1 == "internal/strconv.uint64pow10") = [("internal/strconv.uint64pow10", Rows.laid_internal_strconv_uint64pow10)] := by kernel_rfl
theorem gPow : Tryz.prog.globalNamed "internal/strconv.uint64pow10" = some 0 := by kernel_rfl
theorem gPowT : (Tryz.prog.globals[0]?).map (·.type) = some 240 := by kernel_rfl
theorem cellsPow : Tryz.prog.cellsOf 240 = 20 := by kernel_rfl
theorem cellsU64 : Tryz.prog.cellsOf 150 = 1 := by kernel_rfl
/-- What the rows' list gives. -/
theorem glob_of {W : World} (h : laidMetH Tryz.prog laidAll W) : Glob W := by
  have h1 := h.filter fun x => x.1 == "internal/strconv.uint64pow10"
  rw [pow_kept] at h1
  exact ⟨Lib.tabIs_of_head (rest := []) gPow gPowT Tryz.underlying240 Tryz.underlying150 cellsU64 cellsPow h1⟩

/-- A world for the witness: the settled one, the listed variables holding what their initialisers lay. -/
def laidNames : List String := laidAll.map (·.1)
noncomputable def laidWorld (os : Os) : World := (World.holding Tryz.prog os ⟨#[], #[], []⟩).layVars Tryz.prog (laidAll.filter fun x => laidNames.contains x.1)
theorem laid_met (os : Os) (args : Array Value) : laidMet Tryz.prog laidAll ((laidWorld os).forCall (fun _ _ => 0) ⟨#[], args, []⟩).memory :=
  laidMet_layVars (w0 := World.holding Tryz.prog os ⟨#[], #[], []⟩) laidNames [] (by kernel_rfl) (by kernel_rfl) (by kernel_rfl) (by
    have : (laidAll.filter fun x => !laidNames.contains x.1) = [] := by kernel_rfl
    rw [this]
    exact LaidIn.none)
end Go.Proofs.YtgngepbemgbbeaaGreatDoor

