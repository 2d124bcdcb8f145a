/- - -/
import Derived.Deep.RegionLaw
import Derived.Test.YtjfdefglpoancaaGreatDoorZPt
import Derived.Test.YtjfdefglpoancaaGreatDoorZOut
import Derived.Test.YtjfdefglpoancaaGreatDoorZSg
set_option maxHeartbeats 40000000
set_option maxRecDepth 1000000
namespace Go.Proofs.YtjfdefglpoancaaGreatDoor
open Go.RowKit Go.Shelf Go.Sort
attribute [local go_sem] Oper.semAt_some
theorem fD_ {ps:List Pl} (hv:fewB ps=true):∀q∈ps,vP q=true:=by
 unfold fewB at hv
 simp only[Bool.and_eq_true] at hv
 exact List.all_eq_true.1 hv.2
theorem dI_ {ps:List Pl} (hv:fewB ps=true):1≤ps.length∧ps.length≤40:=by
 unfold fewB at hv
 simp only[Bool.and_eq_true,decide_eq_true_eq] at hv
 exact hv.1
theorem sP_len {ps:List Pl} (hv:fewB ps=true):1≤(sP ps).length∧(sP ps).length≤ps.length:=by
 have hall:=fD_ hv
 have hl:=dI_ hv
 obtain⟨a1,a2⟩:=jI_ hall
 refine⟨?_,?_⟩
 ·cases ps with
  | nil=>simp at hl
  | cons x l=>exact List.length_pos_of_mem ((a2 x).2 (by simp))
 ·have:=pO_ (cD_ ltP ps)
  rw[fI_] at this
  exact this
theorem OzAt.lit0 {R:List (Nat×List Value)} {w W:World} (h:AzAt R w W):OzAt 26 (.slice (some ⟨W.heap.size,0,none⟩) 0 0) 0 (plC []) R w (W.alloc (.cells #[] 26)):=OzAt.lit h [] 26 0 rfl (by omega)
end Go.Proofs.YtjfdefglpoancaaGreatDoor
