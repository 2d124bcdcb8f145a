/- - -/
import Derived.Shelf.RegionOpen
import Derived.Test.YtlikmmpmnaaifaaGreatDoorZPl14
import Derived.Test.YtlikmmpmnaaifaaGreatDoorZPl19
import Derived.Test.YtlikmmpmnaaifaaGreatDoorZPt
import Derived.Test.YtlikmmpmnaaifaaGreatDoorZPl2
import Derived.Test.YtlikmmpmnaaifaaGreatDoorZPl4
import Derived.Test.YtlikmmpmnaaifaaGreatDoorZPlB
import Derived.Test.YtlikmmpmnaaifaaGreatDoorZAt
import Derived.Test.YtlikmmpmnaaifaaGreatDoorZBack
set_option maxHeartbeats 40000000
set_option maxRecDepth 1000000
namespace Go.Proofs.YtlikmmpmnaaifaaGreatDoor
open Go.RowKit Go.Shelf Go.Sort
attribute [local go_sem] Oper.semAt_some
def accO (r:Rc) (l:List PE):Option Rat:=(l.map (·.1)).foldl (hN_ r) (whO 0)
theorem aIL (r:Rc) (l:List PE) (x:PE):accO r (l++[x])=hN_ r (accO r l) x.1:=by simp[accO]
theorem aIM (r:Rc) (l:List PE):FO (accO r l):=by
 unfold accO
 generalize hk:l.map (·.1)=k
 clear hk
 have key:∀(k:List (Pl×Pl)) (c:Option Rat),FO c→FO (k.foldl (hN_ r) c):=by
  intro k
  induction k with
  | nil=>intro c hc;exact hc
  | cons x k ih=>
   intro c _
   refine ih _ ?_
   unfold hN_
   split
   ·exact FO.sub _ _
   ·exact FO.add _ _
 exact key k _ (cX_ (by decide) (by decide))
theorem zK_ (r:Rc) (ps:List Pl) (hv:∀p∈ps,vP p=true):accO r (cM_ ps hv)=bT_ ps r:=by
 unfold accO bT_
 rw[aBA]
theorem rX_ (a b:Pl) (r:Rc):FO (dR_ a b r):=by
 have key:∀(l:List (Option Rat)) (c:Option Rat),FO c→FO (sumO a b r l c):=by
  intro l
  induction l with
  | nil=>intro c hc;exact hc
  | cons s l ih=>
   intro c hc
   cases l with
   | nil=>exact hc
   | cons t l=>exact ih _ (FO.add _ _)
 unfold dR_
 split
 ·exact key _ _ (cX_ (by decide) (by decide))
 ·exact cX_ (by decide) (by decide)
theorem nO_ {S B0:Nat} {w4 W w6:World} {x y u v:Value} (hB:Below S w4 W) (hs:S+2≤W.heap.size) (h6:Below W.heap.size W w6) (c0:W.cell? ⟨S,0,none⟩=some x) (c1:W.cell? ⟨S,1,none⟩=some y)
  (f0:W.frozen? ⟨S,0,none⟩=false) (f1:W.frozen? ⟨S,1,none⟩=false) :
  KeepsFrom B0 W ((w6.setCell ⟨S,0,none⟩ u).setCell ⟨S,1,none⟩ v)∧aX_ S (S+1) W ((w6.setCell ⟨S,0,none⟩ u).setCell ⟨S,1,none⟩ v)∧
   ((((w6.setCell ⟨S,0,none⟩ u).setCell ⟨S,1,none⟩ v).cell? ⟨S,0,none⟩=some u∧((w6.setCell ⟨S,0,none⟩ u).setCell ⟨S,1,none⟩ v).cell? ⟨S,1,none⟩=some v)∧
     (((w6.setCell ⟨S,0,none⟩ u).setCell ⟨S,1,none⟩ v).frozen? ⟨S,0,none⟩=false∧((w6.setCell ⟨S,0,none⟩ u).setCell ⟨S,1,none⟩ v).frozen? ⟨S,1,none⟩=false)∧
     S+2≤((w6.setCell ⟨S,0,none⟩ u).setCell ⟨S,1,none⟩ v).heap.size)∧Below S w4 ((w6.setCell ⟨S,0,none⟩ u).setCell ⟨S,1,none⟩ v):=by
 have hlt:S<W.heap.size:=by omega
 have d0:=(h6.cell (p:=⟨S,0,none⟩) hlt).trans c0
 have d1:=(h6.cell (p:=⟨S,1,none⟩) hlt).trans c1
 have g0:=(h6.frozen (p:=⟨S,0,none⟩) hlt).trans f0
 have g1:=(h6.frozen (p:=⟨S,1,none⟩) hlt).trans f1
 have n1:(⟨S,0,none⟩:Addr)≠⟨S,1,none⟩:=fun e=>by have:=congrArg Addr.off e;simp at this
 refine⟨((aM_ h6).trans ((KeepsOthers.setCell _ _ _).trans (KeepsOthers.setCell _ _ _))).from _,?_,⟨⟨?_,?_⟩,⟨?_,?_⟩,?_⟩,?_⟩
 ·exact((aX_.of_below (n₀:=S) (Bs:=S+1) h6 (Nat.le_of_lt hlt) hs).setCell (p:=⟨S,0,none⟩) (Nat.le_refl _) (by show S+1≠S;omega) _).setCell (p:=⟨S,1,none⟩) (Nat.le_refl _) (by show S+1≠S;omega) _
 ·rw[World.cell?_setCell_other _ _ _ _ n1.symm]
  exact World.cell?_setCell_same _ _ _ d0
 ·exact World.cell?_setCell_same _ _ _ ((World.cell?_setCell_other _ _ _ _ n1).trans d1)
 ·simpa[go_sem] using g0
 ·simpa[go_sem] using g1
 ·have:=h6.size
  simp
  omega
 ·exact((hB.trans (h6.mono (by omega))).setCell (p:=⟨S,0,none⟩) (Nat.le_refl _) _).setCell (p:=⟨S,1,none⟩) (Nat.le_refl _) _
end Go.Proofs.YtlikmmpmnaaifaaGreatDoor
