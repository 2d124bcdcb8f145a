/- - -/
import Derived.Carry
import Derived.Deep.Slices
import Derived.Test.YtjfdefglpoancaaGreatDoorZPost
import Derived.Test.YtjfdefglpoancaaGreatDoorZPv
set_option maxHeartbeats 40000000
set_option maxRecDepth 1000000
namespace Go.Proofs.YtjfdefglpoancaaGreatDoor
open Go.ChangeShapes Go.WideShapes Go.ChangeAt Go.RowKit
open Go.ChangeMaps (open_string shut_string)
theorem iU_:laidOutB Tryz.prog=true:=by kernel_rfl
theorem aJO {H:Type} {enc:TypeId×Value→H} {P:Program} {f:Func} {s:ChangeSpec} {apart fresh handsOn:Bool} {W W':World} {args:Array Value} {v:Value} {ds gs:List (DataW H)} {before pa:List MemPlace}
  (hW:DataW.Whole enc P f.params.toList s.vars apart W args.toList ds gs before)
  (hres:∀(b:Nat) (sp:Nat→Bool) (hd:Bool),DataW.TrodAll enc P W' b sp hd f.resultTypes.toList (v.resultList f.resultTypes.size) (s.fn H (ds++gs)).results [])
  (hargs:DataW.TrodAll enc P W' 0 (fun b=>decide (b<W.heap.size)) true f.params.toList args.toList (s.fn H (ds++gs)).args pa)
  (hvars:DataW.TrodVars enc P W' (fun b=>decide (b<W.heap.size)) s.vars (s.fn H (ds++gs)).vars [])
  (hb:Below W.heap.size W W') :
  s.post enc P f apart fresh handsOn false W args v W':=
 ⟨ds,gs,before,[],pa,[],hW,hres _ _ _,hargs,hvars,hb.frame _,fun h=>by cases h⟩
theorem aAV {W:World} {a:Addr} {v:Value} (h:W.cell? a=some v):a.block<W.heap.size:=by
 rcases Nat.lt_or_ge a.block W.heap.size with h'|h'
 ·exact h'
 ·simp[World.cell?,Array.getElem?_eq_none h'] at h
theorem aOY {H:Type} {enc:TypeId×Value→H} {W:World} {b0 base:Nat} {sp:Nat→Bool} {hd:Bool} {v:Value} {d:DataW H} {p:List MemPlace} (hv:Value.okWide Tryz.prog W .any b0 22 v) (h:DataW.Trod enc Tryz.prog W base sp hd 22 v d p) :
  ∃(a:Option Addr) (n cap:Nat) (xs:List (Int×Int)),v=.slice a n cap∧xs.length=n∧XsAt a xs W:=by
 obtain⟨a,len,cap,rfl⟩:=okWide_slice Tryz.underlying22 hv
 obtain⟨fuel,hf⟩:=h
 rcases Go.Deep.open_slice Tryz.underlying22 hf with ⟨hcs,_⟩|⟨b,len',cap',m,n,D,Pl,hcs,_,hl,hmx,hm,hx,hall⟩
 ·simp[Value.cells] at hcs
  obtain⟨rfl,rfl,rfl⟩:=hcs
  exact⟨none,0,0,[],rfl,rfl,fun k x hk=>by simp at hk,fun x hx=>by cases hx⟩
 ·simp[Value.cells] at hcs
  obtain⟨rfl,rfl,rfl⟩:=hcs
  have hlm:len≤m:=by rw[hm];split <;> omega
  have each:∀i,i<len→∃q:Int×Int,(W.cell? (b.add (i*2))=some (.int .i64 q.1)∧W.cell? (b.add (i*2+1))=some (.int .i64 q.2))∧(Lit.int .i64 q.1).wf=true∧(Lit.int .i64 q.2).wf=true:=by
   intro i hi
   obtain⟨cs',h1,h2⟩:=hall i (by omega)
   rw[aHY] at h1
   obtain⟨_,hlen,hcell⟩:=World.cells?_some h1
   match cs',hlen with
   | [c0,c1],_=>
    obtain⟨xa,xb,⟨e0,e1⟩,_,w0,w1⟩:=aDR (c0:=c0) (c1:=c1) h2
    have g0:=hcell 0 (by omega)
    have g1:=hcell 1 (by omega)
    rw[Go.Deep.add_add] at g0 g1
    subst e0 e1
    exact⟨(xa,xb),⟨by simpa using g0,by simpa using g1⟩,w0,w1⟩
  obtain⟨q,hq⟩:=Go.Deep.choose_lt each
  refine⟨some b,len,cap,(List.range len).map q,rfl,by simp,fun k x hk=>?_,fun x hx=>?_⟩
  ·have hk2:k<len:=by have:=(List.getElem?_eq_some_iff.1 hk).1;simpa using this
   have hxe:x=q k:=by
    rw[List.getElem?_map,List.getElem?_range hk2] at hk
    exact(Option.some.inj hk).symm
   obtain⟨⟨c0,c1⟩,_⟩:=hq k hk2
   have s0:=World.cell?_spot (hq 0 (by omega)).1.1
   obtain⟨blk,off,spot⟩:=b
   have hs:spot=none:=by simpa[Addr.add] using s0
   subst hs
   rw[add_plain] at c0 c1
   rw[hxe]
   exact⟨blk,off,rfl,aAV c0,c0,by rw[Nat.add_assoc];exact c1⟩
  ·obtain⟨i,hi,rfl⟩:=List.mem_map.1 hx
   obtain⟨_,w0,w1⟩:=hq i (List.mem_range.1 hi)
   exact⟨bounds_i64 w0,bounds_i64 w1⟩
theorem aCT:Tryz.prog.cellsOf 23=4:=by kernel_rfl
theorem uI_ {H:Type} {enc:TypeId×Value→H} {W:World} {base:Nat} {sp:Nat→Bool} {hd:Bool} {m:Nat} {cs:List Value} {c0 c1 c2 c3:Value} {y:DataW H×List MemPlace} (h:DataW.trod enc Tryz.prog W base sp hd m 23 cs=some y) (hc:cs=[c0,c1,c2,c3]:=by rfl) :
  ∃a b c d:Int,(c0=.int .i64 a∧c1=.int .i64 b∧c2=.int .i64 c∧c3=.int .i64 d)∧(Lit.int .i64 a).wf=true∧(Lit.int .i64 b).wf=true∧(Lit.int .i64 c).wf=true∧(Lit.int .i64 d).wf=true:=by
 subst hc
 obtain⟨ys,m',_,hx,_,hl,hy⟩:=DataW.trod_array Tryz.underlying23 h
 match ys,hl with
 | [y0,y1,y2,y3],_=>
 have hy0:=hy 0 (by decide)
 have hy1:=hy 1 (by decide)
 have hy2:=hy 2 (by decide)
 have hy3:=hy 3 (by decide)
 simp[lE_] at hy0 hy1 hy2 hy3
 obtain⟨xa,e0,_,w0⟩:=DataW.trod_int Tryz.underlying3 hy0
 obtain⟨xb,e1,_,w1⟩:=DataW.trod_int Tryz.underlying3 hy1
 obtain⟨xc,e2,_,w2⟩:=DataW.trod_int Tryz.underlying3 hy2
 obtain⟨xd,e3,_,w3⟩:=DataW.trod_int Tryz.underlying3 hy3
 simp at e0 e1 e2 e3
 exact⟨xa,xb,xc,xd,⟨e0,e1,e2,e3⟩,w0,w1,w2,w3⟩
end Go.Proofs.YtjfdefglpoancaaGreatDoor
