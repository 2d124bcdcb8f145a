/- - -/
import Derived.Carry
import Derived.Deep.Slices
import Derived.Lib.SmallJoins
import Derived.Laws.IdiomArrays
import Derived.Shelf.Vars
import Derived.Test.YtdkaohphbgdkpaaGreatDoorZPostE
import Derived.Test.YtdkaohphbgdkpaaGreatDoorZAt
import Derived.Test.YtdkaohphbgdkpaaGreatDoorZSv
import Derived.Test.YtdkaohphbgdkpaaGreatDoorZSi
set_option linter.unusedSimpArgs false
set_option linter.unusedVariables false
set_option maxHeartbeats 40000000
set_option maxRecDepth 1000000
namespace Go.Proofs.YtdkaohphbgdkpaaGreatDoor
open Go.ChangeShapes Go.WideShapes Go.ChangeAt Go.RowKit
open Go.ChangeMaps (open_string shut_string)
instance:Inhabited Q5:=⟨⟨0,0,0,0,0⟩⟩
theorem jO_:Tryz.prog.cellsOf 3=1:=by kernel_rfl
theorem xN_:Tryz.prog.cellsOf 58=2:=by kernel_rfl
theorem tQ_ {H:Type} {enc:TypeId×Value→H} {W:World} {base:Nat} {sp:Nat→Bool} {hd:Bool} {m:Nat} {cs:List Value} {c0 c1:Value} {y:DataW H×List MemPlace} (h:DataW.trod enc Tryz.prog W base sp hd m 58 cs=some y) (hc:cs=[c0,c1]:=by rfl) :
  ∃a b:Int,(c0=.int .i64 a∧c1=.int .i64 b)∧y=(.agg [.lit (.int .i64 a),.lit (.int .i64 b)],[])∧(Lit.int .i64 a).wf=true∧(Lit.int .i64 b).wf=true:=by
 subst hc
 obtain⟨ys,m',_,hx,_,hl,hy⟩:=DataW.trod_array Tryz.underlying58 h
 match ys,hl with
 | [y0,y1],_=>
 have hy0:=hy 0 (by decide)
 have hy1:=hy 1 (by decide)
 simp[jO_] at hy0 hy1
 simp only[List.map_cons,List.map_nil,List.flatMap_cons,List.flatMap_nil,List.append_nil] at hx
 obtain⟨xa,e0,rfl,w0⟩:=DataW.trod_int Tryz.underlying3 hy0
 obtain⟨xb,e1,rfl,w1⟩:=DataW.trod_int Tryz.underlying3 hy1
 simp at e0 e1
 subst e0 e1
 exact⟨xa,xb,⟨rfl,rfl⟩,hx,w0,w1⟩
theorem laidOut7:laidOutB Tryz.prog=true:=by kernel_rfl
theorem post_mem {H:Type} {enc:TypeId×Value→H} {P:Program} {f:Func} {s:ChangeSpec} {apart fresh handsOn:Bool} {W W':World} {args:Array Value} {v:Value} {ds gs:List (DataW H)} {before pa:List MemPlace}
  (hW:DataW.Whole enc P f.params.toList s.vars apart W args.toList ds gs before)
  (hres:∀(b:Nat) (sp:Nat→Bool) (hd:Bool),DataW.TrodAll enc P W' b sp hd f.resultTypes.toList (v.resultList f.resultTypes.size) (s.fn H (ds++gs)).results [])
  (hargs:DataW.TrodAll enc P W' 0 (fun b=>decide (b<W.heap.size)) true f.params.toList args.toList (s.fn H (ds++gs)).args pa)
  (hvars:DataW.TrodVars enc P W' (fun b=>decide (b<W.heap.size)) s.vars (s.fn H (ds++gs)).vars [])
  (hb:Below W.heap.size W W') :
  s.post enc P f apart fresh handsOn false W args v W':=
 ⟨ds,gs,before,[],pa,[],hW,hres _ _ _,hargs,hvars,hb.frame _,fun h=>by cases h⟩
theorem mJ_ {W:World} {a:Addr} {v:Value} (h:W.cell? a=some v):a.block<W.heap.size:=by
 rcases Nat.lt_or_ge a.block W.heap.size with h'|h'
 ·exact h'
 ·simp[World.cell?,Array.getElem?_eq_none h'] at h
theorem sW_:Tryz.prog.cellsOf 81=5:=by kernel_rfl
theorem yT_ {H:Type} {enc:TypeId×Value→H} {W:World} {base:Nat} {sp:Nat→Bool} {hd:Bool} {m:Nat} {cs:List Value} {c0:Value} {y:DataW H×List MemPlace} (h:DataW.trod enc Tryz.prog W base sp hd m 3 cs=some y) (hc:cs=[c0]:=by rfl) :
  ∃a:Int,c0=.int .i64 a∧(Lit.int .i64 a).wf=true:=by
 subst hc
 obtain⟨x,e,_,w⟩:=DataW.trod_int Tryz.underlying3 h
 simp at e
 exact⟨x,e,w⟩
theorem open_ps {H:Type} {enc:TypeId×Value→H} {W:World} {b0 base:Nat} {sp:Nat→Bool} {hd:Bool} {v:Value} {d:DataW H} {p:List MemPlace} (hv:Value.okWide Tryz.prog W .any b0 24 v) (h:DataW.Trod enc Tryz.prog W base sp hd 24 v d p) :
  ∃(a:Option Addr) (n cap:Nat) (xs:List (Int×Int)),v=.slice a n cap∧xs.length=n∧(PrsAt a xs W∧∀z∈xs,inI z.1∧inI z.2):=by
 obtain⟨a,len,cap,rfl⟩:=okWide_slice Tryz.underlying24 hv
 obtain⟨fuel,hf⟩:=h
 rcases Go.Deep.open_slice Tryz.underlying24 hf with ⟨hcs,_⟩|⟨b,len',cap',m,n,D,Pl,hcs,_,hl,hmx,hm,hx,hall⟩
 ·simp[Value.cells] at hcs
  obtain⟨rfl,rfl,rfl⟩:=hcs
  exact⟨none,0,0,[],rfl,rfl,⟨fun k x hk=>by simp at hk⟩,fun x hx=>by cases hx⟩
 ·simp[Value.cells] at hcs
  obtain⟨rfl,rfl,rfl⟩:=hcs
  have hlm:len≤m:=by rw[hm];split <;> omega
  have each:∀i,i<len→∃q:Int×Int,(W.cell? (b.add (i*2))=some (.int .i64 q.1)∧W.cell? (b.add (i*2+1))=some (.int .i64 q.2))∧(Lit.int .i64 q.1).wf=true∧(Lit.int .i64 q.2).wf=true:=by
   intro i hi
   obtain⟨cs',h1,h2⟩:=hall i (by omega)
   rw[xN_] at h1
   obtain⟨_,hlen,hcell⟩:=World.cells?_some h1
   match cs',hlen with
   | [c0,c1],_=>
    obtain⟨xa,xb,⟨e0,e1⟩,_,w0,w1⟩:=tQ_ (c0:=c0) (c1:=c1) h2
    have g0:=hcell 0 (by omega)
    have g1:=hcell 1 (by omega)
    rw[Go.Deep.add_add] at g0 g1
    subst e0 e1
    exact⟨(xa,xb),⟨by simpa using g0,by simpa using g1⟩,w0,w1⟩
  obtain⟨q,hq⟩:=Go.Deep.choose_lt each
  refine⟨some b,len,cap,(List.range len).map q,rfl,by simp,⟨fun k x hk=>?_⟩,fun x hx=>?_⟩
  ·have hk2:k<len:=by have:=(List.getElem?_eq_some_iff.1 hk).1;simpa using this
   have hxe:x=q k:=by
    rw[List.getElem?_map,List.getElem?_range hk2] at hk
    exact(Option.some.inj hk).symm
   obtain⟨⟨c0,c1⟩,_⟩:=hq k hk2
   have s0:=World.cell?_spot (hq 0 (by omega)).1.1
   obtain⟨blk,off,spot⟩:=b
   have hs:spot=none:=by simpa[Addr.add] using s0
   subst hs
   rw[add_plain] at c0 c1
   rw[hxe]
   exact⟨blk,off,rfl,mJ_ c0,c0,by rw[Nat.add_assoc];exact c1⟩
  ·obtain⟨i,hi,rfl⟩:=List.mem_map.1 hx
   obtain⟨_,w0,w1⟩:=hq i (List.mem_range.1 hi)
   exact⟨bounds_i64 w0,bounds_i64 w1⟩
theorem tR_ {H:Type} {enc:TypeId×Value→H} {W:World} {base:Nat} {sp:Nat→Bool} {hd:Bool} {m:Nat} {cs:List Value} {c0 c1 c2 c3 c4:Value} {y:DataW H×List MemPlace} (h:DataW.trod enc Tryz.prog W base sp hd m 81 cs=some y) (hc:cs=[c0,c1,c2,c3,c4]:=by rfl) :
  ∃a b c d e:Int,(c0=.int .i64 a∧c1=.int .i64 b∧c2=.int .i64 c∧c3=.int .i64 d∧c4=.int .i64 e)∧(Lit.int .i64 a).wf=true∧(Lit.int .i64 b).wf=true∧(Lit.int .i64 c).wf=true∧(Lit.int .i64 d).wf=true∧(Lit.int .i64 e).wf=true:=by
 subst hc
 obtain⟨ys,m',_,hx,_,hl,hy⟩:=DataW.trod_array Tryz.underlying81 h
 match ys,hl with
 | [y0,y1,y2,y3,y4],_=>
 have hy0:=hy 0 (by decide)
 have hy1:=hy 1 (by decide)
 have hy2:=hy 2 (by decide)
 have hy3:=hy 3 (by decide)
 have hy4:=hy 4 (by decide)
 simp[jO_] at hy0 hy1 hy2 hy3 hy4
 obtain⟨xa,e0,_,w0⟩:=DataW.trod_int Tryz.underlying3 hy0
 obtain⟨xb,e1,_,w1⟩:=DataW.trod_int Tryz.underlying3 hy1
 obtain⟨xc,e2,_,w2⟩:=DataW.trod_int Tryz.underlying3 hy2
 obtain⟨xd,e3,_,w3⟩:=DataW.trod_int Tryz.underlying3 hy3
 obtain⟨xe,e4,_,w4⟩:=DataW.trod_int Tryz.underlying3 hy4
 simp at e0 e1 e2 e3 e4
 exact⟨xa,xb,xc,xd,xe,⟨e0,e1,e2,e3,e4⟩,w0,w1,w2,w3,w4⟩
theorem open_x5 {H:Type} {enc:TypeId×Value→H} {W:World} {b0 base:Nat} {sp:Nat→Bool} {hd:Bool} {v:Value} {d:DataW H} {p:List MemPlace} (hv:Value.okWide Tryz.prog W .any b0 22 v) (h:DataW.Trod enc Tryz.prog W base sp hd 22 v d p) :
  ∃(a:Option Addr) (n cap:Nat) (xs:List Q5),v=.slice a n cap∧xs.length=n∧X5At a xs W:=by
 obtain⟨a,len,cap,rfl⟩:=okWide_slice Tryz.underlying22 hv
 obtain⟨fuel,hf⟩:=h
 rcases Go.Deep.open_slice Tryz.underlying22 hf with ⟨hcs,_⟩|⟨b,len',cap',m,n,D,Pl,hcs,_,hl,hmx,hm,hx,hall⟩
 ·simp[Value.cells] at hcs
  obtain⟨rfl,rfl,rfl⟩:=hcs
  exact⟨none,0,0,[],rfl,rfl,fun k x hk=>by simp at hk,fun x hx=>by cases hx⟩
 ·simp[Value.cells] at hcs
  obtain⟨rfl,rfl,rfl⟩:=hcs
  have hlm:len≤m:=by rw[hm];split <;> omega
  have each:∀i,i<len→∃q:Q5,(W.cell? (b.add (i*5))=some (.int .i64 q.a)∧W.cell? (b.add (i*5+1))=some (.int .i64 q.b)∧W.cell? (b.add (i*5+2))=some (.int .i64 q.c)∧W.cell? (b.add (i*5+3))=some (.int .i64 q.d)∧W.cell? (b.add (i*5+4))=some (.int .i64 q.e))∧(Lit.int .i64 q.a).wf=true∧(Lit.int .i64 q.b).wf=true∧(Lit.int .i64 q.c).wf=true∧(Lit.int .i64 q.d).wf=true∧(Lit.int .i64 q.e).wf=true:=by
   intro i hi
   obtain⟨cs',h1,h2⟩:=hall i (by omega)
   rw[sW_] at h1
   obtain⟨_,hlen,hcell⟩:=World.cells?_some h1
   match cs',hlen with
   | [c0,c1,c2,c3,c4],_=>
    obtain⟨xa,xb,xc,xd,xe,⟨e0,e1,e2,e3,e4⟩,w0,w1,w2,w3,w4⟩:=tR_ (c0:=c0) (c1:=c1) (c2:=c2) (c3:=c3) (c4:=c4) h2
    have g0:=hcell 0 (by omega)
    have g1:=hcell 1 (by omega)
    have g2:=hcell 2 (by omega)
    have g3:=hcell 3 (by omega)
    have g4:=hcell 4 (by omega)
    rw[Go.Deep.add_add] at g0 g1 g2 g3 g4
    subst e0 e1 e2 e3 e4
    exact⟨⟨xa,xb,xc,xd,xe⟩,⟨by simpa using g0,by simpa using g1,by simpa using g2,by simpa using g3,by simpa using g4⟩,w0,w1,w2,w3,w4⟩
  obtain⟨q,hq⟩:=Go.Deep.choose_lt each
  refine⟨some b,len,cap,(List.range len).map q,rfl,by simp,fun k x hk=>?_,fun x hx=>?_⟩
  ·have hk2:k<len:=by have:=(List.getElem?_eq_some_iff.1 hk).1;simpa using this
   have hxe:x=q k:=by
    rw[List.getElem?_map,List.getElem?_range hk2] at hk
    exact(Option.some.inj hk).symm
   obtain⟨⟨c0,c1,c2,c3,c4⟩,_⟩:=hq k hk2
   have s0:=World.cell?_spot (hq 0 (by omega)).1.1
   obtain⟨blk,off,spot⟩:=b
   have hs:spot=none:=by simpa[Addr.add] using s0
   subst hs
   rw[add_plain] at c0 c1 c2 c3 c4
   rw[hxe]
   exact⟨blk,off,rfl,mJ_ c0,c0,by rw[Nat.add_assoc];exact c1,by rw[Nat.add_assoc];exact c2,by rw[Nat.add_assoc];exact c3,by rw[Nat.add_assoc];exact c4⟩
  ·obtain⟨i,hi,rfl⟩:=List.mem_map.1 hx
   obtain⟨_,w0,w1,w2,w3,w4⟩:=hq i (List.mem_range.1 hi)
   exact⟨bounds_i64 w0,bounds_i64 w1,bounds_i64 w2,bounds_i64 w3,bounds_i64 w4⟩
theorem open_is {H:Type} {enc:TypeId×Value→H} {W:World} {b0 base:Nat} {sp:Nat→Bool} {hd:Bool} {v:Value} {d:DataW H} {p:List MemPlace} (hv:Value.okWide Tryz.prog W .any b0 23 v) (h:DataW.Trod enc Tryz.prog W base sp hd 23 v d p) :
  ∃(a:Option Addr) (n cap:Nat) (xs:List Int),v=.slice a n cap∧xs.length=n∧(CsAt a (icC xs) W∧∀z∈xs,inI z):=by
 obtain⟨a,len,cap,rfl⟩:=okWide_slice Tryz.underlying23 hv
 obtain⟨fuel,hf⟩:=h
 rcases Go.Deep.open_slice Tryz.underlying23 hf with ⟨hcs,_⟩|⟨b,len',cap',m,n,D,Pl,hcs,_,hl,hmx,hm,hx,hall⟩
 ·simp[Value.cells] at hcs
  obtain⟨rfl,rfl,rfl⟩:=hcs
  exact⟨none,0,0,[],rfl,rfl,⟨fun k x hk=>by simp[icC] at hk⟩,fun x hx=>by cases hx⟩
 ·simp[Value.cells] at hcs
  obtain⟨rfl,rfl,rfl⟩:=hcs
  have hlm:len≤m:=by rw[hm];split <;> omega
  have each:∀i,i<len→∃q:Int,W.cell? (b.add i)=some (.int .i64 q)∧(Lit.int .i64 q).wf=true:=by
   intro i hi
   obtain⟨cs',h1,h2⟩:=hall i (by omega)
   rw[jO_] at h1
   obtain⟨_,hlen,hcell⟩:=World.cells?_some h1
   match cs',hlen with
   | [c0],_=>
    obtain⟨xa,e0,w0⟩:=yT_ (c0:=c0) h2
    have g0:=hcell 0 (by omega)
    rw[Go.Deep.add_add] at g0
    subst e0
    exact⟨xa,by simpa using g0,w0⟩
  obtain⟨q,hq⟩:=Go.Deep.choose_lt each
  refine⟨some b,len,cap,(List.range len).map q,rfl,by simp,⟨fun k x hk=>?_⟩,fun x hx=>?_⟩
  ·have hk1:k<(icC ((List.range len).map q)).length:=(List.getElem?_eq_some_iff.1 hk).1
   have hk2:k<len:=by unfold icC at hk1;simpa using hk1
   have hxe:x=.int .i64 (q k):=by
    unfold icC at hk
    rw[List.getElem?_map,List.getElem?_map,List.getElem?_range hk2] at hk
    exact(Option.some.inj hk).symm
   obtain⟨c0,_⟩:=hq k hk2
   have s0:=World.cell?_spot (hq 0 (by omega)).1
   obtain⟨blk,off,spot⟩:=b
   have hs:spot=none:=by simpa[Addr.add] using s0
   subst hs
   rw[add_plain] at c0
   rw[hxe]
   exact⟨blk,off,rfl,mJ_ c0,c0⟩
  ·obtain⟨i,hi,rfl⟩:=List.mem_map.1 hx
   obtain⟨_,w0⟩:=hq i (List.mem_range.1 hi)
   exact bounds_i64 w0
theorem okw_of {W:World} (h:laidMetH Tryz.prog dT_ W) (hs:W.ShapedOpen Tryz.prog):OkW W:=by
 have hm:=cell_of_shapedOpen_int (g:=0) (t:=3) (zero:=#[.int .i64 0]) (k:=.i64) hs (by decide +kernel) (by kernel_rfl) rfl (by kernel_rfl) (by kernel_rfl) Tryz.underlying3
 refine⟨⟨IOps.of_glob (pK_ h),FrOp.of_glob (pK_ h)⟩,aAT h,pK_ h,hm,?_⟩
 obtain⟨m,hm⟩:=hm
 rcases Nat.eq_zero_or_pos W.heap.size with h0|h0
 ·exfalso
  have:W.heap=#[]:=Array.eq_empty_of_size_eq_zero h0
  simp[World.cell?,this] at hm
 ·exact h0
end Go.Proofs.YtdkaohphbgdkpaaGreatDoor
