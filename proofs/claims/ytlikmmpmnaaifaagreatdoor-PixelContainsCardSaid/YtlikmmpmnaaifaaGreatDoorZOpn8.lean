/- - -/
import Derived.Carry
import Derived.Deep.Slices
import Derived.Test.YtlikmmpmnaaifaaGreatDoorZPost
import Derived.Test.YtlikmmpmnaaifaaGreatDoorZPv
import Derived.Test.YtlikmmpmnaaifaaGreatDoorZPl14
set_option maxHeartbeats 40000000
set_option maxRecDepth 1000000
namespace Go.Proofs.YtlikmmpmnaaifaaGreatDoor
open Go.ChangeShapes Go.WideShapes Go.ChangeAt Go.RowKit
open Go.ChangeMaps (open_string shut_string)
theorem laidOut7:laidOutB Tryz.prog=true:=by kernel_rfl
theorem post_mem {H:Type} {enc:TypeId×Value→H} {P:Program} {f:Func} {s:ChangeSpec} {apart fresh handsOn:Bool} {W W':World} {args:Array Value} {v:Value} {ds gs:List (DataW H)} {before pa:List MemPlace}
  (hW:DataW.Whole enc P f.params.toList s.vars apart W args.toList ds gs before)
  (hres:∀(b:Nat) (sp:Nat→Bool) (hd:Bool),DataW.TrodAll enc P W' b sp hd f.resultTypes.toList (v.resultList f.resultTypes.size) (s.fn H (ds++gs)).results [])
  (hargs:DataW.TrodAll enc P W' 0 (fun b=>decide (b<W.heap.size)) true f.params.toList args.toList (s.fn H (ds++gs)).args pa)
  (hvars:DataW.TrodVars enc P W' (fun b=>decide (b<W.heap.size)) s.vars (s.fn H (ds++gs)).vars [])
  (hb:Below W.heap.size W W') :
  s.post enc P f apart fresh handsOn false W args v W':=
 ⟨ds,gs,before,[],pa,[],hW,hres _ _ _,hargs,hvars,hb.frame _,fun h=>by cases h⟩
theorem aMB {W:World} {a:Addr} {v:Value} (h:W.cell? a=some v):a.block<W.heap.size:=by
 rcases Nat.lt_or_ge a.block W.heap.size with h'|h'
 ·exact h'
 ·simp[World.cell?,Array.getElem?_eq_none h'] at h
theorem pP_:Tryz.prog.cellsOf 23=4:=by kernel_rfl
theorem sB_ {H:Type} {enc:TypeId×Value→H} {W:World} {base:Nat} {sp:Nat→Bool} {hd:Bool} {m:Nat} {cs:List Value} {c0 c1 c2 c3:Value} {y:DataW H×List MemPlace} (h:DataW.trod enc Tryz.prog W base sp hd m 23 cs=some y) (hc:cs=[c0,c1,c2,c3]:=by rfl) :
  ∃a b c d:Int,(c0=.int .i64 a∧c1=.int .i64 b∧c2=.int .i64 c∧c3=.int .i64 d)∧(Lit.int .i64 a).wf=true∧(Lit.int .i64 b).wf=true∧(Lit.int .i64 c).wf=true∧(Lit.int .i64 d).wf=true:=by
 subst hc
 obtain⟨ys,m',_,hx,_,hl,hy⟩:=DataW.trod_array Tryz.underlying23 h
 match ys,hl with
 | [y0,y1,y2,y3],_=>
 have hy0:=hy 0 (by decide)
 have hy1:=hy 1 (by decide)
 have hy2:=hy 2 (by decide)
 have hy3:=hy 3 (by decide)
 simp[uK_] at hy0 hy1 hy2 hy3
 obtain⟨xa,e0,_,w0⟩:=DataW.trod_int Tryz.underlying3 hy0
 obtain⟨xb,e1,_,w1⟩:=DataW.trod_int Tryz.underlying3 hy1
 obtain⟨xc,e2,_,w2⟩:=DataW.trod_int Tryz.underlying3 hy2
 obtain⟨xd,e3,_,w3⟩:=DataW.trod_int Tryz.underlying3 hy3
 simp at e0 e1 e2 e3
 exact⟨xa,xb,xc,xd,⟨e0,e1,e2,e3⟩,w0,w1,w2,w3⟩
theorem open_four {H:Type} {enc:TypeId×Value→H} {W:World} {b0 base:Nat} {sp:Nat→Bool} {hd:Bool} {v:Value} {d:DataW H} {p:List MemPlace} (hv:Value.okWide Tryz.prog W .any b0 23 v) (h:DataW.Trod enc Tryz.prog W base sp hd 23 v d p) :
  ∃a0 a1 a2 a3:Int,v=.agg #[.int .i64 a0,.int .i64 a1,.int .i64 a2,.int .i64 a3]∧(Lit.int .i64 a0).wf=true∧(Lit.int .i64 a1).wf=true∧(Lit.int .i64 a2).wf=true∧(Lit.int .i64 a3).wf=true:=by
 obtain⟨cs,rfl,hsz⟩:=kL_ Tryz.underlying23 hv
 rw[pP_] at hsz
 obtain⟨l⟩:=cs
 match l,hsz with
 | [c0,c1,c2,c3],_=>
 obtain⟨fuel,hf⟩:=h
 obtain⟨a0,a1,a2,a3,⟨rfl,rfl,rfl,rfl⟩,w⟩:=sB_ (c0:=c0) (c1:=c1) (c2:=c2) (c3:=c3) hf
 exact⟨a0,a1,a2,a3,rfl,w⟩
theorem aBO:Tryz.prog.cellsOf 55=5:=by kernel_rfl
theorem iG_ {H:Type} {enc:TypeId×Value→H} {W:World} {base:Nat} {sp:Nat→Bool} {hd:Bool} {m:Nat} {cs:List Value} {c0:Value} {y:DataW H×List MemPlace} (h:DataW.trod enc Tryz.prog W base sp hd m 3 cs=some y) (hc:cs=[c0]:=by rfl) :
  ∃a:Int,c0=.int .i64 a∧(Lit.int .i64 a).wf=true:=by
 subst hc
 obtain⟨x,e,_,w⟩:=DataW.trod_int Tryz.underlying3 h
 simp at e
 exact⟨x,e,w⟩
theorem open_five {H:Type} {enc:TypeId×Value→H} {W:World} {b0 base:Nat} {sp:Nat→Bool} {hd:Bool} {v:Value} {d:DataW H} {p:List MemPlace} (hv:Value.okWide Tryz.prog W .any b0 55 v) (h:DataW.Trod enc Tryz.prog W base sp hd 55 v d p) :
  ∃a0 a1 a2 a3 a4:Int,v=.agg #[.int .i64 a0,.int .i64 a1,.int .i64 a2,.int .i64 a3,.int .i64 a4]∧(Lit.int .i64 a0).wf=true∧(Lit.int .i64 a1).wf=true∧(Lit.int .i64 a2).wf=true∧(Lit.int .i64 a3).wf=true∧(Lit.int .i64 a4).wf=true:=by
 obtain⟨cs,rfl,hsz⟩:=kL_ Tryz.underlying55 hv
 rw[aBO] at hsz
 obtain⟨l⟩:=cs
 match l,hsz with
 | [c0,c1,c2,c3,c4],_=>
 obtain⟨fuel,hf⟩:=h
 obtain⟨ys,m',_,hx,_,hl,hy⟩:=DataW.trod_array Tryz.underlying55 hf
 match ys,hl with
 | [y0,y1,y2,y3,y4],_=>
 have hy0:=hy 0 (by decide)
 have hy1:=hy 1 (by decide)
 have hy2:=hy 2 (by decide)
 have hy3:=hy 3 (by decide)
 have hy4:=hy 4 (by decide)
 rw[uK_] at hy0 hy1 hy2 hy3 hy4
 obtain⟨xa,rfl,w0⟩:=iG_ (c0:=c0) hy0
 obtain⟨xb,rfl,w1⟩:=iG_ (c0:=c1) hy1
 obtain⟨xc,rfl,w2⟩:=iG_ (c0:=c2) hy2
 obtain⟨xd,rfl,w3⟩:=iG_ (c0:=c3) hy3
 obtain⟨xe,rfl,w4⟩:=iG_ (c0:=c4) hy4
 exact⟨xa,xb,xc,xd,xe,rfl,w0,w1,w2,w3,w4⟩
structure Q4 where
 a:Int
 b:Int
 c:Int
 d:Int
 deriving Inhabited
structure X4At (a:Option Addr) (xs:List Q4) (W:World):Prop where
 row:∀(k:Nat) (x:Q4),xs[k]?=some x→∃b o:Nat,a=some ⟨b,o,none⟩∧b<W.heap.size∧W.cell? ⟨b,o+k*4,none⟩=some (.int .i64 x.a)∧W.cell? ⟨b,o+k*4+1,none⟩=some (.int .i64 x.b)∧W.cell? ⟨b,o+k*4+2,none⟩=some (.int .i64 x.c)∧W.cell? ⟨b,o+k*4+3,none⟩=some (.int .i64 x.d)
 lo:∀x∈xs,(-9223372036854775808≤x.a∧x.a≤9223372036854775807)∧(-9223372036854775808≤x.b∧x.b≤9223372036854775807)∧(-9223372036854775808≤x.c∧x.c≤9223372036854775807)∧(-9223372036854775808≤x.d∧x.d≤9223372036854775807)
theorem X4At.below {a:Option Addr} {xs:List Q4} {W W':World} (h:X4At a xs W) (hb:Below W.heap.size W W'):X4At a xs W':=
 ⟨fun k x hx=>by
  obtain⟨b,o,e,h1,h2,h3,h4,h5⟩:=h.row k x hx
  exact⟨b,o,e,Nat.lt_of_lt_of_le h1 hb.size,(World.cell?_of_block (w:=W) (hb.block b h1)).trans h2,(World.cell?_of_block (w:=W) (hb.block b h1)).trans h3,(World.cell?_of_block (w:=W) (hb.block b h1)).trans h4,(World.cell?_of_block (w:=W) (hb.block b h1)).trans h5⟩,h.lo⟩
theorem open_x4 {H:Type} {enc:TypeId×Value→H} {W:World} {b0 base:Nat} {sp:Nat→Bool} {hd:Bool} {v:Value} {d:DataW H} {p:List MemPlace} (hv:Value.okWide Tryz.prog W .any b0 67 v) (h:DataW.Trod enc Tryz.prog W base sp hd 67 v d p) :
  ∃(a:Option Addr) (n cap:Nat) (xs:List Q4),v=.slice a n cap∧xs.length=n∧X4At a xs W:=by
 obtain⟨a,len,cap,rfl⟩:=okWide_slice Tryz.underlying67 hv
 obtain⟨fuel,hf⟩:=h
 rcases Go.Deep.open_slice Tryz.underlying67 hf with ⟨hcs,_⟩|⟨b,len',cap',m,n,D,Pl,hcs,_,hl,hmx,hm,hx,hall⟩
 ·simp[Value.cells] at hcs
  obtain⟨rfl,rfl,rfl⟩:=hcs
  exact⟨none,0,0,[],rfl,rfl,fun k x hk=>by simp at hk,fun x hx=>by cases hx⟩
 ·simp[Value.cells] at hcs
  obtain⟨rfl,rfl,rfl⟩:=hcs
  have hlm:len≤m:=by rw[hm];split <;> omega
  have each:∀i,i<len→∃q:Q4,(W.cell? (b.add (i*4))=some (.int .i64 q.a)∧W.cell? (b.add (i*4+1))=some (.int .i64 q.b)∧W.cell? (b.add (i*4+2))=some (.int .i64 q.c)∧W.cell? (b.add (i*4+3))=some (.int .i64 q.d))∧(Lit.int .i64 q.a).wf=true∧(Lit.int .i64 q.b).wf=true∧(Lit.int .i64 q.c).wf=true∧(Lit.int .i64 q.d).wf=true:=by
   intro i hi
   obtain⟨cs',h1,h2⟩:=hall i (by omega)
   rw[pP_] at h1
   obtain⟨_,hlen,hcell⟩:=World.cells?_some h1
   match cs',hlen with
   | [c0,c1,c2,c3],_=>
    obtain⟨xa,xb,xc,xd,⟨e0,e1,e2,e3⟩,w0,w1,w2,w3⟩:=sB_ (c0:=c0) (c1:=c1) (c2:=c2) (c3:=c3) h2
    have g0:=hcell 0 (by omega)
    have g1:=hcell 1 (by omega)
    have g2:=hcell 2 (by omega)
    have g3:=hcell 3 (by omega)
    rw[Go.Deep.add_add] at g0 g1 g2 g3
    subst e0 e1 e2 e3
    exact⟨⟨xa,xb,xc,xd⟩,⟨by simpa using g0,by simpa using g1,by simpa using g2,by simpa using g3⟩,w0,w1,w2,w3⟩
  obtain⟨q,hq⟩:=Go.Deep.choose_lt each
  refine⟨some b,len,cap,(List.range len).map q,rfl,by simp,fun k x hk=>?_,fun x hx=>?_⟩
  ·have hk2:k<len:=by have:=(List.getElem?_eq_some_iff.1 hk).1;simpa using this
   have hxe:x=q k:=by
    rw[List.getElem?_map,List.getElem?_range hk2] at hk
    exact(Option.some.inj hk).symm
   obtain⟨⟨c0,c1,c2,c3⟩,_⟩:=hq k hk2
   have s0:=World.cell?_spot (hq 0 (by omega)).1.1
   obtain⟨blk,off,spot⟩:=b
   have hs:spot=none:=by simpa[Addr.add] using s0
   subst hs
   rw[add_plain] at c0 c1 c2 c3
   rw[hxe]
   exact⟨blk,off,rfl,aMB c0,c0,by rw[Nat.add_assoc];exact c1,by rw[Nat.add_assoc];exact c2,by rw[Nat.add_assoc];exact c3⟩
  ·obtain⟨i,hi,rfl⟩:=List.mem_map.1 hx
   obtain⟨_,w0,w1,w2,w3⟩:=hq i (List.mem_range.1 hi)
   exact⟨bounds_i64 w0,bounds_i64 w1,bounds_i64 w2,bounds_i64 w3⟩
end Go.Proofs.YtlikmmpmnaaifaaGreatDoor
namespace Go.Proofs.YtlikmmpmnaaifaaGreatDoor
def shN (only:Bool) (q:Q4) (i:Nat):Sh:=
 let x:Int:=100+(aK_ q.a 50:Nat)
 let y:Int:=100+(aK_ q.b 50:Nat)
 let w:Int:=(aK_ q.c 40:Nat)
 let h:Int:=(aK_ q.d 40:Nat)
 let up:=aK_ q.c 2==1
 ⟨10*(i:Int)+1+(aK_ q.a 7:Nat),if only then 2 else 1+(aK_ q.b 5:Nat),⟨x,y,w,h⟩,⟨x,if up then y else y+h⟩,⟨x+w,if up then y+h else y⟩,⟨#[]⟩⟩
def shsK (only:Bool) (xs:List Q4) (k:Nat):List Sh:=(xs.take k).zipIdx.map fun x=>shN only x.1 x.2
theorem hT_ {only:Bool} {xs:List Q4} {k i:Nat} {s:Sh} : (shsK only xs k)[i]?=some s↔i<k∧∃q,xs[i]?=some q∧s=shN only q i:=by
 unfold shsK
 rw[List.getElem?_map,List.getElem?_zipIdx,List.getElem?_take]
 by_cases h:i<k
 ·rw[if_pos h]
  cases hx:xs[i]? with
  | none=>simp
  | some q=>simp[h,eq_comm]
 ·rw[if_neg h];simp[h]
theorem xR_ (only:Bool) (xs:List Q4) (k:Nat):(shsK only xs k).length=min k xs.length:=by unfold shsK;simp
theorem aDK {only:Bool} {xs:List Q4} {k:Nat} {q:Q4} (h:xs[k]?=some q):shsK only xs (k+1)=shsK only xs k++[shN only q k]:=by
 have hk:k<xs.length:=(List.getElem?_eq_some_iff.1 h).1
 unfold shsK
 rw[List.take_add_one,h]
 simp[List.zipIdx_append,Nat.min_eq_left (Nat.le_of_lt hk)]
theorem dU_ (only:Bool) (q:Q4) (i:Nat):10*(i:Int)+1≤(shN only q i).code∧(shN only q i).code≤10*(i:Int)+7∧1≤(shN only q i).kind∧(shN only q i).kind≤5∧(only=true→(shN only q i).kind=2)∧(shN only q i).word=⟨#[]⟩
  ∧100≤(shN only q i).rect.x∧(shN only q i).rect.x≤149∧100≤(shN only q i).rect.y∧(shN only q i).rect.y≤149∧0≤(shN only q i).rect.w∧(shN only q i).rect.w≤39∧0≤(shN only q i).rect.h∧(shN only q i).rect.h≤39
  ∧(shN only q i).a.x=(shN only q i).rect.x∧(shN only q i).b.x=(shN only q i).rect.x+(shN only q i).rect.w
  ∧((shN only q i).a.y=(shN only q i).rect.y∧(shN only q i).b.y=(shN only q i).rect.y+(shN only q i).rect.h∨(shN only q i).a.y=(shN only q i).rect.y+(shN only q i).rect.h∧(shN only q i).b.y=(shN only q i).rect.y):=by
 have h1:=aJ_ q.a (n:=7) (by decide)
 have h2:=aJ_ q.b (n:=5) (by decide)
 have h3:=aJ_ q.a (n:=50) (by decide)
 have h4:=aJ_ q.b (n:=50) (by decide)
 have h5:=aJ_ q.c (n:=40) (by decide)
 have h6:=aJ_ q.d (n:=40) (by decide)
 unfold shN
 generalize aK_ q.a 7=c1 at *
 generalize aK_ q.b 5=c2 at *
 generalize aK_ q.a 50=c3 at *
 generalize aK_ q.b 50=c4 at *
 generalize aK_ q.c 40=c5 at *
 generalize aK_ q.d 40=c6 at *
 generalize (aK_ q.c 2==1)=up
 cases only <;> cases up <;> simp <;> omega
theorem shN_ok (only:Bool) (q:Q4) {i:Nat} (hi:i<5):okSh (shN only q i)=true:=by
 have h:=dU_ only q i
 generalize shN only q i=s at *
 obtain⟨h1,h2,_,_,_,_,h7,h8,h9,h10,h11,h12,h13,h14,h15,h16,h17⟩:=h
 have hr:vRc s.rect=true:=aV_.2 (by omega)
 have ha:vP s.a=true:=bL_.2 (by omega)
 have hb:vP s.b=true:=bL_.2 (by omega)
 have hc:jI_ s.code=true:=by unfold jI_;simp only[Bool.and_eq_true,decide_eq_true_eq];omega
 unfold okSh
 rw[hr,ha,hb,hc]
 cases eD_ s <;> rfl
theorem aJI (only:Bool) (xs:List Q4) (k:Nat):ascS (shsK only xs k):=fun i a b ha hb=>by
 obtain⟨_,qa,_,rfl⟩:=hT_.1 ha
 obtain⟨_,qb,_,rfl⟩:=hT_.1 hb
 have h1:=(dU_ only qa i).2.1
 have h2:=(dU_ only qb (i+1)).1
 omega
theorem aNZ (only:Bool) (xs:List Q4) {k:Nat} (hk:k≤5):∀s∈shsK only xs k,okSh s=true:=fun s hs=>by
 obtain⟨i,hi⟩:=List.mem_iff_getElem?.1 hs
 obtain⟨h,q,_,rfl⟩:=hT_.1 hi
 exact shN_ok only q (by omega)
theorem aOA (only:Bool) (q:Q4) (i:Nat) {u v:Int} (hu:0≤u∧u≤899) (hv:0≤v∧v≤899):midP u v (shN only q i).a∧midP u v (shN only q i).b:=by
 have h:=dU_ only q i
 generalize shN only q i=s at *
 obtain⟨h1,h2,_,_,_,_,h7,h8,h9,h10,h11,h12,h13,h14,h15,h16,h17⟩:=h
 unfold midP
 omega
theorem sP_ (only:Bool) (q:Q4) {i:Nat} (hi:i<5) {u v:Int} (hu:0≤u∧u≤899) (hv:0≤v∧v≤899):okSh (shS u v (shN only q i))=true:=by
 have h:=dU_ only q i
 generalize shN only q i=s at *
 obtain⟨h1,h2,_,_,_,_,h7,h8,h9,h10,h11,h12,h13,h14,h15,h16,h17⟩:=h
 have hr:vRc (shS u v s).rect=true:=aV_.2 (by simp only[shS,shR];omega)
 have ha:vP (shS u v s).a=true:=bL_.2 (by simp only[shS,shP];omega)
 have hb:vP (shS u v s).b=true:=bL_.2 (by simp only[shS,shP];omega)
 have hc:jI_ (shS u v s).code=true:=by show jI_ s.code=true;unfold jI_;simp only[Bool.and_eq_true,decide_eq_true_eq];omega
 unfold okSh
 rw[hr,ha,hb,hc]
 cases eD_ (shS u v s) <;> rfl
theorem aFB {u v:Int} {ss:List Sh} (h:ascS ss):ascS (ss.map (shS u v)):=fun i a b ha hb=>by
 rw[List.getElem?_map] at ha hb
 obtain⟨x,hx,rfl⟩:=Option.map_eq_some_iff.1 ha
 obtain⟨y,hy,rfl⟩:=Option.map_eq_some_iff.1 hb
 exact h i x y hx hy
theorem aKJ (only:Bool) (xs:List Q4) {k:Nat} (hk:k≤5) {u v:Int} (hu:0≤u∧u≤899) (hv:0≤v∧v≤899):∀s∈(shsK only xs k).map (shS u v),okSh s=true:=fun s hs=>by
 obtain⟨t,ht,rfl⟩:=List.mem_map.1 hs
 obtain⟨i,hi⟩:=List.mem_iff_getElem?.1 ht
 obtain⟨h,q,_,rfl⟩:=hT_.1 hi
 exact sP_ only q (by omega) hu hv
theorem aDL (only:Bool) (xs:List Q4) (k:Nat):∀s∈shsK only xs k,(0≤s.rect.x∧s.rect.x≤200)∧(0≤s.rect.y∧s.rect.y≤200)∧(0≤s.a.x∧s.a.x≤200)∧(0≤s.a.y∧s.a.y≤200)∧(0≤s.b.x∧s.b.x≤200)∧(0≤s.b.y∧s.b.y≤200):=fun s hs=>by
 obtain⟨i,hi⟩:=List.mem_iff_getElem?.1 hs
 obtain⟨_,q,_,rfl⟩:=hT_.1 hi
 have h:=dU_ only q i
 generalize shN only q i=s at *
 obtain⟨h1,h2,_,_,_,_,h7,h8,h9,h10,h11,h12,h13,h14,h15,h16,h17⟩:=h
 omega
theorem pA_ (y:Nat→Int):90≤(frN y).x∧(frN y).x≤129∧90≤(frN y).y∧(frN y).y≤129∧1≤(frN y).w∧(frN y).w≤6∧1≤(frN y).h∧(frN y).h≤6∧1≤(frN y).s∧(frN y).s≤20:=by
 have h0:=aJ_ (y 0) (n:=40) (by decide)
 have h1:=aJ_ (y 1) (n:=40) (by decide)
 have h2:=aJ_ (y 2) (n:=6) (by decide)
 have h3:=aJ_ (y 3) (n:=6) (by decide)
 have h4:=aJ_ (y 4) (n:=20) (by decide)
 unfold frN
 generalize aK_ (y 0) 40=a at *
 generalize aK_ (y 1) 40=b at *
 generalize aK_ (y 2) 6=c at *
 generalize aK_ (y 3) 6=d at *
 generalize aK_ (y 4) 20=e at *
 simp only
 omega
theorem tU_ (y:Nat→Int) {u v:Int} (hu:0≤u∧u≤899) (hv:0≤v∧v≤899):FrOk (shF u v (frN y)):=by
 have hb:=pA_ y
 have ho:=aGF y
 generalize frN y=f at *
 have m1:=Int.mul_le_mul (show f.w≤6 by omega) (show f.s≤20 by omega) (by omega) (by omega)
 have m2:=Int.mul_le_mul (show f.h≤6 by omega) (show f.s≤20 by omega) (by omega) (by omega)
 have m3:=Int.mul_le_mul (show f.w≤6 by omega) (show f.h≤6 by omega) (by omega) (by omega)
 constructor <;> simp only[shF] <;> first|omega|exact ho.1
theorem vL_ (xs:List Q4) {k:Nat} {u v:Int} (hu:0≤u∧u≤899) (hv:0≤v∧v≤899) (f:Fr):aF_ (shF u v f) ((shsK false xs k).map (shS u v))=aF_ f (shsK false xs k):=
 aKB fun s hs=>by
  obtain⟨i,hi⟩:=List.mem_iff_getElem?.1 hs
  obtain⟨_,q,_,rfl⟩:=hT_.1 hi
  exact aOA false q i hu hv
def coaF (f:Fr):Fr:=⟨f.x,f.y,f.w,f.h,2*f.s⟩
def finF (f:Fr):Fr:=⟨f.x,f.y,2*f.w,2*f.h,f.s⟩
theorem aGA {M j q n:Nat} (h:j<M) (e:n=j+M*q):n%M=j∧n/M=q:=by
 subst e
 exact⟨by rw[Nat.add_mul_mod_self_left,Nat.mod_eq_of_lt h],by rw[Nat.add_mul_div_left _ _ (by omega),Nat.div_eq_of_lt h,Nat.zero_add]⟩
theorem aPE {M j q Q:Nat} (h:j<M) (hq:q<Q):j+M*q<M*Q:=by
 have:=Nat.mul_le_mul_left M (show q+1≤Q by omega)
 rw[Nat.mul_add,Nat.mul_one] at this
 omega
theorem lQ_ {f:Fr} {W H:Nat} (hW:f.w=(W:Int)) (hH:f.h=(H:Int)) (l:List Pl) {c r n:Nat} (hc:c<2*W) (hr:r<2*H) (e:n=c+2*W*r):n<npx (finF f)∧(inkL (finF f) l)[n]?=some (aS_ l ⟨f.x+(c:Int)*f.s,f.y+(r:Int)*f.s,f.s,f.s⟩):=by
 have w2:(finF f).w.toNat=2*W:=by show(2*f.w).toNat=_;omega
 have h2:(finF f).h.toNat=2*H:=by show(2*f.h).toNat=_;omega
 have hn:n<npx (finF f):=by unfold npx;rw[w2,h2,e];exact aPE hc hr
 refine⟨hn,?_⟩
 rw[aFN _ _ hn]
 unfold pixR
 rw[w2,(aGA hc e).1,(aGA hc e).2]
 rfl
theorem vT_ {f:Fr} (hs:1≤f.s) {W H:Nat} (hW:f.w=(W:Int)) (hH:f.h=(H:Int)) (l:List Pl) {k:Nat} (hk:k<W*H) :
  ∃c c0 c1 c2 c3:Int,(inkL (coaF f) l)[k]?=some c∧(inkL (finF f) l)[k/W*2*(2*W)+k%W*2]?=some c0∧(inkL (finF f) l)[k/W*2*(2*W)+k%W*2+1]?=some c1∧(inkL (finF f) l)[k/W*2*(2*W)+k%W*2+2*W]?=some c2∧(inkL (finF f) l)[k/W*2*(2*W)+k%W*2+2*W+1]?=some c3∧(c=(c0+c1+c2+c3)/4∨c=(c0+c1+c2+c3)/4+1):=by
 have hW0:0<W:=by
  rcases Nat.eq_zero_or_pos W with rfl|h
  ·rw[Nat.zero_mul] at hk;omega
  ·exact h
 have hc:k%W<W:=Nat.mod_lt _ hW0
 have hr:k/W<H:=by rw[Nat.div_lt_iff_lt_mul hW0,Nat.mul_comm];exact hk
 have wC:(coaF f).w.toNat=W:=by show f.w.toNat=_;omega
 have hC:(coaF f).h.toNat=H:=by show f.h.toNat=_;omega
 have hkC:k<npx (coaF f):=by unfold npx;rw[wC,hC];exact hk
 have eC:=aFN (coaF f) l hkC
 unfold pixR at eC
 rw[wC] at eC
 generalize k%W=c at *
 generalize k/W=r at *
 obtain⟨-,e0⟩:=lQ_ hW hH l (c:=2*c) (r:=2*r) (n:=r*2*(2*W)+c*2) (by omega) (by omega) (by rw[Nat.mul_comm (r*2),Nat.mul_comm r 2];omega)
 obtain⟨-,e1⟩:=lQ_ hW hH l (c:=2*c+1) (r:=2*r) (n:=r*2*(2*W)+c*2+1) (by omega) (by omega) (by rw[Nat.mul_comm (r*2),Nat.mul_comm r 2];omega)
 obtain⟨-,e2⟩:=lQ_ hW hH l (c:=2*c) (r:=2*r+1) (n:=r*2*(2*W)+c*2+2*W) (by omega) (by omega) (by rw[Nat.mul_comm (r*2),Nat.mul_comm r 2,Nat.mul_add (2*W)];omega)
 obtain⟨-,e3⟩:=lQ_ hW hH l (c:=2*c+1) (r:=2*r+1) (n:=r*2*(2*W)+c*2+2*W+1) (by omega) (by omega) (by rw[Nat.mul_comm (r*2),Nat.mul_comm r 2,Nat.mul_add (2*W)];omega)
 refine⟨_,_,_,_,_,eC,e0,e1,e2,e3,?_⟩
 have q:=aIB (l:=l) (x:=f.x+((2*c:Nat):Int)*f.s) (y:=f.y+((2*r:Nat):Int)*f.s) (s:=f.s) (t:=_) (by omega) rfl
 have x1:f.x+((2*c+1:Nat):Int)*f.s=f.x+((2*c:Nat):Int)*f.s+f.s:=by rw[Int.natCast_add,Int.add_mul,show((1:Nat):Int)=1 from rfl,Int.one_mul];omega
 have y1:f.y+((2*r+1:Nat):Int)*f.s=f.y+((2*r:Nat):Int)*f.s+f.s:=by rw[Int.natCast_add,Int.add_mul,show((1:Nat):Int)=1 from rfl,Int.one_mul];omega
 have x2:(coaF f).x+(c:Int)*(coaF f).s=f.x+((2*c:Nat):Int)*f.s:=by
  show f.x+(c:Int)*(2*f.s)=_
  rw[Int.natCast_mul,←Int.mul_assoc,Int.mul_comm (c:Int) 2]
  rfl
 have y2:(coaF f).y+(r:Int)*(coaF f).s=f.y+((2*r:Nat):Int)*f.s:=by
  show f.y+(r:Int)*(2*f.s)=_
  rw[Int.natCast_mul,←Int.mul_assoc,Int.mul_comm (r:Int) 2]
  rfl
 rw[x1,y1,x2,y2]
 exact q
theorem aKT {f:Fr} (hf:FrOk f) {l:List Pl} (hl:Outl l) (h:¬0<sumL (inkL f l)):inkL f l=List.replicate (npx f) 0:=by
 refine List.eq_replicate_iff.2 ⟨iB_ f l,fun c hc=>?_⟩
 have h0:=(tM_ hf hl c hc).1
 have h1:¬0<c:=fun hp=>h ((iI_ fun c hc=>(tM_ hf hl c hc).1).2 ⟨c,hc,hp⟩)
 omega
def cmR (a b:Rc):Rc:=⟨max a.x b.x,max a.y b.y,min (a.x+a.w) (b.x+b.w)-max a.x b.x,min (a.y+a.h) (b.y+b.h)-max a.y b.y⟩
def pxW (c r:Rc):Int:=min (c.x+c.w) (r.x+r.w)-max c.x r.x
def pxH (c r:Rc):Int:=min (c.y+c.h) (r.y+r.h)-max c.y r.y
def partP (c r:Rc):Prop:=0<pxW c r∧0<pxH c r∧r.w*r.h≤pxW c r*pxH c r*4096
def areaB (c:Rc):Bool:=vRc c&&decide (0<c.w)&&decide (0<c.h)
def isSn (k:Int) (a b:Int) (s:Sn):Prop:=s.kind=k∧s.a=a∧s.b=b
theorem dW_ {s:Sh} (h:okSh s=true):vRc s.rect=true:=by
 unfold okSh at h
 simp only[Bool.and_eq_true] at h
 exact h.1.2
theorem aKC {f:Fr} (hf:FrOk f) {ss:List Sh} (h:ascS ss) (ho:∀s∈ss,okSh s=true) (hb:∀s∈ss,eD_ s=false) {i k:Nat} {a b:Sh} (ea:ss[i]?=some a) (eb:ss[k]?=some b) (hik:i<k) :
  (∀s∈eT_ (aF_ f ss),isSn 1 a.code b.code s→s.sure=true→areaB (cmR a.rect b.rect)=true)∧(∀n,n<npx f→partP (cmR a.rect b.rect) (pixR f n)→∃s∈eT_ (aF_ f ss),isSn 1 a.code b.code s):=by
 have oa:=ho a (List.mem_of_getElem? ea)
 have ob:=ho b (List.mem_of_getElem? eb)
 have la:=hb a (List.mem_of_getElem? ea)
 have lb:=hb b (List.mem_of_getElem? eb)
 refine⟨fun s hs hm e=>?_,fun n hn hp=>?_⟩
 ·have q:=aKM hf h ea eb (dW_ oa) (dW_ ob) la lb hs hm.1 hm.2.1 hm.2.2 e
  have va:=aV_.1 (dW_ oa)
  have vb:=aV_.1 (dW_ ob)
  unfold areaB
  simp only[Bool.and_eq_true,decide_eq_true_eq]
  refine⟨⟨aV_.2 ?_,q.1⟩,q.2⟩
  unfold cmR
  simp only
  omega
 ·obtain⟨p1,p2,p3⟩:=hp
  unfold pxW at p1
  unfold pxH at p2
  unfold pxW pxH at p3
  unfold cmR at p1 p2 p3
  have w1:(pixR f n).w=f.s:=rfl
  have h1:(pixR f n).h=f.s:=rfl
  rw[w1,h1] at p3
  rw[w1] at p1
  rw[h1] at p2
  simp only at p1 p2 p3
  rw[show max a.rect.x b.rect.x+(min (a.rect.x+a.rect.w) (b.rect.x+b.rect.w)-max a.rect.x b.rect.x)=min (a.rect.x+a.rect.w) (b.rect.x+b.rect.w) by omega] at p1 p3
  rw[show max a.rect.y b.rect.y+(min (a.rect.y+a.rect.h) (b.rect.y+b.rect.h)-max a.rect.y b.rect.y)=min (a.rect.y+a.rect.h) (b.rect.y+b.rect.h) by omega] at p2 p3
  obtain⟨q,hq⟩:=aKN hf ea eb hik oa ob la lb hn p1 p2 p3
  exact⟨_,hq,rfl,rfl,rfl⟩
theorem aLR {f:Fr} (hf:FrOk f) {ss:List Sh} (h:ascS ss) (ho:∀s∈ss,okSh s=true) (hb:∀s∈ss,eD_ s=false) {i k:Nat} {a b:Sh} (ea:ss[i]?=some a) (eb:ss[k]?=some b) (hik:i≠k) (pa:0<sumL (inkL f (outL a))) (pb:0<sumL (inkL f (outL b))) :
  (dX_ b.rect a.rect=true→∃s∈eT_ (aF_ f ss),isSn 2 a.code b.code s)∧(∀s∈eT_ (aF_ f ss),isSn 2 a.code b.code s→s.sure=true→∀n,n<npx f→partP b.rect (pixR f n)→dX_ (pixR f n) a.rect=true):=by
 have oa:=ho a (List.mem_of_getElem? ea)
 have ob:=ho b (List.mem_of_getElem? eb)
 have la:=hb a (List.mem_of_getElem? ea)
 have lb:=hb b (List.mem_of_getElem? eb)
 refine⟨fun hi=>?_,fun s hs hm e n hn hp=>?_⟩
 ·obtain⟨q,hq⟩:=law_in hf ea eb hik la lb pa pb hi
  exact⟨_,hq,rfl,rfl,rfl⟩
 ·obtain⟨p1,p2,p3⟩:=hp
  exact aFJ hf h ea eb (dW_ oa) (dW_ ob) la lb hs hm.1 hm.2.1 hm.2.2 e hn p1 p2 p3
theorem aCR {f:Fr} (hf:FrOk f) {ss:List Sh} (h:ascS ss) (hn:ss.length≤20) (ho:∀s∈ss,okSh s=true) {s:Sh} (hs:s∈ss):fW_ f (aF_ f ss) s.code=sumL (inkL f (outL s))∧0≤sumL (inkL f (outL s)):=by
 unfold fW_
 rw[bO_.2 (gZ_ hf hn ho h),if_pos rfl]
 refine⟨lZ_ hf h hs (ho s hs),?_⟩
 exact(sJ_ _ fun c hc=>tM_ hf (jQ_ (ho s hs)) c hc).1
theorem aBS (xs:List Q4) (k:Nat):∀s∈shsK true xs k,eD_ s=false:=fun s hs=>by
 obtain⟨i,hi⟩:=List.mem_iff_getElem?.1 hs
 obtain⟨_,q,_,rfl⟩:=hT_.1 hi
 have h:=(dU_ true q i).2.2.2.2.1 rfl
 unfold eD_
 rw[h]
 rfl
theorem aFK {k a b:Int} {l:List Sn} {m:Nat} {s:Sn} (hs:l[m]?=some s) (h:∀j,j<m→∀t,l[j]?=some t→¬isSn k a b t) (hn:¬isSn k a b s):∀j,j<m+1→∀t,l[j]?=some t→¬isSn k a b t:=fun j hj t ht=>by
 by_cases e:j=m
 ·subst e
  rw[hs] at ht
  cases ht
  exact hn
 ·exact h j (by omega) t ht
theorem aKP {k a b:Int} {l:List Sn} (h:∀j,j<l.length→∀t,l[j]?=some t→¬isSn k a b t):¬∃s∈l,isSn k a b s:=fun⟨s,hs,e⟩=>by
 obtain⟨j,hj⟩:=List.mem_iff_getElem?.1 hs
 exact h j (List.getElem?_eq_some_iff.1 hj).1 s hj e
theorem aAP {k a b ek ea eb:Int} {es x1 x2 x3:Bool} (h1:(ek==k)=x1) (h2:(ea==a)=x2) (h3:(eb==b)=x3):isSn k a b ⟨ek,ea,eb,es⟩↔x1=true∧x2=true∧x3=true:=by
 subst h1 h2 h3
 unfold isSn
 simp
end Go.Proofs.YtlikmmpmnaaifaaGreatDoor
