/- - -/
import Derived.Lib.SmallJoins
import Derived.Lib.MinMax
import Derived.Deep.RegionHeld3
import Derived.Test.YtjfdefglpoancaaGreatDoorZOpn8
import Derived.Test.YtjfdefglpoancaaGreatDoorZRg
import Derived.Test.YtjfdefglpoancaaGreatDoorZPb5
import Derived.Test.YtjfdefglpoancaaGreatDoorZHg
set_option maxHeartbeats 40000000
set_option maxRecDepth 1000000
open Go.Lib (hid)
namespace Go.Proofs.YtjfdefglpoancaaGreatDoor
open Go.ChangeShapes Go.WideShapes Go.ChangeAt Go.RowKit
theorem aLM:Tryz.prog.cellsOf 24=8:=by kernel_rfl
theorem aAU:Tryz.prog.cellsOf 26=2:=by kernel_rfl
theorem aLL:Tryz.prog.cellsOf 29=4:=by kernel_rfl
theorem xS_ {H:Type} {enc:TypeId×Value→H} {W:World} {b0 base:Nat} {sp:Nat→Bool} {hd:Bool} {v:Value} {d:DataW H} {p:List MemPlace} (hv:Value.okWide Tryz.prog W .any b0 24 v) (h:DataW.Trod enc Tryz.prog W base sp hd 24 v d p) :
  ∃a0 a1 a2 a3 b0 b1 b2 b3:Int,v=.agg #[.int .i64 a0,.int .i64 a1,.int .i64 a2,.int .i64 a3,.int .i64 b0,.int .i64 b1,.int .i64 b2,.int .i64 b3]∧((Lit.int .i64 a0).wf=true∧(Lit.int .i64 a1).wf=true∧(Lit.int .i64 a2).wf=true∧(Lit.int .i64 a3).wf=true)∧((Lit.int .i64 b0).wf=true∧(Lit.int .i64 b1).wf=true∧(Lit.int .i64 b2).wf=true∧(Lit.int .i64 b3).wf=true):=by
 obtain⟨cs,rfl,hsz⟩:=vI_ Tryz.underlying24 hv
 rw[aLM] at hsz
 obtain⟨l⟩:=cs
 match l,hsz with
 | [c0,c1,c2,c3,c4,c5,c6,c7],_=>
 obtain⟨fuel,hf⟩:=h
 obtain⟨ys,m,_,hx,_,hl,hy⟩:=DataW.trod_array Tryz.underlying24 hf
 match ys,hl with
 | [y0,y1],_=>
 have hy0:=hy 0 (by decide)
 have hy1:=hy 1 (by decide)
 rw[aCT] at hy0 hy1
 obtain⟨a0,a1,a2,a3,⟨rfl,rfl,rfl,rfl⟩,wa⟩:=uI_ (c0:=c0) (c1:=c1) (c2:=c2) (c3:=c3) hy0
 obtain⟨b0,b1,b2,b3,⟨rfl,rfl,rfl,rfl⟩,wb⟩:=uI_ (c0:=c4) (c1:=c5) (c2:=c6) (c3:=c7) hy1
 exact⟨a0,a1,a2,a3,b0,b1,b2,b3,rfl,wa,wb⟩
theorem qM_ {H:Type} {enc:TypeId×Value→H} {W:World} {base:Nat} {sp:Nat→Bool} {hd:Bool} {m:Nat} {cs:List Value} {c0 c1:Value} {y:DataW H×List MemPlace} (h:DataW.trod enc Tryz.prog W base sp hd m 26 cs=some y) (hc:cs=[c0,c1]:=by rfl) :
  ∃xa xb:Int,(c0=.int .i64 xa∧c1=.int .i64 xb)∧(Lit.int .i64 xa).wf=true∧(Lit.int .i64 xb).wf=true:=by
 subst hc
 obtain⟨y0,y1,n,hx,_,hy0,hy1⟩:=trod_struct2 Tryz.underlying26 h
 obtain⟨xa,e0,_,w0⟩:=DataW.trod_int Tryz.underlying3 hy0
 obtain⟨xb,e1,_,w1⟩:=DataW.trod_int Tryz.underlying3 hy1
 simp[lE_] at e0 e1
 exact⟨xa,xb,⟨e0,e1⟩,w0,w1⟩
theorem aBR {H:Type} {enc:TypeId×Value→H} {W:World} {b0 base:Nat} {sp:Nat→Bool} {hd:Bool} {v:Value} {d:DataW H} {p:List MemPlace} (hv:Value.okWide Tryz.prog W .any b0 26 v) (h:DataW.Trod enc Tryz.prog W base sp hd 26 v d p) :
  ∃xa xb:Int,v=.agg #[.int .i64 xa,.int .i64 xb]∧(Lit.int .i64 xa).wf=true∧(Lit.int .i64 xb).wf=true:=by
 obtain⟨cs,rfl,hsz⟩:=okWide_struct Tryz.underlying26 hv
 rw[aAU] at hsz
 obtain⟨l⟩:=cs
 match l,hsz with
 | [c0,c1],_=>
 obtain⟨fuel,hf⟩:=h
 obtain⟨xa,xb,⟨rfl,rfl⟩,w⟩:=qM_ (c0:=c0) (c1:=c1) hf
 exact⟨xa,xb,rfl,w⟩
theorem aFC {H:Type} {enc:TypeId×Value→H} {W:World} {b0 base:Nat} {sp:Nat→Bool} {hd:Bool} {v:Value} {d:DataW H} {p:List MemPlace} (hv:Value.okWide Tryz.prog W .any b0 29 v) (h:DataW.Trod enc Tryz.prog W base sp hd 29 v d p) :
  ∃a b c e:Int,v=.agg #[.int .i64 a,.int .i64 b,.int .i64 c,.int .i64 e]∧(Lit.int .i64 a).wf=true∧(Lit.int .i64 b).wf=true∧(Lit.int .i64 c).wf=true∧(Lit.int .i64 e).wf=true:=by
 obtain⟨cs,rfl,hsz⟩:=okWide_struct Tryz.underlying29 hv
 rw[aLL] at hsz
 obtain⟨l⟩:=cs
 match l,hsz with
 | [c0,c1,c2,c3],_=>
 obtain⟨fuel,hf⟩:=h
 obtain⟨y0,y1,y2,y3,n,hx,_,hy0,hy1,hy2,hy3⟩:=Go.Joins.trod_struct4 Tryz.underlying29 hf
 obtain⟨xa,e0,_,w0⟩:=DataW.trod_int Tryz.underlying3 hy0
 obtain⟨xb,e1,_,w1⟩:=DataW.trod_int Tryz.underlying3 hy1
 obtain⟨xc,e2,_,w2⟩:=DataW.trod_int Tryz.underlying3 hy2
 obtain⟨xd,e3,_,w3⟩:=DataW.trod_int Tryz.underlying3 hy3
 simp[Value.cells,lE_] at e0 e1 e2 e3
 subst e0 e1 e2 e3
 exact⟨xa,xb,xc,xd,rfl,w0,w1,w2,w3⟩
theorem xR_ {H:Type} {enc:TypeId×Value→H} {W:World} {b0 base:Nat} {sp:Nat→Bool} {hd:Bool} {v:Value} {d:DataW H} {p:List MemPlace} (hv:Value.okWide Tryz.prog W .any b0 27 v) (h:DataW.Trod enc Tryz.prog W base sp hd 27 v d p) :
  ∃(a:Option Addr) (n cap:Nat) (ps:List Pl),v=.slice a n cap∧ps.length=n∧n≤maxLen∧n≤cap∧PtAt a ps W∧(∀x∈ps,(-9223372036854775808≤x.x∧x.x≤9223372036854775807)∧(-9223372036854775808≤x.y∧x.y≤9223372036854775807)):=by
 obtain⟨a,len,cap,rfl⟩:=okWide_slice Tryz.underlying27 hv
 obtain⟨fuel,hf⟩:=h
 rcases Go.Deep.open_slice Tryz.underlying27 hf with ⟨hcs,_⟩|⟨b,len',cap',m,n,D,Pl',hcs,_,hl,hmx,hm,hx,hall⟩
 ·simp[Value.cells] at hcs
  obtain⟨rfl,rfl,rfl⟩:=hcs
  exact⟨none,0,0,[],rfl,rfl,by unfold maxLen;omega,Nat.le_refl _,PtAt.nil _,fun x hx=>by cases hx⟩
 ·simp[Value.cells] at hcs
  obtain⟨rfl,rfl,rfl⟩:=hcs
  have hlm:len≤m:=by rw[hm];split <;> omega
  have each:∀i,i<len→∃q:Pl,(W.cell? (b.add (i*2))=some (.int .i64 q.x)∧W.cell? (b.add (i*2+1))=some (.int .i64 q.y))∧(Lit.int .i64 q.x).wf=true∧(Lit.int .i64 q.y).wf=true:=by
   intro i hi
   obtain⟨cs',h1,h2⟩:=hall i (by omega)
   rw[aAU] at h1
   obtain⟨_,hlen,hcell⟩:=World.cells?_some h1
   match cs',hlen with
   | [c0,c1],_=>
    obtain⟨xa,xb,⟨e0,e1⟩,w0,w1⟩:=qM_ (c0:=c0) (c1:=c1) h2
    have g0:=hcell 0 (by omega)
    have g1:=hcell 1 (by omega)
    rw[Go.Deep.add_add] at g0 g1
    subst e0 e1
    exact⟨⟨xa,xb⟩,⟨by simpa using g0,by simpa using g1⟩,w0,w1⟩
  obtain⟨q,hq⟩:=Go.Deep.choose_lt each
  refine⟨some b,len,cap,(List.range len).map q,rfl,by simp,by omega,hl,⟨fun k x hk=>?_⟩,fun x hx=>?_⟩
  ·have hk2:k<len:=by have:=(List.getElem?_eq_some_iff.1 hk).1;simpa using this
   have hxe:x=q k:=by
    rw[List.getElem?_map,List.getElem?_range hk2] at hk
    exact(Option.some.inj hk).symm
   obtain⟨⟨c0,c1⟩,_⟩:=hq k hk2
   have s0:=World.cell?_spot (hq 0 (by omega)).1.1
   obtain⟨blk,off,spot⟩:=b
   have hs:spot=none:=by simpa[Addr.add] using s0
   subst hs
   rw[add_plain] at c0 c1
   rw[hxe]
   exact⟨blk,off,rfl,aAV c0,c0,by rw[Nat.add_assoc];exact c1⟩
  ·obtain⟨i,hi,rfl⟩:=List.mem_map.1 hx
   obtain⟨_,w0,w1⟩:=hq i (List.mem_range.1 hi)
   exact⟨bounds_i64 w0,bounds_i64 w1⟩
end Go.Proofs.YtjfdefglpoancaaGreatDoor
namespace Go.Proofs.YtjfdefglpoancaaGreatDoor
open Go.RowKit Go.Shelf Go.Sort
attribute [local go_sem] Oper.semAt_some
def sz64 (x:Int):Prop:=-9223372036854775808≤x∧x≤9223372036854775807
theorem fV_ (y0 y1 y2 y3 y4 y5 y6 y7:Int) (odd:Pl) (rect:Rc) (wh:Int) {a ra:Option Addr} {n cap rn rcap:Nat} {xs:List (Int×Int)} {raw:List Pl}
  (h0:sz64 y0) (h1:sz64 y1) (h2:sz64 y2) (h3:sz64 y3) (h4:sz64 y4) (h5:sz64 y5) (h6:sz64 y6) (h7:sz64 y7) (hwh:sz64 wh) (hn:xs.length=n) (hrn:raw.length=rn) (_hrm:rn≤maxLen) (hrc:rn≤rcap) (w:World) (hX:XsAt a xs w) (hR:PtAt ra raw w) (hq:IOps w∧FrOp w) :
  Calls Tryz.prog 3 #[.slice a n cap,.agg #[.int .i64 y0,.int .i64 y1,.int .i64 y2,.int .i64 y3,.int .i64 y4,.int .i64 y5,.int .i64 y6,.int .i64 y7],.agg #[.int .i64 odd.x,.int .i64 odd.y],.slice ra rn rcap,.agg #[.int .i64 rect.x,.int .i64 rect.y,.int .i64 rect.w,.int .i64 rect.h],.int .i64 wh] w fun e W'=>e=.returned (.bool true)∧Below w.heap.size w W':=by
 have hmx:Tryz.prog.follows .mixedOrders=true:=by kernel_rfl
 have KS:=hid (fun(W:World) (hb:Below w.heap.size w W)=>aOC (hq.1.below hb) (hq.2.below hb))
 have KL:=hid (fun(W:World) (hb:Below w.heap.size w W)=>aJQ (cap:=cap) hn (hX.below hb))
 have KR0:=hid (fun W=>aMR h0 h1 h2 h3 W)
 have KR1:=hid (fun W=>aMR h4 h5 h6 h7 W)
 have HC:=hid (show AzAt [(w.heap.size+2,rcC rect),(w.heap.size+1,plC [odd]),(w.heap.size,[.int .i64 y0,.int .i64 y1,.int .i64 y2,.int .i64 y3,.int .i64 y4,.int .i64 y5,.int .i64 y6,.int .i64 y7])] w _ from by have hp:=((AzAt.start w).push [.int .i64 y0,.int .i64 y1,.int .i64 y2,.int .i64 y3,.int .i64 y4,.int .i64 y5,.int .i64 y6,.int .i64 y7] 24).push [.int .i64 odd.x,.int .i64 odd.y] 26 |>.push [.int .i64 rect.x,.int .i64 rect.y,.int .i64 rect.w,.int .i64 rect.h] 29;simp only[World.size_alloc] at hp;exact hp)
 have HI:=hid hq
 have HRR:=hid (And.intro hR hrn)
 clear hX hq hn hR hrn h0 h1 h2 h3 h4 h5 h6 h7
 obtain⟨R,hRe⟩:∃R,R=rcN y0 y1 y2 y3:=⟨_,rfl⟩
 obtain⟨S1,hSe⟩:∃S,S=rcN y4 y5 y6 y7:=⟨_,rfl⟩
 rw[←hRe] at KR0
 rw[←hSe] at KR1
 clear hRe hSe
 obtain⟨i0,hi0,hz0,hz1,hz2⟩:=info_parts dO_
 go_enter Tryz.func3,Tryz.ntmps3
 go_upto_region 4 with (first
  | (go_at_call 4;(with_reducible refine(KS.out _ HC.out.bw).mono ?_);rintro e w1 ⟨rfl,hb⟩;replace HC:=hid (HC.out.below hb);clear hb)
  | (go_at_call 5;(with_reducible refine(KL.out _ HC.out.bw).mono ?_);rintro e wL ⟨g,m,c,rfl,hm,hZ⟩;replace HC:=hid (show AzAt [(g,plC (plsN xs)),(w.heap.size+2,rcC rect),(w.heap.size+1,plC [odd]),(w.heap.size,[.int .i64 y0,.int .i64 y1,.int .i64 y2,.int .i64 y3,.int .i64 y4,.int .i64 y5,.int .i64 y6,.int .i64 y7])] w wL from(HC.out.below hZ.az.bw).cons (hZ.ar.at (B:=g) (l:=plC (plsN xs)) (by simp)));have HM:=hid (And.intro hm (hZ.cap_le));clear hZ hm)
  | fail)
 have hm12:m≤12:=by have h1:=HM.out.1;have h2:=zN_ xs;omega
 have hfew:=aJP xs
 obtain⟨L,hL⟩:∃L,L=plsN xs:=⟨_,rfl⟩
 rw[←hL] at HC HM hfew
 have hml:L.length=m:=HM.out.1.symm
 have hm1:1≤m:=by have:=(dI_ hfew).1;omega
 obtain⟨k,hk⟩:∃k,k=dQ_ wh m:=⟨_,rfl⟩
 have hkm:k<m:=by rw[hk];exact sW_ wh (by omega)
 have KP:=hid (fun(W:World)=>pick_l wh m hwh.1 hwh.2 (by omega) (by omega) W)
 rw[←hk] at KP
 have HML:=hid hml
 clear hk hL hfew HM hwh KS KL hml
 have HZ0:=hid (OzAt.lit0 HC.out)
 have hnews:=fun(j:Nat) (u:Value) (hj:(plC L)[j]?=Option.some u)=>(show(wL.alloc (.cells #[] 26)).cell? ((⟨g,0,none⟩:Addr).add j)=Option.some u from by
  rw[Go.WideShapes.add_plain,Nat.zero_add]
  exact(HZ0.out.az.row (g,plC L) (by simp)).row j u hj)
 have HNW:=hid hnews
 have hwL:=HC.out.bw.size
 clear hnews
 go_upto_region 5 with (first
  | (at_builtin;refine wpList_append_own_at _ rfl _ _ 27 rfl w.heap.size 26 i0 (.agg #[.int .i64 0,.int .i64 0]) 2 16 Tryz.underlying27 hi0 hz0 hz1 hz2 rfl (by decide) (.slice (some ⟨wL.heap.size,0,none⟩) 0 0) 0 (plC []) rfl HZ0.out.own ⟨g,0,none⟩ m c (plC L) rfl (by rw[bC_,HML.out]) HNW.out (oN_ L) (by unfold maxLen;omega) (by omega) (by simp;omega) ?_;intro v9 w9 hown' hgrow _ hat;have HZ1:=hid (HZ0.out.grown hown' hgrow hat);clear hown' hgrow hat)
  | fail)
 have hv9:∃gb cb,v9=.slice (some ⟨gb,0,none⟩) m cb:=by
  rcases HZ1.out.own.2 with ⟨_,e⟩|⟨g',c',cur,e,_⟩
  ·omega
  ·exact⟨g',c',by rw[e,Nat.zero_add]⟩
 obtain⟨gb,cb,rfl⟩:=hv9
 have HZ2:=hid (show OzAt 26 (.slice (some ⟨gb,0,none⟩) m cb) m (plC L) [(g,plC L),(w.heap.size+2,rcC rect),(w.heap.size+1,plC [odd]),(w.heap.size,[.int .i64 y0,.int .i64 y1,.int .i64 y2,.int .i64 y3,.int .i64 y4,.int .i64 y5,.int .i64 y6,.int .i64 y7])] w w9 from by
  have h:=HZ1.out
  rw[Nat.zero_add] at h
  exact h)
 have HB:=hid HZ2.out.ar
 obtain⟨_,hgw,_,hgn⟩:=HZ2.out.blk rfl
 have HGN:=hid hgn
 have KPB:=hid (fun W=>(KP.out W).mono fun e w' h=>(show e=.returned (.int .i64 (k:Int))∧Below W.heap.size W w' from⟨h.1,by rw[←h.2];exact Below.refl _ _⟩))
 obtain⟨z,hz⟩:∃z,L[k]?=some z:=⟨L[k]'(by have:=HML.out;omega),List.getElem?_eq_getElem _⟩
 have HZK:=hid hz
 have i1:(0:Int)≤(k:Int):=by omega
 have i2:(k:Int)<(m:Int):=by omega
 have hk0:=hkm
 clear hgn hz HZ0 HZ1 HNW KP HC
 refine bP_ (A:=?fr5) 7 hmx (by kernel_rfl) ?h5 ?ht5
 case h5=>
  intro U hU
  have hp:=hid (HB.out.below hU)
  have h_:=hp.out.at (B:=w.heap.size+1) (l:=plC [odd]) (by simp)
  have x0:=cell_regrown (h_.row 0 _ rfl)
  have x1:=cell_regrown (h_.row 1 _ rfl)
  clear h_
  have cP:=fun d os=>Calls.regrown_of (d:=d) (os:=os) (KPB.out (grow (redrawn U d) os))
  clear hp
  simp only[List.take_succ_cons,List.take_zero]
  repeat (go_big_quiet_step (with_reducible first|exact cP _ _))
  refine wpQuiet_nil ?_
  rfl
 case ht5=>
 intro W5 hW5
 have HB5:=hid (HB.out.below hW5)
 have z0:=(HB5.out.at (B:=gb) (l:=plC L) (by simp)).row (k*2) _ (jJ_ HZK.out).1
 have z1:=(HB5.out.at (B:=gb) (l:=plC L) (by simp)).row (k*2+1) _ (jJ_ HZK.out).2
 have f0:=(HB5.out.at (B:=gb) (l:=plC L) (by simp)).fz (k*2) (by rw[bC_,HML.out];omega)
 have f1:=(HB5.out.at (B:=gb) (l:=plC L) (by simp)).fz (k*2+1) (by rw[bC_,HML.out];omega)
 have HB6:=hid ((HB5.out.set hgw HGN.out (jJ_ HZK.out).1 (.int .i64 odd.x)).set hgw HGN.out (i:=k*2+1) (by rw[List.getElem?_set_ne (by omega)];exact(jJ_ HZK.out).2) (.int .i64 odd.y))
 rw[←aOT odd (by rw[HML.out];exact hk0)] at HB6
 obtain⟨Bt,hBt⟩:∃Bt,Bt=L.set k odd:=⟨_,rfl⟩
 rw[←hBt] at HB6
 have hBl:Bt.length=m:=by rw[hBt,List.length_set,HML.out]
 have h_:=HB5.out.at (B:=w.heap.size) (l:=[.int .i64 y0,.int .i64 y1,.int .i64 y2,.int .i64 y3,.int .i64 y4,.int .i64 y5,.int .i64 y6,.int .i64 y7]) (by simp)
 have u0:=h_.row 0 _ rfl
 have u1:=h_.row 1 _ rfl
 have u2:=h_.row 2 _ rfl
 have u3:=h_.row 3 _ rfl
 clear h_
 have hne:gb≠w.heap.size:=HGN.out (w.heap.size,[.int .i64 y0,.int .i64 y1,.int .i64 y2,.int .i64 y3,.int .i64 y4,.int .i64 y5,.int .i64 y6,.int .i64 y7]) (by simp)
 clear hW5 hBt HB HB5 HZ2
 simp only[List.drop_succ_cons,List.drop_zero]
 go_wp2_with (first
  | (go_at_call 7;(with_reducible refine(KR0.out _).mono ?_);rintro e w6 ⟨rfl,hb⟩;have HB7:=hid ((HB6.out.below hb).push [.int .i64 R.x,.int .i64 R.y,.int .i64 R.w,.int .i64 R.h] 29);clear hb)
  | fail)
 clear u0 u1 u2 u3 z0 z1 f0 f1 HB6 KR0 KPB
 obtain⟨R1,hR1⟩:∃R1,R1=w6.heap.size:=⟨_,rfl⟩
 have HC:=hid (show AzAt [(R1,rcC R),(gb,plC Bt),(g,plC L),(w.heap.size+2,rcC rect),(w.heap.size+1,plC [odd]),(w.heap.size,[.int .i64 y0,.int .i64 y1,.int .i64 y2,.int .i64 y3,.int .i64 y4,.int .i64 y5,.int .i64 y6,.int .i64 y7])] w (w6.alloc (.cells #[.int .i64 R.x,.int .i64 R.y,.int .i64 R.w,.int .i64 R.h] 29)) from by rw[hR1];exact HB7.out)
 rw[←hR1]
 generalize w6.alloc (.cells #[.int .i64 R.x,.int .i64 R.y,.int .i64 R.w,.int .i64 R.h] 29)=W7 at HC⊢
 clear HB7 hR1
 first|(go_region_held3 (fun W=>W.cell? ⟨w.heap.size,4,none⟩=Option.some (.int .i64 y4)∧W.cell? ⟨w.heap.size,5,none⟩=Option.some (.int .i64 y5)∧W.cell? ⟨w.heap.size,6,none⟩=Option.some (.int .i64 y6)∧W.cell? ⟨w.heap.size,7,none⟩=Option.some (.int .i64 y7)∧W.cell? ⟨w.heap.size+2,0,none⟩=Option.some (.int .i64 rect.x)∧W.cell? ⟨w.heap.size+2,1,none⟩=Option.some (.int .i64 rect.y)∧W.cell? ⟨w.heap.size+2,2,none⟩=Option.some (.int .i64 rect.w)∧W.cell? ⟨w.heap.size+2,3,none⟩=Option.some (.int .i64 rect.h)) (first|with_reducible exact⟨(HC.out.drew.at (B:=w.heap.size) (l:=[.int .i64 y0,.int .i64 y1,.int .i64 y2,.int .i64 y3,.int .i64 y4,.int .i64 y5,.int .i64 y6,.int .i64 y7]) (by simp)).row 4 _ rfl,(HC.out.drew.at (B:=w.heap.size) (l:=[.int .i64 y0,.int .i64 y1,.int .i64 y2,.int .i64 y3,.int .i64 y4,.int .i64 y5,.int .i64 y6,.int .i64 y7]) (by simp)).row 5 _ rfl,(HC.out.drew.at (B:=w.heap.size) (l:=[.int .i64 y0,.int .i64 y1,.int .i64 y2,.int .i64 y3,.int .i64 y4,.int .i64 y5,.int .i64 y6,.int .i64 y7]) (by simp)).row 6 _ rfl,(HC.out.drew.at (B:=w.heap.size) (l:=[.int .i64 y0,.int .i64 y1,.int .i64 y2,.int .i64 y3,.int .i64 y4,.int .i64 y5,.int .i64 y6,.int .i64 y7]) (by simp)).row 7 _ rfl,(HC.out.drew.at (B:=w.heap.size+2) (l:=rcC rect) (by simp)).row 0 _ rfl,(HC.out.drew.at (B:=w.heap.size+2) (l:=rcC rect) (by simp)).row 1 _ rfl,(HC.out.drew.at (B:=w.heap.size+2) (l:=rcC rect) (by simp)).row 2 _ rfl,(HC.out.drew.at (B:=w.heap.size+2) (l:=rcC rect) (by simp)).row 3 _ rfl⟩|with_reducible exact⟨(HC2.out.at (B:=w.heap.size) (l:=[.int .i64 y0,.int .i64 y1,.int .i64 y2,.int .i64 y3,.int .i64 y4,.int .i64 y5,.int .i64 y6,.int .i64 y7]) (by simp)).row 4 _ rfl,(HC2.out.at (B:=w.heap.size) (l:=[.int .i64 y0,.int .i64 y1,.int .i64 y2,.int .i64 y3,.int .i64 y4,.int .i64 y5,.int .i64 y6,.int .i64 y7]) (by simp)).row 5 _ rfl,(HC2.out.at (B:=w.heap.size) (l:=[.int .i64 y0,.int .i64 y1,.int .i64 y2,.int .i64 y3,.int .i64 y4,.int .i64 y5,.int .i64 y6,.int .i64 y7]) (by simp)).row 6 _ rfl,(HC2.out.at (B:=w.heap.size) (l:=[.int .i64 y0,.int .i64 y1,.int .i64 y2,.int .i64 y3,.int .i64 y4,.int .i64 y5,.int .i64 y6,.int .i64 y7]) (by simp)).row 7 _ rfl,(HC2.out.at (B:=w.heap.size+2) (l:=rcC rect) (by simp)).row 0 _ rfl,(HC2.out.at (B:=w.heap.size+2) (l:=rcC rect) (by simp)).row 1 _ rfl,(HC2.out.at (B:=w.heap.size+2) (l:=rcC rect) (by simp)).row 2 _ rfl,(HC2.out.at (B:=w.heap.size+2) (l:=rcC rect) (by simp)).row 3 _ rfl⟩|with_reducible exact⟨((HC2.out.push [.int .i64 S1.x,.int .i64 S1.y,.int .i64 S1.w,.int .i64 S1.h,.int .i64 rect.x,.int .i64 rect.y,.int .i64 rect.w,.int .i64 rect.h] 29).at (B:=w.heap.size) (l:=[.int .i64 y0,.int .i64 y1,.int .i64 y2,.int .i64 y3,.int .i64 y4,.int .i64 y5,.int .i64 y6,.int .i64 y7]) (by simp)).row 4 _ rfl,((HC2.out.push [.int .i64 S1.x,.int .i64 S1.y,.int .i64 S1.w,.int .i64 S1.h,.int .i64 rect.x,.int .i64 rect.y,.int .i64 rect.w,.int .i64 rect.h] 29).at (B:=w.heap.size) (l:=[.int .i64 y0,.int .i64 y1,.int .i64 y2,.int .i64 y3,.int .i64 y4,.int .i64 y5,.int .i64 y6,.int .i64 y7]) (by simp)).row 5 _ rfl,((HC2.out.push [.int .i64 S1.x,.int .i64 S1.y,.int .i64 S1.w,.int .i64 S1.h,.int .i64 rect.x,.int .i64 rect.y,.int .i64 rect.w,.int .i64 rect.h] 29).at (B:=w.heap.size) (l:=[.int .i64 y0,.int .i64 y1,.int .i64 y2,.int .i64 y3,.int .i64 y4,.int .i64 y5,.int .i64 y6,.int .i64 y7]) (by simp)).row 6 _ rfl,((HC2.out.push [.int .i64 S1.x,.int .i64 S1.y,.int .i64 S1.w,.int .i64 S1.h,.int .i64 rect.x,.int .i64 rect.y,.int .i64 rect.w,.int .i64 rect.h] 29).at (B:=w.heap.size) (l:=[.int .i64 y0,.int .i64 y1,.int .i64 y2,.int .i64 y3,.int .i64 y4,.int .i64 y5,.int .i64 y6,.int .i64 y7]) (by simp)).row 7 _ rfl,((HC2.out.push [.int .i64 S1.x,.int .i64 S1.y,.int .i64 S1.w,.int .i64 S1.h,.int .i64 rect.x,.int .i64 rect.y,.int .i64 rect.w,.int .i64 rect.h] 29).at (B:=w.heap.size+2) (l:=rcC rect) (by simp)).row 0 _ rfl,((HC2.out.push [.int .i64 S1.x,.int .i64 S1.y,.int .i64 S1.w,.int .i64 S1.h,.int .i64 rect.x,.int .i64 rect.y,.int .i64 rect.w,.int .i64 rect.h] 29).at (B:=w.heap.size+2) (l:=rcC rect) (by simp)).row 1 _ rfl,((HC2.out.push [.int .i64 S1.x,.int .i64 S1.y,.int .i64 S1.w,.int .i64 S1.h,.int .i64 rect.x,.int .i64 rect.y,.int .i64 rect.w,.int .i64 rect.h] 29).at (B:=w.heap.size+2) (l:=rcC rect) (by simp)).row 2 _ rfl,((HC2.out.push [.int .i64 S1.x,.int .i64 S1.y,.int .i64 S1.w,.int .i64 S1.h,.int .i64 rect.x,.int .i64 rect.y,.int .i64 rect.w,.int .i64 rect.h] 29).at (B:=w.heap.size+2) (l:=rcC rect) (by simp)).row 3 _ rfl⟩) (first
  | (go_at_call 7;(with_reducible refine(KR1.out _).mono ?_);rintro e w8 ⟨rfl,hb⟩;have HC2:=hid (HC.out.drew.below hb);clear hb)
  | fail)) | fail
 obtain⟨X7,hX7⟩:∃X7,X7=w8.heap.size:=⟨_,rfl⟩
 have HD:=hid (show AzAt [(X7,rcC S1++rcC rect),(R1,rcC R),(gb,plC Bt),(g,plC L),(w.heap.size+2,rcC rect),(w.heap.size+1,plC [odd]),(w.heap.size,[.int .i64 y0,.int .i64 y1,.int .i64 y2,.int .i64 y3,.int .i64 y4,.int .i64 y5,.int .i64 y6,.int .i64 y7])] w (w8.alloc (.cells #[.int .i64 S1.x,.int .i64 S1.y,.int .i64 S1.w,.int .i64 S1.h,.int .i64 rect.x,.int .i64 rect.y,.int .i64 rect.w,.int .i64 rect.h] 29)) from by rw[hX7];exact HC2.out.push [.int .i64 S1.x,.int .i64 S1.y,.int .i64 S1.w,.int .i64 S1.h,.int .i64 rect.x,.int .i64 rect.y,.int .i64 rect.w,.int .i64 rect.h] 29)
 rw[←hX7]
 generalize w8.alloc (.cells #[.int .i64 S1.x,.int .i64 S1.y,.int .i64 S1.w,.int .i64 S1.h,.int .i64 rect.x,.int .i64 rect.y,.int .i64 rect.w,.int .i64 rect.h] 29)=W8 at HD⊢
 clear HC HC2 KR1 hX7
 go_wp2
 go_loopw [68] (fun v68 wr=>∃i:Nat,i≤2∧v68=.int .i64 (i:Int)∧AzAt [(X7,rcC S1++rcC rect),(R1,rcC R),(gb,plC Bt),(g,plC L),(w.heap.size+2,rcC rect),(w.heap.size+1,plC [odd]),(w.heap.size,[.int .i64 y0,.int .i64 y1,.int .i64 y2,.int .i64 y3,.int .i64 y4,.int .i64 y5,.int .i64 y6,.int .i64 y7])] w wr) (fun v68 _=>2-(intOf v68).toNat)
 case atStart=>exact⟨0,by omega,rfl,HD.out⟩
 case round=>
  obtain⟨i,hi,rfl,hA⟩:=hrel
  have HA:=hid hA
  clear hA HD
  by_cases hlt:i<2
  ·obtain⟨s,s0,s1,s2,s3⟩:∃s:Rc,wr.cell? ⟨X7,i*4,none⟩=Option.some (.int .i64 s.x)∧wr.cell? ⟨X7,i*4+1,none⟩=Option.some (.int .i64 s.y)∧wr.cell? ⟨X7,i*4+2,none⟩=Option.some (.int .i64 s.w)∧wr.cell? ⟨X7,i*4+3,none⟩=Option.some (.int .i64 s.h):=by
    have ha:=(HA.out.at (B:=X7) (l:=rcC S1++rcC rect) (by simp)).row
    obtain rfl|rfl:i=0∨i=1:=by omega
    ·exact⟨S1,ha 0 _ rfl,ha 1 _ rfl,ha 2 _ rfl,ha 3 _ rfl⟩
    ·exact⟨rect,ha 4 _ rfl,ha 5 _ rfl,ha 6 _ rfl,ha 7 _ rfl⟩
   have i1:(0:Int)≤(i:Int):=by omega
   have i2:(i:Int)<2:=by omega
   have i3:decide ((i:Int)<2)=true:=decide_eq_true i2
   have i4:decide (i<2)=true:=decide_eq_true hlt
   have g5:IntKind.i64.wrap ((i:Int)+1)=(i:Int)+1:=IntWalk.i64_in _ (by omega)
   have C1:=hid (fun W=>fR_ s W)
   have C2:=hid (fun W=>jO_ s W)
   have C3:=hid (fun W=>sI_ R s W)
   have C4:=hid (fun W=>aDT R s W)
   have C5:=hid (fun W=>nH_ R s W)
   have C6:=hid (fun W=>aAF R s W)
   have C7:=hid (fun W=>nH_ s R W)
   have C8:=hid (fun W=>aAF s R W)
   have C9:=hid (fun W=>sI_ s R W)
   have C10:=hid (fun W=>aDT s R W)
   generalize vRc s=b1 at C1 C2
   generalize hM_ R s=b2 at C3 C4
   generalize eZ_ R s=b3 at C5 C6
   generalize eZ_ s R=b4 at C7 C8
   generalize hM_ s R=b5 at C9 C10
   have e1:(b1 != b1)=false:=by simp
   have e2:(b2 != b2)=false:=by simp
   have e3:(b3 != b3)=false:=by simp
   have e4:(b4 != b4)=false:=by simp
   have e5:(b5 != b5)=false:=by simp
   go_wp2
   have HS:=hid (HA.out.push [.int .i64 s.x,.int .i64 s.y,.int .i64 s.w,.int .i64 s.h] 29)
   obtain⟨Y,hY⟩:∃Y,Y=wr.heap.size:=⟨_,rfl⟩
   rw[←hY] at HS⊢
   generalize wr.alloc (.cells #[.int .i64 s.x,.int .i64 s.y,.int .i64 s.w,.int .i64 s.h] 29)=W1 at HS⊢
   clear s0 s1 s2 s3 hY HA
   have h_:=HS.out.at (B:=Y) (l:=[.int .i64 s.x,.int .i64 s.y,.int .i64 s.w,.int .i64 s.h]) (by simp)
   have x0:=cell_regrown (h_.row 0 _ rfl)
   have x1:=cell_regrown (h_.row 1 _ rfl)
   have x2:=cell_regrown (h_.row 2 _ rfl)
   have x3:=cell_regrown (h_.row 3 _ rfl)
   clear h_
   have h_:=HS.out.at (B:=R1) (l:=rcC R) (by simp)
   have x4:=cell_regrown (h_.row 0 _ rfl)
   have x5:=cell_regrown (h_.row 1 _ rfl)
   have x6:=cell_regrown (h_.row 2 _ rfl)
   have x7:=cell_regrown (h_.row 3 _ rfl)
   clear h_
   have c1:=fun d os=>Calls.regrown_of (d:=d) (os:=os) (C1.out (grow (redrawn W1 d) os))
   have c2:=fun d os=>Calls.regrown_of (d:=d) (os:=os) (C2.out (grow (redrawn W1 d) os))
   have c3:=fun d os=>Calls.regrown_of (d:=d) (os:=os) (C3.out (grow (redrawn W1 d) os))
   have c4:=fun d os=>Calls.regrown_of (d:=d) (os:=os) (C4.out (grow (redrawn W1 d) os))
   have c5:=fun d os=>Calls.regrown_of (d:=d) (os:=os) (C5.out (grow (redrawn W1 d) os))
   have c6:=fun d os=>Calls.regrown_of (d:=d) (os:=os) (C6.out (grow (redrawn W1 d) os))
   have c7:=fun d os=>Calls.regrown_of (d:=d) (os:=os) (C7.out (grow (redrawn W1 d) os))
   have c8:=fun d os=>Calls.regrown_of (d:=d) (os:=os) (C8.out (grow (redrawn W1 d) os))
   have c9:=fun d os=>Calls.regrown_of (d:=d) (os:=os) (C9.out (grow (redrawn W1 d) os))
   have c10:=fun d os=>Calls.regrown_of (d:=d) (os:=os) (C10.out (grow (redrawn W1 d) os))
   refine wp_region_quiet_below (by kernel_rfl) (by kernel_rfl) ?_
   repeat (go_big_quiet_step (with_reducible first|exact c1 _ _|exact c2 _ _|exact c3 _ _|exact c4 _ _|exact c5 _ _|exact c6 _ _|exact c7 _ _|exact c8 _ _|exact c9 _ _|exact c10 _ _))
   refine wpQuiet_nil ?_
   intro W2 hw2
   have hb2:Below W1.heap.size W1 W2:=by obtain⟨⟨dq,osq⟩,hw7⟩:=hw2;rw[hw7];exact below_regrown W1 dq osq
   have HS2:=hid ((HS.out.below hb2).sub (L':=[(X7,rcC S1++rcC rect),(R1,rcC R),(gb,plC Bt),(g,plC L),(w.heap.size+2,rcC rect),(w.heap.size+1,plC [odd]),(w.heap.size,[.int .i64 y0,.int .i64 y1,.int .i64 y2,.int .i64 y3,.int .i64 y4,.int .i64 y5,.int .i64 y6,.int .i64 y7])]) (fun x hx=>List.mem_cons_of_mem _ hx))
   clear hw2 hb2 x0 x1 x2 x3 x4 x5 x6 x7 c1 c2 c3 c4 c5 c6 c7 c8 c9 c10 HS
   go_wp2
   exact⟨⟨i+1,by omega,by go_num,HS2.out⟩,by simp only[intOf];omega⟩
  ·obtain rfl:i=2:=by omega
   have HE:=hid (HA.out.sub (L':=[(R1,rcC R),(gb,plC Bt),(g,plC L),(w.heap.size+2,rcC rect),(w.heap.size+1,plC [odd]),(w.heap.size,[.int .i64 y0,.int .i64 y1,.int .i64 y2,.int .i64 y3,.int .i64 y4,.int .i64 y5,.int .i64 y6,.int .i64 y7])]) (fun x hx=>List.mem_cons_of_mem _ hx))
   clear HA
   obtain⟨kk,hkk⟩:∃kk,kk=min rn 41:=⟨_,rfl⟩
   have hmin:min (rn:Int) 41=(kk:Int):=by omega
   have hkn:kk≤rn:=by omega
   have hk41:kk≤41:=by omega
   have hkc:kk≤rcap:=by omega
   have j1:(0:Int)≤(kk:Int):=by omega
   have j2:(kk:Int)≤(rcap:Int):=by omega
   have i3:decide ((2:Int)<2)=false:=rfl
   clear hkk
   go_wp2
   have HF:=hid (HE.out.push [.slice (some ⟨g,0,none⟩) m c,.slice (some ⟨gb,0,none⟩) m cb,.slice ra kk rcap,.slice none 0 0] 27)
   obtain⟨X,hX⟩:∃X,X=wr.heap.size:=⟨_,rfl⟩
   rw[←hX] at HF⊢
   generalize wr.alloc (.cells #[.slice (some ⟨g,0,none⟩) m c,.slice (some ⟨gb,0,none⟩) m cb,.slice ra kk rcap,.slice none 0 0] 27)=W9 at HF⊢
   clear hX HE hmin j1 j2
   refine loop2 y0 y1 y2 y3 y4 y5 y6 y7 _ HI HML hBl hm12 hk41 hkn HRR rfl ⟨rfl,rfl,rfl,rfl,rfl,rfl⟩ HF _ ?_
   intro ys W hyl hyv hA
   obtain⟨v',hv',hvv⟩:=eD_ ys hyl
   have s8:=Option.some.inj ((hvv 8 (by omega)).symm.trans hyv.1)
   have s10:=Option.some.inj ((hvv 10 (by omega)).symm.trans hyv.2)
   have HA:=hid hA
   rw[hv']
   unfold hO_
   rw[s8,s10]
   clear hv' hvv hyv hA HF s8 s10
   dsimp only
   have c1:=fun d os=>Calls.regrown_of (d:=d) (os:=os) (iI_ odd (grow (redrawn W d) os))
   have c2:=fun d os=>Calls.regrown_of (d:=d) (os:=os) (mU_ odd (grow (redrawn W d) os))
   have h_:=HA.out.at (B:=w.heap.size+1) (l:=plC [odd]) (by simp)
   have x0:=cell_regrown (h_.row 0 _ rfl)
   have x1:=cell_regrown (h_.row 1 _ rfl)
   clear h_
   generalize vP odd=bo at c1 c2
   have e1:(bo==bo)=true:=by simp
   go_wp2
   refine wp_region_quiet_below (by kernel_rfl) (by kernel_rfl) ?_
   repeat (go_big_quiet_step (with_reducible first|exact c1 _ _|exact c2 _ _))
   refine wpQuiet_nil ?_
   intro W2 hw2
   have hb2:Below W.heap.size W W2:=by obtain⟨⟨dq,osq⟩,hw7⟩:=hw2;rw[hw7];exact below_regrown W dq osq
   have HZZ:=hid (HA.out.below hb2)
   clear hw2 hb2 c1 c2 x0 x1
   go_wp2
   go_ret
   exact⟨by first|rfl|(simp),HZZ.out.bw⟩
end Go.Proofs.YtjfdefglpoancaaGreatDoor
namespace Go.Proofs.YtjfdefglpoancaaGreatDoor.planeMatchesReference
open Go.ChangeShapes Go.WideShapes Go.ChangeAt Go.RowKit
open Go.ChangeMaps (open_string shut_string)
theorem aLG (H:Type) (enc:TypeId×Value→H) (W:World) (base:Nat) (args:Array Value) (ds gs:List (DataW H)) (before:List MemPlace)
  (hval:∀(j:Nat) t v,Tryz.f3.params[j]?=some t→args[j]?=some v→Value.okWide Tryz.prog W .any base t v)
  (hW:DataW.Whole enc Tryz.prog Tryz.f3.params.toList Rows.planeMatchesReferenceSpec.vars false W args.toList ds gs before) (hL:laidMetH Tryz.prog Rows.planeMatchesReferenceRow.laid W) (_hs:W.ShapedOpen Tryz.prog) :
  Calls Tryz.prog 3 args W fun e W'=>∃v,e=.returned v∧Rows.planeMatchesReferenceSpec.post enc Tryz.prog Tryz.f3 false true false false W args v W':=by
 have hW':=hW
 obtain⟨p,q,hA0,hV,rfl,hfz,hnd⟩:=hW
 have hA:DataW.TrodAll enc Tryz.prog W 0 (fun _=>true) true Tryz.f3.params.toList args.toList ds p:=hA0
 rw[Tryz.params3] at hA hval
 obtain⟨v0,vs0,d0,ds0,p0,q0,hargs0,rfl,rfl,h0,r0⟩:=trodAll_cons hA
 obtain⟨v1,vs1,d1,ds1,p1,q1,hargs1,rfl,rfl,h1,r1⟩:=trodAll_cons r0
 obtain rfl:vs0=v1::vs1:=hargs1
 obtain⟨v2,vs2,d2,ds2,p2,q2,hargs2,rfl,rfl,h2,r2⟩:=trodAll_cons r1
 obtain rfl:vs1=v2::vs2:=hargs2
 obtain⟨v3,vs3,d3,ds3,p3,q3,hargs3,rfl,rfl,h3,r3⟩:=trodAll_cons r2
 obtain rfl:vs2=v3::vs3:=hargs3
 obtain⟨v4,vs4,d4,ds4,p4,q4,hargs4,rfl,rfl,h4,r4⟩:=trodAll_cons r3
 obtain rfl:vs3=v4::vs4:=hargs4
 obtain⟨v5,vs5,d5,ds5,p5,q5,hargs5,rfl,rfl,h5,r5⟩:=trodAll_cons r4
 obtain rfl:vs4=v5::vs5:=hargs5
 obtain⟨rfl,rfl,rfl⟩:=trodAll_nil r5
 obtain rfl:args=#[v0,v1,v2,v3,v4,v5]:=by cases args;simp_all
 obtain⟨rfl,rfl⟩:=trodVars_none hV
 have k0:=h0
 have hlt0:∀x∈p0,x.block<W.heap.size:=fun x hx=>by simpa using hW'.lt x (by simp[hx])
 have k1:=h1
 have hlt1:∀x∈p1,x.block<W.heap.size:=fun x hx=>by simpa using hW'.lt x (by simp[hx])
 have k2:=h2
 have hlt2:∀x∈p2,x.block<W.heap.size:=fun x hx=>by simpa using hW'.lt x (by simp[hx])
 have k3:=h3
 have hlt3:∀x∈p3,x.block<W.heap.size:=fun x hx=>by simpa using hW'.lt x (by simp[hx])
 have k4:=h4
 have hlt4:∀x∈p4,x.block<W.heap.size:=fun x hx=>by simpa using hW'.lt x (by simp[hx])
 have k5:=h5
 have hlt5:∀x∈p5,x.block<W.heap.size:=fun x hx=>by simpa using hW'.lt x (by simp[hx])
 obtain⟨a0,n0,c0,xs0,rfl,hn0,hX0⟩:=aOY (hval 0 22 v0 rfl rfl) h0
 obtain⟨s1_0,s1_1,s1_2,s1_3,s1_4,s1_5,s1_6,s1_7,rfl,hz1_0,hz1_1⟩:=xS_ (hval 1 24 v1 rfl rfl) h1
 obtain⟨s2_0,s2_1,rfl,hz2_0,hz2_1⟩:=aBR (hval 2 26 v2 rfl rfl) h2
 obtain⟨a3,n3,c3,ps3,rfl,hn3,hm3,hc3,hP3,_⟩:=xR_ (hval 3 27 v3 rfl rfl) h3
 obtain⟨s4_0,s4_1,s4_2,s4_3,rfl,_⟩:=aFC (hval 4 29 v4 rfl rfl) h4
 obtain⟨s5,rfl,rfl,rfl,hz5⟩:=open_int Tryz.underlying3 (hval 5 3 v5 rfl rfl) h5
 clear hA0
 simp only[List.append_nil] at hW'
 refine(fV_ s1_0 s1_1 s1_2 s1_3 s1_4 s1_5 s1_6 s1_7 ⟨s2_0,s2_1⟩ ⟨s4_0,s4_1,s4_2,s4_3⟩ s5 (bounds_i64 hz1_0.1) (bounds_i64 hz1_0.2.1) (bounds_i64 hz1_0.2.2.1) (bounds_i64 hz1_0.2.2.2) (bounds_i64 hz1_1.1) (bounds_i64 hz1_1.2.1) (bounds_i64 hz1_1.2.2.1) (bounds_i64 hz1_1.2.2.2) (bounds_i64 hz5) hn0 hn3 hm3 hc3 W hX0 hP3 (aPY hL)).mono fun e W' ⟨he,hb⟩=>?_
 subst he
 exact⟨_,rfl,aJO hW' (fun _ _ _=>trodAll_cons_mk (shut_bool Tryz.underlying4 _) trodAll_mk0) (trodAll_cons_mk (Below.trod iU_ (by kernel_rfl) (of_decide_eq_true (by kernel_rfl)) k0 hb hlt0) (trodAll_cons_mk (Below.trod iU_ (by kernel_rfl) (of_decide_eq_true (by kernel_rfl)) k1 hb hlt1) (trodAll_cons_mk (Below.trod iU_ (by kernel_rfl) (of_decide_eq_true (by kernel_rfl)) k2 hb hlt2) (trodAll_cons_mk (Below.trod iU_ (by kernel_rfl) (of_decide_eq_true (by kernel_rfl)) k3 hb hlt3) (trodAll_cons_mk (Below.trod iU_ (by kernel_rfl) (of_decide_eq_true (by kernel_rfl)) k4 hb hlt4) (trodAll_cons_mk (Below.trod iU_ (by kernel_rfl) (of_decide_eq_true (by kernel_rfl)) k5 hb hlt5) trodAll_mk0)))))) rfl hb⟩
theorem reads (os:Os) {H:Type} (enc:TypeId×Value→H):∃places,DataW.whole enc Tryz.prog ((oZ_ os).forCall (fun _ _=>0) ⟨#[],#[.slice none 0 0,.agg #[.int .i64 0,.int .i64 0,.int .i64 0,.int .i64 0,.int .i64 0,.int .i64 0,.int .i64 0,.int .i64 0],.agg #[.int .i64 0,.int .i64 0],.slice none 0 0,.agg #[.int .i64 0,.int .i64 0,.int .i64 0,.int .i64 0],.int .i64 0],[]⟩).memory Tryz.f3.params.toList Rows.planeMatchesReferenceSpec.vars false (#[.slice none 0 0,.agg #[.int .i64 0,.int .i64 0,.int .i64 0,.int .i64 0,.int .i64 0,.int .i64 0,.int .i64 0,.int .i64 0],.agg #[.int .i64 0,.int .i64 0],.slice none 0 0,.agg #[.int .i64 0,.int .i64 0,.int .i64 0,.int .i64 0],.int .i64 0]:Array Value).toList 8=some ([.nil,.agg [.agg [.lit (.int .i64 0),.lit (.int .i64 0),.lit (.int .i64 0),.lit (.int .i64 0)],.agg [.lit (.int .i64 0),.lit (.int .i64 0),.lit (.int .i64 0),.lit (.int .i64 0)]],.agg [.lit (.int .i64 0),.lit (.int .i64 0)],.nil,.agg [.lit (.int .i64 0),.lit (.int .i64 0),.lit (.int .i64 0),.lit (.int .i64 0)],.lit (.int .i64 0)],[],places):=
 ⟨[],by kernel_rfl⟩
theorem lifted (os:Os) (started:os.Started) (H:Type) (enc:TypeId×Value→H) (F:Stop.Interp) :
  ReturnsInHanded {} Tryz.checked os 3 .any ((OpenSpec.ofChange Rows.planeMatchesReferenceSpec).preRow enc Tryz.prog Tryz.f3 Rows.planeMatchesReferenceRow.domain false Rows.planeMatchesReferenceRow.laid) (((OpenSpec.ofChange Rows.planeMatchesReferenceSpec).at F).post enc Tryz.prog Tryz.f3 false true false false):=by
 obtain⟨places,hx⟩:=reads os enc
 refine returnsInHanded_of_row (C:=Tryz.checked) (s:=OpenSpec.ofChange Rows.planeMatchesReferenceSpec) own started (by kernel_rfl) Tryz.func3
  (witness_row_at (enc:=enc) (C:=Tryz.checked) false (oZ_ os) #[.slice none 0 0,.agg #[.int .i64 0,.int .i64 0,.int .i64 0,.int .i64 0,.int .i64 0,.int .i64 0,.int .i64 0,.int .i64 0],.agg #[.int .i64 0,.int .i64 0],.slice none 0 0,.agg #[.int .i64 0,.int .i64 0,.int .i64 0,.int .i64 0],.int .i64 0] rfl (by kernel_rfl) (by kernel_rfl) (by kernel_rfl)
   (OpenSpec.preRow_of_cond 8 hx (by kernel_rfl) (fun k hk=>by cases hk) (by kernel_rfl) (aKG os _))) ?_
 intro W base args ds gs before hval hW _ _ _ hL hs _
 exact aLG H enc W base args ds gs before hval hW hL hs
theorem aPX:(Rows.planeMatchesReferenceRow.inPlace==Tryz.prog.inPlace 3)=true:=by kernel_rfl
theorem aPW:(Rows.planeMatchesReferenceRow.unfollowed==Tryz.prog.unfollowed 3)=true:=by kernel_rfl
theorem aPV:(Rows.planeMatchesReferenceRow.recurses==Tryz.prog.recurses 3)=true:=by kernel_rfl
theorem aPU:(Rows.planeMatchesReferenceRow.named==Tryz.prog.varsNamed 3)=true:=by kernel_rfl
theorem joined:joinedFacts Tryz.pinned.checked.prog 3 Tryz.f3 (OpenSpec.ofChange Rows.planeMatchesReferenceSpec).bare Rows.planeMatchesReferenceRow=true:=by
 show joinedFacts Tryz.prog 3 Tryz.f3 (OpenSpec.ofChange Rows.planeMatchesReferenceSpec).bare Rows.planeMatchesReferenceRow=true
 unfold joinedFacts
 rw[aPX,aPW,aPV,aPU]
 kernel_rfl
theorem said:Rows.PlaneMatchesReferenceSaid:=
 OpenClaim.holds_of_cond 3 Tryz.f3 rfl rfl rfl rfl rfl rfl rfl ⟨rfl,rfl,rfl,rfl,rfl⟩ rfl rfl rfl rfl rfl (by kernel_rfl) Tryz.func3 joined
  (of_decide_eq_true (by kernel_rfl)) (by unfold Func.isWrapper;first|(rw[if_pos (by decide +kernel)];kernel_rfl)|(rw[if_neg (by decide +kernel)];exact⟨rfl,rfl⟩))
  (fun os started H enc _ F=>by rw[OpenClaim.pre_eq_preRow];exact lifted os started H enc F)
theorem plain (f : FuncId) (fn : Func) (hf : Tryz.pinned.checked.prog.funcNamed "slatewall/slatewalllaw07.PlaneMatchesReference" = some f) (hfn : Tryz.pinned.checked.prog.funcs[f]? = some fn) :
  true=Tryz.pinned.checked.prog.looks []∧∀(j:Nat) t,fn.params[j]?=some t→Tryz.pinned.checked.prog.wantsStandIn t=false:=by
 obtain rfl : f = 3 := Option.some.inj ((show Tryz.prog.funcNamed "slatewall/slatewalllaw07.PlaneMatchesReference" = some 3 by kernel_rfl).symm.trans hf) |>.symm
 obtain rfl:fn=Tryz.f3:=(Option.some.inj (Tryz.func3.symm.trans hfn)).symm
 refine⟨by kernel_rfl,fun j t ht=>?_⟩
 rw[Tryz.params3] at ht
 have hm:=Array.mem_of_getElem? ht
 simp only[List.mem_toArray,List.mem_cons,List.not_mem_nil,or_false] at hm
 rcases hm with rfl|rfl|rfl|rfl|rfl|rfl
 ·exact(show Tryz.prog.wantsStandIn 22=false by kernel_rfl)
 ·exact(show Tryz.prog.wantsStandIn 24=false by kernel_rfl)
 ·exact(show Tryz.prog.wantsStandIn 26=false by kernel_rfl)
 ·exact(show Tryz.prog.wantsStandIn 27=false by kernel_rfl)
 ·exact(show Tryz.prog.wantsStandIn 29=false by kernel_rfl)
 ·exact(show Tryz.prog.wantsStandIn 3=false by kernel_rfl)
theorem card:Rows.PlaneMatchesReferenceCardSaid:=
 Claim7.holds_tied_plain_at .later [] _ _ _ _ said (fun _ h=>by cases h) (by as_aux_lemma=>kernel_rfl) (fun _ h=>by cases h) planeMatchesReference_row_tie rfl ⟨rfl,rfl⟩ (by as_aux_lemma=>kernel_rfl) rfl plain (by as_aux_lemma=>kernel_rfl)
#print axioms card
end Go.Proofs.YtjfdefglpoancaaGreatDoor.planeMatchesReference
