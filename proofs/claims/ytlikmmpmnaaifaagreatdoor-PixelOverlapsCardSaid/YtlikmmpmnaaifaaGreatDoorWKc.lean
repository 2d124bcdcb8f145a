/-
  The law PixelOverlaps.
-/
import Derived.Lib.QuietBelow
import Derived.Lib.MinMax
import Derived.BigQuiet
import Derived.Deep.CutRange
import Derived.Deep.CutBlock
import Derived.Test.YtlikmmpmnaaifaaGreatDoorZOpn8
import Derived.Test.YtlikmmpmnaaifaaGreatDoorZYx
import Derived.Test.YtlikmmpmnaaifaaGreatDoorZYj
namespace Go.Proofs.YtlikmmpmnaaifaaGreatDoor
open Go.RowKit Go.Shelf Go.Sort
attribute [local go_sem] Oper.semAt_some
set_option maxHeartbeats 16000000 in
set_option maxRecDepth 100000 in
theorem PixelOverlaps_law (y0 y1 y2 y3 y4:Int) {a:Option Addr} {n cap:Nat} {xs:List Q4} (hy0:inI y0) (hy1:inI y1) (hy2:inI y2) (hy3:inI y3) (hy4:inI y4) (hn:xs.length=n) (w:World) (hX:X4At a xs w) (hq:IOps w∧FrOp w) :
  Calls Tryz.prog 6 #[.slice a n cap,.agg #[.int .i64 y0,.int .i64 y1,.int .i64 y2,.int .i64 y3,.int .i64 y4]] w fun e w'=>e=.returned (.bool true)∧Below w.heap.size w w':=by
 obtain⟨y,hy,e0,e1,e2,e3,e4⟩:∃y:Nat→Int,(∀i,inI (y i))∧y0=y 0∧y1=y 1∧y2=y 2∧y3=y 3∧y4=y 4:=⟨fun i=>match i with|0=>y0|1=>y1|2=>y2|3=>y3|_=>y4,fun i=>by match i with|0=>exact hy0|1=>exact hy1|2=>exact hy2|3=>exact hy3|_+4=>exact hy4,rfl,rfl,rfl,rfl,rfl⟩
 have HX:=Lib.hid (show ExAt [] (fun V=>(IOps V∧FrOp V)∧X4At a xs V) w w from⟨AzAt.start w,⟨hq,hX⟩,fun A C h hb=>⟨⟨h.1.1.below hb,h.1.2.below hb⟩,h.2.below hb⟩⟩)
 have H0:=Lib.hid (HX.out.push [.int .i64 y0,.int .i64 y1,.int .i64 y2,.int .i64 y3,.int .i64 y4] 55)
 have KS:=Lib.hid (show ∀W:World,IOps W∧FrOp W→Calls Tryz.prog 38 #[] W fun e W'=>e=.returned (.bool true)∧Below W.heap.size W W' from fun W h=>xT_ (Lib.hid h))
 have KF:=Lib.hid (show ∀W:World,Calls Tryz.prog 39 #[.agg #[.int .i64 y0,.int .i64 y1,.int .i64 y2,.int .i64 y3,.int .i64 y4]] W fun e W'=>e=.returned (.agg #[.int .i64 (frN y).x,.int .i64 (frN y).y,.int .i64 (frN y).w,.int .i64 (frN y).h,.int .i64 (frN y).s,.slice none 0 0])∧Below W.heap.size W W' from fun W=>by rw[e0,e1,e2,e3,e4];exact tT_ hy W)
 have KH:=Lib.hid (show ∀W:World,X4At a xs W→Calls Tryz.prog 43 #[.slice a n cap,.bool true] W fun e W'=>∃a1 c1,e=.returned (.slice a1 (shsK true xs (min n 5)).length c1)∧ShsAt a1 (shsK true xs (min n 5)) W'∧Below W.heap.size W W' from fun W h=>(zV_ (c:=cap) true hn W h).mono fun _ _ h=>h.parts)
 have HS:=Lib.hid (And.intro (aNZ true xs (k:=min n 5) (by omega)) (And.intro (aJI true xs (min n 5)) (aBS xs (min n 5))))
 have HLN:=Lib.hid (show(shsK true xs (min n 5)).length≤5 by rw[xR_];omega)
 have HB:=Lib.hid (pA_ y)
 have HFO:=Lib.hid (aGF y)
 generalize shsK true xs (min n 5)=ss at *
 generalize frN y=g at *
 obtain⟨ns,hns⟩:∃ns,ns=ss.length:=⟨_,rfl⟩
 rw[←hns] at KH HLN
 have HNS:=Lib.hid hns
 obtain⟨ks,hks⟩:∃ks,ks=aF_ g ss:=⟨_,rfl⟩
 obtain⟨nk,hnk⟩:∃nk,nk=ks.length:=⟨_,rfl⟩
 obtain⟨rs,hrs⟩:∃rs,rs=eT_ ks:=⟨_,rfl⟩
 obtain⟨nr,hnr⟩:∃nr,nr=rs.length:=⟨_,rfl⟩
 have hn5:ns≤5:=HLN.out
 have HPO:=Lib.hid (show PicOk g ks from by rw[hks];exact gZ_ HFO.out (by have:=HNS.out;omega) HS.out.1 HS.out.2.1)
 have KP:=Lib.hid (show ∀(W:World) (a1:Option Addr) (c1:Nat),IOps W∧FrOp W→ShsAt a1 ss W→Calls Tryz.prog 41 #[.slice a1 ns c1,.agg #[.int .i64 g.x,.int .i64 g.y,.int .i64 g.w,.int .i64 g.h,.int .i64 g.s,.slice none 0 0]] W fun e W'=>(∃a c,e=.returned (.tuple #[.agg #[.int .i64 g.x,.int .i64 g.y,.int .i64 g.w,.int .i64 g.h,.int .i64 g.s,.slice a nk c],.int .i64 0])∧InksAt a ks W')∧Below W.heap.size W W' from fun W a1 c1 hI hS=>by
  have:=mO_ (sn:=ns) (sc:=c1) (f:=g) (Lib.hid hI) (Lib.hid HFO.out) (Lib.hid hS) (Lib.hid HNS.out.symm) (by omega) (Lib.hid HS.out.1) (Lib.hid HS.out.2.1)
  rw[←hks,←hnk] at this
  exact this.mono fun e W' ⟨⟨a,c,h1,h2⟩,h3⟩=>⟨⟨a,c,h1,h2.at⟩,h3⟩)
 have KR:=Lib.hid (show ∀(W:World) (a2:Option Addr) (c2:Nat),InksAt a2 ks W→Calls Tryz.prog 45 #[.agg #[.int .i64 g.x,.int .i64 g.y,.int .i64 g.w,.int .i64 g.h,.int .i64 g.s,.slice a2 nk c2]] W fun e W'=>(∃a c,e=.returned (.tuple #[.slice a nr c,.int .i64 0])∧CsAt a (seC rs) W')∧Below W.heap.size W W' from fun W a2 c2 h=>by
  have:=aMT (f:=g) (c:=c2) (n:=nk) hnk.symm (bO_.2 HPO.out) W h
  rw[←hrs] at this
  exact this.mono fun e W' ⟨a',c',h1,h2,h3⟩=>⟨⟨a',c',by rw[hnr];exact h1,h2⟩,h3⟩)
 have hnr8:nr≤800:=by
  have hl:=HPO.out.len
  have h:=rA_ (fun e:Ik×Nat=>rowL e.2 e.1 ks.zipIdx) 40 (fun x=>by have:=lH_ x.2 x.1 ks.zipIdx;rw[List.length_zipIdx] at this;omega) ks.zipIdx
  rw[List.length_zipIdx] at h
  rw[hnr,hrs]
  show(ks.zipIdx.flatMap fun e=>rowL e.2 e.1 ks.zipIdx).length≤800
  omega
 have HKS:=Lib.hid (And.intro hks (And.intro hrs (And.intro hnk hnr)))
 have hgb:=HB.out
 obtain⟨Wn,hWn⟩:∃Wn:Nat,g.w=(Wn:Int):=⟨g.w.toNat,by omega⟩
 have HWN:=Lib.hid (show g.w=(Wn:Int)∧g.w.toNat=Wn∧1≤Wn from⟨hWn,by omega,by omega⟩)
 obtain⟨NP,hNP⟩:∃NP,NP=npx g:=⟨_,rfl⟩
 have HNP:=Lib.hid (show NP=npx g∧1≤NP∧NP≤400 from⟨hNP,by rw[hNP];exact qP_ HFO.out⟩)
 have gWH:IntKind.i64.wrap (g.w*g.h)=(NP:Int):=by
  have h1:=mU_ HFO.out
  have h2:=HNP.out
  rw[←hNP] at h1
  rw[←h1]
  exact IntWalk.i64_in _ (by omega)
 clear hns e0 e1 e2 e3 e4 hX hq HX hks hnk hrs hnr hWn hNP hgb
 go_enter Tryz.func6,Tryz.ntmps6
 go_wp2_with (first
  | (go_at_call 38;(with_reducible refine(KS.out _ H0.out.p.1).mono ?_);rintro e wa1 ⟨rfl,hb⟩;have H1:=Lib.hid (H0.out.below hb);clear hb)
  | (go_at_call 43;(with_reducible refine(KH.out _ H1.out.p.2).mono ?_);rintro e wa2 ⟨a1,c1,rfl,hsh,hb⟩;have H2:=Lib.hid ((H1.out.below hb).add hsh fun _ _ h=>h.below);clear hb hsh;have z0:=H2.out.az.ce 0 0 rfl rfl;have z1:=H2.out.az.ce 0 1 rfl rfl;have z2:=H2.out.az.ce 0 2 rfl rfl;have z3:=H2.out.az.ce 0 3 rfl rfl;have z4:=H2.out.az.ce 0 4 rfl rfl)
  | (go_at_call 39;(with_reducible refine(KF.out _).mono ?_);rintro e wa3 ⟨rfl,hb⟩;have H3:=Lib.hid ((H2.out.below hb).push [.int .i64 g.x,.int .i64 g.y,.int .i64 g.w,.int .i64 g.h,.int .i64 g.s,.slice none 0 0] 58);clear hb z0 z1 z2 z3 z4;have z0:=H3.out.az.ce 0 0 rfl rfl;have z1:=H3.out.az.ce 0 1 rfl rfl;have z2:=H3.out.az.ce 0 2 rfl rfl;have z3:=H3.out.az.ce 0 3 rfl rfl;have z4:=H3.out.az.ce 0 4 rfl rfl;have z5:=H3.out.az.ce 0 5 rfl rfl)
  | (go_at_call 41;(with_reducible refine(KP.out _ _ _ H3.out.p.1.1 H3.out.p.2).mono ?_);rintro e wa4 ⟨⟨aI,cI,rfl,hk⟩,hb⟩;have H4:=Lib.hid (((H3.out.below hb).add hk fun _ _ h=>h.below).push [.int .i64 g.x,.int .i64 g.y,.int .i64 g.w,.int .i64 g.h,.int .i64 g.s,.slice aI nk cI] 58);clear hb hk z0 z1 z2 z3 z4 z5;have z0:=H4.out.az.ce 0 0 rfl rfl;have z1:=H4.out.az.ce 0 1 rfl rfl;have z2:=H4.out.az.ce 0 2 rfl rfl;have z3:=H4.out.az.ce 0 3 rfl rfl;have z4:=H4.out.az.ce 0 4 rfl rfl;have z5:=H4.out.az.ce 0 5 rfl rfl)
  | (go_at_call 45;(with_reducible refine(KR.out _ _ _ H4.out.p.2).mono ?_);rintro e wa5 ⟨⟨aS,cS,rfl,hcs⟩,hb⟩;have H5:=Lib.hid (((H4.out.below hb).add hcs fun _ _ h=>h.below).weak (Q:=fun V=>(ShsAt a1 ss V∧InksAt aI ks V)∧CsAt aS (seC rs) V) (fun _ h=>⟨⟨h.1.1.2,h.1.2⟩,h.2⟩) (fun A C h hb=>⟨⟨h.1.1.below hb,h.1.2.below hb⟩,h.2.below hb⟩));clear hb hcs z0 z1 z2 z3 z4 z5)
  | fail)
 obtain⟨X,hX⟩:∃X,X=wa3.heap.size:=⟨_,rfl⟩
 obtain⟨Xp,hXp⟩:∃X,X=wa4.heap.size:=⟨_,rfl⟩
 rw[←hX,←hXp] at H5⊢
 clear hX hXp H0 H1 H2 H3 H4 KS KF KH KP KR
 have KV:=Lib.hid (fun(r:Rc) (W:World)=>hQ_ r W)
 go_loopw [11] (fun v11 wr=>∃i:Nat,i≤ns∧v11=.int .i64 (i:Int)∧ExAt [(Xp,[.int .i64 g.x,.int .i64 g.y,.int .i64 g.w,.int .i64 g.h,.int .i64 g.s,.slice aI nk cI]),(X,[.int .i64 g.x,.int .i64 g.y,.int .i64 g.w,.int .i64 g.h,.int .i64 g.s,.slice none 0 0]),(w.heap.size,[.int .i64 y0,.int .i64 y1,.int .i64 y2,.int .i64 y3,.int .i64 y4])] (fun V=>(ShsAt a1 ss V∧InksAt aI ks V)∧CsAt aS (seC rs) V) w wr) (fun v11 _=>ns-(intOf v11).toNat)
 case atStart=>exact⟨0,Nat.zero_le _,rfl,H5.out⟩
 case round=>
  as_aux_lemma=>
   obtain⟨i,hi,rfl,ho⟩:=hrel
   have H6:=Lib.hid ho
   clear ho H5
   by_cases hlt:i<ns
   case neg=>
    obtain rfl:i=ns:=by omega
    go_wp2
    go_ret
    exact⟨rfl,H6.out.az.bw⟩
   have i1:(0:Int)≤(i:Int):=by omega
   have i2:(i:Int)<(ns:Int):=by omega
   go_wp2
   go_loopw [12] (fun v12 wr=>∃k:Nat,i+1≤k∧k≤ns∧v12=.int .i64 (k:Int)∧ExAt [(Xp,[.int .i64 g.x,.int .i64 g.y,.int .i64 g.w,.int .i64 g.h,.int .i64 g.s,.slice aI nk cI]),(X,[.int .i64 g.x,.int .i64 g.y,.int .i64 g.w,.int .i64 g.h,.int .i64 g.s,.slice none 0 0]),(w.heap.size,[.int .i64 y0,.int .i64 y1,.int .i64 y2,.int .i64 y3,.int .i64 y4])] (fun V=>(ShsAt a1 ss V∧InksAt aI ks V)∧CsAt aS (seC rs) V) w wr) (fun v12 _=>ns-(intOf v12).toNat)
   case atStart=>exact⟨i+1,by omega,by omega,by go_num,H6.out⟩
   case round=>
    obtain⟨k,hik,hk,rfl,ho⟩:=hrel
    have H7:=Lib.hid ho
    clear ho H6
    by_cases hkn:k<ns
    case neg=>
     obtain rfl:k=ns:=by omega
     go_wp2
     exact⟨⟨i+1,by omega,by go_num,H7.out⟩,by simp only[intOf];omega⟩
    have k1:(0:Int)≤(k:Int):=by omega
    have k2:(k:Int)<(ns:Int):=by omega
    as_aux_lemma=>
     obtain⟨s,hs⟩:∃s,ss[i]?=some s:=⟨ss[i]'(by have:=HNS.out;omega),List.getElem?_eq_getElem _⟩
     obtain⟨t,ht⟩:∃t,ss[k]?=some t:=⟨ss[k]'(by have:=HNS.out;omega),List.getElem?_eq_getElem _⟩
     obtain⟨b,o,e1,hbl,hc,hd⟩:=H7.out.p.1.1.two hs ht
     subst e1
     have HLW:=Lib.hid (show(∀e∈rs,isSn 1 s.code t.code e→e.sure=true→areaB (cmR s.rect t.rect)=true)∧(∀m,m<NP→partP (cmR s.rect t.rect) (pixR g m)→∃e∈rs,isSn 1 s.code t.code e) from by
      have h:=aKC HFO.out HS.out.2.1 HS.out.1 HS.out.2.2 hs ht (show i<k by omega)
      rw[←HKS.out.1,←HKS.out.2.1,←HNP.out.1] at h
      exact h)
     have hvs:=aV_.1 (dW_ (HS.out.1 s (List.mem_of_getElem? hs)))
     have hvt:=aV_.1 (dW_ (HS.out.1 t (List.mem_of_getElem? ht)))
     obtain⟨cd,kd,⟨p0,p1,p2,p3⟩,sa,sb',wd⟩:=s
     obtain⟨ct,kt,⟨q0,q1,q2,q3⟩,ta,tb',wt⟩:=t
     simp only at hvs hvt HLW
     have HST:=Lib.hid (And.intro hs ht)
     have c2:=hc 2 _ rfl
     have c3:=hc 3 _ rfl
     have c4:=hc 4 _ rfl
     have c5:=hc 5 _ rfl
     have d2:=hd 2 _ rfl
     have d3:=hd 3 _ rfl
     have d4:=hd 4 _ rfl
     have d5:=hd 5 _ rfl
     clear hc hd hs ht
     go_upto_region 16 with fail
     have H8:=Lib.hid (H7.out.push [.int .i64 p0,.int .i64 p1,.int .i64 p2,.int .i64 p3] 29)
     obtain⟨B8,hB8⟩:∃B,B=wr.heap.size:=⟨_,rfl⟩
     obtain⟨W8,hW8⟩:∃W,W=wr.alloc (.cells #[.int .i64 p0,.int .i64 p1,.int .i64 p2,.int .i64 p3] 29):=⟨_,rfl⟩
     have hbW:Below wr.heap.size wr W8:=by rw[hW8];exact(Below.refl _ _).alloc (Nat.le_refl _) _
     have f2:=(hbW.cell (p:=⟨b,o+k*11+2,none⟩) hbl).trans d2
     have f3:=(hbW.cell (p:=⟨b,o+k*11+3,none⟩) hbl).trans d3
     have f4:=(hbW.cell (p:=⟨b,o+k*11+4,none⟩) hbl).trans d4
     have f5:=(hbW.cell (p:=⟨b,o+k*11+5,none⟩) hbl).trans d5
     rw[←hB8,←hW8] at H8⊢
     clear hB8 hW8 hbW c2 c3 c4 c5 d2 d3 d4 d5
     have hb8:B8<W8.heap.size:=(H8.out.az.row _ (List.mem_cons_self)).sz
     go_upto_region 17 with fail
     have H9:=Lib.hid (H8.out.push [.int .i64 q0,.int .i64 q1,.int .i64 q2,.int .i64 q3] 29)
     obtain⟨B9,hB9⟩:∃B,B=W8.heap.size:=⟨_,rfl⟩
     obtain⟨W9,hW9⟩:∃W,W=W8.alloc (.cells #[.int .i64 q0,.int .i64 q1,.int .i64 q2,.int .i64 q3] 29):=⟨_,rfl⟩
     rw[←hB9,←hW9] at H9⊢
     clear hB9 hW9 f2 f3 f4 f5 hb8 H8
     have a0:=H9.out.az.ce 1 0 rfl rfl
     have a1':=H9.out.az.ce 1 1 rfl rfl
     have a2:=H9.out.az.ce 1 2 rfl rfl
     have a3:=H9.out.az.ce 1 3 rfl rfl
     have b0:=H9.out.az.ce 0 0 rfl rfl
     have b1:=H9.out.az.ce 0 1 rfl rfl
     have b2:=H9.out.az.ce 0 2 rfl rfl
     have b3:=H9.out.az.ce 0 3 rfl rfl
     have g1:IntKind.i64.wrap (p0+p2)=p0+p2:=IntWalk.i64_in _ (by omega)
     have g2:IntKind.i64.wrap (q0+q2)=q0+q2:=IntWalk.i64_in _ (by omega)
     have g3:IntKind.i64.wrap (p1+p3)=p1+p3:=IntWalk.i64_in _ (by omega)
     have g4:IntKind.i64.wrap (q1+q3)=q1+q3:=IntWalk.i64_in _ (by omega)
     have g5:IntKind.i64.wrap (min (p0+p2) (q0+q2)-max p0 q0)=min (p0+p2) (q0+q2)-max p0 q0:=IntWalk.i64_in _ (by omega)
     have g6:IntKind.i64.wrap (min (p1+p3) (q1+q3)-max p1 q1)=min (p1+p3) (q1+q3)-max p1 q1:=IntWalk.i64_in _ (by omega)
     go_upto_region 20 with fail
     have H10:=Lib.hid (H9.out.push [.int .i64 (max p0 q0),.int .i64 (max p1 q1),.int .i64 (min (p0+p2) (q0+q2)-max p0 q0),.int .i64 (min (p1+p3) (q1+q3)-max p1 q1)] 29)
     obtain⟨B10,hB10⟩:∃B,B=W9.heap.size:=⟨_,rfl⟩
     obtain⟨W10,hW10⟩:∃W,W=W9.alloc (.cells #[.int .i64 (max p0 q0),.int .i64 (max p1 q1),.int .i64 (min (p0+p2) (q0+q2)-max p0 q0),.int .i64 (min (p1+p3) (q1+q3)-max p1 q1)] 29):=⟨_,rfl⟩
     rw[←hB10,←hW10] at H10⊢
     have HCM:=Lib.hid (show cmR ⟨p0,p1,p2,p3⟩ ⟨q0,q1,q2,q3⟩=⟨max p0 q0,max p1 q1,min (p0+p2) (q0+q2)-max p0 q0,min (p1+p3) (q1+q3)-max p1 q1⟩ from rfl)
     have hcb:(0≤max p0 q0∧max p0 q0≤4095)∧(0≤max p1 q1∧max p1 q1≤4095)∧(-4095≤min (p0+p2) (q0+q2)-max p0 q0∧min (p0+p2) (q0+q2)-max p0 q0≤4095)∧(-4095≤min (p1+p3) (q1+q3)-max p1 q1∧min (p1+p3) (q1+q3)-max p1 q1≤4095):=by omega
     rw[HCM.out] at HLW
     clear hB10 hW10 a0 a1' a2 a3 b0 b1 b2 b3 g1 g2 g3 g4 g5 g6 HCM H9 hvs hvt
     generalize min (p0+p2) (q0+q2)-max p0 q0=cw at *
     generalize min (p1+p3) (q1+q3)-max p1 q1=ch at *
     generalize max p0 q0=cx at *
     generalize max p1 q1=cy at *
     have H11:=Lib.hid (H10.out.sub (L':=(B10,[.int .i64 cx,.int .i64 cy,.int .i64 cw,.int .i64 ch])::[(Xp,[.int .i64 g.x,.int .i64 g.y,.int .i64 g.w,.int .i64 g.h,.int .i64 g.s,.slice aI nk cI]),(X,[.int .i64 g.x,.int .i64 g.y,.int .i64 g.w,.int .i64 g.h,.int .i64 g.s,.slice none 0 0]),(w.heap.size,[.int .i64 y0,.int .i64 y1,.int .i64 y2,.int .i64 y3,.int .i64 y4])]) (fun z hz=>by simp only[List.mem_cons,List.not_mem_nil,or_false] at hz;rcases hz with rfl|rfl|rfl|rfl <;> simp))
     clear H10
     obtain⟨ab,hab⟩:∃ab,areaB ⟨cx,cy,cw,ch⟩=ab:=⟨_,rfl⟩
     have HAB:=Lib.hid hab
     have KV1:=Lib.hid (fun W=>KV.out ⟨cx,cy,cw,ch⟩ W)
     rw[hab] at HLW
     clear hab
     go_cut [18] from 59 to 266 (fun v18 wx=>v18=.bool ab∧ExAt ((B10,[.int .i64 cx,.int .i64 cy,.int .i64 cw,.int .i64 ch])::[(Xp,[.int .i64 g.x,.int .i64 g.y,.int .i64 g.w,.int .i64 g.h,.int .i64 g.s,.slice aI nk cI]),(X,[.int .i64 g.x,.int .i64 g.y,.int .i64 g.w,.int .i64 g.h,.int .i64 g.s,.slice none 0 0]),(w.heap.size,[.int .i64 y0,.int .i64 y1,.int .i64 y2,.int .i64 y3,.int .i64 y4])]) (fun V=>(ShsAt (some ⟨b,o,none⟩) ss V∧InksAt aI ks V)∧CsAt aS (seC rs) V) w wx)
     case first=>as_aux_lemma=>
      have HAB2:=Lib.hid (show(vRc ⟨cx,cy,cw,ch⟩&&decide (0<cw)&&decide (0<ch))=ab from HAB.out)
      clear HAB HLW
      have t0:=H11.out.az.ce 0 0 rfl rfl
      have t1:=H11.out.az.ce 0 1 rfl rfl
      have t2:=H11.out.az.ce 0 2 rfl rfl
      have t3:=H11.out.az.ce 0 3 rfl rfl
      generalize vRc ⟨cx,cy,cw,ch⟩=vb at KV1 HAB2
      obtain⟨x1,hx1⟩:∃x,decide (0<cw)=x:=⟨_,rfl⟩
      obtain⟨x2,hx2⟩:∃x,decide (0<ch)=x:=⟨_,rfl⟩
      rw[hx1,hx2] at HAB2
      cases vb
      ·have h:=HAB2.out
       simp only[Bool.false_and] at h
       subst h
       go_wp2_with (go_at_call 15;(with_reducible refine(KV1.out _).mono ?_);rintro e wb1 ⟨rfl,hb⟩;have H12:=Lib.hid (H11.out.below hb);clear hb t0 t1 t2 t3)
       go_meet
       exact⟨rfl,H12.out⟩
      cases x1
      ·have h:=HAB2.out
       simp only[Bool.true_and,Bool.false_and] at h
       subst h
       go_wp2_with (go_at_call 15;(with_reducible refine(KV1.out _).mono ?_);rintro e wb1 ⟨rfl,hb⟩;have H12:=Lib.hid (H11.out.below hb);clear hb t0 t1 t2 t3;have t2:=H12.out.az.ce 0 2 rfl rfl)
       go_meet
       exact⟨rfl,H12.out⟩
      have h:=HAB2.out
      simp only[Bool.true_and] at h
      subst h
      cases x2
      ·go_wp2_with (go_at_call 15;(with_reducible refine(KV1.out _).mono ?_);rintro e wb1 ⟨rfl,hb⟩;have H12:=Lib.hid (H11.out.below hb);clear hb t0 t1 t2 t3;have t2:=H12.out.az.ce 0 2 rfl rfl;have t3:=H12.out.az.ce 0 3 rfl rfl)
       go_meet
       exact⟨rfl,H12.out⟩
      ·go_wp2_with (go_at_call 15;(with_reducible refine(KV1.out _).mono ?_);rintro e wb1 ⟨rfl,hb⟩;have H12:=Lib.hid (H11.out.below hb);clear hb t0 t1 t2 t3;have t2:=H12.out.az.ce 0 2 rfl rfl;have t3:=H12.out.az.ce 0 3 rfl rfl)
       go_meet
       exact⟨rfl,H12.out⟩
     as_aux_lemma=>
      obtain⟨rfl,hx⟩:=hcut
      have H12:=Lib.hid hx
      clear hx H11 KV1
      go_upto_block 4 with fail
      go_cut [19,20,21,22,23,24] from 59 to 266 (fun v19 v20 v21 v22 v23 v24 wx=>∃sb:Bool,v19=.bool sb∧Hid (sb=true→∃j,j<NP∧partP ⟨cx,cy,cw,ch⟩ (pixR g j))∧ExAt ((B10,[.int .i64 cx,.int .i64 cy,.int .i64 cw,.int .i64 ch])::[(Xp,[.int .i64 g.x,.int .i64 g.y,.int .i64 g.w,.int .i64 g.h,.int .i64 g.s,.slice aI nk cI]),(X,[.int .i64 g.x,.int .i64 g.y,.int .i64 g.w,.int .i64 g.h,.int .i64 g.s,.slice none 0 0]),(w.heap.size,[.int .i64 y0,.int .i64 y1,.int .i64 y2,.int .i64 y3,.int .i64 y4])]) (fun V=>(ShsAt (some ⟨b,o,none⟩) ss V∧InksAt aI ks V)∧CsAt aS (seC rs) V) w wx)
      case first=>as_aux_lemma=>
       have z2:=H12.out.az.ce 2 2 rfl rfl
       have z3:=H12.out.az.ce 2 3 rfl rfl
       cases ab
       ·clear HAB hcb
        go_wp2
        go_loopw [19,20] (fun v19 v20 wr=>v19=.bool false∧v20=.int .i64 0∧ExAt ((B10,[.int .i64 cx,.int .i64 cy,.int .i64 cw,.int .i64 ch])::[(Xp,[.int .i64 g.x,.int .i64 g.y,.int .i64 g.w,.int .i64 g.h,.int .i64 g.s,.slice aI nk cI]),(X,[.int .i64 g.x,.int .i64 g.y,.int .i64 g.w,.int .i64 g.h,.int .i64 g.s,.slice none 0 0]),(w.heap.size,[.int .i64 y0,.int .i64 y1,.int .i64 y2,.int .i64 y3,.int .i64 y4])]) (fun V=>(ShsAt (some ⟨b,o,none⟩) ss V∧InksAt aI ks V)∧CsAt aS (seC rs) V) w wr) (fun _ _ _=>0)
        case atStart=>exact⟨rfl,rfl,H12.out⟩
        case round=>
         obtain⟨rfl,rfl,ho⟩:=hrel
         have H13:=Lib.hid ho
         clear ho z2 z3 H12
         have z2:=H13.out.az.ce 2 2 rfl rfl
         have z3:=H13.out.az.ce 2 3 rfl rfl
         have t0:0<NP:=HNP.out.2.1
         go_wp2
         go_meet
         exact⟨false,rfl,Lib.hid (fun h=>by cases h),H13.out⟩
       clear HAB
       go_wp2
       go_loopw [19,20] (fun v19 v20 wr=>∃(m:Nat) (sb:Bool),m≤NP∧v19=.bool sb∧v20=.int .i64 (m:Int)∧Hid (sb=true→∃j,j<NP∧partP ⟨cx,cy,cw,ch⟩ (pixR g j))∧ExAt ((B10,[.int .i64 cx,.int .i64 cy,.int .i64 cw,.int .i64 ch])::[(Xp,[.int .i64 g.x,.int .i64 g.y,.int .i64 g.w,.int .i64 g.h,.int .i64 g.s,.slice aI nk cI]),(X,[.int .i64 g.x,.int .i64 g.y,.int .i64 g.w,.int .i64 g.h,.int .i64 g.s,.slice none 0 0]),(w.heap.size,[.int .i64 y0,.int .i64 y1,.int .i64 y2,.int .i64 y3,.int .i64 y4])]) (fun V=>(ShsAt (some ⟨b,o,none⟩) ss V∧InksAt aI ks V)∧CsAt aS (seC rs) V) w wr) (fun _ v20 _=>NP-(intOf v20).toNat)
       case atStart=>exact⟨0,false,Nat.zero_le _,rfl,rfl,Lib.hid (fun h=>by cases h),H12.out⟩
       case round=>
        obtain⟨m,sb,hm,rfl,rfl,HSB,ho⟩:=hrel
        have H13:=Lib.hid ho
        clear ho z2 z3 H12
        have z2:=H13.out.az.ce 2 2 rfl rfl
        have z3:=H13.out.az.ce 2 3 rfl rfl
        by_cases hmn:m<NP
        case neg=>
         obtain rfl:m=NP:=by omega
         have t0:decide ((m:Int)<(m:Int))=false:=decide_eq_false (by omega)
         go_wp2
         go_meet
         exact⟨sb,rfl,HSB,H13.out⟩
        as_aux_lemma=>
         have t0:decide ((m:Int)<(NP:Int))=true:=decide_eq_true (by omega)
         have hnp4:=HNP.out.2.2
         have hg:=HB.out
         have hmq:=aEJ HFO.out (show m<npx g by rw[←HNP.out.1];exact hmn)
         have hpq:=show pixR g m=⟨g.x+((m%g.w.toNat:Nat):Int)*g.s,g.y+((m/g.w.toNat:Nat):Int)*g.s,g.s,g.s⟩ from rfl
         rw[HWN.out.2.1] at hmq hpq
         obtain⟨p,hp⟩:∃p,p=m%Wn:=⟨_,rfl⟩
         obtain⟨q,hq⟩:∃q,q=m/Wn:=⟨_,rfl⟩
         rw[←hp,←hq] at hmq hpq
         have hrem:Int.tmod (m:Int) g.w=(p:Int):=by rw[hp,HWN.out.1];rfl
         have hquo:Int.tdiv (m:Int) g.w=(q:Int):=by rw[hq,HWN.out.1];rfl
         have hw0:¬g.w=0:=by omega
         have q1:=Int.mul_le_mul (show(p:Int)≤6 by have:=HWN.out;omega) (show g.s≤20 by omega) (by omega) (by omega)
         have q2:=Int.mul_le_mul (show(q:Int)≤6 by omega) (show g.s≤20 by omega) (by omega) (by omega)
         have q3:=Int.mul_nonneg (show 0≤(p:Int) by omega) (show 0≤g.s by omega)
         have q4:=Int.mul_nonneg (show 0≤(q:Int) by omega) (show 0≤g.s by omega)
         have q5:=Int.mul_le_mul (show g.s≤20 by omega) (show g.s≤20 by omega) (by omega) (by omega)
         have q6:=Int.mul_pos (show 0<g.s by omega) (show 0<g.s by omega)
         obtain⟨ux,hux⟩:∃a,a=g.x+(p:Int)*g.s:=⟨_,rfl⟩
         obtain⟨uy,huy⟩:∃a,a=g.y+(q:Int)*g.s:=⟨_,rfl⟩
         have g1:IntKind.i64.wrap ((p:Int)*g.s)=(p:Int)*g.s:=IntWalk.i64_in _ (by omega)
         have g2:IntKind.i64.wrap (g.x+(p:Int)*g.s)=ux:=by rw[IntWalk.i64_in _ (by omega),hux]
         have g3:IntKind.i64.wrap ((q:Int)*g.s)=(q:Int)*g.s:=IntWalk.i64_in _ (by omega)
         have g4:IntKind.i64.wrap (g.y+(q:Int)*g.s)=uy:=by rw[IntWalk.i64_in _ (by omega),huy]
         have g5:IntKind.i64.wrap (p:Int)=(p:Int):=IntWalk.i64_in _ (by have:=HWN.out;omega)
         have g6:IntKind.i64.wrap (q:Int)=(q:Int):=IntWalk.i64_in _ (by omega)
         rw[←hux,←huy] at hpq
         have HPQ:=Lib.hid hpq
         have hub:(0≤ux∧ux≤300)∧(0≤uy∧uy≤300)∧(1≤g.s∧g.s≤20):=by omega
         clear hg hmq hpq hux huy q1 q2 q3 q4 hp hq
         go_upto_region 25 with fail
         clear z2 z3
         have z0:=cell_regrown (H13.out.az.ce 2 0 rfl rfl)
         have z2:=cell_regrown (H13.out.az.ce 2 2 rfl rfl)
         have z4:=cell_regrown (H13.out.az.ce 2 4 rfl rfl)
         refine wp_region_quiet_below (by kernel_rfl) (by kernel_rfl) ?_
         repeat (go_big_quiet_step (fail))
         refine wpQuiet_nil ?_
         intro W2 hw2
         have hb2:Below wr.heap.size wr W2:=by obtain⟨⟨dq,osq⟩,hw7⟩:=hw2;rw[hw7];exact below_regrown wr dq osq
         have H14:=Lib.hid (H13.out.below hb2)
         clear hw2 hb2 z0 z2 z4
         go_upto_region 26 with fail
         have z1:=cell_regrown (H14.out.az.ce 2 1 rfl rfl)
         have z2:=cell_regrown (H14.out.az.ce 2 2 rfl rfl)
         have z4:=cell_regrown (H14.out.az.ce 2 4 rfl rfl)
         obtain⟨W3,hW3⟩:∃W,W=W2:=⟨_,rfl⟩
         rw[←hW3] at H14 z1 z2 z4⊢
         clear hW3
         refine wp_region_quiet_below (by kernel_rfl) (by kernel_rfl) ?_
         repeat (go_big_quiet_step (fail))
         refine wpQuiet_nil ?_
         intro W2 hw2
         have hb2:Below W3.heap.size W3 W2:=by obtain⟨⟨dq,osq⟩,hw7⟩:=hw2;rw[hw7];exact below_regrown W3 dq osq
         have H15:=Lib.hid (H14.out.below hb2)
         clear hw2 hb2 z1 z2 z4 H13 H14
         have z4:=H15.out.az.ce 2 4 rfl rfl
         have y0:=H15.out.az.ce 0 0 rfl rfl
         have y1:=H15.out.az.ce 0 1 rfl rfl
         have y2:=H15.out.az.ce 0 2 rfl rfl
         have y3:=H15.out.az.ce 0 3 rfl rfl
         have j1:IntKind.i64.wrap (cx+cw)=cx+cw:=IntWalk.i64_in _ (by omega)
         have j2:IntKind.i64.wrap (ux+g.s)=ux+g.s:=IntWalk.i64_in _ (by omega)
         have j3:IntKind.i64.wrap (min (cx+cw) (ux+g.s)-max cx ux)=min (cx+cw) (ux+g.s)-max cx ux:=IntWalk.i64_in _ (by omega)
         have j4:IntKind.i64.wrap (cy+ch)=cy+ch:=IntWalk.i64_in _ (by omega)
         have j5:IntKind.i64.wrap (uy+g.s)=uy+g.s:=IntWalk.i64_in _ (by omega)
         have j6:IntKind.i64.wrap (min (cy+ch) (uy+g.s)-max cy uy)=min (cy+ch) (uy+g.s)-max cy uy:=IntWalk.i64_in _ (by omega)
         go_upto_region 29 with fail
         clear j1 j2 j3 j4 j5 j6 y0 y1 y2 y3 g1 g2 g3 g4 g5 g6 hrem hquo hw0
         have HPW:=Lib.hid (show pxW ⟨cx,cy,cw,ch⟩ (pixR g m)=min (cx+cw) (ux+g.s)-max cx ux∧pxH ⟨cx,cy,cw,ch⟩ (pixR g m)=min (cy+ch) (uy+g.s)-max cy uy∧(pixR g m).w*(pixR g m).h=g.s*g.s from by rw[HPQ.out];exact⟨rfl,rfl,rfl⟩)
         have hpb:min (cx+cw) (ux+g.s)-max cx ux≤20∧min (cy+ch) (uy+g.s)-max cy uy≤20:=by omega
         generalize min (cx+cw) (ux+g.s)-max cx ux=pw at *
         generalize min (cy+ch) (uy+g.s)-max cy uy=ph at *
         have gS:IntKind.i64.wrap (g.s*g.s)=g.s*g.s:=IntWalk.i64_in _ (by omega)
         cases sb
         case true=>
          go_wp2
          exact⟨⟨m+1,true,by omega,rfl,by go_num,HSB,H15.out⟩,by simp only[intOf];omega⟩
         by_cases hpw:0<pw
         case neg=>
          have t1:decide (0<pw)=false:=decide_eq_false hpw
          go_wp2
          exact⟨⟨m+1,false,by omega,rfl,by go_num,HSB,H15.out⟩,by simp only[intOf];omega⟩
         have t1:decide (0<pw)=true:=decide_eq_true hpw
         by_cases hph:0<ph
         case neg=>
          have t2:decide (0<ph)=false:=decide_eq_false hph
          go_wp2
          exact⟨⟨m+1,false,by omega,rfl,by go_num,HSB,H15.out⟩,by simp only[intOf];omega⟩
         have t2:decide (0<ph)=true:=decide_eq_true hph
         have r1:=Int.mul_le_mul hpb.1 hpb.2 (by omega) (by omega)
         have r2:=Int.mul_pos hpw hph
         have gP:IntKind.i64.wrap (pw*ph)=pw*ph:=IntWalk.i64_in _ (by omega)
         have gQ:IntKind.i64.wrap (pw*ph*4096)=pw*ph*4096:=IntWalk.i64_in _ (by omega)
         by_cases hle:g.s*g.s≤pw*ph*4096
         case neg=>
          have t3:decide (g.s*g.s≤pw*ph*4096)=false:=decide_eq_false hle
          clear r1 r2
          go_wp2
          exact⟨⟨m+1,false,by omega,rfl,by go_num,HSB,H15.out⟩,by simp only[intOf];omega⟩
         have t3:decide (g.s*g.s≤pw*ph*4096)=true:=decide_eq_true hle
         have HSB2:=Lib.hid (show true=true→∃j,j<NP∧partP ⟨cx,cy,cw,ch⟩ (pixR g j) from fun _=>⟨m,hmn,by
          unfold partP
          rw[HPW.out.1,HPW.out.2.1,HPW.out.2.2]
          exact⟨hpw,hph,hle⟩⟩)
         clear r1 r2
         go_wp2
         exact⟨⟨m+1,true,by omega,rfl,by go_num,HSB2,H15.out⟩,by simp only[intOf];omega⟩
      as_aux_lemma=>
       obtain⟨sb,rfl,HSB,hx⟩:=hcut
       have H13:=Lib.hid hx
       clear hx H12 HAB hcb gWH
       go_upto_block 6 with fail
       go_cut [25,26,27] from 59 to 266 (fun v25 v26 v27 wx=>∃ib rb:Bool,v25=.bool ib∧v26=.bool rb∧Hid ((ib=false→∀j,j<nr→∀e,rs[j]?=some e→¬isSn 1 cd ct e)∧(rb=true→∃e∈rs,isSn 1 cd ct e∧e.sure=true))∧ExAt ((B10,[.int .i64 cx,.int .i64 cy,.int .i64 cw,.int .i64 ch])::[(Xp,[.int .i64 g.x,.int .i64 g.y,.int .i64 g.w,.int .i64 g.h,.int .i64 g.s,.slice aI nk cI]),(X,[.int .i64 g.x,.int .i64 g.y,.int .i64 g.w,.int .i64 g.h,.int .i64 g.s,.slice none 0 0]),(w.heap.size,[.int .i64 y0,.int .i64 y1,.int .i64 y2,.int .i64 y3,.int .i64 y4])]) (fun V=>(ShsAt (some ⟨b,o,none⟩) ss V∧InksAt aI ks V)∧CsAt aS (seC rs) V) w wx)
       case first=>as_aux_lemma=>
        go_wp2
        go_loopw [25,26,27] (fun v25 v26 v27 wr=>∃(r:Nat) (ib rb:Bool),r≤nr∧v25=.bool ib∧v26=.bool rb∧v27=.int .i64 (r:Int)∧Hid ((ib=false→∀j,j<r→∀e,rs[j]?=some e→¬isSn 1 cd ct e)∧(rb=true→∃e∈rs,isSn 1 cd ct e∧e.sure=true))∧ExAt ((B10,[.int .i64 cx,.int .i64 cy,.int .i64 cw,.int .i64 ch])::[(Xp,[.int .i64 g.x,.int .i64 g.y,.int .i64 g.w,.int .i64 g.h,.int .i64 g.s,.slice aI nk cI]),(X,[.int .i64 g.x,.int .i64 g.y,.int .i64 g.w,.int .i64 g.h,.int .i64 g.s,.slice none 0 0]),(w.heap.size,[.int .i64 y0,.int .i64 y1,.int .i64 y2,.int .i64 y3,.int .i64 y4])]) (fun V=>(ShsAt (some ⟨b,o,none⟩) ss V∧InksAt aI ks V)∧CsAt aS (seC rs) V) w wr) (fun _ _ v27 _=>nr-(intOf v27).toNat)
        case atStart=>exact⟨0,false,false,Nat.zero_le _,rfl,rfl,rfl,Lib.hid ⟨fun _ j hj=>absurd hj (by omega),fun h=>by cases h⟩,H13.out⟩
        case round=>
         obtain⟨r,ib,rb,hr,rfl,rfl,rfl,HBB,ho⟩:=hrel
         have H16:=Lib.hid ho
         clear ho H13
         by_cases hrn:r<nr
         case neg=>
          obtain rfl:r=nr:=by omega
          go_wp2
          go_meet
          exact⟨ib,rb,rfl,rfl,HBB,H16.out⟩
         as_aux_lemma=>
          have r1:(0:Int)≤(r:Int):=by omega
          have r2:(r:Int)<(nr:Int):=by omega
          obtain⟨e,he⟩:∃e,rs[r]?=some e:=⟨rs[r]'(by have:=HKS.out.2.2.2;omega),List.getElem?_eq_getElem _⟩
          obtain⟨bs,os,e1,hbs,s0,s1,s2,s3⟩:=H16.out.p.2.sn he
          subst e1
          have HE:=Lib.hid he
          clear he
          obtain⟨ek,ea,eb,es⟩:=e
          simp only at s0 s1 s2 s3
          have hcs:=(H16.out.p.1.1.one HST.out.1).2 0 _ rfl
          have hct:=(H16.out.p.1.1.one HST.out.2).2 0 _ rfl
          simp only[Nat.add_zero] at hcs hct
          obtain⟨x1,hx1⟩:∃x,(ek==1)=x:=⟨_,rfl⟩
          obtain⟨x2,hx2⟩:∃x,(ea==cd)=x:=⟨_,rfl⟩
          obtain⟨x3,hx3⟩:∃x,(eb==ct)=x:=⟨_,rfl⟩
          have HIS:=Lib.hid (show isSn 1 cd ct ⟨ek,ea,eb,es⟩↔x1=true∧x2=true∧x3=true from aAP hx1 hx2 hx3)
          go_wp2
          have y0:=cell_regrown s0
          have y1:=cell_regrown s1
          have y2:=cell_regrown s2
          have y3:=cell_regrown hcs
          have y4:=cell_regrown hct
          clear s0 s1 s2 hcs hct
          cases x1
          case false=>
           have HNO:=Lib.hid (show ¬isSn 1 cd ct ⟨ek,ea,eb,es⟩ from fun h=>by have:=HIS.out.1 h;simp at this)
           refine wp_region_quiet_below (by kernel_rfl) (by kernel_rfl) ?_
           repeat (go_big_quiet_step (fail))
           refine wpQuiet_nil ?_
           intro W2 hw2
           have hb2:Below wr.heap.size wr W2:=by obtain⟨⟨dq,osq⟩,hw7⟩:=hw2;rw[hw7];exact below_regrown wr dq osq
           have H17:=Lib.hid (H16.out.below hb2)
           clear hw2 hb2
           go_wp2
           exact⟨⟨r+1,ib,rb,by omega,rfl,rfl,by go_num,Lib.hid (And.intro (fun h=>aFK HE.out (HBB.out.1 h) HNO.out) HBB.out.2),H17.out⟩,by simp only[intOf];omega⟩
          cases x2
          case false=>
           have HNO:=Lib.hid (show ¬isSn 1 cd ct ⟨ek,ea,eb,es⟩ from fun h=>by have:=HIS.out.1 h;simp at this)
           refine wp_region_quiet_below (by kernel_rfl) (by kernel_rfl) ?_
           repeat (go_big_quiet_step (fail))
           refine wpQuiet_nil ?_
           intro W2 hw2
           have hb2:Below wr.heap.size wr W2:=by obtain⟨⟨dq,osq⟩,hw7⟩:=hw2;rw[hw7];exact below_regrown wr dq osq
           have H17:=Lib.hid (H16.out.below hb2)
           clear hw2 hb2
           go_wp2
           exact⟨⟨r+1,ib,rb,by omega,rfl,rfl,by go_num,Lib.hid (And.intro (fun h=>aFK HE.out (HBB.out.1 h) HNO.out) HBB.out.2),H17.out⟩,by simp only[intOf];omega⟩
          cases x3
          case false=>
           have HNO:=Lib.hid (show ¬isSn 1 cd ct ⟨ek,ea,eb,es⟩ from fun h=>by have:=HIS.out.1 h;simp at this)
           refine wp_region_quiet_below (by kernel_rfl) (by kernel_rfl) ?_
           repeat (go_big_quiet_step (fail))
           refine wpQuiet_nil ?_
           intro W2 hw2
           have hb2:Below wr.heap.size wr W2:=by obtain⟨⟨dq,osq⟩,hw7⟩:=hw2;rw[hw7];exact below_regrown wr dq osq
           have H17:=Lib.hid (H16.out.below hb2)
           clear hw2 hb2
           go_wp2
           exact⟨⟨r+1,ib,rb,by omega,rfl,rfl,by go_num,Lib.hid (And.intro (fun h=>aFK HE.out (HBB.out.1 h) HNO.out) HBB.out.2),H17.out⟩,by simp only[intOf];omega⟩
          have HYE:=Lib.hid (show isSn 1 cd ct ⟨ek,ea,eb,es⟩ from HIS.out.2 ⟨rfl,rfl,rfl⟩)
          refine wp_region_quiet_below (by kernel_rfl) (by kernel_rfl) ?_
          repeat (go_big_quiet_step (fail))
          refine wpQuiet_nil ?_
          intro W2 hw2
          have hb2:Below wr.heap.size wr W2:=by obtain⟨⟨dq,osq⟩,hw7⟩:=hw2;rw[hw7];exact below_regrown wr dq osq
          have H17:=Lib.hid (H16.out.below hb2)
          have s3':=(hb2.cell (p:=⟨bs,os+r*4+3,none⟩) hbs).trans s3
          clear hw2 hb2 s3 y0 y1 y2 y3 y4
          cases rb
          ·have HNX:=Lib.hid (show(true=false→∀j,j<r+1→∀e,rs[j]?=some e→¬isSn 1 cd ct e)∧(es=true→∃e∈rs,isSn 1 cd ct e∧e.sure=true) from⟨fun h=>(by cases h),fun h=>⟨_,List.mem_of_getElem? HE.out,HYE.out,h⟩⟩)
           go_wp2
           exact⟨⟨r+1,true,es,by omega,rfl,rfl,by go_num,HNX,H17.out⟩,by simp only[intOf];omega⟩
          ·have HNX:=Lib.hid (show(true=false→∀j,j<r+1→∀e,rs[j]?=some e→¬isSn 1 cd ct e)∧(true=true→∃e∈rs,isSn 1 cd ct e∧e.sure=true) from⟨fun h=>(by cases h),HBB.out.2⟩)
           go_wp2
           exact⟨⟨r+1,true,true,by omega,rfl,rfl,by go_num,HNX,H17.out⟩,by simp only[intOf];omega⟩
       as_aux_lemma=>
        obtain⟨ib,rb,rfl,rfl,HBB,hx⟩:=hcut
        have H16:=Lib.hid hx
        have HFI:=Lib.hid (show(sb=false∨ib=true)∧(rb=false∨ab=true) from by
         refine⟨?_,?_⟩
         ·cases hsb:sb
          ·exact .inl rfl
          ·cases hib:ib
           ·obtain⟨j,hj,hpj⟩:=HSB.out hsb
            exact absurd (HLW.out.2 j hj hpj) (aKP (fun j hj=>HBB.out.1 hib j (by rw[HKS.out.2.2.2];exact hj)))
           ·exact .inr rfl
         ·cases hrb:rb
          ·exact .inl rfl
          ·obtain⟨e,he,h1,h2⟩:=HBB.out.2 hrb
           exact .inr (HLW.out.1 e he h1 h2))
        clear hx H13 HSB HBB HLW
        cases rb
        ·cases sb
         ·go_wp2
          exact⟨⟨k+1,by omega,by omega,by go_num,H16.out.sub (fun z hz=>by simp only[List.mem_cons,List.not_mem_nil,or_false] at hz;rcases hz with rfl|rfl|rfl <;> simp)⟩,by simp only[intOf];omega⟩
         ·obtain rfl:ib=true:=by rcases HFI.out.1 with h|h;cases h;exact h
          go_wp2
          exact⟨⟨k+1,by omega,by omega,by go_num,H16.out.sub (fun z hz=>by simp only[List.mem_cons,List.not_mem_nil,or_false] at hz;rcases hz with rfl|rfl|rfl <;> simp)⟩,by simp only[intOf];omega⟩
        ·obtain rfl:ab=true:=by rcases HFI.out.2 with h|h;cases h;exact h
         cases sb
         ·go_wp2
          exact⟨⟨k+1,by omega,by omega,by go_num,H16.out.sub (fun z hz=>by simp only[List.mem_cons,List.not_mem_nil,or_false] at hz;rcases hz with rfl|rfl|rfl <;> simp)⟩,by simp only[intOf];omega⟩
         ·obtain rfl:ib=true:=by rcases HFI.out.1 with h|h;cases h;exact h
          go_wp2
          exact⟨⟨k+1,by omega,by omega,by go_num,H16.out.sub (fun z hz=>by simp only[List.mem_cons,List.not_mem_nil,or_false] at hz;rcases hz with rfl|rfl|rfl <;> simp)⟩,by simp only[intOf];omega⟩
end Go.Proofs.YtlikmmpmnaaifaaGreatDoor
