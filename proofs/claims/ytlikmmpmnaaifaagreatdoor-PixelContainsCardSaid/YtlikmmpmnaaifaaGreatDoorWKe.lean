/-
  The law PixelContains.
-/
import Derived.Lib.QuietBelow
import Derived.Lib.MinMax
import Derived.BigQuiet
import Derived.Deep.CutRange
import Derived.Deep.CutBlock
import Derived.Test.YtlikmmpmnaaifaaGreatDoorZOpn8
import Derived.Test.YtlikmmpmnaaifaaGreatDoorZYx
import Derived.Test.YtlikmmpmnaaifaaGreatDoorZYj
import Derived.Test.YtlikmmpmnaaifaaGreatDoorZQT
namespace Go.Proofs.YtlikmmpmnaaifaaGreatDoor
open Go.RowKit Go.Shelf Go.Sort
attribute [local go_sem] Oper.semAt_some
set_option maxHeartbeats 16000000 in
set_option maxRecDepth 100000 in
theorem PixelContains_law (y0 y1 y2 y3 y4:Int) {a:Option Addr} {n cap:Nat} {xs:List Q4} (hy0:inI y0) (hy1:inI y1) (hy2:inI y2) (hy3:inI y3) (hy4:inI y4) (hn:xs.length=n) (w:World) (hX:X4At a xs w) (hq:IOps w∧FrOp w) :
  Calls Tryz.prog 8 #[.slice a n cap,.agg #[.int .i64 y0,.int .i64 y1,.int .i64 y2,.int .i64 y3,.int .i64 y4]] w fun e w'=>e=.returned (.bool true)∧Below w.heap.size w w':=by
 obtain⟨y,hy,e0,e1,e2,e3,e4⟩:∃y:Nat→Int,(∀i,inI (y i))∧y0=y 0∧y1=y 1∧y2=y 2∧y3=y 3∧y4=y 4:=⟨fun i=>match i with|0=>y0|1=>y1|2=>y2|3=>y3|_=>y4,fun i=>by match i with|0=>exact hy0|1=>exact hy1|2=>exact hy2|3=>exact hy3|_+4=>exact hy4,rfl,rfl,rfl,rfl,rfl⟩
 have HX:=Lib.hid (show ExAt [] (fun V=>(IOps V∧FrOp V)∧X4At a xs V) w w from⟨AzAt.start w,⟨hq,hX⟩,fun A C h hb=>⟨⟨h.1.1.below hb,h.1.2.below hb⟩,h.2.below hb⟩⟩)
 have H0:=Lib.hid (HX.out.push [.int .i64 y0,.int .i64 y1,.int .i64 y2,.int .i64 y3,.int .i64 y4] 55)
 have KS:=Lib.hid (show ∀W:World,IOps W∧FrOp W→Calls Tryz.prog 38 #[] W fun e W'=>e=.returned (.bool true)∧Below W.heap.size W W' from fun W h=>xT_ (Lib.hid h))
 have KF:=Lib.hid (show ∀W:World,Calls Tryz.prog 39 #[.agg #[.int .i64 y0,.int .i64 y1,.int .i64 y2,.int .i64 y3,.int .i64 y4]] W fun e W'=>e=.returned (.agg #[.int .i64 (frN y).x,.int .i64 (frN y).y,.int .i64 (frN y).w,.int .i64 (frN y).h,.int .i64 (frN y).s,.slice none 0 0])∧Below W.heap.size W W' from fun W=>by rw[e0,e1,e2,e3,e4];exact tT_ hy W)
 have KH:=Lib.hid (show ∀W:World,X4At a xs W→Calls Tryz.prog 43 #[.slice a n cap,.bool true] W fun e W'=>∃a1 c1,e=.returned (.slice a1 (shsK true xs (min n 5)).length c1)∧ShsAt a1 (shsK true xs (min n 5)) W'∧Below W.heap.size W W' from fun W h=>(zV_ (c:=cap) true hn W h).mono fun _ _ h=>h.parts)
 have HS:=Lib.hid (And.intro (aNZ true xs (k:=min n 5) (by omega)) (And.intro (aJI true xs (min n 5)) (aBS xs (min n 5))))
 have HLN:=Lib.hid (show(shsK true xs (min n 5)).length≤5 by rw[xR_];omega)
 have HB:=Lib.hid (pA_ y)
 have HFO:=Lib.hid (aGF y)
 generalize shsK true xs (min n 5)=ss at *
 generalize frN y=g at *
 obtain⟨ns,hns⟩:∃ns,ns=ss.length:=⟨_,rfl⟩
 rw[←hns] at KH HLN
 have HNS:=Lib.hid hns
 obtain⟨ks,hks⟩:∃ks,ks=aF_ g ss:=⟨_,rfl⟩
 obtain⟨nk,hnk⟩:∃nk,nk=ks.length:=⟨_,rfl⟩
 obtain⟨rs,hrs⟩:∃rs,rs=eT_ ks:=⟨_,rfl⟩
 obtain⟨nr,hnr⟩:∃nr,nr=rs.length:=⟨_,rfl⟩
 have hn5:ns≤5:=HLN.out
 have HPO:=Lib.hid (show PicOk g ks from by rw[hks];exact gZ_ HFO.out (by have:=HNS.out;omega) HS.out.1 HS.out.2.1)
 have KP:=Lib.hid (show ∀(W:World) (a1:Option Addr) (c1:Nat),IOps W∧FrOp W→ShsAt a1 ss W→Calls Tryz.prog 41 #[.slice a1 ns c1,.agg #[.int .i64 g.x,.int .i64 g.y,.int .i64 g.w,.int .i64 g.h,.int .i64 g.s,.slice none 0 0]] W fun e W'=>(∃a c,e=.returned (.tuple #[.agg #[.int .i64 g.x,.int .i64 g.y,.int .i64 g.w,.int .i64 g.h,.int .i64 g.s,.slice a nk c],.int .i64 0])∧InksAt a ks W')∧Below W.heap.size W W' from fun W a1 c1 hI hS=>by
  have:=mO_ (sn:=ns) (sc:=c1) (f:=g) (Lib.hid hI) (Lib.hid HFO.out) (Lib.hid hS) (Lib.hid HNS.out.symm) (by omega) (Lib.hid HS.out.1) (Lib.hid HS.out.2.1)
  rw[←hks,←hnk] at this
  exact this.mono fun e W' ⟨⟨a,c,h1,h2⟩,h3⟩=>⟨⟨a,c,h1,h2.at⟩,h3⟩)
 have KR:=Lib.hid (show ∀(W:World) (a2:Option Addr) (c2:Nat),InksAt a2 ks W→Calls Tryz.prog 45 #[.agg #[.int .i64 g.x,.int .i64 g.y,.int .i64 g.w,.int .i64 g.h,.int .i64 g.s,.slice a2 nk c2]] W fun e W'=>(∃a c,e=.returned (.tuple #[.slice a nr c,.int .i64 0])∧CsAt a (seC rs) W')∧Below W.heap.size W W' from fun W a2 c2 h=>by
  have:=aMT (f:=g) (c:=c2) (n:=nk) hnk.symm (bO_.2 HPO.out) W h
  rw[←hrs] at this
  exact this.mono fun e W' ⟨a',c',h1,h2,h3⟩=>⟨⟨a',c',by rw[hnr];exact h1,h2⟩,h3⟩)
 have hnr8:nr≤800:=by
  have hl:=HPO.out.len
  have h:=rA_ (fun e:Ik×Nat=>rowL e.2 e.1 ks.zipIdx) 40 (fun x=>by have:=lH_ x.2 x.1 ks.zipIdx;rw[List.length_zipIdx] at this;omega) ks.zipIdx
  rw[List.length_zipIdx] at h
  rw[hnr,hrs]
  show(ks.zipIdx.flatMap fun e=>rowL e.2 e.1 ks.zipIdx).length≤800
  omega
 have HKS:=Lib.hid (And.intro hks (And.intro hrs (And.intro hnk hnr)))
 have hgb:=HB.out
 obtain⟨Wn,hWn⟩:∃Wn:Nat,g.w=(Wn:Int):=⟨g.w.toNat,by omega⟩
 have HWN:=Lib.hid (show g.w=(Wn:Int)∧g.w.toNat=Wn∧1≤Wn from⟨hWn,by omega,by omega⟩)
 obtain⟨NP,hNP⟩:∃NP,NP=npx g:=⟨_,rfl⟩
 have HNP:=Lib.hid (show NP=npx g∧1≤NP∧NP≤400 from⟨hNP,by rw[hNP];exact qP_ HFO.out⟩)
 have gWH:IntKind.i64.wrap (g.w*g.h)=(NP:Int):=by
  have h1:=mU_ HFO.out
  have h2:=HNP.out
  rw[←hNP] at h1
  rw[←h1]
  exact IntWalk.i64_in _ (by omega)
 clear hns e0 e1 e2 e3 e4 hX hq HX hks hnk hrs hnr hWn hNP hgb
 go_enter Tryz.func8,Tryz.ntmps8
 go_wp2_with (first
  | (go_at_call 38;(with_reducible refine(KS.out _ H0.out.p.1).mono ?_);rintro e wa1 ⟨rfl,hb⟩;have H1:=Lib.hid (H0.out.below hb);clear hb)
  | (go_at_call 43;(with_reducible refine(KH.out _ H1.out.p.2).mono ?_);rintro e wa2 ⟨a1,c1,rfl,hsh,hb⟩;have H2:=Lib.hid ((H1.out.below hb).add hsh fun _ _ h=>h.below);clear hb hsh;have z0:=H2.out.az.ce 0 0 rfl rfl;have z1:=H2.out.az.ce 0 1 rfl rfl;have z2:=H2.out.az.ce 0 2 rfl rfl;have z3:=H2.out.az.ce 0 3 rfl rfl;have z4:=H2.out.az.ce 0 4 rfl rfl)
  | (go_at_call 39;(with_reducible refine(KF.out _).mono ?_);rintro e wa3 ⟨rfl,hb⟩;have H3:=Lib.hid ((H2.out.below hb).push [.int .i64 g.x,.int .i64 g.y,.int .i64 g.w,.int .i64 g.h,.int .i64 g.s,.slice none 0 0] 58);clear hb z0 z1 z2 z3 z4;have z0:=H3.out.az.ce 0 0 rfl rfl;have z1:=H3.out.az.ce 0 1 rfl rfl;have z2:=H3.out.az.ce 0 2 rfl rfl;have z3:=H3.out.az.ce 0 3 rfl rfl;have z4:=H3.out.az.ce 0 4 rfl rfl;have z5:=H3.out.az.ce 0 5 rfl rfl)
  | (go_at_call 41;(with_reducible refine(KP.out _ _ _ H3.out.p.1.1 H3.out.p.2).mono ?_);rintro e wa4 ⟨⟨aI,cI,rfl,hk⟩,hb⟩;have H4:=Lib.hid (((H3.out.below hb).add hk fun _ _ h=>h.below).push [.int .i64 g.x,.int .i64 g.y,.int .i64 g.w,.int .i64 g.h,.int .i64 g.s,.slice aI nk cI] 58);clear hb hk z0 z1 z2 z3 z4 z5;have z0:=H4.out.az.ce 0 0 rfl rfl;have z1:=H4.out.az.ce 0 1 rfl rfl;have z2:=H4.out.az.ce 0 2 rfl rfl;have z3:=H4.out.az.ce 0 3 rfl rfl;have z4:=H4.out.az.ce 0 4 rfl rfl;have z5:=H4.out.az.ce 0 5 rfl rfl)
  | (go_at_call 45;(with_reducible refine(KR.out _ _ _ H4.out.p.2).mono ?_);rintro e wa5 ⟨⟨aS,cS,rfl,hcs⟩,hb⟩;have H5:=Lib.hid (((H4.out.below hb).add hcs fun _ _ h=>h.below).weak (Q:=fun V=>(ShsAt a1 ss V∧InksAt aI ks V)∧CsAt aS (seC rs) V) (fun _ h=>⟨⟨h.1.1.2,h.1.2⟩,h.2⟩) (fun A C h hb=>⟨⟨h.1.1.below hb,h.1.2.below hb⟩,h.2.below hb⟩));clear hb hcs z0 z1 z2 z3 z4 z5)
  | fail)
 obtain⟨X,hX⟩:∃X,X=wa3.heap.size:=⟨_,rfl⟩
 obtain⟨Xp,hXp⟩:∃X,X=wa4.heap.size:=⟨_,rfl⟩
 rw[←hX,←hXp] at H5⊢
 clear hX hXp H0 H1 H2 H3 H4 KS KF KH KP KR
 have hmx:Tryz.prog.follows .mixedOrders=true:=by kernel_rfl
 have KI:=Lib.hid (fun(r r':Rc) (W:World)=>aKR r r' W)
 have KT:=Lib.hid (show ∀(W:World) (a2:Option Addr) (c2:Nat) (code:Int),InksAt a2 ks W→Calls Tryz.prog 42 #[.agg #[.int .i64 g.x,.int .i64 g.y,.int .i64 g.w,.int .i64 g.h,.int .i64 g.s,.slice a2 nk c2],.int .i64 code] W fun e W'=>e=.returned (.int .i64 (fW_ g ks code))∧Below W.heap.size W W' from fun W a2 c2 code h=>uX_ (f:=g) (n:=nk) (c:=c2) code HKS.out.2.2.1.symm (by have:=HPO.out.len;have:=HKS.out.2.2.1;omega) W h)
 go_loopw [11] (fun v11 wr=>∃i:Nat,i≤ns∧v11=.int .i64 (i:Int)∧ExAt [(Xp,[.int .i64 g.x,.int .i64 g.y,.int .i64 g.w,.int .i64 g.h,.int .i64 g.s,.slice aI nk cI]),(X,[.int .i64 g.x,.int .i64 g.y,.int .i64 g.w,.int .i64 g.h,.int .i64 g.s,.slice none 0 0]),(w.heap.size,[.int .i64 y0,.int .i64 y1,.int .i64 y2,.int .i64 y3,.int .i64 y4])] (fun V=>(ShsAt a1 ss V∧InksAt aI ks V)∧CsAt aS (seC rs) V) w wr) (fun v11 _=>ns-(intOf v11).toNat)
 case atStart=>exact⟨0,Nat.zero_le _,rfl,H5.out⟩
 case round=>
  obtain⟨i,hi,rfl,ho⟩:=hrel
  have H6:=Lib.hid ho
  clear ho H5
  by_cases hlt:i<ns
  case neg=>
   obtain rfl:i=ns:=by omega
   go_wp2
   go_ret
   exact⟨rfl,H6.out.az.bw⟩
  have i1:(0:Int)≤(i:Int):=by omega
  have i2:(i:Int)<(ns:Int):=by omega
  go_wp2
  go_loopw [12] (fun v12 wr=>∃k:Nat,k≤ns∧v12=.int .i64 (k:Int)∧ExAt [(Xp,[.int .i64 g.x,.int .i64 g.y,.int .i64 g.w,.int .i64 g.h,.int .i64 g.s,.slice aI nk cI]),(X,[.int .i64 g.x,.int .i64 g.y,.int .i64 g.w,.int .i64 g.h,.int .i64 g.s,.slice none 0 0]),(w.heap.size,[.int .i64 y0,.int .i64 y1,.int .i64 y2,.int .i64 y3,.int .i64 y4])] (fun V=>(ShsAt a1 ss V∧InksAt aI ks V)∧CsAt aS (seC rs) V) w wr) (fun v12 _=>ns-(intOf v12).toNat)
  case atStart=>exact⟨0,by omega,rfl,H6.out⟩
  case round=>
   obtain⟨k,hk,rfl,ho⟩:=hrel
   have H7:=Lib.hid ho
   clear ho H6
   by_cases hkn:k<ns
   case neg=>
    obtain rfl:k=ns:=by omega
    go_wp2
    exact⟨⟨i+1,by omega,by go_num,H7.out⟩,by simp only[intOf];omega⟩
   have k1:(0:Int)≤(k:Int):=by omega
   have k2:(k:Int)<(ns:Int):=by omega
   by_cases hik:i=k
   ·subst hik
    have x0:((i:Int)==(i:Int))=true:=by simp
    go_upto_region 15 with fail
    refine wp_region_quiet_below (by kernel_rfl) (by kernel_rfl) ?_
    repeat (go_big_quiet_step (fail))
    refine wpQuiet_nil ?_
    intro W2 hw2
    have hb2:Below wr.heap.size wr W2:=by obtain⟨⟨dq,osq⟩,hw7⟩:=hw2;rw[hw7];exact below_regrown wr dq osq
    have H8:=Lib.hid (H7.out.below hb2)
    clear hw2 hb2
    go_wp2
    exact⟨⟨i+1,by omega,by go_num,H8.out⟩,by simp only[intOf];omega⟩
   have x0:((i:Int)==(k:Int))=false:=by simpa using fun e=>hik (by omega)
   obtain⟨s,hs⟩:∃s,ss[i]?=some s:=⟨ss[i]'(by have:=HNS.out;omega),List.getElem?_eq_getElem _⟩
   obtain⟨t,ht⟩:∃t,ss[k]?=some t:=⟨ss[k]'(by have:=HNS.out;omega),List.getElem?_eq_getElem _⟩
   obtain⟨b,o,e1,hbl,hc,hd⟩:=H7.out.p.1.1.two hs ht
   subst e1
   have HTS:=Lib.hid (show fW_ g ks s.code=sumL (inkL g (outL s))∧0≤sumL (inkL g (outL s)) from by
    have h:=aCR HFO.out HS.out.2.1 (by have:=HNS.out;omega) HS.out.1 (List.mem_of_getElem? hs)
    rw[←HKS.out.1] at h
    exact h)
   have HTT:=Lib.hid (show fW_ g ks t.code=sumL (inkL g (outL t))∧0≤sumL (inkL g (outL t)) from by
    have h:=aCR HFO.out HS.out.2.1 (by have:=HNS.out;omega) HS.out.1 (List.mem_of_getElem? ht)
    rw[←HKS.out.1] at h
    exact h)
   have HLW:=Lib.hid (show 0<sumL (inkL g (outL s))→0<sumL (inkL g (outL t))→(dX_ t.rect s.rect=true→∃e∈rs,isSn 2 s.code t.code e)∧(∀e∈rs,isSn 2 s.code t.code e→e.sure=true→∀m,m<NP→partP t.rect (pixR g m)→dX_ (pixR g m) s.rect=true) from by
    intro h1 h2
    have h:=aLR HFO.out HS.out.2.1 HS.out.1 HS.out.2.2 hs ht hik h1 h2
    rw[←HKS.out.1,←HKS.out.2.1,←HNP.out.1] at h
    exact h)
   have hvs:=aV_.1 (dW_ (HS.out.1 s (List.mem_of_getElem? hs)))
   have hvt:=aV_.1 (dW_ (HS.out.1 t (List.mem_of_getElem? ht)))
   generalize sumL (inkL g (outL s))=ts at HTS HLW
   generalize sumL (inkL g (outL t))=tt at HTT HLW
   have HST:=Lib.hid (And.intro hs ht)
   have c0:=hc 0 _ rfl
   have d0:=hd 0 _ rfl
   simp only[Nat.add_zero] at c0 d0
   obtain⟨cd,hcd⟩:∃c,c=s.code:=⟨_,rfl⟩
   obtain⟨ct,hct⟩:∃c,c=t.code:=⟨_,rfl⟩
   have HCD:=Lib.hid (And.intro hcd hct)
   rw[←hcd] at HTS HLW c0
   rw[←hct] at HTT HLW d0
   clear hc hd hs ht hcd hct
   have z0:=cell_regrown c0
   have z1:=cell_regrown d0
   have p0:=cell_regrown (H7.out.az.ce 0 0 rfl rfl)
   have p1:=cell_regrown (H7.out.az.ce 0 1 rfl rfl)
   have p2:=cell_regrown (H7.out.az.ce 0 2 rfl rfl)
   have p3:=cell_regrown (H7.out.az.ce 0 3 rfl rfl)
   have p4:=cell_regrown (H7.out.az.ce 0 4 rfl rfl)
   have p5:=cell_regrown (H7.out.az.ce 0 5 rfl rfl)
   have K1:=Lib.hid (show ∀W:World,InksAt aI ks W→Calls Tryz.prog 42 #[.agg #[.int .i64 g.x,.int .i64 g.y,.int .i64 g.w,.int .i64 g.h,.int .i64 g.s,.slice aI nk cI],.int .i64 cd] W fun e W'=>e=.returned (.int .i64 ts)∧Below W.heap.size W W' from fun W h=>by have:=KT.out W aI cI cd h;rw[HTS.out.1] at this;exact this)
   have K2:=Lib.hid (show ∀W:World,InksAt aI ks W→Calls Tryz.prog 42 #[.agg #[.int .i64 g.x,.int .i64 g.y,.int .i64 g.w,.int .i64 g.h,.int .i64 g.s,.slice aI nk cI],.int .i64 ct] W fun e W'=>e=.returned (.int .i64 tt)∧Below W.heap.size W W' from fun W h=>by have:=KT.out W aI cI ct h;rw[HTT.out.1] at this;exact this)
   have cc1:=fun d os=>Calls.regrown_of (d:=d) (os:=os) (K1.out (grow (redrawn wr d) os) (H7.out.p.1.2.below (below_regrown wr d os)))
   have cc2:=fun d os=>Calls.regrown_of (d:=d) (os:=os) (K2.out (grow (redrawn wr d) os) (H7.out.p.1.2.below (below_regrown wr d os)))
   clear c0 d0
   obtain⟨v1,hv1⟩:∃v,(ts==0)=v:=⟨_,rfl⟩
   obtain⟨v2,hv2⟩:∃v,(tt==0)=v:=⟨_,rfl⟩
   go_upto_region 15 with fail
   cases v1
   case true=>
    refine wp_region_quiet_below (by kernel_rfl) (by kernel_rfl) ?_
    repeat (go_big_quiet_step (first|with_reducible exact cc1 _ _|with_reducible exact cc2 _ _))
    refine wpQuiet_nil ?_
    intro W2 hw2
    have hb2:Below wr.heap.size wr W2:=by obtain⟨⟨dq,osq⟩,hw7⟩:=hw2;rw[hw7];exact below_regrown wr dq osq
    have H8:=Lib.hid (H7.out.below hb2)
    clear hw2 hb2
    go_wp2
    exact⟨⟨k+1,by omega,by go_num,H8.out⟩,by simp only[intOf];omega⟩
   cases v2
   case true=>
    refine wp_region_quiet_below (by kernel_rfl) (by kernel_rfl) ?_
    repeat (go_big_quiet_step (first|with_reducible exact cc1 _ _|with_reducible exact cc2 _ _))
    refine wpQuiet_nil ?_
    intro W2 hw2
    have hb2:Below wr.heap.size wr W2:=by obtain⟨⟨dq,osq⟩,hw7⟩:=hw2;rw[hw7];exact below_regrown wr dq osq
    have H8:=Lib.hid (H7.out.below hb2)
    clear hw2 hb2
    go_wp2
    exact⟨⟨k+1,by omega,by go_num,H8.out⟩,by simp only[intOf];omega⟩
   refine wp_region_quiet_below (by kernel_rfl) (by kernel_rfl) ?_
   repeat (go_big_quiet_step (first|with_reducible exact cc1 _ _|with_reducible exact cc2 _ _))
   refine wpQuiet_nil ?_
   intro W2 hw2
   have hb2:Below wr.heap.size wr W2:=by obtain⟨⟨dq,osq⟩,hw7⟩:=hw2;rw[hw7];exact below_regrown wr dq osq
   have H13:=Lib.hid (H7.out.below hb2)
   have HL2 := Lib.hid (HLW.out (by have h1:=HTS.out.2;have h2:¬ts=0:=by simpa using hv1
                                    omega) (by have h1:=HTT.out.2;have h2:¬tt=0:=by simpa using hv2
                                               omega))
   clear hw2 hb2 z0 z1 p0 p1 p2 p3 p4 p5 cc1 cc2 K1 K2 hv1 hv2 x0 HTS HTT HLW H7 KT
   go_upto_block 4 with fail
   go_cut [13,14,15] from 50 to 240 (fun v13 v14 v15 wx=>∃ib rb:Bool,v13=.bool ib∧v14=.bool rb∧Hid ((ib=false→∀j,j<nr→∀e,rs[j]?=some e→¬isSn 2 cd ct e)∧(rb=true→∃e∈rs,isSn 2 cd ct e∧e.sure=true))∧ExAt [(Xp,[.int .i64 g.x,.int .i64 g.y,.int .i64 g.w,.int .i64 g.h,.int .i64 g.s,.slice aI nk cI]),(X,[.int .i64 g.x,.int .i64 g.y,.int .i64 g.w,.int .i64 g.h,.int .i64 g.s,.slice none 0 0]),(w.heap.size,[.int .i64 y0,.int .i64 y1,.int .i64 y2,.int .i64 y3,.int .i64 y4])] (fun V=>(ShsAt (some ⟨b,o,none⟩) ss V∧InksAt aI ks V)∧CsAt aS (seC rs) V) w wx)
   case first=>as_aux_lemma=>
    go_wp2
    go_loopw [13,14,15] (fun v13 v14 v15 wr=>∃(r:Nat) (ib rb:Bool),r≤nr∧v13=.bool ib∧v14=.bool rb∧v15=.int .i64 (r:Int)∧Hid ((ib=false→∀j,j<r→∀e,rs[j]?=some e→¬isSn 2 cd ct e)∧(rb=true→∃e∈rs,isSn 2 cd ct e∧e.sure=true))∧ExAt [(Xp,[.int .i64 g.x,.int .i64 g.y,.int .i64 g.w,.int .i64 g.h,.int .i64 g.s,.slice aI nk cI]),(X,[.int .i64 g.x,.int .i64 g.y,.int .i64 g.w,.int .i64 g.h,.int .i64 g.s,.slice none 0 0]),(w.heap.size,[.int .i64 y0,.int .i64 y1,.int .i64 y2,.int .i64 y3,.int .i64 y4])] (fun V=>(ShsAt (some ⟨b,o,none⟩) ss V∧InksAt aI ks V)∧CsAt aS (seC rs) V) w wr) (fun _ _ v15 _=>nr-(intOf v15).toNat)
    case atStart=>exact⟨0,false,false,Nat.zero_le _,rfl,rfl,rfl,Lib.hid ⟨fun _ j hj=>absurd hj (by omega),fun h=>by cases h⟩,H13.out⟩
    case round=>
     obtain⟨r,ib,rb,hr,rfl,rfl,rfl,HBB,ho⟩:=hrel
     have H16:=Lib.hid ho
     clear ho H13
     by_cases hrn:r<nr
     case neg=>
      obtain rfl:r=nr:=by omega
      go_wp2
      go_meet
      exact⟨ib,rb,rfl,rfl,HBB,H16.out⟩
     have r1:(0:Int)≤(r:Int):=by omega
     have r2:(r:Int)<(nr:Int):=by omega
     obtain⟨e,he⟩:∃e,rs[r]?=some e:=⟨rs[r]'(by have:=HKS.out.2.2.2;omega),List.getElem?_eq_getElem _⟩
     obtain⟨bs,os,e1,hbs,s0,s1,s2,s3⟩:=H16.out.p.2.sn he
     subst e1
     have HE:=Lib.hid he
     clear he
     obtain⟨ek,ea,eb,es⟩:=e
     simp only at s0 s1 s2 s3
     have hcs:=(H16.out.p.1.1.one HST.out.1).2 0 _ rfl
     have hct:=(H16.out.p.1.1.one HST.out.2).2 0 _ rfl
     simp only[Nat.add_zero] at hcs hct
     rw[←HCD.out.1] at hcs
     rw[←HCD.out.2] at hct
     obtain⟨x1,hx1⟩:∃x,(ek==2)=x:=⟨_,rfl⟩
     obtain⟨x2,hx2⟩:∃x,(ea==cd)=x:=⟨_,rfl⟩
     obtain⟨x3,hx3⟩:∃x,(eb==ct)=x:=⟨_,rfl⟩
     have HIS:=Lib.hid (show isSn 2 cd ct ⟨ek,ea,eb,es⟩↔x1=true∧x2=true∧x3=true from aAP hx1 hx2 hx3)
     go_upto_region 21 with fail
     have y0:=cell_regrown s0
     have y1:=cell_regrown s1
     have y2:=cell_regrown s2
     have y3:=cell_regrown hcs
     have y4:=cell_regrown hct
     clear s0 s1 s2 hcs hct
     cases x1
     case false=>
      have HNO:=Lib.hid (show ¬isSn 2 cd ct ⟨ek,ea,eb,es⟩ from fun h=>by have:=HIS.out.1 h;simp at this)
      refine wp_region_quiet_below (by kernel_rfl) (by kernel_rfl) ?_
      repeat (go_big_quiet_step (fail))
      refine wpQuiet_nil ?_
      intro W2 hw2
      have hb2:Below wr.heap.size wr W2:=by obtain⟨⟨dq,osq⟩,hw7⟩:=hw2;rw[hw7];exact below_regrown wr dq osq
      have H17:=Lib.hid (H16.out.below hb2)
      clear hw2 hb2
      go_wp2
      exact⟨⟨r+1,ib,rb,by omega,rfl,rfl,by go_num,Lib.hid (And.intro (fun h=>aFK HE.out (HBB.out.1 h) HNO.out) HBB.out.2),H17.out⟩,by simp only[intOf];omega⟩
     cases x2
     case false=>
      have HNO:=Lib.hid (show ¬isSn 2 cd ct ⟨ek,ea,eb,es⟩ from fun h=>by have:=HIS.out.1 h;simp at this)
      refine wp_region_quiet_below (by kernel_rfl) (by kernel_rfl) ?_
      repeat (go_big_quiet_step (fail))
      refine wpQuiet_nil ?_
      intro W2 hw2
      have hb2:Below wr.heap.size wr W2:=by obtain⟨⟨dq,osq⟩,hw7⟩:=hw2;rw[hw7];exact below_regrown wr dq osq
      have H17:=Lib.hid (H16.out.below hb2)
      clear hw2 hb2
      go_wp2
      exact⟨⟨r+1,ib,rb,by omega,rfl,rfl,by go_num,Lib.hid (And.intro (fun h=>aFK HE.out (HBB.out.1 h) HNO.out) HBB.out.2),H17.out⟩,by simp only[intOf];omega⟩
     cases x3
     case false=>
      have HNO:=Lib.hid (show ¬isSn 2 cd ct ⟨ek,ea,eb,es⟩ from fun h=>by have:=HIS.out.1 h;simp at this)
      refine wp_region_quiet_below (by kernel_rfl) (by kernel_rfl) ?_
      repeat (go_big_quiet_step (fail))
      refine wpQuiet_nil ?_
      intro W2 hw2
      have hb2:Below wr.heap.size wr W2:=by obtain⟨⟨dq,osq⟩,hw7⟩:=hw2;rw[hw7];exact below_regrown wr dq osq
      have H17:=Lib.hid (H16.out.below hb2)
      clear hw2 hb2
      go_wp2
      exact⟨⟨r+1,ib,rb,by omega,rfl,rfl,by go_num,Lib.hid (And.intro (fun h=>aFK HE.out (HBB.out.1 h) HNO.out) HBB.out.2),H17.out⟩,by simp only[intOf];omega⟩
     have HYE:=Lib.hid (show isSn 2 cd ct ⟨ek,ea,eb,es⟩ from HIS.out.2 ⟨rfl,rfl,rfl⟩)
     refine wp_region_quiet_below (by kernel_rfl) (by kernel_rfl) ?_
     repeat (go_big_quiet_step (fail))
     refine wpQuiet_nil ?_
     intro W2 hw2
     have hb2:Below wr.heap.size wr W2:=by obtain⟨⟨dq,osq⟩,hw7⟩:=hw2;rw[hw7];exact below_regrown wr dq osq
     have H17:=Lib.hid (H16.out.below hb2)
     have s3':=(hb2.cell (p:=⟨bs,os+r*4+3,none⟩) hbs).trans s3
     clear hw2 hb2 s3 y0 y1 y2 y3 y4
     have HNX:=Lib.hid (show(true=false→∀j,j<r+1→∀e,rs[j]?=some e→¬isSn 2 cd ct e)∧(es=true→∃e∈rs,isSn 2 cd ct e∧e.sure=true) from⟨fun h=>(by cases h),fun h=>⟨_,List.mem_of_getElem? HE.out,HYE.out,h⟩⟩)
     go_wp2
     exact⟨⟨r+1,true,es,by omega,rfl,rfl,by go_num,HNX,H17.out⟩,by simp only[intOf];omega⟩
   obtain⟨ib,rb,rfl,rfl,HBB,hx⟩:=hcut
   have H16:=Lib.hid hx
   clear hx H13
   obtain⟨wr,hwr⟩:∃W,W=wc:=⟨_,rfl⟩
   rw[←hwr] at H16⊢
   clear hwr
   obtain⟨vi,hvi⟩:∃v,dX_ t.rect s.rect=v:=⟨_,rfl⟩
   have HVI:=Lib.hid (show vi=true→ib=true from fun h=>by
    cases hib:ib
    ·exact absurd (HL2.out.1 (hvi.trans h)) (aKP (fun j hj=>HBB.out.1 hib j (by rw[HKS.out.2.2.2];exact hj)))
    ·rfl)
   have HWH:=Lib.hid (show rb=true→∀m,m<NP→partP t.rect (pixR g m)→dX_ (pixR g m) s.rect=true from fun h=>by
    obtain⟨e,h1,h2,h3⟩:=HBB.out.2 h
    exact HL2.out.2 e h1 h2 h3)
   have KI1:=Lib.hid (show ∀W:World,Calls Tryz.prog 19 #[.agg #[.int .i64 t.rect.x,.int .i64 t.rect.y,.int .i64 t.rect.w,.int .i64 t.rect.h],.agg #[.int .i64 s.rect.x,.int .i64 s.rect.y,.int .i64 s.rect.w,.int .i64 s.rect.h]] W fun e W'=>e=.returned (.bool vi)∧Below W.heap.size W W' from fun W=>hvi▸KI.out t.rect s.rect W)
   obtain⟨-,hc⟩:=H16.out.p.1.1.one HST.out.1
   obtain⟨-,hd⟩:=H16.out.p.1.1.one HST.out.2
   have hb4:b<wr.heap.size:=(H16.out.p.1.1.one HST.out.1).1
   clear HBB HL2 hvi hbl
   obtain⟨sc,kd,⟨s0,s1,s2,s3⟩,sa,sb',wd⟩:=s
   obtain⟨tc,kt,⟨t0,t1,t2,t3⟩,ta,tb',wt⟩:=t
   simp only at hvs hvt HWH KI1
   have c2:=cell_regrown (hc 2 _ rfl)
   have c3:=cell_regrown (hc 3 _ rfl)
   have c4:=cell_regrown (hc 4 _ rfl)
   have c5:=cell_regrown (hc 5 _ rfl)
   have d2:=cell_regrown (hd 2 _ rfl)
   have d3:=cell_regrown (hd 3 _ rfl)
   have d4:=cell_regrown (hd 4 _ rfl)
   have d5:=cell_regrown (hd 5 _ rfl)
   have cc1:=fun d os=>Calls.regrown_of (d:=d) (os:=os) (KI1.out (grow (redrawn wr d) os))
   clear hc hd KI1
   go_upto_region 24 with fail
   go_cut [136] from 122 to 135 (fun v136 wx=>v136=.bool false∧ExAt [(Xp,[.int .i64 g.x,.int .i64 g.y,.int .i64 g.w,.int .i64 g.h,.int .i64 g.s,.slice aI nk cI]),(X,[.int .i64 g.x,.int .i64 g.y,.int .i64 g.w,.int .i64 g.h,.int .i64 g.s,.slice none 0 0]),(w.heap.size,[.int .i64 y0,.int .i64 y1,.int .i64 y2,.int .i64 y3,.int .i64 y4])] (fun V=>(ShsAt (some ⟨b,o,none⟩) ss V∧InksAt aI ks V)∧CsAt aS (seC rs) V) w wx)
   case first=>as_aux_lemma=>
    cases vi
    ·clear HVI
     refine wp_region_quiet_below (by kernel_rfl) (by kernel_rfl) ?_
     repeat (go_big_quiet_step (with_reducible exact cc1 _ _))
     refine wpQuiet_nil ?_
     intro W2 hw2
     have hb2:Below wr.heap.size wr W2:=by obtain⟨⟨dq,osq⟩,hw7⟩:=hw2;rw[hw7];exact below_regrown wr dq osq
     have H17:=Lib.hid (H16.out.below hb2)
     clear hw2 hb2
     go_wp2
     go_meet
     exact⟨rfl,H17.out⟩
    ·obtain rfl:=HVI.out rfl
     refine wp_region_quiet_below (by kernel_rfl) (by kernel_rfl) ?_
     repeat (go_big_quiet_step (with_reducible exact cc1 _ _))
     refine wpQuiet_nil ?_
     intro W2 hw2
     have hb2:Below wr.heap.size wr W2:=by obtain⟨⟨dq,osq⟩,hw7⟩:=hw2;rw[hw7];exact below_regrown wr dq osq
     have H17:=Lib.hid (H16.out.below hb2)
     clear hw2 hb2
     go_wp2
     go_meet
     exact⟨rfl,H17.out⟩
   obtain⟨rfl,hx⟩:=hcut
   have H17:=Lib.hid hx
   clear hx c2 c3 c4 c5 d2 d3 d4 d5 cc1 H16 HVI
   go_upto_block 6 with fail
   cases rb
   ·as_aux_lemma=>
    clear HWH
    have z2:=H17.out.az.ce 1 2 rfl rfl
    have z3:=H17.out.az.ce 1 3 rfl rfl
    go_wp2
    go_loopw [16] (fun v16 wr=>v16=.int .i64 0∧ExAt [(Xp,[.int .i64 g.x,.int .i64 g.y,.int .i64 g.w,.int .i64 g.h,.int .i64 g.s,.slice aI nk cI]),(X,[.int .i64 g.x,.int .i64 g.y,.int .i64 g.w,.int .i64 g.h,.int .i64 g.s,.slice none 0 0]),(w.heap.size,[.int .i64 y0,.int .i64 y1,.int .i64 y2,.int .i64 y3,.int .i64 y4])] (fun V=>(ShsAt (some ⟨b,o,none⟩) ss V∧InksAt aI ks V)∧CsAt aS (seC rs) V) w wr) (fun _ _=>0)
    case atStart=>exact⟨rfl,H17.out⟩
    case round=>
     obtain⟨rfl,ho⟩:=hrel
     have H18:=Lib.hid ho
     clear ho z2 z3 H17
     have z2:=H18.out.az.ce 1 2 rfl rfl
     have z3:=H18.out.az.ce 1 3 rfl rfl
     have t9:0<NP:=HNP.out.2.1
     go_wp2
     exact⟨⟨k+1,by omega,by go_num,H18.out⟩,by simp only[intOf];omega⟩
   ·as_aux_lemma=>
    have HWI:=Lib.hid (HWH.out rfl)
    clear HWH
    have z2:=H17.out.az.ce 1 2 rfl rfl
    have z3:=H17.out.az.ce 1 3 rfl rfl
    go_wp2
    go_loopw [16] (fun v16 wr=>∃m:Nat,m≤NP∧v16=.int .i64 (m:Int)∧ExAt [(Xp,[.int .i64 g.x,.int .i64 g.y,.int .i64 g.w,.int .i64 g.h,.int .i64 g.s,.slice aI nk cI]),(X,[.int .i64 g.x,.int .i64 g.y,.int .i64 g.w,.int .i64 g.h,.int .i64 g.s,.slice none 0 0]),(w.heap.size,[.int .i64 y0,.int .i64 y1,.int .i64 y2,.int .i64 y3,.int .i64 y4])] (fun V=>(ShsAt (some ⟨b,o,none⟩) ss V∧InksAt aI ks V)∧CsAt aS (seC rs) V) w wr) (fun v16 _=>NP-(intOf v16).toNat)
    case atStart=>exact⟨0,Nat.zero_le _,rfl,H17.out⟩
    case round=>
     obtain⟨m,hm,rfl,ho⟩:=hrel
     have H18:=Lib.hid ho
     clear ho z2 z3 H17
     have z2:=H18.out.az.ce 1 2 rfl rfl
     have z3:=H18.out.az.ce 1 3 rfl rfl
     by_cases hmn:m<NP
     case neg=>
      obtain rfl:m=NP:=by omega
      have t9:decide ((m:Int)<(m:Int))=false:=decide_eq_false (by omega)
      go_wp2
      exact⟨⟨k+1,by omega,by go_num,H18.out⟩,by simp only[intOf];omega⟩
     have t9:decide ((m:Int)<(NP:Int))=true:=decide_eq_true (by omega)
     have hnp4:=HNP.out.2.2
     have hg:=HB.out
     have hmq:=aEJ HFO.out (show m<npx g by rw[←HNP.out.1];exact hmn)
     have hpq:=show pixR g m=⟨g.x+((m%g.w.toNat:Nat):Int)*g.s,g.y+((m/g.w.toNat:Nat):Int)*g.s,g.s,g.s⟩ from rfl
     rw[HWN.out.2.1] at hmq hpq
     obtain⟨p,hp⟩:∃p,p=m%Wn:=⟨_,rfl⟩
     obtain⟨q,hq⟩:∃q,q=m/Wn:=⟨_,rfl⟩
     rw[←hp,←hq] at hmq hpq
     have hrem:Int.tmod (m:Int) g.w=(p:Int):=by rw[hp,HWN.out.1];rfl
     have hquo:Int.tdiv (m:Int) g.w=(q:Int):=by rw[hq,HWN.out.1];rfl
     have hw0:¬g.w=0:=by omega
     have q1:=Int.mul_le_mul (show(p:Int)≤6 by have:=HWN.out;omega) (show g.s≤20 by omega) (by omega) (by omega)
     have q2:=Int.mul_le_mul (show(q:Int)≤6 by omega) (show g.s≤20 by omega) (by omega) (by omega)
     have q3:=Int.mul_nonneg (show 0≤(p:Int) by omega) (show 0≤g.s by omega)
     have q4:=Int.mul_nonneg (show 0≤(q:Int) by omega) (show 0≤g.s by omega)
     have q5:=Int.mul_le_mul (show g.s≤20 by omega) (show g.s≤20 by omega) (by omega) (by omega)
     have q6:=Int.mul_pos (show 0<g.s by omega) (show 0<g.s by omega)
     obtain⟨ux,hux⟩:∃a,a=g.x+(p:Int)*g.s:=⟨_,rfl⟩
     obtain⟨uy,huy⟩:∃a,a=g.y+(q:Int)*g.s:=⟨_,rfl⟩
     have g1:IntKind.i64.wrap ((p:Int)*g.s)=(p:Int)*g.s:=IntWalk.i64_in _ (by omega)
     have g2:IntKind.i64.wrap (g.x+(p:Int)*g.s)=ux:=by rw[IntWalk.i64_in _ (by omega),hux]
     have g3:IntKind.i64.wrap ((q:Int)*g.s)=(q:Int)*g.s:=IntWalk.i64_in _ (by omega)
     have g4:IntKind.i64.wrap (g.y+(q:Int)*g.s)=uy:=by rw[IntWalk.i64_in _ (by omega),huy]
     have g5:IntKind.i64.wrap (p:Int)=(p:Int):=IntWalk.i64_in _ (by have:=HWN.out;omega)
     have g6:IntKind.i64.wrap (q:Int)=(q:Int):=IntWalk.i64_in _ (by omega)
     rw[←hux,←huy] at hpq
     have HPQ:=Lib.hid hpq
     have hub:(0≤ux∧ux≤300)∧(0≤uy∧uy≤300)∧(1≤g.s∧g.s≤20):=by omega
     have hgS:0<g.s*g.s∧g.s*g.s≤400:=by omega
     clear hg hmq hpq hux huy q1 q2 q3 q4 q5 q6 hp hq
     have hb5:b<wr.heap.size:=(H18.out.p.1.1.one HST.out.1).1
     go_upto_region 29 with fail
     clear z2 z3
     have H19:=Lib.hid (show ExAt [(Xp,[.int .i64 g.x,.int .i64 g.y,.int .i64 g.w,.int .i64 g.h,.int .i64 g.s,.slice aI nk cI]),(X,[.int .i64 g.x,.int .i64 g.y,.int .i64 g.w,.int .i64 g.h,.int .i64 g.s,.slice none 0 0]),(w.heap.size,[.int .i64 y0,.int .i64 y1,.int .i64 y2,.int .i64 y3,.int .i64 y4])] (fun V=>(ShsAt (some ⟨b,o,none⟩) ss V∧InksAt aI ks V)∧CsAt aS (seC rs) V) wr wr from H18.out.here)
     refine bX_ (A:=?fr) 25 17 [.int .i64 0,.int .i64 0,.int .i64 0,.int .i64 0] 29 hmx (by kernel_rfl) ⟨_,rfl,rfl,rfl,fun b W=>?al1⟩ ?h ?ht
     case al1=>simp[go_sem]
     case h=>
      intro U hU
      have hp:=H19.out.below hU
      have z0:=cell_regrown (hp.az.ce 1 0 rfl rfl)
      have z1:=cell_regrown (hp.az.ce 1 1 rfl rfl)
      have z2:=cell_regrown (hp.az.ce 1 2 rfl rfl)
      have z4:=cell_regrown (hp.az.ce 1 4 rfl rfl)
      clear hp
      simp only[List.take_succ_cons,List.take_zero]
      repeat (go_big_quiet_step (fail))
      refine wpQuiet_nil ?_
      rfl
     case ht=>
      intro B W hW hB cB
      have H20:=Lib.hid ((H19.out.below hW).cons cB)
      have hBw:wr.heap.size≤B:=hB
      have hBd:∀z∈([(Xp,[.int .i64 g.x,.int .i64 g.y,.int .i64 g.w,.int .i64 g.h,.int .i64 g.s,.slice aI nk cI]),(X,[.int .i64 g.x,.int .i64 g.y,.int .i64 g.w,.int .i64 g.h,.int .i64 g.s,.slice none 0 0]),(w.heap.size,[.int .i64 y0,.int .i64 y1,.int .i64 y2,.int .i64 y3,.int .i64 y4])]:List (Nat×List Value)),B≠z.1:=fun z hz=>by have:=(H19.out.az.row z hz).sz;omega
      clear hW cB hB g1 g2 g3 g4 g5 g6 hrem hquo hw0
      have m0:=H20.out.az.ce 0 0 rfl rfl
      have m1:=H20.out.az.ce 0 1 rfl rfl
      have m2:=H20.out.az.ce 0 2 rfl rfl
      have m3:=H20.out.az.ce 0 3 rfl rfl
      have x0:=H20.out.az.cf 0 0 rfl rfl
      have x1:=H20.out.az.cf 0 1 rfl rfl
      have x2:=H20.out.az.cf 0 2 rfl rfl
      have x3:=H20.out.az.cf 0 3 rfl rfl
      simp only[List.drop_succ_cons,List.drop_zero]
      go_upto_region 30 with fail
      have H21:=Lib.hid (show ExAt ((B,[.int .i64 ux,.int .i64 uy,.int .i64 g.s,.int .i64 g.s])::[(Xp,[.int .i64 g.x,.int .i64 g.y,.int .i64 g.w,.int .i64 g.h,.int .i64 g.s,.slice aI nk cI]),(X,[.int .i64 g.x,.int .i64 g.y,.int .i64 g.w,.int .i64 g.h,.int .i64 g.s,.slice none 0 0]),(w.heap.size,[.int .i64 y0,.int .i64 y1,.int .i64 y2,.int .i64 y3,.int .i64 y4])]) (fun V=>(ShsAt (some ⟨b,o,none⟩) ss V∧InksAt aI ks V)∧CsAt aS (seC rs) V) wr ((((W.setCell ⟨B,0,none⟩ (.int .i64 ux)).setCell ⟨B,1,none⟩ (.int .i64 uy)).setCell ⟨B,2,none⟩ (.int .i64 g.s)).setCell ⟨B,3,none⟩ (.int .i64 g.s)) from(((H20.out.set H19.out.p hBw hBd (i:=0) rfl (.int .i64 ux)).set H19.out.p hBw hBd (i:=1) rfl (.int .i64 uy)).set H19.out.p hBw hBd (i:=2) rfl (.int .i64 g.s)).set H19.out.p hBw hBd (i:=3) rfl (.int .i64 g.s))
      obtain⟨W4,hW4⟩:∃V,V=((((W.setCell ⟨B,0,none⟩ (.int .i64 ux)).setCell ⟨B,1,none⟩ (.int .i64 uy)).setCell ⟨B,2,none⟩ (.int .i64 g.s)).setCell ⟨B,3,none⟩ (.int .i64 g.s)):=⟨_,rfl⟩
      rw[←hW4] at H21⊢
      clear hW4 m0 m1 m2 m3 x0 x1 x2 x3 H20 hBw hBd
      obtain⟨hb6,hd⟩:=H21.out.p.1.1.one HST.out.2
      have d2:=hd 2 _ rfl
      have d3:=hd 3 _ rfl
      have d4:=hd 4 _ rfl
      have d5:=hd 5 _ rfl
      clear hd
      go_upto_region 31 with fail
      have H22:=Lib.hid (H21.out.push [.int .i64 t0,.int .i64 t1,.int .i64 t2,.int .i64 t3] 29)
      obtain⟨B5,hB5⟩:∃B,B=W4.heap.size:=⟨_,rfl⟩
      obtain⟨W5,hW5⟩:∃W,W=W4.alloc (.cells #[.int .i64 t0,.int .i64 t1,.int .i64 t2,.int .i64 t3] 29):=⟨_,rfl⟩
      rw[←hB5,←hW5] at H22⊢
      clear hB5 hW5 d2 d3 d4 d5 hb6 H21
      have m0:=H22.out.az.ce 0 0 rfl rfl
      have m1:=H22.out.az.ce 0 1 rfl rfl
      have m2:=H22.out.az.ce 0 2 rfl rfl
      have m3:=H22.out.az.ce 0 3 rfl rfl
      have x0:=H22.out.az.ce 1 0 rfl rfl
      have x1:=H22.out.az.ce 1 1 rfl rfl
      have x2:=H22.out.az.ce 1 2 rfl rfl
      have x3:=H22.out.az.ce 1 3 rfl rfl
      have j1:IntKind.i64.wrap (t0+t2)=t0+t2:=IntWalk.i64_in _ (by omega)
      have j2:IntKind.i64.wrap (ux+g.s)=ux+g.s:=IntWalk.i64_in _ (by omega)
      have j3:IntKind.i64.wrap (min (t0+t2) (ux+g.s)-max t0 ux)=min (t0+t2) (ux+g.s)-max t0 ux:=IntWalk.i64_in _ (by omega)
      have j4:IntKind.i64.wrap (t1+t3)=t1+t3:=IntWalk.i64_in _ (by omega)
      have j5:IntKind.i64.wrap (uy+g.s)=uy+g.s:=IntWalk.i64_in _ (by omega)
      have j6:IntKind.i64.wrap (min (t1+t3) (uy+g.s)-max t1 uy)=min (t1+t3) (uy+g.s)-max t1 uy:=IntWalk.i64_in _ (by omega)
      go_upto_region 33 with fail
      clear j1 j2 j3 j4 j5 j6 m0 m1 m2 m3 x0 x1 x2 x3
      have HPW:=Lib.hid (show pxW ⟨t0,t1,t2,t3⟩ (pixR g m)=min (t0+t2) (ux+g.s)-max t0 ux∧pxH ⟨t0,t1,t2,t3⟩ (pixR g m)=min (t1+t3) (uy+g.s)-max t1 uy∧(pixR g m).w*(pixR g m).h=g.s*g.s from by rw[HPQ.out];exact⟨rfl,rfl,rfl⟩)
      have hpb:min (t0+t2) (ux+g.s)-max t0 ux≤20∧min (t1+t3) (uy+g.s)-max t1 uy≤20:=by omega
      have HIN:=Lib.hid (HWI.out m hmn)
      rw[HPQ.out] at HIN
      unfold partP at HIN
      rw[←HPQ.out,HPW.out.1,HPW.out.2.1,HPW.out.2.2,HPQ.out] at HIN
      generalize min (t0+t2) (ux+g.s)-max t0 ux=pw at *
      generalize min (t1+t3) (uy+g.s)-max t1 uy=ph at *
      clear HPW
      have gS:IntKind.i64.wrap (g.s*g.s)=g.s*g.s:=IntWalk.i64_in _ (by omega)
      have x0:=cell_regrown (H22.out.az.ce 1 0 rfl rfl)
      have x1:=cell_regrown (H22.out.az.ce 1 1 rfl rfl)
      have x2:=cell_regrown (H22.out.az.ce 1 2 rfl rfl)
      have x3:=cell_regrown (H22.out.az.ce 1 3 rfl rfl)
      obtain⟨hb7,hc⟩:=H22.out.p.1.1.one HST.out.1
      have c2:=cell_regrown (hc 2 _ rfl)
      have c3:=cell_regrown (hc 3 _ rfl)
      have c4:=cell_regrown (hc 4 _ rfl)
      have c5:=cell_regrown (hc 5 _ rfl)
      clear hc
      have HEND:=Lib.hid (show ∀V:World,Below W5.heap.size W5 V→ExAt [(Xp,[.int .i64 g.x,.int .i64 g.y,.int .i64 g.w,.int .i64 g.h,.int .i64 g.s,.slice aI nk cI]),(X,[.int .i64 g.x,.int .i64 g.y,.int .i64 g.w,.int .i64 g.h,.int .i64 g.s,.slice none 0 0]),(w.heap.size,[.int .i64 y0,.int .i64 y1,.int .i64 y2,.int .i64 y3,.int .i64 y4])] (fun V=>(ShsAt (some ⟨b,o,none⟩) ss V∧InksAt aI ks V)∧CsAt aS (seC rs) V) w V from fun V hV=>H18.out.below ((H22.out.below hV).az.bw))
      by_cases hpw:0<pw
      case neg=>
       have a1:decide (0<pw)=false:=decide_eq_false hpw
       refine wp_region_quiet_below (by kernel_rfl) (by kernel_rfl) ?_
       repeat (go_big_quiet_step (fail))
       refine wpQuiet_nil ?_
       intro W2 hw2
       have hb2:Below W5.heap.size W5 W2:=by obtain⟨⟨dq,osq⟩,hw7⟩:=hw2;rw[hw7];exact below_regrown W5 dq osq
       have H23:=Lib.hid (HEND.out W2 hb2)
       clear hw2 hb2
       go_wp2
       exact⟨⟨m+1,by omega,by go_num,H23.out⟩,by simp only[intOf];omega⟩
      have a1:decide (0<pw)=true:=decide_eq_true hpw
      by_cases hph:0<ph
      case neg=>
       have a2:decide (0<ph)=false:=decide_eq_false hph
       refine wp_region_quiet_below (by kernel_rfl) (by kernel_rfl) ?_
       repeat (go_big_quiet_step (fail))
       refine wpQuiet_nil ?_
       intro W2 hw2
       have hb2:Below W5.heap.size W5 W2:=by obtain⟨⟨dq,osq⟩,hw7⟩:=hw2;rw[hw7];exact below_regrown W5 dq osq
       have H23:=Lib.hid (HEND.out W2 hb2)
       clear hw2 hb2
       go_wp2
       exact⟨⟨m+1,by omega,by go_num,H23.out⟩,by simp only[intOf];omega⟩
      have a2:decide (0<ph)=true:=decide_eq_true hph
      have v1:=Int.mul_le_mul hpb.1 hpb.2 (by omega) (by omega)
      have v2:=Int.mul_pos hpw hph
      have gP:IntKind.i64.wrap (pw*ph)=pw*ph:=IntWalk.i64_in _ (by omega)
      have gQ:IntKind.i64.wrap (pw*ph*4096)=pw*ph*4096:=IntWalk.i64_in _ (by omega)
      clear v1 v2
      by_cases hle:g.s*g.s≤pw*ph*4096
      case neg=>
       have a3:decide (g.s*g.s≤pw*ph*4096)=false:=decide_eq_false hle
       refine wp_region_quiet_below (by kernel_rfl) (by kernel_rfl) ?_
       repeat (go_big_quiet_step (fail))
       refine wpQuiet_nil ?_
       intro W2 hw2
       have hb2:Below W5.heap.size W5 W2:=by obtain⟨⟨dq,osq⟩,hw7⟩:=hw2;rw[hw7];exact below_regrown W5 dq osq
       have H23:=Lib.hid (HEND.out W2 hb2)
       clear hw2 hb2
       go_wp2
       exact⟨⟨m+1,by omega,by go_num,H23.out⟩,by simp only[intOf];omega⟩
      have a3:decide (g.s*g.s≤pw*ph*4096)=true:=decide_eq_true hle
      have hin:=HIN.out ⟨hpw,hph,hle⟩
      have KI2:=Lib.hid (show ∀W:World,Calls Tryz.prog 19 #[.agg #[.int .i64 ux,.int .i64 uy,.int .i64 g.s,.int .i64 g.s],.agg #[.int .i64 s0,.int .i64 s1,.int .i64 s2,.int .i64 s3]] W fun e W'=>e=.returned (.bool true)∧Below W.heap.size W W' from fun W=>hin▸KI.out ⟨ux,uy,g.s,g.s⟩ ⟨s0,s1,s2,s3⟩ W)
      have cc2:=fun d os=>Calls.regrown_of (d:=d) (os:=os) (KI2.out (grow (redrawn W5 d) os))
      clear hin
      refine wp_region_quiet_below (by kernel_rfl) (by kernel_rfl) ?_
      repeat (go_big_quiet_step (with_reducible exact cc2 _ _))
      refine wpQuiet_nil ?_
      intro W2 hw2
      have hb2:Below W5.heap.size W5 W2:=by obtain⟨⟨dq,osq⟩,hw7⟩:=hw2;rw[hw7];exact below_regrown W5 dq osq
      have H23:=Lib.hid (HEND.out W2 hb2)
      clear hw2 hb2
      go_wp2
      exact⟨⟨m+1,by omega,by go_num,H23.out⟩,by simp only[intOf];omega⟩
end Go.Proofs.YtlikmmpmnaaifaaGreatDoor
