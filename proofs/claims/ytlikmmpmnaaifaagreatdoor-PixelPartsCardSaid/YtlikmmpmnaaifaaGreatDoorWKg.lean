/-
  The law PixelParts: a region of a picture is the picture of this frame; a merge of two pictures is the picture of all shapes.
-/
import Derived.Lib.QuietBelow
import Derived.BigQuiet
import Derived.Deep.CutRange
import Derived.Deep.RegionHeld3
import Derived.Test.YtlikmmpmnaaifaaGreatDoorWMc
import Derived.Test.YtlikmmpmnaaifaaGreatDoorZYj
import Derived.Test.YtlikmmpmnaaifaaGreatDoorZOpn8
import Derived.Test.YtlikmmpmnaaifaaGreatDoorZYx
namespace Go.Proofs.YtlikmmpmnaaifaaGreatDoor
open Go.RowKit Go.Shelf Go.Sort
attribute [local go_sem] Oper.semAt_some
theorem zL_.parts3 {ss:List Sh} {w W':World} {e:Ending} (h:zL_ ss w e W'):∃a c,e=.returned (.slice a ss.length c)∧ShsAt a ss W'∧ss.length≤c∧((a=none∧c=0)∨∃g,a=some ⟨g,0,none⟩)∧Below w.heap.size w W':=by
 obtain⟨a,c,h1,h2⟩:=h
 refine⟨a,c,h1,h2.shs,?_,?_,h2.az.bw⟩
 ·rcases h2.own.2 with ⟨e,hn⟩|⟨g,c',cur,e,_,_,h3,_⟩
  ·omega
  ·injection e with _ _ e
   omega
 ·rcases h2.form with ⟨e1,_⟩|⟨g,c',e1,_⟩
  ·injection e1 with e1 _ e3
   exact .inl ⟨e1,e3⟩
  ·injection e1 with e1
   exact .inr ⟨g,e1⟩
theorem reg_ok (y:Nat→Int) {pa pb wd hd:Nat} (h1:1≤wd) (h2:1≤hd) (h3:pa+wd≤6) (h4:pb+hd≤6):FrOk (regF (frN y) pa pb wd hd)∧(90≤(regF (frN y) pa pb wd hd).x∧(regF (frN y) pa pb wd hd).x≤300)∧(90≤(regF (frN y) pa pb wd hd).y∧(regF (frN y) pa pb wd hd).y≤300):=by
 have hb:=pA_ y
 unfold regF
 generalize frN y=f at *
 have m1:=Int.mul_le_mul (show(pa:Int)≤6 by omega) (show f.s≤20 by omega) (by omega) (by omega)
 have m2:=Int.mul_le_mul (show(pb:Int)≤6 by omega) (show f.s≤20 by omega) (by omega) (by omega)
 have m3:=Int.mul_nonneg (show 0≤(pa:Int) by omega) (show 0≤f.s by omega)
 have m4:=Int.mul_nonneg (show 0≤(pb:Int) by omega) (show 0≤f.s by omega)
 have m5:=Int.mul_le_mul (show(wd:Int)≤6 by omega) (show f.s≤20 by omega) (by omega) (by omega)
 have m6:=Int.mul_le_mul (show(hd:Int)≤6 by omega) (show f.s≤20 by omega) (by omega) (by omega)
 have m7:=Int.mul_le_mul (show(wd:Int)≤6 by omega) (show(hd:Int)≤6 by omega) (by omega) (by omega)
 refine⟨?_,?_,?_⟩
 ·constructor <;> simp only <;> omega
 ·simp only;omega
 ·simp only;omega
theorem asc_take {ss:List Sh} (h:ascS ss) (k:Nat):ascS (ss.take k):=fun i a b ha hb=>by
 rw[List.getElem?_take] at ha hb
 split at ha
 ·split at hb
  ·exact h i a b ha hb
  ·cases hb
 ·cases ha
theorem asc_drop {ss:List Sh} (h:ascS ss) (k:Nat):ascS (ss.drop k):=fun i a b ha hb=>by
 rw[List.getElem?_drop] at ha hb
 exact h (k+i) a b ha (by rw[show k+i+1=k+(i+1) by omega];exact hb)
theorem merge_parts {f:Fr} {ks ls ms:List Ik} (h:aFC f ks ls=some ms):bK_ f ks=true∧bK_ f ls=true∧bK_ f (srtK (ks++ls))=true∧srtK (ks++ls)=ms:=by
 unfold aFC at h
 split at h
 ·next hc=>
  simp only[Bool.and_eq_true] at hc
  exact⟨hc.1.1,hc.1.2,hc.2,Option.some.inj h⟩
 ·cases h
theorem ShsAt.nil (a:Option Addr) (W:World):ShsAt a [] W:=⟨fun k s hk=>by simp at hk⟩
theorem ShsAt.tk {a:Option Addr} {ss:List Sh} {W:World} (h:ShsAt a ss W) (k:Nat):ShsAt a (ss.take k) W:=⟨fun i s hi=>h.row i s (by
 rw[List.getElem?_take] at hi
 split at hi
 ·exact hi
 ·cases hi)⟩
theorem ShsAt.dr {b o:Nat} {ss:List Sh} {W:World} (h:ShsAt (some ⟨b,o,none⟩) ss W) (k:Nat):ShsAt (some ⟨b,o+k*11,none⟩) (ss.drop k) W:=h.sub fun i s hi=>by rwa[List.getElem?_drop] at hi
set_option maxHeartbeats 16000000 in
set_option maxRecDepth 100000 in
theorem PixelParts_law (y0 y1 y2 y3 y4 p0 p1 p2 p3 fi:Int) {a:Option Addr} {n cap:Nat} {xs:List Q4} (hy0:inI y0) (hy1:inI y1) (hy2:inI y2) (hy3:inI y3) (hy4:inI y4) (hp0:inI p0) (hp1:inI p1) (hp2:inI p2) (hp3:inI p3) (hfi:inI fi) (hn:xs.length=n) (w:World) (hX:X4At a xs w) (hq:IOps w∧FrOp w) :
  Calls Tryz.prog 10 #[.slice a n cap,.agg #[.int .i64 y0,.int .i64 y1,.int .i64 y2,.int .i64 y3,.int .i64 y4],.agg #[.int .i64 p0,.int .i64 p1,.int .i64 p2,.int .i64 p3],.int .i64 fi] w fun e w'=>e=.returned (.bool true)∧Below w.heap.size w w':=by
 obtain⟨y,hy,e0,e1,e2,e3,e4⟩:∃y:Nat→Int,(∀i,inI (y i))∧y0=y 0∧y1=y 1∧y2=y 2∧y3=y 3∧y4=y 4:=⟨fun i=>match i with|0=>y0|1=>y1|2=>y2|3=>y3|_=>y4,fun i=>by match i with|0=>exact hy0|1=>exact hy1|2=>exact hy2|3=>exact hy3|_+4=>exact hy4,rfl,rfl,rfl,rfl,rfl⟩
 have HX:=Lib.hid (show ExAt [] (fun V=>(IOps V∧FrOp V)∧X4At a xs V) w w from⟨AzAt.start w,⟨hq,hX⟩,fun A C h hb=>⟨⟨h.1.1.below hb,h.1.2.below hb⟩,h.2.below hb⟩⟩)
 have H0:=Lib.hid (show ExAt [(w.heap.size+1,[.int .i64 p0,.int .i64 p1,.int .i64 p2,.int .i64 p3]),(w.heap.size,[.int .i64 y0,.int .i64 y1,.int .i64 y2,.int .i64 y3,.int .i64 y4])] (fun V=>(IOps V∧FrOp V)∧X4At a xs V) w ((w.alloc (.cells #[.int .i64 y0,.int .i64 y1,.int .i64 y2,.int .i64 y3,.int .i64 y4] 55)).alloc (.cells #[.int .i64 p0,.int .i64 p1,.int .i64 p2,.int .i64 p3] 23)) from by
  have hp:=(HX.out.push [.int .i64 y0,.int .i64 y1,.int .i64 y2,.int .i64 y3,.int .i64 y4] 55).push [.int .i64 p0,.int .i64 p1,.int .i64 p2,.int .i64 p3] 23
  simp only[World.size_alloc] at hp
  exact hp)
 have KS:=Lib.hid (show ∀W:World,IOps W∧FrOp W→Calls Tryz.prog 38 #[] W fun e W'=>e=.returned (.bool true)∧Below W.heap.size W W' from fun W h=>xT_ (Lib.hid h))
 have KF:=Lib.hid (show ∀W:World,Calls Tryz.prog 39 #[.agg #[.int .i64 y0,.int .i64 y1,.int .i64 y2,.int .i64 y3,.int .i64 y4]] W fun e W'=>e=.returned (.agg #[.int .i64 (frN y).x,.int .i64 (frN y).y,.int .i64 (frN y).w,.int .i64 (frN y).h,.int .i64 (frN y).s,.slice none 0 0])∧Below W.heap.size W W' from fun W=>by rw[e0,e1,e2,e3,e4];exact tT_ hy W)
 have KH:=Lib.hid (show ∀W:World,X4At a xs W→Calls Tryz.prog 43 #[.slice a n cap,.bool false] W fun e W'=>∃a1 c1,e=.returned (.slice a1 (shsK false xs (min n 5)).length c1)∧ShsAt a1 (shsK false xs (min n 5)) W'∧(shsK false xs (min n 5)).length≤c1∧((a1=none∧c1=0)∨∃g,a1=some ⟨g,0,none⟩)∧Below W.heap.size W W' from fun W h=>(zV_ (c:=cap) false hn W h).mono fun _ _ h=>h.parts3)
 have HS:=Lib.hid (And.intro (aNZ false xs (k:=min n 5) (by omega)) (aJI false xs (min n 5)))
 have HLN:=Lib.hid (show(shsK false xs (min n 5)).length≤5 by rw[xR_];omega)
 have HB:=Lib.hid (pA_ y)
 have HFO:=Lib.hid (aGF y)
 have HRO:=Lib.hid (fun(pa pb wd hd:Nat) h1 h2 h3 h4=>reg_ok y (pa:=pa) (pb:=pb) (wd:=wd) (hd:=hd) h1 h2 h3 h4)
 generalize shsK false xs (min n 5)=ss at *
 generalize frN y=g at *
 obtain⟨ns,hns⟩:∃ns,ns=ss.length:=⟨_,rfl⟩
 rw[←hns] at KH HLN
 have HNS:=Lib.hid hns
 have hn5:ns≤5:=HLN.out
 have hgb:=HB.out
 obtain⟨Wn,hWn⟩:∃Wn:Nat,g.w=(Wn:Int):=⟨g.w.toNat,by omega⟩
 obtain⟨Hn,hHn⟩:∃Hn:Nat,g.h=(Hn:Int):=⟨g.h.toNat,by omega⟩
 have eW:g.w.toNat=Wn:=by omega
 have eH:g.h.toNat=Hn:=by omega
 have w1:1≤Wn∧Wn≤6:=by omega
 have w2:1≤Hn∧Hn≤6:=by omega
 have KA:=Lib.hid (show ∀W:World,Calls Tryz.prog 40 #[.int .i64 p0,.int .i64 g.w] W fun e W'=>e=.returned (.int .i64 (aK_ p0 Wn:Nat))∧Below W.heap.size W W' from fun W=>by rw[hWn];exact fH_ p0 Wn hp0.1 hp0.2 (by omega) (by omega) W)
 have KB:=Lib.hid (show ∀W:World,Calls Tryz.prog 40 #[.int .i64 p1,.int .i64 g.h] W fun e W'=>e=.returned (.int .i64 (aK_ p1 Hn:Nat))∧Below W.heap.size W W' from fun W=>by rw[hHn];exact fH_ p1 Hn hp1.1 hp1.2 (by omega) (by omega) W)
 have q0:=aJ_ p0 (n:=Wn) (by omega)
 have q1:=aJ_ p1 (n:=Hn) (by omega)
 generalize aK_ p0 Wn=pa at *
 generalize aK_ p1 Hn=pb at *
 obtain⟨WA,hWA⟩:∃x,x=Wn-pa:=⟨_,rfl⟩
 obtain⟨HA,hHA⟩:∃x,x=Hn-pb:=⟨_,rfl⟩
 have KC:=Lib.hid (show ∀W:World,Calls Tryz.prog 40 #[.int .i64 p2,.int .i64 (WA:Int)] W fun e W'=>e=.returned (.int .i64 (aK_ p2 WA:Nat))∧Below W.heap.size W W' from fun W=>fH_ p2 WA hp2.1 hp2.2 (by omega) (by omega) W)
 have KD:=Lib.hid (show ∀W:World,Calls Tryz.prog 40 #[.int .i64 p3,.int .i64 (HA:Int)] W fun e W'=>e=.returned (.int .i64 (aK_ p3 HA:Nat))∧Below W.heap.size W W' from fun W=>fH_ p3 HA hp3.1 hp3.2 (by omega) (by omega) W)
 have q2:=aJ_ p2 (n:=WA) (by omega)
 have q3:=aJ_ p3 (n:=HA) (by omega)
 generalize aK_ p2 WA=pc at *
 generalize aK_ p3 HA=pd at *
 obtain⟨wd,hwd⟩:∃x,x=pc+1:=⟨_,rfl⟩
 obtain⟨hd,hhd⟩:∃x,x=pd+1:=⟨_,rfl⟩
 have KE:=Lib.hid (show ∀W:World,Calls Tryz.prog 40 #[.int .i64 fi,.int .i64 ((ns:Int)+1)] W fun e W'=>e=.returned (.int .i64 (aK_ fi (ns+1):Nat))∧Below W.heap.size W W' from fun W=>fH_ fi (ns+1) hfi.1 hfi.2 (by omega) (by omega) W)
 have q4:=aJ_ fi (n:=ns+1) (by omega)
 generalize aK_ fi (ns+1)=kk at *
 have g1:IntKind.i64.wrap (g.w-(pa:Int))=(WA:Int):=by rw[IntWalk.i64_in _ (by omega)];omega
 have g2:IntKind.i64.wrap (g.h-(pb:Int))=(HA:Int):=by rw[IntWalk.i64_in _ (by omega)];omega
 have g3:IntKind.i64.wrap (1+(pc:Int))=(wd:Int):=by rw[IntWalk.i64_in _ (by omega)];omega
 have g4:IntKind.i64.wrap (1+(pd:Int))=(hd:Int):=by rw[IntWalk.i64_in _ (by omega)];omega
 have g5:IntKind.i64.wrap ((ns:Int)+1)=(ns:Int)+1:=IntWalk.i64_in _ (by omega)
 have hRO:=HRO.out pa pb wd hd (by omega) (by omega) (by omega) (by omega)
 have hREG:=show regF g pa pb wd hd=⟨g.x+(pa:Int)*g.s,g.y+(pb:Int)*g.s,wd,hd,g.s⟩ from rfl
 rw[hREG] at hRO
 simp only at hRO
 obtain⟨qx,hqx⟩:∃x,x=g.x+(pa:Int)*g.s:=⟨_,rfl⟩
 obtain⟨qy,hqy⟩:∃x,x=g.y+(pb:Int)*g.s:=⟨_,rfl⟩
 have m1:=Int.mul_le_mul (show(pa:Int)≤6 by omega) (show g.s≤20 by omega) (by omega) (by omega)
 have m2:=Int.mul_le_mul (show(pb:Int)≤6 by omega) (show g.s≤20 by omega) (by omega) (by omega)
 have m3:=Int.mul_nonneg (show 0≤(pa:Int) by omega) (show 0≤g.s by omega)
 have m4:=Int.mul_nonneg (show 0≤(pb:Int) by omega) (show 0≤g.s by omega)
 have g6:IntKind.i64.wrap ((pa:Int)*g.s)=(pa:Int)*g.s:=IntWalk.i64_in _ (by omega)
 have g7:IntKind.i64.wrap ((pb:Int)*g.s)=(pb:Int)*g.s:=IntWalk.i64_in _ (by omega)
 have g8:IntKind.i64.wrap (g.x+(pa:Int)*g.s)=qx:=by rw[hqx];exact IntWalk.i64_in _ (by omega)
 have g9:IntKind.i64.wrap (g.y+(pb:Int)*g.s)=qy:=by rw[hqy];exact IntWalk.i64_in _ (by omega)
 rw[←hqx,←hqy] at hRO hREG
 have HRO2:=Lib.hid (And.intro hRO.1 hREG)
 have HXY:=Lib.hid (show pa+wd≤g.w.toNat∧pb+hd≤g.h.toNat∧1≤wd∧1≤hd from⟨by omega,by omega,by omega,by omega⟩)
 clear hRO hREG hqx hqy m1 m2 m3 m4 hwd hhd hWA hHA q0 q1 q2 q3 w1 w2 eW eH hWn hHn HRO hgb
 obtain⟨ks,hks⟩:∃ks,ks=aF_ g ss:=⟨_,rfl⟩
 obtain⟨nk,hnk⟩:∃nk,nk=ks.length:=⟨_,rfl⟩
 obtain⟨kr,hkr⟩:∃kr,kr=aF_ ⟨qx,qy,wd,hd,g.s⟩ ss:=⟨_,rfl⟩
 obtain⟨nr,hnr⟩:∃nr,nr=kr.length:=⟨_,rfl⟩
 obtain⟨ko,hko⟩:∃ko,ko=aF_ g (ss.take kk):=⟨_,rfl⟩
 obtain⟨no,hno⟩:∃no,no=ko.length:=⟨_,rfl⟩
 obtain⟨kt,hkt⟩:∃kt,kt=aF_ g (ss.drop kk):=⟨_,rfl⟩
 obtain⟨nt,hnt⟩:∃nt,nt=kt.length:=⟨_,rfl⟩
 have h20:ss.length≤20:=by rw[←HNS.out];omega
 have HPO:=Lib.hid (show PicOk g ks from by rw[hks];exact gZ_ HFO.out h20 HS.out.1 HS.out.2)
 have HPR:=Lib.hid (show PicOk ⟨qx,qy,wd,hd,g.s⟩ kr from by rw[hkr];exact gZ_ HRO2.out.1 h20 HS.out.1 HS.out.2)
 have HMG:=Lib.hid (show bK_ g kt=true∧bK_ g ko=true∧bK_ g (srtK (kt++ko))=true∧srtK (kt++ko)=ks from by
  rw[hkt,hko,hks]
  exact merge_parts (vM_ HFO.out h20 HS.out.1 HS.out.2 kk))
 have KP:=Lib.hid (show ∀(W:World) (a1:Option Addr) (c1:Nat),IOps W∧FrOp W→ShsAt a1 ss W→Calls Tryz.prog 41 #[.slice a1 ns c1,.agg #[.int .i64 g.x,.int .i64 g.y,.int .i64 g.w,.int .i64 g.h,.int .i64 g.s,.slice none 0 0]] W fun e W'=>(∃a c,e=.returned (.tuple #[.agg #[.int .i64 g.x,.int .i64 g.y,.int .i64 g.w,.int .i64 g.h,.int .i64 g.s,.slice a nk c],.int .i64 0])∧InksAt a ks W')∧Below W.heap.size W W' from fun W a1 c1 hI hS=>by
  have:=mO_ (sn:=ns) (sc:=c1) (f:=g) (Lib.hid hI) (Lib.hid HFO.out) (Lib.hid hS) (Lib.hid HNS.out.symm) (by omega) (Lib.hid HS.out.1) (Lib.hid HS.out.2)
  rw[←hks,←hnk] at this
  exact this.mono fun e W' ⟨⟨a,c,h1,h2⟩,h3⟩=>⟨⟨a,c,h1,h2.at⟩,h3⟩)
 have KR:=Lib.hid (show ∀(W:World) (a1:Option Addr) (c1:Nat),IOps W∧FrOp W→ShsAt a1 ss W→Calls Tryz.prog 41 #[.slice a1 ns c1,.agg #[.int .i64 qx,.int .i64 qy,.int .i64 (wd:Int),.int .i64 (hd:Int),.int .i64 g.s,.slice none 0 0]] W fun e W'=>(∃a c,e=.returned (.tuple #[.agg #[.int .i64 qx,.int .i64 qy,.int .i64 (wd:Int),.int .i64 (hd:Int),.int .i64 g.s,.slice a nr c],.int .i64 0])∧InksAt a kr W')∧Below W.heap.size W W' from fun W a1 c1 hI hS=>by
  have:=mO_ (sn:=ns) (sc:=c1) (f:=⟨qx,qy,wd,hd,g.s⟩) (Lib.hid hI) (Lib.hid HRO2.out.1) (Lib.hid hS) (Lib.hid HNS.out.symm) (by omega) (Lib.hid HS.out.1) (Lib.hid HS.out.2)
  rw[←hkr,←hnr] at this
  exact this.mono fun e W' ⟨⟨a,c,h1,h2⟩,h3⟩=>⟨⟨a,c,h1,h2.at⟩,h3⟩)
 have KO:=Lib.hid (show ∀(W:World) (a1:Option Addr) (c1:Nat),IOps W∧FrOp W→ShsAt a1 (ss.take kk) W→Calls Tryz.prog 41 #[.slice a1 kk c1,.agg #[.int .i64 g.x,.int .i64 g.y,.int .i64 g.w,.int .i64 g.h,.int .i64 g.s,.slice none 0 0]] W fun e W'=>(∃a c,e=.returned (.tuple #[.agg #[.int .i64 g.x,.int .i64 g.y,.int .i64 g.w,.int .i64 g.h,.int .i64 g.s,.slice a no c],.int .i64 0])∧bM_ W.heap.size a ko W')∧Below W.heap.size W W' from fun W a1 c1 hI hS=>by
  have:=mO_ (sn:=kk) (sc:=c1) (f:=g) (Lib.hid hI) (Lib.hid HFO.out) (Lib.hid hS) (Lib.hid (by rw[List.length_take,←HNS.out];omega)) (by omega) (Lib.hid (fun s hs=>HS.out.1 s (List.mem_of_mem_take hs))) (Lib.hid (asc_take HS.out.2 kk))
  rw[←hko,←hno] at this
  exact this)
 have KQ:=Lib.hid (show ∀(W:World) (a1:Option Addr) (c1:Nat),IOps W∧FrOp W→ShsAt a1 (ss.drop kk) W→Calls Tryz.prog 41 #[.slice a1 (ns-kk) c1,.agg #[.int .i64 g.x,.int .i64 g.y,.int .i64 g.w,.int .i64 g.h,.int .i64 g.s,.slice none 0 0]] W fun e W'=>(∃a c,e=.returned (.tuple #[.agg #[.int .i64 g.x,.int .i64 g.y,.int .i64 g.w,.int .i64 g.h,.int .i64 g.s,.slice a nt c],.int .i64 0])∧bM_ W.heap.size a kt W')∧Below W.heap.size W W' from fun W a1 c1 hI hS=>by
  have:=mO_ (sn:=ns-kk) (sc:=c1) (f:=g) (Lib.hid hI) (Lib.hid HFO.out) (Lib.hid hS) (Lib.hid (by rw[List.length_drop,←HNS.out])) (by omega) (Lib.hid (fun s hs=>HS.out.1 s (List.mem_of_mem_drop hs))) (Lib.hid (asc_drop HS.out.2 kk))
  rw[←hkt,←hnt] at this
  exact this)
 have KG:=Lib.hid (show ∀(W:World) (a2:Option Addr) (c2:Nat),InksAt a2 ks W→Calls Tryz.prog 51 #[.agg #[.int .i64 g.x,.int .i64 g.y,.int .i64 g.w,.int .i64 g.h,.int .i64 g.s,.slice a2 nk c2],.int .i64 (pa:Int),.int .i64 (pb:Int),.int .i64 (wd:Int),.int .i64 (hd:Int)] W fun e W'=>(∃a c,e=.returned (.tuple #[.agg #[.int .i64 qx,.int .i64 qy,.int .i64 (wd:Int),.int .i64 (hd:Int),.int .i64 g.s,.slice a nr c],.int .i64 0])∧InksAt a kr W')∧Below W.heap.size W W' from fun W a2 c2 h=>by
  have:=xW_ (f:=g) (c:=c2) (n:=nk) (x:=pa) (y:=pb) (wd:=wd) (hd:=hd) hnk.symm (bO_.2 HPO.out) HXY.out.1 HXY.out.2.1 HXY.out.2.2.1 HXY.out.2.2.2 W h
  rw[show ks.filterMap (regK g.w.toNat pa pb wd hd)=kr by rw[hks,aDT HFO.out HXY.out.2.2.1 HXY.out.1 HXY.out.2.1 ss HS.out.1,HRO2.out.2,hkr],HRO2.out.2] at this
  exact this.mono fun e W' ⟨a',c',h1,h2,h3⟩=>⟨⟨a',c',by rw[hnr];exact h1,h2.at⟩,h3⟩)
 have KM:=Lib.hid (show ∀(W:World) (a5 a6:Option Addr) (c5 c6:Nat),InksAt a6 kt W→InksAt a5 ko W→Calls Tryz.prog 57 #[.agg #[.int .i64 g.x,.int .i64 g.y,.int .i64 g.w,.int .i64 g.h,.int .i64 g.s,.slice a6 nt c6],.agg #[.int .i64 g.x,.int .i64 g.y,.int .i64 g.w,.int .i64 g.h,.int .i64 g.s,.slice a5 no c5]] W fun e W'=>(∃a c,e=.returned (.tuple #[.agg #[.int .i64 g.x,.int .i64 g.y,.int .i64 g.w,.int .i64 g.h,.int .i64 g.s,.slice a nk c],.int .i64 0])∧InksAt a ks W')∧Below W.heap.size W W' from fun W a5 a6 c5 c6 h6 h5=>by
  have:=merge_s (f:=g) (a:=a6) (b:=a5) (c:=c6) (d:=c5) hnt.symm hno.symm HMG.out.1 HMG.out.2.1 HMG.out.2.2.1 W h6 h5
  rw[HMG.out.2.2.2] at this
  exact this.mono fun e W' ⟨a',c',h1,h2,h3⟩=>⟨⟨a',c',by rw[hnk];exact h1,h2.at⟩,h3⟩)
 have KSM:=Lib.hid (show ∀(W:World) (aI aJ:Option Addr) (cI cJ:Nat),InksAt aI ks W→InksAt aJ ks W→Calls Tryz.prog 44 #[.agg #[.int .i64 g.x,.int .i64 g.y,.int .i64 g.w,.int .i64 g.h,.int .i64 g.s,.slice aI nk cI],.agg #[.int .i64 g.x,.int .i64 g.y,.int .i64 g.w,.int .i64 g.h,.int .i64 g.s,.slice aJ nk cJ]] W fun e W'=>e=.returned (.bool true)∧Below W.heap.size W W' from fun W aI aJ cI cJ h h'=>by
  have hcl:∀k∈ks,k.cells.length≤1000000:=fun k hk=>by rw[HPO.out.many k hk];have:=(qP_ HPO.out.fr).2;omega
  have:=aJJ (f:=g) (g:=g) (c:=cI) (c':=cJ) hnk.symm hnk.symm (by have:=HPO.out.len;omega) (by have:=HPO.out.len;omega) hcl hcl W h h'
  rw[show sQ_ g g ks ks=true by unfold sQ_;simp] at this
  exact this)
 have KSR:=Lib.hid (show ∀(W:World) (aI aJ:Option Addr) (cI cJ:Nat),InksAt aI kr W→InksAt aJ kr W→Calls Tryz.prog 44 #[.agg #[.int .i64 qx,.int .i64 qy,.int .i64 (wd:Int),.int .i64 (hd:Int),.int .i64 g.s,.slice aI nr cI],.agg #[.int .i64 qx,.int .i64 qy,.int .i64 (wd:Int),.int .i64 (hd:Int),.int .i64 g.s,.slice aJ nr cJ]] W fun e W'=>e=.returned (.bool true)∧Below W.heap.size W W' from fun W aI aJ cI cJ h h'=>by
  have hcl:∀k∈kr,k.cells.length≤1000000:=fun k hk=>by rw[HPR.out.many k hk];have:=(qP_ HPR.out.fr).2;omega
  have:=aJJ (f:=⟨qx,qy,wd,hd,g.s⟩) (g:=⟨qx,qy,wd,hd,g.s⟩) (c:=cI) (c':=cJ) hnr.symm hnr.symm (by have:=HPR.out.len;omega) (by have:=HPR.out.len;omega) hcl hcl W h h'
  rw[show sQ_ (⟨qx,qy,wd,hd,g.s⟩:Fr) ⟨qx,qy,wd,hd,g.s⟩ kr kr=true by unfold sQ_;simp] at this
  exact this)
 clear hns e0 e1 e2 e3 e4 hX hq HX hks hnk hkr hnr hko hno hkt hnt h20 HMG HPO HPR HXY HRO2
 go_enter Tryz.func10,Tryz.ntmps10
 go_upto_region 6 with (first
  | (go_at_call 38;(with_reducible refine(KS.out _ H0.out.p.1).mono ?_);rintro e wa1 ⟨rfl,hb⟩;have H1:=Lib.hid (H0.out.below hb);clear hb)
  | (go_at_call 43;(with_reducible refine(KH.out _ H1.out.p.2).mono ?_);rintro e wa2 ⟨a1,c1,rfl,hsh,hc1,hc2,hb⟩;have H2:=Lib.hid (((H1.out.below hb).add hsh fun _ _ h=>h.below).weak (Q:=fun V=>(IOps V∧FrOp V)∧ShsAt a1 ss V) (fun _ h=>⟨h.1.1,h.2⟩) (fun A C h hb=>⟨⟨h.1.1.below hb,h.1.2.below hb⟩,h.2.below hb⟩));have HC1:=Lib.hid (And.intro hc1 hc2);clear hb hsh hc1 hc2;have z0:=H2.out.az.ce 1 0 rfl rfl;have z1:=H2.out.az.ce 1 1 rfl rfl;have z2:=H2.out.az.ce 1 2 rfl rfl;have z3:=H2.out.az.ce 1 3 rfl rfl;have z4:=H2.out.az.ce 1 4 rfl rfl)
  | (go_at_call 39;(with_reducible refine(KF.out _).mono ?_);rintro e wa3 ⟨rfl,hb⟩;have H3:=Lib.hid ((H2.out.below hb).push [.int .i64 g.x,.int .i64 g.y,.int .i64 g.w,.int .i64 g.h,.int .i64 g.s,.slice none 0 0] 58);clear hb z0 z1 z2 z3 z4;have z0:=H3.out.az.ce 0 0 rfl rfl;have z1:=H3.out.az.ce 0 1 rfl rfl;have z2:=H3.out.az.ce 0 2 rfl rfl;have z3:=H3.out.az.ce 0 3 rfl rfl;have z4:=H3.out.az.ce 0 4 rfl rfl;have z5:=H3.out.az.ce 0 5 rfl rfl)
  | (go_at_call 41;(with_reducible refine(KP.out _ _ _ H3.out.p.1 H3.out.p.2).mono ?_);rintro e wa4 ⟨⟨a2,c2,rfl,hk⟩,hb⟩;have H4:=Lib.hid (((H3.out.below hb).add hk fun _ _ h=>h.below).push [.int .i64 g.x,.int .i64 g.y,.int .i64 g.w,.int .i64 g.h,.int .i64 g.s,.slice a2 nk c2] 58);clear hb hk z0 z1 z2 z3 z4 z5)
  | fail)
 clear KS KF KH KP H0 H1 H2 H3
 obtain⟨X10,hX10⟩:∃X,X=wa3.heap.size:=⟨_,rfl⟩
 obtain⟨X11,hX11⟩:∃X,X=wa4.heap.size:=⟨_,rfl⟩
 obtain⟨V4,hV4⟩:∃V,V=wa4.alloc (.cells #[.int .i64 g.x,.int .i64 g.y,.int .i64 g.w,.int .i64 g.h,.int .i64 g.s,.slice a2 nk c2] 58):=⟨_,rfl⟩
 rw[←hV4] at H4⊢
 rw[←hX10,←hX11] at H4⊢
 clear hX10 hX11 hV4
 have s0:=H4.out.az.ce 2 0 rfl rfl
 have z2:=H4.out.az.ce 1 2 rfl rfl
 go_upto_region 7 with (go_at_call 40;(with_reducible refine(KA.out _).mono ?_);rintro e wa5 ⟨rfl,hb⟩;have H5:=Lib.hid (H4.out.below hb);clear hb s0 z2)
 clear KA H4
 have s1:=H5.out.az.ce 2 1 rfl rfl
 have z3:=H5.out.az.ce 1 3 rfl rfl
 go_upto_region 8 with (go_at_call 40;(with_reducible refine(KB.out _).mono ?_);rintro e wa6 ⟨rfl,hb⟩;have H6:=Lib.hid (H5.out.below hb);clear hb s1 z3)
 clear KB H5
 have s2:=H6.out.az.ce 2 2 rfl rfl
 have z2:=H6.out.az.ce 1 2 rfl rfl
 go_upto_region 9 with (go_at_call 40;(with_reducible refine(KC.out _).mono ?_);rintro e wa7 ⟨rfl,hb⟩;have H7:=Lib.hid (H6.out.below hb);clear hb s2 z2)
 clear KC H6
 have s3:=H7.out.az.ce 2 3 rfl rfl
 have z3:=H7.out.az.ce 1 3 rfl rfl
 go_upto_region 10 with (go_at_call 40;(with_reducible refine(KD.out _).mono ?_);rintro e wa8 ⟨rfl,hb⟩;have H8:=Lib.hid (H7.out.below hb);clear hb s3 z3)
 clear KD H7
 have z0:=H8.out.az.ce 0 0 rfl rfl
 have z1:=H8.out.az.ce 0 1 rfl rfl
 have z2:=H8.out.az.ce 0 2 rfl rfl
 have z3:=H8.out.az.ce 0 3 rfl rfl
 have z4:=H8.out.az.ce 0 4 rfl rfl
 have z5:=H8.out.az.ce 0 5 rfl rfl
 go_upto_region 11 with (go_at_call 51;(with_reducible refine(KG.out _ _ _ H8.out.p.2).mono ?_);rintro e wa9 ⟨⟨a3,c3,rfl,hk⟩,hb⟩;have H9:=Lib.hid (((H8.out.below hb).add hk fun _ _ h=>h.below).push [.int .i64 qx,.int .i64 qy,.int .i64 (wd:Int),.int .i64 (hd:Int),.int .i64 g.s,.slice a3 nr c3] 58);clear hb hk z0 z1 z2 z3 z4 z5)
 clear KG H8
 obtain⟨X17,hX17⟩:∃X,X=wa9.heap.size:=⟨_,rfl⟩
 obtain⟨V9,hV9⟩:∃V,V=wa9.alloc (.cells #[.int .i64 qx,.int .i64 qy,.int .i64 (wd:Int),.int .i64 (hd:Int),.int .i64 g.s,.slice a3 nr c3] 58):=⟨_,rfl⟩
 rw[←hV9] at H9⊢
 rw[←hX17] at H9⊢
 clear hX17 hV9
 have z0:=H9.out.az.ce 2 0 rfl rfl
 have z1:=H9.out.az.ce 2 1 rfl rfl
 have z4:=H9.out.az.ce 2 4 rfl rfl
 go_upto_region 12 with (go_at_call 41;(with_reducible refine(KR.out _ _ _ H9.out.p.1.1.1 H9.out.p.1.1.2).mono ?_);rintro e wa10 ⟨⟨a4,c4,rfl,hk⟩,hb⟩;have H10:=Lib.hid (((H9.out.below hb).add hk fun _ _ h=>h.below).push [.int .i64 qx,.int .i64 qy,.int .i64 (wd:Int),.int .i64 (hd:Int),.int .i64 g.s,.slice a4 nr c4] 58);clear hb hk z0 z1 z4)
 clear KR H9
 obtain⟨X19,hX19⟩:∃X,X=wa10.heap.size:=⟨_,rfl⟩
 obtain⟨V10,hV10⟩:∃V,V=wa10.alloc (.cells #[.int .i64 qx,.int .i64 qy,.int .i64 (wd:Int),.int .i64 (hd:Int),.int .i64 g.s,.slice a4 nr c4] 58):=⟨_,rfl⟩
 rw[←hV10] at H10⊢
 rw[←hX19] at H10⊢
 clear hX19 hV10
 go_upto_region 13 with (go_at_call 40;(with_reducible refine(KE.out _).mono ?_);rintro e wa11 ⟨rfl,hb⟩;have H11:=Lib.hid (H10.out.below hb);clear hb)
 clear KE H10 g1 g2 g3 g4 g5 g6 g7 g8 g9
 have Hd:=Lib.hid (H11.out.below (Below.refl _ _).drew)
 have He:=Lib.hid (show ExAt ((wa11.heap.size,[.int .i64 0,.int .i64 0,.int .i64 0,.int .i64 0,.int .i64 0,.slice none 0 0])::[(X19,[.int .i64 qx,.int .i64 qy,.int .i64 (wd:Int),.int .i64 (hd:Int),.int .i64 g.s,.slice a4 nr c4]),(X17,[.int .i64 qx,.int .i64 qy,.int .i64 (wd:Int),.int .i64 (hd:Int),.int .i64 g.s,.slice a3 nr c3]),(X11,[.int .i64 g.x,.int .i64 g.y,.int .i64 g.w,.int .i64 g.h,.int .i64 g.s,.slice a2 nk c2]),(X10,[.int .i64 g.x,.int .i64 g.y,.int .i64 g.w,.int .i64 g.h,.int .i64 g.s,.slice none 0 0]),(w.heap.size+1,[.int .i64 p0,.int .i64 p1,.int .i64 p2,.int .i64 p3]),(w.heap.size,[.int .i64 y0,.int .i64 y1,.int .i64 y2,.int .i64 y3,.int .i64 y4])]) (fun V=>((((fun V=>(IOps V∧FrOp V)∧ShsAt a1 ss V) V∧InksAt a2 ks V)∧InksAt a3 kr V)∧InksAt a4 kr V)) w ((wa11.alloc (.cells #[.int .i64 0,.int .i64 0,.int .i64 0,.int .i64 0,.int .i64 0,.slice none 0 0] 58)).drew) from(H11.out.push [.int .i64 0,.int .i64 0,.int .i64 0,.int .i64 0,.int .i64 0,.slice none 0 0] 58).below (Below.refl _ _).drew)
 have hs1:X10<wa11.heap.size:=(H11.out.az.row _ (List.mem_of_getElem? (show([(X19,[.int .i64 qx,.int .i64 qy,.int .i64 (wd:Int),.int .i64 (hd:Int),.int .i64 g.s,.slice a4 nr c4]),(X17,[.int .i64 qx,.int .i64 qy,.int .i64 (wd:Int),.int .i64 (hd:Int),.int .i64 g.s,.slice a3 nr c3]),(X11,[.int .i64 g.x,.int .i64 g.y,.int .i64 g.w,.int .i64 g.h,.int .i64 g.s,.slice a2 nk c2]),(X10,[.int .i64 g.x,.int .i64 g.y,.int .i64 g.w,.int .i64 g.h,.int .i64 g.s,.slice none 0 0]),(w.heap.size+1,[.int .i64 p0,.int .i64 p1,.int .i64 p2,.int .i64 p3]),(w.heap.size,[.int .i64 y0,.int .i64 y1,.int .i64 y2,.int .i64 y3,.int .i64 y4])]:List (Nat×List Value))[3]?=some (X10,[.int .i64 g.x,.int .i64 g.y,.int .i64 g.w,.int .i64 g.h,.int .i64 g.s,.slice none 0 0]) from rfl))).sz
 have HBS:=Lib.hid H11.out.az.bw.size
 have f0:=H11.out.az.ce 3 0 rfl rfl
 have f1:=H11.out.az.ce 3 1 rfl rfl
 have f2:=H11.out.az.ce 3 2 rfl rfl
 have f3:=H11.out.az.ce 3 3 rfl rfl
 have f4:=H11.out.az.ce 3 4 rfl rfl
 have f5:=H11.out.az.ce 3 5 rfl rfl
 go_cut [22,23] from 28 to 157 (fun va vb wX=>∃(X22:Nat) (a5:Option Addr) (c5:Nat),va=.pointer (some ⟨X22,0,none⟩)∧vb=.int .i64 0∧ExAt ((X22,[.int .i64 g.x,.int .i64 g.y,.int .i64 g.w,.int .i64 g.h,.int .i64 g.s,.slice a5 no c5])::[(X19,[.int .i64 qx,.int .i64 qy,.int .i64 (wd:Int),.int .i64 (hd:Int),.int .i64 g.s,.slice a4 nr c4]),(X17,[.int .i64 qx,.int .i64 qy,.int .i64 (wd:Int),.int .i64 (hd:Int),.int .i64 g.s,.slice a3 nr c3]),(X11,[.int .i64 g.x,.int .i64 g.y,.int .i64 g.w,.int .i64 g.h,.int .i64 g.s,.slice a2 nk c2]),(X10,[.int .i64 g.x,.int .i64 g.y,.int .i64 g.w,.int .i64 g.h,.int .i64 g.s,.slice none 0 0]),(w.heap.size+1,[.int .i64 p0,.int .i64 p1,.int .i64 p2,.int .i64 p3]),(w.heap.size,[.int .i64 y0,.int .i64 y1,.int .i64 y2,.int .i64 y3,.int .i64 y4])]) (fun V=>(fun V=>((((fun V=>(IOps V∧FrOp V)∧ShsAt a1 ss V) V∧InksAt a2 ks V)∧InksAt a3 kr V)∧InksAt a4 kr V)) V∧InksAt a5 ko V) w wX)
 case first=>
  have hkn:kk≤ns:=by omega
  have hc3:=HC1.out.1
  rcases HC1.out.2 with ⟨e1,e2⟩|⟨g0,e1⟩
  all_goals subst e1
  ·subst e2
   obtain rfl:ns=0:=by omega
   obtain rfl:kk=0:=by omega
   try simp only[Nat.sub_self] at KO
   go_region_with (first
    | (go_at_call 41;(with_reducible refine(KO.out _ _ _ Hd.out.p.1.1.1.1 (by first | exact ShsAt.tk Hd.out.p.1.1.1.2 _ | fail)).mono ?_);rintro e wu2 ⟨⟨a5,c5,rfl,hk2⟩,hb⟩;have H3:=Lib.hid ((Hd.out.below hb).add hk2.at fun _ _ h=>h.below);clear hb hk2)
    | (go_at_call 41;(with_reducible refine(KO.out _ _ _ He.out.p.1.1.1.1 (by first | exact ShsAt.tk He.out.p.1.1.1.2 _ | fail)).mono ?_);rintro e wu2 ⟨⟨a5,c5,rfl,hk2⟩,hb⟩;have H4:=Lib.hid (And.intro (He.out.below hb) (And.intro hk2 hb));clear hb hk2;have x0:=H4.out.1.az.ce 0 0 rfl rfl;have x1:=H4.out.1.az.ce 0 1 rfl rfl;have x2:=H4.out.1.az.ce 0 2 rfl rfl;have x3:=H4.out.1.az.ce 0 3 rfl rfl;have x4:=H4.out.1.az.ce 0 4 rfl rfl;have x5:=H4.out.1.az.ce 0 5 rfl rfl;have y0':=H4.out.1.az.cf 0 0 rfl rfl;have y1':=H4.out.1.az.cf 0 1 rfl rfl;have y2':=H4.out.1.az.cf 0 2 rfl rfl;have y3':=H4.out.1.az.cf 0 3 rfl rfl;have y4':=H4.out.1.az.cf 0 4 rfl rfl;have y5':=H4.out.1.az.cf 0 5 rfl rfl)
    | fail)
   all_goals first
    | (have _:=H3
       go_wp2_with fail
       go_meet
       exact⟨wu2.heap.size,a5,c5,rfl,rfl,H3.out.push [.int .i64 g.x,.int .i64 g.y,.int .i64 g.w,.int .i64 g.h,.int .i64 g.s,.slice a5 no c5] 58⟩)
    | (have _:=H4
       go_wp2_with fail
       go_meet
       obtain⟨h4,hk2,hb⟩:=H4.out
       have hbt:Below wa11.heap.size wa11 wu2:=(((Below.refl wa11.heap.size wa11).alloc (Nat.le_refl _) _).drew).trans (hb.mono (by simp))
       exact⟨wa11.heap.size,a5,c5,rfl,rfl,⟨h4.az.put6 HBS.out (fun z hz=>by have:=(H11.out.az.row z hz).sz;omega) _ _ _ _ _ _,⟨H11.out.st _ _ H11.out.p (aBT hbt (Nat.le_refl _) _ _ _ _ _ _),(hk2.put6 (by simp) _ _ _ _ _ _).at⟩,fun A C h hb=>⟨H11.out.st A C h.1 hb,h.2.below hb⟩⟩⟩)
  ·have k1:(0:Int)≤(kk:Int):=by omega
   have k2:(kk:Int)≤(c1:Int):=by omega
   have k3:kk≤c1:=by omega
   have k4:(kk:Int)≤(ns:Int):=by omega
   have k5:(ns:Int)≤(c1:Int):=by omega
   go_region_with (first
    | (go_at_call 41;(with_reducible refine(KO.out _ _ _ Hd.out.p.1.1.1.1 (by first | exact ShsAt.tk Hd.out.p.1.1.1.2 _ | fail)).mono ?_);rintro e wu2 ⟨⟨a5,c5,rfl,hk2⟩,hb⟩;have H3:=Lib.hid ((Hd.out.below hb).add hk2.at fun _ _ h=>h.below);clear hb hk2)
    | (go_at_call 41;(with_reducible refine(KO.out _ _ _ He.out.p.1.1.1.1 (by first | exact ShsAt.tk He.out.p.1.1.1.2 _ | fail)).mono ?_);rintro e wu2 ⟨⟨a5,c5,rfl,hk2⟩,hb⟩;have H4:=Lib.hid (And.intro (He.out.below hb) (And.intro hk2 hb));clear hb hk2;have x0:=H4.out.1.az.ce 0 0 rfl rfl;have x1:=H4.out.1.az.ce 0 1 rfl rfl;have x2:=H4.out.1.az.ce 0 2 rfl rfl;have x3:=H4.out.1.az.ce 0 3 rfl rfl;have x4:=H4.out.1.az.ce 0 4 rfl rfl;have x5:=H4.out.1.az.ce 0 5 rfl rfl;have y0':=H4.out.1.az.cf 0 0 rfl rfl;have y1':=H4.out.1.az.cf 0 1 rfl rfl;have y2':=H4.out.1.az.cf 0 2 rfl rfl;have y3':=H4.out.1.az.cf 0 3 rfl rfl;have y4':=H4.out.1.az.cf 0 4 rfl rfl;have y5':=H4.out.1.az.cf 0 5 rfl rfl)
    | fail)
   all_goals first
    | (have _:=H3
       go_wp2_with fail
       go_meet
       exact⟨wu2.heap.size,a5,c5,rfl,rfl,H3.out.push [.int .i64 g.x,.int .i64 g.y,.int .i64 g.w,.int .i64 g.h,.int .i64 g.s,.slice a5 no c5] 58⟩)
    | (have _:=H4
       go_wp2_with fail
       go_meet
       obtain⟨h4,hk2,hb⟩:=H4.out
       have hbt:Below wa11.heap.size wa11 wu2:=(((Below.refl wa11.heap.size wa11).alloc (Nat.le_refl _) _).drew).trans (hb.mono (by simp))
       exact⟨wa11.heap.size,a5,c5,rfl,rfl,⟨h4.az.put6 HBS.out (fun z hz=>by have:=(H11.out.az.row z hz).sz;omega) _ _ _ _ _ _,⟨H11.out.st _ _ H11.out.p (aBT hbt (Nat.le_refl _) _ _ _ _ _ _),(hk2.put6 (by simp) _ _ _ _ _ _).at⟩,fun A C h hb=>⟨H11.out.st A C h.1 hb,h.2.below hb⟩⟩⟩)
 obtain⟨X22,a5,c5,rfl,rfl,h3⟩:=hcut
 have H12:=Lib.hid h3
 clear h3 Hd He H11 HBS hs1 f0 f1 f2 f3 f4 f5 KO
 obtain⟨V1,hV1⟩:∃V,V=wc:=⟨_,rfl⟩
 rw[←hV1] at H12⊢
 clear hV1
 go_upto_region 14 with fail
 have Hd:=Lib.hid (H12.out.below (Below.refl _ _).drew)
 have He:=Lib.hid (show ExAt ((V1.heap.size,[.int .i64 0,.int .i64 0,.int .i64 0,.int .i64 0,.int .i64 0,.slice none 0 0])::((X22,[.int .i64 g.x,.int .i64 g.y,.int .i64 g.w,.int .i64 g.h,.int .i64 g.s,.slice a5 no c5])::[(X19,[.int .i64 qx,.int .i64 qy,.int .i64 (wd:Int),.int .i64 (hd:Int),.int .i64 g.s,.slice a4 nr c4]),(X17,[.int .i64 qx,.int .i64 qy,.int .i64 (wd:Int),.int .i64 (hd:Int),.int .i64 g.s,.slice a3 nr c3]),(X11,[.int .i64 g.x,.int .i64 g.y,.int .i64 g.w,.int .i64 g.h,.int .i64 g.s,.slice a2 nk c2]),(X10,[.int .i64 g.x,.int .i64 g.y,.int .i64 g.w,.int .i64 g.h,.int .i64 g.s,.slice none 0 0]),(w.heap.size+1,[.int .i64 p0,.int .i64 p1,.int .i64 p2,.int .i64 p3]),(w.heap.size,[.int .i64 y0,.int .i64 y1,.int .i64 y2,.int .i64 y3,.int .i64 y4])])) (fun V=>(fun V=>((((fun V=>(IOps V∧FrOp V)∧ShsAt a1 ss V) V∧InksAt a2 ks V)∧InksAt a3 kr V)∧InksAt a4 kr V)) V∧InksAt a5 ko V) w ((V1.alloc (.cells #[.int .i64 0,.int .i64 0,.int .i64 0,.int .i64 0,.int .i64 0,.slice none 0 0] 58)).drew) from(H12.out.push [.int .i64 0,.int .i64 0,.int .i64 0,.int .i64 0,.int .i64 0,.slice none 0 0] 58).below (Below.refl _ _).drew)
 have hs1:X10<V1.heap.size:=(H12.out.az.row _ (List.mem_of_getElem? (show(((X22,[.int .i64 g.x,.int .i64 g.y,.int .i64 g.w,.int .i64 g.h,.int .i64 g.s,.slice a5 no c5])::[(X19,[.int .i64 qx,.int .i64 qy,.int .i64 (wd:Int),.int .i64 (hd:Int),.int .i64 g.s,.slice a4 nr c4]),(X17,[.int .i64 qx,.int .i64 qy,.int .i64 (wd:Int),.int .i64 (hd:Int),.int .i64 g.s,.slice a3 nr c3]),(X11,[.int .i64 g.x,.int .i64 g.y,.int .i64 g.w,.int .i64 g.h,.int .i64 g.s,.slice a2 nk c2]),(X10,[.int .i64 g.x,.int .i64 g.y,.int .i64 g.w,.int .i64 g.h,.int .i64 g.s,.slice none 0 0]),(w.heap.size+1,[.int .i64 p0,.int .i64 p1,.int .i64 p2,.int .i64 p3]),(w.heap.size,[.int .i64 y0,.int .i64 y1,.int .i64 y2,.int .i64 y3,.int .i64 y4])]):List (Nat×List Value))[4]?=some (X10,[.int .i64 g.x,.int .i64 g.y,.int .i64 g.w,.int .i64 g.h,.int .i64 g.s,.slice none 0 0]) from rfl))).sz
 have HBS:=Lib.hid H12.out.az.bw.size
 have f0:=H12.out.az.ce 4 0 rfl rfl
 have f1:=H12.out.az.ce 4 1 rfl rfl
 have f2:=H12.out.az.ce 4 2 rfl rfl
 have f3:=H12.out.az.ce 4 3 rfl rfl
 have f4:=H12.out.az.ce 4 4 rfl rfl
 have f5:=H12.out.az.ce 4 5 rfl rfl
 go_cut [24,25] from 28 to 157 (fun va vb wX=>∃(X24:Nat) (a6:Option Addr) (c6:Nat),va=.pointer (some ⟨X24,0,none⟩)∧vb=.int .i64 0∧ExAt ((X24,[.int .i64 g.x,.int .i64 g.y,.int .i64 g.w,.int .i64 g.h,.int .i64 g.s,.slice a6 nt c6])::((X22,[.int .i64 g.x,.int .i64 g.y,.int .i64 g.w,.int .i64 g.h,.int .i64 g.s,.slice a5 no c5])::[(X19,[.int .i64 qx,.int .i64 qy,.int .i64 (wd:Int),.int .i64 (hd:Int),.int .i64 g.s,.slice a4 nr c4]),(X17,[.int .i64 qx,.int .i64 qy,.int .i64 (wd:Int),.int .i64 (hd:Int),.int .i64 g.s,.slice a3 nr c3]),(X11,[.int .i64 g.x,.int .i64 g.y,.int .i64 g.w,.int .i64 g.h,.int .i64 g.s,.slice a2 nk c2]),(X10,[.int .i64 g.x,.int .i64 g.y,.int .i64 g.w,.int .i64 g.h,.int .i64 g.s,.slice none 0 0]),(w.heap.size+1,[.int .i64 p0,.int .i64 p1,.int .i64 p2,.int .i64 p3]),(w.heap.size,[.int .i64 y0,.int .i64 y1,.int .i64 y2,.int .i64 y3,.int .i64 y4])])) (fun V=>(fun V=>(fun V=>((((fun V=>(IOps V∧FrOp V)∧ShsAt a1 ss V) V∧InksAt a2 ks V)∧InksAt a3 kr V)∧InksAt a4 kr V)) V∧InksAt a5 ko V) V∧InksAt a6 kt V) w wX)
 case first=>
  have hkn:kk≤ns:=by omega
  have hc3:=HC1.out.1
  rcases HC1.out.2 with ⟨e1,e2⟩|⟨g0,e1⟩
  all_goals subst e1
  ·subst e2
   obtain rfl:ns=0:=by omega
   obtain rfl:kk=0:=by omega
   try simp only[Nat.sub_self] at KQ
   go_region_with (first
    | (go_at_call 41;(with_reducible refine(KQ.out _ _ _ Hd.out.p.1.1.1.1.1 (by first | exact(by simpa using ShsAt.dr Hd.out.p.1.1.1.1.2 kk) | exact(by simpa using Hd.out.p.1.1.1.1.2) | exact(by rw[HDN.out];exact ShsAt.nil _ _) | fail)).mono ?_);rintro e wu2 ⟨⟨a6,c6,rfl,hk2⟩,hb⟩;have H3:=Lib.hid ((Hd.out.below hb).add hk2.at fun _ _ h=>h.below);clear hb hk2)
    | (go_at_call 41;(with_reducible refine(KQ.out _ _ _ He.out.p.1.1.1.1.1 (by first | exact(by simpa using ShsAt.dr He.out.p.1.1.1.1.2 kk) | exact(by simpa using He.out.p.1.1.1.1.2) | exact(by rw[HDN.out];exact ShsAt.nil _ _) | fail)).mono ?_);rintro e wu2 ⟨⟨a6,c6,rfl,hk2⟩,hb⟩;have H4:=Lib.hid (And.intro (He.out.below hb) (And.intro hk2 hb));clear hb hk2;have x0:=H4.out.1.az.ce 0 0 rfl rfl;have x1:=H4.out.1.az.ce 0 1 rfl rfl;have x2:=H4.out.1.az.ce 0 2 rfl rfl;have x3:=H4.out.1.az.ce 0 3 rfl rfl;have x4:=H4.out.1.az.ce 0 4 rfl rfl;have x5:=H4.out.1.az.ce 0 5 rfl rfl;have y0':=H4.out.1.az.cf 0 0 rfl rfl;have y1':=H4.out.1.az.cf 0 1 rfl rfl;have y2':=H4.out.1.az.cf 0 2 rfl rfl;have y3':=H4.out.1.az.cf 0 3 rfl rfl;have y4':=H4.out.1.az.cf 0 4 rfl rfl;have y5':=H4.out.1.az.cf 0 5 rfl rfl)
    | fail)
   all_goals first
    | (have _:=H3
       go_wp2_with fail
       go_meet
       exact⟨wu2.heap.size,a6,c6,rfl,rfl,H3.out.push [.int .i64 g.x,.int .i64 g.y,.int .i64 g.w,.int .i64 g.h,.int .i64 g.s,.slice a6 nt c6] 58⟩)
    | (have _:=H4
       go_wp2_with fail
       go_meet
       obtain⟨h4,hk2,hb⟩:=H4.out
       have hbt:Below V1.heap.size V1 wu2:=(((Below.refl V1.heap.size V1).alloc (Nat.le_refl _) _).drew).trans (hb.mono (by simp))
       exact⟨V1.heap.size,a6,c6,rfl,rfl,⟨h4.az.put6 HBS.out (fun z hz=>by have:=(H12.out.az.row z hz).sz;omega) _ _ _ _ _ _,⟨H12.out.st _ _ H12.out.p (aBT hbt (Nat.le_refl _) _ _ _ _ _ _),(hk2.put6 (by simp) _ _ _ _ _ _).at⟩,fun A C h hb=>⟨H12.out.st A C h.1 hb,h.2.below hb⟩⟩⟩)
  ·have k1:(0:Int)≤(kk:Int):=by omega
   have k2:(kk:Int)≤(c1:Int):=by omega
   have k3:kk≤c1:=by omega
   have k4:(kk:Int)≤(ns:Int):=by omega
   have k5:(ns:Int)≤(c1:Int):=by omega
   by_cases hkc:kk=c1
   ·have HDN:=Lib.hid (show ss.drop kk=[] from List.drop_eq_nil_of_le (by have:=HNS.out;omega))
    subst hkc
    have e0:ns-kk=0:=by omega
    rw[e0] at KQ
    go_region_with (first
     | (go_at_call 41;(with_reducible refine(KQ.out _ _ _ Hd.out.p.1.1.1.1.1 (by first | exact(by simpa using ShsAt.dr Hd.out.p.1.1.1.1.2 kk) | exact(by simpa using Hd.out.p.1.1.1.1.2) | exact(by rw[HDN.out];exact ShsAt.nil _ _) | fail)).mono ?_);rintro e wu2 ⟨⟨a6,c6,rfl,hk2⟩,hb⟩;have H3:=Lib.hid ((Hd.out.below hb).add hk2.at fun _ _ h=>h.below);clear hb hk2)
     | (go_at_call 41;(with_reducible refine(KQ.out _ _ _ He.out.p.1.1.1.1.1 (by first | exact(by simpa using ShsAt.dr He.out.p.1.1.1.1.2 kk) | exact(by simpa using He.out.p.1.1.1.1.2) | exact(by rw[HDN.out];exact ShsAt.nil _ _) | fail)).mono ?_);rintro e wu2 ⟨⟨a6,c6,rfl,hk2⟩,hb⟩;have H4:=Lib.hid (And.intro (He.out.below hb) (And.intro hk2 hb));clear hb hk2;have x0:=H4.out.1.az.ce 0 0 rfl rfl;have x1:=H4.out.1.az.ce 0 1 rfl rfl;have x2:=H4.out.1.az.ce 0 2 rfl rfl;have x3:=H4.out.1.az.ce 0 3 rfl rfl;have x4:=H4.out.1.az.ce 0 4 rfl rfl;have x5:=H4.out.1.az.ce 0 5 rfl rfl;have y0':=H4.out.1.az.cf 0 0 rfl rfl;have y1':=H4.out.1.az.cf 0 1 rfl rfl;have y2':=H4.out.1.az.cf 0 2 rfl rfl;have y3':=H4.out.1.az.cf 0 3 rfl rfl;have y4':=H4.out.1.az.cf 0 4 rfl rfl;have y5':=H4.out.1.az.cf 0 5 rfl rfl)
     | fail)
    all_goals first
     | (have _:=H3
        go_wp2_with fail
        go_meet
        exact⟨wu2.heap.size,a6,c6,rfl,rfl,H3.out.push [.int .i64 g.x,.int .i64 g.y,.int .i64 g.w,.int .i64 g.h,.int .i64 g.s,.slice a6 nt c6] 58⟩)
     | (have _:=H4
        go_wp2_with fail
        go_meet
        obtain⟨h4,hk2,hb⟩:=H4.out
        have hbt:Below V1.heap.size V1 wu2:=(((Below.refl V1.heap.size V1).alloc (Nat.le_refl _) _).drew).trans (hb.mono (by simp))
        exact⟨V1.heap.size,a6,c6,rfl,rfl,⟨h4.az.put6 HBS.out (fun z hz=>by have:=(H12.out.az.row z hz).sz;omega) _ _ _ _ _ _,⟨H12.out.st _ _ H12.out.p (aBT hbt (Nat.le_refl _) _ _ _ _ _ _),(hk2.put6 (by simp) _ _ _ _ _ _).at⟩,fun A C h hb=>⟨H12.out.st A C h.1 hb,h.2.below hb⟩⟩⟩)
   ·have k6:¬(kk:Int)=(c1:Int):=by omega
    have k7:kk<c1:=by omega
    have k8:(kk:Int)<(c1:Int):=by omega
    go_region_with (first
     | (go_at_call 41;(with_reducible refine(KQ.out _ _ _ Hd.out.p.1.1.1.1.1 (by first | exact(by simpa using ShsAt.dr Hd.out.p.1.1.1.1.2 kk) | exact(by simpa using Hd.out.p.1.1.1.1.2) | exact(by rw[HDN.out];exact ShsAt.nil _ _) | fail)).mono ?_);rintro e wu2 ⟨⟨a6,c6,rfl,hk2⟩,hb⟩;have H3:=Lib.hid ((Hd.out.below hb).add hk2.at fun _ _ h=>h.below);clear hb hk2)
     | (go_at_call 41;(with_reducible refine(KQ.out _ _ _ He.out.p.1.1.1.1.1 (by first | exact(by simpa using ShsAt.dr He.out.p.1.1.1.1.2 kk) | exact(by simpa using He.out.p.1.1.1.1.2) | exact(by rw[HDN.out];exact ShsAt.nil _ _) | fail)).mono ?_);rintro e wu2 ⟨⟨a6,c6,rfl,hk2⟩,hb⟩;have H4:=Lib.hid (And.intro (He.out.below hb) (And.intro hk2 hb));clear hb hk2;have x0:=H4.out.1.az.ce 0 0 rfl rfl;have x1:=H4.out.1.az.ce 0 1 rfl rfl;have x2:=H4.out.1.az.ce 0 2 rfl rfl;have x3:=H4.out.1.az.ce 0 3 rfl rfl;have x4:=H4.out.1.az.ce 0 4 rfl rfl;have x5:=H4.out.1.az.ce 0 5 rfl rfl;have y0':=H4.out.1.az.cf 0 0 rfl rfl;have y1':=H4.out.1.az.cf 0 1 rfl rfl;have y2':=H4.out.1.az.cf 0 2 rfl rfl;have y3':=H4.out.1.az.cf 0 3 rfl rfl;have y4':=H4.out.1.az.cf 0 4 rfl rfl;have y5':=H4.out.1.az.cf 0 5 rfl rfl)
     | fail)
    all_goals first
     | (have _:=H3
        go_wp2_with fail
        go_meet
        exact⟨wu2.heap.size,a6,c6,rfl,rfl,H3.out.push [.int .i64 g.x,.int .i64 g.y,.int .i64 g.w,.int .i64 g.h,.int .i64 g.s,.slice a6 nt c6] 58⟩)
     | (have _:=H4
        go_wp2_with fail
        go_meet
        obtain⟨h4,hk2,hb⟩:=H4.out
        have hbt:Below V1.heap.size V1 wu2:=(((Below.refl V1.heap.size V1).alloc (Nat.le_refl _) _).drew).trans (hb.mono (by simp))
        exact⟨V1.heap.size,a6,c6,rfl,rfl,⟨h4.az.put6 HBS.out (fun z hz=>by have:=(H12.out.az.row z hz).sz;omega) _ _ _ _ _ _,⟨H12.out.st _ _ H12.out.p (aBT hbt (Nat.le_refl _) _ _ _ _ _ _),(hk2.put6 (by simp) _ _ _ _ _ _).at⟩,fun A C h hb=>⟨H12.out.st A C h.1 hb,h.2.below hb⟩⟩⟩)
 obtain⟨X24,a6,c6,rfl,rfl,h3⟩:=hcut
 have H13:=Lib.hid h3
 clear h3 Hd He H12 HBS hs1 f0 f1 f2 f3 f4 f5 KQ
 obtain⟨V2,hV2⟩:∃V,V=wc:=⟨_,rfl⟩
 rw[←hV2] at H13⊢
 clear hV2
 have z0:=H13.out.az.ce 0 0 rfl rfl
 have z1:=H13.out.az.ce 0 1 rfl rfl
 have z2:=H13.out.az.ce 0 2 rfl rfl
 have z3:=H13.out.az.ce 0 3 rfl rfl
 have z4:=H13.out.az.ce 0 4 rfl rfl
 have z5:=H13.out.az.ce 0 5 rfl rfl
 have x0:=H13.out.az.ce 1 0 rfl rfl
 have x1:=H13.out.az.ce 1 1 rfl rfl
 have x2:=H13.out.az.ce 1 2 rfl rfl
 have x3:=H13.out.az.ce 1 3 rfl rfl
 have x4:=H13.out.az.ce 1 4 rfl rfl
 have x5:=H13.out.az.ce 1 5 rfl rfl
 go_upto_region 16 with (go_at_call 57;(with_reducible refine(KM.out _ _ _ _ _ H13.out.p.2 H13.out.p.1.2).mono ?_);rintro e wa15 ⟨⟨a7,c7,rfl,hk⟩,hb⟩;have H14:=Lib.hid (((H13.out.below hb).add hk fun _ _ h=>h.below).push [.int .i64 g.x,.int .i64 g.y,.int .i64 g.w,.int .i64 g.h,.int .i64 g.s,.slice a7 nk c7] 58);clear hb hk z0 z1 z2 z3 z4 z5 x0 x1 x2 x3 x4 x5)
 clear KM H13
 obtain⟨X26,hX26⟩:∃X,X=wa15.heap.size:=⟨_,rfl⟩
 obtain⟨V15,hV15⟩:∃V,V=wa15.alloc (.cells #[.int .i64 g.x,.int .i64 g.y,.int .i64 g.w,.int .i64 g.h,.int .i64 g.s,.slice a7 nk c7] 58):=⟨_,rfl⟩
 rw[←hV15] at H14⊢
 rw[←hX26] at H14⊢
 clear hX26 hV15
 have z0:=H14.out.az.ce 4 0 rfl rfl
 have z1:=H14.out.az.ce 4 1 rfl rfl
 have z2:=H14.out.az.ce 4 2 rfl rfl
 have z3:=H14.out.az.ce 4 3 rfl rfl
 have z4:=H14.out.az.ce 4 4 rfl rfl
 have z5:=H14.out.az.ce 4 5 rfl rfl
 have x0:=H14.out.az.ce 3 0 rfl rfl
 have x1:=H14.out.az.ce 3 1 rfl rfl
 have x2:=H14.out.az.ce 3 2 rfl rfl
 have x3:=H14.out.az.ce 3 3 rfl rfl
 have x4:=H14.out.az.ce 3 4 rfl rfl
 have x5:=H14.out.az.ce 3 5 rfl rfl
 go_wp2_with (first
  | (go_at_call 44;(with_reducible refine(KSR.out _ _ _ _ _ H14.out.p.1.1.1.1.2 H14.out.p.1.1.1.2).mono ?_);rintro e wa16 ⟨rfl,hb⟩;have H15:=Lib.hid (H14.out.below hb);clear hb z0 z1 z2 z3 z4 z5 x0 x1 x2 x3 x4 x5;have z0:=H15.out.az.ce 0 0 rfl rfl;have z1:=H15.out.az.ce 0 1 rfl rfl;have z2:=H15.out.az.ce 0 2 rfl rfl;have z3:=H15.out.az.ce 0 3 rfl rfl;have z4:=H15.out.az.ce 0 4 rfl rfl;have z5:=H15.out.az.ce 0 5 rfl rfl;have x0:=H15.out.az.ce 5 0 rfl rfl;have x1:=H15.out.az.ce 5 1 rfl rfl;have x2:=H15.out.az.ce 5 2 rfl rfl;have x3:=H15.out.az.ce 5 3 rfl rfl;have x4:=H15.out.az.ce 5 4 rfl rfl;have x5:=H15.out.az.ce 5 5 rfl rfl)
  | (go_at_call 44;(with_reducible refine(KSM.out _ _ _ _ _ H15.out.p.2 H15.out.p.1.1.1.1.1.2).mono ?_);rintro e wa17 ⟨rfl,hb⟩;have H16:=Lib.hid (H15.out.below hb);clear hb)
  | fail)
 go_ret
 exact⟨rfl,H16.out.az.bw⟩
end Go.Proofs.YtlikmmpmnaaifaaGreatDoor
