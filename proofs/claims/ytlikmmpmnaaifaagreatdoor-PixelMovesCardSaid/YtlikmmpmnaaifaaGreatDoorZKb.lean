/- - -/
import Derived.Lib.QuietBelow
import Derived.Test.YtlikmmpmnaaifaaGreatDoorZYx
import Derived.Test.YtlikmmpmnaaifaaGreatDoorZYj
import Derived.Test.YtlikmmpmnaaifaaGreatDoorZOpn8
set_option maxHeartbeats 40000000
set_option maxRecDepth 1000000
open Go.Lib (hid)
namespace Go.Proofs.YtlikmmpmnaaifaaGreatDoor
open Go.RowKit Go.Shelf Go.Sort
attribute [local go_sem] Oper.semAt_some
theorem PixelMoves_law (y0 y1 y2 y3 y4 rt dn:Int) {a:Option Addr} {n cap:Nat} {xs:List Q4} (hy0:inI y0) (hy1:inI y1) (hy2:inI y2) (hy3:inI y3) (hy4:inI y4) (hrt:inI rt) (hdn:inI dn) (hn:xs.length=n) (w:World) (hX:X4At a xs w) (hq:IOps w∧FrOp w) :
  Calls Tryz.prog 5 #[.slice a n cap,.agg #[.int .i64 y0,.int .i64 y1,.int .i64 y2,.int .i64 y3,.int .i64 y4],.int .i64 rt,.int .i64 dn] w fun e w'=>e=.returned (.bool true)∧Below w.heap.size w w':=by
 have hmx:Tryz.prog.follows .mixedOrders=true:=by kernel_rfl
 obtain⟨y,hy,e0,e1,e2,e3,e4⟩:∃y:Nat→Int,(∀i,inI (y i))∧y0=y 0∧y1=y 1∧y2=y 2∧y3=y 3∧y4=y 4:=⟨fun i=>match i with|0=>y0|1=>y1|2=>y2|3=>y3|_=>y4,fun i=>by match i with|0=>exact hy0|1=>exact hy1|2=>exact hy2|3=>exact hy3|_+4=>exact hy4,rfl,rfl,rfl,rfl,rfl⟩
 have HX:=hid (show ExAt [] (fun V=>(IOps V∧FrOp V)∧X4At a xs V) w w from⟨AzAt.start w,⟨hq,hX⟩,fun A C h hb=>⟨⟨h.1.1.below hb,h.1.2.below hb⟩,h.2.below hb⟩⟩)
 have HP0:=hid (And.intro hq hX)
 have H0:=hid (HX.out.push [.int .i64 y0,.int .i64 y1,.int .i64 y2,.int .i64 y3,.int .i64 y4] 55)
 have KS:=hid (show ∀W:World,IOps W∧FrOp W→Calls Tryz.prog 38 #[] W fun e W'=>e=.returned (.bool true)∧Below W.heap.size W W' from fun W h=>xT_ (hid h))
 have KF:=hid (show ∀W:World,Calls Tryz.prog 39 #[.agg #[.int .i64 y0,.int .i64 y1,.int .i64 y2,.int .i64 y3,.int .i64 y4]] W fun e W'=>e=.returned (.agg #[.int .i64 (frN y).x,.int .i64 (frN y).y,.int .i64 (frN y).w,.int .i64 (frN y).h,.int .i64 (frN y).s,.slice none 0 0])∧Below W.heap.size W W' from fun W=>by rw[e0,e1,e2,e3,e4];exact tT_ hy W)
 have KH:=hid (show ∀W:World,X4At a xs W→Calls Tryz.prog 43 #[.slice a n cap,.bool false] W fun e W'=>∃a1 c1,e=.returned (.slice a1 (shsK false xs (min n 5)).length c1)∧ShsAt a1 (shsK false xs (min n 5)) W'∧Below W.heap.size W W' from fun W h=>(zV_ (c:=cap) false hn W h).mono fun _ _ h=>h.parts)
 have K1:=hid (show ∀W:World,Calls Tryz.prog 40 #[.int .i64 rt,.int .i64 900] W fun e W'=>e=.returned (.int .i64 (aK_ rt 900:Nat))∧Below W.heap.size W W' from fun W=>fH_ rt 900 hrt.1 hrt.2 (by decide) (by decide) W)
 have K2:=hid (show ∀W:World,Calls Tryz.prog 40 #[.int .i64 dn,.int .i64 900] W fun e W'=>e=.returned (.int .i64 (aK_ dn 900:Nat))∧Below W.heap.size W W' from fun W=>fH_ dn 900 hdn.1 hdn.2 (by decide) (by decide) W)
 have hu:=aJ_ rt (n:=900) (by decide)
 have hv:=aJ_ dn (n:=900) (by decide)
 generalize aK_ rt 900=u at *
 generalize aK_ dn 900=v at *
 have HS:=hid (And.intro (aNZ false xs (k:=min n 5) (by omega)) (And.intro (aJI false xs (min n 5)) (And.intro (aKJ false xs (k:=min n 5) (by omega) (u:=u) (v:=v) (by omega) (by omega)) (vL_ xs (k:=min n 5) (u:=u) (v:=v) (by omega) (by omega) (frN y)))))
 have HLN:=hid (show(shsK false xs (min n 5)).length≤5 by rw[xR_];omega)
 have HB:=hid (pA_ y)
 have HNR:=hid (aDL false xs (min n 5))
 have HFO:=hid (And.intro (aGF y) (tU_ y (u:=u) (v:=v) (by omega) (by omega)))
 generalize shsK false xs (min n 5)=ss at *
 generalize frN y=g at *
 obtain⟨ns,hns⟩:∃ns,ns=ss.length:=⟨_,rfl⟩
 rw[←hns] at KH HLN
 have HNS:=hid hns
 clear hns e0 e1 e2 e3 e4 hX hq HX
 go_enter Tryz.func5,Tryz.ntmps5
 go_wp2_with (first
  | (go_at_call 38;(with_reducible refine(KS.out _ H0.out.p.1).mono ?_);rintro e u1 ⟨rfl,hb⟩;have H1:=hid (H0.out.below hb);clear hb)
  | (go_at_call 43;(with_reducible refine(KH.out _ H1.out.p.2).mono ?_);rintro e u2 ⟨a1,c1,rfl,hsh,hb⟩;have H2:=hid ((H1.out.below hb).add hsh fun _ _ h=>h.below);clear hb hsh;have z0:=H2.out.az.ce 0 0 rfl rfl;have z1:=H2.out.az.ce 0 1 rfl rfl;have z2:=H2.out.az.ce 0 2 rfl rfl;have z3:=H2.out.az.ce 0 3 rfl rfl;have z4:=H2.out.az.ce 0 4 rfl rfl)
  | (go_at_call 39;(with_reducible refine(KF.out _).mono ?_);rintro e u3 ⟨rfl,hb⟩;have HU3:=hid (show w.heap.size+1≤u3.heap.size from by have h:=((H2.out.below hb).az.row _ (show(w.heap.size,[.int .i64 y0,.int .i64 y1,.int .i64 y2,.int .i64 y3,.int .i64 y4])∈_ by simp)).sz;simp only at h;omega);have H3:=hid ((H2.out.below hb).push [.int .i64 g.x,.int .i64 g.y,.int .i64 g.w,.int .i64 g.h,.int .i64 g.s,.slice none 0 0] 58);clear hb z0 z1 z2 z3 z4)
  | (go_at_call 40;(with_reducible refine(K1.out _).mono ?_);rintro e u4 ⟨rfl,hb⟩;have H4:=hid (H3.out.below hb);clear hb)
  | (go_at_call 40;(with_reducible refine(K2.out _).mono ?_);rintro e u5 ⟨rfl,hb⟩;have H5:=hid (H4.out.below hb);clear hb)
  | fail)
 obtain⟨X,hX⟩:∃X,X=u3.heap.size:=⟨_,rfl⟩
 rw[←hX] at H5⊢
 have HXL:=hid (show w.heap.size+1≤X by rw[hX];exact HU3.out)
 clear hX H0 H1 H2 H3 H4 KS KF KH K1 K2
 obtain⟨i0,hi0,hz0,hz1,hz2⟩:=info_parts oX_
 go_loopw [13,14] (fun v13 v14 wr=>∃i:Nat,i≤ns∧v14=.int .i64 (i:Int)∧OsAt 63 11 v13 i (ssC ((ss.take i).map (shS (u:Int) (v:Int)))) [] u5 wr) (fun _ v14 _=>ns-(intOf v14).toNat)
 case atStart=>exact⟨0,Nat.zero_le _,rfl,OsAt.nil (AzAt.start u5) _ _⟩
 case round=>
  obtain⟨i,hi,rfl,ho⟩:=hrel
  have HO:=hid ho
  clear ho
  by_cases hlt:i<ns
  case neg=>
   obtain rfl:i=ns:=by omega
   obtain⟨a3,c3,e3,-⟩:=CsAt.own HO.out
   subst e3
   have hs3:=HO.out.shsFrom
   rw[List.take_of_length_le (show ss.length≤i by rw[←HNS.out];exact Nat.le_refl _)] at hs3
   have HS3:=hid hs3
   have HS1:=hid (show ShsAt a1 ss wr from(H5.out.below HO.out.az.bw).p.2)
   have H6:=hid ((H5.out.below HO.out.az.bw).weak (Q:=fun V=>(IOps V∧FrOp V)∧X4At a xs V) (fun _ h=>h.1) (fun A C h hb=>⟨⟨h.1.1.below hb,h.1.2.below hb⟩,h.2.below hb⟩))
   have HX:=hid (show w.heap.size+1≤X∧X<u5.heap.size∧u5.heap.size≤wr.heap.size from⟨HXL.out,(H5.out.az.row (X,[.int .i64 g.x,.int .i64 g.y,.int .i64 g.w,.int .i64 g.h,.int .i64 g.s,.slice none 0 0]) (by simp)).sz,HO.out.az.bw.size⟩)
   clear HO H5 hs3
   obtain⟨ks,hks⟩:∃ks,ks=aF_ g ss:=⟨_,rfl⟩
   obtain⟨nk,hnk⟩:∃nk,nk=ks.length:=⟨_,rfl⟩
   have hn5:i≤5:=HLN.out
   have KP1:=hid (show ∀W:World,IOps W∧FrOp W→ShsAt a1 ss W→Calls Tryz.prog 41 #[.slice a1 i c1,.agg #[.int .i64 g.x,.int .i64 g.y,.int .i64 g.w,.int .i64 g.h,.int .i64 g.s,.slice none 0 0]] W fun e W'=>(∃a c,e=.returned (.tuple #[.agg #[.int .i64 g.x,.int .i64 g.y,.int .i64 g.w,.int .i64 g.h,.int .i64 g.s,.slice a nk c],.int .i64 0])∧bM_ W.heap.size a ks W')∧Below W.heap.size W W' from fun W hI hS=>by
    have:=mO_ (sn:=i) (sc:=c1) (f:=g) (hid hI) (hid HFO.out.1) (hid hS) (hid HNS.out.symm) (by omega) (hid HS.out.1) (hid HS.out.2.1)
    rw[←hks,←hnk] at this
    exact this)
   have KP2:=hid (show ∀W:World,IOps W∧FrOp W→ShsAt a3 (ss.map (shS (u:Int) (v:Int))) W→Calls Tryz.prog 41 #[.slice a3 i c3,.agg #[.int .i64 (g.x+(u:Int)),.int .i64 (g.y+(v:Int)),.int .i64 g.w,.int .i64 g.h,.int .i64 g.s,.slice none 0 0]] W fun e W'=>(∃a c,e=.returned (.tuple #[.agg #[.int .i64 (g.x+(u:Int)),.int .i64 (g.y+(v:Int)),.int .i64 g.w,.int .i64 g.h,.int .i64 g.s,.slice a nk c],.int .i64 0])∧InksAt a ks W')∧Below W.heap.size W W' from fun W hI hS=>by
    have:=mO_ (sn:=i) (sc:=c3) (f:=shF (u:Int) (v:Int) g) (hid hI) (hid HFO.out.2) (hid hS) (hid (by rw[List.length_map];exact HNS.out.symm)) (by omega) (hid HS.out.2.2.1) (hid (aFB HS.out.2.1))
    rw[HS.out.2.2.2,←hks,←hnk] at this
    exact this.mono fun e W' ⟨⟨a,c,h1,h2⟩,h3⟩=>⟨⟨a,c,h1,h2.at⟩,h3⟩)
   have HPO:=hid (show PicOk g ks from by rw[hks];exact gZ_ HFO.out.1 (by have:=HNS.out;omega) HS.out.1 HS.out.2.1)
   have HNK:=hid hnk
   have hcl:∀k∈ks,k.cells.length≤1000000:=fun k hk=>by rw[HPO.out.many k hk];have:=(qP_ HPO.out.fr).2;omega
   have KSM:=hid (show ∀(W:World) (aI aJ:Option Addr) (cI cJ:Nat),InksAt aI ks W→InksAt aJ ks W→Calls Tryz.prog 44 #[.agg #[.int .i64 g.x,.int .i64 g.y,.int .i64 g.w,.int .i64 g.h,.int .i64 g.s,.slice aI nk cI],.agg #[.int .i64 g.x,.int .i64 g.y,.int .i64 g.w,.int .i64 g.h,.int .i64 g.s,.slice aJ nk cJ]] W fun e W'=>e=.returned (.bool true)∧Below W.heap.size W W' from fun W aI aJ cI cJ h h'=>by
    have:=aJJ (f:=g) (g:=g) (c:=cI) (c':=cJ) HNK.out.symm HNK.out.symm (by have:=HPO.out.len;have:=HNK.out;omega) (by have:=HPO.out.len;have:=HNK.out;omega) hcl hcl W h h'
    rw[show sQ_ g g ks ks=true by unfold sQ_;simp] at this
    exact this)
   clear hks hnk hcl
   have hgb:=HB.out
   have q1:IntKind.i64.wrap (g.x+(u:Int))=g.x+(u:Int):=IntWalk.i64_in _ (by omega)
   have q2:IntKind.i64.wrap (g.y+(v:Int))=g.y+(v:Int):=IntWalk.i64_in _ (by omega)
   have q3:IntKind.i64.wrap g.x=g.x:=IntWalk.i64_in _ (by omega)
   have q4:IntKind.i64.wrap g.y=g.y:=IntWalk.i64_in _ (by omega)
   clear hgb
   have z0:=H6.out.az.ce 0 0 rfl rfl
   have z1:=H6.out.az.ce 0 1 rfl rfl
   have z2:=H6.out.az.ce 0 2 rfl rfl
   have z3:=H6.out.az.ce 0 3 rfl rfl
   have z4:=H6.out.az.ce 0 4 rfl rfl
   have z5:=H6.out.az.ce 0 5 rfl rfl
   go_upto_region 18 with (go_at_call 41;(with_reducible refine(KP1.out _ H6.out.p.1 HS1.out).mono ?_);rintro e u6 ⟨⟨aI,cI,rfl,hk⟩,hb⟩;have H7:=hid ((H6.out.below hb).push [.int .i64 g.x,.int .i64 g.y,.int .i64 g.w,.int .i64 g.h,.int .i64 g.s,.slice aI nk cI] 58);have HK7:=hid (hk.below ((Below.refl u6.heap.size u6).alloc (Nat.le_refl _) (.cells #[.int .i64 g.x,.int .i64 g.y,.int .i64 g.w,.int .i64 g.h,.int .i64 g.s,.slice aI nk cI] 58)));have HT7:=hid ((HS3.out.below hb).below ((Below.refl u6.heap.size u6).alloc (Nat.le_refl _) (.cells #[.int .i64 g.x,.int .i64 g.y,.int .i64 g.w,.int .i64 g.h,.int .i64 g.s,.slice aI nk cI] 58)));have HX6:=hid (show wr.heap.size≤u6.heap.size from hb.size);clear hb hk z0 z1 z2 z3 z4 z5)
   obtain⟨W7,hW7⟩:∃W,W=u6.alloc (.cells #[.int .i64 g.x,.int .i64 g.y,.int .i64 g.w,.int .i64 g.h,.int .i64 g.s,.slice aI nk cI] 58):=⟨_,rfl⟩
   obtain⟨X6,hX6⟩:∃X,X=u6.heap.size:=⟨_,rfl⟩
   rw[←hX6] at H7 HX6⊢
   rw[←hW7] at H7 HK7 HT7⊢
   clear hW7 hX6 H6 HS1 HS3 KP1
   have hXw:w.heap.size≤X:=by have:=HX.out;omega
   have hXd:∀z∈([(X6,[.int .i64 g.x,.int .i64 g.y,.int .i64 g.w,.int .i64 g.h,.int .i64 g.s,.slice aI nk cI]),(w.heap.size,[.int .i64 y0,.int .i64 y1,.int .i64 y2,.int .i64 y3,.int .i64 y4])]:List (Nat×List Value)),X≠z.1:=by intro z hz;have:=HX.out;have:=HX6.out;simp only[List.mem_cons,List.not_mem_nil,or_false] at hz;rcases hz with rfl|rfl <;> simp only <;> omega
   have H8:=hid (H7.out.sub (L':=(X,[.int .i64 g.x,.int .i64 g.y,.int .i64 g.w,.int .i64 g.h,.int .i64 g.s,.slice none 0 0])::[(X6,[.int .i64 g.x,.int .i64 g.y,.int .i64 g.w,.int .i64 g.h,.int .i64 g.s,.slice aI nk cI]),(w.heap.size,[.int .i64 y0,.int .i64 y1,.int .i64 y2,.int .i64 y3,.int .i64 y4])]) (fun z hz=>by simp only[List.mem_cons,List.not_mem_nil,or_false] at hz;rcases hz with rfl|rfl|rfl <;> simp))
   have z0:=H8.out.az.ce 0 0 rfl rfl
   have yf0:=H8.out.az.cf 0 0 rfl rfl
   go_upto_region 19 with fail
   have H9:=hid (show ExAt ((X,[.int .i64 (g.x+(u:Int)),.int .i64 g.y,.int .i64 g.w,.int .i64 g.h,.int .i64 g.s,.slice none 0 0])::[(X6,[.int .i64 g.x,.int .i64 g.y,.int .i64 g.w,.int .i64 g.h,.int .i64 g.s,.slice aI nk cI]),(w.heap.size,[.int .i64 y0,.int .i64 y1,.int .i64 y2,.int .i64 y3,.int .i64 y4])]) _ w (W7.setCell ⟨X,0,none⟩ (.int .i64 (g.x+(u:Int)))) from H8.out.set HP0.out hXw hXd (i:=0) rfl (.int .i64 (g.x+(u:Int))))
   have HK9:=hid (HK7.out.set (X:=X) (i:=0) (v:=.int .i64 (g.x+(u:Int))) (by have:=HX.out;omega))
   have HT9:=hid (HT7.out.set (X:=X) (i:=0) (v:=.int .i64 (g.x+(u:Int))) (by have:=HX.out;omega))
   obtain⟨W9,hW9⟩:∃W,W=W7.setCell ⟨X,0,none⟩ (.int .i64 (g.x+(u:Int))):=⟨_,rfl⟩
   rw[←hW9] at H9 HK9 HT9⊢
   clear hW9 z0 yf0 H7 H8 HK7 HT7
   have z1:=H9.out.az.ce 0 1 rfl rfl
   have y1':=H9.out.az.cf 0 1 rfl rfl
   go_upto_region 20 with fail
   have H10:=hid (show ExAt ((X,[.int .i64 (g.x+(u:Int)),.int .i64 (g.y+(v:Int)),.int .i64 g.w,.int .i64 g.h,.int .i64 g.s,.slice none 0 0])::[(X6,[.int .i64 g.x,.int .i64 g.y,.int .i64 g.w,.int .i64 g.h,.int .i64 g.s,.slice aI nk cI]),(w.heap.size,[.int .i64 y0,.int .i64 y1,.int .i64 y2,.int .i64 y3,.int .i64 y4])]) _ w (W9.setCell ⟨X,1,none⟩ (.int .i64 (g.y+(v:Int)))) from H9.out.set HP0.out hXw hXd (i:=1) rfl (.int .i64 (g.y+(v:Int))))
   have HK10:=hid (HK9.out.set (X:=X) (i:=1) (v:=.int .i64 (g.y+(v:Int))) (by have:=HX.out;omega))
   have HT10:=hid (HT9.out.set (X:=X) (i:=1) (v:=.int .i64 (g.y+(v:Int))) (by have:=HX.out;omega))
   obtain⟨W10,hW10⟩:∃W,W=W9.setCell ⟨X,1,none⟩ (.int .i64 (g.y+(v:Int))):=⟨_,rfl⟩
   rw[←hW10] at H10 HK10 HT10⊢
   clear hW10 z1 y1' H9 HK9 HT9
   have z0:=H10.out.az.ce 0 0 rfl rfl
   have z1:=H10.out.az.ce 0 1 rfl rfl
   have z2:=H10.out.az.ce 0 2 rfl rfl
   have z3:=H10.out.az.ce 0 3 rfl rfl
   have z4:=H10.out.az.ce 0 4 rfl rfl
   have z5:=H10.out.az.ce 0 5 rfl rfl
   go_upto_region 21 with (go_at_call 41;(with_reducible refine(KP2.out _ H10.out.p.1 HT10.out.at).mono ?_);rintro e u8 ⟨⟨aJ,cJ,rfl,hk⟩,hb⟩;have HI8:=hid (show InksAt aI ks u8∧InksAt aJ ks u8 from⟨HK10.out.at.below hb,hk⟩);have HX8:=hid (show X<u8.heap.size∧X6<u8.heap.size∧w.heap.size<u8.heap.size from⟨((H10.out.below hb).az.row (X,[.int .i64 (g.x+(u:Int)),.int .i64 (g.y+(v:Int)),.int .i64 g.w,.int .i64 g.h,.int .i64 g.s,.slice none 0 0]) (by simp)).sz,((H10.out.below hb).az.row (X6,[.int .i64 g.x,.int .i64 g.y,.int .i64 g.w,.int .i64 g.h,.int .i64 g.s,.slice aI nk cI]) (by simp)).sz,((H10.out.below hb).az.row (w.heap.size,[.int .i64 y0,.int .i64 y1,.int .i64 y2,.int .i64 y3,.int .i64 y4]) (by simp)).sz⟩);have H10b:=hid (H10.out.below hb);have H11:=hid ((H10.out.below hb).push [.int .i64 (g.x+(u:Int)),.int .i64 (g.y+(v:Int)),.int .i64 g.w,.int .i64 g.h,.int .i64 g.s,.slice aJ nk cJ] 58);clear hb hk z0 z1 z2 z3 z4 z5)
   have z0:=H11.out.az.ce 0 0 rfl rfl
   have yf0:=H11.out.az.cf 0 0 rfl rfl
   go_upto_region 22 with fail
   go_upto_region 23 with fail
   have H13:=hid (H10b.out.push [.int .i64 g.x,.int .i64 g.y,.int .i64 g.w,.int .i64 g.h,.int .i64 g.s,.slice aJ nk cJ] 58)
   have HI13:=hid (And.intro (HI8.out.1.below ((Below.refl u8.heap.size u8).alloc (Nat.le_refl _) (.cells #[.int .i64 g.x,.int .i64 g.y,.int .i64 g.w,.int .i64 g.h,.int .i64 g.s,.slice aJ nk cJ] 58))) (HI8.out.2.below ((Below.refl u8.heap.size u8).alloc (Nat.le_refl _) (.cells #[.int .i64 g.x,.int .i64 g.y,.int .i64 g.w,.int .i64 g.h,.int .i64 g.s,.slice aJ nk cJ] 58))))
   obtain⟨X8,hX8⟩:∃X,X=u8.heap.size:=⟨_,rfl⟩
   obtain⟨W13,hW13⟩:∃W,W=u8.alloc (.cells #[.int .i64 g.x,.int .i64 g.y,.int .i64 g.w,.int .i64 g.h,.int .i64 g.s,.slice aJ nk cJ] 58):=⟨_,rfl⟩
   rw[←hW13] at H13 HI13⊢
   rw[←hX8] at H13⊢
   clear hW13 hX8 z0 yf0 H10 H11 H10b q1 q2 q3 q4
   have z0:=H13.out.az.ce 0 0 rfl rfl
   have z1:=H13.out.az.ce 0 1 rfl rfl
   have z2:=H13.out.az.ce 0 2 rfl rfl
   have z3:=H13.out.az.ce 0 3 rfl rfl
   have z4:=H13.out.az.ce 0 4 rfl rfl
   have z5:=H13.out.az.ce 0 5 rfl rfl
   have x0:=H13.out.az.ce 2 0 rfl rfl
   have x1:=H13.out.az.ce 2 1 rfl rfl
   have x2:=H13.out.az.ce 2 2 rfl rfl
   have x3:=H13.out.az.ce 2 3 rfl rfl
   have x4:=H13.out.az.ce 2 4 rfl rfl
   have x5:=H13.out.az.ce 2 5 rfl rfl
   go_wp2_with (go_at_call 44;(with_reducible refine(KSM.out _ _ _ _ _ HI13.out.1 HI13.out.2).mono ?_);rintro e u9 ⟨rfl,hb⟩;have H14:=hid (H13.out.below hb);clear hb)
   go_ret
   exact⟨rfl,H14.out.az.bw⟩
  obtain⟨s,hs⟩:∃s,ss[i]?=some s:=⟨ss[i]'(by have:=HNS.out;omega),List.getElem?_eq_getElem _⟩
  obtain⟨b,o,rfl,hbl,hc⟩:=(H5.out.below HO.out.az.bw).p.2.row i s hs
  have HTK:=hid (show(ss.take (i+1)).map (shS (u:Int) (v:Int))=(ss.take i).map (shS (u:Int) (v:Int))++[shS (u:Int) (v:Int) s] by rw[List.take_add_one,hs,List.map_append];rfl)
  have hnr:=HNR.out s (List.mem_of_getElem? hs)
  obtain⟨cd,kd,⟨rx,ry,rw,rh⟩,⟨ax,ay⟩,⟨bx,bz⟩,wd⟩:=s
  simp only at hnr
  have c0:=hc 0 _ rfl
  have c1:=hc 1 _ rfl
  have c2:=hc 2 _ rfl
  have c3:=hc 3 _ rfl
  have c4:=hc 4 _ rfl
  have c5:=hc 5 _ rfl
  have c6:=hc 6 _ rfl
  have c7:=hc 7 _ rfl
  have c8:=hc 8 _ rfl
  have c9:=hc 9 _ rfl
  have c10:=hc 10 _ rfl
  clear hc hs
  have hn5:ns≤5:=HLN.out
  have i1:(0:Int)≤(i:Int):=by omega
  have i2:(i:Int)<(ns:Int):=by omega
  have g0:IntKind.i64.wrap (rx+(u:Int))=rx+(u:Int):=IntWalk.i64_in _ (by omega)
  have g1:IntKind.i64.wrap (ry+(v:Int))=ry+(v:Int):=IntWalk.i64_in _ (by omega)
  have g2:IntKind.i64.wrap (ax+(u:Int))=ax+(u:Int):=IntWalk.i64_in _ (by omega)
  have g3:IntKind.i64.wrap (ay+(v:Int))=ay+(v:Int):=IntWalk.i64_in _ (by omega)
  have g4:IntKind.i64.wrap (bx+(u:Int))=bx+(u:Int):=IntWalk.i64_in _ (by omega)
  have g5:IntKind.i64.wrap (bz+(v:Int))=bz+(v:Int):=IntWalk.i64_in _ (by omega)
  have H6:=hid (HO.out.push [.int .i64 cd,.int .i64 kd,.int .i64 rx,.int .i64 ry,.int .i64 rw,.int .i64 rh,.int .i64 ax,.int .i64 ay,.int .i64 bx,.int .i64 bz,.string wd] 63)
  obtain⟨B,hB⟩:∃B,B=wr.heap.size:=⟨_,rfl⟩
  have hBw:u5.heap.size≤B:=by rw[hB];exact HO.out.az.bw.size
  simp only[Nat.add_zero] at c0 c1 c2 c3 c4 c5 c6 c7 c8 c9 c10
  go_upto_region 12 with fail
  obtain⟨W6,hW6⟩:∃V,V=wr.alloc (.cells #[.int .i64 cd,.int .i64 kd,.int .i64 rx,.int .i64 ry,.int .i64 rw,.int .i64 rh,.int .i64 ax,.int .i64 ay,.int .i64 bx,.int .i64 bz,.string wd] 63):=⟨_,rfl⟩
  rw[←hB] at H6⊢
  rw[←hW6] at H6⊢
  clear hB hW6 c0 c1 c2 c3 c4 c5 c6 c7 c8 c9 c10 HO
  have z2:=H6.out.az.ce 0 2 rfl rfl
  have y2:=H6.out.az.cf 0 2 rfl rfl
  go_upto_region 13 with fail
  have H7:=hid (show OsAt 63 11 u13 i (ssC ((ss.take i).map (shS (u:Int) (v:Int)))) [(B,[.int .i64 cd,.int .i64 kd,.int .i64 (rx+(u:Int)),.int .i64 ry,.int .i64 rw,.int .i64 rh,.int .i64 ax,.int .i64 ay,.int .i64 bx,.int .i64 bz,.string wd])] u5 (W6.setCell ⟨B,2,none⟩ (.int .i64 (rx+(u:Int)))) from(H6.out.set hBw (fun _ hz=>by cases hz) (i:=2) rfl (.int .i64 (rx+(u:Int)))))
  obtain⟨W7,hW7⟩:∃V,V=(W6.setCell ⟨B,2,none⟩ (.int .i64 (rx+(u:Int)))):=⟨_,rfl⟩
  rw[←hW7] at H7⊢
  clear hW7 H6 z2 y2
  have z3:=H7.out.az.ce 0 3 rfl rfl
  have y3:=H7.out.az.cf 0 3 rfl rfl
  go_upto_region 14 with fail
  have H8:=hid (show OsAt 63 11 u13 i (ssC ((ss.take i).map (shS (u:Int) (v:Int)))) [(B,[.int .i64 cd,.int .i64 kd,.int .i64 (rx+(u:Int)),.int .i64 (ry+(v:Int)),.int .i64 rw,.int .i64 rh,.int .i64 ax,.int .i64 ay,.int .i64 bx,.int .i64 bz,.string wd])] u5 (W7.setCell ⟨B,3,none⟩ (.int .i64 (ry+(v:Int)))) from(H7.out.set hBw (fun _ hz=>by cases hz) (i:=3) rfl (.int .i64 (ry+(v:Int)))))
  obtain⟨W8,hW8⟩:∃V,V=(W7.setCell ⟨B,3,none⟩ (.int .i64 (ry+(v:Int)))):=⟨_,rfl⟩
  rw[←hW8] at H8⊢
  clear hW8 H7 z3 y3
  have z6:=H8.out.az.ce 0 6 rfl rfl
  have z7:=H8.out.az.ce 0 7 rfl rfl
  have y6:=H8.out.az.cf 0 6 rfl rfl
  have y7:=H8.out.az.cf 0 7 rfl rfl
  go_upto_region 15 with fail
  have H9:=hid (show OsAt 63 11 u13 i (ssC ((ss.take i).map (shS (u:Int) (v:Int)))) [(B,[.int .i64 cd,.int .i64 kd,.int .i64 (rx+(u:Int)),.int .i64 (ry+(v:Int)),.int .i64 rw,.int .i64 rh,.int .i64 (ax+(u:Int)),.int .i64 (ay+(v:Int)),.int .i64 bx,.int .i64 bz,.string wd])] u5 ((W8.setCell ⟨B,6,none⟩ (.int .i64 (ax+(u:Int)))).setCell ⟨B,7,none⟩ (.int .i64 (ay+(v:Int)))) from((H8.out.set hBw (fun _ hz=>by cases hz) (i:=6) rfl (.int .i64 (ax+(u:Int)))).set hBw (fun _ hz=>by cases hz) (i:=7) rfl (.int .i64 (ay+(v:Int)))))
  obtain⟨W9,hW9⟩:∃V,V=((W8.setCell ⟨B,6,none⟩ (.int .i64 (ax+(u:Int)))).setCell ⟨B,7,none⟩ (.int .i64 (ay+(v:Int)))):=⟨_,rfl⟩
  rw[←hW9] at H9⊢
  clear hW9 H8 z6 z7 y6 y7
  have z8:=H9.out.az.ce 0 8 rfl rfl
  have z9:=H9.out.az.ce 0 9 rfl rfl
  have y8:=H9.out.az.cf 0 8 rfl rfl
  have y9:=H9.out.az.cf 0 9 rfl rfl
  go_upto_region 16 with fail
  have H10:=hid (show OsAt 63 11 u13 i (ssC ((ss.take i).map (shS (u:Int) (v:Int)))) [(B,[.int .i64 cd,.int .i64 kd,.int .i64 (rx+(u:Int)),.int .i64 (ry+(v:Int)),.int .i64 rw,.int .i64 rh,.int .i64 (ax+(u:Int)),.int .i64 (ay+(v:Int)),.int .i64 (bx+(u:Int)),.int .i64 (bz+(v:Int)),.string wd])] u5 ((W9.setCell ⟨B,8,none⟩ (.int .i64 (bx+(u:Int)))).setCell ⟨B,9,none⟩ (.int .i64 (bz+(v:Int)))) from((H9.out.set hBw (fun _ hz=>by cases hz) (i:=8) rfl (.int .i64 (bx+(u:Int)))).set hBw (fun _ hz=>by cases hz) (i:=9) rfl (.int .i64 (bz+(v:Int)))))
  obtain⟨W10,hW10⟩:∃V,V=((W9.setCell ⟨B,8,none⟩ (.int .i64 (bx+(u:Int)))).setCell ⟨B,9,none⟩ (.int .i64 (bz+(v:Int)))):=⟨_,rfl⟩
  rw[←hW10] at H10⊢
  clear hW10 H9 z8 z9 y8 y9
  have z0:=H10.out.az.ce 0 0 rfl rfl
  have z1:=H10.out.az.ce 0 1 rfl rfl
  have z2:=H10.out.az.ce 0 2 rfl rfl
  have z3:=H10.out.az.ce 0 3 rfl rfl
  have z4:=H10.out.az.ce 0 4 rfl rfl
  have z5:=H10.out.az.ce 0 5 rfl rfl
  have z6:=H10.out.az.ce 0 6 rfl rfl
  have z7:=H10.out.az.ce 0 7 rfl rfl
  have z8:=H10.out.az.ce 0 8 rfl rfl
  have z9:=H10.out.az.ce 0 9 rfl rfl
  have z10:=H10.out.az.ce 0 10 rfl rfl
  go_wp2_with (at_builtin;refine wpList_append_own_at _ rfl _ _ 64 rfl u5.heap.size 63 i0 (.agg #[.int .i64 0,.int .i64 0,.int .i64 0,.int .i64 0,.int .i64 0,.int .i64 0,.int .i64 0,.int .i64 0,.int .i64 0,.int .i64 0,.string ⟨#[]⟩]) 11 96 Tryz.underlying64 hi0 hz0 hz1 hz2 rfl (by decide) u13 i (ssC ((ss.take i).map (shS (u:Int) (v:Int)))) rfl (H10.out.al _).own ⟨W10.heap.size,0,none⟩ 1 1 [.int .i64 cd,.int .i64 kd,.int .i64 (rx+(u:Int)),.int .i64 (ry+(v:Int)),.int .i64 rw,.int .i64 rh,.int .i64 (ax+(u:Int)),.int .i64 (ay+(v:Int)),.int .i64 (bx+(u:Int)),.int .i64 (bz+(v:Int)),.string wd] rfl rfl (tG_ _ _ _) (by simp[Value.oneCell']) (by have:=HLN.out;unfold maxLen;omega) (by omega) (H10.out.al _).az.bw.size ?_;intro v9 w9 hown' hgrow _ hat;have HJ:=hid ((H10.out.al _).grown hown' hgrow hat);clear hown' hgrow hat)
  exact⟨⟨i+1,by omega,by go_num,by rw[HTK.out,iM_];exact HJ.out.sub (by simp)⟩,by simp only[intOf];omega⟩
end Go.Proofs.YtlikmmpmnaaifaaGreatDoor
