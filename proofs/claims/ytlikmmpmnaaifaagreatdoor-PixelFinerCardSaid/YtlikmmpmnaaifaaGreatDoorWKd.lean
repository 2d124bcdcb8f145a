/-
  The law PixelFiner: what a picture with pixels twice as long says of a pixel is what the four pixels of the finer one say together, divided by 4: or up to 1 more.
-/
import Derived.Lib.QuietBelow
import Derived.BigQuiet
import Derived.OwnWalk
import Derived.Deep.CutRange
import Derived.Deep.RegionHeld3
import Derived.Test.YtlikmmpmnaaifaaGreatDoorZOpn8
import Derived.Test.YtlikmmpmnaaifaaGreatDoorZYx
import Derived.Test.YtlikmmpmnaaifaaGreatDoorZKa
namespace Go.Proofs.YtlikmmpmnaaifaaGreatDoor
open Go.RowKit Go.Shelf Go.Sort
attribute [local go_sem] Oper.semAt_some
theorem icC_zeros (n:Nat):(madeCells (Value.int .i64 0).cells (n*1)).toList=icC (List.replicate n 0):=by
 rw[Nat.mul_one]
 show(madeCells #[Value.int .i64 0] n).toList=_
 rw[toList_madeCells_one]
 unfold icC
 rw[List.map_replicate]
theorem finer_ok (y:Nat→Int):FrOk (coaF ⟨(frN y).x,(frN y).y,((aK_ (y 2) 3+1:Nat):Int),((aK_ (y 3) 3+1:Nat):Int),(frN y).s⟩)∧FrOk (finF ⟨(frN y).x,(frN y).y,((aK_ (y 2) 3+1:Nat):Int),((aK_ (y 3) 3+1:Nat):Int),(frN y).s⟩):=by
 have hb:=pA_ y
 have h2:=aJ_ (y 2) (n:=3) (by decide)
 have h3:=aJ_ (y 3) (n:=3) (by decide)
 generalize frN y=f at *
 generalize aK_ (y 2) 3=p at *
 generalize aK_ (y 3) 3=q at *
 obtain⟨W,hW⟩:∃W:Int,W=((p+1:Nat):Int):=⟨_,rfl⟩
 obtain⟨H,hH⟩:∃H:Int,H=((q+1:Nat):Int):=⟨_,rfl⟩
 rw[←hW,←hH]
 have m1:=Int.mul_le_mul (show W≤3 by omega) (show 2*f.s≤40 by omega) (by omega) (by omega)
 have m2:=Int.mul_le_mul (show H≤3 by omega) (show 2*f.s≤40 by omega) (by omega) (by omega)
 have m3:=Int.mul_le_mul (show W≤3 by omega) (show H≤3 by omega) (by omega) (by omega)
 have m4:=Int.mul_le_mul (show 2*W≤6 by omega) (show f.s≤20 by omega) (by omega) (by omega)
 have m5:=Int.mul_le_mul (show 2*H≤6 by omega) (show f.s≤20 by omega) (by omega) (by omega)
 have m6:=Int.mul_le_mul (show 2*W≤6 by omega) (show 2*H≤6 by omega) (by omega) (by omega)
 constructor <;> constructor <;> simp only[coaF,finF] <;> omega
theorem paint_few (f:Fr) (s:Sh):(aF_ f [s]).length≤1:=by rw[aEN];split <;> simp
theorem paint_cells {f:Fr} (hf:FrOk f) {s:Sh} (hs:okSh s=true):(∃c,aF_ f [s]=[⟨c,inkL f (outL s)⟩])∨(aF_ f [s]=[]∧inkL f (outL s)=List.replicate (npx f) 0):=by
 rw[aEN]
 by_cases h:0<sumL (inkL f (outL s))
 ·rw[if_pos h]
  exact .inl ⟨_,rfl⟩
 ·rw[if_neg h]
  exact .inr ⟨rfl,aKT hf (jQ_ hs) h⟩
theorem zL_.parts2 {ss:List Sh} {w W':World} {e:Ending} (h:zL_ ss w e W'):∃a c,e=.returned (.slice a ss.length c)∧ShsAt a ss W'∧ss.length≤c∧Below w.heap.size w W':=by
 obtain⟨a,c,h1,h2⟩:=h
 refine⟨a,c,h1,h2.shs,?_,h2.az.bw⟩
 rcases h2.own.2 with ⟨e,hn⟩|⟨g,c',cur,e,_,_,h3,_⟩
 ·omega
 ·injection e with _ _ e
  omega
set_option maxHeartbeats 16000000 in
set_option maxRecDepth 100000 in
theorem PixelFiner_law (y0 y1 y2 y3 y4:Int) {a:Option Addr} {n cap:Nat} {xs:List Q4} (hy0:inI y0) (hy1:inI y1) (hy2:inI y2) (hy3:inI y3) (hy4:inI y4) (hn:xs.length=n) (w:World) (hX:X4At a xs w) (hq:IOps w∧FrOp w) :
  Calls Tryz.prog 7 #[.slice a n cap,.agg #[.int .i64 y0,.int .i64 y1,.int .i64 y2,.int .i64 y3,.int .i64 y4]] w fun e w'=>e=.returned (.bool true)∧Below w.heap.size w w':=by
 obtain⟨y,hy,e0,e1,e2,e3,e4⟩:∃y:Nat→Int,(∀i,inI (y i))∧y0=y 0∧y1=y 1∧y2=y 2∧y3=y 3∧y4=y 4:=⟨fun i=>match i with|0=>y0|1=>y1|2=>y2|3=>y3|_=>y4,fun i=>by match i with|0=>exact hy0|1=>exact hy1|2=>exact hy2|3=>exact hy3|_+4=>exact hy4,rfl,rfl,rfl,rfl,rfl⟩
 have HX:=Lib.hid (show ExAt [] (fun V=>(IOps V∧FrOp V)∧X4At a xs V) w w from⟨AzAt.start w,⟨hq,hX⟩,fun A C h hb=>⟨⟨h.1.1.below hb,h.1.2.below hb⟩,h.2.below hb⟩⟩)
 have H0:=Lib.hid (HX.out.push [.int .i64 y0,.int .i64 y1,.int .i64 y2,.int .i64 y3,.int .i64 y4] 55)
 have KS:=Lib.hid (show ∀W:World,IOps W∧FrOp W→Calls Tryz.prog 38 #[] W fun e W'=>e=.returned (.bool true)∧Below W.heap.size W W' from fun W h=>xT_ (Lib.hid h))
 have KF:=Lib.hid (show ∀W:World,Calls Tryz.prog 39 #[.agg #[.int .i64 y0,.int .i64 y1,.int .i64 y2,.int .i64 y3,.int .i64 y4]] W fun e W'=>e=.returned (.agg #[.int .i64 (frN y).x,.int .i64 (frN y).y,.int .i64 (frN y).w,.int .i64 (frN y).h,.int .i64 (frN y).s,.slice none 0 0])∧Below W.heap.size W W' from fun W=>by rw[e0,e1,e2,e3,e4];exact tT_ hy W)
 have KH:=Lib.hid (show ∀W:World,X4At a xs W→Calls Tryz.prog 43 #[.slice a n cap,.bool false] W fun e W'=>∃a1 c1,e=.returned (.slice a1 (shsK false xs (min n 5)).length c1)∧ShsAt a1 (shsK false xs (min n 5)) W'∧(shsK false xs (min n 5)).length≤c1∧Below W.heap.size W W' from fun W h=>(zV_ (c:=cap) false hn W h).mono fun _ _ h=>h.parts2)
 have KW:=Lib.hid (show ∀W:World,Calls Tryz.prog 40 #[.int .i64 y2,.int .i64 3] W fun e W'=>e=.returned (.int .i64 (aK_ y2 3:Nat))∧Below W.heap.size W W' from fun W=>fH_ y2 3 hy2.1 hy2.2 (by decide) (by decide) W)
 have KG:=Lib.hid (show ∀W:World,Calls Tryz.prog 40 #[.int .i64 y3,.int .i64 3] W fun e W'=>e=.returned (.int .i64 (aK_ y3 3:Nat))∧Below W.heap.size W W' from fun W=>fH_ y3 3 hy3.1 hy3.2 (by decide) (by decide) W)
 have HOK:=Lib.hid (aNZ false xs (k:=min n 5) (by omega))
 have HLN:=Lib.hid (show(shsK false xs (min n 5)).length≤5 by rw[xR_];omega)
 have HB:=Lib.hid (pA_ y)
 have hfo:=finer_ok y
 rw[←e2,←e3] at hfo
 have hp2:=aJ_ y2 (n:=3) (by decide)
 have hp3:=aJ_ y3 (n:=3) (by decide)
 generalize shsK false xs (min n 5)=ss at *
 generalize frN y=g at *
 generalize aK_ y2 3=pw at *
 generalize aK_ y3 3=ph at *
 obtain⟨ns,hns⟩:∃ns,ns=ss.length:=⟨_,rfl⟩
 rw[←hns] at KH HLN
 have HNS:=Lib.hid hns
 have hn5:ns≤5:=HLN.out
 obtain⟨W,hW⟩:∃W,W=pw+1:=⟨_,rfl⟩
 obtain⟨H,hH⟩:∃H,H=ph+1:=⟨_,rfl⟩
 obtain⟨W2,hW2⟩:∃W2,W2=2*W:=⟨_,rfl⟩
 obtain⟨H2,hH2⟩:∃H2,H2=2*H:=⟨_,rfl⟩
 obtain⟨S2,hS2⟩:∃S2,S2=2*g.s:=⟨_,rfl⟩
 rw[←hW,←hH] at hfo
 have hgb:=HB.out
 have gW:IntKind.i64.wrap (1+(pw:Int))=(W:Int):=by rw[IntWalk.i64_in _ (by omega)];omega
 have gH:IntKind.i64.wrap (1+(ph:Int))=(H:Int):=by rw[IntWalk.i64_in _ (by omega)];omega
 have gW2:IntKind.i64.wrap (2*(W:Int))=(W2:Int):=by rw[IntWalk.i64_in _ (by omega)];omega
 have gH2:IntKind.i64.wrap (2*(H:Int))=(H2:Int):=by rw[IntWalk.i64_in _ (by omega)];omega
 have gS2:IntKind.i64.wrap (2*g.s)=S2:=by rw[IntWalk.i64_in _ (by omega)];omega
 have HDM:=Lib.hid (show(1≤W∧W≤3)∧(1≤H∧H≤3)∧W2=2*W∧H2=2*H from⟨by omega,by omega,hW2,hH2⟩)
 obtain⟨f,hf⟩:∃f:Fr,f=⟨g.x,g.y,(W:Int),(H:Int),g.s⟩:=⟨_,rfl⟩
 rw[←hf] at hfo
 have hC:coaF f=⟨g.x,g.y,(W:Int),(H:Int),S2⟩:=by rw[hf,hS2];rfl
 have hF:finF f=⟨g.x,g.y,(W2:Int),(H2:Int),g.s⟩:=by rw[hf,hW2,hH2,Int.natCast_mul,Int.natCast_mul];rfl
 have HFF:=Lib.hid (And.intro hfo (And.intro hC (And.intro hF (show 1≤f.s∧f.w=(W:Int)∧f.h=(H:Int) by rw[hf];exact⟨by simp only;omega,rfl,rfl⟩))))
 clear hns e0 e1 e2 e3 e4 hX hq HX hfo hp2 hp3 hW hH hW2 hH2 hS2 hgb hf hC hF
 go_enter Tryz.func7,Tryz.ntmps7
 go_upto_region 5 with (first
  | (go_at_call 38;(with_reducible refine(KS.out _ H0.out.p.1).mono ?_);rintro e wa1 ⟨rfl,hb⟩;have H1:=Lib.hid (H0.out.below hb);clear hb)
  | (go_at_call 43;(with_reducible refine(KH.out _ H1.out.p.2).mono ?_);rintro e wb ⟨a1,c1,rfl,hsh,hc1,hb⟩;have H2:=Lib.hid ((((H1.out.below hb).add hsh fun _ _ h=>h.below).weak (Q:=fun V=>(IOps V∧FrOp V)∧ShsAt a1 ss V) (fun _ h=>⟨h.1.1,h.2⟩) (fun A C h hb=>⟨⟨h.1.1.below hb,h.1.2.below hb⟩,h.2.below hb⟩)).here);have HBW:=Lib.hid (show Below w.heap.size w wb from(H1.out.below hb).az.bw);have HC1:=Lib.hid hc1;clear hb hsh hc1;have z0:=H2.out.az.ce 0 0 rfl rfl;have z1:=H2.out.az.ce 0 1 rfl rfl;have z2:=H2.out.az.ce 0 2 rfl rfl;have z3:=H2.out.az.ce 0 3 rfl rfl;have z4:=H2.out.az.ce 0 4 rfl rfl)
  | (go_at_call 39;(with_reducible refine(KF.out _).mono ?_);rintro e wc3 ⟨rfl,hb⟩;have HU3:=Lib.hid hb.size;have H3:=Lib.hid ((H2.out.below hb).push [.int .i64 g.x,.int .i64 g.y,.int .i64 g.w,.int .i64 g.h,.int .i64 g.s,.slice none 0 0] 58);clear hb z0 z1 z2 z3 z4)
  | fail)
 have HPB:=Lib.hid H2.out.p
 obtain⟨Xc,hXc⟩:∃X,X=wc3.heap.size:=⟨_,rfl⟩
 obtain⟨W3,hW3⟩:∃V,V=wc3.alloc (.cells #[.int .i64 g.x,.int .i64 g.y,.int .i64 g.w,.int .i64 g.h,.int .i64 g.s,.slice none 0 0] 58):=⟨_,rfl⟩
 have hXb:wb.heap.size≤Xc:=by rw[hXc];exact HU3.out
 have hyl:w.heap.size<wb.heap.size:=(H2.out.az.row _ (List.mem_cons_self)).sz
 rw[←hXc,←hW3] at H3⊢
 clear hXc hW3 HU3 H0 H1 H2 KS KF KH
 have hXd:∀z∈([(w.heap.size,[.int .i64 y0,.int .i64 y1,.int .i64 y2,.int .i64 y3,.int .i64 y4])]:List (Nat×List Value)),Xc≠z.1:=by
  intro z hz
  simp only[List.mem_singleton] at hz
  subst hz
  show Xc≠w.heap.size
  omega
 have z2:=H3.out.az.ce 1 2 rfl rfl
 go_upto_region 6 with (go_at_call 40;(with_reducible refine(KW.out _).mono ?_);rintro e wc4 ⟨rfl,hb⟩;have H4:=Lib.hid (H3.out.below hb);clear hb z2;have z2:=H4.out.az.ce 0 2 rfl rfl;have x2:=H4.out.az.cf 0 2 rfl rfl)
 have H5:=Lib.hid (show ExAt [(Xc,[.int .i64 g.x,.int .i64 g.y,.int .i64 (W:Int),.int .i64 g.h,.int .i64 g.s,.slice none 0 0]),(w.heap.size,[.int .i64 y0,.int .i64 y1,.int .i64 y2,.int .i64 y3,.int .i64 y4])] (fun V=>(IOps V∧FrOp V)∧ShsAt a1 ss V) wb (wc4.setCell ⟨Xc,2,none⟩ (.int .i64 (W:Int))) from H4.out.set HPB.out hXb hXd (i:=2) rfl (.int .i64 (W:Int)))
 obtain⟨W5,hW5⟩:∃V,V=wc4.setCell ⟨Xc,2,none⟩ (.int .i64 (W:Int)):=⟨_,rfl⟩
 rw[←hW5] at H5⊢
 clear hW5 H3 H4 z2 x2 KW
 have z3:=H5.out.az.ce 1 3 rfl rfl
 go_upto_region 7 with (go_at_call 40;(with_reducible refine(KG.out _).mono ?_);rintro e wc6 ⟨rfl,hb⟩;have H6:=Lib.hid (H5.out.below hb);clear hb z3;have z3:=H6.out.az.ce 0 3 rfl rfl;have x3:=H6.out.az.cf 0 3 rfl rfl)
 have H7:=Lib.hid (show ExAt [(Xc,[.int .i64 g.x,.int .i64 g.y,.int .i64 (W:Int),.int .i64 (H:Int),.int .i64 g.s,.slice none 0 0]),(w.heap.size,[.int .i64 y0,.int .i64 y1,.int .i64 y2,.int .i64 y3,.int .i64 y4])] (fun V=>(IOps V∧FrOp V)∧ShsAt a1 ss V) wb (wc6.setCell ⟨Xc,3,none⟩ (.int .i64 (H:Int))) from H6.out.set HPB.out hXb hXd (i:=3) rfl (.int .i64 (H:Int)))
 obtain⟨W7,hW7⟩:∃V,V=wc6.setCell ⟨Xc,3,none⟩ (.int .i64 (H:Int)):=⟨_,rfl⟩
 rw[←hW7] at H7⊢
 clear hW7 H5 H6 z3 x3 KG gW gH
 have z0:=H7.out.az.ce 0 0 rfl rfl
 have z1:=H7.out.az.ce 0 1 rfl rfl
 have z2:=H7.out.az.ce 0 2 rfl rfl
 have z3:=H7.out.az.ce 0 3 rfl rfl
 have z4:=H7.out.az.ce 0 4 rfl rfl
 have z5:=H7.out.az.ce 0 5 rfl rfl
 go_upto_region 8 with fail
 have H8:=Lib.hid (H7.out.push [.int .i64 g.x,.int .i64 g.y,.int .i64 (W:Int),.int .i64 (H:Int),.int .i64 g.s,.slice none 0 0] 58)
 obtain⟨Xf,hXf⟩:∃X,X=W7.heap.size:=⟨_,rfl⟩
 obtain⟨W8,hW8⟩:∃V,V=W7.alloc (.cells #[.int .i64 g.x,.int .i64 g.y,.int .i64 (W:Int),.int .i64 (H:Int),.int .i64 g.s,.slice none 0 0] 58):=⟨_,rfl⟩
 have hcf:Xc<Xf:=by rw[hXf];exact(H7.out.az.row _ (List.mem_cons_self)).sz
 rw[←hXf,←hW8] at H8⊢
 clear hXf hW8 H7 z0 z1 z2 z3 z4 z5
 have hXe:∀z∈([(Xc,[.int .i64 g.x,.int .i64 g.y,.int .i64 (W:Int),.int .i64 (H:Int),.int .i64 g.s,.slice none 0 0]),(w.heap.size,[.int .i64 y0,.int .i64 y1,.int .i64 y2,.int .i64 y3,.int .i64 y4])]:List (Nat×List Value)),Xf≠z.1:=by
  intro z hz
  simp only[List.mem_cons,List.not_mem_nil,or_false] at hz
  rcases hz with rfl|rfl <;> simp only <;> omega
 have hXg:wb.heap.size≤Xf:=by omega
 have z2:=H8.out.az.ce 1 2 rfl rfl
 have x2:=H8.out.az.ce 0 2 rfl rfl
 have y2':=H8.out.az.cf 0 2 rfl rfl
 go_upto_region 9 with fail
 have H9:=Lib.hid (show ExAt [(Xf,[.int .i64 g.x,.int .i64 g.y,.int .i64 (W2:Int),.int .i64 (H:Int),.int .i64 g.s,.slice none 0 0]),(Xc,[.int .i64 g.x,.int .i64 g.y,.int .i64 (W:Int),.int .i64 (H:Int),.int .i64 g.s,.slice none 0 0]),(w.heap.size,[.int .i64 y0,.int .i64 y1,.int .i64 y2,.int .i64 y3,.int .i64 y4])] (fun V=>(IOps V∧FrOp V)∧ShsAt a1 ss V) wb (W8.setCell ⟨Xf,2,none⟩ (.int .i64 (W2:Int))) from H8.out.set HPB.out hXg hXe (i:=2) rfl (.int .i64 (W2:Int)))
 obtain⟨W9,hW9⟩:∃V,V=W8.setCell ⟨Xf,2,none⟩ (.int .i64 (W2:Int)):=⟨_,rfl⟩
 rw[←hW9] at H9⊢
 clear hW9 H8 z2 x2 y2'
 have z3:=H9.out.az.ce 1 3 rfl rfl
 have x3:=H9.out.az.ce 0 3 rfl rfl
 have y3':=H9.out.az.cf 0 3 rfl rfl
 go_upto_region 10 with fail
 have H10:=Lib.hid ((show ExAt [(Xf,[.int .i64 g.x,.int .i64 g.y,.int .i64 (W2:Int),.int .i64 (H2:Int),.int .i64 g.s,.slice none 0 0]),(Xc,[.int .i64 g.x,.int .i64 g.y,.int .i64 (W:Int),.int .i64 (H:Int),.int .i64 g.s,.slice none 0 0]),(w.heap.size,[.int .i64 y0,.int .i64 y1,.int .i64 y2,.int .i64 y3,.int .i64 y4])] (fun V=>(IOps V∧FrOp V)∧ShsAt a1 ss V) wb (W9.setCell ⟨Xf,3,none⟩ (.int .i64 (H2:Int))) from H9.out.set HPB.out hXg hXe (i:=3) rfl (.int .i64 (H2:Int))).sub (L':=[(Xc,[.int .i64 g.x,.int .i64 g.y,.int .i64 (W:Int),.int .i64 (H:Int),.int .i64 g.s,.slice none 0 0]),(Xf,[.int .i64 g.x,.int .i64 g.y,.int .i64 (W2:Int),.int .i64 (H2:Int),.int .i64 g.s,.slice none 0 0])]) (fun z hz=>by simp only[List.mem_cons,List.not_mem_nil,or_false] at hz;rcases hz with rfl|rfl <;> simp))
 obtain⟨W10,hW10⟩:∃V,V=W9.setCell ⟨Xf,3,none⟩ (.int .i64 (H2:Int)):=⟨_,rfl⟩
 rw[←hW10] at H10⊢
 clear hW10 H9 z3 x3 y3' hXe hXd
 have hXd:∀z∈([(Xf,[.int .i64 g.x,.int .i64 g.y,.int .i64 (W2:Int),.int .i64 (H2:Int),.int .i64 g.s,.slice none 0 0])]:List (Nat×List Value)),Xc≠z.1:=by
  intro z hz
  simp only[List.mem_singleton] at hz
  subst hz
  show Xc≠Xf
  omega
 have z4:=H10.out.az.ce 0 4 rfl rfl
 have y4':=H10.out.az.cf 0 4 rfl rfl
 go_upto_region 11 with fail
 have H11:=Lib.hid ((show ExAt [(Xc,[.int .i64 g.x,.int .i64 g.y,.int .i64 (W:Int),.int .i64 (H:Int),.int .i64 S2,.slice none 0 0]),(Xf,[.int .i64 g.x,.int .i64 g.y,.int .i64 (W2:Int),.int .i64 (H2:Int),.int .i64 g.s,.slice none 0 0])] (fun V=>(IOps V∧FrOp V)∧ShsAt a1 ss V) wb (W10.setCell ⟨Xc,4,none⟩ (.int .i64 S2)) from H10.out.set HPB.out hXb hXd (i:=4) rfl (.int .i64 S2)).sub (L':=[(Xf,[.int .i64 g.x,.int .i64 g.y,.int .i64 (W2:Int),.int .i64 (H2:Int),.int .i64 g.s,.slice none 0 0]),(Xc,[.int .i64 g.x,.int .i64 g.y,.int .i64 (W:Int),.int .i64 (H:Int),.int .i64 S2,.slice none 0 0])]) (fun z hz=>by simp only[List.mem_cons,List.not_mem_nil,or_false] at hz;rcases hz with rfl|rfl <;> simp))
 obtain⟨W11,hW11⟩:∃V,V=W10.setCell ⟨Xc,4,none⟩ (.int .i64 S2):=⟨_,rfl⟩
 rw[←hW11] at H11⊢
 clear hW11 H10 z4 y4' hXd hXb hXg gW2 gH2 gS2
 go_wp2
 go_loopw [8] (fun v8 wr=>∃i:Nat,i≤ns∧v8=.int .i64 (i:Int)∧ExAt [(Xf,[.int .i64 g.x,.int .i64 g.y,.int .i64 (W2:Int),.int .i64 (H2:Int),.int .i64 g.s,.slice none 0 0]),(Xc,[.int .i64 g.x,.int .i64 g.y,.int .i64 (W:Int),.int .i64 (H:Int),.int .i64 S2,.slice none 0 0])] (fun V=>(IOps V∧FrOp V)∧ShsAt a1 ss V) wb wr) (fun v8 _=>ns-(intOf v8).toNat)
 case atStart=>exact⟨0,Nat.zero_le _,rfl,H11.out⟩
 case round=>
  obtain⟨i,hi,rfl,ho⟩:=hrel
  have H12:=Lib.hid ho
  clear ho H11
  by_cases hlt:i<ns
  case neg=>
   obtain rfl:i=ns:=by omega
   go_wp2
   go_ret
   exact⟨rfl,HBW.out.trans (H12.out.az.bw.mono HBW.out.size)⟩
  have i1:(0:Int)≤(i:Int):=by omega
  have i2:(i:Int)<(ns:Int):=by omega
  obtain⟨s,hs⟩:∃s,ss[i]?=some s:=⟨ss[i]'(by have:=HNS.out;omega),List.getElem?_eq_getElem _⟩
  have HSO:=Lib.hid (HOK.out s (List.mem_of_getElem? hs))
  obtain⟨b,o,e1,hbl,hc0⟩:=H12.out.p.2.row i s hs
  subst e1
  have HSA:=Lib.hid (show ∀V:World,ShsAt (some ⟨b,o,none⟩) ss V→ShsAt (some ⟨b,o+i*11,none⟩) [s] V from fun V h=>h.sub (fun j t hj=>by
   cases j with
   | zero => obtain rfl:s=t:=by simpa using hj
             exact hs
   | succ j=>simp at hj))
  clear hc0 hs hbl
  obtain⟨kc,hkc⟩:∃k,k=aF_ (coaF f) [s]:=⟨_,rfl⟩
  obtain⟨nc,hnc⟩:∃k,k=kc.length:=⟨_,rfl⟩
  obtain⟨kf,hkf⟩:∃k,k=aF_ (finF f) [s]:=⟨_,rfl⟩
  obtain⟨nf,hnf⟩:∃k,k=kf.length:=⟨_,rfl⟩
  have hnc1:nc≤1:=by rw[hnc,hkc];exact paint_few _ _
  have hnf1:nf≤1:=by rw[hnf,hkf];exact paint_few _ _
  have KPC:=Lib.hid (show ∀(V:World) (c':Nat),IOps V∧FrOp V→ShsAt (some ⟨b,o+i*11,none⟩) [s] V→Calls Tryz.prog 41 #[.slice (some ⟨b,o+i*11,none⟩) 1 c',.agg #[.int .i64 g.x,.int .i64 g.y,.int .i64 (W:Int),.int .i64 (H:Int),.int .i64 S2,.slice none 0 0]] V fun e W'=>(∃a c,e=.returned (.tuple #[.agg #[.int .i64 g.x,.int .i64 g.y,.int .i64 (W:Int),.int .i64 (H:Int),.int .i64 S2,.slice a nc c],.int .i64 0])∧bM_ V.heap.size a kc W')∧Below V.heap.size V W' from fun V c' hI hS=>by
   have:=mO_ (sn:=1) (sc:=c') (f:=coaF f) (Lib.hid hI) (Lib.hid HFF.out.1.1) (Lib.hid hS) (Lib.hid rfl) (by omega) (Lib.hid (fun t ht=>by rw[List.mem_singleton.1 ht];exact HSO.out)) (Lib.hid (rN_ s))
   rw[←hkc,←hnc,HFF.out.2.1] at this
   exact this)
  have KPF:=Lib.hid (show ∀(V:World) (c':Nat),IOps V∧FrOp V→ShsAt (some ⟨b,o+i*11,none⟩) [s] V→Calls Tryz.prog 41 #[.slice (some ⟨b,o+i*11,none⟩) 1 c',.agg #[.int .i64 g.x,.int .i64 g.y,.int .i64 (W2:Int),.int .i64 (H2:Int),.int .i64 g.s,.slice none 0 0]] V fun e W'=>(∃a c,e=.returned (.tuple #[.agg #[.int .i64 g.x,.int .i64 g.y,.int .i64 (W2:Int),.int .i64 (H2:Int),.int .i64 g.s,.slice a nf c],.int .i64 0])∧bM_ V.heap.size a kf W')∧Below V.heap.size V W' from fun V c' hI hS=>by
   have:=mO_ (sn:=1) (sc:=c') (f:=finF f) (Lib.hid hI) (Lib.hid HFF.out.1.2) (Lib.hid hS) (Lib.hid rfl) (by omega) (Lib.hid (fun t ht=>by rw[List.mem_singleton.1 ht];exact HSO.out)) (Lib.hid (rN_ s))
   rw[←hkf,←hnf,HFF.out.2.2.1] at this
   exact this)
  have HKE:=Lib.hid (And.intro (And.intro hkc hnc) (And.intro hkf hnf))
  have hc1:=HC1.out
  have i3:(i:Int)+1≤(c1:Int):=by omega
  have i4:(i:Int)≤(i:Int)+1:=by omega
  have i5:i+1-i=1:=by omega
  have i6:(i:Int)+1-(i:Int)=1:=by omega
  have i7:((i:Int)+1).toNat=i+1:=by omega
  have i8:i≠c1:=by omega
  have i9:i+1≤c1:=by omega
  have g1:IntKind.i64.wrap ((i:Int)+1)=(i:Int)+1:=IntWalk.i64_in _ (by omega)
  clear hkc hnc hkf hnf hc1
  go_upto_region 14 with fail
  have Hd:=Lib.hid (H12.out.below (Below.refl _ _).drew)
  have He:=Lib.hid (show ExAt ((wr.heap.size,[.int .i64 0,.int .i64 0,.int .i64 0,.int .i64 0,.int .i64 0,.slice none 0 0])::[(Xf,[.int .i64 g.x,.int .i64 g.y,.int .i64 (W2:Int),.int .i64 (H2:Int),.int .i64 g.s,.slice none 0 0]),(Xc,[.int .i64 g.x,.int .i64 g.y,.int .i64 (W:Int),.int .i64 (H:Int),.int .i64 S2,.slice none 0 0])]) (fun V=>(IOps V∧FrOp V)∧ShsAt (some ⟨b,o,none⟩) ss V) wb ((wr.alloc (.cells #[.int .i64 0,.int .i64 0,.int .i64 0,.int .i64 0,.int .i64 0,.slice none 0 0] 58)).drew) from(H12.out.push [.int .i64 0,.int .i64 0,.int .i64 0,.int .i64 0,.int .i64 0,.slice none 0 0] 58).below (Below.refl _ _).drew)
  have hs1:Xc<wr.heap.size:=(H12.out.az.row _ (List.mem_of_getElem? (show([(Xf,[.int .i64 g.x,.int .i64 g.y,.int .i64 (W2:Int),.int .i64 (H2:Int),.int .i64 g.s,.slice none 0 0]),(Xc,[.int .i64 g.x,.int .i64 g.y,.int .i64 (W:Int),.int .i64 (H:Int),.int .i64 S2,.slice none 0 0])]:List (Nat×List Value))[1]?=some (Xc,[.int .i64 g.x,.int .i64 g.y,.int .i64 (W:Int),.int .i64 (H:Int),.int .i64 S2,.slice none 0 0]) from rfl))).sz
  have HBS:=Lib.hid H12.out.az.bw.size
  have f0:=H12.out.az.ce 1 0 rfl rfl
  have f1:=H12.out.az.ce 1 1 rfl rfl
  have f2:=H12.out.az.ce 1 2 rfl rfl
  have f3:=H12.out.az.ce 1 3 rfl rfl
  have f4:=H12.out.az.ce 1 4 rfl rfl
  have f5:=H12.out.az.ce 1 5 rfl rfl
  go_cut [9,10] from 47 to 202 (fun va vb wX=>∃(X9:Nat) (a2:Option Addr) (c2:Nat),va=.pointer (some ⟨X9,0,none⟩)∧vb=.int .i64 0∧ExAt ((X9,[.int .i64 g.x,.int .i64 g.y,.int .i64 (W:Int),.int .i64 (H:Int),.int .i64 S2,.slice a2 nc c2])::[(Xf,[.int .i64 g.x,.int .i64 g.y,.int .i64 (W2:Int),.int .i64 (H2:Int),.int .i64 g.s,.slice none 0 0]),(Xc,[.int .i64 g.x,.int .i64 g.y,.int .i64 (W:Int),.int .i64 (H:Int),.int .i64 S2,.slice none 0 0])]) (fun V=>(fun V=>(IOps V∧FrOp V)∧ShsAt (some ⟨b,o,none⟩) ss V) V∧InksAt a2 kc V) wb wX)
  case first=>as_aux_lemma=>
   go_region_with (first
    | (go_at_call 41;(with_reducible refine(KPC.out _ _ Hd.out.p.1 (HSA.out _ Hd.out.p.2)).mono ?_);rintro e wu2 ⟨⟨a2,c2,rfl,hk2⟩,hb⟩;have H3:=Lib.hid ((Hd.out.below hb).add hk2.at fun _ _ h=>h.below);clear hb hk2)
    | (go_at_call 41;(with_reducible refine(KPC.out _ _ He.out.p.1 (HSA.out _ He.out.p.2)).mono ?_);rintro e wu2 ⟨⟨a2,c2,rfl,hk2⟩,hb⟩;have H4:=Lib.hid (And.intro (He.out.below hb) (And.intro hk2 hb));clear hb hk2;have x0:=H4.out.1.az.ce 0 0 rfl rfl;have x1:=H4.out.1.az.ce 0 1 rfl rfl;have x2:=H4.out.1.az.ce 0 2 rfl rfl;have x3:=H4.out.1.az.ce 0 3 rfl rfl;have x4:=H4.out.1.az.ce 0 4 rfl rfl;have x5:=H4.out.1.az.ce 0 5 rfl rfl;have y0':=H4.out.1.az.cf 0 0 rfl rfl;have y1':=H4.out.1.az.cf 0 1 rfl rfl;have y2':=H4.out.1.az.cf 0 2 rfl rfl;have y3':=H4.out.1.az.cf 0 3 rfl rfl;have y4':=H4.out.1.az.cf 0 4 rfl rfl;have y5':=H4.out.1.az.cf 0 5 rfl rfl)
    | fail)
   all_goals first
    | (have _:=H3
       go_wp2_with fail
       go_meet
       exact⟨wu2.heap.size,a2,c2,rfl,rfl,H3.out.push [.int .i64 g.x,.int .i64 g.y,.int .i64 (W:Int),.int .i64 (H:Int),.int .i64 S2,.slice a2 nc c2] 58⟩)
    | (have _:=H4
       go_wp2_with fail
       go_meet
       obtain⟨h4,hk2,hb⟩:=H4.out
       have hbt:Below wr.heap.size wr wu2:=(((Below.refl wr.heap.size wr).alloc (Nat.le_refl _) _).drew).trans (hb.mono (by simp))
       exact⟨wr.heap.size,a2,c2,rfl,rfl,⟨h4.az.put6 HBS.out (fun z hz=>by have:=(H12.out.az.row z hz).sz;omega) _ _ _ _ _ _,⟨H12.out.st _ _ H12.out.p (aBT hbt (Nat.le_refl _) _ _ _ _ _ _),(hk2.put6 (by simp) _ _ _ _ _ _).at⟩,fun A C h hb=>⟨H12.out.st A C h.1 hb,h.2.below hb⟩⟩⟩)
  obtain⟨X9,a2,c2,rfl,rfl,h3⟩:=hcut
  have H13:=Lib.hid h3
  clear h3 Hd He H12 HBS hs1 f0 f1 f2 f3 f4 f5 KPC
  obtain⟨V1,hV1⟩:∃V,V=wc:=⟨_,rfl⟩
  rw[←hV1] at H13⊢
  clear hV1
  go_upto_region 15 with fail
  have Hd:=Lib.hid (H13.out.below (Below.refl _ _).drew)
  have He:=Lib.hid (show ExAt ((V1.heap.size,[.int .i64 0,.int .i64 0,.int .i64 0,.int .i64 0,.int .i64 0,.slice none 0 0])::((X9,[.int .i64 g.x,.int .i64 g.y,.int .i64 (W:Int),.int .i64 (H:Int),.int .i64 S2,.slice a2 nc c2])::[(Xf,[.int .i64 g.x,.int .i64 g.y,.int .i64 (W2:Int),.int .i64 (H2:Int),.int .i64 g.s,.slice none 0 0]),(Xc,[.int .i64 g.x,.int .i64 g.y,.int .i64 (W:Int),.int .i64 (H:Int),.int .i64 S2,.slice none 0 0])])) (fun V=>(fun V=>(IOps V∧FrOp V)∧ShsAt (some ⟨b,o,none⟩) ss V) V∧InksAt a2 kc V) wb ((V1.alloc (.cells #[.int .i64 0,.int .i64 0,.int .i64 0,.int .i64 0,.int .i64 0,.slice none 0 0] 58)).drew) from(H13.out.push [.int .i64 0,.int .i64 0,.int .i64 0,.int .i64 0,.int .i64 0,.slice none 0 0] 58).below (Below.refl _ _).drew)
  have hs1:Xf<V1.heap.size:=(H13.out.az.row _ (List.mem_of_getElem? (show(((X9,[.int .i64 g.x,.int .i64 g.y,.int .i64 (W:Int),.int .i64 (H:Int),.int .i64 S2,.slice a2 nc c2])::[(Xf,[.int .i64 g.x,.int .i64 g.y,.int .i64 (W2:Int),.int .i64 (H2:Int),.int .i64 g.s,.slice none 0 0]),(Xc,[.int .i64 g.x,.int .i64 g.y,.int .i64 (W:Int),.int .i64 (H:Int),.int .i64 S2,.slice none 0 0])]):List (Nat×List Value))[1]?=some (Xf,[.int .i64 g.x,.int .i64 g.y,.int .i64 (W2:Int),.int .i64 (H2:Int),.int .i64 g.s,.slice none 0 0]) from rfl))).sz
  have HBS:=Lib.hid H13.out.az.bw.size
  have f0:=H13.out.az.ce 1 0 rfl rfl
  have f1:=H13.out.az.ce 1 1 rfl rfl
  have f2:=H13.out.az.ce 1 2 rfl rfl
  have f3:=H13.out.az.ce 1 3 rfl rfl
  have f4:=H13.out.az.ce 1 4 rfl rfl
  have f5:=H13.out.az.ce 1 5 rfl rfl
  go_cut [11,12] from 47 to 202 (fun va vb wX=>∃(X11:Nat) (a3:Option Addr) (c3:Nat),va=.pointer (some ⟨X11,0,none⟩)∧vb=.int .i64 0∧ExAt ((X11,[.int .i64 g.x,.int .i64 g.y,.int .i64 (W2:Int),.int .i64 (H2:Int),.int .i64 g.s,.slice a3 nf c3])::((X9,[.int .i64 g.x,.int .i64 g.y,.int .i64 (W:Int),.int .i64 (H:Int),.int .i64 S2,.slice a2 nc c2])::[(Xf,[.int .i64 g.x,.int .i64 g.y,.int .i64 (W2:Int),.int .i64 (H2:Int),.int .i64 g.s,.slice none 0 0]),(Xc,[.int .i64 g.x,.int .i64 g.y,.int .i64 (W:Int),.int .i64 (H:Int),.int .i64 S2,.slice none 0 0])])) (fun V=>(fun V=>(fun V=>(IOps V∧FrOp V)∧ShsAt (some ⟨b,o,none⟩) ss V) V∧InksAt a2 kc V) V∧InksAt a3 kf V) wb wX)
  case first=>as_aux_lemma=>
   go_region_with (first
    | (go_at_call 41;(with_reducible refine(KPF.out _ _ Hd.out.p.1.1 (HSA.out _ Hd.out.p.1.2)).mono ?_);rintro e wu2 ⟨⟨a3,c3,rfl,hk2⟩,hb⟩;have H3:=Lib.hid ((Hd.out.below hb).add hk2.at fun _ _ h=>h.below);clear hb hk2)
    | (go_at_call 41;(with_reducible refine(KPF.out _ _ He.out.p.1.1 (HSA.out _ He.out.p.1.2)).mono ?_);rintro e wu2 ⟨⟨a3,c3,rfl,hk2⟩,hb⟩;have H4:=Lib.hid (And.intro (He.out.below hb) (And.intro hk2 hb));clear hb hk2;have x0:=H4.out.1.az.ce 0 0 rfl rfl;have x1:=H4.out.1.az.ce 0 1 rfl rfl;have x2:=H4.out.1.az.ce 0 2 rfl rfl;have x3:=H4.out.1.az.ce 0 3 rfl rfl;have x4:=H4.out.1.az.ce 0 4 rfl rfl;have x5:=H4.out.1.az.ce 0 5 rfl rfl;have y0':=H4.out.1.az.cf 0 0 rfl rfl;have y1':=H4.out.1.az.cf 0 1 rfl rfl;have y2':=H4.out.1.az.cf 0 2 rfl rfl;have y3':=H4.out.1.az.cf 0 3 rfl rfl;have y4':=H4.out.1.az.cf 0 4 rfl rfl;have y5':=H4.out.1.az.cf 0 5 rfl rfl)
    | fail)
   all_goals first
    | (have _:=H3
       go_wp2_with fail
       go_meet
       exact⟨wu2.heap.size,a3,c3,rfl,rfl,H3.out.push [.int .i64 g.x,.int .i64 g.y,.int .i64 (W2:Int),.int .i64 (H2:Int),.int .i64 g.s,.slice a3 nf c3] 58⟩)
    | (have _:=H4
       go_wp2_with fail
       go_meet
       obtain⟨h4,hk2,hb⟩:=H4.out
       have hbt:Below V1.heap.size V1 wu2:=(((Below.refl V1.heap.size V1).alloc (Nat.le_refl _) _).drew).trans (hb.mono (by simp))
       exact⟨V1.heap.size,a3,c3,rfl,rfl,⟨h4.az.put6 HBS.out (fun z hz=>by have:=(H13.out.az.row z hz).sz;omega) _ _ _ _ _ _,⟨H13.out.st _ _ H13.out.p (aBT hbt (Nat.le_refl _) _ _ _ _ _ _),(hk2.put6 (by simp) _ _ _ _ _ _).at⟩,fun A C h hb=>⟨H13.out.st A C h.1 hb,h.2.below hb⟩⟩⟩)
  obtain⟨X11,a3,c3,rfl,rfl,h3⟩:=hcut
  have H14:=Lib.hid h3
  clear h3 Hd He H13 HBS hs1 f0 f1 f2 f3 f4 f5 KPF i3 i4 i5 i6 i7 i8 i9 g1
  obtain⟨V2,hV2⟩:∃V,V=wc:=⟨_,rfl⟩
  rw[←hV2] at H14⊢
  clear hV2
  go_upto_region 16 with fail
  obtain⟨NC,hNC⟩:∃NC,NC=W*H:=⟨_,rfl⟩
  obtain⟨NF,hNF⟩:∃NF,NF=W2*H2:=⟨_,rfl⟩
  obtain⟨cl,hcl⟩:∃l,l=inkL (coaF f) (outL s):=⟨_,rfl⟩
  obtain⟨fl,hfl⟩:∃l,l=inkL (finF f) (outL s):=⟨_,rfl⟩
  have hd:=HDM.out
  have hNCb:1≤NC∧NC≤9:=by
   rw[hNC]
   exact⟨Nat.mul_pos hd.1.1 hd.2.1.1,Nat.mul_le_mul hd.1.2 hd.2.1.2⟩
  have hNFb:1≤NF∧NF≤36:=by
   rw[hNF,hd.2.2.1,hd.2.2.2]
   exact⟨Nat.mul_pos (by omega) (by omega),Nat.mul_le_mul (show 2*W≤6 by omega) (show 2*H≤6 by omega)⟩
  have hxC:npx (coaF f)=NC:=by rw[HFF.out.2.1,hNC];rfl
  have hxF:npx (finF f)=NF:=by rw[HFF.out.2.2.1,hNF];rfl
  have HCF:=Lib.hid (show((∃c,kc=[⟨c,cl⟩])∨(kc=[]∧cl=List.replicate NC 0))∧((∃c,kf=[⟨c,fl⟩])∨(kf=[]∧fl=List.replicate NF 0))∧cl.length=NC∧fl.length=NF∧(∀c∈fl,0≤c∧c≤4096) from by
   rw[HKE.out.1.1,HKE.out.2.1,hcl,hfl,←hxC,←hxF]
   exact⟨paint_cells HFF.out.1.1 HSO.out,paint_cells HFF.out.1.2 HSO.out,iB_ _ _,iB_ _ _,tM_ HFF.out.1.2 (jQ_ HSO.out)⟩)
  have HFN:=Lib.hid (show ∀k,k<NC→∃c c0 c1 c2 c3:Int,cl[k]?=some c∧fl[k/W*2*W2+k%W*2]?=some c0∧fl[k/W*2*W2+k%W*2+1]?=some c1∧fl[k/W*2*W2+k%W*2+W2]?=some c2∧fl[k/W*2*W2+k%W*2+W2+1]?=some c3∧(c=(c0+c1+c2+c3)/4∨c=(c0+c1+c2+c3)/4+1) from fun k hk=>by
   rw[hcl,hfl,hd.2.2.1]
   exact vT_ HFF.out.2.2.2.1 HFF.out.2.2.2.2.1 HFF.out.2.2.2.2.2 (outL s) (by rw[←hNC];exact hk))
  have HKN:=Lib.hid (And.intro HKE.out.1.2 HKE.out.2.2)
  have gC:IntKind.i64.wrap ((W:Int)*(H:Int))=(NC:Int):=by
   rw[show(W:Int)*(H:Int)=(NC:Int) by rw[hNC,Int.natCast_mul]]
   exact IntWalk.i64_in _ (by omega)
  have gF:IntKind.i64.wrap ((W2:Int)*(H2:Int))=(NF:Int):=by
   rw[show(W2:Int)*(H2:Int)=(NF:Int) by rw[hNF,Int.natCast_mul]]
   exact IntWalk.i64_in _ (by omega)
  clear hNC hNF hcl hfl hd hxC hxF HKE
  have q9:=H14.out.az.ce 1 5 rfl rfl
  have q11:=H14.out.az.ce 0 5 rfl rfl
  have z2:=H14.out.az.ce 3 2 rfl rfl
  have z3:=H14.out.az.ce 3 3 rfl rfl
  have x2:=H14.out.az.ce 2 2 rfl rfl
  have x3:=H14.out.az.ce 2 3 rfl rfl
  have n1:decide (1<nc)=false:=decide_eq_false (by omega)
  have n2:decide (1<nf)=false:=decide_eq_false (by omega)
  have n3:decide ((1:Int)<(nc:Int))=false:=decide_eq_false (by omega)
  have n4:decide ((1:Int)<(nf:Int))=false:=decide_eq_false (by omega)
  obtain⟨i0,hi0,hz0,hz1,hz2⟩:=info_parts qU_
  go_upto_region 19 with (first
   | (at_make;refine wpList_make_full _ rfl _ _ 77 rfl V2.heap.size 3 i0 (.int .i64 0) 1 Tryz.underlying77 hi0 hz0 hz1 .i64 .i64 _ _ NC rfl rfl rfl rfl (by rw[hz2];omega) (by unfold maxLen;omega) (Nat.le_refl _) ?_;intro V3 hown hgrow;have HZ3:=Lib.hid ((OsAt.nil (AzAt.start V2) 3 1).grown hown hgrow (.inr rfl));clear hown hgrow)
   | fail)
  have HB3:=Lib.hid HZ3.out.az.bw
  have H15:=Lib.hid (H14.out.below HB3.out)
  have HM1:=Lib.hid (show CsAt (some ⟨V2.heap.size,0,none⟩) (icC (List.replicate NC 0)) V3 from by
   have h:=CsAt.of_ar (HZ3.out.ar rfl)
   rw[icC_zeros] at h
   exact h)
  obtain⟨g1,hg1⟩:∃g,g=V2.heap.size:=⟨_,rfl⟩
  rw[←hg1] at HM1⊢
  clear HZ3 HB3 H14 hg1 q9 q11 z2 z3 x2 x3 n1 n2 n3 n4
  have x2:=H15.out.az.ce 2 2 rfl rfl
  have x3:=H15.out.az.ce 2 3 rfl rfl
  go_upto_region 20 with (first
   | (at_make;refine wpList_make_full _ rfl _ _ 77 rfl V3.heap.size 3 i0 (.int .i64 0) 1 Tryz.underlying77 hi0 hz0 hz1 .i64 .i64 _ _ NF rfl rfl rfl rfl (by rw[hz2];omega) (by unfold maxLen;omega) (Nat.le_refl _) ?_;intro V4 hown hgrow;have HZ4:=Lib.hid ((OsAt.nil (AzAt.start V3) 3 1).grown hown hgrow (.inr rfl));clear hown hgrow)
   | fail)
  have HB4:=Lib.hid HZ4.out.az.bw
  have H16:=Lib.hid (H15.out.below HB4.out)
  have HM3:=Lib.hid (HM1.out.below HB4.out)
  have HM2:=Lib.hid (show CsAt (some ⟨V3.heap.size,0,none⟩) (icC (List.replicate NF 0)) V4 from by
   have h:=CsAt.of_ar (HZ4.out.ar rfl)
   rw[icC_zeros] at h
   exact h)
  obtain⟨g2,hg2⟩:∃g,g=V3.heap.size:=⟨_,rfl⟩
  rw[←hg2] at HM2⊢
  clear HZ4 HB4 H15 HM1 hg2 x2 x3 hz0 hz1 hz2 hi0
  have q:=H16.out.az.ce 1 5 rfl rfl
  go_upto_if 106 with fail
  go_cut [13] from 47 to 202 (fun va wX=>∃(aC:Option Addr) (cC:Nat),va=.slice aC NC cC∧CsAt aC (icC cl) wX∧V4=wX)
  case first=>as_aux_lemma=>
   rcases HCF.out.1 with ⟨c,e⟩|⟨e,ez⟩
   ·have e1:nc=1:=by rw[HKN.out.1,e];rfl
    subst e1
    obtain⟨bb,oo,ca,cc,e2,hbb,r0,r1,hcs,_⟩:=H16.out.p.1.2.row 0 ⟨c,cl⟩ (by rw[e];rfl)
    subst e2
    simp only[Nat.zero_mul,Nat.add_zero] at r0 r1
    have HCS:=Lib.hid hcs
    have HLE:=Lib.hid (show(cl:List Int).length=NC from HCF.out.2.2.1)
    simp only[HLE.out] at r1
    clear hcs e
    go_wp2
    go_meet
    exact⟨_,_,rfl,HCS.out,rfl⟩
   ·have e1:nc=0:=by rw[HKN.out.1,e];rfl
    subst e1
    have HMZ:=Lib.hid (show CsAt (some ⟨g1,0,none⟩) (icC cl) V4 from by rw[ez];exact HM3.out)
    clear e ez
    go_wp2
    go_meet
    exact⟨_,_,rfl,HMZ.out,rfl⟩
  obtain⟨aC,cC,rfl,hcs,rfl⟩:=hcut
  have HCC:=Lib.hid hcs
  clear hcs HM3 q
  have q:=H16.out.az.ce 0 5 rfl rfl
  go_upto_if 115 with fail
  go_cut [14] from 47 to 202 (fun va wX=>∃(aC:Option Addr) (cC:Nat),va=.slice aC NF cC∧CsAt aC (icC fl) wX∧V4=wX)
  case first=>as_aux_lemma=>
   rcases HCF.out.2.1 with ⟨c,e⟩|⟨e,ez⟩
   ·have e1:nf=1:=by rw[HKN.out.2,e];rfl
    subst e1
    obtain⟨bb,oo,ca,cc,e2,hbb,r0,r1,hcs,_⟩:=H16.out.p.2.row 0 ⟨c,fl⟩ (by rw[e];rfl)
    subst e2
    simp only[Nat.zero_mul,Nat.add_zero] at r0 r1
    have HCS:=Lib.hid hcs
    have HLE:=Lib.hid (show(fl:List Int).length=NF from HCF.out.2.2.2.1)
    simp only[HLE.out] at r1
    clear hcs e
    go_wp2
    go_meet
    exact⟨_,_,rfl,HCS.out,rfl⟩
   ·have e1:nf=0:=by rw[HKN.out.2,e];rfl
    subst e1
    have HMZ:=Lib.hid (show CsAt (some ⟨g2,0,none⟩) (icC fl) V4 from by rw[ez];exact HM2.out)
    clear e ez
    go_wp2
    go_meet
    exact⟨_,_,rfl,HMZ.out,rfl⟩
  obtain⟨aF,cF,rfl,hcs,rfl⟩:=hcut
  have HCG:=Lib.hid hcs
  have H17:=Lib.hid ((H16.out.sub (L':=[(Xf,[.int .i64 g.x,.int .i64 g.y,.int .i64 (W2:Int),.int .i64 (H2:Int),.int .i64 g.s,.slice none 0 0]),(Xc,[.int .i64 g.x,.int .i64 g.y,.int .i64 (W:Int),.int .i64 (H:Int),.int .i64 S2,.slice none 0 0])]) (fun z hz=>by simp only[List.mem_cons,List.not_mem_nil,or_false] at hz;rcases hz with rfl|rfl <;> simp)).weak (Q:=(fun V=>(IOps V∧FrOp V)∧ShsAt (some ⟨b,o,none⟩) ss V)) (fun _ h=>h.1.1) (fun A C h hb=>⟨⟨h.1.1.below hb,h.1.2.below hb⟩,h.2.below hb⟩))
  clear hcs HM2 H16 HKN q
  have z2:=H17.out.az.ce 1 2 rfl rfl
  have z3:=H17.out.az.ce 1 3 rfl rfl
  have x2:=H17.out.az.ce 0 2 rfl rfl
  have x3:=H17.out.az.ce 0 3 rfl rfl
  go_wp2
  clear z2 z3 x2 x3
  go_loopw [15] (fun v15 wr=>∃k:Nat,k≤NC∧v15=.int .i64 (k:Int)∧ExAt [(Xf,[.int .i64 g.x,.int .i64 g.y,.int .i64 (W2:Int),.int .i64 (H2:Int),.int .i64 g.s,.slice none 0 0]),(Xc,[.int .i64 g.x,.int .i64 g.y,.int .i64 (W:Int),.int .i64 (H:Int),.int .i64 S2,.slice none 0 0])] (fun V=>(IOps V∧FrOp V)∧ShsAt (some ⟨b,o,none⟩) ss V) wb wr∧CsAt aC (icC cl) wr∧CsAt aF (icC fl) wr) (fun v15 _=>NC-(intOf v15).toNat)
  case atStart=>exact⟨0,Nat.zero_le _,rfl,H17.out,HCC.out,HCG.out⟩
  case round=>
   obtain⟨k,hk,rfl,ho,hc5,hc6⟩:=hrel
   have H18:=Lib.hid ho
   have HCC:=Lib.hid hc5
   have HCG:=Lib.hid hc6
   clear ho hc5 hc6 H17
   by_cases hkn:k<NC
   case neg=>
    obtain rfl:k=NC:=by omega
    go_wp2
    exact⟨⟨i+1,by omega,by go_num,H18.out⟩,by simp only[intOf];omega⟩
   obtain⟨c,c0,c1,c2,c3,rc,r0,r1,r2,r3,hc⟩:=HFN.out k hkn
   have HC:=Lib.hid hc
   clear hc
   have b0:=HCF.out.2.2.2.2 c0 (List.mem_of_getElem? r0)
   have b1:=HCF.out.2.2.2.2 c1 (List.mem_of_getElem? r1)
   have b2:=HCF.out.2.2.2.2 c2 (List.mem_of_getElem? r2)
   have b3:=HCF.out.2.2.2.2 c3 (List.mem_of_getElem? r3)
   have hlen:=(List.getElem?_eq_some_iff.1 r3).1
   rw[HCF.out.2.2.2.1] at hlen
   have hd:=HDM.out
   obtain⟨p,hp⟩:∃p,p=k%W:=⟨_,rfl⟩
   obtain⟨q,hq⟩:∃q,q=k/W:=⟨_,rfl⟩
   obtain⟨q2,hq2⟩:∃x,x=q*2:=⟨_,rfl⟩
   obtain⟨p2,hp2⟩:∃x,x=p*2:=⟨_,rfl⟩
   obtain⟨qa,hqa⟩:∃x,x=q2*W2:=⟨_,rfl⟩
   obtain⟨A,hA⟩:∃x,x=qa+p2:=⟨_,rfl⟩
   rw[←hp,←hq,←hq2,←hp2,←hqa,←hA] at r0 r1 r2 r3 hlen
   obtain⟨A1,hA1⟩:∃x,x=A+1:=⟨_,rfl⟩
   obtain⟨A2,hA2⟩:∃x,x=A+W2:=⟨_,rfl⟩
   obtain⟨A3,hA3⟩:∃x,x=A2+1:=⟨_,rfl⟩
   rw[←hA1] at r1
   rw[←hA2] at r2 r3 hlen
   rw[←hA3] at r3 hlen
   have hpk:p<W:=by rw[hp];exact Nat.mod_lt _ (by omega)
   have hqk:q≤k:=by rw[hq];exact Nat.div_le_self _ _
   have hquo:Int.tdiv (k:Int) (W:Int)=(q:Int):=by rw[hq];rfl
   have hrem:Int.tmod (k:Int) (W:Int)=(p:Int):=by rw[hp];rfl
   have hw0:¬(W:Int)=0:=by omega
   have hw1:¬W=0:=by omega
   have g5:IntKind.i64.wrap (q:Int)=(q:Int):=IntWalk.i64_in _ (by omega)
   have g6:IntKind.i64.wrap (p:Int)=(p:Int):=IntWalk.i64_in _ (by omega)
   have g7:IntKind.i64.wrap ((q:Int)*2)=(q2:Int):=by rw[IntWalk.i64_in _ (by omega)];omega
   have g8:IntKind.i64.wrap ((p:Int)*2)=(p2:Int):=by rw[IntWalk.i64_in _ (by omega)];omega
   have g9:IntKind.i64.wrap ((q2:Int)*(W2:Int))=(qa:Int):=by
    rw[show(q2:Int)*(W2:Int)=(qa:Int) by rw[hqa,Int.natCast_mul]]
    exact IntWalk.i64_in _ (by omega)
   have g10:IntKind.i64.wrap ((qa:Int)+(p2:Int))=(A:Int):=by rw[IntWalk.i64_in _ (by omega)];omega
   have g11:IntKind.i64.wrap ((A:Int)+1)=(A1:Int):=by rw[IntWalk.i64_in _ (by omega)];omega
   have g12:IntKind.i64.wrap ((A:Int)+(W2:Int))=(A2:Int):=by rw[IntWalk.i64_in _ (by omega)];omega
   have g13:IntKind.i64.wrap ((A2:Int)+1)=(A3:Int):=by rw[IntWalk.i64_in _ (by omega)];omega
   have s1:IntKind.i64.wrap (c0+c1)=c0+c1:=IntWalk.i64_in _ (by omega)
   have s2:IntKind.i64.wrap (c0+c1+c2)=c0+c1+c2:=IntWalk.i64_in _ (by omega)
   have s3:IntKind.i64.wrap (c0+c1+c2+c3)=c0+c1+c2+c3:=IntWalk.i64_in _ (by omega)
   have hA0:A<NF∧A1<NF∧A2<NF∧A3<NF:=by omega
   have j1:(0:Int)≤(A:Int)∧(0:Int)≤(A1:Int)∧(0:Int)≤(A2:Int)∧(0:Int)≤(A3:Int):=by omega
   obtain⟨j2,j3,j4,j5⟩:=j1
   have j6:(A:Int)<(NF:Int):=by omega
   have j7:(A1:Int)<(NF:Int):=by omega
   have j8:(A2:Int)<(NF:Int):=by omega
   have j9:(A3:Int)<(NF:Int):=by omega
   have k1:(0:Int)≤(k:Int):=by omega
   have k2:(k:Int)<(NC:Int):=by omega
   clear hp hq hq2 hp2 hqa hA hA1 hA2 hA3 hlen hpk hqk hd hA0
   obtain⟨bf,of,ef,hbf,hcf⟩:=HCG.out.some (by rw[hC_,HCF.out.2.2.2.1];omega)
   obtain⟨bc,oc,ec,hbc,hcc⟩:=HCC.out.some (by rw[hC_,HCF.out.2.2.1];omega)
   subst ef ec
   have t0:=hcf _ _ (fZ_ r0)
   have t1:=hcf _ _ (fZ_ r1)
   have t2:=hcf _ _ (fZ_ r2)
   have t3:=hcf _ _ (fZ_ r3)
   have tc:=hcc _ _ (fZ_ rc)
   clear hcf hcc r0 r1 r2 r3 rc
   go_upto_region 29 with fail
   have z2:=cell_regrown (H18.out.az.ce 1 2 rfl rfl)
   have x2:=cell_regrown (H18.out.az.ce 0 2 rfl rfl)
   refine wp_region_quiet_below (by kernel_rfl) (by kernel_rfl) ?_
   repeat (go_big_quiet_step (fail))
   refine wpQuiet_nil ?_
   intro W9 hw2
   have hb9:Below wr.heap.size wr W9:=by obtain⟨⟨dq,osq⟩,hw7⟩:=hw2;rw[hw7];exact below_regrown wr dq osq
   have u0':=cell_regrown ((hb9.cell (p:=⟨bf,of+A,none⟩) hbf).trans t0)
   have u1':=cell_regrown ((hb9.cell (p:=⟨bf,of+A1,none⟩) hbf).trans t1)
   have u2':=cell_regrown ((hb9.cell (p:=⟨bf,of+A2,none⟩) hbf).trans t2)
   have u3':=cell_regrown ((hb9.cell (p:=⟨bf,of+A3,none⟩) hbf).trans t3)
   have tc9:=(hb9.cell (p:=⟨bc,oc+k,none⟩) hbc).trans tc
   have hbc9:=Nat.lt_of_lt_of_le hbc hb9.size
   have H19:=Lib.hid (H18.out.below hb9)
   have HC9:=Lib.hid (And.intro (HCC.out.below hb9) (HCG.out.below hb9))
   clear hw2 hb9 t0 t1 t2 t3 tc z2 x2 H18 HCC HCG g5 g6 g7 g8 g9 g10 hbf hbc
   go_upto_region 30 with fail
   have x2:=cell_regrown (H19.out.az.ce 0 2 rfl rfl)
   refine wp_region_quiet_below (by kernel_rfl) (by kernel_rfl) ?_
   repeat (go_big_quiet_step (fail))
   refine wpQuiet_nil ?_
   intro W8 hw2
   have hb8:Below W9.heap.size W9 W8:=by obtain⟨⟨dq,osq⟩,hw7⟩:=hw2;rw[hw7];exact below_regrown W9 dq osq
   have tc8:=(hb8.cell (p:=⟨bc,oc+k,none⟩) hbc9).trans tc9
   have H20:=Lib.hid (H19.out.below hb8)
   have HC8:=Lib.hid (And.intro (HC9.out.1.below hb8) (HC9.out.2.below hb8))
   clear hw2 hb8 u0' u1' u2' u3' tc9 x2 H19 HC9 g11 g12 g13 s1 s2 s3
   have hsm:0≤c0+c1+c2+c3∧c0+c1+c2+c3≤20000:=by omega
   generalize c0+c1+c2+c3=sm at *
   obtain⟨d4,hd4⟩:∃d,d=sm/4:=⟨_,rfl⟩
   have hq4:Int.tdiv sm 4=d4:=by rw[hd4];exact Int.tdiv_eq_ediv_of_nonneg hsm.1
   have HC2:=Lib.hid (show c=d4∨c=d4+1 by rw[hd4];exact HC.out)
   have v1:IntKind.i64.wrap d4=d4:=IntWalk.i64_in _ (by omega)
   have v2:IntKind.i64.wrap (d4+1)=d4+1:=IntWalk.i64_in _ (by omega)
   clear hd4 HC hsm b0 b1 b2 b3
   by_cases hcd:c=d4
   ·have w1:(c != d4)=false:=by simpa using hcd
    clear hcd
    go_wp2
    exact⟨⟨k+1,by omega,by go_num,H20.out,HC8.out.1,HC8.out.2⟩,by simp only[intOf];omega⟩
   ·have w1:(c != d4)=true:=by simpa using hcd
    have w2:(c != d4+1)=false:=by
     rcases HC2.out with h|h
     ·exact absurd h hcd
     ·simpa using h
    clear hcd
    go_wp2
    exact⟨⟨k+1,by omega,by go_num,H20.out,HC8.out.1,HC8.out.2⟩,by simp only[intOf];omega⟩
end Go.Proofs.YtlikmmpmnaaifaaGreatDoor
