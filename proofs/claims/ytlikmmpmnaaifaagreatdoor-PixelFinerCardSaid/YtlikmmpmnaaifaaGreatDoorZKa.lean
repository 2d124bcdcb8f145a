/- - -/
import Derived.Lib.QuietBelow
import Derived.Test.YtlikmmpmnaaifaaGreatDoorZYj
set_option maxHeartbeats 40000000
set_option maxRecDepth 1000000
open Go.Lib (hid)
namespace Go.Proofs.YtlikmmpmnaaifaaGreatDoor
open Go.RowKit Go.Shelf Go.Sort
attribute [local go_sem] Oper.semAt_some
def boxS (c:Int) (r:Rc):Sh:=⟨c,2,r,⟨0,0⟩,⟨0,0⟩,⟨#[]⟩⟩
theorem aEN (f:Fr) (s:Sh):aF_ f [s]=if 0<sumL (inkL f (outL s)) then [⟨s.code,inkL f (outL s)⟩] else []:=by
 unfold aF_
 rw[List.filterMap_cons]
 unfold inkO
 split <;> simp_all
theorem rN_ (s:Sh):ascS [s]:=by
 intro i a b _ hb
 simp at hb
theorem aBZ {f:Fr} (hf:FrOk f) {K:Int} (hK:K*(f.s*f.s)=4096) {r:Rc} (h0:f.x≤r.x) (h1:f.y≤r.y) (hw:0≤r.w) (hh:0≤r.h) (h2:r.x+r.w≤f.x+f.w*f.s) (h3:r.y+r.h≤f.y+f.h*f.s) :
  okSh (boxS 7 r)=true∧fW_ f (aF_ f [boxS 7 r]) 7=r.w*r.h*4096/(f.s*f.s)∧((aF_ f [boxS 7 r]).length=1↔0<r.w*r.h):=by
 have a1:=hf.x1;have a2:=hf.x2;have a3:=hf.y1;have a4:=hf.y2;have a5:=hf.s1
 have ho:okSh (boxS 7 r)=true:=by
  unfold okSh
  have:vRc r=true:=aV_.2 (by omega)
  show(jI_ 7&&vRc r&&_)=true
  rw[this]
  rfl
 have hs:=aID hf hK (x0:=r.x) (y0:=r.y) (x1:=r.x+r.w) (y1:=r.y+r.h) h0 h1 (by omega) (by omega) h2 h3
 have e:sumL (inkL f (outL (boxS 7 r)))=K*(r.w*r.h):=by
  rw[fK_ (s:=boxS 7 r) rfl]
  show sumL (inkL f (aO_ (boxL r.x r.y (r.x+r.w) (r.y+r.h))))=_
  rw[hs,show r.x+r.w-r.x=r.w by omega,show r.y+r.h-r.y=r.h by omega]
 have hss:=Int.mul_pos (show 0<f.s by omega) (show 0<f.s by omega)
 have hKp:0<K:=by
  refine Int.not_le.1 fun k=>?_
  have:=Int.mul_le_mul_of_nonneg_right k (show 0≤f.s*f.s by omega)
  omega
 have P:=gZ_ hf (ss:=[boxS 7 r]) (by simp) (fun s hs=>by rw[List.mem_singleton.1 hs];exact ho) (rN_ _)
 refine⟨ho,?_,?_⟩
 ·unfold fW_
  rw[bO_.2 P,if_pos rfl]
  have ht:oI_ (aF_ f [boxS 7 r]) 7=sumL (inkL f (outL (boxS 7 r))):=lZ_ hf (rN_ (boxS 7 r)) (s:=boxS 7 r) (by simp) ho
  rw[ht,e,←hK,show r.w*r.h*(K*(f.s*f.s))=K*(r.w*r.h)*(f.s*f.s) by grind,Int.mul_ediv_cancel _ (by omega)]
 ·rw[aEN,e]
  have hq:=Int.mul_nonneg hw hh
  by_cases h:0<r.w*r.h
  ·have:=Int.mul_pos hKp h
   rw[if_pos this]
   exact⟨fun _=>h,fun _=>rfl⟩
  ·have h0:r.w*r.h=0:=by omega
   rw[if_neg (by rw[h0];simp),h0]
   exact⟨fun k=>by simp at k,fun k=>absurd k (by decide)⟩
theorem aEC {k:Nat} (h:k<5):∃K:Int,K*((2:Int)^k*(2:Int)^k)=4096∧1≤(2:Int)^k∧(2:Int)^k≤16:=by
 match k,h with
 | 0,_=>exact⟨4096,by decide,by decide,by decide⟩
 | 1,_=>exact⟨1024,by decide,by decide,by decide⟩
 | 2,_=>exact⟨256,by decide,by decide,by decide⟩
 | 3,_=>exact⟨64,by decide,by decide,by decide⟩
 | 4,_=>exact⟨16,by decide,by decide,by decide⟩
theorem PixelAreas_law (x0 x1 x2 x3 y0 y1 y2 y3 y4 pw:Int) (hx0:inI x0) (hx1:inI x1) (hx2:inI x2) (hx3:inI x3) (hy0:inI y0) (hy1:inI y1) (hy2:inI y2) (hy3:inI y3) (hy4:inI y4) (hpw:inI pw) (w:World) (hq:IOps w∧FrOp w) :
  Calls Tryz.prog 4 #[.agg #[.int .i64 x0,.int .i64 x1,.int .i64 x2,.int .i64 x3],.agg #[.int .i64 y0,.int .i64 y1,.int .i64 y2,.int .i64 y3,.int .i64 y4],.int .i64 pw] w fun e w'=>e=.returned (.bool true)∧Below w.heap.size w w':=by
 have hmx:Tryz.prog.follows .mixedOrders=true:=by kernel_rfl
 obtain⟨y,hy,e0,e1,e2,e3,e4⟩:∃y:Nat→Int,(∀i,inI (y i))∧y0=y 0∧y1=y 1∧y2=y 2∧y3=y 3∧y4=y 4:=⟨fun i=>match i with|0=>y0|1=>y1|2=>y2|3=>y3|_=>y4,fun i=>by match i with|0=>exact hy0|1=>exact hy1|2=>exact hy2|3=>exact hy3|_+4=>exact hy4,rfl,rfl,rfl,rfl,rfl⟩
 have HX:=hid (show ExAt [] (fun V=>IOps V∧FrOp V) w w from⟨AzAt.start w,hq,fun A C h hb=>⟨h.1.below hb,h.2.below hb⟩⟩)
 have H0:=hid (show ExAt [(w.heap.size+1,[.int .i64 y0,.int .i64 y1,.int .i64 y2,.int .i64 y3,.int .i64 y4]),(w.heap.size,[.int .i64 x0,.int .i64 x1,.int .i64 x2,.int .i64 x3])] (fun V=>IOps V∧FrOp V) w ((w.alloc (.cells #[.int .i64 x0,.int .i64 x1,.int .i64 x2,.int .i64 x3] 23)).alloc (.cells #[.int .i64 y0,.int .i64 y1,.int .i64 y2,.int .i64 y3,.int .i64 y4] 55)) from by
  have hp:=(HX.out.push [.int .i64 x0,.int .i64 x1,.int .i64 x2,.int .i64 x3] 23).push [.int .i64 y0,.int .i64 y1,.int .i64 y2,.int .i64 y3,.int .i64 y4] 55
  simp only[World.size_alloc] at hp
  exact hp)
 have KS:=hid (show ∀W:World,IOps W∧FrOp W→Calls Tryz.prog 38 #[] W fun e W'=>e=.returned (.bool true)∧Below W.heap.size W W' from fun W h=>xT_ (hid h))
 have KF:=hid (show ∀W:World,Calls Tryz.prog 39 #[.agg #[.int .i64 y0,.int .i64 y1,.int .i64 y2,.int .i64 y3,.int .i64 y4]] W fun e W'=>e=.returned (.agg #[.int .i64 (frN y).x,.int .i64 (frN y).y,.int .i64 (frN y).w,.int .i64 (frN y).h,.int .i64 (frN y).s,.slice none 0 0])∧Below W.heap.size W W' from fun W=>by rw[e0,e1,e2,e3,e4];exact tT_ hy W)
 have hfo:=aGF y
 have hfw:(frN y).w≤6∧(frN y).h≤6∧(frN y).x≤129∧(frN y).y≤129:=by
  have h0:=aJ_ (y 0) (n:=40) (by decide)
  have h1:=aJ_ (y 1) (n:=40) (by decide)
  have h2:=aJ_ (y 2) (n:=6) (by decide)
  have h3:=aJ_ (y 3) (n:=6) (by decide)
  unfold frN
  simp only
  omega
 generalize frN y=g at KF hfo hfw
 have b1:=hfo.w1;have b2:=hfo.h1;have b3:=hfo.x1;have b4:=hfo.y1
 have KK:=hid (show ∀W:World,Calls Tryz.prog 40 #[.int .i64 pw,.int .i64 5] W fun e W'=>e=.returned (.int .i64 (aK_ pw 5:Nat))∧Below W.heap.size W W' from fun W=>fH_ pw 5 hpw.1 hpw.2 (by decide) (by decide) W)
 have hk:=aJ_ pw (n:=5) (by decide)
 obtain⟨K,hK,hs1,hs2⟩:=aEC hk
 generalize aK_ pw 5=k at KK hk hK hs1 hs2
 obtain⟨sc,hsc⟩:∃sc:Int,sc=(2:Int)^k:=⟨_,rfl⟩
 rw[←hsc] at hK hs1 hs2
 have HP1:=hid (show wrap64 ((2:Int)^k)=sc by
  rw[←hsc]
  clear hsc hk KK
  exact IntWalk.wrap64_in sc ⟨by omega,by omega⟩)
 clear hsc
 have q1:=Int.mul_pos (show 0<g.w by omega) (show 0<sc by omega)
 have q2:=Int.mul_pos (show 0<g.h by omega) (show 0<sc by omega)
 have q3:=Int.mul_le_mul hfw.1 hs2 (by omega) (by omega)
 have q4:=Int.mul_le_mul hfw.2.1 hs2 (by omega) (by omega)
 obtain⟨Wn,hWn⟩:∃Wn:Nat,(Wn:Int)=g.w*sc:=⟨(g.w*sc).toNat,by omega⟩
 obtain⟨Hn,hHn⟩:∃Hn:Nat,(Hn:Int)=g.h*sc:=⟨(g.h*sc).toNat,by omega⟩
 have p2:wrap64 (g.w*sc)=(Wn:Int):=by rw[hWn];exact IntWalk.wrap64_in _ ⟨by omega,by omega⟩
 have p3:wrap64 (g.h*sc)=(Hn:Int):=by rw[hHn];exact IntWalk.wrap64_in _ ⟨by omega,by omega⟩
 have w1:1≤Wn:=by omega
 have w2:Wn≤96:=by omega
 have w3:1≤Hn:=by omega
 have w4:Hn≤96:=by omega
 have KX0:=hid (show ∀W:World,Calls Tryz.prog 40 #[.int .i64 x0,.int .i64 (Wn:Int)] W fun e W'=>e=.returned (.int .i64 (aK_ x0 Wn:Nat))∧Below W.heap.size W W' from fun W=>fH_ x0 Wn hx0.1 hx0.2 (by omega) (by omega) W)
 have KX1:=hid (show ∀W:World,Calls Tryz.prog 40 #[.int .i64 x1,.int .i64 (Hn:Int)] W fun e W'=>e=.returned (.int .i64 (aK_ x1 Hn:Nat))∧Below W.heap.size W W' from fun W=>fH_ x1 Hn hx1.1 hx1.2 (by omega) (by omega) W)
 have hp0:=aJ_ x0 (n:=Wn) (by omega)
 have hp1:=aJ_ x1 (n:=Hn) (by omega)
 generalize aK_ x0 Wn=a0 at KX0 hp0
 generalize aK_ x1 Hn=a1 at KX1 hp1
 have KX2:=hid (show ∀W:World,Calls Tryz.prog 40 #[.int .i64 x2,.int .i64 (g.x+(Wn:Int)-(g.x+(a0:Int))+1)] W fun e W'=>e=.returned (.int .i64 (aK_ x2 (Wn-a0+1):Nat))∧Below W.heap.size W W' from fun W=>by
  rw[show g.x+(Wn:Int)-(g.x+(a0:Int))+1=((Wn-a0+1:Nat):Int) by omega]
  exact fH_ x2 _ hx2.1 hx2.2 (by omega) (by omega) W)
 have KX3:=hid (show ∀W:World,Calls Tryz.prog 40 #[.int .i64 x3,.int .i64 (g.y+(Hn:Int)-(g.y+(a1:Int))+1)] W fun e W'=>e=.returned (.int .i64 (aK_ x3 (Hn-a1+1):Nat))∧Below W.heap.size W W' from fun W=>by
  rw[show g.y+(Hn:Int)-(g.y+(a1:Int))+1=((Hn-a1+1:Nat):Int) by omega]
  exact fH_ x3 _ hx3.1 hx3.2 (by omega) (by omega) W)
 have hp2:=aJ_ x2 (n:=Wn-a0+1) (by omega)
 have hp3:=aJ_ x3 (n:=Hn-a1+1) (by omega)
 generalize aK_ x2 (Wn-a0+1)=a2 at KX2 hp2
 generalize aK_ x3 (Hn-a1+1)=a3 at KX3 hp3
 have hfo2:FrOk ⟨g.x,g.y,g.w,g.h,sc⟩:=by
  have m:=Int.mul_le_mul hfw.1 hfw.2.1 (by omega) (by omega)
  constructor <;> simp only <;> omega
 obtain⟨hoS,hTot,hLen⟩:=aBZ hfo2 (K:=K) hK (r:=⟨g.x+(a0:Int),g.y+(a1:Int),a2,a3⟩) (by simp only;omega) (by simp only;omega) (by simp only;omega) (by simp only;omega) (by simp only;omega) (by simp only;omega)
 have HPL:=hid (And.intro hoS (And.intro hTot hLen))
 have HFO:=hid hfo2
 have g1:IntKind.i64.wrap (g.x+(a0:Int))=g.x+(a0:Int):=IntWalk.i64_in _ (by omega)
 have g2:IntKind.i64.wrap (g.y+(a1:Int))=g.y+(a1:Int):=IntWalk.i64_in _ (by omega)
 have HK:=hid hK
 have HE:=hid (And.intro e0 (And.intro e1 (And.intro e2 (And.intro e3 e4))))
 have p1:=HP1.out
 clear hK e0 e1 e2 e3 e4 hWn hHn hoS hTot hLen hfo2 hfo q1 q2 q3 q4
 go_enter Tryz.func4,Tryz.ntmps4
 go_wp2_with (first
  | (go_at_call 38;(with_reducible refine(KS.out _ H0.out.p).mono ?_);rintro e u1 ⟨rfl,hb⟩;have H1:=hid (H0.out.below hb);clear hb;have z0:=H1.out.az.ce 0 0 rfl rfl;have z1:=H1.out.az.ce 0 1 rfl rfl;have z2:=H1.out.az.ce 0 2 rfl rfl;have z3:=H1.out.az.ce 0 3 rfl rfl;have z4:=H1.out.az.ce 0 4 rfl rfl)
  | (go_at_call 39;(with_reducible refine(KF.out _).mono ?_);rintro e u2 ⟨rfl,hb⟩;have HU2:=hid (show w.heap.size+2≤u2.heap.size from by have h:=((H1.out.below hb).az.row _ (show(w.heap.size+1,[.int .i64 y0,.int .i64 y1,.int .i64 y2,.int .i64 y3,.int .i64 y4])∈_ by simp)).sz;simp only at h;omega);have H2:=hid ((H1.out.below hb).push [.int .i64 g.x,.int .i64 g.y,.int .i64 g.w,.int .i64 g.h,.int .i64 g.s,.slice none 0 0] 58);clear hb z0 z1 z2 z3 z4)
  | (go_at_call 40;(with_reducible refine(KK.out _).mono ?_);rintro e u3 ⟨rfl,hb⟩;have H3:=hid (H2.out.below hb);clear hb;have z0:=H3.out.az.ce 0 0 rfl rfl;have z1:=H3.out.az.ce 0 1 rfl rfl;have z2:=H3.out.az.ce 0 2 rfl rfl;have z3:=H3.out.az.ce 0 3 rfl rfl;have z4:=H3.out.az.ce 0 4 rfl rfl;have y4':=H3.out.az.cf 0 4 rfl rfl)
  | fail)
 have H4:=hid (H3.out.set hq (by have:=HU2.out;omega) (by intro z hz;have:=HU2.out;simp only[List.mem_cons,List.not_mem_nil,or_false] at hz;rcases hz with rfl|rfl <;> simp only <;> omega) (i:=4) rfl (.int .i64 sc))
 obtain⟨W4,hW4⟩:∃W,W=u3.setCell ⟨u2.heap.size,4,none⟩ (.int .i64 sc):=⟨_,rfl⟩
 obtain⟨X7,hX7⟩:∃X,X=u2.heap.size:=⟨_,rfl⟩
 have HX7:=hid (show w.heap.size+2≤X7 by rw[hX7];exact HU2.out)
 rw[←hX7] at H4 hW4⊢
 rw[←hW4] at H4⊢
 try simp only[p1,p2,p3]
 clear hW4 hX7 z0 z1 z2 z3 z4 y4' p1 p2 p3 HP1 hk
 refine bX_ (A:=?fr) 15 10 [.int .i64 0,.int .i64 0,.int .i64 0,.int .i64 0] 29 hmx (by kernel_rfl) ⟨_,rfl,rfl,rfl,fun b W=>?al1⟩ ?h ?ht
 case al1=>simp[go_sem]
 case h=>
  intro U hU
  have hp:=H4.out.below hU
  have z0:=cell_regrown (hp.az.ce 0 0 rfl rfl)
  have z1:=cell_regrown (hp.az.ce 0 1 rfl rfl)
  have v0:=cell_regrown (hp.az.ce 2 0 rfl rfl)
  have v1:=cell_regrown (hp.az.ce 2 1 rfl rfl)
  have c0:=fun d os=>Calls.regrown_of (d:=d) (os:=os) (KX0.out (grow (redrawn U d) os))
  have c1:=fun d os=>Calls.regrown_of (d:=d) (os:=os) (KX1.out (grow (redrawn U d) os))
  clear hp
  simp only[List.take_succ_cons,List.take_zero]
  repeat (go_big_quiet_step (with_reducible first|exact c0 _ _|exact c1 _ _))
  refine wpQuiet_nil ?_
  rfl
 case ht=>
  intro B W hW hB cB
  have HXW:=hid (show X7<W4.heap.size∧w.heap.size+2≤X7 from⟨(H4.out.az.row (X7,[.int .i64 g.x,.int .i64 g.y,.int .i64 g.w,.int .i64 g.h,.int .i64 sc,.slice none 0 0]) (by simp)).sz,HX7.out⟩)
  have hBX:W4.heap.size≤B:=hB
  have hBw:w.heap.size≤B:=by have:=HXW.out;omega
  have H5:=hid ((H4.out.below hW).cons cB)
  clear hW cB hB H4
  have t0:=H5.out.az.ce 0 0 rfl rfl
  have t1:=H5.out.az.ce 0 1 rfl rfl
  have t2:=H5.out.az.ce 0 2 rfl rfl
  have t3:=H5.out.az.ce 0 3 rfl rfl
  have s0:=H5.out.az.cf 0 0 rfl rfl
  have s1:=H5.out.az.cf 0 1 rfl rfl
  have s2:=H5.out.az.cf 0 2 rfl rfl
  have s3:=H5.out.az.cf 0 3 rfl rfl
  simp only[List.drop_succ_cons,List.drop_zero]
  go_upto_region 8 with fail
  have H6:=hid ((((H5.out.set hq hBw (by intro z hz;have:=hBX;have:=HXW.out;simp only[List.mem_cons,List.not_mem_nil,or_false] at hz;rcases hz with rfl|rfl|rfl <;> simp only <;> omega) (i:=0) rfl (.int .i64 (g.x+(a0:Int)))).set hq hBw (by intro z hz;have:=hBX;have:=HXW.out;simp only[List.mem_cons,List.not_mem_nil,or_false] at hz;rcases hz with rfl|rfl|rfl <;> simp only <;> omega) (i:=1) rfl (.int .i64 (g.y+(a1:Int)))).set hq hBw (by intro z hz;have:=hBX;have:=HXW.out;simp only[List.mem_cons,List.not_mem_nil,or_false] at hz;rcases hz with rfl|rfl|rfl <;> simp only <;> omega) (i:=2) rfl (.int .i64 0)).set hq hBw (by intro z hz;have:=hBX;have:=HXW.out;simp only[List.mem_cons,List.not_mem_nil,or_false] at hz;rcases hz with rfl|rfl|rfl <;> simp only <;> omega) (i:=3) rfl (.int .i64 0))
  obtain⟨W5,hW5⟩:∃V,V=(((W.setCell ⟨B,0,none⟩ (.int .i64 (g.x+(a0:Int)))).setCell ⟨B,1,none⟩ (.int .i64 (g.y+(a1:Int)))).setCell ⟨B,2,none⟩ (.int .i64 0)).setCell ⟨B,3,none⟩ (.int .i64 0):=⟨_,rfl⟩
  rw[←hW5] at H6⊢
  clear hW5 t0 t1 t2 t3 s0 s1 s2 s3 H5
  have z2:=H6.out.az.ce 3 2 rfl rfl
  have z3:=H6.out.az.ce 1 0 rfl rfl
  have z4:=H6.out.az.ce 0 0 rfl rfl
  go_upto_region 9 with (go_at_call 40;(with_reducible refine(KX2.out _).mono ?_);rintro e u4 ⟨rfl,hb⟩;have H7:=hid (H6.out.below hb);clear hb z2 z3 z4;have t2:=H7.out.az.ce 0 2 rfl rfl;have s2:=H7.out.az.cf 0 2 rfl rfl)
  have H8:=hid (H7.out.set hq hBw (by intro z hz;have:=hBX;have:=HXW.out;simp only[List.mem_cons,List.not_mem_nil,or_false] at hz;rcases hz with rfl|rfl|rfl <;> simp only <;> omega) (i:=2) rfl (.int .i64 (a2:Int)))
  obtain⟨W6,hW6⟩:∃V,V=u4.setCell ⟨B,2,none⟩ (.int .i64 (a2:Int)):=⟨_,rfl⟩
  rw[←hW6] at H8⊢
  clear hW6 t2 s2 H7
  have z2:=H8.out.az.ce 3 3 rfl rfl
  have z3:=H8.out.az.ce 1 1 rfl rfl
  have z4:=H8.out.az.ce 0 1 rfl rfl
  go_upto_region 10 with (go_at_call 40;(with_reducible refine(KX3.out _).mono ?_);rintro e u5 ⟨rfl,hb⟩;have H9:=hid (H8.out.below hb);clear hb z2 z3 z4;have t2:=H9.out.az.ce 0 3 rfl rfl;have s2:=H9.out.az.cf 0 3 rfl rfl)
  have H10:=hid (show ExAt [(B,[.int .i64 (g.x+(a0:Int)),.int .i64 (g.y+(a1:Int)),.int .i64 (a2:Int),.int .i64 (a3:Int)]),(X7,[.int .i64 g.x,.int .i64 g.y,.int .i64 g.w,.int .i64 g.h,.int .i64 sc,.slice none 0 0]),(w.heap.size+1,[.int .i64 y0,.int .i64 y1,.int .i64 y2,.int .i64 y3,.int .i64 y4]),(w.heap.size,[.int .i64 x0,.int .i64 x1,.int .i64 x2,.int .i64 x3])] _ w _ from H9.out.set hq hBw (by intro z hz;have:=hBX;have:=HXW.out;simp only[List.mem_cons,List.not_mem_nil,or_false] at hz;rcases hz with rfl|rfl|rfl <;> simp only <;> omega) (i:=3) rfl (.int .i64 (a3:Int)))
  obtain⟨W7,hW7⟩:∃V,V=u5.setCell ⟨B,3,none⟩ (.int .i64 (a3:Int)):=⟨_,rfl⟩
  rw[←hW7] at H10⊢
  clear hW7 t2 s2 H9
  have H11:=hid (show ExAt [(W7.heap.size,shC (boxS 7 ⟨g.x+(a0:Int),g.y+(a1:Int),a2,a3⟩)),(B,[.int .i64 (g.x+(a0:Int)),.int .i64 (g.y+(a1:Int)),.int .i64 (a2:Int),.int .i64 (a3:Int)]),(X7,[.int .i64 g.x,.int .i64 g.y,.int .i64 g.w,.int .i64 g.h,.int .i64 sc,.slice none 0 0]),(w.heap.size+1,[.int .i64 y0,.int .i64 y1,.int .i64 y2,.int .i64 y3,.int .i64 y4]),(w.heap.size,[.int .i64 x0,.int .i64 x1,.int .i64 x2,.int .i64 x3])] _ w (W7.alloc (.cells #[.int .i64 7,.int .i64 2,.int .i64 (g.x+(a0:Int)),.int .i64 (g.y+(a1:Int)),.int .i64 (a2:Int),.int .i64 (a3:Int),.int .i64 0,.int .i64 0,.int .i64 0,.int .i64 0,.string ⟨#[]⟩] 63)) from H10.out.push (shC (boxS 7 ⟨g.x+(a0:Int),g.y+(a1:Int),a2,a3⟩)) 63)
  have KP:=hid (show Calls Tryz.prog 41 #[.slice (some ⟨W7.heap.size,0,none⟩) 1 1,.agg #[.int .i64 g.x,.int .i64 g.y,.int .i64 g.w,.int .i64 g.h,.int .i64 sc,.slice none 0 0]] (W7.alloc (.cells #[.int .i64 7,.int .i64 2,.int .i64 (g.x+(a0:Int)),.int .i64 (g.y+(a1:Int)),.int .i64 (a2:Int),.int .i64 (a3:Int),.int .i64 0,.int .i64 0,.int .i64 0,.int .i64 0,.string ⟨#[]⟩] 63)) fun e W'=>(∃a c,e=.returned (.tuple #[.agg #[.int .i64 g.x,.int .i64 g.y,.int .i64 g.w,.int .i64 g.h,.int .i64 sc,.slice a (aF_ ⟨g.x,g.y,g.w,g.h,sc⟩ [(boxS 7 ⟨g.x+(a0:Int),g.y+(a1:Int),a2,a3⟩)]).length c],.int .i64 0])∧bM_ (W7.alloc (.cells #[.int .i64 7,.int .i64 2,.int .i64 (g.x+(a0:Int)),.int .i64 (g.y+(a1:Int)),.int .i64 (a2:Int),.int .i64 (a3:Int),.int .i64 0,.int .i64 0,.int .i64 0,.int .i64 0,.string ⟨#[]⟩] 63)).heap.size a (aF_ ⟨g.x,g.y,g.w,g.h,sc⟩ [(boxS 7 ⟨g.x+(a0:Int),g.y+(a1:Int),a2,a3⟩)]) W')∧Below (W7.alloc (.cells #[.int .i64 7,.int .i64 2,.int .i64 (g.x+(a0:Int)),.int .i64 (g.y+(a1:Int)),.int .i64 (a2:Int),.int .i64 (a3:Int),.int .i64 0,.int .i64 0,.int .i64 0,.int .i64 0,.string ⟨#[]⟩] 63)).heap.size (W7.alloc (.cells #[.int .i64 7,.int .i64 2,.int .i64 (g.x+(a0:Int)),.int .i64 (g.y+(a1:Int)),.int .i64 (a2:Int),.int .i64 (a3:Int),.int .i64 0,.int .i64 0,.int .i64 0,.int .i64 0,.string ⟨#[]⟩] 63)) W' from
   mO_ (f:=⟨g.x,g.y,g.w,g.h,sc⟩) (ss:=[(boxS 7 ⟨g.x+(a0:Int),g.y+(a1:Int),a2,a3⟩)]) (sn:=1) (sc:=1) (hid H11.out.p) HFO (hid (ShsAt.of (CsAt.of_ar (H11.out.az.row (W7.heap.size,shC (boxS 7 ⟨g.x+(a0:Int),g.y+(a1:Int),a2,a3⟩)) (by simp))))) (hid rfl) (by omega) (hid (fun s hs=>by rw[List.mem_singleton.1 hs];exact HPL.out.1)) (hid (rN_ _)))
  have r0:=H10.out.az.ce 0 0 rfl rfl
  have r1:=H10.out.az.ce 0 1 rfl rfl
  have r2:=H10.out.az.ce 0 2 rfl rfl
  have r3:=H10.out.az.ce 0 3 rfl rfl
  have f0:=H11.out.az.ce 2 0 rfl rfl
  have f1:=H11.out.az.ce 2 1 rfl rfl
  have f2:=H11.out.az.ce 2 2 rfl rfl
  have f3:=H11.out.az.ce 2 3 rfl rfl
  have f4:=H11.out.az.ce 2 4 rfl rfl
  have f5:=H11.out.az.ce 2 5 rfl rfl
  have HVA:=hid (show bK_ ⟨g.x,g.y,g.w,g.h,sc⟩ (aF_ ⟨g.x,g.y,g.w,g.h,sc⟩ [(boxS 7 ⟨g.x+(a0:Int),g.y+(a1:Int),a2,a3⟩)])=true from bO_.2 (gZ_ HFO.out (by simp) (fun s hs=>by rw[List.mem_singleton.1 hs];exact HPL.out.1) (rN_ _)))
  obtain⟨ks,hks⟩:∃ks,ks=aF_ ⟨g.x,g.y,g.w,g.h,sc⟩ [(boxS 7 ⟨g.x+(a0:Int),g.y+(a1:Int),a2,a3⟩)]:=⟨_,rfl⟩
  obtain⟨nk,hnk⟩:∃nk,nk=ks.length:=⟨_,rfl⟩
  rw[←hks,←hnk] at KP
  rw[←hks] at HPL HVA
  have HNK:=hid hnk
  clear hks hnk
  go_wp2_with (go_at_call 41;(with_reducible refine KP.out.mono ?_);rintro e u6 ⟨⟨aI,cI,rfl,hk⟩,hb⟩;have H12:=hid (((H11.out.below hb).add hk.at fun _ _ h=>h.below).push [.int .i64 g.x,.int .i64 g.y,.int .i64 g.w,.int .i64 g.h,.int .i64 sc,.slice aI nk cI] 58);clear hb hk)
  obtain⟨W8,hW8⟩:∃V,V=u6.alloc (.cells #[.int .i64 g.x,.int .i64 g.y,.int .i64 g.w,.int .i64 g.h,.int .i64 sc,.slice aI nk cI] 58):=⟨_,rfl⟩
  obtain⟨X11,hX11⟩:∃X,X=u6.heap.size:=⟨_,rfl⟩
  rw[←hX11] at H12⊢
  rw[←hW8] at H12⊢
  clear hW8 hX11 r0 r1 r2 r3 f0 f1 f2 f3 f4 f5
  have KT:=hid (show ∀V:World,InksAt aI ks V→Calls Tryz.prog 42 #[.agg #[.int .i64 g.x,.int .i64 g.y,.int .i64 g.w,.int .i64 g.h,.int .i64 sc,.slice aI nk cI],.int .i64 7] V fun e W'=>e=.returned (.int .i64 (fW_ ⟨g.x,g.y,g.w,g.h,sc⟩ ks 7))∧Below V.heap.size V W' from fun V h=>uX_ (f:=⟨g.x,g.y,g.w,g.h,sc⟩) 7 HNK.out.symm (by have:=(bO_.1 HVA.out).len;have:=HNK.out;omega) V h)
  have m1:=Int.mul_nonneg (show(0:Int)≤(a2:Int) by omega) (show(0:Int)≤(a3:Int) by omega)
  have m2:=Int.mul_le_mul (show(a2:Int)≤96 by omega) (show(a3:Int)≤96 by omega) (by omega) (by omega)
  have m3:=Int.mul_pos (show 0<sc by omega) (show 0<sc by omega)
  have m4:=Int.mul_le_mul hs2 hs2 (by omega) (by omega)
  obtain⟨m,hm⟩:∃m,m=(a2:Int)*(a3:Int):=⟨_,rfl⟩
  obtain⟨ss,hss⟩:∃ss,ss=sc*sc:=⟨_,rfl⟩
  obtain⟨hTot,hLen⟩:=HPL.out.2
  rw[←hm] at hTot hLen m1 m2
  rw[←hss] at hTot m3 m4
  have e1:IntKind.i64.wrap ((a2:Int)*(a3:Int))=m:=by rw[←hm];exact IntWalk.i64_in _ (by omega)
  have e2:IntKind.i64.wrap (m*4096)=m*4096:=IntWalk.i64_in _ (by omega)
  have e3:IntKind.i64.wrap (sc*sc)=ss:=by rw[←hss];exact IntWalk.i64_in _ (by omega)
  have e4:¬ss=0:=by omega
  obtain⟨tv,htv⟩:∃tv,tv=fW_ ⟨g.x,g.y,g.w,g.h,sc⟩ ks 7:=⟨_,rfl⟩
  rw[←htv] at hTot KT
  have e5:Int.tdiv (m*4096) ss=tv:=by rw[hTot];exact Int.tdiv_eq_ediv_of_nonneg (by omega)
  have hd1:0≤tv:=by rw[hTot];exact Int.ediv_nonneg (by omega) (by omega)
  have hd2:tv≤m*4096:=by rw[hTot];exact Int.ediv_le_self _ (by omega)
  have e6:IntKind.i64.wrap tv=tv:=IntWalk.i64_in _ (by omega)
  have e7:(tv==tv)=true:=by simp
  have HLN:=hid (show(nk=1∧0<m)∨(¬nk=1∧¬0<m) by
   rw[←HNK.out] at hLen
   by_cases h:0<m
   ·exact .inl ⟨hLen.2 h,h⟩
   ·exact .inr ⟨fun k=>h (hLen.1 k),h⟩)
  have HIA:=hid H12.out.p.2
  have r0:=cell_regrown (H12.out.az.ce 0 0 rfl rfl)
  have r1:=cell_regrown (H12.out.az.ce 0 1 rfl rfl)
  have r2:=cell_regrown (H12.out.az.ce 0 2 rfl rfl)
  have r3:=cell_regrown (H12.out.az.ce 0 3 rfl rfl)
  have r4:=cell_regrown (H12.out.az.ce 0 4 rfl rfl)
  have r5:=cell_regrown (H12.out.az.ce 0 5 rfl rfl)
  have t2:=cell_regrown (H12.out.az.ce 2 2 rfl rfl)
  have t3:=cell_regrown (H12.out.az.ce 2 3 rfl rfl)
  have f4:=cell_regrown (H12.out.az.ce 3 4 rfl rfl)
  have c0:=fun d os=>Calls.regrown_of (d:=d) (os:=os) (KT.out (grow (redrawn W8 d) os) (HIA.out.below (below_regrown W8 d os)))
  clear hm hss hTot hLen htv hd1 hd2 m1 m2 m3 m4
  rcases HLN.out with ⟨hn1,hn2⟩|⟨hn1,hn2⟩
  ·have d1:((nk:Int)==1)=true:=by rw[hn1];rfl
   have d2:decide (0<m)=true:=decide_eq_true hn2
   have d3:decide (m > 0)=true:=decide_eq_true hn2
   clear hn1
   refine wp_region_quiet_below (by kernel_rfl) (by kernel_rfl) ?_
   repeat (go_big_quiet_step (with_reducible first|exact c0 _ _))
   refine wpQuiet_nil ?_
   intro W2 hw2
   have hb2:Below W8.heap.size W8 W2:=by obtain⟨⟨dq,osq⟩,hw7⟩:=hw2;rw[hw7];exact below_regrown W8 dq osq
   have H13:=hid (H12.out.below hb2)
   clear hw2 hb2
   go_wp2
   go_ret
   exact⟨rfl,H13.out.az.bw⟩
  ·have d1:((nk:Int)==1)=false:=by simpa using fun k=>hn1 (by omega)
   have d2:decide (0<m)=false:=decide_eq_false hn2
   have d3:decide (m > 0)=false:=decide_eq_false hn2
   refine wp_region_quiet_below (by kernel_rfl) (by kernel_rfl) ?_
   repeat (go_big_quiet_step (with_reducible first|exact c0 _ _))
   refine wpQuiet_nil ?_
   intro W2 hw2
   have hb2:Below W8.heap.size W8 W2:=by obtain⟨⟨dq,osq⟩,hw7⟩:=hw2;rw[hw7];exact below_regrown W8 dq osq
   have H13:=hid (H12.out.below hb2)
   clear hw2 hb2
   go_wp2
   go_ret
   exact⟨rfl,H13.out.az.bw⟩
end Go.Proofs.YtlikmmpmnaaifaaGreatDoor
