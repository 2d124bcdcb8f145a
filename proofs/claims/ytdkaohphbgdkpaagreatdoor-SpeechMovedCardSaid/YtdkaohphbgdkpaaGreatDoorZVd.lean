/- - -/
import Derived.Deep.CutBlock
import Derived.Deep.CutRange
import Derived.Test.YtdkaohphbgdkpaaGreatDoorZVb
import Derived.Test.YtdkaohphbgdkpaaGreatDoorZSv
set_option linter.unusedSimpArgs false
set_option linter.unusedVariables false
set_option maxHeartbeats 40000000
set_option maxRecDepth 1000000
namespace Go.Proofs.YtdkaohphbgdkpaaGreatDoor
open Go.RowKit Go.Shelf Go.Sort
attribute [local go_sem] Oper.semAt_some
theorem nH_ {xs:List Q5} {k:Nat} (hk:k≤9):∀s∈shs5 xs k,1≤s.code∧s.code≤39999:=fun s hs=>by
 obtain⟨i,q,hi,rfl⟩:=gJ_ hs
 have:=gL_ q i
 omega
theorem aCC {xs:List Q5} {k:Nat} {u v:Int} (hu:0≤u∧u<3000) (hv:0≤v∧v<3000):∀s∈shs5 xs k,vRc (mvS u v s).rect=true∧vRc s.rect=true:=fun s hs=>by
 obtain⟨i,q,hi,rfl⟩:=gJ_ hs
 have h:=lL_ q i
 refine⟨?_,h.1⟩
 obtain⟨_,h1,h2,h3,h4,h5,h6,h7,h8⟩:=h
 generalize sh5 q i=s at *
 rw[show(mvS u v s).rect=⟨s.rect.x+u,s.rect.y+v,s.rect.w,s.rect.h⟩ from rfl]
 simp only[vRc,vP,Bool.and_eq_true,decide_eq_true_eq]
 omega
theorem aDV {xs:List Q5} {k:Nat} (hk:k≤9) {u v:Int} (hu:0≤u∧u<3000) (hv:0≤v∧v<3000):bI_ ((shs5 xs k).map (mvS u v))=true∧Dist ((shs5 xs k).map (mvS u v)):=by
 have ha:((shs5 xs k).map (mvS u v)).Pairwise (fun a b=>a.code<b.code):=by
  rw[List.pairwise_map]
  exact hW_ xs k
 refine⟨qT_ (by rw[List.length_map,gK_];omega) (fun s hs=>?_) ha,gC_ ha⟩
 obtain⟨t,ht,rfl⟩:=List.mem_map.1 hs
 obtain⟨i,q,hi,rfl⟩:=gJ_ ht
 refine⟨?_,(aCC hu hv _ ht).1,qL_ q i⟩
 have:=gL_ q i
 show aN_ (sh5 q i).code=true
 unfold aN_
 rw[Bool.and_eq_true,decide_eq_true_eq,decide_eq_true_eq]
 omega
theorem aCG {es:List Ge} {ss:List Sh} {xs:List Int} (h3:es.length=3) (hg:gsE es=pJ_ ss xs) (hc:∀s∈ss,1≤s.code∧s.code≤39999) (hm:ss.length≤9):GeIn es:=by
 refine⟨by omega,fun e he=>?_⟩
 have h1:e.g∈pJ_ ss xs:=by rw[←hg];exact List.mem_map.2 ⟨e,he,rfl⟩
 have hk:∀j i,i≤9→(memK ss xs j i).length≤1000∧∀c∈memK ss xs j i,aC_ c:=fun j i hi=>⟨by have:=iF_ ss xs j i;omega,fun c h=>by
  obtain⟨k,s,x,g1,_,_,g4⟩:=iE_ h
  have:=hc s (List.mem_of_getElem? g1)
  unfold aC_
  omega⟩
 have hmin:min ss.length xs.length≤9:=by omega
 unfold pJ_ at h1
 simp only[List.mem_cons,List.not_mem_nil,or_false] at h1
 rcases h1 with h1|h1|h1 <;> rw[h1]
 ·exact⟨show(-9223372036854775808:Int)≤0∧(0:Int)≤9223372036854775807 by decide,show(-9223372036854775808:Int)≤-1∧(-1:Int)≤9223372036854775807 by decide,hk _ _ hmin⟩
 ·exact⟨show(-9223372036854775808:Int)≤4∧(4:Int)≤9223372036854775807 by decide,show(-9223372036854775808:Int)≤0∧(0:Int)≤9223372036854775807 by decide,hk _ _ hmin⟩
 ·exact⟨show(-9223372036854775808:Int)≤9∧(9:Int)≤9223372036854775807 by decide,show(-9223372036854775808:Int)≤-1∧(-1:Int)≤9223372036854775807 by decide,hk _ _ hmin⟩
theorem aDD {a:Option Addr} {m cap wcap:Nat} {ss:List Sh} (hm:ss.length=m) (hl:bI_ ss=true) (hd:Dist ss) {G:Nat} {es:List Ge} (h3:es.length=3) (hin:GeIn es) (hv:bJ_ (gsE es)=true) {wa:Option Addr} {k:Nat} {ls:List Wr} (hk:ls.length=k) (hk5:k≤40) (hls:cW_ [] (ls.map ldW)=true) (w:World) (hS:ShsAt a ss w) (hG:GsAt (some ⟨G,0,none⟩) es w) (hW:WrsAt wa ls w) (hq:OkW w) :
  Calls Tryz.prog 16 #[.slice a m cap,.slice (some ⟨G,0,none⟩) 3 3,.agg #[.slice none 0 0,.slice wa k wcap]] w fun e W'=>e=.returned (.tuple #[.string (mW_ (eN_ ss es ls)),.int .i64 0])∧Below w.heap.size w W':=by
 have h60:=cR_ hl
 have:=say_s (cap:=cap) (gcap:=3) (wcap:=wcap) (ss:=ss) (es:=es) (ls:=ls) (dv:=.slice none 0 0) (n:=m) (m:=3) (k:=k) hm (by omega) h3 hk hin (by omega) w hS hG hW hq.1 hq.2.2.1 (fun _=>hd) ⟨_,_,_,rfl⟩
 rw[kF_ hl hd hv (by omega) hls] at this
 exact this
theorem speechMoved_s {a b d:Option Addr} {n c nb cb nd cd:Nat} {xs:List Q5} {ys:List Int} {zs:List (Int×Int)} (right down:Int) (hr:inI right) (hdn:inI down) (hn:xs.length=n) (hnb:ys.length=nb) (hnd:zs.length=nd) (w:World) (h:X5At a xs w) (hy:CsAt b (icC ys) w∧∀z∈ys,inI z) (hz:PrsAt d zs w∧∀z∈zs,inI z.1∧inI z.2) (hq:OkW w) :
  Calls Tryz.prog 8 #[.slice a n c,.slice b nb cb,.slice d nd cd,.int .i64 right,.int .i64 down] w fun e W'=>e=.returned (.bool true)∧Below w.heap.size w W':=by
 have hmx:Tryz.prog.follows .mixedOrders=true:=by kernel_rfl
 have HX:=Lib.hid (And.intro h (And.intro hq hn))
 have HY:=Lib.hid (And.intro hy hnb)
 have HZ:=Lib.hid (And.intro hz hnd)
 have KR:=Lib.hid (show ∀W:World,Calls Tryz.prog 15 #[.int .i64 right,.int .i64 3000] W fun e W'=>e=.returned (.int .i64 (aI_ right 3000:Nat))∧Below W.heap.size W W' from fun W=>lQ_ right 3000 hr.1 hr.2 (by decide) (by decide) W)
 have KD:=Lib.hid (show ∀W:World,Calls Tryz.prog 15 #[.int .i64 down,.int .i64 3000] W fun e W'=>e=.returned (.int .i64 (aI_ down 3000:Nat))∧Below W.heap.size W W' from fun W=>lQ_ down 3000 hdn.1 hdn.2 (by decide) (by decide) W)
 have hu:=aV_ right (n:=3000) (by decide)
 have hv:=aV_ down (n:=3000) (by decide)
 generalize aI_ right 3000=u at *
 generalize aI_ down 3000=v at *
 clear h hy hz hq hn hnb hnd hr hdn
 go_enter Tryz.func8,Tryz.ntmps8
 go_upto_region 4 with (first
  | (go_at_call 11;(with_reducible refine(lM_ HX.out.2.1).mono ?_);rintro e u1 ⟨rfl,hb1⟩;have H1:=Lib.hid hb1;clear hb1)
  | (go_at_call 12;(with_reducible refine(gZ_ HX.out.2.2 _ (HX.out.1.below H1.out)).mono ?_);rintro e u2 ⟨⟨a',c',rfl,hs⟩,hb⟩;have H2:=Lib.hid (And.intro (H1.out.trans (hb.mono H1.out.size)) hs);clear hb hs)
  | fail)
 obtain⟨ss,hss⟩:∃ss,ss=shs5 xs (min n 9):=⟨_,rfl⟩
 have hl:bI_ ss=true:=by rw[hss];exact nF_ xs (by omega)
 have hd:Dist ss:=by rw[hss];exact nG_ xs _
 have hm9:ss.length≤9:=by rw[hss,gK_];omega
 have hcd:∀s∈ss,1≤s.code∧s.code≤39999:=by rw[hss];exact nH_ (by omega)
 have hgv:bJ_ (pJ_ ss ys)=true:=by rw[hss];exact sR_ (nH_ (by omega)) (hW_ _ _) _
 have hmv:=aDV (xs:=xs) (k:=min n 9) (by omega) (u:=(u:Int)) (v:=(v:Int)) (by omega) (by omega)
 have hvr:=aCC (xs:=xs) (k:=min n 9) (u:=(u:Int)) (v:=(v:Int)) (by omega) (by omega)
 have hbx:∀s∈ss,0≤s.rect.x∧s.rect.x≤350∧0≤s.rect.y∧s.rect.y≤350:=by
  rw[hss]
  intro s hs
  obtain⟨i,q,hi,rfl⟩:=gJ_ hs
  have:=lL_ q i
  omega
 rw[←hss] at H2 hmv hvr⊢
 obtain⟨m,hm⟩:∃m,ss.length=m:=⟨_,rfl⟩
 rw[hm] at hm9⊢
 have HLD:=Lib.hid (show Ld ss from⟨cL_ hl,hd⟩)
 have HS:=Lib.hid (And.intro hl (And.intro hd hm))
 have HV:=Lib.hid (And.intro hcd (And.intro hgv (And.intro hmv (And.intro hvr hbx))))
 clear hss hl hd hm hcd hgv hmv hvr hbx H1
 go_upto_region 6 with (first
  | (go_at_call 14;(with_reducible refine(vV_ HS.out.2.2 hm9 HZ.out.2 HZ.out.1.2 _ H3.out.2.1 (HZ.out.1.1.below H3.out.1)).mono ?_);rintro e u4 ⟨⟨wa,wc,rfl,hw⟩,hb⟩;have H4:=Lib.hid (And.intro (H3.out.1.trans (hb.mono H3.out.1.size)) (And.intro (H3.out.2.1.below hb) (And.intro (H3.out.2.2.2.2.below hb) hw)));clear hb hw)
  | (go_at_call 13;(with_reducible refine(kS_ HS.out.2.2 hm9 HY.out.2 HY.out.1.2 _ H2.out.2 (HY.out.1.1.below H2.out.1)).mono ?_);rintro e u3 ⟨⟨G,es,rfl,h3,hg,hG⟩,hb⟩;have H3:=Lib.hid (And.intro (H2.out.1.trans (hb.mono H2.out.1.size)) (And.intro (H2.out.2.below hb) (And.intro h3 (And.intro hg hG))));clear hb hG h3 hg)
  | fail)
 have HN:=Lib.hid (show(netK ss zs 5).length≤40∧cW_ [] ((netK ss zs 5).map ldW)=true from⟨by rw[lU_];split <;> omega,vS_ HV.out.1 zs⟩)
 obtain⟨ls,hls⟩:∃ls,ls=netK ss zs 5:=⟨_,rfl⟩
 rw[←hls] at H4 HN⊢
 obtain⟨k,hk⟩:∃k,ls.length=k:=⟨_,rfl⟩
 rw[hk]
 have hgin:=aCG H3.out.2.2.1 H3.out.2.2.2.1 HV.out.1 (by rw[HS.out.2.2];exact hm9)
 have hgval:bJ_ (gsE es)=true:=by rw[H3.out.2.2.2.1];exact HV.out.2.1
 have HG:=Lib.hid (And.intro H3.out.2.2.1 (And.intro hgin (And.intro hgval hk)))
 have hmo:=(((MoAt.start (AzAt.start u4)).push [.slice none 0 0,.slice wa k wc] 39).addNil 30 11)
 have H5:=Lib.hid hmo
 obtain⟨W5,hW5⟩:∃V,V=u4.alloc (.cells #[.slice none 0 0,.slice wa k wc] 39):=⟨_,rfl⟩
 obtain⟨G5,hG5⟩:∃V,V=u4.heap.size:=⟨_,rfl⟩
 have HG5:=Lib.hid (show u4.heap.size≤G5 by omega)
 rw[←hW5,←hG5] at H5⊢
 clear hW5 hG5 hmo hgin hgval hk hls H2 H3
 go_wp2
 go_loopw [14,15] (fun v14 v15 wr=>∃(i:Nat) (a0:Option Addr) (c0:Nat),i≤m∧v15=.int .i64 (i:Int)∧v14=.slice a0 i c0∧MoAt [⟨30,11,.slice a0 i c0,i,ssC ((ss.take i).map (mvS u v))⟩] [(G5,[.slice none 0 0,.slice wa k wc])] u4 wr) (fun _ v15 _=>m-(intOf v15).toNat)
 case atStart=>exact⟨0,none,0,Nat.zero_le _,rfl,rfl,H5.out⟩
 case round=>
  obtain⟨i,a0,c0,him,rfl,rfl,ho⟩:=hrel
  have H6:=Lib.hid ho
  clear ho H5
  by_cases hlt:i<m
  case neg=>
   have hie:i=m:=by omega
   have t9:decide ((i:Int)<(m:Int))=false:=decide_eq_false (by omega)
   have HM:=Lib.hid (show(ss.take i).map (mvS u v)=ss.map (mvS u v) by rw[hie,←HS.out.2.2,List.take_length])
   obtain⟨_,_,e0,s0,-⟩:=H6.out.slice (r:=⟨30,11,.slice a0 i c0,i,ssC ((ss.take i).map (mvS u v))⟩) (by simp)
   cases e0
   simp only at s0
   rw[HM.out] at s0
   have HMS:=Lib.hid (ShsAt.of s0)
   have hml:(ss.map (mvS (u:Int) (v:Int))).length=m:=by rw[List.length_map,HS.out.2.2]
   have K1:=Lib.hid (fun(W:World) (hb:Below u4.heap.size u4 W)=>aDD (cap:=c') (wcap:=wc) HS.out.2.2 HS.out.1 HS.out.2.1 HG.out.1 HG.out.2.1 HG.out.2.2.1 HG.out.2.2.2 (by have:=HN.out.1;have:=HG.out.2.2.2;omega) HN.out.2 W (H4.out.2.1.below hb) (H4.out.2.2.1.below hb) (H4.out.2.2.2.below hb) ((HX.out.2.1.below H4.out.1).below hb))
   have K2:=Lib.hid (fun(W:World) (hb:Below u4.heap.size u4 W) (hS:ShsAt a0 (ss.map (mvS u v)) W)=>aDD (cap:=c0) (wcap:=wc) hml HV.out.2.2.1.1 HV.out.2.2.1.2 HG.out.1 HG.out.2.1 HG.out.2.2.1 HG.out.2.2.2 (by have:=HN.out.1;have:=HG.out.2.2.2;omega) HN.out.2 W hS (H4.out.2.2.1.below hb) (H4.out.2.2.2.below hb) ((HX.out.2.1.below H4.out.1).below hb))
   rw[aDE HV.out.2.2.2.1 HLD.out] at K2
   obtain⟨T,hT⟩:∃T,T=mW_ (eN_ ss es ls):=⟨_,rfl⟩
   rw[←hT] at K1 K2
   have y0:=H6.out.az.ce 0 0 rfl rfl
   have y1:=H6.out.az.ce 0 1 rfl rfl
   have hTT:(T.toList==T.toList)=true:=beq_self_eq_true _
   clear hT s0 hml
   go_wp2_with (first
    | (have _:=H7;go_at_call 16;(with_reducible refine(K2.out _ H7.out.az.bw HMS7.out).mono ?_);rintro e u8 ⟨rfl,hb⟩;have H8:=Lib.hid (H7.out.below hb);clear hb)
    | (go_at_call 16;(with_reducible refine(K1.out _ H6.out.az.bw).mono ?_);rintro e u7 ⟨rfl,hb⟩;have H7:=Lib.hid (H6.out.below hb);have HMS7:=Lib.hid (HMS.out.below hb);have y0:=H7.out.az.ce 0 0 rfl rfl;have y1:=H7.out.az.ce 0 1 rfl rfl;clear hb)
    | fail)
   go_ret
   exact⟨rfl,H4.out.1.trans (H8.out.az.bw.mono H4.out.1.size)⟩
  case pos=>
   obtain⟨x,hx⟩:∃x,ss[i]?=some x:=⟨ss[i]'(by rw[HS.out.2.2];exact hlt),List.getElem?_eq_getElem _⟩
   obtain⟨sb,so,hsa,hsb,x0,x1,x2,x3,x4,x5,x6,x7,x8,x9,x10⟩:=(H4.out.2.1.below H6.out.az.bw).sh hx
   subst hsa
   have hb:=HV.out.2.2.2.2 x (List.mem_of_getElem? hx)
   have HTK:=Lib.hid (show(ss.take (i+1)).map (mvS u v)=(ss.take i).map (mvS (u:Int) (v:Int))++[mvS u v x] by rw[List.take_add_one,hx,List.map_append];rfl)
   have i1:(0:Int)≤(i:Int):=by omega
   have i2:(i:Int)<(m:Int):=by omega
   have t9:decide ((i:Int)<(m:Int))=true:=decide_eq_true i2
   have H7:=Lib.hid (H6.out.push (shC x) 30)
   have HB7:=Lib.hid (show u4.heap.size≤wr.heap.size from H6.out.az.bw.size)
   have HD7:=Lib.hid (show ∀y∈[(G5,[Value.slice none 0 0,.slice wa k wc])],wr.heap.size≠y.1 from fun y hy=>by
    rw[List.mem_singleton.1 hy]
    have:=(H6.out.az.row (G5,_) List.mem_cons_self).sz
    simp only
    omega)
   have g1:IntKind.i64.wrap (x.rect.x+(u:Int))=x.rect.x+(u:Int):=IntWalk.i64_in _ (by omega)
   have g2:IntKind.i64.wrap (x.rect.y+(v:Int))=x.rect.y+(v:Int):=IntWalk.i64_in _ (by omega)
   clear hx hb
   go_upto_region 11 with fail
   obtain⟨W7,hW7⟩:∃V,V=wr.alloc (.cells (shC x).toArray 30):=⟨_,rfl⟩
   obtain⟨B7,hB7⟩:∃V,V=wr.heap.size:=⟨_,rfl⟩
   have eW:wr.alloc (.cells #[.int .i64 x.code,.int .i64 x.kind,.int .i64 x.rect.x,.int .i64 x.rect.y,.int .i64 x.rect.w,.int .i64 x.rect.h,.int .i64 x.a.x,.int .i64 x.a.y,.int .i64 x.b.x,.int .i64 x.b.y,.string x.word] 30)=W7:=hW7.symm
   rw[eW,←hB7]
   rw[←hW7,←hB7] at H7
   rw[←hB7] at HB7 HD7
   clear hW7 hB7 eW x0 x1 x2 x3 x4 x5 x6 x7 x8 x9 x10 H6
   refine bW_ (A:=?fr11) 8 hmx (by kernel_rfl) ?h11 ?ht11
   case h11=>
    intro U hU
    have hp:=H7.out.below hU
    have y2:=cell_regrown (hp.az.ce 0 2 rfl rfl)
    have cc1:=fun d os=>Calls.regrown_of (d:=d) (os:=os) (KR.out (grow (redrawn U d) os))
    clear hp
    simp only[List.take_succ_cons,List.take_zero]
    repeat (go_big_quiet_step (with_reducible first|exact cc1 _ _))
    refine wpQuiet_nil ?_
    rfl
   case ht11=>
   intro W8 hW8
   have H8:=Lib.hid (H7.out.below hW8)
   clear hW8 H7
   simp only[List.drop_succ_cons,List.drop_zero]
   have z2:=H8.out.az.ce 0 2 rfl rfl
   have f2:=H8.out.az.cf 0 2 rfl rfl
   go_upto_region 12 with fail
   have H9:=Lib.hid (H8.out.set HB7.out HD7.out (i:=2) rfl (.int .i64 (x.rect.x+(u:Int))))
   obtain⟨W9,hW9⟩:∃V,V=W8.setCell ⟨B7,2,none⟩ (.int .i64 (x.rect.x+(u:Int))):=⟨_,rfl⟩
   rw[←hW9] at H9⊢
   clear hW9 H8 z2 f2
   refine bW_ (A:=?fr12) 8 hmx (by kernel_rfl) ?h12 ?ht12
   case h12=>
    intro U hU
    have hp:=H9.out.below hU
    have y3:=cell_regrown (hp.az.ce 0 3 rfl rfl)
    have cc1:=fun d os=>Calls.regrown_of (d:=d) (os:=os) (KD.out (grow (redrawn U d) os))
    clear hp
    simp only[List.take_succ_cons,List.take_zero]
    repeat (go_big_quiet_step (with_reducible first|exact cc1 _ _))
    refine wpQuiet_nil ?_
    rfl
   case ht12=>
   intro W10 hW10
   have H10:=Lib.hid (H9.out.below hW10)
   clear hW10 H9
   simp only[List.drop_succ_cons,List.drop_zero]
   have z3:=H10.out.az.ce 0 3 rfl rfl
   have f3:=H10.out.az.cf 0 3 rfl rfl
   go_upto_region 13 with fail
   have H11:=Lib.hid (show MoAt [⟨30,11,.slice a0 i c0,i,ssC ((ss.take i).map (mvS u v))⟩] [(B7,shC (mvS u v x)),(G5,[.slice none 0 0,.slice wa k wc])] u4 (W10.setCell ⟨B7,3,none⟩ (.int .i64 (x.rect.y+(v:Int)))) from H10.out.set HB7.out HD7.out (i:=3) rfl (.int .i64 (x.rect.y+(v:Int))))
   obtain⟨W11,hW11⟩:∃V,V=W10.setCell ⟨B7,3,none⟩ (.int .i64 (x.rect.y+(v:Int))):=⟨_,rfl⟩
   rw[←hW11] at H11⊢
   clear hW11 H10 z3 f3
   have z0:W11.cell? ⟨B7,0,none⟩=some (.int .i64 x.code):=H11.out.az.ce 0 0 rfl rfl
   have z1:W11.cell? ⟨B7,1,none⟩=some (.int .i64 x.kind):=H11.out.az.ce 0 1 rfl rfl
   have z2:W11.cell? ⟨B7,2,none⟩=some (.int .i64 (x.rect.x+(u:Int))):=H11.out.az.ce 0 2 rfl rfl
   have z3:W11.cell? ⟨B7,3,none⟩=some (.int .i64 (x.rect.y+(v:Int))):=H11.out.az.ce 0 3 rfl rfl
   have z4:W11.cell? ⟨B7,4,none⟩=some (.int .i64 x.rect.w):=H11.out.az.ce 0 4 rfl rfl
   have z5:W11.cell? ⟨B7,5,none⟩=some (.int .i64 x.rect.h):=H11.out.az.ce 0 5 rfl rfl
   have z6:W11.cell? ⟨B7,6,none⟩=some (.int .i64 x.a.x):=H11.out.az.ce 0 6 rfl rfl
   have z7:W11.cell? ⟨B7,7,none⟩=some (.int .i64 x.a.y):=H11.out.az.ce 0 7 rfl rfl
   have z8:W11.cell? ⟨B7,8,none⟩=some (.int .i64 x.b.x):=H11.out.az.ce 0 8 rfl rfl
   have z9:W11.cell? ⟨B7,9,none⟩=some (.int .i64 x.b.y):=H11.out.az.ce 0 9 rfl rfl
   have z10:W11.cell? ⟨B7,10,none⟩=some (.string x.word):=H11.out.az.ce 0 10 rfl rfl
   have HA:=Lib.hid (H11.out.push (shC (mvS u v x)) 30)
   go_wp2_with (at_builtin;refine iL_ rfl _ _ rfl HA.out (mvS u v x) W11.heap.size 1 List.mem_cons_self (by omega) rfl rfl ?_;intro b9 c9 w9 h9;have HJ:=Lib.hid h9;clear h9)
   exact⟨⟨i+1,b9,c9,by omega,by go_num,rfl,by rw[HTK.out];exact HJ.out.sub (fun y hy=>by rw[List.mem_singleton.1 hy];simp)⟩,by simp only[intOf];omega⟩
end Go.Proofs.YtdkaohphbgdkpaaGreatDoor
