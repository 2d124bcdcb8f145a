/-
  The law SpeechTrue, of chapter 27: the walk.
-/
import Derived.Deep.CutBlock
import Derived.Deep.CutRange
import Derived.Deep.RegionWith
import Derived.BigQuiet
import Derived.Test.YtdkaohphbgdkpaaGreatDoorWVh
set_option linter.unusedSimpArgs false
set_option linter.unusedVariables false
namespace Go.Proofs.YtdkaohphbgdkpaaGreatDoor
open Go.RowKit Go.Shelf Go.Sort
attribute [local go_sem] Oper.semAt_some
set_option maxHeartbeats 32000000 in
set_option maxRecDepth 100000 in
theorem speechTrue_s {a b d:Option Addr} {n c nb cb nd cd:Nat} {xs:List Q5} {ys:List Int} {zs:List (Int×Int)} (hn:xs.length=n) (hnb:ys.length=nb) (hnd:zs.length=nd) (w:World) (h:X5At a xs w) (hy:CsAt b (icC ys) w∧∀z∈ys,inI z) (hz:PrsAt d zs w∧∀z∈zs,inI z.1∧inI z.2) (hq:OkW w) :
  Calls Tryz.prog 6 #[.slice a n c,.slice b nb cb,.slice d nd cd] w fun e W'=>e=.returned (.bool true)∧Below w.heap.size w W':=by
 have hmx:Tryz.prog.follows .mixedOrders=true:=by kernel_rfl
 have HX:=Lib.hid (And.intro h (And.intro hq hn))
 have HY:=Lib.hid (And.intro hy hnb)
 have HZ:=Lib.hid (And.intro hz hnd)
 clear h hy hz hq hn hnb hnd
 go_enter Tryz.func6,Tryz.ntmps6
 go_upto_region 4 with (first
  | (go_at_call 11;(with_reducible refine(lM_ HX.out.2.1).mono ?_);rintro e u1 ⟨rfl,hb1⟩;have H1:=Lib.hid hb1;clear hb1)
  | (go_at_call 12;(with_reducible refine(gZ_ HX.out.2.2 _ (HX.out.1.below H1.out)).mono ?_);rintro e u2 ⟨⟨a',c',rfl,hs⟩,hb⟩;have H2:=Lib.hid (And.intro (H1.out.trans (hb.mono H1.out.size)) hs);clear hb hs)
  | fail)
 obtain⟨ss,hss⟩:∃ss,ss=shs5 xs (min n 9):=⟨_,rfl⟩
 have hl:bI_ ss=true:=by rw[hss];exact nF_ xs (by omega)
 have hd:Dist ss:=by rw[hss];exact nG_ xs _
 have hm9:ss.length≤9:=by rw[hss,gK_];omega
 have hcd:∀s∈ss,1≤s.code∧s.code≤39999:=by rw[hss];exact nH_ (by omega)
 have hgv:bJ_ (pJ_ ss ys)=true:=by rw[hss];exact sR_ (nH_ (by omega)) (hW_ _ _) _
 have hbx:∀s∈ss,0≤s.rect.w∧s.rect.w≤350∧0≤s.rect.h∧s.rect.h≤350:=by
  rw[hss]
  intro s hs
  obtain⟨i,q,hi,rfl⟩:=gJ_ hs
  have:=lL_ q i
  omega
 rw[←hss] at H2⊢
 obtain⟨m,hm⟩:∃m,ss.length=m:=⟨_,rfl⟩
 rw[hm] at hm9⊢
 have HLD:=Lib.hid (show Ld ss from⟨cL_ hl,hd⟩)
 have HS:=Lib.hid (And.intro hl (And.intro hd hm))
 have HV:=Lib.hid (And.intro hcd (And.intro hgv hbx))
 clear hss hl hd hm hcd hgv hbx H1
 go_upto_region 5 with (first
  | (go_at_call 14;(with_reducible refine(vV_ HS.out.2.2 hm9 HZ.out.2 HZ.out.1.2 _ H2.out.2 (HZ.out.1.1.below H2.out.1)).mono ?_);rintro e u4 ⟨⟨wa,wc,rfl,hw⟩,hb⟩;have H4:=Lib.hid (And.intro (H2.out.1.trans (hb.mono H2.out.1.size)) (And.intro (H2.out.2.below hb) hw));clear hb hw)
  | fail)
 have HN:=Lib.hid (show(netK ss zs 5).length≤40∧cW_ [] ((netK ss zs 5).map ldW)=true from⟨by rw[lU_];split <;> omega,vS_ HV.out.1 zs⟩)
 obtain⟨ls,hls⟩:∃ls,ls=netK ss zs 5:=⟨_,rfl⟩
 rw[←hls] at H4 HN⊢
 obtain⟨k,hk⟩:∃k,ls.length=k:=⟨_,rfl⟩
 rw[hk]
 have hk40:k≤40:=by rw[←hk];exact HN.out.1
 have HK:=Lib.hid hk
 obtain⟨W4,hW4⟩:∃V,V=u4.alloc (.cells #[.slice none 0 0,.slice wa k wc] 39):=⟨_,rfl⟩
 obtain⟨B8,hB8⟩:∃V,V=u4.heap.size:=⟨_,rfl⟩
 have hb4:Below u4.heap.size u4 W4:=by rw[hW4];exact(Below.refl _ _).alloc (Nat.le_refl _) _
 have h8:ArAt B8 [.slice none 0 0,.slice wa k wc] W4:=by rw[hW4,hB8];exact ArAt.mk' u4 [.slice none 0 0,.slice wa k wc] 39
 have H5:=Lib.hid (And.intro (H4.out.1.trans (hb4.mono H4.out.1.size)) (And.intro (H4.out.2.1.below hb4) (And.intro (H4.out.2.2.below hb4) h8)))
 have HE:=Lib.hid (AzAt.start W4)
 rw[←hW4,←hB8]
 clear hW4 hB8 hb4 h8 hk hls H4 H2
 have KS:=Lib.hid (fun(W:World) (hb:Below W4.heap.size W4 W) (G:Nat) (es:List Ge) (h3:es.length=3) (hg:gsE es=pJ_ ss ys) (hG:GsAt (some ⟨G,0,none⟩) es W)=>aDD (cap:=c') (wcap:=wc) HS.out.2.2 HS.out.1 HS.out.2.1 h3 (aCG h3 hg HV.out.1 (by rw[HS.out.2.2];exact hm9)) (by rw[hg];exact HV.out.2.1) HK.out hk40 HN.out.2 W (H5.out.2.1.below hb) hG (H5.out.2.2.1.below hb) ((HX.out.2.1.below H5.out.1).below hb))
 have KG:=Lib.hid (fun(W:World) (hb:Below W4.heap.size W4 W)=>kS_ (c:=c') (d:=cb) HS.out.2.2 hm9 HY.out.2 HY.out.1.2 W (H5.out.2.1.below hb) (HY.out.1.1.below (H5.out.1.trans (hb.mono H5.out.1.size))))
 have y0:=H5.out.2.2.2.row 0 _ rfl
 have y1:=H5.out.2.2.2.row 1 _ rfl
 go_cut [9,10] from 36 to 44 (fun v9 v10 wX=>∃es:List Ge,v9=.string (mW_ (eN_ ss es ls))∧v10=.int .i64 0∧gsE es=pJ_ ss ys∧Below W4.heap.size W4 wX)
 case first=>
  first|(go_region_with (first
   | (have _:=H6;go_at_call 16;(with_reducible refine(KS.out _ H6.out.1 G es H6.out.2.1 H6.out.2.2.1 H6.out.2.2.2).mono ?_);rintro e u7 ⟨rfl,hb⟩;have H7:=Lib.hid (And.intro (H6.out.1.trans (hb.mono H6.out.1.size)) (And.intro H6.out.2.1 H6.out.2.2.1));clear hb)
   | (go_at_call 13;(with_reducible refine(KG.out _ HE.out.drew.bw).mono ?_);rintro e u6 ⟨⟨G,es,rfl,h3,hg,hG⟩,hb⟩;have H6:=Lib.hid (And.intro (HE.out.drew.bw.trans (hb.mono HE.out.drew.bw.size)) (And.intro h3 (And.intro hg hG)));have z0:=(H6.out.1.cell (p:=⟨B8,0,none⟩) H5.out.2.2.2.sz).trans (H5.out.2.2.2.row 0 _ rfl);have z1:=(H6.out.1.cell (p:=⟨B8,1,none⟩) H5.out.2.2.2.sz).trans (H5.out.2.2.2.row 1 _ rfl);clear hb hG h3 hg)
   | fail)) | fail
  all_goals
   go_wp2
   go_meet
   exact⟨es,rfl,rfl,H7.out.2.2,H7.out.1⟩
 case rest=>
  as_aux_lemma=>
   obtain⟨es,rfl,rfl,hg,hb⟩:=hcut
   have hsr:=(nL_ HS.out.1 HS.out.2.1 (es:=es) (by rw[hg];exact HV.out.2.1) HN.out.1 HN.out.2).2
   have hxs:=saidOf_shapes (ss:=ss) es ls
   have hxl:(eN_ ss es ls).leads=ls.map ldW:=rfl
   have hxp:∀a∈ss,nxtP (eN_ ss es ls).inside a.code=match parK ss a with|none=>0|some p=>p.code:=fun a ha=>nxt_par HLD.out es ls ha
   have hxi:(eN_ ss es ls).inside.length≤m:=by
    refine Nat.le_trans (List.length_filterMap_le _ _) ?_
    show((rdx ss 0).map _).length≤m
    rw[List.length_map,rdx_len HLD.out,HS.out.2.2]
    exact Nat.le_refl _
   obtain⟨x,hx⟩:∃x,x=eN_ ss es ls:=⟨_,rfl⟩
   rw[←hx] at hsr hxs hxl hxp hxi⊢
   have HB:=Lib.hid (And.intro hsr (And.intro hxs (And.intro hxl hxp)))
   have H6:=Lib.hid hb
   have KH:=hear_r hsr _ ((HX.out.2.1.below H5.out.1).below hb)
   have e0:x.shapes.length=m:=by rw[hxs,List.length_map,rdx_len HLD.out,HS.out.2.2]
   have e3:x.leads.length=k:=by rw[hxl,List.length_map,HK.out]
   obtain⟨n1,hn1⟩:∃q,q=x.inside.length:=⟨_,rfl⟩
   obtain⟨n2,hn2⟩:∃q,q=x.member.length:=⟨_,rfl⟩
   rw[←hn1] at hxi
   rw[e0,e3,←hn1,←hn2] at KH
   have HKH:=Lib.hid KH
   have HN1:=Lib.hid hn1
   clear KS KG y0 y1 hsr hxs hxl hxp hx hb hg KH e0 e3 hn1 hn2 HE HY
   go_upto_region 7 with (first
    | (go_at_call 24;(with_reducible refine(HKH.out).mono ?_);rintro e u8 ⟨⟨a0,c0,a1,c1,a2,c2,a3,c3,rfl,hs,-⟩,hb8⟩;have H8:=Lib.hid (And.intro (H6.out.trans (hb8.mono H6.out.size)) hs);clear hb8 hs)
    | fail)
   obtain⟨W9,hW9⟩:∃V,V=u8.alloc (.cells #[.slice a0 m c0,.slice a1 n1 c1,.slice a2 n2 c2,.slice a3 k c3] 62):=⟨_,rfl⟩
   obtain⟨B11,hB11⟩:∃V,V=u8.heap.size:=⟨_,rfl⟩
   have hb9:Below u8.heap.size u8 W9:=by rw[hW9];exact(Below.refl _ _).alloc (Nat.le_refl _) _
   have h11:ArAt B11 [.slice a0 m c0,.slice a1 n1 c1,.slice a2 n2 c2,.slice a3 k c3] W9:=by rw[hW9,hB11];exact ArAt.mk' u8 [.slice a0 m c0,.slice a1 n1 c1,.slice a2 n2 c2,.slice a3 k c3] 62
   have hW:=H8.out.1.trans (hb9.mono H8.out.1.size)
   have hWx:=H5.out.1.trans (hW.mono H5.out.1.size)
   have H9:=Lib.hid hWx
   have HSS:=Lib.hid (H5.out.2.1.below hW)
   have HWS:=Lib.hid (H5.out.2.2.1.below hW)
   have HBN:=Lib.hid (H5.out.2.2.2.below hW)
   have HBU:=Lib.hid h11
   have HSD:=Lib.hid (H8.out.2.below hb9)
   have HQ:=Lib.hid (HX.out.2.1.below hWx)
   have HS0:=Lib.hid (AzAt.start W9)
   rw[←hW9,←hB11]
   clear hW9 hB11 hb9 h11 hW hWx H8 H5 H6 HKH
   have y0:=HBN.out.row 0 _ rfl
   have y1:=HBN.out.row 1 _ rfl
   have x0:=HBU.out.row 0 _ rfl
   have x1:=HBU.out.row 1 _ rfl
   have x3:=HBU.out.row 3 _ rfl
   go_wp2
   go_loopw [14] (fun v14 wr=>∃i:Nat,i≤k∧v14=.int .i64 (i:Int)∧AzAt [] W9 wr) (fun v14 _=>k-(intOf v14).toNat)
   case atStart=>exact⟨0,Nat.zero_le _,rfl,HS0.out⟩
   case round=>
    obtain⟨i,hik,rfl,ho⟩:=hrel
    have H1:=Lib.hid ho
    clear ho HS0 y0 y1 x0 x1 x3
    have y0:=(H1.out.bw.cell (p:=⟨B8,0,none⟩) HBN.out.sz).trans (HBN.out.row 0 _ rfl)
    have y1:=(H1.out.bw.cell (p:=⟨B8,1,none⟩) HBN.out.sz).trans (HBN.out.row 1 _ rfl)
    have x0:=(H1.out.bw.cell (p:=⟨B11,0,none⟩) HBU.out.sz).trans (HBU.out.row 0 _ rfl)
    have x1:=(H1.out.bw.cell (p:=⟨B11,1,none⟩) HBU.out.sz).trans (HBU.out.row 1 _ rfl)
    have x3:=(H1.out.bw.cell (p:=⟨B11,3,none⟩) HBU.out.sz).trans (HBU.out.row 3 _ rfl)
    by_cases hlt:i<k
    case pos=>
     have t9:decide ((i:Int)<(k:Int))=true:=decide_eq_true (by omega)
     have g1:(i:Int)<(k:Int):=by omega
     have g2:(0:Int)≤(i:Int):=by omega
     obtain⟨p,hp⟩:∃p,ls[i]?=some p:=⟨ls[i]'(by rw[HK.out];exact hlt),List.getElem?_eq_getElem _⟩
     obtain⟨pb,po,rfl,hpb,hpc⟩:=(HWS.out.below H1.out.bw).row i p hp
     have hq:x.leads[i]?=some (ldW p):=by rw[HB.out.2.2.1,List.getElem?_map,hp];rfl
     obtain⟨qb,qo,rfl,hqb,q0,q1,q2⟩:=(HSD.out.l.below H1.out.bw).row i _ hq
     have q0':wr.cell? ⟨qb,qo+i*3,none⟩=some (.int .i64 p.code):=q0
     have q1':wr.cell? ⟨qb,qo+i*3+1,none⟩=some (.int .i64 p.src):=q1
     have q2':wr.cell? ⟨qb,qo+i*3+2,none⟩=some (.int .i64 p.dst):=q2
     have p0:wr.cell? ⟨pb,po+i*6,none⟩=some (.int .i64 p.code):=hpc 0 _ rfl
     have p1:wr.cell? ⟨pb,po+i*6+1,none⟩=some (.int .i64 p.src):=hpc 1 _ rfl
     have p3:wr.cell? ⟨pb,po+i*6+3,none⟩=some (.int .i64 p.dst):=hpc 3 _ rfl
     have eqs:∀W,(Op.equalIn 10000 59 (.agg #[.int .i64 p.code,.int .i64 p.src,.int .i64 p.dst]) (.agg #[.int .i64 p.code,.int .i64 p.src,.int .i64 p.dst])).run Tryz.prog W=Result.ok true W:=fun W=>by
      rw[show Op.equalIn 10000 59=Op.equal 59 from rfl,qZ_]
      simp
     clear q0 q1 q2 hpc hq hp
     go_wp2
     go_region
     go_wp2
     exact⟨⟨i+1,by omega,by go_num,H1.out.drew⟩,by simp only[intOf];omega⟩
    case neg=>
     have hie:k=i:=by omega
     subst hie
     have t9:decide ((k:Int)<(k:Int))=false:=decide_eq_false (by omega)
     go_wp2
     clear y0 y1 x0 x1 x3
     go_loopw [15] (fun v15 wr=>∃i:Nat,i≤m∧v15=.int .i64 (i:Int)∧AzAt [] W9 wr) (fun v15 _=>m-(intOf v15).toNat)
     case atStart=>exact⟨0,Nat.zero_le _,rfl,H1.out⟩
     case round=>
      as_aux_lemma=>
       obtain⟨i,him,rfl,ho⟩:=hrel
       have H2:=Lib.hid ho
       clear ho H1 t9
       by_cases hlt:i<m
       case neg=>
        have hie:m=i:=by omega
        subst hie
        have t9:decide ((m:Int)<(m:Int))=false:=decide_eq_false (by omega)
        go_wp2
        go_ret
        exact⟨rfl,H9.out.trans (H2.out.bw.mono H9.out.size)⟩
       case pos=>
        have t9:decide ((i:Int)<(m:Int))=true:=decide_eq_true (by omega)
        have g1:(i:Int)<(m:Int):=by omega
        have g2:(0:Int)≤(i:Int):=by omega
        obtain⟨a,ha⟩:∃a,ss[i]?=some a:=⟨ss[i]'(by rw[HS.out.2.2];exact hlt),List.getElem?_eq_getElem _⟩
        have ham:a∈ss:=List.mem_of_getElem? ha
        obtain⟨sb,so,hsa,hsb,a0',a1',a2',a3',a4',a5',a6',a7',a8',a9',a10'⟩:=(HSS.out.below H2.out.bw).sh ha
        subst hsa
        have HAM:=Lib.hid ham
        clear ha ham
        go_upto_region 18 with fail
        obtain⟨WA,hWA⟩:∃V,V=wr.alloc (.cells #[.int .i64 a.code,.int .i64 a.kind,.int .i64 a.rect.x,.int .i64 a.rect.y,.int .i64 a.rect.w,.int .i64 a.rect.h,.int .i64 a.a.x,.int .i64 a.a.y,.int .i64 a.b.x,.int .i64 a.b.y,.string a.word] 30):=⟨_,rfl⟩
        obtain⟨BA,hBA⟩:∃V,V=wr.heap.size:=⟨_,rfl⟩
        have HA:=Lib.hid (show AzAt [(BA,shC a)] W9 WA from by rw[hWA,hBA];exact H2.out.push (shC a) 30)
        rw[←hWA,←hBA]
        clear hWA hBA H2 hsb a0' a1' a2' a3' a4' a5' a6' a7' a8' a9' a10'
        have hlx:x.shapes.length=m:=by rw[HB.out.2.1,List.length_map,rdx_len HLD.out,HS.out.2.2]
        have hfa:(⟨a.code,a.kind,zRc,zPl,zPl,a.word⟩:Sh)∈x.shapes:=by rw[HB.out.2.1];exact List.mem_map.2 ⟨a,HLD.out.mem_rdx.2 HAM.out,rfl⟩
        obtain⟨z,hz⟩:∃z:Sh,z=⟨a.code,a.kind,zRc,zPl,zPl,a.word⟩:=⟨_,rfl⟩
        rw[←hz] at hfa
        have HF:=Lib.hid (And.intro hlx (And.intro hfa hz))
        clear hlx hfa hz
        go_wp2
        go_loopw [17,18] (fun v17 v18 wr=>∃(j:Nat) (fb:Bool),j≤m∧v17=.bool fb∧v18=.int .i64 (j:Int)∧Hid (z∈x.shapes.take j→fb=true)∧AzAt [(BA,shC a)] W9 wr) (fun _ v18 _=>m-(intOf v18).toNat)
        case atStart=>exact⟨0,false,Nat.zero_le _,rfl,rfl,Lib.hid (fun h=>by simp at h),HA.out⟩
        case round=>
         as_aux_lemma=>
          obtain⟨j,fb,hjm,rfl,rfl,HFB,ho⟩:=hrel
          have H3:=Lib.hid ho
          clear ho HA
          have x0:=(H3.out.bw.cell (p:=⟨B11,0,none⟩) HBU.out.sz).trans (HBU.out.row 0 _ rfl)
          by_cases hlj:j<m
          case pos=>
           have t7:decide ((j:Int)<(m:Int))=true:=decide_eq_true (by omega)
           have j1:(j:Int)<(m:Int):=by omega
           have j2:(0:Int)≤(j:Int):=by omega
           obtain⟨q,hq⟩:∃q,x.shapes[j]?=some q:=⟨x.shapes[j]'(by rw[HF.out.1];exact hlj),List.getElem?_eq_getElem _⟩
           have HTK:=Lib.hid (show x.shapes.take (j+1)=x.shapes.take j++[q] by rw[List.take_add_one,hq];rfl)
           obtain⟨qb,qo,hqa,hqb,z0',z1',z2',z3',z4',z5',z6',z7',z8',z9',z10'⟩:=(HSD.out.s.below H3.out.bw).sh hq
           subst hqa
           have c0':=H3.out.ce 0 0 rfl rfl
           have c1':=H3.out.ce 0 1 rfl rfl
           have c10':=H3.out.ce 0 10 rfl rfl
           obtain⟨qe,hqe⟩:∃e,e=decide (q=z):=⟨_,rfl⟩
           have eqs:∀W,(Op.equalIn 10000 30 (.agg #[.int .i64 q.code,.int .i64 q.kind,.int .i64 q.rect.x,.int .i64 q.rect.y,.int .i64 q.rect.w,.int .i64 q.rect.h,.int .i64 q.a.x,.int .i64 q.a.y,.int .i64 q.b.x,.int .i64 q.b.y,.string q.word]) (.agg #[.int .i64 a.code,.int .i64 a.kind,.int .i64 0,.int .i64 0,.int .i64 0,.int .i64 0,.int .i64 0,.int .i64 0,.int .i64 0,.int .i64 0,.string a.word])).run Tryz.prog W=Result.ok qe W:=fun W=>by
            have h:=aEJ q z W
            rw[HF.out.2.2] at h
            rw[hqe,HF.out.2.2]
            exact h
           have HQE:=Lib.hid hqe
           clear hqe hq
           cases fb with
           | true=>
            go_wp2
            go_quiet (fail)
            go_wp2
            exact⟨⟨j+1,true,by omega,rfl,by go_num,Lib.hid (fun _=>rfl),H3.out.below ⟨rfl,rfl,rfl,Nat.le_refl _,fun _ _=>rfl⟩⟩,by simp only[intOf];omega⟩
           | false=>
            go_wp2
            go_quiet (fail)
            go_wp2
            refine⟨⟨j+1,qe,by omega,rfl,by go_num,Lib.hid (fun h=>?_),H3.out.below ⟨rfl,rfl,rfl,Nat.le_refl _,fun _ _=>rfl⟩⟩,by simp only[intOf];omega⟩
            rw[HTK.out] at h
            rcases List.mem_append.1 h with h|h
            ·cases HFB.out h
            ·rw[HQE.out]
             exact decide_eq_true (List.mem_singleton.1 h).symm
          case neg=>
           have hje:m=j:=by omega
           have hfb:fb=true:=HFB.out (by rw[show j=x.shapes.length by rw[HF.out.1];exact hje.symm,List.take_length];exact HF.out.2.1)
           subst hje
           subst hfb
           have t7:decide ((m:Int)<(m:Int))=false:=decide_eq_false (by omega)
           have c0':=H3.out.ce 0 0 rfl rfl
           go_upto_block 6 with fail
           clear x0 c0' t7
           go_cut [19,20,21,22,23] from 143 to 176 (fun v19 v20 v21 v22 v23 wX=>∃(t:Nat) (e:Option Addr) (d:Nat),v19=.slice e t d∧Hid ((upsL ss (m+1) a).length=t)∧MoAt [⟨3,1,.slice e t d,t,icC (upsL ss (m+1) a)⟩] [(BA,shC a)] W9 wX)
           case first=>
            go_wp2
            go_loopw [19,20,21] (fun v19 v20 v21 wr=>∃(t:Nat) (e:Option Addr) (d:Nat) (p:Sh) (U:List Int),t≤m+1∧v19=.slice e t d∧v20=.int .i64 p.code∧v21=.int .i64 (t:Int)∧Hid (p∈ss∧U.length=t∧upsL ss (m+1) a=U++upsL ss (m+1-t) p)∧MoAt [⟨3,1,.slice e t d,t,icC U⟩] [(BA,shC a)] W9 wr) (fun _ _ v21 _=>m+1-(intOf v21).toNat)
            case atStart=>exact⟨0,none,0,a,[],Nat.zero_le _,rfl,rfl,rfl,Lib.hid ⟨HAM.out,rfl,rfl⟩,(MoAt.start H3.out).addNil 3 1⟩
            case round=>
             as_aux_lemma=>
              obtain⟨t,e,d,p,U,htm,rfl,rfl,rfl,HU,ho⟩:=hrel
              have H4:=Lib.hid ho
              clear ho H3
              by_cases hlj:t≤m
              case neg=>
               have t7:decide ((t:Int)≤(m:Int))=false:=decide_eq_false (by omega)
               go_wp2
               go_meet
               refine⟨t,e,d,rfl,Lib.hid ?_,?_⟩
               ·have h:=HU.out.2.2
                rw[show m+1-t=0 by omega,show upsL ss 0 p=[] from rfl,List.append_nil] at h
                rw[h];exact HU.out.2.1
               ·have h:=HU.out.2.2
                rw[show m+1-t=0 by omega,show upsL ss 0 p=[] from rfl,List.append_nil] at h
                rw[h];exact H4.out
              case pos=>
               have t7:decide ((t:Int)≤(m:Int))=true:=decide_eq_true (by omega)
               have hpm:p∈ss:=HU.out.1
               go_wp2
               go_loopw [22,23] (fun v22 v23 wr=>∃j:Nat,j≤n1∧v22=.int .i64 (nxtP (x.inside.take j) p.code)∧v23=.int .i64 (j:Int)∧MoAt [⟨3,1,.slice e t d,t,icC U⟩] [(BA,shC a)] W9 wr) (fun _ v23 _=>n1-(intOf v23).toNat)
               case atStart=>exact⟨0,Nat.zero_le _,rfl,rfl,H4.out⟩
               case round=>
                obtain⟨j,hjn,rfl,rfl,ho⟩:=hrel
                have H5:=Lib.hid ho
                clear ho H4
                have x1:=(H5.out.az.bw.cell (p:=⟨B11,1,none⟩) HBU.out.sz).trans (HBU.out.row 1 _ rfl)
                by_cases hjl:j<n1
                case pos=>
                 have t6:decide ((j:Int)<(n1:Int))=true:=decide_eq_true (by omega)
                 have j1:(j:Int)<(n1:Int):=by omega
                 have j2:(0:Int)≤(j:Int):=by omega
                 obtain⟨pr,hpr⟩:∃pr,x.inside[j]?=some pr:=⟨x.inside[j]'(by rw[←HN1.out];exact hjl),List.getElem?_eq_getElem _⟩
                 have HST:=Lib.hid (nxtP_step hpr p.code)
                 obtain⟨rb,ro,hra,hrb,p0',p1'⟩:=(HSD.out.i.below H5.out.az.bw).row j _ hpr
                 subst hra
                 clear hpr
                 by_cases hpc:pr.1=p.code
                 case pos=>
                  have t8:(pr.1==p.code)=true:=beq_iff_eq.2 hpc
                  have HE:=Lib.hid (show nxtP (x.inside.take (j+1)) p.code=pr.2 by rw[HST.out,if_pos hpc])
                  clear hpc
                  go_wp2
                  exact⟨⟨j+1,by omega,by rw[HE.out],by go_num,H5.out⟩,by simp only[intOf];omega⟩
                 case neg=>
                  have t8:(pr.1==p.code)=false:=beq_eq_false_iff_ne.2 hpc
                  have HE:=Lib.hid (show nxtP (x.inside.take (j+1)) p.code=nxtP (x.inside.take j) p.code by rw[HST.out,if_neg hpc])
                  clear hpc
                  go_wp2
                  exact⟨⟨j+1,by omega,by rw[HE.out],by go_num,H5.out⟩,by simp only[intOf];omega⟩
                case neg=>
                 have hje:n1=j:=by omega
                 subst hje
                 have t6:decide ((n1:Int)<(n1:Int))=false:=decide_eq_false (by omega)
                 have hnx:nxtP (x.inside.take n1) p.code=match parK ss p with|none=>0|some q=>q.code:=by rw[HN1.out,List.take_length];exact HB.out.2.2.2 p hpm
                 rw[hnx]
                 have HHP:=Lib.hid (And.intro rfl (show p∈ss from hpm):True=True∧p∈ss)
                 clear hnx
                 cases hp:parK ss p with
                 | none=>
                  have h:=HU.out.2.2
                  rw[upsL_none hp,List.append_nil] at h
                  have HUE:=Lib.hid h
                  have HHN:=Lib.hid hp
                  clear h hp
                  go_wp2
                  go_meet
                  exact⟨t,e,d,rfl,Lib.hid (by rw[HUE.out];exact HU.out.2.1),by rw[HUE.out];exact H5.out⟩
                 | some q=>
                  have hqm:=(eH_ hp).1
                  have hqc:=HV.out.1 q hqm
                  have t8:(q.code==0)=false:=beq_eq_false_iff_ne.2 (by omega)
                  have h:=HU.out.2.2
                  rw[show m+1-t=(m-t)+1 by omega,upsL_some hp] at h
                  have HUE:=Lib.hid (And.intro hqm h)
                  clear h hp hqm hqc
                  have HC:=Lib.hid (H5.out.push [.int .i64 q.code] 3)
                  go_wp2_with (at_builtin;refine yI_ rfl _ _ rfl HC.out q.code wr.heap.size 1 List.mem_cons_self (by omega) rfl rfl ?_;intro b9 c9 w9 h9;have HJ:=Lib.hid h9;clear h9)
                  exact⟨⟨t+1,b9,c9,q,U++[q.code],by omega,rfl,rfl,by go_num,Lib.hid ⟨HUE.out.1,by rw[List.length_append,HU.out.2.1];rfl,by rw[HUE.out.2,List.append_assoc,show m+1-(t+1)=m-t by omega];rfl⟩,HJ.out.sub (by simp)⟩,by simp only[intOf];omega⟩
           case rest=>
            as_aux_lemma=>
             obtain⟨t,e,d,rfl,HUL,ho⟩:=hcut
             have H4:=Lib.hid ho
             have hu1:∀c∈upsL ss (m+1) a,∃p∈ss,p.code=c∧bQ_ p a=true:=HLD.out.ups (m+1) a HAM.out
             have hu2:t=0→parK ss a=none:=fun h=>by
              cases hp:parK ss a with
              | none=>rfl
              | some p=>
               have h2:=HUL.out
               rw[upsL_some hp,h] at h2
               simp at h2
             have hu3:∀c,(upsL ss (m+1) a)[0]?=some c→∃p,parK ss a=some p∧p.code=c:=fun c h=>by
              cases hp:parK ss a with
              | none=>rw[upsL_none hp] at h;simp at h
              | some p=>
               rw[upsL_some hp] at h
               simp only[List.getElem?_cons_zero,Option.some.injEq] at h
               exact⟨p,rfl,h⟩
             have hut:t≤100:=by
              have:∀(k:Nat) (b:Sh),(upsL ss k b).length≤k:=fun k=>by
               induction k with
               | zero=>intro b;exact Nat.le_refl _
               | succ k ih=>
                intro b
                cases hp:parK ss b with
                | none=>rw[upsL_none hp];exact Nat.zero_le _
                | some p=>rw[upsL_some hp];exact Nat.succ_le_succ (ih p)
              have h:=this (m+1) a
              rw[HUL.out] at h
              omega
             have hul:=HUL.out
             obtain⟨U,hU⟩:∃U,U=upsL ss (m+1) a:=⟨_,rfl⟩
             rw[←hU] at hu1 hu3 hul H4
             have HU:=Lib.hid (And.intro hul (And.intro hu1 (And.intro hu2 hu3)))
             clear ho H3 HFB HF hu1 hu2 hu3 hU HUL hul
             go_wp2
             go_loopw [24] (fun v24 wr=>∃j:Nat,j≤m∧v24=.int .i64 (j:Int)∧MoAt [⟨3,1,.slice e t d,t,icC U⟩] [(BA,shC a)] W9 wr) (fun v24 _=>m-(intOf v24).toNat)
             case atStart=>exact⟨0,Nat.zero_le _,rfl,H4.out⟩
             case round=>
              as_aux_lemma=>
               obtain⟨j,hjm,rfl,ho⟩:=hrel
               have H5:=Lib.hid ho
               clear ho H4
               by_cases hjl:j<m
               case neg=>
                have hje:m=j:=by omega
                subst hje
                have t6:decide ((m:Int)<(m:Int))=false:=decide_eq_false (by omega)
                go_wp2
                exact⟨⟨i+1,by omega,by go_num,H5.out.az.sub (fun y hy=>nomatch hy)⟩,by simp only[intOf];omega⟩
               case pos=>
                have t6:decide ((j:Int)<(m:Int))=true:=decide_eq_true (by omega)
                have j1:(j:Int)<(m:Int):=by omega
                have j2:(0:Int)≤(j:Int):=by omega
                obtain⟨b',hb'⟩:∃b',ss[j]?=some b':=⟨ss[j]'(by rw[HS.out.2.2];exact hjl),List.getElem?_eq_getElem _⟩
                have hbm:b'∈ss:=List.mem_of_getElem? hb'
                obtain⟨sb',so',hsa,hsb',b0',b1',b2',b3',b4',b5',b6',b7',b8',b9',b10'⟩:=(HSS.out.below H5.out.az.bw).sh hb'
                cases hsa
                have HBM:=Lib.hid hbm
                clear hb' hbm
                go_upto_region 43 with fail
                obtain⟨WB,hWB⟩:∃V,V=wr.alloc (.cells #[.int .i64 b'.code,.int .i64 b'.kind,.int .i64 b'.rect.x,.int .i64 b'.rect.y,.int .i64 b'.rect.w,.int .i64 b'.rect.h,.int .i64 b'.a.x,.int .i64 b'.a.y,.int .i64 b'.b.x,.int .i64 b'.b.y,.string b'.word] 30):=⟨_,rfl⟩
                obtain⟨BB,hBB⟩:∃V,V=wr.heap.size:=⟨_,rfl⟩
                have HB5:=Lib.hid (show MoAt [⟨3,1,.slice e t d,t,icC U⟩] [(BB,shC b'),(BA,shC a)] W9 WB from by rw[hWB,hBB];exact H5.out.push (shC b') 30)
                rw[←hWB,←hBB]
                clear hWB hBB H5 hsb' b0' b1' b2' b3' b4' b5' b6' b7' b8' b9' b10' t6
                obtain⟨hv,hhv⟩:∃h:Bool,h=holdsL b' a:=⟨_,rfl⟩
                have HHV:=Lib.hid hhv
                clear hhv
                go_cut [26] from 187 to 217 (fun v26 wX=>v26=.bool hv∧MoAt [⟨3,1,.slice e t d,t,icC U⟩] [(BB,shC b'),(BA,shC a)] W9 wX)
                case first=>
                 as_aux_lemma=>
                  have KI:=Lib.hid (fun W=>aAJ a.rect b'.rect W)
                  have t3:∀W,(Op.equalIn 10000 26 (.agg #[.int .i64 a.rect.x,.int .i64 a.rect.y,.int .i64 a.rect.w,.int .i64 a.rect.h]) (.agg #[.int .i64 b'.rect.x,.int .i64 b'.rect.y,.int .i64 b'.rect.w,.int .i64 b'.rect.h])).run Tryz.prog W=Result.ok (decide (a.rect=b'.rect)) W:=fun W=>eq_rc 9998 a.rect b'.rect W
                  have hh:=HHV.out
                  unfold holdsL at hh
                  obtain⟨k3,hk3⟩:∃c,c=decide (a.rect=b'.rect):=⟨_,rfl⟩
                  rw[←hk3] at hh
                  simp only[←hk3] at t3
                  obtain⟨ki,hki⟩:∃c,c=jG_ a.rect b'.rect:=⟨_,rfl⟩
                  rw[←hki] at hh KI
                  have HH:=Lib.hid hh
                  clear hk3 hki hh
                  have c0':=HB5.out.az.ce 1 0 rfl rfl
                  have d0':=HB5.out.az.ce 0 0 rfl rfl
                  have d1':=HB5.out.az.ce 0 1 rfl rfl
                  have c2':=HB5.out.az.ce 1 2 rfl rfl
                  have c3':=HB5.out.az.ce 1 3 rfl rfl
                  have c4':=HB5.out.az.ce 1 4 rfl rfl
                  have c5':=HB5.out.az.ce 1 5 rfl rfl
                  have d2':=HB5.out.az.ce 0 2 rfl rfl
                  have d3':=HB5.out.az.ce 0 3 rfl rfl
                  have d4':=HB5.out.az.ce 0 4 rfl rfl
                  have d5':=HB5.out.az.ce 0 5 rfl rfl
                  rcases hold6 (b'.kind==2) (b'.code != a.code) ki k3 (decide (b'.code<a.code)) with ⟨c1,HE⟩|⟨c1,c2,HE⟩|⟨c1,c2,rfl,HE⟩|⟨c1,c2,rfl,rfl,HE⟩|⟨c1,c2,rfl,rfl,k4,HE⟩|⟨c1,c2,rfl,rfl,k4,HE⟩
                  all_goals
                   go_wp2_with (first
                    | (go_at_call 30;(with_reducible refine(KI.out _).mono ?_);rintro e w1 ⟨rfl,hb⟩;have HJ:=Lib.hid (HB5.out.below hb);have v0:=HJ.out.az.ce 1 0 rfl rfl;have v2:=HJ.out.az.ce 1 2 rfl rfl;have v3:=HJ.out.az.ce 1 3 rfl rfl;have v4:=HJ.out.az.ce 1 4 rfl rfl;have v5:=HJ.out.az.ce 1 5 rfl rfl;have q0:=HJ.out.az.ce 0 0 rfl rfl;have q2:=HJ.out.az.ce 0 2 rfl rfl;have q3:=HJ.out.az.ce 0 3 rfl rfl;have q4:=HJ.out.az.ce 0 4 rfl rfl;have q5:=HJ.out.az.ce 0 5 rfl rfl;clear hb)
                    | fail)
                   go_meet
                   have hh:=HH.out
                   rw[HE.out] at hh
                   subst hh
                   first
                    | exact⟨rfl,HJ.out⟩
                    | exact⟨rfl,HB5.out⟩
                case rest=>
                 as_aux_lemma=>
                  obtain⟨rfl,ho⟩:=hcut
                  have H6:=Lib.hid ho
                  clear ho HB5
                  go_wp2
                  go_loopw [27] (fun v27 wr=>∃q:Nat,q≤t∧v27=.int .i64 (q:Int)∧MoAt [⟨3,1,.slice e t d,t,icC U⟩] [(BB,shC b'),(BA,shC a)] W9 wr) (fun v27 _=>t-(intOf v27).toNat)
                  case atStart=>exact⟨0,Nat.zero_le _,rfl,H6.out⟩
                  case round=>
                   obtain⟨q,hqt,rfl,ho⟩:=hrel
                   have H7:=Lib.hid ho
                   clear ho H6
                   by_cases hql:q<t
                   case pos=>
                    have t5:decide ((q:Int)<(t:Int))=true:=decide_eq_true (by omega)
                    have q1:(q:Int)<(t:Int):=by omega
                    have q2:(0:Int)≤(q:Int):=by omega
                    obtain⟨u,hu⟩:∃u,U[q]?=some u:=⟨U[q]'(by rw[HU.out.1];exact hql),List.getElem?_eq_getElem _⟩
                    obtain⟨p,hpm,hpc,hpa⟩:=HU.out.2.1 u (List.mem_of_getElem? hu)
                    have hbp:(u==b'.code)=true→hv=true:=fun h=>by
                     have hpb:p=b':=hF_ HLD.out.dst hpm HBM.out (hpc.trans (eq_of_beq h))
                     rw[HHV.out,holdsL_eq,←hpb]
                     exact hpa
                    obtain⟨ue,uc,hue,hucs,-⟩:=H7.out.slice List.mem_cons_self
                    simp only[Value.slice.injEq] at hue
                    obtain⟨rfl,-,rfl⟩:=hue
                    obtain⟨ub,uo,rfl,hub,u0⟩:=hucs.row q _ (wN_ hu)
                    have d0':=H7.out.az.ce 0 0 rfl rfl
                    clear hu hpm hpc hpa hucs hub
                    cases hcb:(u==b'.code) with
                    | true=>
                     obtain rfl:hv=true:=hbp hcb
                     clear hbp
                     go_wp2
                     go_quiet (fail)
                     go_wp2
                     exact⟨⟨q+1,by omega,by go_num,H7.out.below ⟨rfl,rfl,rfl,Nat.le_refl _,fun _ _=>rfl⟩⟩,by simp only[intOf];omega⟩
                    | false=>
                     clear hbp
                     go_wp2
                     go_quiet (fail)
                     go_wp2
                     exact⟨⟨q+1,by omega,by go_num,H7.out.below ⟨rfl,rfl,rfl,Nat.le_refl _,fun _ _=>rfl⟩⟩,by simp only[intOf];omega⟩
                   case neg=>
                    have hqe:t=q:=by omega
                    subst hqe
                    have t5:decide ((t:Int)<(t:Int))=false:=decide_eq_false (by omega)
                    cases hv with
                    | false=>
                     go_wp2
                     exact⟨⟨j+1,by omega,by go_num,H7.out.sub (by simp)⟩,by simp only[intOf];omega⟩
                    | true=>
                     have hba:bQ_ b' a=true:=by rw[←holdsL_eq];exact HHV.out.symm
                     have ht0:0<t:=by
                      rcases Nat.eq_zero_or_pos t with h|h
                      ·have:=parK_none (HU.out.2.2.1 h) b' HBM.out
                       rw[hba] at this
                       cases this
                      ·exact h
                     have t4:((t:Int)==0)=false:=beq_eq_false_iff_ne.2 (by omega)
                     obtain⟨u,hu⟩:∃u,U[0]?=some u:=⟨U[0]'(by rw[HU.out.1];exact ht0),List.getElem?_eq_getElem _⟩
                     obtain⟨p,hpa,hpc⟩:=HU.out.2.2.2 u hu
                     have HP:=Lib.hid (And.intro (eH_ hpa).1 (And.intro hpc (parK_min hpa b' HBM.out hba)))
                     have HUU:=Lib.hid hu
                     clear hba hu hpa hpc
                     go_wp2
                     go_loopw [28] (fun v28 wr=>∃r:Nat,r≤m∧v28=.int .i64 (r:Int)∧MoAt [⟨3,1,.slice e t d,t,icC U⟩] [(BB,shC b'),(BA,shC a)] W9 wr) (fun v28 _=>m-(intOf v28).toNat)
                     case atStart=>exact⟨0,Nat.zero_le _,rfl,H7.out⟩
                     case round=>
                      obtain⟨r,hrm,rfl,ho⟩:=hrel
                      have H8:=Lib.hid ho
                      clear ho H7
                      by_cases hrl:r<m
                      case neg=>
                       have hre:m=r:=by omega
                       subst hre
                       have t3:decide ((m:Int)<(m:Int))=false:=decide_eq_false (by omega)
                       go_wp2
                       exact⟨⟨j+1,by omega,by go_num,H8.out.sub (by simp)⟩,by simp only[intOf];omega⟩
                      case pos=>
                       have t3:decide ((r:Int)<(m:Int))=true:=decide_eq_true (by omega)
                       have r1:(r:Int)<(m:Int):=by omega
                       have r2:(0:Int)≤(r:Int):=by omega
                       have q1:(0:Int)<(t:Int):=by omega
                       obtain⟨s,hs⟩:∃s,ss[r]?=some s:=⟨ss[r]'(by rw[HS.out.2.2];exact hrl),List.getElem?_eq_getElem _⟩
                       have hsm:s∈ss:=List.mem_of_getElem? hs
                       obtain⟨eb,eo,hsa,heb,e0',e1',e2',e3',e4',e5',e6',e7',e8',e9',e10'⟩:=(HSS.out.below H8.out.az.bw).sh hs
                       cases hsa
                       obtain⟨ue,uc,hue,hucs,-⟩:=H8.out.slice List.mem_cons_self
                       simp only[Value.slice.injEq] at hue
                       obtain⟨rfl,-,rfl⟩:=hue
                       obtain⟨ub,uo,rfl,hub,u0⟩:=hucs.row 0 _ (wN_ HUU.out)
                       rw[Nat.add_zero] at u0
                       have d4':=H8.out.az.ce 0 4 rfl rfl
                       have d5':=H8.out.az.ce 0 5 rfl rfl
                       have hsb:=HV.out.2.2 s hsm
                       have hbb:=HV.out.2.2 b' HBM.out
                       have hle:(s.code==u)=true→decide (dM_ b'<dM_ s)=false:=fun h=>by
                        have hsp:s=p:=hF_ HLD.out.dst hsm HP.out.1 ((eq_of_beq h).trans HP.out.2.1.symm)
                        rw[hsp]
                        exact decide_eq_false (by have:=HP.out.2.2;omega)
                       have w1:0≤s.rect.w*s.rect.h:=Int.mul_nonneg hsb.1 hsb.2.2.1
                       have w2:s.rect.w*s.rect.h≤350*350:=Int.mul_le_mul hsb.2.1 hsb.2.2.2 hsb.2.2.1 (by decide)
                       have w3:0≤b'.rect.w*b'.rect.h:=Int.mul_nonneg hbb.1 hbb.2.2.1
                       have w4:b'.rect.w*b'.rect.h≤350*350:=Int.mul_le_mul hbb.2.1 hbb.2.2.2 hbb.2.2.1 (by decide)
                       unfold dM_ at hle
                       clear hucs hub heb hs hsm hsb hbb e1' e2' e3' e6' e7' e8' e9' e10'
                       cases hcb:(s.code==u) with
                       | true=>
                        have t2:=hle hcb
                        clear hle
                        go_wp2
                        go_quiet (fail)
                        go_wp2
                        exact⟨⟨r+1,by omega,by go_num,H8.out.below ⟨rfl,rfl,rfl,Nat.le_refl _,fun _ _=>rfl⟩⟩,by simp only[intOf];omega⟩
                       | false=>
                        clear hle
                        go_wp2
                        go_quiet (fail)
                        go_wp2
                        exact⟨⟨r+1,by omega,by go_num,H8.out.below ⟨rfl,rfl,rfl,Nat.le_refl _,fun _ _=>rfl⟩⟩,by simp only[intOf];omega⟩
end Go.Proofs.YtdkaohphbgdkpaaGreatDoor
