/-
  The law SpeechLess, of chapter 27: the walk.
-/
import Derived.Deep.CutBlock
import Derived.Deep.CutRange
import Derived.Test.YtdkaohphbgdkpaaGreatDoorWVe
set_option linter.unusedSimpArgs false
set_option linter.unusedVariables false
namespace Go.Proofs.YtdkaohphbgdkpaaGreatDoor
open Go.RowKit Go.Shelf Go.Sort
attribute [local go_sem] Oper.semAt_some
theorem shapes27_rc {a:Option Addr} {n c:Nat} {xs:List Q5} (hl:xs.length=n) (w:World) (h:X5At a xs w) :
  Calls Tryz.prog 12 #[.slice a n c] w fun e W'=>(∃a' c',e=.returned (.slice a' (shs5 xs (min n 9)).length c')∧ShsAt a' (shs5 xs (min n 9)) W'∧(shs5 xs (min n 9)).length≤c')∧Below w.heap.size w W':=by
 refine(rS_ hl w h).mono ?_
 rintro e W' ⟨a',c',rfl,ho⟩
 obtain⟨b,c,e,hc,hle⟩:=(MoAt.of_os ho).slice List.mem_cons_self
 cases e
 exact⟨⟨a',c',rfl,ShsAt.of hc,hle⟩,ho.az.bw⟩
theorem ssC_src {a:Option Addr} {ss:List Sh} {W:World} {sb so:Nat} (h:ShsAt a ss W) (ha:a=some ⟨sb,so,none⟩) (k:Nat) (l:List Sh) (hl:∀(j:Nat) (s:Sh),l[j]?=some s→ss[k+j]?=some s):∀(j:Nat) (u:Value),(ssC l)[j]?=some u→W.cell? ((⟨sb,so+k*11,none⟩:Addr).add j)=some u:=by
 subst ha
 intro j u hj
 have hlt:j<l.length*11:=by have:=(List.getElem?_eq_some_iff.1 hj).1;rwa[ssC_len11] at this
 have hq:j/11<l.length:=by omega
 have hs:=List.getElem?_eq_getElem hq
 have hu:(shC l[j/11])[j%11]?=some u:=by
  have hr:j%11<11:=Nat.mod_lt _ (by decide)
  have hx:(shC l[j/11])[j%11]?=some ((shC l[j/11])[j%11]'(by show j%11<11;exact hr)):=List.getElem?_eq_getElem _
  have:=uD_ hs (j%11) _ hx
  rw[show j/11*11+j%11=j by omega,hj] at this
  rw[hx,this]
 obtain⟨b,o,e,_,hc⟩:=h.row _ _ (hl _ _ hs)
 cases e
 have:=hc (j%11) u hu
 rw[show(⟨sb,so+k*11,none⟩:Addr).add j=⟨sb,so+k*11+j,none⟩ by unfold Addr.add;split <;> simp_all]
 rw[show so+k*11+j=so+(k+j/11)*11+j%11 by omega]
 exact this
set_option maxHeartbeats 32000000 in
set_option maxRecDepth 100000 in
theorem speechLess_s {a:Option Addr} {n c:Nat} {xs:List Q5} (which:Int) (hwh:inI which) (hn:xs.length=n) (w:World) (h:X5At a xs w) (hq:OkW w) :
  Calls Tryz.prog 10 #[.slice a n c,.int .i64 which] w fun e W'=>e=.returned (.bool true)∧Below w.heap.size w W':=by
 have hmx:Tryz.prog.follows .mixedOrders=true:=by kernel_rfl
 have HX:=Lib.hid (And.intro h (And.intro hq hn))
 have KK:=Lib.hid (show ∀(k:Nat),0<k→k≤9→∀W:World,Calls Tryz.prog 15 #[.int .i64 which,.int .i64 (k:Int)] W fun e W'=>e=.returned (.int .i64 (aI_ which k:Nat))∧Below W.heap.size W W' from fun k h0 h9 W=>lQ_ which k hwh.1 hwh.2 h0 (by omega) W)
 clear h hq hn hwh
 go_enter Tryz.func10,Tryz.ntmps10
 go_upto_region 4 with (first
  | (go_at_call 11;(with_reducible refine(lM_ HX.out.2.1).mono ?_);rintro e u1 ⟨rfl,hb1⟩;have H1:=Lib.hid hb1;clear hb1)
  | (go_at_call 12;(with_reducible refine(shapes27_rc HX.out.2.2 _ (HX.out.1.below H1.out)).mono ?_);rintro e u2 ⟨⟨a',c',rfl,hs,hle⟩,hb⟩;have H2:=Lib.hid (And.intro (H1.out.trans (hb.mono H1.out.size)) (And.intro hs hle));clear hb hs hle)
  | fail)
 obtain⟨ss,hss⟩:∃ss,ss=shs5 xs (min n 9):=⟨_,rfl⟩
 have hl:bI_ ss=true:=by rw[hss];exact nF_ xs (by omega)
 have ha:ss.Pairwise (fun a b=>a.code<b.code):=by rw[hss];exact hW_ xs _
 have hd:Dist ss:=gC_ ha
 have hm9:ss.length≤9:=by rw[hss,gK_];omega
 rw[←hss] at H2⊢
 obtain⟨m,hm⟩:∃m,ss.length=m:=⟨_,rfl⟩
 have hmc:=H2.out.2.2
 rw[hm] at hm9 hmc⊢
 have HLD:=Lib.hid (show Ld ss from⟨cL_ hl,hd⟩)
 have HS:=Lib.hid (And.intro hl (And.intro hd (And.intro hm ha)))
 clear hss hl hd hm ha H1
 by_cases hm0:m=0
 ·have t0:((m:Int)==0)=true:=by rw[beq_iff_eq];omega
  go_wp2
  go_ret
  exact⟨rfl,H2.out.1⟩
 have t0:((m:Int)==0)=false:=by rw[beq_eq_false_iff_ne];omega
 have hmp:0<m:=by omega
 have K1:=Lib.hid (KK.out m hmp hm9)
 have hkk:=aV_ which (n:=m) hmp
 generalize aI_ which m=kk at *
 obtain⟨t,ht⟩:∃t,ss[kk]?=some t:=⟨ss[kk]'(by rw[HS.out.2.2.1];exact hkk),List.getElem?_eq_getElem _⟩
 have HT:=Lib.hid ht
 clear KK ht hm0
 go_upto_region 7 with (first
  | (go_at_call 15;(with_reducible refine(K1.out _).mono ?_);rintro e u3 ⟨rfl,hb⟩;have H3:=Lib.hid (And.intro (H2.out.1.trans (hb.mono H2.out.1.size)) (H2.out.2.1.below hb));clear hb)
  | fail)
 have HB3:=Lib.hid (HX.out.2.1.below H3.out.1)
 have HS0:=Lib.hid (AzAt.start u3)
 clear H2 K1 t0
 go_wp2
 go_loopw [7] (fun v7 wr=>∃i:Nat,i≤m∧v7=.int .i64 (i:Int)∧Hid (∀(j:Nat) (s:Sh),j<i→ss[j]?=some s→parK ss s≠some t)∧AzAt [] u3 wr) (fun v7 _=>m-(intOf v7).toNat)
 case atStart=>exact⟨0,Nat.zero_le _,rfl,Lib.hid (fun j s h=>absurd h (Nat.not_lt_zero _)),HS0.out⟩
 case round=>
  obtain⟨i,him,rfl,HNO,ho⟩:=hrel
  have H4:=Lib.hid ho
  clear ho HS0
  obtain⟨sb,so,hsa,hsb,y0,-⟩:=(H3.out.2.below H4.out.bw).sh HT.out
  subst hsa
  by_cases hlt:i<m
  case pos=>
   obtain⟨s,hs⟩:∃s,ss[i]?=some s:=⟨ss[i]'(by rw[HS.out.2.2.1];exact hlt),List.getElem?_eq_getElem _⟩
   obtain⟨sb',so',hsa,hsb',x0,-⟩:=(H3.out.2.below H4.out.bw).sh hs
   cases hsa
   have KP:=Lib.hid (fun(W:World) (hb:Below u3.heap.size u3 W)=>qR_ (cap:=c') HS.out.2.2.1 HS.out.1 HS.out.2.1 hs W (H3.out.2.below hb) (HB3.out.below hb))
   have i1:(0:Int)≤(i:Int):=by omega
   have i2:(i:Int)<(m:Int):=by omega
   have i3:(0:Int)≤(kk:Int):=by omega
   have i4:(kk:Int)<(m:Int):=by omega
   have t9:decide ((i:Int)<(m:Int))=true:=decide_eq_true i2
   have HSI:=Lib.hid hs
   clear hs
   cases hp:parK ss s with
   | none=>
    rw[hp] at KP
    have HPN:=Lib.hid hp
    clear hp
    go_wp2_with (first
     | (go_at_call 21;(with_reducible refine(KP.out _ H4.out.bw).mono ?_);rintro e u5 ⟨rfl,hb⟩;have H5:=Lib.hid (H4.out.below hb);clear hb)
     | fail)
    refine⟨⟨i+1,by omega,by go_num,Lib.hid (fun j s' hj hs'=>?_),H5.out⟩,by simp only[intOf];omega⟩
    by_cases hji:j=i
    ·subst hji
     rw[HSI.out] at hs'
     cases hs'
     rw[HPN.out]
     simp
    ·exact HNO.out j s' (by omega) hs'
   | some p=>
    rw[hp] at KP
    have HPN:=Lib.hid hp
    have KP2:=Lib.hid (show ∀(W:World) (hb:Below u3.heap.size u3 W),Calls Tryz.prog 21 #[.slice (some ⟨sb,so,none⟩) m c',.int .i64 s.code] W fun e W'=>e=.returned (.tuple #[.int .i64 p.code,.bool true,.int .i64 0])∧Below W.heap.size W W' from KP.out)
    clear hp KP
    by_cases hpt:p.code=t.code
    ·have t8:(p.code==t.code)=true:=beq_iff_eq.2 hpt
     clear hpt
     go_wp2_with (first
      | (go_at_call 21;(with_reducible refine(KP2.out _ H4.out.bw).mono ?_);rintro e u5 ⟨rfl,hb⟩;have H5:=Lib.hid (H4.out.below hb);have y5:=(hb.cell (p:=⟨sb,so+kk*11,none⟩) hsb).trans y0;clear hb)
      | fail)
     go_ret
     exact⟨rfl,H3.out.1.trans (H5.out.bw.mono H3.out.1.size)⟩
    ·have t8:(p.code==t.code)=false:=beq_eq_false_iff_ne.2 hpt
     have HPT:=Lib.hid hpt
     clear hpt
     go_wp2_with (first
      | (go_at_call 21;(with_reducible refine(KP2.out _ H4.out.bw).mono ?_);rintro e u5 ⟨rfl,hb⟩;have H5:=Lib.hid (H4.out.below hb);have y5:=(hb.cell (p:=⟨sb,so+kk*11,none⟩) hsb).trans y0;clear hb)
      | fail)
     refine⟨⟨i+1,by omega,by go_num,Lib.hid (fun j s' hj hs'=>?_),H5.out⟩,by simp only[intOf];omega⟩
     by_cases hji:j=i
     ·subst hji
      rw[HSI.out] at hs'
      cases hs'
      rw[HPN.out]
      intro e
      cases e
      exact HPT.out rfl
     ·exact HNO.out j s' (by omega) hs'
  case neg=>
   have hie:m=i:=by omega
   subst hie
   have t9:decide ((m:Int)<(m:Int))=false:=decide_eq_false (by omega)
   have HK:=Lib.hid (show ∀s∈ss,parK ss s≠some t from fun s hs=>by
    obtain⟨j,hj,e⟩:=List.mem_iff_getElem.1 hs
    exact HNO.out j s (by rw[←HS.out.2.2.1];exact hj) (by rw[List.getElem?_eq_getElem hj,e]))
   clear HNO y0
   go_upto_region 15 with fail
   have HL:=Lib.hid (show MoAt [⟨30,11,.slice (some ⟨wr.heap.size,0,none⟩) 0 0,0,ssC []⟩] [] u3 (wr.drew.alloc (.cells #[] 30)) from MoAt.lit (MoAt.start H4.out.drew) 30 11 0 [] rfl (by omega))
   have hlk:(ss.take kk).length=kk:=by rw[List.length_take,HS.out.2.2.1];omega
   have hld:(ss.drop (kk+1)).length=m-(kk+1):=by rw[List.length_drop,HS.out.2.2.1]
   have HLN:=Lib.hid (And.intro hlk hld)
   have i1:(0:Int)≤(kk:Int):=by omega
   have i2:(kk:Int)≤(m:Int):=by omega
   have i3:(kk:Int)≤(c':Int):=by omega
   have i4:(kk:Int)+1≤(m:Int):=by omega
   have i5:(m:Int)≤(c':Int):=by omega
   have i6:(0:Int)≤(kk:Int)+1:=by omega
   have g1:IntKind.i64.wrap ((kk:Int)+1)=(kk:Int)+1:=IntWalk.i64_in _ (by omega)
   clear hlk hld
   have hls:lessS ss kk=([]++ss.take kk)++ss.drop (kk+1):=rfl
   have HLS:=Lib.hid hls
   clear hls
   go_cut [11] from 65 to 74 (fun v11 wX=>∃(b1:Option Addr) (c1:Nat),v11=.slice b1 (m-1) c1∧MoAt [⟨30,11,.slice b1 (m-1) c1,m-1,ssC (lessS ss kk)⟩] [] u3 wX)
   case first=>
    by_cases he:kk+1=c'
    ·have hkm:kk+1=m:=by omega
     have hcm:c'=m:=by omega
     have HD0:=Lib.hid (show ss.drop (kk+1)=[] from List.drop_of_length_le (by rw[HS.out.2.2.1];omega))
     have i8:(c'=kk+1)=True:=eq_true he.symm
     have HE:=Lib.hid (And.intro he (And.intro hkm hcm))
     clear he hkm hcm
     (go_region_law (first
      | (have _:=HA;(refine step_appF_sh rfl (.tmp 69) (.tmp 73) rfl HA.out ⟨sb,so,none⟩ 0 (ts:=[]) (m:=0) rfl (fun j u hj=>by simp[ssC] at hj) (by omega) rfl (by have:=HE.out;simp[Act.eval] <;> omega) ?_);intro b2 c2 w2 h2;have HB:=Lib.hid h2;clear h2)
      | (refine step_appF_sh rfl (.tmp 65) (.tmp 68) rfl HL.out ⟨sb,so,none⟩ c' (ts:=ss.take kk) (m:=kk) HLN.out.1 (by have:=ssC_src (H3.out.2.below HL.out.az.bw) rfl 0 (ss.take kk) (fun j s hj=>by rw[Nat.zero_add];rw[List.getElem?_take] at hj;split at hj;exact hj;cases hj);simp only[Nat.zero_mul,Nat.add_zero] at this;exact this) (by omega) rfl (by simp[Act.eval]) ?_;intro b1 c1 w1 h1;rw[Nat.zero_add] at h1;have HA:=Lib.hid h1;clear h1)
      | fail))
     all_goals
      go_wp2
      go_meet
      refine⟨b2,c2,by rw[show kk=m-1 by have:=HE.out;omega],?_⟩
      have h:=HB.out
      rw[show kk+0=m-1 by have:=HE.out;omega] at h
      have e:lessS ss kk=[]++ss.take kk++[]:=by rw[HLS.out,HD0.out]
      rw[e]
      exact h
    ·have i7:¬((kk:Int)+1=(c':Int)):=by omega
     have i8:¬(kk+1=c'):=he
     (go_region_law (first
      | (have _:=HA;(refine step_appF_sh rfl (.tmp 69) (.tmp 73) rfl HA.out ⟨sb,so+(kk+1)*11,none⟩ (c'-(kk+1)) (ts:=ss.drop (kk+1)) (m:=m-(kk+1)) HLN.out.2 (ssC_src (H3.out.2.below HA.out.az.bw) rfl (kk+1) _ (fun j s hj=>by rw[←List.getElem?_drop];exact hj)) (by omega) rfl (by simp[Act.eval] <;> omega) ?_);intro b2 c2 w2 h2;have HB:=Lib.hid h2;clear h2)
      | (refine step_appF_sh rfl (.tmp 65) (.tmp 68) rfl HL.out ⟨sb,so,none⟩ c' (ts:=ss.take kk) (m:=kk) HLN.out.1 (by have:=ssC_src (H3.out.2.below HL.out.az.bw) rfl 0 (ss.take kk) (fun j s hj=>by rw[Nat.zero_add];rw[List.getElem?_take] at hj;split at hj;exact hj;cases hj);simp only[Nat.zero_mul,Nat.add_zero] at this;exact this) (by omega) rfl (by simp[Act.eval] <;> omega) ?_;intro b1 c1 w1 h1;rw[Nat.zero_add] at h1;have HA:=Lib.hid h1;clear h1)
      | fail))
     all_goals
      go_wp2
      go_meet
      refine⟨b2,c2,by rw[show kk+(m-(kk+1))=m-1 by omega],?_⟩
      have h:=HB.out
      rw[show kk+(m-(kk+1))=m-1 by omega,←HLS.out] at h
      exact h
   case rest=>
    obtain⟨b1,c1,rfl,h5⟩:=hcut
    obtain⟨_,_,e0,s0,-⟩:=h5.slice (r:=⟨30,11,.slice b1 (m-1) c1,m-1,ssC (lessS ss kk)⟩) (by simp)
    cases e0
    have H5:=Lib.hid (And.intro h5.az.bw (ShsAt.of s0))
    have hll:=less_laid HS.out.1 HS.out.2.2.2 kk
    have hlm:(lessS ss kk).length=m-1:=by unfold lessS;rw[List.length_append,HLN.out.1,HLN.out.2];omega
    have HLL:=Lib.hid (And.intro hll hlm)
    have KA:=Lib.hid (fun(W:World) (hb:Below u3.heap.size u3 W)=>say_n (cap:=c') HS.out.2.2.1 HS.out.1 HS.out.2.1 W (H3.out.2.below hb) (HB3.out.below hb))
    have KB:=Lib.hid (fun(W:World) (hb:Below u3.heap.size u3 W) (hS:ShsAt b1 (lessS ss kk) W)=>say_n (cap:=c1) HLL.out.2 HLL.out.1.1 HLL.out.1.2 W hS (HB3.out.below hb))
    obtain⟨x,hx⟩:∃x,x=eN_ ss [] []:=⟨_,rfl⟩
    obtain⟨y,hy⟩:∃y,y=eN_ (lessS ss kk) [] []:=⟨_,rfl⟩
    have HXB:=Lib.hid (show cF_ x=true from by rw[hx];exact said_n HS.out.1 HS.out.2.1)
    have HYB:=Lib.hid (show cF_ y=true from by rw[hy];exact said_n HLL.out.1.1 HLL.out.1.2)
    have HYX:=Lib.hid (show y=⟨x.shapes.filter fun z=>decide (z.code≠t.code),x.inside.filter fun p=>decide (p.1≠t.code),[],[]⟩ from by rw[hx,hy];exact said_less HLD.out HT.out HK.out)
    rw[←hx] at KA
    rw[←hy] at KB
    have KC:=Lib.hid (fun(W:World) (hb:Below u3.heap.size u3 W)=>hear_r HXB.out W (HB3.out.below hb))
    have KD:=Lib.hid (fun(W:World) (hb:Below u3.heap.size u3 W)=>hear_r HYB.out W (HB3.out.below hb))
    obtain⟨n0,hn0⟩:∃q,q=x.shapes.length:=⟨_,rfl⟩
    obtain⟨n1,hn1⟩:∃q,q=x.inside.length:=⟨_,rfl⟩
    obtain⟨n2,hn2⟩:∃q,q=x.member.length:=⟨_,rfl⟩
    obtain⟨n3,hn3⟩:∃q,q=x.leads.length:=⟨_,rfl⟩
    obtain⟨z1,hz1⟩:∃q,q=(mW_ x).size:=⟨_,rfl⟩
    obtain⟨z2,hz2⟩:∃q,q=(mW_ y).size:=⟨_,rfl⟩
    obtain⟨T1,hT1⟩:∃q,q=mW_ x:=⟨_,rfl⟩
    obtain⟨T2,hT2⟩:∃q,q=mW_ y:=⟨_,rfl⟩
    obtain⟨m0,hm0⟩:∃q,q=y.shapes.length:=⟨_,rfl⟩
    obtain⟨m1,hm1⟩:∃q,q=y.inside.length:=⟨_,rfl⟩
    obtain⟨m2,hm2⟩:∃q,q=y.member.length:=⟨_,rfl⟩
    obtain⟨m3,hm3⟩:∃q,q=y.leads.length:=⟨_,rfl⟩
    simp only[←hn0,←hn1,←hn2,←hn3,←hz1] at KC
    simp only[←hm0,←hm1,←hm2,←hm3,←hz2] at KD
    rw[←hT1] at KA KC
    rw[←hT2] at KB KD
    have HLE:=Lib.hid (And.intro (And.intro hn0 (And.intro hn1 (And.intro hn2 hn3))) (And.intro hm0 (And.intro hm1 (And.intro hm2 hm3))))
    clear hn0 hn1 hn2 hn3 hm0 hm1 hm2 hm3 hz1 hz2 hT1 hT2 hx hy hll hlm s0 h5 HL H4
    go_upto_region 22 with (first
     | (have _:=H8;go_at_call 24;(with_reducible refine(KD.out _ H8.out.1).mono ?_);rintro e u9 ⟨⟨q0,k0,q1,k1,q2,k2,q3,k3,rfl,hs,hk⟩,hb⟩;have H9:=Lib.hid (And.intro (H8.out.1.trans (hb.mono H8.out.1.size)) (And.intro (H8.out.2.1.below hb) (And.intro hs (H8.out.2.2.of_block (hb.block _ H8.out.2.2.sz) hb.size))));clear hb hs hk)
     | (have _:=H7;go_at_call 24;(with_reducible refine(KC.out _ H7.out).mono ?_);rintro e u8 ⟨⟨p0,j0,p1,j1,p2,j2,p3,j3,rfl,hs,hk⟩,hb⟩;have H8:=Lib.hid (And.intro ((H7.out.trans (hb.mono H7.out.size)).alloc (Nat.le_trans H7.out.size hb.size) (.cells #[.slice p0 n0 j0,.slice p1 n1 j1,.slice p2 n2 j2,.slice p3 n3 j3] 62)) (And.intro (hs.below ((Below.refl _ _).alloc (Nat.le_refl _) (.cells #[.slice p0 n0 j0,.slice p1 n1 j1,.slice p2 n2 j2,.slice p3 n3 j3] 62))) (ArAt.mk' u8 [.slice p0 n0 j0,.slice p1 n1 j1,.slice p2 n2 j2,.slice p3 n3 j3] 62)));clear hb hs hk)
     | (have _:=H6;go_at_call 16;(with_reducible refine(KB.out _ H6.out.1 H6.out.2).mono ?_);rintro e u7 ⟨rfl,hb⟩;have H7:=Lib.hid (H6.out.1.trans (hb.mono H6.out.1.size));clear hb)
     | (go_at_call 16;(with_reducible refine(KA.out _ H5.out.1).mono ?_);rintro e u6 ⟨rfl,hb⟩;have H6:=Lib.hid (And.intro (H5.out.1.trans (hb.mono H5.out.1.size)) (H5.out.2.below hb));clear hb)
     | fail)
    obtain⟨W9,hW9⟩:∃V,V=u9.alloc (.cells #[.slice q0 m0 k0,.slice q1 m1 k1,.slice q2 m2 k2,.slice q3 m3 k3] 62):=⟨_,rfl⟩
    have hb9:Below u9.heap.size u9 W9:=by rw[hW9];exact(Below.refl _ _).alloc (Nat.le_refl _) _
    have hv9:ArAt u9.heap.size [.slice q0 m0 k0,.slice q1 m1 k1,.slice q2 m2 k2,.slice q3 m3 k3] W9:=by rw[hW9];exact ArAt.mk' u9 [.slice q0 m0 k0,.slice q1 m1 k1,.slice q2 m2 k2,.slice q3 m3 k3] 62
    obtain⟨B16,hB16⟩:∃V,V=u8.heap.size:=⟨_,rfl⟩
    obtain⟨B19,hB19⟩:∃V,V=u9.heap.size:=⟨_,rfl⟩
    have hu9:=H9.out.2.2.2.of_block (hb9.block _ H9.out.2.2.2.sz) hb9.size
    rw[←hB16] at hu9
    rw[←hB19] at hv9
    have HW:=Lib.hid (H9.out.1.trans (hb9.mono H9.out.1.size))
    have HSX:=Lib.hid (And.intro (H3.out.2.below HW.out) (And.intro (H9.out.2.1.below hb9) (H9.out.2.2.1.below hb9)))
    have HBU:=Lib.hid hu9
    have HBV:=Lib.hid hv9
    rw[←hW9,←hB16,←hB19]
    have hm0':=(((MoAt.start (AzAt.start W9)).addNil 58 2).addNil 30 11).push [.slice none 0 0,.slice none 0 0,.slice none 0 0,.slice none 0 0] 62
    have HM0:=Lib.hid hm0'
    clear hW9 hb9 hv9 hu9 hB16 hB19 hm0' H5 H6 H7 H8 H9 KA KB KC KD
    go_wp2
    obtain⟨WA,hWA⟩:∃V,V=W9.alloc (.cells #[.slice none 0 0,.slice none 0 0,.slice none 0 0,.slice none 0 0] 62):=⟨_,rfl⟩
    obtain⟨B22,hB22⟩:∃V,V=W9.heap.size:=⟨_,rfl⟩
    have HB22:=Lib.hid (show W9.heap.size≤B22 by omega)
    rw[←hWA,←hB22] at HM0⊢
    clear hWA hB22
    go_loopw [23] (fun v23 wr=>∃(i r0:Nat) (e0:Option Addr) (d0:Nat),i≤n0∧v23=.int .i64 (i:Int)∧Hid (r0≤i)∧MoAt [⟨30,11,.slice e0 r0 d0,r0,ssC ((x.shapes.take i).filter fun z=>decide (z.code≠t.code))⟩,⟨58,2,.slice none 0 0,0,psC []⟩] [(B22,[.slice e0 r0 d0,.slice none 0 0,.slice none 0 0,.slice none 0 0])] W9 wr) (fun v23 _=>n0-(intOf v23).toNat)
    case atStart=>exact⟨0,0,none,0,Nat.zero_le _,rfl,Lib.hid (Nat.le_refl _),HM0.out⟩
    case round=>
     obtain⟨i,r0,e0,d0,hin,rfl,HRI,ho⟩:=hrel
     have HA:=Lib.hid ho
     clear ho HM0
     have x0:=(HA.out.az.bw.cell (p:=⟨B16,0,none⟩) HBU.out.sz).trans (HBU.out.row 0 _ rfl)
     have x1:=(HA.out.az.bw.cell (p:=⟨B16,1,none⟩) HBU.out.sz).trans (HBU.out.row 1 _ rfl)
     have hn60:n0≤60:=by
      have:=(cP_ HXB.out).1.n
      rw[HLE.out.1.1]
      unfold stOf at this
      simpa using this
     by_cases hlt2:i<n0
     case pos=>
      obtain⟨z,hz⟩:∃z,x.shapes[i]?=some z:=⟨x.shapes[i]'(by rw[←HLE.out.1.1];exact hlt2),List.getElem?_eq_getElem _⟩
      obtain⟨ub,uo,hua,hub,z0',z1',z2',z3',z4',z5',z6',z7',z8',z9',z10'⟩:=(HSX.out.2.1.s.below HA.out.az.bw).sh hz
      subst hua
      obtain⟨sb',so',hsa,hsb',y0,-⟩:=(HSX.out.1.below HA.out.az.bw).sh HT.out
      cases hsa
      have HZ:=Lib.hid hz
      have HTK:=Lib.hid (show x.shapes.take (i+1)=x.shapes.take i++[z] by rw[List.take_add_one,hz];rfl)
      have j1:(0:Int)≤(i:Int):=by omega
      have j2:(i:Int)<(n0:Int):=by omega
      have j3:(0:Int)≤(kk:Int):=by omega
      have j4:(kk:Int)<(m:Int):=by omega
      have t7:decide ((i:Int)<(n0:Int))=true:=decide_eq_true j2
      clear hz
      by_cases hzt:z.code=t.code
      case pos=>
       have t8:(z.code==t.code)=true:=beq_iff_eq.2 hzt
       have HZT:=Lib.hid hzt
       clear hzt
       go_wp2
       go_region
       go_wp2
       refine⟨⟨i+1,r0,e0,d0,by omega,by go_num,Lib.hid (by have:=HRI.out;omega),?_⟩,by simp only[intOf];omega⟩
       rw[HTK.out,List.filter_append,List.filter_cons_of_neg (by rw[HZT.out];simp),List.filter_nil,List.append_nil]
       exact HA.out.drewN 1
      case neg=>
       have t8:(z.code==t.code)=false:=beq_eq_false_iff_ne.2 hzt
       have HZT:=Lib.hid hzt
       have HFP:=Lib.hid (show((x.shapes.take (i+1)).filter fun z=>decide (z.code≠t.code))=((x.shapes.take i).filter fun z=>decide (z.code≠t.code))++[z] from by rw[HTK.out,List.filter_append];congr 1;simp[hzt])
       clear hzt
       go_wp2
       go_region
       go_upto_region 27 with fail
       obtain⟨WB,hWB⟩:∃V,V=wr.drew:=⟨_,rfl⟩
       have HB:=Lib.hid (show MoAt [⟨30,11,.slice e0 r0 d0,r0,ssC ((x.shapes.take i).filter fun z=>decide (z.code≠t.code))⟩,⟨58,2,.slice none 0 0,0,psC []⟩] [(B22,[.slice e0 r0 d0,.slice none 0 0,.slice none 0 0,.slice none 0 0])] W9 WB from by rw[hWB];exact HA.out.drew)
       rw[←hWB]
       clear hWB x0 x1 y0 z0' z1' z2' z3' z4' z5' z6' z7' z8' z9' z10' HA
       have x0:=(HB.out.az.bw.cell (p:=⟨B16,0,none⟩) HBU.out.sz).trans (HBU.out.row 0 _ rfl)
       have g0:=HB.out.az.ce 0 0 rfl rfl
       obtain⟨ub',uo',hua,hub',z0',z1',z2',z3',z4',z5',z6',z7',z8',z9',z10'⟩:=(HSX.out.2.1.s.below HB.out.az.bw).sh HZ.out
       cases hua
       have hBs:B22<WB.heap.size:=(HB.out.az.row (B22,_) List.mem_cons_self).sz
       have HBB:=Lib.hid (show ∀y∈[(WB.heap.size,shC z)],B22≠y.1 from fun y hy=>by
        rw[List.mem_singleton.1 hy]
        simp only
        omega)
       have HC:=Lib.hid (HB.out.drew.push (shC z) 30)
       first|(go_region_law (first
        | (refine step_app_sh rfl (.tmp 133) (.tmp 139) rfl HC.out z WB.heap.size 1 List.mem_cons_self (by have:=HRI.out;omega) rfl rfl ?_;intro b9 c9 w9 h9;have HJ:=Lib.hid (h9.sub (L':=(B22,[.slice e0 r0 d0,.slice none 0 0,.slice none 0 0,.slice none 0 0])::[(WB.heap.size,shC z)]) (fun y hy=>by simp only[List.mem_cons,List.not_mem_nil,or_false] at hy⊢;exact hy.symm));have z1:=HJ.out.az.ce 0 0 rfl rfl;have f1:=HJ.out.az.cf 0 0 rfl rfl;clear h9)
        | fail)) | fail
       all_goals
        go_wp2
        have HS9:=Lib.hid (HJ.out.set HB22.out HBB.out (i:=0) rfl (.slice b9 (r0+1) c9))
        refine⟨⟨i+1,r0+1,b9,c9,by omega,by go_num,Lib.hid (by have:=HRI.out;omega),?_⟩,by simp only[intOf];omega⟩
        rw[HFP.out]
        exact HS9.out.sub (fun y hy=>by rw[List.mem_singleton.1 hy];exact List.mem_cons_self)
     case neg=>
      have hie:n0=i:=by omega
      subst hie
      have t7:decide ((n0:Int)<(n0:Int))=false:=decide_eq_false (by omega)
      have HF:=Lib.hid (show x.shapes.take n0=x.shapes by rw[HLE.out.1.1,List.take_length])
      go_wp2
      go_loopw [24] (fun v24 wr=>∃(i r1:Nat) (e1:Option Addr) (d1:Nat),i≤n1∧v24=.int .i64 (i:Int)∧Hid (r1≤i)∧MoAt [⟨58,2,.slice e1 r1 d1,r1,psC ((x.inside.take i).filter fun p=>decide (p.1≠t.code))⟩,⟨30,11,.slice e0 r0 d0,r0,ssC (x.shapes.filter fun z=>decide (z.code≠t.code))⟩] [(B22,[.slice e0 r0 d0,.slice e1 r1 d1,.slice none 0 0,.slice none 0 0])] W9 wr) (fun v24 _=>n1-(intOf v24).toNat)
      case atStart=>exact⟨0,0,none,0,Nat.zero_le _,rfl,Lib.hid (Nat.le_refl _),by
       have h:=HA.out.perm (List.Perm.swap _ _ _)
       rw[HF.out] at h
       exact h⟩
      case round=>
       obtain⟨i,r1,e1,d1,hin1,rfl,HRJ,ho⟩:=hrel
       have HP:=Lib.hid ho
       clear ho HA x0
       have x1:=(HP.out.az.bw.cell (p:=⟨B16,1,none⟩) HBU.out.sz).trans (HBU.out.row 1 _ rfl)
       have hn61:n1≤60:=by
        rw[HLE.out.1.2.1]
        have h1:=(cP_ HXB.out).2
        have h2:=(cP_ HXB.out).1.n
        have h3:x.inside.length=(asmD (stOf x)).inside.length:=by rw[h1]
        rw[h3]
        exact Nat.le_trans (List.length_filterMap_le _ _) h2
       by_cases hlt3:i<n1
       case pos=>
        obtain⟨p,hp⟩:∃p,x.inside[i]?=some p:=⟨x.inside[i]'(by rw[←HLE.out.1.2.1];exact hlt3),List.getElem?_eq_getElem _⟩
        obtain⟨ub,uo,hua,hub,p0',p1'⟩:=(HSX.out.2.1.i.below HP.out.az.bw).row i _ hp
        subst hua
        obtain⟨sb',so',hsa,hsb',y0,-⟩:=(HSX.out.1.below HP.out.az.bw).sh HT.out
        cases hsa
        have HPI:=Lib.hid hp
        have HTK:=Lib.hid (show x.inside.take (i+1)=x.inside.take i++[p] by rw[List.take_add_one,hp];rfl)
        have j1:(0:Int)≤(i:Int):=by omega
        have j2:(i:Int)<(n1:Int):=by omega
        have j3:(0:Int)≤(kk:Int):=by omega
        have j4:(kk:Int)<(m:Int):=by omega
        have t6:decide ((i:Int)<(n1:Int))=true:=decide_eq_true j2
        clear hp
        by_cases hzt:p.1=t.code
        case pos=>
         have t8:(p.1==t.code)=true:=beq_iff_eq.2 hzt
         have HFP:=Lib.hid (show((x.inside.take (i+1)).filter fun p=>decide (p.1≠t.code))=((x.inside.take i).filter fun p=>decide (p.1≠t.code)) from by rw[HTK.out,List.filter_append];simp[hzt])
         clear hzt
         go_wp2
         go_region
         go_wp2
         refine⟨⟨i+1,r1,e1,d1,by omega,by go_num,Lib.hid (by have:=HRJ.out;omega),?_⟩,by simp only[intOf];omega⟩
         rw[HFP.out]
         exact HP.out.drewN 1
        case neg=>
         have t8:(p.1==t.code)=false:=beq_eq_false_iff_ne.2 hzt
         have HFP:=Lib.hid (show((x.inside.take (i+1)).filter fun p=>decide (p.1≠t.code))=((x.inside.take i).filter fun p=>decide (p.1≠t.code))++[p] from by rw[HTK.out,List.filter_append];congr 1;simp[hzt])
         clear hzt
         go_wp2
         go_region
         go_upto_region 32 with fail
         obtain⟨WB,hWB⟩:∃V,V=wr.drew:=⟨_,rfl⟩
         have HB:=Lib.hid (show MoAt [⟨58,2,.slice e1 r1 d1,r1,psC ((x.inside.take i).filter fun p=>decide (p.1≠t.code))⟩,⟨30,11,.slice e0 r0 d0,r0,ssC (x.shapes.filter fun z=>decide (z.code≠t.code))⟩] [(B22,[.slice e0 r0 d0,.slice e1 r1 d1,.slice none 0 0,.slice none 0 0])] W9 WB from by rw[hWB];exact HP.out.drew)
         rw[←hWB]
         clear hWB x1 y0 p0' p1' HP
         have x1:=(HB.out.az.bw.cell (p:=⟨B16,1,none⟩) HBU.out.sz).trans (HBU.out.row 1 _ rfl)
         have g1:=HB.out.az.ce 0 1 rfl rfl
         obtain⟨ub',uo',hua,hub',p0',p1'⟩:=(HSX.out.2.1.i.below HB.out.az.bw).row i _ HPI.out
         cases hua
         have hBs:B22<WB.heap.size:=(HB.out.az.row (B22,_) List.mem_cons_self).sz
         have HBB:=Lib.hid (show ∀y∈[(WB.heap.size,[Value.int .i64 p.1,.int .i64 p.2])],B22≠y.1 from fun y hy=>by
          rw[List.mem_singleton.1 hy]
          simp only
          omega)
         have HC:=Lib.hid (HB.out.drew.push [.int .i64 p.1,.int .i64 p.2] 58)
         first|(go_region_law (first
          | (refine step_app_2 rfl (.tmp 162) (.tmp 168) rfl HC.out p WB.heap.size 1 List.mem_cons_self (by have:=HRJ.out;omega) rfl rfl ?_;intro b9 c9 w9 h9;have HJ:=Lib.hid (h9.sub (L':=(B22,[.slice e0 r0 d0,.slice e1 r1 d1,.slice none 0 0,.slice none 0 0])::[(WB.heap.size,[Value.int .i64 p.1,.int .i64 p.2])]) (fun y hy=>by simp only[List.mem_cons,List.not_mem_nil,or_false] at hy⊢;exact hy.symm));have z1:=HJ.out.az.ce 0 1 rfl rfl;have f1:=HJ.out.az.cf 0 1 rfl rfl;clear h9)
          | fail)) | fail
         all_goals
          go_wp2
          have HS9:=Lib.hid (HJ.out.set HB22.out HBB.out (i:=1) rfl (.slice b9 (r1+1) c9))
          refine⟨⟨i+1,r1+1,b9,c9,by omega,by go_num,Lib.hid (by have:=HRJ.out;omega),?_⟩,by simp only[intOf];omega⟩
          rw[HFP.out]
          exact HS9.out.sub (fun y hy=>by rw[List.mem_singleton.1 hy];exact List.mem_cons_self)
       case neg=>
        have hie:n1=i:=by omega
        subst hie
        have t6:decide ((n1:Int)<(n1:Int))=false:=decide_eq_false (by omega)
        have HF1:=Lib.hid (show x.inside.take n1=x.inside by rw[HLE.out.1.2.1,List.take_length])
        have hPf:=HP.out
        rw[HF1.out] at hPf
        obtain⟨wd,hwd⟩:∃wd:SD,wd=⟨x.shapes.filter fun z=>decide (z.code≠t.code),x.inside.filter fun p=>decide (p.1≠t.code),[],[]⟩:=⟨_,rfl⟩
        have hyw:y=wd:=by rw[hwd];exact HYX.out
        obtain⟨_,_,e0',s0,-⟩:=hPf.slice (r:=⟨30,11,.slice e0 r0 d0,r0,ssC (x.shapes.filter fun z=>decide (z.code≠t.code))⟩) (by simp)
        obtain⟨_,_,e1',s1,-⟩:=hPf.slice (r:=⟨58,2,.slice e1 r1 d1,r1,psC (x.inside.filter fun p=>decide (p.1≠t.code))⟩) (by simp)
        cases e0'
        cases e1'
        have l0:r0=wd.shapes.length:=by
         have h:=(hPf.own ⟨30,11,.slice e0 r0 d0,r0,ssC (x.shapes.filter fun z=>decide (z.code≠t.code))⟩ (by simp)).1
         simp only at h
         rw[ssC_len11] at h
         rw[hwd]
         simp only
         omega
        have l1:r1=wd.inside.length:=by
         have h:=(hPf.own ⟨58,2,.slice e1 r1 d1,r1,psC (x.inside.filter fun p=>decide (p.1≠t.code))⟩ (by simp)).1
         simp only at h
         have h2:∀l:List (Int×Int),(psC l).length=l.length*2:=fun l=>by
          induction l with
          | nil=>rfl
          | cons a l ih=>rw[show psC (a::l)=[.int .i64 a.1,.int .i64 a.2]++psC l from rfl,List.length_append,ih];simp only[List.length_cons,List.length_nil];omega
         rw[h2] at h
         rw[hwd]
         simp only
         omega
        have hsd:SdAt e0 e1 none none wd wr:=by rw[hwd];exact⟨ShsAt.of s0,PrsAt.of s1,⟨fun k s h=>by simp at h⟩,⟨fun k s h=>by simp at h⟩⟩
        have hyd:=HSX.out.2.2.below hPf.az.bw
        have hle60:wd.shapes.length≤1000000∧wd.inside.length≤1000000∧wd.member.length≤1000000∧wd.leads.length≤1000000:=by
         have h1:wd.shapes.length≤n0:=by rw[hwd,HLE.out.1.1];exact List.length_filter_le _ _
         have h2:wd.inside.length≤n1:=by rw[hwd,HLE.out.1.2.1];exact List.length_filter_le _ _
         refine⟨by omega,by omega,by rw[hwd];exact Nat.zero_le _,by rw[hwd];exact Nat.zero_le _⟩
        have KS:=Lib.hid (zG_ (a0:=e0) (a1:=e1) (a2:=none) (a3:=none) (b0:=q0) (b1:=q1) (b2:=q2) (b3:=q3) (c0:=d0) (c1:=d1) (c2:=0) (c3:=0) (d0:=k0) (d1:=k1) (d2:=k2) (d3:=k3) (n0:=r0) (n1:=r1) (n2:=0) (n3:=0) (m0:=m0) (m1:=m1) (m2:=m2) (m3:=m3) wd y ⟨l0.symm,l1.symm,by rw[hwd];rfl,by rw[hwd];rfl⟩ ⟨HLE.out.2.1.symm,HLE.out.2.2.1.symm,HLE.out.2.2.2.1.symm,HLE.out.2.2.2.2.symm⟩ (by rw[l0,l1];exact⟨hle60.1,hle60.2.1,Nat.zero_le _,Nat.zero_le _⟩) wr hsd hyd)
        rw[decide_eq_true hyw.symm] at KS
        have y0:=HP.out.az.ce 0 0 rfl rfl
        have y1:=HP.out.az.ce 0 1 rfl rfl
        have y2:=HP.out.az.ce 0 2 rfl rfl
        have y3:=HP.out.az.ce 0 3 rfl rfl
        have v0:=(HP.out.az.bw.cell (p:=⟨B19,0,none⟩) HBV.out.sz).trans (HBV.out.row 0 _ rfl)
        have v1:=(HP.out.az.bw.cell (p:=⟨B19,1,none⟩) HBV.out.sz).trans (HBV.out.row 1 _ rfl)
        have v2:=(HP.out.az.bw.cell (p:=⟨B19,2,none⟩) HBV.out.sz).trans (HBV.out.row 2 _ rfl)
        have v3:=(HP.out.az.bw.cell (p:=⟨B19,3,none⟩) HBV.out.sz).trans (HBV.out.row 3 _ rfl)
        have HE:=Lib.hid (H3.out.1.trans ((HW.out.trans (HP.out.az.bw.mono HW.out.size)).mono H3.out.1.size))
        clear l0 l1 hsd hyd hle60 hyw hwd s0 s1 hPf
        go_wp2_with (first
         | (go_at_call 26;(with_reducible refine(KS.out).mono ?_);rintro e u20 ⟨rfl,hb⟩;have HZ:=Lib.hid (HE.out.trans (hb.mono HE.out.size));clear hb)
         | fail)
        go_ret
        exact⟨rfl,HZ.out⟩
end Go.Proofs.YtdkaohphbgdkpaaGreatDoor
