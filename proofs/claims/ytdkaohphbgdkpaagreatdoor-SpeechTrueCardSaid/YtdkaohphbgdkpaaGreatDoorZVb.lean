/- - -/
import Derived.Deep.CutBlock
import Derived.Deep.CutRange
import Derived.Test.YtdkaohphbgdkpaaGreatDoorZSi
import Derived.Test.YtdkaohphbgdkpaaGreatDoorZSv
set_option linter.unusedSimpArgs false
set_option linter.unusedVariables false
set_option maxHeartbeats 40000000
set_option maxRecDepth 1000000
namespace Go.Proofs.YtdkaohphbgdkpaaGreatDoor
open Go.RowKit Go.Shelf Go.Sort
attribute [local go_sem] Oper.semAt_some
def zrS:Sh:=⟨0,0,zRc,zPl,zPl,⟨#[]⟩⟩
theorem gZ_ {a:Option Addr} {n c:Nat} {xs:List Q5} (hl:xs.length=n) (w:World) (h:X5At a xs w) :
  Calls Tryz.prog 12 #[.slice a n c] w fun e W'=>(∃a' c',e=.returned (.slice a' (shs5 xs (min n 9)).length c')∧ShsAt a' (shs5 xs (min n 9)) W')∧Below w.heap.size w W':=by
 refine(rS_ hl w h).mono ?_
 rintro e W' ⟨a',c',rfl,ho⟩
 obtain⟨b,c,e,hc⟩:=CsAt.own ho
 cases e
 exact⟨⟨a',c',rfl,ShsAt.of hc⟩,ho.az.bw⟩
theorem vL_ {a:Option Addr} {m cap:Nat} {ss:List Sh} (hm:ss.length=m) (hl:bI_ ss=true) (hd:Dist ss) (w:World) (hS:ShsAt a ss w) (hq:OkW w) :
  Calls Tryz.prog 18 #[.slice a m cap] w fun e W'=>(∃b cp,e=.returned (.tuple #[.slice b m cp,.int .i64 0])∧CsAt b (icC ((rdx ss 0).map (·.code))) W')∧Below w.heap.size w W':=by
 have h60:=cR_ hl
 have:=pB_ (cap:=cap) hm (by omega) w hS hq.1 (fun _=>hd)
 unfold kH_ at this
 rw[hl] at this
 refine this.mono ?_
 rintro e W' ⟨b,cp,he,hc,hb⟩
 have e1:((rdx ss 0).map (·.code)).length=m:=by rw[List.length_map,rdx_len ⟨cL_ hl,hd⟩,hm]
 simp only[if_pos] at he hc
 rw[e1] at he
 exact⟨⟨b,cp,he,hc⟩,hb⟩
theorem qR_ {a:Option Addr} {m cap:Nat} {ss:List Sh} (hm:ss.length=m) (hl:bI_ ss=true) (hd:Dist ss) {k:Nat} {t:Sh} (ht:ss[k]?=some t) (w:World) (hS:ShsAt a ss w) (hq:OkW w) :
  Calls Tryz.prog 21 #[.slice a m cap,.int .i64 t.code] w fun e W'=>e=.returned (.tuple #[.int .i64 (orZ (parK ss t)).code,.bool (parK ss t).isSome,.int .i64 0])∧Below w.heap.size w W':=by
 have h60:=cR_ hl
 have:=iW_ (cap:=cap) t.code hm (by omega) w hS hq.1
 rw[rX_ hd hl ht] at this
 exact this
theorem speechOrder_s {a:Option Addr} {n c:Nat} {xs:List Q5} (hn:xs.length=n) (w:World) (h:X5At a xs w) (hq:OkW w) :
  Calls Tryz.prog 7 #[.slice a n c] w fun e W'=>e=.returned (.bool true)∧Below w.heap.size w W':=by
 have hmx:Tryz.prog.follows .mixedOrders=true:=by kernel_rfl
 have HX:=Lib.hid (And.intro h (And.intro hq hn))
 clear h hq hn
 go_enter Tryz.func7,Tryz.ntmps7
 go_upto_region 4 with (first
  | (go_at_call 11;(with_reducible refine(lM_ HX.out.2.1).mono ?_);rintro e u1 ⟨rfl,hb1⟩;have H1:=Lib.hid hb1;clear hb1)
  | (go_at_call 12;(with_reducible refine(gZ_ HX.out.2.2 _ (HX.out.1.below H1.out)).mono ?_);rintro e u2 ⟨⟨a',c',rfl,hs⟩,hb⟩;have H2:=Lib.hid (And.intro (H1.out.trans (hb.mono H1.out.size)) hs);clear hb hs)
  | fail)
 obtain⟨ss,hss⟩:∃ss,ss=shs5 xs (min n 9):=⟨_,rfl⟩
 have hl:bI_ ss=true:=by rw[hss];exact nF_ xs (by omega)
 have hd:Dist ss:=by rw[hss];exact nG_ xs _
 have hm9:ss.length≤9:=by rw[hss,gK_];omega
 rw[←hss] at H2⊢
 obtain⟨m,hm⟩:∃m,ss.length=m:=⟨_,rfl⟩
 rw[hm] at hm9⊢
 have HLD:=Lib.hid (show Ld ss from⟨cL_ hl,hd⟩)
 have HS:=Lib.hid (And.intro hl (And.intro hd hm))
 clear hss hl hd hm
 go_upto_region 9 with (first
  | (go_at_call 18;(with_reducible refine(vL_ HS.out.2.2 HS.out.1 HS.out.2.1 _ H2.out.2 (HX.out.2.1.below H2.out.1)).mono ?_);rintro e u3 ⟨⟨b,cp,rfl,hc⟩,hb⟩;have H3:=Lib.hid (And.intro (H2.out.1.trans (hb.mono H2.out.1.size)) (And.intro (H2.out.2.below hb) hc));clear hb hc)
  | fail)
 have HC:=Lib.hid (HLD.out.chk_rdx)
 have HB3:=Lib.hid (HX.out.2.1.below H3.out.1)
 have hmo:=((MoAt.start (AzAt.start u3)).addNil 3 1).addNil 30 11
 have HM0:=Lib.hid hmo
 clear hmo
 go_wp2
 go_loopw [6,7,8] (fun v6 v7 v8 wr=>∃(i q:Nat) (la:List Sh) (b6 b7:Option Addr) (c6 c7:Nat),i≤m∧v8=.int .i64 (i:Int)∧v6=.slice b6 q c6∧v7=.slice b7 q c7∧Hid (la.length=q∧q≤i)∧Hid (chkO ss la ((rdx ss 0).drop i)=true)∧MoAt [⟨30,11,.slice b7 q c7,q,ssC la⟩,⟨3,1,.slice b6 q c6,q,icC (la.map (·.code))⟩] [] u3 wr) (fun _ _ v8 _=>m-(intOf v8).toNat)
 case atStart=>exact⟨0,0,[],none,none,0,0,Nat.zero_le _,rfl,rfl,rfl,Lib.hid ⟨rfl,Nat.le_refl _⟩,HC,HM0.out⟩
 case round=>
  obtain⟨i,q,la,b6,b7,c6,c7,hi,rfl,rfl,rfl,HLA,HCK,ho⟩:=hrel
  have H4:=Lib.hid ho
  clear ho HC HM0
  by_cases him:i<m
  case neg=>
   have hie:i=m:=by omega
   have t9:decide ((i:Int)<(m:Int))=false:=decide_eq_false (by omega)
   go_wp2
   go_ret
   exact⟨rfl,H3.out.1.trans (H4.out.az.bw.mono H3.out.1.size)⟩
  case pos=>
   obtain⟨t,ht⟩:∃t,(rdx ss 0)[i]?=some t:=⟨(rdx ss 0)[i]'(by rw[rdx_len HLD.out,HS.out.2.2];exact him),List.getElem?_eq_getElem _⟩
   obtain⟨k0,hk0⟩:=rdx_in HLD.out ht
   have hk0m:k0<m:=by rw[←HS.out.2.2];exact(List.getElem?_eq_some_iff.1 hk0).1
   have hdrop:(rdx ss 0).drop i=t::(rdx ss 0).drop (i+1):=by
    obtain⟨h1,e⟩:=List.getElem?_eq_some_iff.1 ht
    rw[List.drop_eq_getElem_cons h1,e]
   have HT:=Lib.hid (And.intro ht (And.intro hk0 hk0m))
   have HCK2:=Lib.hid (xM_ (by rw[←hdrop];exact HCK.out))
   have i1:(0:Int)≤(i:Int):=by omega
   have i2:(i:Int)<(m:Int):=by omega
   have H5:=Lib.hid (H4.out.push [.int .i64 0,.int .i64 0,.int .i64 0,.int .i64 0,.int .i64 0,.int .i64 0,.int .i64 0,.int .i64 0,.int .i64 0,.int .i64 0,.string ⟨#[]⟩] 30)
   clear ht hk0 hdrop HCK
   go_wp2
   obtain⟨W5,hW5⟩:∃V,V=wr.alloc (.cells #[.int .i64 0,.int .i64 0,.int .i64 0,.int .i64 0,.int .i64 0,.int .i64 0,.int .i64 0,.int .i64 0,.int .i64 0,.int .i64 0,.string ⟨#[]⟩] 30):=⟨_,rfl⟩
   obtain⟨B9,hB9⟩:∃V,V=wr.heap.size:=⟨_,rfl⟩
   have HB9:=Lib.hid (show u3.heap.size≤B9 from by rw[hB9];exact H4.out.az.bw.size)
   rw[←hW5,←hB9] at H5⊢
   clear hW5 hB9
   go_loopw [10,11] (fun v10 v11 wq=>∃(k:Nat) (many:Int) (fd:Bool) (s:Sh),k≤m∧v11=.int .i64 (k:Int)∧v10=.int .i64 many∧Hid (fd=decide (k0<k)∧many=(if fd then 1 else 0)∧s=(if fd then t else zrS))∧MoAt [⟨30,11,.slice b7 q c7,q,ssC la⟩,⟨3,1,.slice b6 q c6,q,icC (la.map (·.code))⟩] [(B9,shC s)] u3 wq) (fun _ v11 _=>m-(intOf v11).toNat)
   case atStart=>exact⟨0,0,false,zrS,Nat.zero_le _,rfl,rfl,Lib.hid ⟨by simp,rfl,rfl⟩,H5.out⟩
   case round=>
    obtain⟨k,many,fd,s,hk,rfl,rfl,HF,ho⟩:=hrel
    have H6:=Lib.hid ho
    clear ho
    by_cases hkm:k<m
    case neg=>
     have hke:k=m:=by omega
     have t8:decide ((k:Int)<(m:Int))=false:=decide_eq_false (by omega)
     obtain⟨rfl,rfl,rfl⟩:fd=true∧many=1∧t=s:=by
      have h1:fd=true:=by rw[HF.out.1];exact decide_eq_true (by rw[hke];exact HT.out.2.2)
      have:=HF.out
      rw[h1] at this
      exact⟨h1,this.2.1,this.2.2.symm⟩
     clear HF H5
     go_wp2
     go_loopw [12] (fun v12 wq=>∃k:Nat,k≤i∧v12=.int .i64 (k:Int)∧MoAt [⟨30,11,.slice b7 q c7,q,ssC la⟩,⟨3,1,.slice b6 q c6,q,icC (la.map (·.code))⟩] [(B9,shC t)] u3 wq) (fun v12 _=>i-(intOf v12).toNat)
     case atStart=>exact⟨0,Nat.zero_le _,rfl,H6.out⟩
     case round=>
      obtain⟨k2,hk2,rfl,ho⟩:=hrel
      have H7:=Lib.hid ho
      clear ho H6
      obtain⟨ob,oo,hoa,hob,y0⟩:=(H3.out.2.2.below H7.out.az.bw).row i (.int .i64 t.code) (by unfold icC;rw[List.getElem?_map,List.getElem?_map,HT.out.1];rfl)
      subst hoa
      by_cases hki:k2<i
      case pos=>
       obtain⟨x,hx⟩:∃x,(rdx ss 0)[k2]?=some x:=⟨(rdx ss 0)[k2]'(by rw[rdx_len HLD.out,HS.out.2.2];omega),List.getElem?_eq_getElem _⟩
       obtain⟨ob',oo',hoa,hob',y1⟩:=(H3.out.2.2.below H7.out.az.bw).row k2 (.int .i64 x.code) (by unfold icC;rw[List.getElem?_map,List.getElem?_map,hx];rfl)
       cases hoa
       have t7:(x.code==t.code)=false:=by
        rw[beq_eq_false_iff_ne]
        intro e
        have:=pM_ (qO_ HLD.out) hx HT.out.1 e
        omega
       have i5:(0:Int)≤(k2:Int):=by omega
       have i6:(k2:Int)<(m:Int):=by omega
       have i7:decide ((k2:Int)<(i:Int))=true:=decide_eq_true (by omega)
       clear hx
       go_wp2
       go_region
       go_wp2
       exact⟨⟨k2+1,by omega,by go_num,H7.out.drewN 1⟩,by simp only[intOf];omega⟩
      case neg=>
       have hke2:k2=i:=by omega
       have t7:decide ((k2:Int)<(i:Int))=false:=decide_eq_false (by omega)
       have KP:=Lib.hid (fun(W:World) (hb:Below u3.heap.size u3 W)=>qR_ (cap:=c') HS.out.2.2 HS.out.1 HS.out.2.1 HT.out.2.1 W (H3.out.2.1.below hb) (HB3.out.below hb))
       obtain⟨po,hpo⟩:∃po,po=parK ss t:=⟨_,rfl⟩
       rw[←hpo] at KP
       have HPO:=Lib.hid hpo
       obtain⟨pc,hpc⟩:∃pc,pc=(orZ po).code:=⟨_,rfl⟩
       obtain⟨ip,hip⟩:∃ip,ip=po.isSome:=⟨_,rfl⟩
       rw[←hpc,←hip] at KP
       have HPC:=Lib.hid (And.intro hpc hip)
       clear hpo hpc hip
       go_upto_if 94 with (first
        | (go_at_call 21;(with_reducible refine(KP.out _ H7.out.az.bw).mono ?_);rintro e u8 ⟨rfl,hb⟩;have H8:=Lib.hid (H7.out.below hb);clear hb)
        | fail)
       obtain⟨d,hd1,hd2,hd3⟩:=HCK2.out
       have HD:=Lib.hid (And.intro hd1 (And.intro hd2 hd3))
       clear hd1 hd2 hd3 HCK2 H7 KP y0
       go_cut [16] from 95 to 114 (fun v16 wX=>v16=.int .i64 (d:Int)∧MoAt [⟨30,11,.slice b7 q c7,q,ssC la⟩,⟨3,1,.slice b6 q c6,q,icC (la.map (·.code))⟩] [(B9,shC t)] u3 wX)
       case first=>
        cases ip with
        | false=>
         have hd0:d=0:=kV_ (by
          have:=HPC.out.2
          rw[HPO.out] at this
          cases hh:parK ss t with
          | none=>rfl
          | some p=>rw[hh] at this;cases this) HD.out.1
         subst hd0
         go_wp2
         go_meet
         exact⟨rfl,H8.out⟩
        | true=>
         obtain⟨p,hp⟩:∃p,parK ss t=some p:=by
          have:=HPC.out.2
          rw[HPO.out] at this
          cases hh:parK ss t with
          | none=>rw[hh] at this;cases this
          | some p=>exact⟨p,rfl⟩
         have hpc:pc=p.code:=by rw[HPC.out.1,HPO.out,hp];rfl
         obtain⟨j0,hj0,rfl⟩:=kU_ hp HD.out.1
         obtain⟨hj1,⟨x,hx1,hx2⟩,hj3⟩:=iV_ hj0
         rw[HLA.out.1] at hj1
         have HJ:=Lib.hid (And.intro hpc (And.intro hx1 (And.intro hx2 hj3)))
         clear hp hpc hj0 hx1 hx2 hj3
         go_wp2
         go_loopw [16] (fun v16 wq=>∃j:Nat,j≤j0∧v16=.int .i64 (j:Int)∧MoAt [⟨30,11,.slice b7 q c7,q,ssC la⟩,⟨3,1,.slice b6 q c6,q,icC (la.map (·.code))⟩] [(B9,shC t)] u3 wq) (fun v16 _=>j0-(intOf v16).toNat)
         case atStart=>exact⟨0,Nat.zero_le _,rfl,H8.out⟩
         case round=>
          obtain⟨j,hj,rfl,ho⟩:=hrel
          have H9:=Lib.hid ho
          clear ho H8
          obtain⟨y,hy⟩:∃y,la[j]?=some y:=⟨la[j]'(by rw[HLA.out.1];omega),List.getElem?_eq_getElem _⟩
          obtain⟨a6,c6',e6,s6,-⟩:=H9.out.slice (r:=⟨3,1,.slice b6 q c6,q,icC (la.map (·.code))⟩) (by simp)
          cases e6
          obtain⟨gb,go,hga,hgb,y0⟩:=s6.row j (.int .i64 y.code) (by unfold icC;rw[List.getElem?_map,List.getElem?_map,hy];rfl)
          subst hga
          have i5:(0:Int)≤(j:Int):=by omega
          have i6:(j:Int)<(q:Int):=by omega
          have hq9:q≤9:=by have:=HLA.out.2;omega
          by_cases hjj:j=j0
          case pos=>
           subst hjj
           have t7:(y.code==pc)=true:=by
            rw[HJ.out.2.1] at hy
            cases hy
            rw[HJ.out.2.2.1,HJ.out.1]
            exact beq_self_eq_true _
           clear hy s6
           go_wp2
           go_meet
           exact⟨by go_num,H9.out⟩
          case neg=>
           have t7:(y.code==pc)=false:=by
            rw[beq_eq_false_iff_ne,HJ.out.1]
            exact HJ.out.2.2.2 j y (by omega) hy
           clear hy s6
           go_wp2
           exact⟨⟨j+1,by omega,by go_num,H9.out⟩,by simp only[intOf];omega⟩
       case rest=>
        obtain⟨rfl,h9⟩:=hcut
        have H9:=Lib.hid h9
        have hdq:d≤q:=by have:=aBF HD.out.1;rw[HLA.out.1] at this;exact this
        have hq9:q≤9:=by have:=HLA.out.2;omega
        clear h9 H8
        obtain⟨lq,hlq⟩:∃lq,lq=decide (d<q):=⟨_,rfl⟩
        have t5:decide (d<q)=lq:=hlq.symm
        have HLQ:=Lib.hid hlq
        clear hlq
        go_upto_if 118 with fail
        clear t5
        go_cut [] from 119 to 163 (fun wX=>MoAt [⟨30,11,.slice b7 q c7,q,ssC la⟩,⟨3,1,.slice b6 q c6,q,icC (la.map (·.code))⟩] [(B9,shC t)] u3 wX)
        case first=>
         cases lq with
         | false=>
          go_wp2
          go_meet
          exact H9.out
         | true=>
          have hlt:d<q:=of_decide_eq_true HLQ.out.symm
          obtain⟨x,hx⟩:∃x,la[d]?=some x:=⟨la[d]'(by rw[HLA.out.1];exact hlt),List.getElem?_eq_getElem _⟩
          have hbef:=HD.out.2.1 x hx
          obtain⟨a7,c7',e7,s7,-⟩:=H9.out.slice (r:=⟨30,11,.slice b7 q c7,q,ssC la⟩) (by simp)
          cases e7
          obtain⟨sb,so,hsa,hsb,x0,x1,x2,x3,x4,x5,x6,x7,x8,x9,x10⟩:=(ShsAt.of s7).sh hx
          subst hsa
          have i5:(0:Int)≤(d:Int):=by omega
          have i6:(d:Int)<(q:Int):=by omega
          have H10:=Lib.hid (H9.out.push (shC x) 30)
          have y0:=H10.out.az.ce 0 0 rfl rfl
          have y2:=H10.out.az.ce 0 2 rfl rfl
          have y3:=H10.out.az.ce 0 3 rfl rfl
          have z0:=H10.out.az.ce 1 0 rfl rfl
          have z2:=H10.out.az.ce 1 2 rfl rfl
          have z3:=H10.out.az.ce 1 3 rfl rfl
          have hbf:¬(t.rect.y<x.rect.y∨(t.rect.y=x.rect.y∧(t.rect.x<x.rect.x∨(t.rect.x=x.rect.x∧t.code<x.code)))):=by
           intro h
           rw[cM_.2 h] at hbef
           cases hbef
          have n1:decide (t.rect.y<x.rect.y)=false:=decide_eq_false (by omega)
          clear hx s7 hbef
          by_cases ey:t.rect.y=x.rect.y
          case neg=>
           have n2:(t.rect.y==x.rect.y)=false:=beq_eq_false_iff_ne.2 ey
           clear hbf ey
           go_wp2
           go_meet
           exact H10.out.sub (fun y hy=>List.mem_cons_of_mem _ hy)
          case pos=>
           have n2:(t.rect.y==x.rect.y)=true:=beq_iff_eq.2 ey
           have n3:decide (t.rect.x<x.rect.x)=false:=decide_eq_false (by omega)
           by_cases ex:t.rect.x=x.rect.x
           case neg=>
            have n4:(t.rect.x==x.rect.x)=false:=beq_eq_false_iff_ne.2 ex
            clear hbf ey ex
            go_wp2
            go_meet
            exact H10.out.sub (fun y hy=>List.mem_cons_of_mem _ hy)
           case pos=>
            have n4:(t.rect.x==x.rect.x)=true:=beq_iff_eq.2 ex
            have n5:decide (t.code<x.code)=false:=decide_eq_false (by omega)
            clear hbf ey ex
            go_wp2
            go_meet
            exact H10.out.sub (fun y hy=>List.mem_cons_of_mem _ hy)
        case rest=>
         have H11:=Lib.hid hcut
         clear hcut H9
         have H12:=Lib.hid (H11.out.perm (List.Perm.swap _ _ _))
         have f6:=(H11.out.os (r:=⟨3,1,.slice b6 q c6,q,icC (la.map (·.code))⟩) (by simp)).form
         have f7:=(H11.out.os (r:=⟨30,11,.slice b7 q c7,q,ssC la⟩) (by simp)).form
         obtain⟨_,_,e6,-,l6⟩:=H11.out.slice (r:=⟨3,1,.slice b6 q c6,q,icC (la.map (·.code))⟩) (by simp)
         obtain⟨_,_,e7,-,l7⟩:=H11.out.slice (r:=⟨30,11,.slice b7 q c7,q,ssC la⟩) (by simp)
         cases e6
         cases e7
         simp only at f6 f7 l6 l7
         have i5:(0:Int)≤(d:Int):=by omega
         have i6:(d:Int)≤(c6:Int):=by omega
         have i7:(d:Int)≤(c7:Int):=by omega
         have HF7:=Lib.hid f7
         clear f7 H11 l6 l7
         go_upto_region 39 with fail
         go_cut [6] from 164 to 171 (fun v6 wX=>∃(b6':Option Addr) (c6':Nat),v6=.slice b6' (d+1) c6'∧MoAt [⟨3,1,.slice b6' (d+1) c6',d+1,icC ((la.take d++[t]).map (·.code))⟩,⟨30,11,.slice b7 q c7,q,ssC la⟩] [(B9,shC t)] u3 wX)
         case first=>
          rcases f6 with ⟨e6,q0,-⟩|⟨g6,k6,e6,-,-⟩
          ·cases e6
           have hd0:d=0:=by omega
           subst hd0
           refine bL_ (A:=?fr39a) 6 170 1 [.int .i64 t.code] 3 hmx (by kernel_rfl) ?h39a ⟨_,rfl,rfl,?wa39a,fun W=>?al39a⟩ ?ht39a
           case h39a=>
            intro U hU
            have hp:=H12.out.below hU
            have y0:=cell_regrown (hp.az.ce 0 0 rfl rfl)
            clear hp
            simp only[List.take_succ_cons,List.take_zero]
            repeat (go_big_quiet_step (first|fail))
            refine wpQuiet_nil ?_
            rfl
           case wa39a=>rfl
           case al39a=>simp[go_sem]
           case ht39a=>
            intro B W hW hB cB
            have HA:=Lib.hid (H12.out.cons hW hB cB)
            clear hW hB cB H12
            simp only[List.drop_succ_cons,List.drop_zero]
            refine lE_ rfl _ _ rfl HA.out 0 hdq t.code B 1 List.mem_cons_self (by omega) rfl rfl ?_
            intro b9 c9 w9 h9
            have HJ:=Lib.hid h9
            clear h9 HA
            go_wp2
            go_meet
            exact⟨b9,c9,rfl,by rw[List.map_append,List.map_take];exact HJ.out.sub (fun y hy=>List.mem_cons_of_mem _ hy)⟩
          ·cases e6
           refine bL_ (A:=?fr39b) 6 170 1 [.int .i64 t.code] 3 hmx (by kernel_rfl) ?h39b ⟨_,rfl,rfl,?wa39b,fun W=>?al39b⟩ ?ht39b
           case h39b=>
            intro U hU
            have hp:=H12.out.below hU
            have y0:=cell_regrown (hp.az.ce 0 0 rfl rfl)
            clear hp
            simp only[List.take_succ_cons,List.take_zero]
            repeat (go_big_quiet_step (first|fail))
            refine wpQuiet_nil ?_
            rfl
           case wa39b=>rfl
           case al39b=>simp[go_sem]
           case ht39b=>
            intro B W hW hB cB
            have HA:=Lib.hid (H12.out.cons hW hB cB)
            clear hW hB cB H12
            simp only[List.drop_succ_cons,List.drop_zero]
            refine lE_ rfl _ _ rfl HA.out d hdq t.code B 1 List.mem_cons_self (by omega) rfl rfl ?_
            intro b9 c9 w9 h9
            have HJ:=Lib.hid h9
            clear h9 HA
            go_wp2
            go_meet
            exact⟨b9,c9,rfl,by rw[List.map_append,List.map_take];exact HJ.out.sub (fun y hy=>List.mem_cons_of_mem _ hy)⟩
         case rest=>
          obtain⟨b6',c6',rfl,h13⟩:=hcut
          have H13:=Lib.hid (h13.perm (List.Perm.swap _ _ _))
          clear h13 H12 f6
          go_upto_region 40 with fail
          rcases HF7.out with ⟨e7,q0,-⟩|⟨g7,k7,e7,-,-⟩
          ·cases e7
           have hd0:d=0:=by omega
           subst hd0
           refine bL_ (A:=?fr40a) 5 177 1 (shC t) 30 hmx (by kernel_rfl) ?h40a ⟨_,rfl,rfl,?wa40a,fun W=>?al40a⟩ ?ht40a
           case h40a=>
            intro U hU
            have hp:=H13.out.below hU
            have y0:=cell_regrown (hp.az.ce 0 0 rfl rfl)
            have y1:=cell_regrown (hp.az.ce 0 1 rfl rfl)
            have y2:=cell_regrown (hp.az.ce 0 2 rfl rfl)
            have y3:=cell_regrown (hp.az.ce 0 3 rfl rfl)
            have y4:=cell_regrown (hp.az.ce 0 4 rfl rfl)
            have y5:=cell_regrown (hp.az.ce 0 5 rfl rfl)
            have y6:=cell_regrown (hp.az.ce 0 6 rfl rfl)
            have y7:=cell_regrown (hp.az.ce 0 7 rfl rfl)
            have y8:=cell_regrown (hp.az.ce 0 8 rfl rfl)
            have y9:=cell_regrown (hp.az.ce 0 9 rfl rfl)
            have y10:=cell_regrown (hp.az.ce 0 10 rfl rfl)
            clear hp
            simp only[List.take_succ_cons,List.take_zero]
            repeat (go_big_quiet_step (first|fail))
            refine wpQuiet_nil ?_
            rfl
           case wa40a=>rfl
           case al40a=>simp[go_sem]
           case ht40a=>
            intro B W hW hB cB
            have HA:=Lib.hid (H13.out.cons hW hB cB)
            clear hW hB cB H13
            simp only[List.drop_succ_cons,List.drop_zero]
            refine iK_ rfl _ _ rfl HA.out 0 hdq t B 1 List.mem_cons_self (by omega) rfl rfl ?_
            intro b9 c9 w9 h9
            have HJ:=Lib.hid h9
            clear h9 HA
            go_wp2
            refine⟨⟨i+1,0+1,la.take 0++[t],b6',b9,c6',c9,by omega,by go_num,rfl,rfl,Lib.hid ⟨by rw[List.length_append,List.length_take,HLA.out.1];simp,by have:=HLA.out.2;omega⟩,Lib.hid HD.out.2.2,?_⟩,by simp only[intOf];omega⟩
            exact HJ.out.sub (fun y hy=>by cases hy)
          ·cases e7
           refine bL_ (A:=?fr40b) 5 177 1 (shC t) 30 hmx (by kernel_rfl) ?h40b ⟨_,rfl,rfl,?wa40b,fun W=>?al40b⟩ ?ht40b
           case h40b=>
            intro U hU
            have hp:=H13.out.below hU
            have y0:=cell_regrown (hp.az.ce 0 0 rfl rfl)
            have y1:=cell_regrown (hp.az.ce 0 1 rfl rfl)
            have y2:=cell_regrown (hp.az.ce 0 2 rfl rfl)
            have y3:=cell_regrown (hp.az.ce 0 3 rfl rfl)
            have y4:=cell_regrown (hp.az.ce 0 4 rfl rfl)
            have y5:=cell_regrown (hp.az.ce 0 5 rfl rfl)
            have y6:=cell_regrown (hp.az.ce 0 6 rfl rfl)
            have y7:=cell_regrown (hp.az.ce 0 7 rfl rfl)
            have y8:=cell_regrown (hp.az.ce 0 8 rfl rfl)
            have y9:=cell_regrown (hp.az.ce 0 9 rfl rfl)
            have y10:=cell_regrown (hp.az.ce 0 10 rfl rfl)
            clear hp
            simp only[List.take_succ_cons,List.take_zero]
            repeat (go_big_quiet_step (first|fail))
            refine wpQuiet_nil ?_
            rfl
           case wa40b=>rfl
           case al40b=>simp[go_sem]
           case ht40b=>
            intro B W hW hB cB
            have HA:=Lib.hid (H13.out.cons hW hB cB)
            clear hW hB cB H13
            simp only[List.drop_succ_cons,List.drop_zero]
            refine iK_ rfl _ _ rfl HA.out d hdq t B 1 List.mem_cons_self (by omega) rfl rfl ?_
            intro b9 c9 w9 h9
            have HJ:=Lib.hid h9
            clear h9 HA
            go_wp2
            refine⟨⟨i+1,d+1,la.take d++[t],b6',b9,c6',c9,by omega,by go_num,rfl,rfl,Lib.hid ⟨by rw[List.length_append,List.length_take,HLA.out.1];simp;omega,by have:=HLA.out.2;omega⟩,Lib.hid HD.out.2.2,?_⟩,by simp only[intOf];omega⟩
            exact HJ.out.sub (fun y hy=>by cases hy)
    case pos=>
     obtain⟨x,hx⟩:∃x,ss[k]?=some x:=⟨ss[k]'(by rw[HS.out.2.2];exact hkm),List.getElem?_eq_getElem _⟩
     obtain⟨sb,so,hsa,hsb,x0,x1,x2,x3,x4,x5,x6,x7,x8,x9,x10⟩:=(H3.out.2.1.below H6.out.az.bw).sh hx
     subst hsa
     obtain⟨ob,oo,hoa,hob,y0⟩:=(H3.out.2.2.below H6.out.az.bw).row i (.int .i64 t.code) (by unfold icC;rw[List.getElem?_map,List.getElem?_map,HT.out.1];rfl)
     subst hoa
     have i3:(0:Int)≤(k:Int):=by omega
     have i4:(k:Int)<(m:Int):=by omega
     have HXK:=Lib.hid hx
     by_cases hkk:k=k0
     case neg=>
      have t8:(x.code==t.code)=false:=by
       rw[beq_eq_false_iff_ne]
       intro e
       exact hkk (pM_ HS.out.2.1 hx HT.out.2.1 e)
      clear hx
      go_wp2
      go_region
      go_wp2
      exact⟨⟨k+1,many,fd,s,by omega,by go_num,rfl,Lib.hid ⟨by rw[HF.out.1];exact decide_eq_decide.2 (by omega),HF.out.2.1,HF.out.2.2⟩,H6.out.drewN 1⟩,by simp only[intOf];omega⟩
     case pos=>
      subst hkk
      obtain rfl:t=x:=Option.some.inj (HT.out.2.1.symm.trans hx)
      obtain⟨rfl,rfl,rfl⟩:fd=false∧many=0∧s=zrS:=by
       have h1:fd=false:=by rw[HF.out.1];exact decide_eq_false (Nat.lt_irrefl _)
       have:=HF.out
       rw[h1] at this
       exact⟨h1,this.2.1,this.2.2⟩
      have t8:(t.code==t.code)=true:=beq_self_eq_true _
      clear hx HF
      go_wp2
      go_region
      have H7:=Lib.hid (H6.out.drewN 1)
      obtain⟨W7,hW7⟩:∃V,V=wr.drewN 1:=⟨_,rfl⟩
      have e7:wr.drew=W7:=hW7.symm
      rw[←hW7] at H7
      rw[e7]
      clear hW7 e7 x0 x1 x2 x3 x4 x5 x6 x7 x8 x9 x10 y0
      obtain⟨sb',so',hsa,hsb',x0,x1,x2,x3,x4,x5,x6,x7,x8,x9,x10⟩:=(H3.out.2.1.below H7.out.az.bw).sh HXK.out
      cases hsa
      have z0:=H7.out.az.ce 0 0 rfl rfl
      have f0:=H7.out.az.cf 0 0 rfl rfl
      have z1:=H7.out.az.ce 0 1 rfl rfl
      have f1:=H7.out.az.cf 0 1 rfl rfl
      have z2:=H7.out.az.ce 0 2 rfl rfl
      have f2:=H7.out.az.cf 0 2 rfl rfl
      have z3:=H7.out.az.ce 0 3 rfl rfl
      have f3:=H7.out.az.cf 0 3 rfl rfl
      have z4:=H7.out.az.ce 0 4 rfl rfl
      have f4:=H7.out.az.cf 0 4 rfl rfl
      have z5:=H7.out.az.ce 0 5 rfl rfl
      have f5:=H7.out.az.cf 0 5 rfl rfl
      have z6:=H7.out.az.ce 0 6 rfl rfl
      have f6:=H7.out.az.cf 0 6 rfl rfl
      have z7:=H7.out.az.ce 0 7 rfl rfl
      have f7:=H7.out.az.cf 0 7 rfl rfl
      have z8:=H7.out.az.ce 0 8 rfl rfl
      have f8:=H7.out.az.cf 0 8 rfl rfl
      have z9:=H7.out.az.ce 0 9 rfl rfl
      have f9:=H7.out.az.cf 0 9 rfl rfl
      have z10:=H7.out.az.ce 0 10 rfl rfl
      have f10:=H7.out.az.cf 0 10 rfl rfl
      clear H6
      go_wp2
      exact⟨⟨k+1,1,true,t,by omega,by go_num,rfl,Lib.hid ⟨(decide_eq_true (Nat.lt_succ_self k)).symm,rfl,rfl⟩,H7.out.putSh HB9.out (fun _ hz=>by cases hz) t⟩,by simp only[intOf];omega⟩
end Go.Proofs.YtdkaohphbgdkpaaGreatDoor
