/- - -/
import Derived.Test.YtjfdefglpoancaaGreatDoorZROrd
import Derived.Test.YtjfdefglpoancaaGreatDoorZOver2
set_option maxHeartbeats 40000000
set_option maxRecDepth 1000000
open Go.Lib (hid)
namespace Go.Proofs.YtjfdefglpoancaaGreatDoor
open Go.RowKit Go.Shelf
attribute [local go_sem] Oper.semAt_some
theorem rC_ (w:World) (L:Nat) (hL:L≤1000000):(w.alloc (.cells (jN_ L) 3)).ownsRow w.heap.size 3 1 (.slice (some ⟨w.heap.size,0,none⟩) L L) L ((List.replicate L 0).map fun n:Nat=>Value.int .i64 (n:Int)):=by
 rw[←qI_]
 exact World.ownsRow_lit w (jN_ L) L (Nat.le_refl _) (by unfold maxLen;omega) (by simp[qH_])
theorem sX_ {w:World} {B g L j x:Nat} {os:List Nat} (h:w.ownsRow B 3 1 (.slice (some ⟨g,0,none⟩) L L) L (os.map fun n:Nat=>Value.int .i64 (n:Int))) {d:Int} (hd:d=(x:Int)) :
  (w.setCell ⟨g,j,none⟩ (.int .i64 d)).ownsRow B 3 1 (.slice (some ⟨g,0,none⟩) L L) L ((os.set j x).map fun n:Nat=>Value.int .i64 (n:Int)):=by
 subst hd
 rw[List.map_set]
 exact(h.stored j _).1
theorem vD_ {w:World} {B g L j:Nat} {os:List Nat} (h:w.ownsRow B 3 1 (.slice (some ⟨g,0,none⟩) L L) L (os.map fun n:Nat=>Value.int .i64 (n:Int))) (hl:os.length=L) (hj:j<L):w.cell? ⟨g,j,none⟩=some (.int .i64 ((os[j]?.getD 0:Nat):Int)):=by
 rw[h.cellAt j (by omega)]
 simp[hl,hj]
theorem uQ_ (k:Nat) (hk:k≤1000000) (X:World):(Instr.makeSlice 97 (.int .i64 (k:Int)) (.int .i64 (k:Int))).run Tryz.prog X=.ok (.slice (some ⟨X.heap.size,0,none⟩) k k) (X.alloc (.cells (jN_ k) 3)):=by
 obtain⟨i0,hi,hz0,hz1,hz2⟩:=info_parts fF_
 have hr:=run_make (P:=Tryz.prog) X 97 3 i0 (.int .i64 0) Tryz.underlying97 hi hz0 .i64 .i64 (k:Int) (k:Int) (by omega) (Int.le_refl _) (by rw[hz2];omega) (by omega)
 rw[hr,hz1]
 simp[jN_,Value.cells]
theorem aBJ (v1 v2:Value) (n m:Nat) (lo1 hi1 lo2 hi2:Nat) (w:World) (h1:Nr w v1 n lo1 hi1) (h2:Nr w v2 m lo2 hi2) (b1:hi1≤w.heap.size) (b2:hi2≤w.heap.size) (l1:cF_ n) (l2:cF_ m) :
  Calls Tryz.prog 165 #[v1,v2] w fun e w'=>(∃v,e=.returned v∧Nr w' v (n*m) w.heap.size w'.heap.size)∧Below w.heap.size w w':=by
 obtain⟨a1,cap1,rfl⟩:=Nr.form h1
 obtain⟨a2,cap2,rfl⟩:=Nr.form h2
 have H1:=hid h1
 have H2:=hid h2
 unfold cF_ at l1 l2
 clear h1 h2
 obtain⟨la,hla⟩:∃la,la=(dig 10 n).length:=⟨_,rfl⟩
 obtain⟨lb,hlb⟩:∃lb,lb=(dig 10 m).length:=⟨_,rfl⟩
 obtain⟨L,hLL⟩:∃L,L=la+lb:=⟨_,rfl⟩
 rw[←hla] at l1⊢
 rw[←hlb] at l2⊢
 have HLA:=hid hla
 have HLB:=hid hlb
 have hL1:L≤200000:=by omega
 have hmk:∀X:World,(Instr.makeSlice 97 (.int .i64 ((la:Int)+(lb:Int))) (.int .i64 ((la:Int)+(lb:Int)))).run Tryz.prog X=.ok (.slice (some ⟨X.heap.size,0,none⟩) L L) (X.alloc (.cells (jN_ L) 3)):=fun X=>by
  rw[←uQ_ L (by omega) X,show(la:Int)+(lb:Int)=(L:Int) from by omega]
 have HL:=hid hLL
 have hLi:la+lb≤L:=by omega
 clear hla hlb hLL
 go_enter Tryz.func165,Tryz.ntmps165
 go_wp2
 obtain⟨N,hN⟩:∃N,N=w.heap.size:=⟨_,rfl⟩
 obtain⟨W0,hW0⟩:∃W0,w.alloc (.cells (jN_ L) 3)=W0:=⟨_,rfl⟩
 have hoz:=rC_ w L (by omega)
 have hbz:Below N w W0:=by rw[←hW0,hN];exact(Below.refl _ _).alloc (Nat.le_refl _) _
 rw[hW0,←hN] at hoz
 rw[hW0]
 rw[←hN] at b1 b2⊢
 have HOZ:=hid hoz
 have HBZ:=hid hbz
 have hNw:N≤w.heap.size:=by omega
 have HN:=hid hN
 clear hoz hbz hW0 hmk hN
 go_loopw [6] (fun i wr=>∃(k:Nat) (os:List Nat),k≤la∧i=.int .i64 (k:Int)∧TimesAt n m k 0 os 0∧wr.ownsRow N 3 1 (.slice (some ⟨N,0,none⟩) L L) L (os.map fun d:Nat=>Value.int .i64 (d:Int))∧Below N w wr) (fun i _=>la-(intOf i).toNat)
 case atStart=>exact⟨0,_,Nat.zero_le _,rfl,TimesAt.start n m,by rw[←HLA.out,←HLB.out,←HL.out];exact HOZ.out,HBZ.out⟩
 case round=>
  obtain⟨i,os,hil,rfl,hf,hown,hb⟩:=hrel
  have HF:=hid hf
  have HO:=hid hown
  have HB:=hid hb
  have hol:os.length=L:=by rw[hf.len,←HLA.out,←HLB.out,HL.out]
  have HOL:=hid hol
  clear hf hown hb hol
  by_cases hia:i<la
  ·have da:decide (i<la)=true:=decide_eq_true hia
   obtain⟨wo,rfl⟩:∃wo:World,wo=wr:=⟨_,rfl⟩
   go_wp2
   go_loopw [7,8] (fun c k wr=>∃(kk cc:Nat) (os:List Nat),k=.int .i64 (kk:Int)∧c=.int .i64 (cc:Int)∧TimesAt n m i kk os cc∧wr.ownsRow N 3 1 (.slice (some ⟨N,0,none⟩) L L) L (os.map fun d:Nat=>Value.int .i64 (d:Int))∧Below N w wr) (fun _ k _=>lb+1-(intOf k).toNat)
   case atStart=>exact⟨0,0,os,rfl,rfl,HF.out,HO.out,HB.out⟩
   case round=>
    obtain⟨k,cc,os2,rfl,rfl,hf,hown,hb⟩:=hrel
    have hcc:=hf.chi
    have hkl:k≤lb+1:=by
     have:=HLB.out
     rcases hf.far with h|h <;> omega
    have hol:os2.length=L:=by rw[hf.len,←HLA.out,←HLB.out,HL.out]
    have HF2:=hid hf
    have HO2:=hid hown
    have HOL2:=hid hol
    have hfr:=hown.frozenAt (i+k)
    by_cases hgo:k<lb∨0<cc
    ·have hst:=fun s hs=>hf.step (by rw[←HLA.out];omega) (by rw[←HLB.out];exact hgo) s hs
     have hlt:i+k<L:=by rw[←hol];exact(hst _ rfl).1
     have hco:=vD_ hown hol hlt
     have ho9:os2[i+k]?.getD 0<10:=by
      cases e:os2[i+k]? with
      | none=>simp
      | some d=>exact hf.dlt d (List.mem_of_getElem? e)
     obtain⟨p,hp⟩:∃p,p=i+k:=⟨_,rfl⟩
     have hpi:(i:Int)+(k:Int)=(p:Int):=by omega
     obtain⟨b1',o1,rfl,_,_,hc1⟩:=Ns.at (H1.out.below hb b1) (k:=i) (by rw[←HLA.out];omega)
     rw[eH_] at hc1
     have hx9:=bD_ (B:=10) (by omega) n i
     rw[←hp] at hst hco ho9 hfr hlt
     obtain⟨o,hoo⟩:∃o,o=os2[p]?.getD 0:=⟨_,rfl⟩
     obtain⟨x,hx⟩:∃x,x=(dig 10 n)[i]?.getD 0:=⟨_,rfl⟩
     rw[←hoo] at hst hco ho9
     rw[←hx] at hst hc1 hx9
     by_cases hkb:k<lb
     ·have db:decide (k<lb)=true:=decide_eq_true hkb
      obtain⟨b2',o2,rfl,_,_,hc2⟩:=Ns.at (H2.out.below hb b2) (k:=k) (by rw[←HLB.out];omega)
      rw[eH_] at hc2
      have hy9:=bD_ (B:=10) (by omega) m k
      obtain⟨y,hy⟩:∃y,y=(dig 10 m)[k]?.getD 0:=⟨_,rfl⟩
      rw[←hy] at hst hc2 hy9
      have hxy:x*y≤9*9:=Nat.mul_le_mul (by omega) (by omega)
      obtain⟨z,hz⟩:∃z,z=x*y:=⟨_,rfl⟩
      have hzi:(x:Int)*(y:Int)=(z:Int):=by rw[hz];exact(Int.natCast_mul _ _).symm
      have HST:=hid (hst _ rfl)
      rw[←hz] at HST hxy
      have HB2:=hid hb
      clear hst hoo hx hy hz hp hgo hb hol hown hf
      go_wp2_with fail
      go_quiet (fail)
      go_wp2
      exact⟨⟨k+1,(o+cc+z)/10,os2.set p ((o+cc+z)%10),by go_num,congrArg _ (by omega),HST.out.2,sX_ (w:=wr.drewN nq) HO2.out (by omega),(HB2.out.trans ((Still.drewN wr nq).below N)).setCell (Nat.le_refl _) _⟩,by simp only[intOf];omega⟩
     ·have db:decide (k<lb)=false:=decide_eq_false hkb
      have hyz:(dig 10 m)[k]?.getD 0=0:=by rw[List.getElem?_eq_none (by rw[←HLB.out];omega)];rfl
      rw[hyz,Nat.mul_zero,Nat.add_zero] at hst
      have hc0:0<cc:=by omega
      have hkl2:k≤lb:=by
       have:=HLB.out
       rcases hf.far with h|⟨_,h,_⟩ <;> omega
      have HST:=hid (hst _ rfl)
      have HB2:=hid hb
      clear hst hoo hx hp hgo hb hol hown hf hyz
      go_wp2
      exact⟨⟨k+1,(o+cc)/10,os2.set p ((o+cc)%10),by go_num,congrArg _ (by omega),HST.out.2,sX_ HO2.out (by omega),HB2.out.setCell (Nat.le_refl _) _⟩,by simp only[intOf];omega⟩
    ·obtain rfl:cc=0:=by omega
     have db:decide (k<lb)=false:=decide_eq_false (by omega)
     have HN2:=hid (hf.next (by rw[←HLB.out];omega))
     have HB2:=hid hb
     clear hgo hb hol hown hf
     go_wp2
     all_goals exact⟨⟨i+1,os2,by omega,by go_num,HN2.out,HO2.out,HB2.out⟩,by simp only[intOf];omega⟩
  ·obtain rfl:i=la:=by omega
   have da:decide (i<i)=false:=decide_eq_false hia
   have hfin:TimesAt n m (dig 10 n).length 0 os 0:=by rw[←HLA.out];exact HF.out
   have HD:=hid hfin.done
   have hn:Ns wr (.slice (some ⟨N,0,none⟩) L L) os N wr.heap.size:=Sl.of_owns (by rw[HOL.out];exact HO.out)
   have HNS:=hid hn
   clear hn hfin hia
   go_wp2_with (go_at_call 166;with_reducible refine(kO_ _ os N wr.heap.size _ HNS.out).mono ?_;rintro e w2 ⟨⟨v',rfl,hv⟩,rfl⟩;have HV:=hid hv;clear hv)
   go_ret
   have e:=HN.out
   subst e
   exact⟨⟨v',rfl,by show Ns _ v' (dig 10 (n*m)) _ _;rw[←HD.out];exact HV.out⟩,HB.out⟩
theorem gK_ {w w':World} {base:Nat} {e:TypeId} {size:Nat} {v:Value} {n:Nat} {xs:List Value} (h:w.ownsRow base e size v n xs) (hb:Below w.heap.size w w'):w'.ownsRow base e size v n xs:=by
 obtain⟨h1,⟨rfl,rfl⟩|⟨g,cap,cur,rfl,e2,e3,e4⟩⟩:=h
 ·exact⟨h1,.inl ⟨rfl,rfl⟩⟩
 ·exact⟨h1,.inr ⟨g,cap,cur,rfl,e2,(hb.block g (Array.getElem?_eq_some_iff.1 e3).1).trans e3,e4⟩⟩
theorem rD_:∃μ:World→Value→Nat,∀w v n lo hi,Nr w v n lo hi→μ w v=n:=by
 refine⟨fun w v=>Classical.epsilon (fun n=>∃lo hi,Nr w v n lo hi),?_⟩
 intro w v n lo hi h
 obtain⟨lo',hi',h'⟩:=Classical.epsilon_spec (p:=fun n=>∃lo hi,Nr w v n lo hi) ⟨n,lo,hi,h⟩
 refine tR_ (B:=10) (by omega) ?_
 show dig 10 (Classical.epsilon fun n=>∃lo hi,Nr w v n lo hi)=dig 10 n
 generalize Classical.epsilon (fun n=>∃lo hi,Nr w v n lo hi)=k at h'⊢
 obtain⟨a,cap,rfl,_⟩:=id h
 have hl:(dig 10 n).length=(dig 10 k).length:=by
  obtain⟨a',cap',e,_⟩:=id h'
  simp only[Value.slice.injEq] at e
  omega
 apply List.ext_getElem hl.symm
 intro i h1 h2
 obtain⟨b,off,rfl,_,_,e1⟩:=Ns.at h (k:=i) h2
 obtain⟨b',off',e,_,_,e2⟩:=Ns.at h' (k:=i) h1
 simp only[Option.some.injEq,Addr.mk.injEq,and_true] at e
 obtain⟨rfl,rfl⟩:=e
 rw[e1] at e2
 simp only[Option.some.injEq,Value.int.injEq,true_and] at e2
 omega
theorem aKS {n m k:Nat} (h:n<10^k*10^m) (hk:k+m≤100000):cF_ n:=by
 unfold cF_
 have:=(aD_ (B:=10) (by omega) n (k+m)).2 (by rw[Nat.pow_add];exact h)
 omega
theorem aKT {R m:Nat} (h:R<10*m) (hm:(dig 10 m).length≤90000):cF_ R:=by
 have h1:=(aD_ (B:=10) (by omega) m _).1 (Nat.le_refl _)
 refine aKS (k:=(dig 10 m).length) (m:=1) ?_ (by omega)
 omega
theorem aPB {w:World} {v:Value} {d R L lo hi:Nat} (hL:L=(dig 10 R).length) (h:Sl w v (1+L) 1 (#[Value.int .i64 (d:Int)].toList++(dig 10 R).map fun n:Nat=>Value.int .i64 (n:Int)) lo hi):Ns w v (d::dig 10 R) lo hi:=by
 show Sl w v (d::dig 10 R).length 1 _ _ _
 rw[List.length_cons,←hL,Nat.add_comm L 1]
 exact h
theorem aDS {d R:Nat} (hd:d<10):trim (d::dig 10 R)=dig 10 (d+10*R):=by
 rw[dD_ (B:=10) (by omega) _ (by intro y hy;rcases List.mem_cons.1 hy with rfl|hy;exact hd;exact bX_ (by omega) R y hy)]
 simp only[val,bK_ (B:=10) (by omega)]
theorem fJ_ (v1 v2:Value) (n m:Nat) (lo1 hi1 lo2 hi2:Nat) (w:World) (h1:Nr w v1 n lo1 hi1) (h2:Nr w v2 m lo2 hi2) (b1:hi1≤w.heap.size) (b2:hi2≤w.heap.size) (l1:cF_ n) (l2:(dig 10 m).length≤90000) (hm:0<m) :
  Calls Tryz.prog 130 #[v1,v2] w fun e w'=>(∃q r,e=.returned (.tuple #[q,r])∧Nr w' q (n/m) w.heap.size w'.heap.size∧Nr w' r (n%m) w.heap.size w'.heap.size)∧Below w.heap.size w w':=by
 obtain⟨i0,hi,hz0,hz1,hz2⟩:=info_parts fF_
 obtain⟨μ,hμ⟩:=rD_
 have HMU:=hid hμ
 obtain⟨a1,cap1,rfl⟩:=Nr.form h1
 obtain⟨a2,cap2,rfl⟩:=Nr.form h2
 have H1:=hid h1
 have H2:=hid h2
 unfold cF_ at l1
 clear h1 h2 hμ
 obtain⟨la,hla⟩:∃la,la=(dig 10 n).length:=⟨_,rfl⟩
 obtain⟨lb,hlb⟩:∃lb,lb=(dig 10 m).length:=⟨_,rfl⟩
 have L2:=hid l2
 rw[←hla] at l1⊢
 rw[←hlb] at l2⊢
 have HLA:=hid hla
 have HLB:=hid hlb
 have hmk:∀X:World,(Instr.makeSlice 97 (.int .i64 (la:Int)) (.int .i64 (la:Int))).run Tryz.prog X=.ok (.slice (some ⟨X.heap.size,0,none⟩) la la) (X.alloc (.cells (jN_ la) 3)):=fun X=>uQ_ la (by omega) X
 have H2b:Hid (Nr w (.slice a2 lb cap2) m lo2 hi2):=by rw[hlb];exact H2.out
 clear hla hlb H2
 go_enter Tryz.func130,Tryz.ntmps130
 go_wp2
 obtain⟨N,hN⟩:∃N,N=w.heap.size:=⟨_,rfl⟩
 obtain⟨W0,hW0⟩:∃W0,w.alloc (.cells (jN_ la) 3)=W0:=⟨_,rfl⟩
 have hoz:=rC_ w la (by omega)
 have hbz:Below N w W0:=by rw[←hW0,hN];exact(Below.refl _ _).alloc (Nat.le_refl _) _
 rw[hW0,←hN] at hoz
 rw[hW0]
 rw[←hN] at b1 b2⊢
 have HOZ:=hid hoz
 have HBZ:=hid hbz
 have hNw:N≤w.heap.size:=by omega
 have HN:=hid hN
 clear hoz hbz hW0 hmk hN
 go_loopw [7,8] (fun r i wr=>∃(j R:Nat) (qs:List Nat),j≤la∧i=.int .i64 ((j:Int)-1)∧DivAt n m j qs R∧Nr wr r R (N+1) wr.heap.size∧wr.ownsRow N 3 1 (.slice (some ⟨N,0,none⟩) la la) la (qs.map fun d:Nat=>Value.int .i64 (d:Int))∧Below N w wr) (fun _ i _=>(intOf i+1).toNat)
 case atStart=>exact⟨la,0,List.replicate la 0,Nat.le_refl _,rfl,by rw[HLA.out];exact DivAt.start hm,Sl.nil _ _ _ _,HOZ.out,HBZ.out⟩
 case round=>
  obtain⟨j,R,qs,hjl,rfl,hf,hr,hown,hb⟩:=hrel
  have hNs:N<wr.heap.size:=(hown.lt N rfl).2
  obtain⟨ar,cr,rfl⟩:=Nr.form hr
  have hRm:=hf.lt
  by_cases hj0:j=0
  ·subst hj0
   have HD:=hid hf.done
   have HR:=hid hr
   have hql:qs.length=la:=by rw[hf.len,HLA.out]
   have hn:Ns wr (.slice (some ⟨N,0,none⟩) la la) qs N wr.heap.size:=Sl.of_owns (by rw[hql];exact hown)
   have HNS:=hid hn
   have HB:=hid hb
   clear hn hown hf hr hb
   go_wp2_with (go_at_call 166;with_reducible refine(kO_ _ qs N wr.heap.size _ HNS.out).mono ?_;rintro e w2 ⟨⟨v',rfl,hv⟩,rfl⟩;have HV:=hid hv;clear hv)
   go_ret2
   have e:=HN.out
   subst e
   exact⟨⟨_,_,rfl,by show Ns _ v' (dig 10 (n/m)) _ _;rw[←HD.out.1];exact HV.out,by rw[←HD.out.2];exact HR.out.mono (by omega) (Nat.le_refl _)⟩,HB.out⟩
  ·obtain⟨ix,rfl⟩:∃ix,j=ix+1:=⟨j-1,by omega⟩
   rw[show((ix+1:Nat):Int)-1=(ix:Int) from by omega]
   obtain⟨b1',o1,rfl,_,_,hc1⟩:=Ns.at (H1.out.below hb b1) (k:=ix) (by rw[←HLA.out];omega)
   rw[eH_] at hc1
   have hx9:=bD_ (B:=10) (by omega) n ix
   have hin:=hf.enter
   obtain⟨x,hx⟩:∃x,x=(dig 10 n)[ix]?.getD 0:=⟨_,rfl⟩
   rw[←hx] at hc1 hx9 hin
   have HIN:=hid hin
   have HO:=hid hown
   have HB:=hid hb
   have hsrc:∀o,Sl (wr.alloc o) (.slice ar (dig 10 R).length cr) (dig 10 R).length 1 ((dig 10 R).map fun n:Nat=>Value.int .i64 (n:Int)) (N+1) wr.heap.size:=fun o=>hr.keep (fun k h1 h2=>Below.heap_alloc wr o k h2)
   have hRl:(dig 10 R).length≤90000:=by
    have:=aG_ (B:=10) (by omega) (Nat.le_of_lt hRm)
    have:=L2.out
    omega
   obtain⟨Lr,hLr⟩:∃L,L=(dig 10 R).length:=⟨_,rfl⟩
   rw[←hLr] at hsrc hRl⊢
   have HSRC:=hid hsrc
   have HLR:=hid hLr
   clear hsrc hLr hin hx hf hr hown hb
   have hixl:ix<la:=by omega
   obtain⟨wo,rfl⟩:∃wo:World,wo=wr:=⟨_,rfl⟩
   go_wp2_with (first
    | (at_builtin;refine mO_ _ rfl _ _ 97 rfl wo.heap.size 3 i0 (.int .i64 0) 1 8 Tryz.underlying97 hi hz0 hz1 hz2 rfl (by decide) (.slice (some ⟨wo.heap.size,0,none⟩) 1 1) _ _ rfl (World.ownsRow_lit wo #[.int .i64 (x:Int)] 1 (Nat.le_refl _) (by decide) rfl) _ _ _ _ _ rfl (HSRC.out _) (tH_ _) (by unfold maxLen;omega) (by omega) (by simp) ?_;intro v' w1 hown' hgrow;have hBw1:Below wo.heap.size wo w1:=((Below.refl _ wo).alloc (Nat.le_refl _) _).grown hgrow (by simp) (fun k e=>by simp[Value.ownBlock] at e;omega);have HOWN:=hid hown';have HW1:=hid hBw1;clear hown' hgrow hBw1)
    | (go_at_call 166;refine(kO_ _ (x::dig 10 R) wo.heap.size w1.heap.size _ (aPB HLR.out (Sl.of_owns HOWN.out))).mono ?_;rintro e w2 ⟨⟨vT,rfl,hvT⟩,rfl⟩;have HVT:=hid hvT;clear hvT))
   have hvT:=HVT.out
   rw[aDS hx9] at hvT
   have hw1s:=HW1.out.size
   have hvT2:Nr w1 vT (x+10*R) (N+1) w1.heap.size:=hvT.mono (by omega) (Nat.le_refl _)
   have HT2:=hid hvT2
   have HO1:=hid (gK_ HO.out HW1.out)
   have HB1:=hid (HB.out.trans (HW1.out.mono (Nat.le_of_lt hNs)))
   clear hvT hvT2
   go_loopw [7] (fun r wr=>∃(t R:Nat) (qs:List Nat),DivIn n m ix t qs R∧Nr wr r R (N+1) wr.heap.size∧wr.ownsRow N 3 1 (.slice (some ⟨N,0,none⟩) la la) la (qs.map fun d:Nat=>Value.int .i64 (d:Int))∧Below N w wr) (fun r wr=>μ wr r)
   case atStart=>exact⟨0,_,qs,HIN.out,HT2.out,HO1.out,HB1.out⟩
   case round=>
    obtain⟨t,R2,qs2,hf,hr,hown,hb⟩:=hrel
    have hNs2:N<wr.heap.size:=(hown.lt N rfl).2
    have hql:qs2.length=la:=by rw[hf.len,HLA.out]
    have hfew:=aKT (Nat.lt_of_le_of_lt (Nat.le_add_left _ _) hf.lt) L2.out
    have h2w:=H2b.out.below hb b2
    have hsz:=hb.size
    have hord:Calls Tryz.prog 129 #[u7,.slice a2 lb cap2] wr fun e w'=>e=.returned (.int .i64 (cmpI R2 m))∧Below wr.heap.size wr w':=(iL_ _ _ R2 m _ _ _ _ _ hr h2w).mono fun e w' ⟨he,hs⟩=>⟨he,hs.below _⟩
    have HORD:=hid hord
    have HO2:=hid hown
    have HB2:=hid hb
    have HF2:=hid hf
    have HR2:=hid hr
    by_cases hge:m≤R2
    ·have hd:decide (0≤cmpI (R2:Int) (m:Int))=true:=decide_eq_true (by unfold cmpI;rw[if_neg (by omega)];split <;> omega)
     have hmin:∀w1,Below wr.heap.size wr w1→Calls Tryz.prog 163 #[u7,.slice a2 lb cap2] w1 fun e w2=>∃v,e=.returned v∧Nr w2 v (R2-m) (N+1) w2.heap.size∧Below wr.heap.size wr w2:=fun w1 hw1=>by
      have:=hw1.size
      refine(iM_ _ _ R2 m (N+1) wr.heap.size lo2 hi2 w1 (hr.below hw1 (Nat.le_refl _)) (h2w.below hw1 (by omega)) (by omega) (by omega) hfew (by unfold cF_;have:=L2.out;omega) hge).mono ?_
      rintro e w2 ⟨⟨v,rfl,hv⟩,hb⟩
      exact⟨v,rfl,hv.mono (by omega) (Nat.le_refl _),hw1.trans (hb.mono hw1.size)⟩
     have hcell:∀w2,Below wr.heap.size wr w2→w2.cell? ⟨N,ix,none⟩=some (.int .i64 (t:Int))∧w2.frozen? ⟨N,ix,none⟩=false:=fun w2 hw2=>by
      have ho:=gK_ hown hw2
      have:=vD_ ho hql hixl
      rw[hf.cur] at this
      exact⟨this,ho.frozenAt _⟩
     have ht10:=hf.small
     have HMIN:=hid hmin
     have HCELL:=hid hcell
     have HST:=hid (hf.step (by rw[←HLA.out];exact hixl) hge)
     clear hord hmin hcell hf hr hown hb h2w hql
     go_wp2_with (first
      | (go_at_call 129;with_reducible refine(HORD.out).mono ?_;rintro e w3 ⟨rfl,hb3⟩;have HB3:=hid hb3;clear hb3)
      | (go_at_call 163;with_reducible refine(HMIN.out _ HB3.out).mono ?_;rintro e w4 ⟨v4,rfl,hv4,hb4⟩;obtain⟨hq1,hq2⟩:=HCELL.out _ hb4;have HV4:=hid hv4;have HB4:=hid hb4;clear hv4 hb4))
     have hkp:bM_ (N+1) w4.heap.size w4 (w4.setCell ⟨N,ix,none⟩ (.int .i64 ((t:Int)+1))):=(bM_.refl _ _ _).setCell (p:=⟨N,ix,none⟩) (.inl (Nat.lt_succ_self N)) _
     have hss:(w4.setCell ⟨N,ix,none⟩ (.int .i64 ((t:Int)+1))).heap.size=w4.heap.size:=by simp[World.setCell]
     refine⟨⟨t+1,R2-m,qs2.set ix (t+1),HST.out,by rw[hss];exact HV4.out.keep hkp,sX_ (gK_ HO2.out HB4.out) (by omega),(HB2.out.trans (HB4.out.mono (Nat.le_of_lt hNs2))).setCell (Nat.le_refl _) _⟩,?_⟩
     rw[HMU.out _ _ _ _ _ (HV4.out.keep hkp),HMU.out _ _ _ _ _ HR2.out]
     omega
    ·have hd:decide (0≤cmpI (R2:Int) (m:Int))=false:=decide_eq_false (by unfold cmpI;rw[if_pos (by omega)];omega)
     have HLV:=hid (hf.leave (by omega))
     clear hord hf hr hown hb h2w hql
     go_wp2_with (go_at_call 129;with_reducible refine(HORD.out).mono ?_;rintro e w3 ⟨rfl,hb3⟩;have HB3:=hid hb3;clear hb3)
     have h3s:=HB3.out.size
     refine⟨⟨ix,R2,qs2,by omega,rfl,HLV.out,(HR2.out.below HB3.out (Nat.le_refl _)).mono (Nat.le_refl _) h3s,gK_ HO2.out HB3.out,HB2.out.trans (HB3.out.mono (Nat.le_of_lt hNs2))⟩,?_⟩
     simp only[intOf];omega
end Go.Proofs.YtjfdefglpoancaaGreatDoor
