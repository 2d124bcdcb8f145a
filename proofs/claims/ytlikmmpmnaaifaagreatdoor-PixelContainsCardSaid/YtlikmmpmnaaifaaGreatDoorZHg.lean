/- - -/
import Derived.Deep.RegionLaw
import Derived.Test.YtlikmmpmnaaifaaGreatDoorZPt
import Derived.Test.YtlikmmpmnaaifaaGreatDoorZPlB
import Derived.Test.YtlikmmpmnaaifaaGreatDoorZSg
set_option maxHeartbeats 40000000
set_option maxRecDepth 1000000
open Go.Lib (hid)
namespace Go.Proofs.YtlikmmpmnaaifaaGreatDoor
open Go.RowKit Go.Shelf Go.Sort
attribute [local go_sem] Oper.semAt_some
theorem aGP {ps:List Pl} (hv:fewB ps=true):∀q∈ps,vP q=true:=by
 unfold fewB at hv
 simp only[Bool.and_eq_true] at hv
 exact List.all_eq_true.1 hv.2
theorem vV_ {ps:List Pl} (hv:fewB ps=true):1≤ps.length∧ps.length≤40:=by
 unfold fewB at hv
 simp only[Bool.and_eq_true,decide_eq_true_eq] at hv
 exact hv.1
theorem sP_len {ps:List Pl} (hv:fewB ps=true):1≤(sP ps).length∧(sP ps).length≤ps.length:=by
 have hall:=aGP hv
 have hl:=vV_ hv
 obtain⟨a1,a2⟩:=eR_ hall
 refine⟨?_,?_⟩
 ·cases ps with
  | nil=>simp at hl
  | cons x l=>exact List.length_pos_of_mem ((a2 x).2 (by simp))
 ·have:=nQ_ (cQ_ ltP ps)
  rw[gI_] at this
  exact this
theorem vQ_ {B cap n:Nat} {ps:List Pl} (hl:ps.length=n) (hv:fewB ps=true) (w:World) (h:PsAt B ps w) :
  Calls Tryz.prog 23 #[.slice (some ⟨B,0,none⟩) n cap] w fun e W'=>(∃g c,e=.returned (.tuple #[.slice (some ⟨g,0,none⟩) (aO_ ps).length c,.int .i64 0])∧ArAt g (plC (aO_ ps)) W')∧Below w.heap.size w W':=by
 have hall:=aGP hv
 have hlen:=vV_ hv
 have hsl:=sP_len hv
 obtain⟨Q,hQ⟩:∃Q,Q=sP ps:=⟨_,rfl⟩
 obtain⟨m,hQl⟩:∃m,Q.length=m:=⟨_,rfl⟩
 rw[←hQ,hQl] at hsl
 have hn1:1≤n:=by omega
 have hQv:∀p∈Q,vP p=true:=fun p hp=>hall p (((eR_ hall).2 p).1 (by rwa[hQ] at hp))
 have KF:=hid (few_s (cap:=cap) hl (by omega) w h)
 rw[hv] at KF
 have K1:=hid (fun(W:World) (hb:Below w.heap.size w W)=>aPY (cap:=cap) hl (by omega) (R:=[]) (w:=w) (W:=W) ⟨hb,fun x hx=>by cases hx⟩ (h.below hb))
 have K2:=hid (fun(g c:Nat) (W:World) (hz:OzAt 26 (.slice (some ⟨g,0,none⟩) n c) n (plC ps) [] w W)=>aNW (cap:=c) hl (by omega) hz.pz)
 have K3:=hid (fun(g c:Nat) (l':List Pl) (W:World) (hc:n≤c) (hz:l'.length=n∧(∀q,q∈l'↔q∈ps)∧l'.Pairwise (fun a b=>ltP b a=false)∧PzAt g l' [] w W)=>
  (show Calls Tryz.prog 73 #[.slice (some ⟨g,0,none⟩) n c] W fun e W'=>e=.returned (.slice (some ⟨g,0,none⟩) m c)∧PzAt g Q [] w W' from by
   have:=aBK (cap:=c) hz.1 (by omega) hc hz.2.2.2
   rw[sP_of hall hz.2.1 hz.2.2.1,←hQ,hQl] at this
   exact this))
 by_cases h3:m<3
 ·have hH:aO_ ps=Q:=by rw[dF_,←hQ,if_pos (by omega)]
  rw[hH,hQl]
  have hg3:decide ((m:Int)<3)=true:=decide_eq_true (by omega)
  have hg4:(m:Int)<3:=by omega
  clear hall hQ hQl hQv hH hv h hl hsl hlen
  go_enter Tryz.func23,Tryz.ntmps23
  go_wp2_with (first
   | (go_at_call 68;(with_reducible refine(KF.out).mono ?_);rintro e w1 ⟨rfl,hb⟩;have H1:=hid hb;clear hb)
   | (go_at_call 70;(with_reducible refine(K1.out _ H1.out).mono ?_);rintro e w2 ⟨v,rfl,hz⟩;obtain⟨g,c,rfl⟩:∃g c,v=.slice (some ⟨g,0,none⟩) n c:=qI_ hz (by omega);have H2:=hid hz;have hcap:=hz.cap_le.1;clear hz)
   | (go_at_call 71;(with_reducible refine(K2.out _ _ _ H2.out).mono ?_);rintro e w3 ⟨rfl,l',hz⟩;have H3:=hid hz;clear hz)
   | (go_at_call 73;(with_reducible refine(K3.out _ _ _ _ hcap H3.out).mono ?_);rintro e w4 ⟨rfl,hz⟩;have H4:=hid hz;clear hz)
   | fail)
  refine bodyPost_ret (v:=.tuple #[.slice (some ⟨g,0,none⟩) m c,.int .i64 0]) ?_ rfl ⟨⟨g,c,rfl,H4.out.ar.row (g,plC Q) (by simp)⟩,H4.out.az.bw⟩
  simp[results,Tryz.results23,go_sem]
 have hH:aO_ ps=(bF_ aI_ Q).dropLast++(bF_ aI_ Q.reverse).dropLast:=by rw[dF_,←hQ,if_neg (by omega)]
 obtain⟨p1,hp1⟩:∃p1,(aU_ aI_ Q).length=p1+1:=⟨(aU_ aI_ Q).length-1,by have:=kC_ (ok:=aI_) (l:=Q) (by omega);omega⟩
 obtain⟨p2,hp2⟩:∃p2,(aU_ aI_ Q.reverse).length=p2+1:=⟨(aU_ aI_ Q.reverse).length-1,by have:=kC_ (ok:=aI_) (l:=Q.reverse) (by simp;omega);omega⟩
 have b1:=kC_ (ok:=aI_) (l:=Q) (by omega)
 have b2:=uG_ (ok:=aI_) (l:=Q)
 have b3:=uG_ (ok:=aI_) (l:=Q.reverse)
 rw[List.length_reverse] at b3
 have hHl:(aO_ ps).length=p1+p2:=by
  rw[hH,List.length_append,List.length_dropLast,List.length_dropLast]
  unfold bF_
  rw[List.length_reverse,List.length_reverse]
  omega
 have HH:=hid hH
 rw[hHl]
 have K4:=hid (fun(g c:Nat) (W:World) (hz:PsAt g Q W)=>aHX (cap:=c) hQl (by omega) hQv hz)
 rw[hp1] at K4
 have K5:=hid (fun(g c:Nat) (R:List (Nat×List Value)) (W:World) (hz:PzAt g Q R w W)=>aDS (cap:=c) hQl (by omega) (by omega) hz)
 have K6:=hid (fun(g c:Nat) (W:World) (hz:PsAt g Q.reverse W)=>aHX (cap:=c) (n:=m) (l:=Q.reverse) (by rw[List.length_reverse,hQl]) (by omega) (fun p hp=>hQv p (List.mem_reverse.1 hp)) hz)
 rw[hp2] at K6
 have d1:(bF_ aI_ Q).dropLast.length=p1:=by unfold bF_;rw[List.length_dropLast,List.length_reverse];omega
 have d2:(bF_ aI_ Q.reverse).dropLast.length=p2:=by unfold bF_;rw[List.length_dropLast,List.length_reverse];omega
 have K7:=hid (fun(S g1 g2 c1 c2 cs:Nat) (W:World) hA=>aLS (S:=S) (g1:=g1) (g2:=g2) (c1:=c1) (c2:=c2) (cs:=cs) (w:=w) (W:=W) d1 d2 (by omega) hA)
 rw[←hH] at K7
 have hw1:IntKind.i64.wrap (p1:Int)=(p1:Int):=IntWalk.i64_in _ (by omega)
 have hw2:IntKind.i64.wrap (p2:Int)=(p2:Int):=IntWalk.i64_in _ (by omega)
 have hn3:¬(m:Int)<3:=by omega
 have hn4:¬m<3:=by omega
 clear hall hQ hQl hQv hH hv hp1 hp2 b1 b2 b3 hHl d1 d2 h hl hsl hlen h3
 go_enter Tryz.func23,Tryz.ntmps23
 go_wp2_with (first
  | (go_at_call 68;(with_reducible refine(KF.out).mono ?_);rintro e w1 ⟨rfl,hb⟩;have H1:=hid hb;clear hb)
  | (go_at_call 70;(with_reducible refine(K1.out _ H1.out).mono ?_);rintro e w2 ⟨v,rfl,hz⟩;obtain⟨g,c,rfl⟩:∃g c,v=.slice (some ⟨g,0,none⟩) n c:=qI_ hz (by omega);have H2:=hid hz;have hcap:=hz.cap_le.1;clear hz)
  | (go_at_call 71;(with_reducible refine(K2.out _ _ _ H2.out).mono ?_);rintro e w3 ⟨rfl,l',hz⟩;have H3:=hid hz;clear hz)
  | (go_at_call 73;(with_reducible refine(K3.out _ _ _ _ hcap H3.out).mono ?_);rintro e w4 ⟨rfl,hz⟩;have H4:=hid hz;clear hz)
  | (go_at_call 77;(with_reducible refine(K5.out _ _ _ _ H5.out).mono ?_);rintro e w6 ⟨rfl,hz⟩;have H6:=hid hz;clear hz)
  | (go_at_call 76;have _:=H6;(with_reducible refine(K6.out _ _ _ H6.out.ps).mono ?_);rintro e w7 ⟨v,rfl,hb,hz⟩;obtain⟨g2,c2,rfl⟩:∃g c,v=.slice (some ⟨g,0,none⟩) (p2+1) c:=qI_ hz (by omega);have H7:=hid (show AzAt [(g2,plC (bF_ aI_ Q.reverse)),(g1,plC (bF_ aI_ Q))] w _ from(H6.out.below hb).az.cons (hz.ar.row (g2,plC (bF_ aI_ Q.reverse)) (by simp)));have hq2:=hz.cap_le;clear hb hz)
  | (go_at_call 76;(with_reducible refine(K4.out _ _ _ H4.out.ps).mono ?_);rintro e w5 ⟨v,rfl,hb,hz⟩;obtain⟨g1,c1,rfl⟩:∃g c,v=.slice (some ⟨g,0,none⟩) (p1+1) c:=qI_ hz (by omega);have H5:=hid (show PzAt g Q [(g1,plC (bF_ aI_ Q))] w _ from(H4.out.below hb).cons (hz.ar.row (g1,plC (bF_ aI_ Q)) (by simp)) (by have:=(hz.blk rfl).2.1;have:=H4.out.ns.sz;omega));have hq1:=hz.cap_le;clear hb hz)
  | fail)
 have H8:=hid (show AzAt [(w7.heap.size,[.slice (some ⟨g1,0,none⟩) p1 c1,.slice (some ⟨g2,0,none⟩) p2 c2]),(g1,plC (bF_ aI_ Q).dropLast),(g2,plC (bF_ aI_ Q.reverse).dropLast)] w _ from
  ((AzAt.mk (L:=[(g1,plC (bF_ aI_ Q).dropLast),(g2,plC (bF_ aI_ Q.reverse).dropLast)]) H7.out.bw (fun x hx=>by
    rcases List.mem_cons.1 hx with rfl|hx
    ·exact(H7.out.row (g1,plC (bF_ aI_ Q)) (by simp)).dropLast
    ·rcases List.mem_cons.1 hx with rfl|hx
     ·exact(H7.out.row (g2,plC (bF_ aI_ Q.reverse)) (by simp)).dropLast
     ·cases hx)).push [.slice (some ⟨g1,0,none⟩) p1 c1,.slice (some ⟨g2,0,none⟩) p2 c2] 27).drew)
 have hc1:(p1:Int)≤(c1:Int):=by omega
 have hc2:(p2:Int)≤(c2:Int):=by omega
 clear H7 H6 H5 H4 H3 H2 H1 K1 K2 K3 K4 K5 K6
 go_region_with (first
  | (go_at_call 78;(with_reducible refine(K7.out _ _ _ _ _ _ _ H8.out).mono ?_);rintro e w8 ⟨g3,c3,rfl,hz⟩;have H9:=hid hz;clear hz)
  | fail)
 all_goals
  go_wp2
  refine bodyPost_ret (v:=.tuple #[.slice (some ⟨g3,0,none⟩) (p1+p2) c3,.int .i64 0]) ?_ rfl ⟨⟨g3,c3,rfl,H9.out.ar.row (g3,plC (aO_ ps)) (by simp)⟩,H9.out.az.bw⟩
  simp[results,Tryz.results23,go_sem]
theorem aJX {ls qs:List Pl} {o:Nat} (h:∀(k:Nat) (q:Pl),qs[k]?=some q→ls[o+k]?=some q):∀(j:Nat) (u:Value),(plC qs)[j]?=some u→(plC ls)[o*2+j]?=some u:=
 mM_ (f:=fun i=>(plC ls)[o*2+i]?) fun k q hq=>by
  have:=iR_ (h k q hq)
  rw[show o*2+k*2=(o+k)*2 by omega,show o*2+(k*2+1)=(o+k)*2+1 by omega]
  exact this
theorem oC_ {ops:Array Oper} {o:Oper} {a:Act} {w0 w:World} {K:Act→World→Prop} {Q:Exit→Act→World→Prop} {E:Prop} (hg:o.guard=none) (s x:Operand)
  (hop:o.op=Op.call { callee:=Callee.builtin Builtin.append,args:=#[s,x],argTypes:=#[27,27] })
  (v:Value) (n:Nat) (ps:List Pl) (R:List (Nat×List Value)) (hs:a.eval s=v) (hZ:OzAt 26 v n (plC ps) R w0 w)
  (B o2 m c:Nat) (ls qs:List Pl) (hx:a.eval x=.slice (some ⟨B,o2*2,none⟩) m c) (hm:qs.length=m) (hB:(B,plC ls)∈R) (hq:∀(k:Nat) (q:Pl),qs[k]?=some q→ls[o2+k]?=some q)
  (hb:n+m≤1000000)
  (hK:∀v' w',OzAt 26 v' (n+m) (plC (ps++qs)) R w0 w'→K (a.put o.dst v') w') :
  if Region.wanted o (yielded ops a.tmps)=true then Oper.wp Tryz.prog o a w K Q else E:=by
 have hw:Region.wanted o (yielded ops a.tmps)=true:=by simp[Region.wanted,hg]
 rw[if_pos hw]
 obtain⟨i0,hi0,hz0,hz1,hz2⟩:=info_parts dP_
 have hrow:=hZ.az.row (B,plC ls) hB
 obtain⟨v',w',hr,h2,h3,h4,h5⟩:=run_append_own_at (P:=Tryz.prog) w w0.heap.size 27 o.type 26 i0 (.agg #[.int .i64 0,.int .i64 0]) 2 16 Tryz.underlying27 hi0 hz0 hz1 hz2 rfl (by decide)
  v n (plC ps) hZ.own ⟨B,o2*2,none⟩ m c (plC qs) (by rw[bJ_,hm]) (fun j u hj=>by
   have:=hrow.row _ _ (aJX hq j u hj)
   rw[show(⟨B,o2*2,none⟩:Addr).add j=⟨B,o2*2+j,none⟩ by unfold Addr.add;split <;> simp_all]
   exact this) (qF_ qs) (by unfold maxLen;omega) (by omega) hZ.az.bw.size
 have hz:=hZ.grown h2 h3 h5
 rw[←eU_] at hz
 unfold Oper.wp
 simp[execOp,hop,resolve,invoke,builtin,hs,hx,hr,Result.andThen]
 exact hK v' w' hz
end Go.Proofs.YtlikmmpmnaaifaaGreatDoor
