/- - -/
import Derived.Deep.RegionWith
import Derived.Test.YtdkaohphbgdkpaaGreatDoorZBase
import Derived.Test.YtdkaohphbgdkpaaGreatDoorZAri
import Derived.Test.YtdkaohphbgdkpaaGreatDoorZBack
set_option maxHeartbeats 40000000
set_option maxRecDepth 1000000
namespace Go.Proofs.YtdkaohphbgdkpaaGreatDoor
open Go.RowKit Go.Shelf
attribute [local go_sem] Oper.semAt_some
structure SumAt (N:Nat) (b1 b2:Bool) (s1 s2:Value) (w W:World):Prop where
 r0:W.cell? ⟨N+1+1,0,none⟩=some (.bool false)
 r1:W.cell? ⟨N+1+1,1,none⟩=some (.slice none 0 0)
 f0:W.frozen? ⟨N+1+1,0,none⟩=false
 f1:W.frozen? ⟨N+1+1,1,none⟩=false
 x0:W.cell? ⟨N,0,none⟩=some (.bool b1)
 y0:W.cell? ⟨N+1,0,none⟩=some (.bool b2)
 x1:W.cell? ⟨N,1,none⟩=some s1
 y1:W.cell? ⟨N+1,1,none⟩=some s2
 sz:N+3≤W.heap.size
 bw:Below N w W
theorem SumAt.below {N:Nat} {x y:Bool} {s1 s2:Value} {w W W':World} (h:SumAt N x y s1 s2 w W) (hb:Below W.heap.size W W'):SumAt N x y s1 s2 w W':=by
 have hs:=h.sz
 have hs':=hb.size
 obtain⟨c,f⟩:=mM_ hb
 exact⟨(c _ _ (by omega)).trans h.r0,(c _ _ (by omega)).trans h.r1,(f _ _ (by omega)).trans h.f0,(f _ _ (by omega)).trans h.f1,(c _ _ (by omega)).trans h.x0,(c _ _ (by omega)).trans h.y0,(c _ _ (by omega)).trans h.x1,(c _ _ (by omega)).trans h.y1,by omega,h.bw.trans (hb.mono (by omega))⟩
theorem SumAt.drew {N:Nat} {x y:Bool} {s1 s2:Value} {w W:World} (h:SumAt N x y s1 s2 w W):SumAt N x y s1 s2 w W.drew:=⟨h.r0,h.r1,h.f0,h.f1,h.x0,h.y0,h.x1,h.y1,h.sz,h.bw.drew⟩
theorem SumAt.start (w:World) (b1 b2:Bool) (s1 s2:Value):SumAt w.heap.size b1 b2 s1 s2 w (((w.alloc (.cells #[.bool b1,s1] 245)).alloc (.cells #[.bool b2,s2] 245)).alloc (.cells #[.bool false,.slice none 0 0] 245)).drew:=by
 refine⟨?_,?_,?_,?_,?_,?_,?_,?_,by simp,((((Below.refl _ _).alloc (Nat.le_refl _) _).alloc (by simp) _).alloc (by simp;omega) _).drew⟩ <;> simp[go_sem]
theorem SumAt.start0 (w:World) (b1 b2:Bool) (s1 s2:Value):SumAt w.heap.size b1 b2 s1 s2 w (((w.alloc (.cells #[.bool b1,s1] 245)).alloc (.cells #[.bool b2,s2] 245)).alloc (.cells #[.bool false,.slice none 0 0] 245)):=by
 refine⟨?_,?_,?_,?_,?_,?_,?_,?_,by simp,((((Below.refl _ _).alloc (Nat.le_refl _) _).alloc (by simp) _).alloc (by simp;omega) _)⟩ <;> simp[go_sem]
theorem zB_ (neg:Bool) (a1 a2:Option Addr) (c1 c2 n m lo1 hi1 lo2 hi2:Nat) (w:World) (h1:Nm w (.slice a1 (dig 10000 n).length c1) n lo1 hi1) (h2:Nm w (.slice a2 (dig 10000 m).length c2) m lo2 hi2)
  (b1:hi1≤w.heap.size) (b2:hi2≤w.heap.size) (l1:Few n) (l2:Few m) :
  Calls Tryz.prog 212 #[.agg #[.bool neg,.slice a1 (dig 10000 n).length c1],.agg #[.bool neg,.slice a2 (dig 10000 m).length c2]] w fun e w'=>(∃s,e=.returned (.agg #[.bool neg,s])∧Nm w' s (n+m) w.heap.size w'.heap.size)∧Below w.heap.size w w':=by
 have H1:=Lib.hid h1
 have H2:=Lib.hid h2
 clear h1 h2
 have HS:=Lib.hid (SumAt.start w neg neg (.slice a1 (dig 10000 n).length c1) (.slice a2 (dig 10000 m).length c2))
 go_enter Tryz.func212,Tryz.ntmps212
 go_wp2_with fail
 go_region_with (go_at_call 230;refine(qQ_ _ _ n m lo1 hi1 lo2 hi2 _ (by exact H1.out.below HS.out.bw b1) (by exact H2.out.below HS.out.bw b2) (by exact Nat.le_trans b1 (by have:=HS.out.sz;omega)) (by exact Nat.le_trans b2 (by have:=HS.out.sz;omega)) l1 l2).mono ?_;rintro e w1 ⟨⟨v,rfl,hv⟩,hb1⟩;obtain⟨a3,c3,rfl⟩:∃a cap,v=.slice a (dig 10000 (n+m)).length cap:=(by obtain⟨a,cap,e,_⟩:=hv;exact⟨a,cap,e⟩);have HV:=Lib.hid hv;clear hv;have HS1:=Lib.hid (HS.out.below hb1);have q1:=HS1.out.r0;have q2:=HS1.out.r1;have q3:=HS1.out.f0;have q4:=HS1.out.f1;have q5:=HS1.out.x0;have q6:=HS1.out.y0)
 all_goals go_wp2
 all_goals
  obtain⟨W5,hW5⟩:∃W5,(w1.setCell ⟨w.heap.size+1+1,0,none⟩ (.bool neg)).setCell ⟨w.heap.size+1+1,1,none⟩ (.slice a3 (dig 10000 (n+m)).length c3)=W5:=⟨_,rfl⟩
  have p0:W5.cell? ⟨w.heap.size+1+1,0,none⟩=some (.bool neg):=by
   rw[←hW5,World.cell?_setCell_other _ _ _ _ (by simp)]
   exact World.cell?_setCell_same _ _ _ q1
  have p1:W5.cell? ⟨w.heap.size+1+1,1,none⟩=some (.slice a3 (dig 10000 (n+m)).length c3):=by
   rw[←hW5]
   exact World.cell?_setCell_same _ _ _ (by rw[World.cell?_setCell_other _ _ _ _ (by simp)];exact q2)
  have hS0:=HS.out.sz
  have nV:Nm W5 (.slice a3 (dig 10000 (n+m)).length c3) (n+m) w.heap.size W5.heap.size:=by
   have h1:=HV.out.keep (w':=W5) (by rw[←hW5];exact((cE_.refl _ _ _).setCell (.inl (by simp)) _).setCell (.inl (by simp)) _)
   exact h1.mono (by simp;omega) (by rw[←hW5];simp)
  have hbl:Below w.heap.size w W5:=by
   rw[←hW5]
   exact(HS1.out.bw.setCell (by simp;omega) _).setCell (by simp;omega) _
  rw[hW5]
  clear hW5 q1 q2 q3 q4 q5 q6
  (try simp only[Exit.inBlock,Exit.then])
  refine bodyPost_ret (v:=.agg #[.bool neg,.slice a3 (dig 10000 (n+m)).length c3]) ?_ rfl ⟨⟨_,rfl,nV⟩,hbl⟩
  simp[results,Tryz.results212,go_sem,p0,p1,Result.andThen]
theorem sum_ne (neg ng:Bool) (hne:(neg==ng)=false) (a1 a2:Option Addr) (c1 c2 n m lo1 hi1 lo2 hi2:Nat) (w:World) (h1:Nm w (.slice a1 (dig 10000 n).length c1) n lo1 hi1) (h2:Nm w (.slice a2 (dig 10000 m).length c2) m lo2 hi2)
  (b1:hi1≤w.heap.size) (b2:hi2≤w.heap.size) (l1:Few n) (l2:Few m) :
  Calls Tryz.prog 212 #[.agg #[.bool neg,.slice a1 (dig 10000 n).length c1],.agg #[.bool ng,.slice a2 (dig 10000 m).length c2]] w fun e w'=>(∃s,(m≤n∧e=.returned (.agg #[.bool neg,s])∧Nm w' s (n-m) w.heap.size w'.heap.size)∨(n≤m∧e=.returned (.agg #[.bool ng,s])∧Nm w' s (m-n) w.heap.size w'.heap.size))∧Below w.heap.size w w':=by
 have hcc:0≤cmpI n m↔(m:Int)≤n:=by
  unfold cmpI
  rcases Nat.lt_trichotomy n m with h|h|h
  ·rw[if_pos (by omega)];omega
  ·rw[if_neg (by omega),if_neg (by omega)];omega
  ·rw[if_neg (by omega),if_pos (by omega)];omega
 have H1:=Lib.hid h1
 have H2:=Lib.hid h2
 clear h1 h2
 have HS:=Lib.hid (SumAt.start0 w neg ng (.slice a1 (dig 10000 n).length c1) (.slice a2 (dig 10000 m).length c2))
 go_enter Tryz.func212,Tryz.ntmps212
 go_wp2_with (go_at_call 211;refine(eL_ _ _ n m lo1 hi1 lo2 hi2 _ (by exact H1.out.below HS.out.bw b1) (by exact H2.out.below HS.out.bw b2) (by exact Nat.le_trans b1 (by have:=HS.out.sz;omega)) (by exact Nat.le_trans b2 (by have:=HS.out.sz;omega))).mono ?_;rintro e w1 ⟨rfl,hb1⟩;have HS1:=Lib.hid (HS.out.below hb1);have q5:=HS1.out.x0;have q6:=HS1.out.y0;have q7:=HS1.out.x1;have q8:=HS1.out.y1)
 rotate_left
 ·have HC:Hid (n≤m):=by show n≤m;omega
  go_region_with (go_at_call 231;refine(gQ_ _ _ m n lo2 hi2 lo1 hi1 _ (by exact((H2.out.below HS.out.bw b2).below hb1 (by have:=HS.out.sz;omega)).keep (cE_.refl _ _ _)) (by exact((H1.out.below HS.out.bw b1).below hb1 (by have:=HS.out.sz;omega)).keep (cE_.refl _ _ _)) (by exact Nat.le_trans b2 (by have:=HS1.out.sz;simp only[World.drew];omega)) (by exact Nat.le_trans b1 (by have:=HS1.out.sz;simp only[World.drew];omega)) l2 l1 HC.out).mono ?_;rintro e w2 ⟨⟨v,rfl,hv⟩,hb2⟩;obtain⟨a3,c3,rfl⟩:∃a cap,v=.slice a (dig 10000 (m-n)).length cap:=(by obtain⟨a,cap,e,_⟩:=hv;exact⟨a,cap,e⟩);have HV:=Lib.hid hv;clear hv;have HS2:=Lib.hid (HS1.out.drew.below hb2);have q1:=HS2.out.r0;have q2:=HS2.out.r1;have q3:=HS2.out.f0;have q4:=HS2.out.f1;have q5:=HS2.out.x0;have q6:=HS2.out.y0)
  all_goals go_wp2
  all_goals
   obtain⟨W5,hW5⟩:∃W5,(w2.setCell ⟨w.heap.size+1+1,0,none⟩ (.bool ng)).setCell ⟨w.heap.size+1+1,1,none⟩ (.slice a3 (dig 10000 (m-n)).length c3)=W5:=⟨_,rfl⟩
   have p0:W5.cell? ⟨w.heap.size+1+1,0,none⟩=some (.bool ng):=by
    rw[←hW5,World.cell?_setCell_other _ _ _ _ (by simp)]
    exact World.cell?_setCell_same _ _ _ q1
   have p1:W5.cell? ⟨w.heap.size+1+1,1,none⟩=some (.slice a3 (dig 10000 (m-n)).length c3):=by
    rw[←hW5]
    exact World.cell?_setCell_same _ _ _ (by rw[World.cell?_setCell_other _ _ _ _ (by simp)];exact q2)
   have hS0:=HS1.out.sz
   have nV:Nm W5 (.slice a3 (dig 10000 (m-n)).length c3) (m-n) w.heap.size W5.heap.size:=by
    have h1:=HV.out.keep (w':=W5) (by rw[←hW5];exact((cE_.refl _ _ _).setCell (.inl (by show w.heap.size+1+1<w1.heap.size;have:=HS1.out.sz;omega)) _).setCell (.inl (by show w.heap.size+1+1<w1.heap.size;have:=HS1.out.sz;omega)) _)
    exact h1.mono (by show w.heap.size≤w1.heap.size;omega) (by rw[←hW5];simp)
   have hbl:Below w.heap.size w W5:=by
    rw[←hW5]
    exact(HS2.out.bw.setCell (by simp;omega) _).setCell (by simp;omega) _
   rw[hW5]
   clear hW5 q1 q2 q3 q4 q5 q6
   (try simp only[Exit.inBlock,Exit.then])
   refine bodyPost_ret (v:=.agg #[.bool ng,.slice a3 (dig 10000 (m-n)).length c3]) ?_ rfl ⟨⟨_,.inr ⟨HC.out,rfl,nV⟩⟩,hbl⟩
   simp[results,Tryz.results212,go_sem,p0,p1,Result.andThen]
 ·have HC:Hid (m≤n):=by show m≤n;omega
  go_region_with (go_at_call 231;refine(gQ_ _ _ n m lo1 hi1 lo2 hi2 _ (by exact((H1.out.below HS.out.bw b1).below hb1 (by have:=HS.out.sz;omega)).keep (cE_.refl _ _ _)) (by exact((H2.out.below HS.out.bw b2).below hb1 (by have:=HS.out.sz;omega)).keep (cE_.refl _ _ _)) (by exact Nat.le_trans b1 (by have:=HS1.out.sz;simp only[World.drew];omega)) (by exact Nat.le_trans b2 (by have:=HS1.out.sz;simp only[World.drew];omega)) l1 l2 HC.out).mono ?_;rintro e w2 ⟨⟨v,rfl,hv⟩,hb2⟩;obtain⟨a3,c3,rfl⟩:∃a cap,v=.slice a (dig 10000 (n-m)).length cap:=(by obtain⟨a,cap,e,_⟩:=hv;exact⟨a,cap,e⟩);have HV:=Lib.hid hv;clear hv;have HS2:=Lib.hid (HS1.out.drew.below hb2);have q1:=HS2.out.r0;have q2:=HS2.out.r1;have q3:=HS2.out.f0;have q4:=HS2.out.f1;have q5:=HS2.out.x0;have q6:=HS2.out.y0)
  all_goals go_wp2
  all_goals
   obtain⟨W5,hW5⟩:∃W5,(w2.setCell ⟨w.heap.size+1+1,0,none⟩ (.bool neg)).setCell ⟨w.heap.size+1+1,1,none⟩ (.slice a3 (dig 10000 (n-m)).length c3)=W5:=⟨_,rfl⟩
   have p0:W5.cell? ⟨w.heap.size+1+1,0,none⟩=some (.bool neg):=by
    rw[←hW5,World.cell?_setCell_other _ _ _ _ (by simp)]
    exact World.cell?_setCell_same _ _ _ q1
   have p1:W5.cell? ⟨w.heap.size+1+1,1,none⟩=some (.slice a3 (dig 10000 (n-m)).length c3):=by
    rw[←hW5]
    exact World.cell?_setCell_same _ _ _ (by rw[World.cell?_setCell_other _ _ _ _ (by simp)];exact q2)
   have hS0:=HS1.out.sz
   have nV:Nm W5 (.slice a3 (dig 10000 (n-m)).length c3) (n-m) w.heap.size W5.heap.size:=by
    have h1:=HV.out.keep (w':=W5) (by rw[←hW5];exact((cE_.refl _ _ _).setCell (.inl (by show w.heap.size+1+1<w1.heap.size;have:=HS1.out.sz;omega)) _).setCell (.inl (by show w.heap.size+1+1<w1.heap.size;have:=HS1.out.sz;omega)) _)
    exact h1.mono (by show w.heap.size≤w1.heap.size;omega) (by rw[←hW5];simp)
   have hbl:Below w.heap.size w W5:=by
    rw[←hW5]
    exact(HS2.out.bw.setCell (by simp;omega) _).setCell (by simp;omega) _
   rw[hW5]
   clear hW5 q1 q2 q3 q4 q5 q6
   (try simp only[Exit.inBlock,Exit.then])
   refine bodyPost_ret (v:=.agg #[.bool neg,.slice a3 (dig 10000 (n-m)).length c3]) ?_ rfl ⟨⟨_,.inl ⟨HC.out,rfl,nV⟩⟩,hbl⟩
   simp[results,Tryz.results212,go_sem,p0,p1,Result.andThen]
end Go.Proofs.YtdkaohphbgdkpaaGreatDoor
namespace Go.Proofs.YtdkaohphbgdkpaaGreatDoor
open Go.RowKit Go.Shelf
theorem rU_ (K:Nat) (caps:Array Value) (p:Nat→Bool) (n:Nat) (w:World)
  (hent:∀(args:Array Value) (w:World),(callFunc K args).run Tryz.prog w=.ok (.enter K args) w)
  (hK:∀(i:Nat) (w':World),i<n→Below w.heap.size w w'→Calls Tryz.prog K (#[.int .i64 i]++caps) w' fun e w''=>e=.returned (.bool (p i))∧Below w'.heap.size w' w'')
  (hmono:∀a b,a≤b→p a=true→p b=true) (hn:n≤1000000) :
  Calls Tryz.prog 236 #[.int .i64 n,.func (.func K) #[] caps] w fun e w'=>(∃r:Nat,e=.returned (.int .i64 r)∧r≤n∧(∀i,i<r→p i=false)∧(∀i,r≤i→i<n→p i=true))∧Below w.heap.size w w':=by
 have HK:=Lib.hid hK
 have HM:=Lib.hid hmono
 clear hK hmono
 go_enter Tryz.func236,Tryz.ntmps236
 go_wp2
 go_loopw [5,6] (fun i j wr=>∃(lo hi:Nat),i=.int .i64 lo∧j=.int .i64 hi∧lo≤hi∧hi≤n∧Hid ((∀t,t<lo→p t=false)∧(∀t,hi≤t→t<n→p t=true))∧Below w.heap.size w wr)
  (fun i j _=>(intOf j-intOf i).toNat)
 case atStart=>exact⟨0,n,rfl,rfl,Nat.zero_le _,Nat.le_refl _,Lib.hid ⟨fun t ht=>by omega,fun t h1 h2=>by omega⟩,Below.refl _ _⟩
 case round=>
  obtain⟨lo,hi,rfl,rfl,hlh,hin,I,hB⟩:=hrel
  by_cases hlt:lo<hi
  ·have hc:=HK.out ((lo+hi)/2) wr (by omega) hB
   rw[show(((lo+hi)/2:Nat):Int)=((lo:Int)+(hi:Int))/2 by omega] at hc
   have HC:=Lib.hid hc
   clear hc
   cases hp:p ((lo+hi)/2)
   ·rw[hp] at HC
    have HP:=Lib.hid hp
    clear hp
    go_wp2_with ((with_reducible refine HC.out.mono ?_);rintro e w2 ⟨rfl,hb2⟩)
    have hI:=I.out
    exact⟨⟨(lo+hi)/2+1,hi,by go_num,rfl,by omega,hin,Lib.hid ⟨fun t ht=>Bool.eq_false_iff.2 fun e=>(by have:=HM.out t ((lo+hi)/2) (by omega) e;rw[HP.out] at this;cases this),hI.2⟩,hB.trans (hb2.mono hB.size)⟩,by simp only[intOf];omega⟩
   ·rw[hp] at HC
    have HP:=Lib.hid hp
    clear hp
    go_wp2_with ((with_reducible refine HC.out.mono ?_);rintro e w2 ⟨rfl,hb2⟩)
    have hI:=I.out
    exact⟨⟨lo,(lo+hi)/2,rfl,by go_num,by omega,by omega,Lib.hid ⟨hI.1,fun t h1 h2=>HM.out _ t h1 HP.out⟩,hB.trans (hb2.mono hB.size)⟩,by simp only[intOf];omega⟩
  ·obtain rfl:lo=hi:=by omega
   go_wp2
   go_ret
   exact⟨⟨lo,rfl,hin,I.out.1,I.out.2⟩,hB⟩
theorem aBK (a b:Int):0<cmpI a b↔b<a:=by
 unfold cmpI
 by_cases h1:a<b
 ·rw[if_pos h1];omega
 ·rw[if_neg h1]
  by_cases h2:b<a
  ·rw[if_pos h2];omega
  ·rw[if_neg h2];omega
theorem oS_ (d bb br:Nat) (vm vr:Value) (m R lom him lor hir:Nat) (w:World) (hd:d<9999) (hcb:w.cell? ⟨bb,0,none⟩=some (.func (.func 234) #[vm] #[])) (hcr:w.cell? ⟨br,0,none⟩=some vr)
  (hm:Nm w vm m lom him) (hr:Nm w vr R lor hir) (bm:him≤w.heap.size) (b2:hir≤w.heap.size) (fm:Few m) :
  Calls Tryz.prog 235 #[.int .i64 d,.pointer (some ⟨bb,0,none⟩),.pointer (some ⟨br,0,none⟩)] w fun e w'=>e=.returned (.bool (decide (R<m*(d+1))))∧Below w.heap.size w w':=by
 have HM:=Lib.hid hm
 have HR:=Lib.hid hr
 clear hm hr
 obtain⟨d1,hd1⟩:∃d1,d1=d+1:=⟨_,rfl⟩
 have hd2:(d:Int)+1=(d1:Int):=by omega
 have HD:=Lib.hid hd1
 have hd3:d1≤9999:=by omega
 have hwr:IntKind.i64.wrap (d1:Int)=d1:=IntWalk.i64_in _ (by omega)
 clear hd1
 go_enter Tryz.func235,Tryz.ntmps235
 go_wp2_with fail
 go_region_with (first
  | (go_at_call 234;refine(aCL vm m d1 lom him _ (by exact HM.out.keep (fun _ _ _=>rfl)) (by exact bm) fm hd3).mono ?_;rintro e w2 ⟨⟨vB,rfl,hvB⟩,hb2⟩;have HVB:=Lib.hid hvB;clear hvB;have hB2:Below w.heap.size w w2:=(by first | exact hb2 | exact((Below.refl _ w).drew).trans hb2);clear hb2;have hcr2:=cell_later hB2 hcr)
  | (go_at_call 211;refine(eL_ _ _ (m*d1) R _ _ _ _ _ (by exact HVB.out) (by exact HR.out.below hB2 b2) (by exact Nat.le_refl _) (by exact Nat.le_trans b2 hB2.size)).mono ?_;rintro e w3 ⟨rfl,hb3⟩))
 all_goals go_wp2
 all_goals
  go_ret
  refine⟨qN_ ?_,hB2.trans (hb3.mono hB2.size)⟩
  have hc:=aBK ((m:Int)*(d1:Int)) R
  rw[decide_eq_decide,←HD.out,hc,←Int.natCast_mul]
  omega
end Go.Proofs.YtdkaohphbgdkpaaGreatDoor
