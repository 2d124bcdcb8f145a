/- - -/
import Derived.Lib.SmallJoins
import Derived.Lib.PathFns
import Derived.Lib.AtoiAllCases
import Derived.Test.YtdkaohphbgdkpaaGreatDoorZNum
import Derived.Test.YtdkaohphbgdkpaaGreatDoorZVal
import Derived.Test.YtdkaohphbgdkpaaGreatDoorZShelf
set_option maxHeartbeats 40000000
set_option maxRecDepth 1000000
namespace Go.Proofs.YtdkaohphbgdkpaaGreatDoor
open Go.RowKit Go.Shelf
attribute [local go_sem] Oper.semAt_some
theorem eD_ (a b:List UInt8):valB (a++b)=valB a*10^b.length+valB b:=by
 unfold valB
 rw[List.reverse_append,List.map_append,cG_]
 simp
 rw[Nat.mul_comm];omega
theorem yO_ (c:UInt8):valB [c]=c.toNat-48:=by simp[valB,val]
theorem iM_ (c:UInt8) (t:List UInt8):valB (c::t)=(c.toNat-48)*10^t.length+valB t:=by
 rw[show c::t=[c]++t from rfl,eD_,yO_]
theorem aCS {l:List UInt8} (hd:∀c∈l,48≤c.toNat∧c.toNat≤57):valB l<10^l.length:=by
 have:=qA_ (B:=10) (by omega) (l.reverse.map fun c=>c.toNat-48) (by
  intro d hm
  obtain⟨c,hc,rfl⟩:=List.mem_map.1 hm
  have:=hd c (by simpa using hc)
  omega)
 simpa[valB] using this
theorem hP_:∀(l:List UInt8) (acc:Nat),(∀c∈l,48≤c.toNat∧c.toNat≤57)→Lib.decFrom acc l=some (acc*10^l.length+valB l)
 | [],acc,_=>by simp[Lib.decFrom,valB,val]
 | c::t,acc,h=>by
  have hc:=h c (by simp)
  have e:Lib.digitVal c=some (c.toNat-48):=by unfold Lib.digitVal;rw[if_pos hc]
  simp only[Lib.decFrom,e]
  rw[hP_ t _ (fun c hm=>h c (by simp[hm])),iM_,List.length_cons,Nat.pow_succ,Nat.add_mul]
  rw[Nat.mul_assoc,Nat.mul_comm (10^t.length) 10]
  congr 1
  omega
theorem pT_ {l:List UInt8} (hne:l≠[]) (h:∀c∈l,48≤c.toNat∧c.toNat≤57):Lib.atoi l=some (valB l:Int):=by
 cases l with
 | nil=>exact absurd rfl hne
 | cons c t=>
  have hc:=h c (by simp)
  have h1:(c==45)=false:=by
   apply beq_eq_false_iff_ne.2
   intro e;subst e;revert hc;decide
  have h2:(c==43)=false:=by
   apply beq_eq_false_iff_ne.2
   intro e;subst e;revert hc;decide
  unfold Lib.atoi
  simp only[h1,h2,Lib.decNat,List.isEmpty_cons,Bool.false_eq_true,if_false]
  rw[hP_ _ _ h]
  simp
def Sg (w:World) (v:Value) (neg:Bool) (n lo hi:Nat):Prop:=∃s,v=.agg #[.bool neg,s]∧Nm w s n lo hi
structure ParseAt (u:List UInt8) (k:Nat) (ds:List Nat):Prop where
 le:k≤u.length
 dlt:∀d∈ds,d<10000
 far:k=0∨u.length=k+4*ds.length
 len:ds.length≤u.length
 eq:k=0→val 10000 ds=valB u
 eq2:u.length=k+4*ds.length→valB (u.take k)*10^(4*ds.length)+val 10000 ds=valB u
theorem ParseAt.step {u:List UInt8} {k:Nat} {ds:List Nat} (h:ParseAt u k ds) (hd:∀c∈u,48≤c.toNat∧c.toNat≤57) (hk:0<k):ParseAt u (k-4) (ds++[valB ((u.take k).drop (k-4))]):=by
 obtain⟨h1,h2,h3,h4,h5,h6⟩:=h
 have h7:u.length=k+4*ds.length:=by omega
 have h8:=h6 h7
 have hgl:((u.take k).drop (k-4)).length=k-(k-4):=by simp;omega
 have hp:∀n,10000^n=10^(4*n):=fun n=>by rw[Nat.pow_mul]
 have hg:valB ((u.take k).drop (k-4))<10000:=by
  have:=aCS (l:=(u.take k).drop (k-4)) (fun c hc=>hd c (List.mem_of_mem_take (List.mem_of_mem_drop hc)))
  rw[hgl] at this
  have h9:10^(k-(k-4))≤10^4:=Nat.pow_le_pow_right (by omega) (by omega)
  omega
 refine⟨by omega,?_,?_,?_,?_,?_⟩
 ·intro d hm
  rcases List.mem_append.1 hm with hm|hm
  ·exact h2 d hm
  ·simp at hm;omega
 ·simp;omega
 ·simp;omega
 ·intro hk0
  rw[hk0,List.drop_zero,cG_,hp]
  simp only[val,Nat.mul_zero,Nat.add_zero]
  rw[←h8,Nat.mul_comm,Nat.add_comm]
 ·intro hl
  have hk4:4≤k:=by simp at hl;omega
  have e:u.take k=u.take (k-4)++(u.take k).drop (k-4):=by
   have:=(List.take_append_drop (k-4) (u.take k)).symm
   rwa[List.take_take,Nat.min_eq_left (by omega)] at this
  have h9:=congrArg valB e
  rw[eD_,hgl,show k-(k-4)=4 from by omega] at h9
  rw[h9,Nat.add_mul] at h8
  rw[cG_,hp,List.length_append,List.length_singleton,Nat.mul_add,Nat.pow_add]
  simp only[val,Nat.mul_zero,Nat.add_zero]
  rw[←h8,Nat.mul_one,Nat.mul_comm (10^(4*ds.length)) (10^4),←Nat.mul_assoc,Nat.mul_comm (10^(4*ds.length)) (valB _)]
  omega
theorem ParseAt.start (u:List UInt8):ParseAt u u.length []:=
 ⟨Nat.le_refl _,by simp,by simp,by simp,fun h=>by rw[List.eq_nil_of_length_eq_zero h];rfl,fun _=>by simp[val]⟩
theorem tH_ (l:List UInt8) (hne:l≠[]) (hl:l.length≤4) (h:∀c∈l,48≤c.toNat∧c.toNat≤57) (w:World) :
  Calls Tryz.prog 119 #[.string ⟨l.toArray⟩] w fun e w'=>e=.returned (.tuple #[.int .i64 (valB l:Int),.nilIface])∧Below w.heap.size w w':=by
 refine(Tryz.strconv_Atoi ⟨l.toArray⟩ (valB l:Int) (by show l.length≤18;omega) (pT_ hne h) w).mono ?_
 rintro e w' ⟨rfl,t,rfl⟩
 exact⟨rfl,Joins.below_bytesWorld _ _ _ _ (Nat.le_refl _)⟩
structure PaAt (N:Nat) (neg:Bool) (w W:World) (v:Value) (ds:List Nat):Prop where
 c0:W.cell? ⟨N+1,0,none⟩=some (.bool neg)
 c1:W.cell? ⟨N+1,1,none⟩=some v
 ow:W.ownsRow (N+2) 3 1 v ds.length (ds.map fun n:Nat=>Value.int .i64 (n:Int))
 f1:W.frozen? ⟨N+1,1,none⟩=false
 r0:W.frozen? ⟨N,0,none⟩=false
 r1:W.frozen? ⟨N,1,none⟩=false
 sz:N+2≤W.heap.size
 bw:Below N w W
 q0:W.cell? ⟨N,0,none⟩=some (.bool false)
 q1:W.cell? ⟨N,1,none⟩=some (.slice none 0 0)
theorem rY_ {w w':World} {base:Nat} {e:TypeId} {size:Nat} {v:Value} {n:Nat} {xs:List Value} (h:w.ownsRow base e size v n xs) (hb:Below w.heap.size w w'):w'.ownsRow base e size v n xs:=by
 obtain⟨h1,⟨rfl,rfl⟩|⟨g,cap,cur,rfl,e2,e3,e4⟩⟩:=h
 ·exact⟨h1,.inl ⟨rfl,rfl⟩⟩
 ·exact⟨h1,.inr ⟨g,cap,cur,rfl,e2,(hb.block g (Array.getElem?_eq_some_iff.1 e3).1).trans e3,e4⟩⟩
theorem PaAt.below {N:Nat} {neg:Bool} {w W W':World} {v:Value} {ds:List Nat} (h:PaAt N neg w W v ds) (hb:Below W.heap.size W W'):PaAt N neg w W' v ds:=by
 have hs:=h.sz
 have hs':=hb.size
 obtain⟨b1,b2⟩:=mM_ hb
 exact⟨(b1 _ _ (by omega)).trans h.c0,(b1 _ _ (by omega)).trans h.c1,rY_ h.ow hb,(b2 _ _ (by omega)).trans h.f1,(b2 _ _ (by omega)).trans h.r0,(b2 _ _ (by omega)).trans h.r1,by omega,h.bw.trans (hb.mono (by omega)),(b1 _ _ (by omega)).trans h.q0,(b1 _ _ (by omega)).trans h.q1⟩
theorem PaAt.put {N:Nat} {neg:Bool} {w W W':World} {v v':Value} {ds:List Nat} {G:Nat} (h:PaAt N neg w W v ds) (hb:Below (N+2) W W')
  (ho:W'.ownsRow (N+2) 3 1 v' (ds.length+1) (ds.map (fun n:Nat=>Value.int .i64 (n:Int))++[Value.int .i64 (G:Int)])):PaAt N neg w (W'.setCell ⟨N+1,1,none⟩ v') v' (ds++[G]):=by
 have hs:=h.sz
 have hs':=hb.size
 have b1:=fun b o (h:b<N+2)=>hb.cell (p:=⟨b,o,none⟩) h
 have b2:=fun b o (h:b<N+2)=>hb.frozen (p:=⟨b,o,none⟩) h
 have hc1:=(b1 _ _ (by omega)).trans h.c1
 have ho':=bV_ (by omega) ho
 simp only[Int.toNat_natCast] at ho'
 refine⟨?_,?_,ownsRow_setCell_below ho' (by simp) _,?_,?_,?_,by simp;omega,?_,?_,?_⟩
 ·have:=(b1 _ _ (by omega)).trans h.c0
  simp[go_sem,this]
 ·exact World.cell?_setCell_same _ _ _ hc1
 ·have:=(b2 _ _ (by omega)).trans h.f1
  simp[go_sem,this]
 ·have:=(b2 _ _ (by omega)).trans h.r0
  simp[go_sem,this]
 ·have:=(b2 _ _ (by omega)).trans h.r1
  simp[go_sem,this]
 ·exact(h.bw.trans (hb.mono (by omega))).setCell (by simp) _
 ·have:=(b1 _ _ (by omega)).trans h.q0
  simp[go_sem,this]
 ·have:=(b1 _ _ (by omega)).trans h.q1
  simp[go_sem,this]
theorem vC_ (s:ByteArray) (w:World) (hv:aX_ s.data.toList=true) :
  Calls Tryz.prog 228 #[.string s] w fun e w'=>(∃v,e=.returned v∧Sg w' v (decide (s.data.toList.head?=some 45)) (valB (bP_ s.data.toList)) w.heap.size w'.heap.size)∧Below w.heap.size w w':=by
 obtain⟨i0,hi,hz0,hz1,hz2⟩:=info_parts pW_
 have hT:=Tryz.strings_TrimPrefix s ⟨#[45]⟩
 rw[show(⟨#[45]⟩:ByteArray).data.toList=[45] from rfl,dV_] at hT
 generalize hl:s.data.toList=l at hT hv⊢
 have hvv:(bP_ l≠[]∧(bP_ l).length≤200)∧∀c∈bP_ l,48≤c.toNat∧c.toNat≤57:=by
  unfold aX_ at hv
  simp only[Bool.and_eq_true,Bool.not_eq_true',List.isEmpty_eq_false_iff,decide_eq_true_eq,List.all_eq_true] at hv
  exact⟨hv.1.1,hv.1.2⟩
 have hlen:(decide ((bP_ l).length<s.size))=decide (l.head?=some 45):=by
  have hs:s.size=l.length:=by rw[←hl];rfl
  rw[hs]
  unfold bP_
  split
  ·rename_i h
   cases l with
   | nil=>cases h
   | cons a t=>rw[h,List.tail_cons];simp only[List.length_cons,decide_true];exact decide_eq_true (by omega)
  ·rename_i h;simp[h]
 generalize decide (l.head?=some 45)=neg at hlen⊢
 generalize bP_ l=u at hT hvv hlen⊢
 obtain⟨⟨hne,hu⟩,hd⟩:=hvv
 have HD:=Lib.hid hd
 have HLEN:=Lib.hid hlen
 clear hd hv hl hlen
 go_enter Tryz.func228,Tryz.ntmps228
 go_wp2_with (first
  | (go_at_call 208;refine(hT _).mono ?_;rintro e w' ⟨rfl,rfl⟩))
 go_loopw [3,5,6,7] (fun d _ _ _ W=>∃(k:Nat) (ds:List Nat) (v:Value),d=.string ⟨(u.take k).toArray⟩∧ParseAt u k ds∧PaAt w.heap.size neg w W v ds)
  (fun d _ _ _ _=>match d with | .string s=>s.size|_=>0)
 case atStart=>
  refine⟨u.length,[],.slice none 0 0,by rw[List.take_length],ParseAt.start u,?_⟩
  refine⟨?_,?_,World.ownsRow_nil _ _ _ _,?_,?_,?_,by simp,((Below.refl _ _).alloc (Nat.le_refl _) _).alloc (by simp) _,?_,?_⟩
  ·rw[HLEN.out];simp[go_sem]
  all_goals simp[go_sem]
 case round=>
  obtain⟨k,ds,v,rfl,hpa,hW⟩:=hrel
  have hkl:=hpa.le
  have hdl:=hpa.len
  have HPA:=Lib.hid hpa
  have c0:=hW.c0
  have c1:=hW.c1
  have f1:=hW.f1
  have hsz:=hW.sz
  have HW:=Lib.hid hW
  clear hpa hW
  rcases Nat.lt_or_ge 0 k with hk|hk
  ·have HS:=Lib.hid (HPA.out.step HD.out hk)
   have hmx:(max 0 ((k:Int)-4)).toNat=k-4:=by omega
   have hx1:(⟨(u.take k).toArray⟩:ByteArray).extract (k-4) k=⟨((u.take k).drop (k-4)).toArray⟩:=by
    have:=Lib.extract_from ⟨(u.take k).toArray⟩ (k-4)
    rw[show(⟨(u.take k).toArray⟩:ByteArray).size=k from by show(u.take k).length=k;simp;omega] at this
    exact this
   have hx2:(⟨(u.take k).toArray⟩:ByteArray).extract 0 (k-4)=⟨(u.take (k-4)).toArray⟩:=by
    rw[Lib.extract_upto]
    show(⟨((u.take k).take (k-4)).toArray⟩:ByteArray)=_
    rw[List.take_take,Nat.min_eq_left (by omega)]
   have hA:=tH_ ((u.take k).drop (k-4)) (by intro e;have:=congrArg List.length e;simp at this;omega) (by simp;omega) (fun c hc=>HD.out c (List.mem_of_mem_take (List.mem_of_mem_drop hc)))
   rw[←hx1] at hA
   generalize valB ((u.take k).drop (k-4))=G at hA HS
   rw[←hmx] at hA
   have HX1:=Lib.hid hx1
   have HX2:=Lib.hid hx2
   clear hx1 hx2
   have HMX:=Lib.hid hmx
   clear hmx
   clear c0 c1 f1
   go_wp2_with (first
    | (go_at_call 119;refine(hA _).mono ?_;rintro e w1 ⟨rfl,hb1⟩;have hs1:=hb1.size;have HW1:=Lib.hid (HW.out.below hb1);have c1:=HW1.out.c1;have f1:=HW1.out.f1;have c0:=HW1.out.c0)
    | (at_builtin;refine wpList_append_own _ rfl _ _ 243 rfl (w.heap.size+2) 3 i0 (.int .i64 0) 1 8 Tryz.underlying243 hi hz0 hz1 hz2 rfl (by decide) v _ _ rfl (HW1.out.ow.alloc _) ⟨w1.heap.size,0,none⟩ 1 1 [.int .i64 (G:Int)] rfl rfl (cell_one_new _ _ _) (by simp[Value.oneCell']) (by unfold maxLen;omega) (by omega) (by simp;omega) ?_;intro v' w3 hown' hgrow _
       obtain⟨g,cap,rfl⟩:=Joins.ownsRow_form hown' (by omega)
       have hb3:=(((Below.refl (w.heap.size+2) w1).alloc (by omega) _).grown hgrow (by simp;omega) (fun r e=>(HW1.out.ow.lt r e).1))
       have hs3:=hb3.size
       have c3:=(hb3.cell (p:=⟨w.heap.size+1,1,none⟩) (show w.heap.size+1<_ by omega)).trans HW1.out.c1
       have f3:=(hb3.frozen (p:=⟨w.heap.size+1,1,none⟩) (show w.heap.size+1<_ by omega)).trans HW1.out.f1
       clear hgrow))
   refine⟨⟨k-4,ds++[G],_,by rw[HMX.out,HX2.out],HS.out,HW1.out.put hb3 hown'⟩,?_⟩
   rw[HMX.out,HX2.out]
   show(u.take (k-4)).length<(u.take k).length
   simp;omega
  ·obtain rfl:k=0:=by omega
   have heq:=HPA.out.eq rfl
   have htr:=eF_ (B:=10000) (by omega) ds HPA.out.dlt
   rw[heq] at htr
   have HTR:=Lib.hid htr
   clear heq htr
   have hns:=Sl.of_owns HW.out.ow
   obtain⟨a0,cap0,rfl⟩:∃a cap,v=.slice a ds.length cap:=by obtain⟨a,cap,e,_⟩:=hns;exact⟨a,cap,e⟩
   have HNS:=Lib.hid hns
   clear hns
   have hu0:(u.take 0).length=0:=by simp
   have r0:=HW.out.r0
   have r1:=HW.out.r1
   have q0:=HW.out.q0
   have q1:=HW.out.q1
   go_wp2_with (first
    | (go_at_call 233;refine(cH_ _ ds _ _ _ HNS.out).mono ?_;rintro e w2 ⟨⟨v',rfl,hv'⟩,rfl⟩;obtain⟨a1,cap1,rfl⟩:∃a cap,v'=.slice a (trim ds).length cap:=(by obtain⟨a,cap,e,_⟩:=hv';exact⟨a,cap,e⟩);have HV2:=Lib.hid hv';clear hv'))
   obtain⟨W4,hW4⟩:∃W4,(((wr.setCell ⟨w.heap.size+1,1,none⟩ (.slice a1 (trim ds).length cap1)).setCell ⟨w.heap.size,0,none⟩ (.bool neg)).setCell ⟨w.heap.size,1,none⟩ (.slice a1 (trim ds).length cap1))=W4:=⟨_,rfl⟩
   have p0:W4.cell? ⟨w.heap.size,0,none⟩=some (.bool neg):=by
    rw[←hW4,World.cell?_setCell_other _ _ _ _ (by simp)]
    exact World.cell?_setCell_same _ _ _ (u:=.bool false) (by rw[World.cell?_setCell_other _ _ _ _ (by simp)];exact q0)
   have p1:W4.cell? ⟨w.heap.size,1,none⟩=some (.slice a1 (trim ds).length cap1):=by
    rw[←hW4]
    exact World.cell?_setCell_same _ _ _ (u:=.slice none 0 0) (by rw[World.cell?_setCell_other _ _ _ _ (by simp),World.cell?_setCell_other _ _ _ _ (by simp)];exact q1)
   have hsl:Nm W4 (.slice a1 (trim ds).length cap1) (valB u) w.heap.size W4.heap.size:=by
    have h1:=HV2.out.keep (w':=W4) (by rw[←hW4];exact(((cE_.refl _ _ _).setCell (.inl (by simp)) _).setCell (.inl (by simp)) _).setCell (.inl (by simp)) _)
    rw[HTR.out] at h1⊢
    exact h1.mono (by omega) (by rw[←hW4];simp)
   have hbl:Below w.heap.size w W4:=by
    rw[←hW4]
    exact((HW.out.bw.setCell (by simp) _).setCell (by simp) _).setCell (by simp) _
   rw[hW4]
   clear hW4 q0 q1 r0 r1 c0 c1 f1
   (try simp only[Exit.inBlock,Exit.then])
   refine bodyPost_ret (v:=.agg #[.bool neg,.slice a1 (trim ds).length cap1]) ?_ rfl ⟨⟨_,rfl,_,rfl,hsl⟩,hbl⟩
   simp[results,Tryz.results228,go_sem,p0,p1,Result.andThen]
def Zg (w:World) (v:Value) (z:Int) (lo hi:Nat):Prop:=∃neg n s,v=.agg #[.bool neg,s]∧Nm w s n lo hi∧z=if neg=true then -(n:Int) else n
theorem Zg.below {w w':World} {v:Value} {z:Int} {lo hi B:Nat} (h:Zg w v z lo hi) (hb:Below B w w') (hB:hi≤B):Zg w' v z lo hi:=by
 obtain⟨neg,n,s,h1,h2,h3⟩:=h
 exact⟨neg,n,s,h1,h2.below hb hB,h3⟩
theorem Zg.form {w:World} {v:Value} {z:Int} {lo hi:Nat} (h:Zg w v z lo hi):∃neg n a c,v=.agg #[.bool neg,.slice a (dig 10000 n).length c]∧Nm w (.slice a (dig 10000 n).length c) n lo hi∧z=if neg=true then -(n:Int) else n:=by
 obtain⟨neg,n,s,rfl,h2,h3⟩:=h
 obtain⟨a,c,rfl⟩:∃a cap,s=.slice a (dig 10000 n).length cap:=by obtain⟨a,cap,e,_⟩:=h2;exact⟨a,cap,e⟩
 exact⟨neg,n,a,c,rfl,h2,h3⟩
def Zs (w:World) (v:Value) (z:Int) (lo hi:Nat):Prop:=∃neg n s,v=.agg #[.bool neg,s]∧Nm w s n lo hi∧neg=decide (z<0)∧n=z.natAbs
theorem gV_ {neg:Bool} {n:Nat} {z:Int} (h:neg=decide (z<0)∧n=z.natAbs):z=if neg=true then -(n:Int) else n:=by
 obtain⟨rfl,rfl⟩:=h
 by_cases hz:z<0
 ·rw[if_pos (by simpa using hz)];omega
 ·rw[if_neg (by simpa using hz)];omega
theorem Zs.zg {w:World} {v:Value} {z:Int} {lo hi:Nat} (h:Zs w v z lo hi):Zg w v z lo hi:=by
 obtain⟨neg,n,s,rfl,h2,h3⟩:=h
 exact⟨neg,n,s,rfl,h2,gV_ h3⟩
theorem Zs.form {w:World} {v:Value} {z:Int} {lo hi:Nat} (h:Zs w v z lo hi):∃neg n a c,v=.agg #[.bool neg,.slice a (dig 10000 n).length c]∧Nm w (.slice a (dig 10000 n).length c) n lo hi∧neg=decide (z<0)∧n=z.natAbs:=by
 obtain⟨neg,n,s,rfl,h2,h3⟩:=h
 obtain⟨a,c,rfl⟩:∃a cap,s=.slice a (dig 10000 n).length cap:=by obtain⟨a,cap,e,_⟩:=h2;exact⟨a,cap,e⟩
 exact⟨neg,n,a,c,rfl,h2,h3⟩
theorem cY_ (z:Int):(str z).data.toList=txt z:=by simp[str]
theorem nN_ (z:Int) (w:World) (hz:nDig z.natAbs≤200) :
  Calls Tryz.prog 228 #[.string (str z)] w fun e w'=>(∃v,e=.returned v∧Zs w' v z w.heap.size w'.heap.size)∧Below w.heap.size w w':=by
 refine(vC_ (str z) w (by rw[cY_,fD_];exact decide_eq_true hz)).mono ?_
 rintro e w' ⟨⟨v,rfl,s,rfl,hs⟩,hb⟩
 rw[cY_,gW_,bO_] at hs
 refine⟨⟨_,rfl,_,_,s,rfl,hs,?_,rfl⟩,hb⟩
 rw[cY_]
 unfold txt
 by_cases h:z<0
 ·simp[h]
 ·have h1:(txtN z.natAbs).head?≠some 45:=by
   intro e
   have:=aZ_ z.natAbs 45 (List.mem_of_head? e)
   exact absurd this (by decide)
  simp[h,h1]
structure TwoAt (N:Nat) (w W:World):Prop where
 a0:W.cell? ⟨N,0,none⟩=some (.bool false)
 a1:W.cell? ⟨N,1,none⟩=some (.slice none 0 0)
 b0:W.cell? ⟨N+1,0,none⟩=some (.bool false)
 b1:W.cell? ⟨N+1,1,none⟩=some (.slice none 0 0)
 fa0:W.frozen? ⟨N,0,none⟩=false
 fa1:W.frozen? ⟨N,1,none⟩=false
 fb0:W.frozen? ⟨N+1,0,none⟩=false
 fb1:W.frozen? ⟨N+1,1,none⟩=false
 sz:N+2≤W.heap.size
 bw:Below N w W
theorem TwoAt.below {N:Nat} {w W W':World} (h:TwoAt N w W) (hb:Below W.heap.size W W'):TwoAt N w W':=by
 have hs:=h.sz
 have hs':=hb.size
 obtain⟨c,f⟩:=mM_ hb
 exact⟨(c _ _ (by omega)).trans h.a0,(c _ _ (by omega)).trans h.a1,(c _ _ (by omega)).trans h.b0,(c _ _ (by omega)).trans h.b1,
  (f _ _ (by omega)).trans h.fa0,(f _ _ (by omega)).trans h.fa1,(f _ _ (by omega)).trans h.fb0,(f _ _ (by omega)).trans h.fb1,by omega,h.bw.trans (hb.mono (by omega))⟩
theorem TwoAt.start (w:World):TwoAt w.heap.size w ((w.alloc (.cells #[.bool false,.slice none 0 0] 245)).alloc (.cells #[.bool false,.slice none 0 0] 245)):=by
 refine⟨?_,?_,?_,?_,?_,?_,?_,?_,by simp,((Below.refl _ _).alloc (Nat.le_refl _) _).alloc (by simp) _⟩ <;> simp[go_sem]
theorem gD_ (a b:Int) (w:World) (ha:nDig a.natAbs≤200) (hb:nDig b.natAbs≤200) :
  Calls Tryz.prog 210 #[.string (str a),.string (str b)] w fun e w'=>(∃va vb,e=.returned (.tuple #[va,vb,.bool true])∧Zs w' va a w.heap.size w'.heap.size∧Zs w' vb b w.heap.size w'.heap.size)∧Below w.heap.size w w':=by
 have hsz:∀z:Int,nDig z.natAbs≤200→(str z).size≤9223372036854775807:=fun z h=>by rw[hV_];have:=kA_ z;omega
 have hv:∀z:Int,nDig z.natAbs≤200→aX_ (str z).data.toList=true:=fun z h=>by rw[cY_,fD_];exact decide_eq_true h
 have hA:=fun W=>dK_ (str a) W (hsz a ha)
 have hB:=fun W=>dK_ (str b) W (hsz b hb)
 rw[hv a ha] at hA
 rw[hv b hb] at hB
 have pA:=fun W=>nN_ a W ha
 have pB:=fun W=>nN_ b W hb
 generalize str a=sa at hA pA⊢
 generalize str b=sb at hB pB⊢
 have HS:=Lib.hid (TwoAt.start w)
 go_enter Tryz.func210,Tryz.ntmps210
 go_wp2_with (first
  | (go_at_call 188;with_reducible refine(hA _).mono ?_;rintro e w1 ⟨rfl,hb1⟩;have H1:=Lib.hid (HS.out.below hb1);clear hb1)
  | (go_at_call 188;with_reducible refine(hB _).mono ?_;rintro e w2 ⟨rfl,hb2⟩;have H2:=Lib.hid (H1.out.below hb2);clear hb2)
  | (go_at_call 228;with_reducible refine(pA _).mono ?_;rintro e w3 ⟨⟨va,rfl,hzg⟩,hb3⟩;obtain⟨nega,na,aa,ca,rfl,hva,hza⟩:=hzg.form;clear hzg;have H3:=Lib.hid (H2.out.below hb3);have HA:=Lib.hid hva;have HZA:=Lib.hid hza;clear hva hza)
  | (go_at_call 228;with_reducible refine(pB _).mono ?_;rintro e w4 ⟨⟨vb,rfl,hzg⟩,hb4⟩;obtain⟨negb,nb,ab,cb,rfl,hvb,hzb⟩:=hzg.form;clear hzg;have H4:=Lib.hid (H3.out.below hb4);have HB:=Lib.hid hvb;have HZB:=Lib.hid hzb;clear hvb hzb;have q1:=H4.out.a0;have q2:=H4.out.a1;have q3:=H4.out.b0;have q4:=H4.out.b1;have q5:=H4.out.fa0;have q6:=H4.out.fa1;have q7:=H4.out.fb0;have q8:=H4.out.fb1)
  | fail)
 obtain⟨W5,hW5⟩:∃W5,((((w4.setCell ⟨w.heap.size,0,none⟩ (.bool nega)).setCell ⟨w.heap.size,1,none⟩ (.slice aa (dig 10000 na).length ca)).setCell ⟨w.heap.size+1,0,none⟩ (.bool negb)).setCell ⟨w.heap.size+1,1,none⟩ (.slice ab (dig 10000 nb).length cb))=W5:=⟨_,rfl⟩
 have oth:∀(W:World) (x y:Addr) (u:Value),y≠x→(W.setCell x u).cell? y=W.cell? y:=fun W x y u h=>World.cell?_setCell_other _ _ _ _ (by first|exact h|exact fun e=>h e.symm)
 have p0:W5.cell? ⟨w.heap.size,0,none⟩=some (.bool nega):=by
  rw[←hW5,oth _ _ _ _ (by simp),oth _ _ _ _ (by simp),oth _ _ _ _ (by simp)]
  exact World.cell?_setCell_same _ _ _ q1
 have p1:W5.cell? ⟨w.heap.size,1,none⟩=some (.slice aa (dig 10000 na).length ca):=by
  rw[←hW5,oth _ _ _ _ (by simp),oth _ _ _ _ (by simp)]
  exact World.cell?_setCell_same _ _ _ (by rw[oth _ _ _ _ (by simp)];exact q2)
 have p2:W5.cell? ⟨w.heap.size+1,0,none⟩=some (.bool negb):=by
  rw[←hW5,oth _ _ _ _ (by simp)]
  exact World.cell?_setCell_same _ _ _ (by rw[oth _ _ _ _ (by simp),oth _ _ _ _ (by simp)];exact q3)
 have p3:W5.cell? ⟨w.heap.size+1,1,none⟩=some (.slice ab (dig 10000 nb).length cb):=by
  rw[←hW5]
  exact World.cell?_setCell_same _ _ _ (by rw[oth _ _ _ _ (by simp),oth _ _ _ _ (by simp),oth _ _ _ _ (by simp)];exact q4)
 have s2:=H2.out.sz
 have s3:=H3.out.sz
 have hsz5:W5.heap.size=w4.heap.size:=by rw[←hW5];simp
 have h34:=hb4.size
 have hag:cE_ w2.heap.size w4.heap.size w4 W5:=by
  rw[←hW5]
  exact((((cE_.refl _ _ _).setCell (.inl (by simp;omega)) _).setCell (.inl (by simp;omega)) _).setCell (.inl (by simp;omega)) _).setCell (.inl (by simp;omega)) _
 have h23:=hb3.size
 have nA:Nm W5 (.slice aa (dig 10000 na).length ca) na w.heap.size W5.heap.size:=by
  have h1:=(HA.out.below hb4 (Nat.le_refl _)).mono (Nat.le_refl _) h34
  exact(h1.keep hag).mono (by omega) (by omega)
 have nB:Nm W5 (.slice ab (dig 10000 nb).length cb) nb w.heap.size W5.heap.size:=by
  have h1:=HB.out.mono h23 (Nat.le_refl _)
  exact(h1.keep hag).mono (by omega) (by omega)
 have hbl:Below w.heap.size w W5:=by
  rw[←hW5]
  exact(((H4.out.bw.setCell (by simp) _).setCell (by simp) _).setCell (by simp) _).setCell (by simp) _
 rw[hW5]
 clear hW5 q1 q2 q3 q4 q5 q6 q7 q8
 (try simp only[Exit.inBlock,Exit.then])
 refine bodyPost_ret (v:=.tuple #[.agg #[.bool nega,.slice aa (dig 10000 na).length ca],.agg #[.bool negb,.slice ab (dig 10000 nb).length cb],.bool true]) ?_ rfl ⟨⟨_,_,rfl,⟨_,_,_,rfl,nA,HZA.out⟩,⟨_,_,_,rfl,nB,HZB.out⟩⟩,hbl⟩
 simp[results,Tryz.results210,go_sem,p0,p1,p2,p3,Result.andThen]
theorem mL_ (a b:ByteArray) (w:World) (ha:a.size≤9223372036854775807) (hb:b.size≤9223372036854775807) (hn:(aX_ a.data.toList&&aX_ b.data.toList)=false) :
  Calls Tryz.prog 210 #[.string a,.string b] w fun e w'=>e=.returned (.tuple #[.agg #[.bool false,.slice none 0 0],.agg #[.bool false,.slice none 0 0],.bool false])∧Below w.heap.size w w':=by
 have hA:=fun W=>dK_ a W ha
 have hB:=fun W=>dK_ b W hb
 have oth:∀(W:World) (x y:Addr) (u:Value),y≠x→(W.setCell x u).cell? y=W.cell? y:=fun W x y u h=>World.cell?_setCell_other _ _ _ _ (by first|exact h|exact fun e=>h e.symm)
 have HS:=Lib.hid (TwoAt.start w)
 generalize aX_ a.data.toList=va at hA hn
 generalize aX_ b.data.toList=vb at hB hn
 cases va with
 | false=>
  clear hn hB
  go_enter Tryz.func210,Tryz.ntmps210
  go_wp2_with (go_at_call 188;with_reducible refine(hA _).mono ?_;rintro e w1 ⟨rfl,hb1⟩;have HH:=Lib.hid (HS.out.below hb1);have q1:=HH.out.a0;have q2:=HH.out.a1;have q3:=HH.out.b0;have q4:=HH.out.b1;have q5:=HH.out.fa0;have q6:=HH.out.fa1;have q7:=HH.out.fb0;have q8:=HH.out.fb1)
  all_goals
   obtain⟨W5,hW5⟩:∃W5,((((w1.setCell ⟨w.heap.size,0,none⟩ (.bool false)).setCell ⟨w.heap.size,1,none⟩ (.slice none 0 0)).setCell ⟨w.heap.size+1,0,none⟩ (.bool false)).setCell ⟨w.heap.size+1,1,none⟩ (.slice none 0 0))=W5:=⟨_,rfl⟩
   have p0:W5.cell? ⟨w.heap.size,0,none⟩=some (.bool false):=by
    rw[←hW5,oth _ _ _ _ (by simp),oth _ _ _ _ (by simp),oth _ _ _ _ (by simp)]
    exact World.cell?_setCell_same _ _ _ q1
   have p1:W5.cell? ⟨w.heap.size,1,none⟩=some (.slice none 0 0):=by
    rw[←hW5,oth _ _ _ _ (by simp),oth _ _ _ _ (by simp)]
    exact World.cell?_setCell_same _ _ _ (by rw[oth _ _ _ _ (by simp)];exact q2)
   have p2:W5.cell? ⟨w.heap.size+1,0,none⟩=some (.bool false):=by
    rw[←hW5,oth _ _ _ _ (by simp)]
    exact World.cell?_setCell_same _ _ _ (by rw[oth _ _ _ _ (by simp),oth _ _ _ _ (by simp)];exact q3)
   have p3:W5.cell? ⟨w.heap.size+1,1,none⟩=some (.slice none 0 0):=by
    rw[←hW5]
    exact World.cell?_setCell_same _ _ _ (by rw[oth _ _ _ _ (by simp),oth _ _ _ _ (by simp),oth _ _ _ _ (by simp)];exact q4)
   have hbl:Below w.heap.size w W5:=by
    rw[←hW5]
    exact(((HH.out.bw.setCell (by simp) _).setCell (by simp) _).setCell (by simp) _).setCell (by simp) _
   rw[hW5]
   clear hW5 q1 q2 q3 q4 q5 q6 q7 q8
   (try simp only[Exit.inBlock,Exit.then])
   refine bodyPost_ret (v:=.tuple #[.agg #[.bool false,.slice none 0 0],.agg #[.bool false,.slice none 0 0],.bool false]) ?_ rfl ⟨rfl,hbl⟩
   simp[results,Tryz.results210,go_sem,p0,p1,p2,p3,Result.andThen]
 | true=>
  obtain rfl:vb=false:=hn
  go_enter Tryz.func210,Tryz.ntmps210
  go_wp2_with (first
   | (go_at_call 188;with_reducible refine(hA _).mono ?_;rintro e w1 ⟨rfl,hb1⟩;have H1:=Lib.hid (HS.out.below hb1);clear hA)
   | (go_at_call 188;with_reducible refine(hB _).mono ?_;rintro e w2 ⟨rfl,hb2⟩;have HH:=Lib.hid (H1.out.below hb2);have q1:=HH.out.a0;have q2:=HH.out.a1;have q3:=HH.out.b0;have q4:=HH.out.b1;have q5:=HH.out.fa0;have q6:=HH.out.fa1;have q7:=HH.out.fb0;have q8:=HH.out.fb1))
  all_goals
   obtain⟨W5,hW5⟩:∃W5,((((w2.setCell ⟨w.heap.size,0,none⟩ (.bool false)).setCell ⟨w.heap.size,1,none⟩ (.slice none 0 0)).setCell ⟨w.heap.size+1,0,none⟩ (.bool false)).setCell ⟨w.heap.size+1,1,none⟩ (.slice none 0 0))=W5:=⟨_,rfl⟩
   have p0:W5.cell? ⟨w.heap.size,0,none⟩=some (.bool false):=by
    rw[←hW5,oth _ _ _ _ (by simp),oth _ _ _ _ (by simp),oth _ _ _ _ (by simp)]
    exact World.cell?_setCell_same _ _ _ q1
   have p1:W5.cell? ⟨w.heap.size,1,none⟩=some (.slice none 0 0):=by
    rw[←hW5,oth _ _ _ _ (by simp),oth _ _ _ _ (by simp)]
    exact World.cell?_setCell_same _ _ _ (by rw[oth _ _ _ _ (by simp)];exact q2)
   have p2:W5.cell? ⟨w.heap.size+1,0,none⟩=some (.bool false):=by
    rw[←hW5,oth _ _ _ _ (by simp)]
    exact World.cell?_setCell_same _ _ _ (by rw[oth _ _ _ _ (by simp),oth _ _ _ _ (by simp)];exact q3)
   have p3:W5.cell? ⟨w.heap.size+1,1,none⟩=some (.slice none 0 0):=by
    rw[←hW5]
    exact World.cell?_setCell_same _ _ _ (by rw[oth _ _ _ _ (by simp),oth _ _ _ _ (by simp),oth _ _ _ _ (by simp)];exact q4)
   have hbl:Below w.heap.size w W5:=by
    rw[←hW5]
    exact(((HH.out.bw.setCell (by simp) _).setCell (by simp) _).setCell (by simp) _).setCell (by simp) _
   rw[hW5]
   clear hW5 q1 q2 q3 q4 q5 q6 q7 q8
   (try simp only[Exit.inBlock,Exit.then])
   refine bodyPost_ret (v:=.tuple #[.agg #[.bool false,.slice none 0 0],.agg #[.bool false,.slice none 0 0],.bool false]) ?_ rfl ⟨rfl,hbl⟩
   simp[results,Tryz.results210,go_sem,p0,p1,p2,p3,Result.andThen]
end Go.Proofs.YtdkaohphbgdkpaaGreatDoor
namespace Go.Proofs.YtdkaohphbgdkpaaGreatDoor
theorem dO_:∀(l:List UInt8) (acc:Nat),(∀c∈l,48≤c.toNat∧c.toNat≤57)→acc<18446744073709551616→
  Lib.parseUint10 acc l=if acc*10^l.length+valB l<18446744073709551616 then .ok (acc*10^l.length+valB l) else .range
 | [],acc,_,ha=>by
  have e:valB []=0:=rfl
  rw[e,List.length_nil,Nat.pow_zero,Nat.mul_one,Nat.add_zero,if_pos ha]
  rfl
 | c::r,acc,h,ha=>by
  have hc:=h c (by simp)
  have hp:0<10^r.length:=Nat.pow_pos (by decide)
  have e:acc*10^(c::r).length+valB (c::r)=(acc*10+(c.toNat-48))*10^r.length+valB r:=by
   rw[iM_,List.length_cons,Nat.pow_succ,Nat.add_mul,Nat.mul_assoc,Nat.mul_comm 10 (10^r.length)]
   omega
  have key:∀m:Nat,18446744073709551616≤m→m≤acc*10+(c.toNat-48)→¬(acc*10+(c.toNat-48))*10^r.length+valB r<18446744073709551616:=by
   intro m h1 h2 h3
   have:=Nat.le_mul_of_pos_right (acc*10+(c.toNat-48)) hp
   omega
  rw[e]
  simp only[Lib.parseUint10]
  rw[if_pos hc]
  by_cases h1:1844674407370955162≤acc
  ·rw[if_pos h1,if_neg (key _ (by omega) (Nat.le_refl _))]
  ·rw[if_neg h1]
   by_cases h2:18446744073709551616≤acc*10+(c.toNat-48)
   ·rw[if_pos h2,if_neg (key _ h2 (Nat.le_refl _))]
   ·rw[if_neg h2]
    exact dO_ r _ (fun c hm=>h c (by simp[hm])) (by omega)
theorem gM_ (n:Nat):Lib.parseMag (txtN n)=if n<18446744073709551616 then .ok n else .range:=by
 unfold Lib.parseMag
 rw[if_neg (gX_ n),dO_ _ _ (aZ_ n) (by omega),bO_,Nat.zero_mul,Nat.zero_add]
def aEC (z:Int):Bool:=decide (-9223372036854775808≤z∧z≤9223372036854775807)
theorem cS_ {z:Int} : aEC z=true↔-9223372036854775808≤z∧z≤9223372036854775807:=by unfold aEC;exact decide_eq_true_iff
theorem jQ_ (z:Int):Lib.atoiAll (txt z)=if aEC z=true then .ok z else .range:=by
 unfold txt
 by_cases hz:z<0
 ·rw[if_pos hz,Lib.atoiAll_minus,gM_]
  by_cases h1:z.natAbs<18446744073709551616
  ·rw[if_pos h1]
   simp only[Lib.signed]
   by_cases h2:9223372036854775808<z.natAbs
   ·rw[if_pos h2,if_neg (by rw[cS_];omega)]
   ·rw[if_neg h2,if_pos (by rw[cS_];omega)]
    congr 1
    omega
  ·rw[if_neg h1,if_neg (by rw[cS_];omega)]
   rfl
 ·rw[if_neg hz]
  have hd:=aZ_ z.natAbs
  have hm:=gM_ z.natAbs
  have hne:=gX_ z.natAbs
  cases hl:txtN z.natAbs with
  | nil=>exact absurd hl hne
  | cons c r=>
   rw[hl] at hd hm
   have hc:=hd c (by simp)
   rw[Lib.atoiAll_plain c r (by omega) (by omega),hm]
   by_cases h1:z.natAbs<18446744073709551616
   ·rw[if_pos h1]
    simp only[Lib.signless]
    by_cases h2:9223372036854775808≤z.natAbs
    ·rw[if_pos h2,if_neg (by rw[cS_];omega)]
    ·rw[if_neg h2,if_pos (by rw[cS_];omega)]
     congr 1
     omega
   ·rw[if_neg h1,if_neg (by rw[cS_];omega)]
    rfl
end Go.Proofs.YtdkaohphbgdkpaaGreatDoor
namespace Go.Proofs.YtdkaohphbgdkpaaGreatDoor
open Go.RowKit Go.Shelf
attribute [local go_sem] Oper.semAt_some
structure GlobE (w:World):Prop where
 syn : ∃ te pe, w.var? Tryz.prog "strconv.ErrSyntax" = some #[.iface te pe]
 ran : ∃ te pe, w.var? Tryz.prog "strconv.ErrRange" = some #[.iface te pe]
theorem mS_ {w w':World} {n:String} {x:Value} (h:w.var? Tryz.prog n=some #[x]) (hb:Below w.heap.size w w'):w'.var? Tryz.prog n=some #[x]:=by
 obtain⟨g,hg⟩:∃g,Tryz.prog.globalNamed n=some g:=by
  cases hh:Tryz.prog.globalNamed n with
  | some g=>exact⟨g,rfl⟩
  | none=>unfold World.var? at h;rw[hh] at h;cases h
 unfold World.var? at h⊢
 rw[hg] at h⊢
 simp only[Option.bind_some] at h⊢
 cases ho:w.heap[g]? with
 | none=>rw[ho] at h;cases h
 | some o=>rw[hb.block g (Array.getElem?_eq_some_iff.1 ho).1];exact h
theorem GlobE.below {w w':World} (h:GlobE w) (hb:Below w.heap.size w w'):GlobE w':=by
 obtain⟨⟨a,b,h1⟩,c,d,h2⟩:=h
 exact⟨⟨a,b,mS_ h1 hb⟩,c,d,mS_ h2 hb⟩
theorem aEW (s:ByteArray) (hs:s.size≤281474976710656) (v:Int) (h:Lib.atoiAll s.data.toList=.ok v) (w:World) :
  Calls Tryz.prog 119 #[.string s] w fun e w'=>e=.returned (.tuple #[.int .i64 v,.nilIface])∧Below w.heap.size w w':=by
 have hc:Calls Tryz.prog 119 #[.string s] w fun e w'=>e=.returned (.tuple #[.int .i64 v,.nilIface])∧(w'=w∨∃t,w'=Lib.bytesWorld w 5 t):=Any.strconv_Atoi_ok Tryz.laysC172 s (by omega) v h w
 refine hc.mono ?_
 rintro e w' ⟨rfl,rfl|⟨t,rfl⟩⟩
 ·exact⟨rfl,Below.refl _ _⟩
 ·exact⟨rfl,Lib.bytesWorld_below _ _ _⟩
theorem aBU (s:ByteArray) (hs:s.size≤281474976710656) (h:∀v,¬Lib.atoiAll s.data.toList=.ok v) (w:World) (hG:GlobE w) :
  Calls Tryz.prog 119 #[.string s] w fun e w'=>(∃n t b,e=.returned (.tuple #[.int .i64 n,.iface t (.pointer (some ⟨b,0,none⟩))]))∧Below w.heap.size w w':=by
 obtain⟨⟨te,pe,h1⟩,tf,pf,h2⟩:=hG
 rcases ha:Lib.atoiAll s.data.toList with v|_|_
 ·exact absurd ha (h v)
 ·refine(Any.strconv_Atoi_syntax_var Tryz.laysC172 s hs ha te pe w h1).mono ?_
  rintro e w' ⟨N,rfl,_,_,hb⟩
  exact⟨⟨_,_,_,rfl⟩,hb⟩
 ·refine(Any.strconv_Atoi_range_var Tryz.laysC172 s hs ha tf pf w h2).mono ?_
  rintro e w' ⟨N,rfl,_,_,hb⟩
  exact⟨⟨_,_,_,rfl⟩,hb⟩
end Go.Proofs.YtdkaohphbgdkpaaGreatDoor
