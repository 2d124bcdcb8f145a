/- - -/
import Derived.Deep.QuietTactic
import Derived.BigQuiet
import Derived.Still
import Derived.Test.YtjfdefglpoancaaGreatDoorZNum
set_option maxHeartbeats 40000000
set_option maxRecDepth 1000000
open Go.Lib (hid)
namespace Go.Proofs.YtjfdefglpoancaaGreatDoor
open Go.RowKit
theorem fB_ {B:Nat} {xs:List Nat} (h:∀d∈xs,d<B+1) (k:Nat):xs[k]?.getD 0<B+1:=by
 cases e:xs[k]? with
 | none=>simp
 | some d=>exact h d (List.mem_of_getElem? e)
theorem aEV (k:Nat) (b1 b2:Nat) (v1:Value) (xs:List Nat) (v2:Value) (ys:List Nat) (lo1 hi1 lo2 hi2:Nat) (w:World) (hk:k≤200000000)
  (hb1:w.cell? ⟨b1,0,none⟩=some v1) (hb2:w.cell? ⟨b2,0,none⟩=some v2) (h2:Ns w v2 ys lo2 hi2) (hy:∀d∈ys,d<10000) (h1:Ns w v1 xs lo1 hi1) (hx:∀d∈xs,d<10000) :
  Calls Tryz.prog 185 #[.int .i64 k,.pointer (some ⟨b1,0,none⟩),.pointer (some ⟨b2,0,none⟩)] w fun e w'=>e=.returned (.int .i64 ((xs[k]?.getD 0:Nat)+(ys[k]?.getD 0:Nat)))∧Still w w':=by
 have hxk:=fB_ hx k
 have hyk:=fB_ hy k
 have H2:=hid h2
 clear h2 hy
 have H1:=hid h1
 clear h1 hx
 go_enter Tryz.func185,Tryz.ntmps185
 go_wp2_with fail
 go_quiet ((go_at_call 186;exact sT_ (aIB _ _ _ _ _ _ (by first|exact H1.out.drewN _|exact H2.out.drewN _) (by omega))))
 go_wp2
 go_ret
 exact⟨rfl,Still.drewN _ _⟩
theorem aBU (k:Nat) (b1 b2:Nat) (v1:Value) (xs:List Nat) (v2:Value) (ys:List Nat) (lo1 hi1 lo2 hi2:Nat) (w:World) (hk:k≤200000000)
  (hb1:w.cell? ⟨b1,0,none⟩=some v1) (hb2:w.cell? ⟨b2,0,none⟩=some v2) (h2:Ns w v2 ys lo2 hi2) (hy:∀d∈ys,d<10000) (h1:Ns w v1 xs lo1 hi1) (hx:∀d∈xs,d<10000) :
  Calls Tryz.prog 187 #[.int .i64 k,.pointer (some ⟨b1,0,none⟩),.pointer (some ⟨b2,0,none⟩)] w fun e w'=>e=.returned (.int .i64 ((xs[k]?.getD 0:Nat)-(ys[k]?.getD 0:Nat)))∧Still w w':=by
 have hxk:=fB_ hx k
 have hyk:=fB_ hy k
 have H2:=hid h2
 clear h2 hy
 have H1:=hid h1
 clear h1 hx
 go_enter Tryz.func187,Tryz.ntmps187
 go_wp2_with fail
 go_quiet ((go_at_call 186;exact sT_ (aIB _ _ _ _ _ _ (by first|exact H1.out.drewN _|exact H2.out.drewN _) (by omega))))
 go_wp2
 go_ret
 exact⟨rfl,Still.drewN _ _⟩
theorem aRB (k:Nat) (b1 b2:Nat) (v1:Value) (xs:List Nat) (d:Nat) (lo1 hi1:Nat) (w:World) (hk:k≤200000000)
  (hb1:w.cell? ⟨b1,0,none⟩=some v1) (hb2:w.cell? ⟨b2,0,none⟩=some (.int .i64 (d:Int))) (hd:d≤9999) (h1:Ns w v1 xs lo1 hi1) (hx:∀d∈xs,d<10000) :
  Calls Tryz.prog 201 #[.int .i64 k,.pointer (some ⟨b1,0,none⟩),.pointer (some ⟨b2,0,none⟩)] w fun e w'=>e=.returned (.int .i64 ((xs[k]?.getD 0:Nat)*(d:Int)))∧Still w w':=by
 have hxk:=fB_ hx k
 have hxd:(xs[k]?.getD 0)*d≤9999*9999:=Nat.mul_le_mul (by omega) hd
 have hxd2:((xs[k]?.getD 0:Nat):Int)*(d:Int)≤99980001:=by rw[←Int.natCast_mul];omega
 have hxd3:0≤((xs[k]?.getD 0:Nat):Int)*(d:Int):=by rw[←Int.natCast_mul];omega
 have H1:=hid h1
 clear h1 hx
 go_enter Tryz.func201,Tryz.ntmps201
 go_wp2_with fail
 go_quiet ((go_at_call 186;exact sT_ (aIB _ _ _ _ _ _ (by first|exact H1.out.drewN _) (by omega))))
 go_wp2
 go_ret
 exact⟨rfl,Still.drewN _ _⟩
theorem aGJ (xs:List Nat) (k:Nat):cW_ (fun i=>(xs[i]?.getD 0:Nat)) k=val 10000 (xs.take k):=by
 induction k with
 | zero=>rfl
 | succ k ih=>
  rw[cW_,ih]
  by_cases h:k<xs.length
  ·rw[kF_ 10000 xs k h];simp
  ·rw[List.take_of_length_le (by omega),List.take_of_length_le (by omega),List.getElem?_eq_none (by omega)];simp
theorem hX_ {xs:List Nat} {k:Nat} (h:xs.length≤k):cW_ (fun i=>(xs[i]?.getD 0:Nat)) k=val 10000 xs:=by
 rw[aGJ,List.take_of_length_le h]
theorem aGM (f g:Nat→Int) (k:Nat):cW_ (fun i=>f i+g i) k=cW_ f k+cW_ g k:=by
 induction k with
 | zero=>rfl
 | succ k ih=>rw[cW_,cW_,cW_,ih,Int.mul_add];omega
theorem aGK (f g:Nat→Int) (k:Nat):cW_ (fun i=>f i-g i) k=cW_ f k-cW_ g k:=by
 induction k with
 | zero=>rfl
 | succ k ih=>rw[cW_,cW_,cW_,ih,Int.mul_sub];omega
theorem aGL (f:Nat→Int) (c:Int) (k:Nat):cW_ (fun i=>f i*c) k=cW_ f k*c:=by
 induction k with
 | zero=>simp[cW_]
 | succ k ih=>rw[cW_,cW_,ih,Int.add_mul,Int.mul_assoc]
def addF (n m i:Nat):Int:=((dig 10000 n)[i]?.getD 0:Nat)+((dig 10000 m)[i]?.getD 0:Nat)
def subF (n m i:Nat):Int:=((dig 10000 n)[i]?.getD 0:Nat)-((dig 10000 m)[i]?.getD 0:Nat)
def mulF (n d i:Nat):Int:=((dig 10000 n)[i]?.getD 0:Nat)*(d:Int)
theorem vA_ (k:Nat) (bx1 bx2:Nat) (v1:Value) (n lo1 hi1:Nat) (v2:Value) (m lo2 hi2:Nat) (W:World) (hk:k≤1000000) (e1:bx1<W.heap.size) (e2:bx2<W.heap.size)
  (hb1:W.cell? ⟨bx1,0,none⟩=some v1) (hb2:W.cell? ⟨bx2,0,none⟩=some (v2)) (h1:Nm W v1 n lo1 hi1) (r1:hi1≤W.heap.size) (l1:(dig 10000 n).length≤k) (h2:Nm W v2 m lo2 hi2) (r2:hi2≤W.heap.size) (l2:(dig 10000 m).length≤k) :
  Calls Tryz.prog 184 #[.int .i64 k,.int .i64 0,.func (.func 185) #[] #[.pointer (some ⟨bx1,0,none⟩),.pointer (some ⟨bx2,0,none⟩)]] W fun e w'=>
   (∃v ds,e=.returned v∧Ns w' v ds W.heap.size w'.heap.size∧trim ds=dig 10000 (n+m))∧Below W.heap.size W w':=by
 have g1:=fun i=>fB_ (B:=9999) (bX_ (B:=10000) (by omega) n) i
 have g2:=fun i=>fB_ (B:=9999) (bX_ (B:=10000) (by omega) m) i
 have hz:∀i,k≤i→addF n m i=0:=by
  intro i hi
  have z1:(dig 10000 n)[i]?.getD 0=0:=by rw[List.getElem?_eq_none (by omega)];rfl
  have z2:(dig 10000 m)[i]?.getD 0=0:=by rw[List.getElem?_eq_none (by omega)];rfl
  simp[addF,z1,z2]
 have htot:cW_ (addF n m) k=((n+m:Nat):Int):=by
  unfold addF;rw[aGM,hX_ l1,hX_ l2,bK_ (by omega),bK_ (by omega)];simp
 refine(tN_ 185 #[.pointer (some ⟨bx1,0,none⟩),.pointer (some ⟨bx2,0,none⟩)] (addF n m) k W (enters_of Tryz.func185 (by kernel_rfl) rfl) ?_ hk ?_ ?_ ?_ ?_).mono ?_
 ·intro i w' hi hbw
  exact aEV i bx1 bx2 v1 _ v2 _ lo1 hi1 lo2 hi2 w' hi ((hbw.cell (p:=⟨bx1,0,none⟩) e1).trans hb1) ((hbw.cell (p:=⟨bx2,0,none⟩) e2).trans hb2) (h2.below hbw r2) (bX_ (by omega) m) (h1.below hbw r1) (bX_ (by omega) n)
 ·intro i;have:=g1 i;have:=g2 i;unfold addF;omega
 ·intro i;have:=g1 i;have:=g2 i;unfold addF;omega
 ·exact hz
 ·rw[htot];exact Int.natCast_nonneg _
 ·rintro e w' ⟨⟨v,ds,j,rfl,hv,hf,hj⟩,hb⟩
  exact⟨⟨v,ds,rfl,hv,tM_ hf hj hz _ htot⟩,hb⟩
theorem tE_ (k:Nat) (bx1 bx2:Nat) (v1:Value) (n lo1 hi1:Nat) (v2:Value) (m lo2 hi2:Nat) (W:World) (hk:k≤1000000) (e1:bx1<W.heap.size) (e2:bx2<W.heap.size)
  (hb1:W.cell? ⟨bx1,0,none⟩=some v1) (hb2:W.cell? ⟨bx2,0,none⟩=some (v2)) (h1:Nm W v1 n lo1 hi1) (r1:hi1≤W.heap.size) (l1:(dig 10000 n).length≤k) (h2:Nm W v2 m lo2 hi2) (r2:hi2≤W.heap.size) (l2:(dig 10000 m).length≤k) (hle:m≤n) :
  Calls Tryz.prog 184 #[.int .i64 k,.int .i64 0,.func (.func 187) #[] #[.pointer (some ⟨bx1,0,none⟩),.pointer (some ⟨bx2,0,none⟩)]] W fun e w'=>
   (∃v ds,e=.returned v∧Ns w' v ds W.heap.size w'.heap.size∧trim ds=dig 10000 (n-m))∧Below W.heap.size W w':=by
 have g1:=fun i=>fB_ (B:=9999) (bX_ (B:=10000) (by omega) n) i
 have g2:=fun i=>fB_ (B:=9999) (bX_ (B:=10000) (by omega) m) i
 have hz:∀i,k≤i→subF n m i=0:=by
  intro i hi
  have z1:(dig 10000 n)[i]?.getD 0=0:=by rw[List.getElem?_eq_none (by omega)];rfl
  have z2:(dig 10000 m)[i]?.getD 0=0:=by rw[List.getElem?_eq_none (by omega)];rfl
  simp[subF,z1,z2]
 have htot:cW_ (subF n m) k=((n-m:Nat):Int):=by
  unfold subF;rw[aGK,hX_ l1,hX_ l2,bK_ (by omega),bK_ (by omega)];omega
 refine(tN_ 187 #[.pointer (some ⟨bx1,0,none⟩),.pointer (some ⟨bx2,0,none⟩)] (subF n m) k W (enters_of Tryz.func187 (by kernel_rfl) rfl) ?_ hk ?_ ?_ ?_ ?_).mono ?_
 ·intro i w' hi hbw
  exact aBU i bx1 bx2 v1 _ v2 _ lo1 hi1 lo2 hi2 w' hi ((hbw.cell (p:=⟨bx1,0,none⟩) e1).trans hb1) ((hbw.cell (p:=⟨bx2,0,none⟩) e2).trans hb2) (h2.below hbw r2) (bX_ (by omega) m) (h1.below hbw r1) (bX_ (by omega) n)
 ·intro i;have:=g1 i;have:=g2 i;unfold subF;omega
 ·intro i;have:=g1 i;have:=g2 i;unfold subF;omega
 ·exact hz
 ·rw[htot];exact Int.natCast_nonneg _
 ·rintro e w' ⟨⟨v,ds,j,rfl,hv,hf,hj⟩,hb⟩
  exact⟨⟨v,ds,rfl,hv,tM_ hf hj hz _ htot⟩,hb⟩
theorem aCV (k:Nat) (bx1 bx2:Nat) (v1:Value) (n lo1 hi1:Nat) (d:Nat) (W:World) (hk:k≤1000000) (e1:bx1<W.heap.size) (e2:bx2<W.heap.size)
  (hb1:W.cell? ⟨bx1,0,none⟩=some v1) (hb2:W.cell? ⟨bx2,0,none⟩=some (.int .i64 (d:Int))) (h1:Nm W v1 n lo1 hi1) (r1:hi1≤W.heap.size) (l1:(dig 10000 n).length≤k) (hd:d≤9999) :
  Calls Tryz.prog 184 #[.int .i64 k,.int .i64 0,.func (.func 201) #[] #[.pointer (some ⟨bx1,0,none⟩),.pointer (some ⟨bx2,0,none⟩)]] W fun e w'=>
   (∃v ds,e=.returned v∧Ns w' v ds W.heap.size w'.heap.size∧trim ds=dig 10000 (n*d))∧Below W.heap.size W w':=by
 have g1:=fun i=>fB_ (B:=9999) (bX_ (B:=10000) (by omega) n) i
 have hz:∀i,k≤i→mulF n d i=0:=by
  intro i hi
  have z1:(dig 10000 n)[i]?.getD 0=0:=by rw[List.getElem?_eq_none (by omega)];rfl
  simp[mulF,z1]
 have htot:cW_ (mulF n d) k=((n*d:Nat):Int):=by
  unfold mulF;rw[aGL,hX_ l1,bK_ (by omega)];simp
 refine(tN_ 201 #[.pointer (some ⟨bx1,0,none⟩),.pointer (some ⟨bx2,0,none⟩)] (mulF n d) k W (enters_of Tryz.func201 (by kernel_rfl) rfl) ?_ hk ?_ ?_ ?_ ?_).mono ?_
 ·intro i w' hi hbw
  exact aRB i bx1 bx2 v1 _ d lo1 hi1 w' hi ((hbw.cell (p:=⟨bx1,0,none⟩) e1).trans hb1) ((hbw.cell (p:=⟨bx2,0,none⟩) e2).trans hb2) hd (h1.below hbw r1) (bX_ (by omega) n)
 ·intro i;unfold mulF;rw[←Int.natCast_mul];omega
 ·intro i;have hm:((dig 10000 n)[i]?.getD 0)*d≤9999*9999:=Nat.mul_le_mul (by have:=g1 i;omega) hd;unfold mulF;rw[←Int.natCast_mul];omega
 ·exact hz
 ·rw[htot];exact Int.natCast_nonneg _
 ·rintro e w' ⟨⟨v,ds,j,rfl,hv,hf,hj⟩,hb⟩
  exact⟨⟨v,ds,rfl,hv,tM_ hf hj hz _ htot⟩,hb⟩
theorem mY_ (v1 v2:Value) (n m:Nat) (lo1 hi1 lo2 hi2:Nat) (w:World) (h1:Nm w v1 n lo1 hi1) (h2:Nm w v2 m lo2 hi2) (b1:hi1≤w.heap.size) (b2:hi2≤w.heap.size) (l1:Few n) (l2:Few m) :
  Calls Tryz.prog 158 #[v1,v2] w fun e w'=>(∃v,e=.returned v∧Nm w' v (n+m) w.heap.size w'.heap.size)∧Below w.heap.size w w':=by
 obtain⟨a1,cap1,rfl⟩:∃a cap,v1=.slice a (dig 10000 n).length cap:=by obtain⟨a,cap,e,_⟩:=h1;exact⟨a,cap,e⟩
 obtain⟨a2,cap2,rfl⟩:∃a cap,v2=.slice a (dig 10000 m).length cap:=by obtain⟨a,cap,e,_⟩:=h2;exact⟨a,cap,e⟩
 have H2:=hid h2
 clear h2
 have H1:=hid h1
 clear h1
 unfold Few at l1 l2
 obtain⟨W,hW⟩:∃W,(w.alloc (.cells #[.slice a1 (dig 10000 n).length cap1] 149)).alloc (.cells #[.slice a2 (dig 10000 m).length cap2] 149)=W:=⟨_,rfl⟩
 have hWs:W.heap.size=w.heap.size+2:=by rw[←hW];simp
 have hWb:Below w.heap.size w W:=by rw[←hW];exact((Below.refl _ _).alloc (Nat.le_refl _) _).alloc (by simp) _
 have c1:W.cell? ⟨w.heap.size,0,none⟩=some (.slice a1 (dig 10000 n).length cap1):=by rw[←hW];simp[go_sem]
 have c2:W.cell? ⟨w.heap.size+1,0,none⟩=some (.slice a2 (dig 10000 m).length cap2):=by rw[←hW];simp[go_sem]
 have hf:=fun k hk l1 l2=>vA_ k w.heap.size (w.heap.size+1) _ n lo1 hi1 _ m lo2 hi2 W hk (by omega) (by omega) c1 c2 (H1.out.below hWb b1) (by omega) l1 (H2.out.below hWb b2) (by omega) l2
 have HW:=hid hW
 have HS:=hid hWs
 have HF:=hid hf
 clear hW hWs c1 c2 hf
 rcases Nat.lt_or_ge (dig 10000 n).length (dig 10000 m).length with hlt|hlt
 all_goals
  go_enter Tryz.func158,Tryz.ntmps158
  go_wp2_with (first
   | (go_at_call 184;rw[HW.out];refine(HF.out _ (by omega) (by omega) (by omega)).mono ?_;rintro e w1 ⟨⟨v,ds,rfl,hv,ht⟩,hb⟩;have HV:=hid hv;have HT:=hid ht;clear hv ht)
   | (go_at_call 180;refine(dY_ _ ds _ _ _ HV.out).mono ?_;rintro e w2 ⟨⟨v',rfl,hv'⟩,rfl⟩;have HV2:=hid hv';clear hv'))
  go_ret
  have hs:=HS.out
  have hv2:=HV2.out
  rw[HT.out] at hv2
  exact⟨⟨_,rfl,hv2.mono (by omega) (Nat.le_refl _)⟩,hWb.trans (hb.mono (by omega))⟩
theorem kX_ (v1 v2:Value) (n m:Nat) (lo1 hi1 lo2 hi2:Nat) (w:World) (h1:Nm w v1 n lo1 hi1) (h2:Nm w v2 m lo2 hi2) (b1:hi1≤w.heap.size) (b2:hi2≤w.heap.size) (l1:Few n) (_l2:Few m) (hle:m≤n) :
  Calls Tryz.prog 160 #[v1,v2] w fun e w'=>(∃v,e=.returned v∧Nm w' v (n-m) w.heap.size w'.heap.size)∧Below w.heap.size w w':=by
 obtain⟨a1,cap1,rfl⟩:∃a cap,v1=.slice a (dig 10000 n).length cap:=by obtain⟨a,cap,e,_⟩:=h1;exact⟨a,cap,e⟩
 obtain⟨a2,cap2,rfl⟩:∃a cap,v2=.slice a (dig 10000 m).length cap:=by obtain⟨a,cap,e,_⟩:=h2;exact⟨a,cap,e⟩
 have H2:=hid h2
 clear h2
 have H1:=hid h1
 have hlen:=aG_ (B:=10000) (by omega) hle
 clear h1
 unfold Few at l1
 obtain⟨W,hW⟩:∃W,(w.alloc (.cells #[.slice a1 (dig 10000 n).length cap1] 149)).alloc (.cells #[.slice a2 (dig 10000 m).length cap2] 149)=W:=⟨_,rfl⟩
 have hWs:W.heap.size=w.heap.size+2:=by rw[←hW];simp
 have hWb:Below w.heap.size w W:=by rw[←hW];exact((Below.refl _ _).alloc (Nat.le_refl _) _).alloc (by simp) _
 have c1:W.cell? ⟨w.heap.size,0,none⟩=some (.slice a1 (dig 10000 n).length cap1):=by rw[←hW];simp[go_sem]
 have c2:W.cell? ⟨w.heap.size+1,0,none⟩=some (.slice a2 (dig 10000 m).length cap2):=by rw[←hW];simp[go_sem]
 have hf:=fun k hk l1 l2=>tE_ k w.heap.size (w.heap.size+1) _ n lo1 hi1 _ m lo2 hi2 W hk (by omega) (by omega) c1 c2 (H1.out.below hWb b1) (by omega) l1 (H2.out.below hWb b2) (by omega) l2 hle
 have HW:=hid hW
 have HS:=hid hWs
 have HF:=hid hf
 clear hW hWs c1 c2 hf
 go_enter Tryz.func160,Tryz.ntmps160
 go_wp2_with (first
  | (go_at_call 184;rw[HW.out];refine(HF.out _ (by omega) (by omega) (by omega)).mono ?_;rintro e w1 ⟨⟨v,ds,rfl,hv,ht⟩,hb⟩;have HV:=hid hv;have HT:=hid ht;clear hv ht)
  | (go_at_call 180;refine(dY_ _ ds _ _ _ HV.out).mono ?_;rintro e w2 ⟨⟨v',rfl,hv'⟩,rfl⟩;have HV2:=hid hv';clear hv'))
 all_goals
  go_ret
  have hs:=HS.out
  have hv2:=HV2.out
  rw[HT.out] at hv2
  exact⟨⟨_,rfl,hv2.mono (by omega) (Nat.le_refl _)⟩,hWb.trans (hb.mono (by omega))⟩
theorem aAW (v1:Value) (n d:Nat) (lo1 hi1:Nat) (w:World) (h1:Nm w v1 n lo1 hi1) (b1:hi1≤w.heap.size) (l1:Few n) (hd:d≤9999) :
  Calls Tryz.prog 181 #[v1,.int .i64 (d:Int)] w fun e w'=>(∃v,e=.returned v∧Nm w' v (n*d) w.heap.size w'.heap.size)∧Below w.heap.size w w':=by
 obtain⟨a1,cap1,rfl⟩:∃a cap,v1=.slice a (dig 10000 n).length cap:=by obtain⟨a,cap,e,_⟩:=h1;exact⟨a,cap,e⟩
 have H1:=hid h1
 clear h1
 unfold Few at l1
 obtain⟨W,hW⟩:∃W,(w.alloc (.cells #[.slice a1 (dig 10000 n).length cap1] 149)).alloc (.cells #[.int .i64 (d:Int)] 3)=W:=⟨_,rfl⟩
 have hWs:W.heap.size=w.heap.size+2:=by rw[←hW];simp
 have hWb:Below w.heap.size w W:=by rw[←hW];exact((Below.refl _ _).alloc (Nat.le_refl _) _).alloc (by simp) _
 have c1:W.cell? ⟨w.heap.size,0,none⟩=some (.slice a1 (dig 10000 n).length cap1):=by rw[←hW];simp[go_sem]
 have c2:W.cell? ⟨w.heap.size+1,0,none⟩=some (.int .i64 (d:Int)):=by rw[←hW];simp[go_sem]
 have hf:=fun k hk l1=>aCV k w.heap.size (w.heap.size+1) _ n lo1 hi1 d W hk (by omega) (by omega) c1 c2 (H1.out.below hWb b1) (by omega) l1 hd
 have HW:=hid hW
 have HS:=hid hWs
 have HF:=hid hf
 clear hW hWs c1 c2 hf
 go_enter Tryz.func181,Tryz.ntmps181
 go_wp2_with (first
  | (go_at_call 184;rw[HW.out];refine(HF.out _ (by omega) (by omega)).mono ?_;rintro e w1 ⟨⟨v,ds,rfl,hv,ht⟩,hb⟩;have HV:=hid hv;have HT:=hid ht;clear hv ht)
  | (go_at_call 180;refine(dY_ _ ds _ _ _ HV.out).mono ?_;rintro e w2 ⟨⟨v',rfl,hv'⟩,rfl⟩;have HV2:=hid hv';clear hv'))
 all_goals
  go_ret
  have hs:=HS.out
  have hv2:=HV2.out
  rw[HT.out] at hv2
  exact⟨⟨_,rfl,hv2.mono (by omega) (Nat.le_refl _)⟩,hWb.trans (hb.mono (by omega))⟩
end Go.Proofs.YtjfdefglpoancaaGreatDoor
namespace Go.Proofs.YtjfdefglpoancaaGreatDoor
open Go.RowKit Go.Shelf
def lexK (md:Region.Mode) (ops:Array Oper) (lo len:Nat):Bool:=(List.range len).all fun d=>match ops[lo+d]? with
 | none=>true
 | some oi=>(oi.after.all fun e=>!Region.binds md e||decide (e.on<lo+d))&&(List.range ops.size).all fun j=>decide (j≤lo+d)||match ops[j]? with
  | some oj=>oj.after.any (fun e=>Region.binds md e&&e.on==lo+d)||oi.apart ops oj
  | none=>true
theorem rF_ {md:Region.Mode} {ops:Array Oper} (h:∀k,k<ops.size→lexK md ops k 1=true):∀(fuel k:Nat) (listed:Array Bool),k+fuel=ops.size→listed.size=ops.size→(∀i,i<ops.size→listed[i]?=some (decide (i<k)))→Region.lexFrom md ops fuel k listed=true
 | 0,k,listed,hk,hs,hl=>by
  unfold Region.lexFrom Region.ready
  rw[List.isEmpty_iff,List.filter_eq_nil_iff]
  intro i hi
  have hi:=List.mem_range.1 hi
  have e:listed.getD i true=true:=by rw[Array.getD_eq_getD_getElem?,hl i hi];simp;omega
  rw[e]
  simp
 | fuel+1,k,listed,hk,hs,hl=>by
  have hkn:k<ops.size:=by omega
  obtain⟨oi,hoi⟩:∃o,ops[k]?=some o:=⟨ops[k],Array.getElem?_eq_getElem hkn⟩
  have h1:=h k hkn
  unfold lexK at h1
  simp only[List.range_one,List.all_cons,List.all_nil,Bool.and_true,Nat.add_zero,hoi,Bool.and_eq_true] at h1
  obtain⟨h1,h2⟩:=h1
  unfold Region.lexFrom
  simp only[Bool.and_eq_true]
  refine⟨⟨?_,?_⟩,?_⟩
  ·rw[List.contains_iff_mem]
   unfold Region.ready
   refine List.mem_filter.2 ⟨List.mem_range.2 hkn,?_⟩
   have e:listed.getD k true=false:=by rw[Array.getD_eq_getD_getElem?,hl k hkn];simp
   rw[e,hoi]
   simp only[Bool.not_false,Option.map_some,Option.getD_some,Bool.true_and]
   rw[Array.all_eq_true'] at h1⊢
   intro x hx
   have hx:=h1 x hx
   simp only[Bool.or_eq_true,decide_eq_true_eq] at hx⊢
   rcases hx with hx|hx
   ·exact .inl hx
   ·refine .inr ?_
    rw[Array.getD_eq_getD_getElem?,hl x.on (by omega)]
    simpa using hx
  ·unfold Region.free
   rw[hoi]
   simp only
   rw[List.all_eq_true] at h2⊢
   intro j hj
   have hjn:=List.mem_range.1 hj
   have hx:=h2 j hj
   by_cases hjk:j<k
   ·have e:listed.getD j true=true:=by rw[Array.getD_eq_getD_getElem?,hl j hjn];simpa using hjk
    rw[e]
    simp
   ·by_cases hje:j=k
    ·subst hje
     simp
    ·have e2:decide (j≤k)=false:=decide_eq_false (by omega)
     rw[e2,Bool.false_or] at hx
     rw[Bool.or_eq_true]
     exact .inr hx
  ·refine rF_ h fuel (k+1) _ (by omega) (by simpa using hs) fun i hi=>?_
   rw[Array.getElem?_setIfInBounds]
   by_cases hik:k=i
   ·subst hik
    rw[if_pos rfl,if_pos (by omega)]
    simp
   ·rw[if_neg hik,hl i hi]
    congr 1
    exact decide_eq_decide.2 (by omega)
theorem aPG {md:Region.Mode} {ops:Array Oper} (hs:Region.noSelect ops=true) (h:∀k,k<ops.size→lexK md ops k 1=true):Region.lexB md ops=true:=by
 unfold Region.lexB
 rw[hs,Bool.true_and]
 exact rF_ h _ _ _ (by omega) (by simp) fun i hi=>by simp[hi]
theorem aKC {md:Region.Mode} {ops:Array Oper} {lo len:Nat} (h:lexK md ops lo len=true) {k:Nat} (h1:lo≤k) (h2:k<lo+len):lexK md ops k 1=true:=by
 unfold lexK at h⊢
 have:=List.all_eq_true.1 h (k-lo) (List.mem_range.2 (by omega))
 rw[show lo+(k-lo)=k by omega] at this
 rw[List.range_one,List.all_cons,List.all_nil,Bool.and_true,Nat.add_zero]
 exact this
end Go.Proofs.YtjfdefglpoancaaGreatDoor
