/- - -/
import Derived.Deep.QuietTactic
import Derived.BigQuiet
import Derived.Test.YtdkaohphbgdkpaaGreatDoorZNum
set_option maxHeartbeats 40000000
set_option maxRecDepth 1000000
namespace Go.Proofs.YtdkaohphbgdkpaaGreatDoor
open Go.RowKit
theorem dL_ {B:Nat} {xs:List Nat} (h:∀d∈xs,d<B+1) (k:Nat):xs[k]?.getD 0<B+1:=by
 cases e:xs[k]? with
 | none=>simp
 | some d=>exact h d (List.mem_of_getElem? e)
theorem vB_ (k:Nat) (b1 b2:Nat) (v1:Value) (xs:List Nat) (v2:Value) (ys:List Nat) (lo1 hi1 lo2 hi2:Nat) (w:World) (hk:k≤200000000)
  (hb1:w.cell? ⟨b1,0,none⟩=some v1) (hb2:w.cell? ⟨b2,0,none⟩=some v2) (h2:Ns w v2 ys lo2 hi2) (hy:∀d∈ys,d<10000) (h1:Ns w v1 xs lo1 hi1) (hx:∀d∈xs,d<10000) :
  Calls Tryz.prog 243 #[.int .i64 k,.pointer (some ⟨b1,0,none⟩),.pointer (some ⟨b2,0,none⟩)] w fun e w'=>e=.returned (.int .i64 ((xs[k]?.getD 0:Nat)+(ys[k]?.getD 0:Nat)))∧Still w w':=by
 have hxk:=dL_ hx k
 have hyk:=dL_ hy k
 have H2:=Lib.hid h2
 clear h2 hy
 have H1:=Lib.hid h1
 clear h1 hx
 go_enter Tryz.func243,Tryz.ntmps243
 go_wp2_with fail
 go_quiet ((go_at_call 244;exact lO_ (xR_ _ _ _ _ _ _ (by first|exact H1.out.drewN _|exact H2.out.drewN _) (by omega))))
 go_wp2
 go_ret
 exact⟨rfl,Still.drewN _ _⟩
theorem sF_ (k:Nat) (b1 b2:Nat) (v1:Value) (xs:List Nat) (v2:Value) (ys:List Nat) (lo1 hi1 lo2 hi2:Nat) (w:World) (hk:k≤200000000)
  (hb1:w.cell? ⟨b1,0,none⟩=some v1) (hb2:w.cell? ⟨b2,0,none⟩=some v2) (h2:Ns w v2 ys lo2 hi2) (hy:∀d∈ys,d<10000) (h1:Ns w v1 xs lo1 hi1) (hx:∀d∈xs,d<10000) :
  Calls Tryz.prog 245 #[.int .i64 k,.pointer (some ⟨b1,0,none⟩),.pointer (some ⟨b2,0,none⟩)] w fun e w'=>e=.returned (.int .i64 ((xs[k]?.getD 0:Nat)-(ys[k]?.getD 0:Nat)))∧Still w w':=by
 have hxk:=dL_ hx k
 have hyk:=dL_ hy k
 have H2:=Lib.hid h2
 clear h2 hy
 have H1:=Lib.hid h1
 clear h1 hx
 go_enter Tryz.func245,Tryz.ntmps245
 go_wp2_with fail
 go_quiet ((go_at_call 244;exact lO_ (xR_ _ _ _ _ _ _ (by first|exact H1.out.drewN _|exact H2.out.drewN _) (by omega))))
 go_wp2
 go_ret
 exact⟨rfl,Still.drewN _ _⟩
theorem aEO (k:Nat) (b1 b2:Nat) (v1:Value) (xs:List Nat) (d:Nat) (lo1 hi1:Nat) (w:World) (hk:k≤200000000)
  (hb1:w.cell? ⟨b1,0,none⟩=some v1) (hb2:w.cell? ⟨b2,0,none⟩=some (.int .i64 (d:Int))) (hd:d≤9999) (h1:Ns w v1 xs lo1 hi1) (hx:∀d∈xs,d<10000) :
  Calls Tryz.prog 249 #[.int .i64 k,.pointer (some ⟨b1,0,none⟩),.pointer (some ⟨b2,0,none⟩)] w fun e w'=>e=.returned (.int .i64 ((xs[k]?.getD 0:Nat)*(d:Int)))∧Still w w':=by
 have hxk:=dL_ hx k
 have hxd:(xs[k]?.getD 0)*d≤9999*9999:=Nat.mul_le_mul (by omega) hd
 have hxd2:((xs[k]?.getD 0:Nat):Int)*(d:Int)≤99980001:=by rw[←Int.natCast_mul];omega
 have hxd3:0≤((xs[k]?.getD 0:Nat):Int)*(d:Int):=by rw[←Int.natCast_mul];omega
 have H1:=Lib.hid h1
 clear h1 hx
 go_enter Tryz.func249,Tryz.ntmps249
 go_wp2_with fail
 go_quiet ((go_at_call 244;exact lO_ (xR_ _ _ _ _ _ _ (by first|exact H1.out.drewN _) (by omega))))
 go_wp2
 go_ret
 exact⟨rfl,Still.drewN _ _⟩
theorem wX_ (xs:List Nat) (k:Nat):bM_ (fun i=>(xs[i]?.getD 0:Nat)) k=val 10000 (xs.take k):=by
 induction k with
 | zero=>rfl
 | succ k ih=>
  rw[bM_,ih]
  by_cases h:k<xs.length
  ·rw[lF_ 10000 xs k h];simp
  ·rw[List.take_of_length_le (by omega),List.take_of_length_le (by omega),List.getElem?_eq_none (by omega)];simp
theorem eX_ {xs:List Nat} {k:Nat} (h:xs.length≤k):bM_ (fun i=>(xs[i]?.getD 0:Nat)) k=val 10000 xs:=by
 rw[wX_,List.take_of_length_le h]
theorem xA_ (f g:Nat→Int) (k:Nat):bM_ (fun i=>f i+g i) k=bM_ f k+bM_ g k:=by
 induction k with
 | zero=>rfl
 | succ k ih=>rw[bM_,bM_,bM_,ih,Int.mul_add];omega
theorem wY_ (f g:Nat→Int) (k:Nat):bM_ (fun i=>f i-g i) k=bM_ f k-bM_ g k:=by
 induction k with
 | zero=>rfl
 | succ k ih=>rw[bM_,bM_,bM_,ih,Int.mul_sub];omega
theorem wZ_ (f:Nat→Int) (c:Int) (k:Nat):bM_ (fun i=>f i*c) k=bM_ f k*c:=by
 induction k with
 | zero=>simp[bM_]
 | succ k ih=>rw[bM_,bM_,ih,Int.add_mul,Int.mul_assoc]
def addF (n m i:Nat):Int:=((dig 10000 n)[i]?.getD 0:Nat)+((dig 10000 m)[i]?.getD 0:Nat)
def subF (n m i:Nat):Int:=((dig 10000 n)[i]?.getD 0:Nat)-((dig 10000 m)[i]?.getD 0:Nat)
def mulF (n d i:Nat):Int:=((dig 10000 n)[i]?.getD 0:Nat)*(d:Int)
theorem nM_ (k:Nat) (bx1 bx2:Nat) (v1:Value) (n lo1 hi1:Nat) (v2:Value) (m lo2 hi2:Nat) (W:World) (hk:k≤1000000) (e1:bx1<W.heap.size) (e2:bx2<W.heap.size)
  (hb1:W.cell? ⟨bx1,0,none⟩=some v1) (hb2:W.cell? ⟨bx2,0,none⟩=some (v2)) (h1:Nm W v1 n lo1 hi1) (r1:hi1≤W.heap.size) (l1:(dig 10000 n).length≤k) (h2:Nm W v2 m lo2 hi2) (r2:hi2≤W.heap.size) (l2:(dig 10000 m).length≤k) :
  Calls Tryz.prog 242 #[.int .i64 k,.int .i64 0,.func (.func 243) #[] #[.pointer (some ⟨bx1,0,none⟩),.pointer (some ⟨bx2,0,none⟩)]] W fun e w'=>
   (∃v ds,e=.returned v∧Ns w' v ds W.heap.size w'.heap.size∧trim ds=dig 10000 (n+m))∧Below W.heap.size W w':=by
 have g1:=fun i=>dL_ (B:=9999) (bR_ (B:=10000) (by omega) n) i
 have g2:=fun i=>dL_ (B:=9999) (bR_ (B:=10000) (by omega) m) i
 have hz:∀i,k≤i→addF n m i=0:=by
  intro i hi
  have z1:(dig 10000 n)[i]?.getD 0=0:=by rw[List.getElem?_eq_none (by omega)];rfl
  have z2:(dig 10000 m)[i]?.getD 0=0:=by rw[List.getElem?_eq_none (by omega)];rfl
  simp[addF,z1,z2]
 have htot:bM_ (addF n m) k=((n+m:Nat):Int):=by
  unfold addF;rw[xA_,eX_ l1,eX_ l2,cA_ (by omega),cA_ (by omega)];simp
 refine(mF_ 243 #[.pointer (some ⟨bx1,0,none⟩),.pointer (some ⟨bx2,0,none⟩)] (addF n m) k W (enters_of Tryz.func243 (by kernel_rfl) rfl) ?_ hk ?_ ?_ ?_ ?_).mono ?_
 ·intro i w' hi hbw
  exact vB_ i bx1 bx2 v1 _ v2 _ lo1 hi1 lo2 hi2 w' hi ((hbw.cell (p:=⟨bx1,0,none⟩) e1).trans hb1) ((hbw.cell (p:=⟨bx2,0,none⟩) e2).trans hb2) (h2.below hbw r2) (bR_ (by omega) m) (h1.below hbw r1) (bR_ (by omega) n)
 ·intro i;have:=g1 i;have:=g2 i;unfold addF;omega
 ·intro i;have:=g1 i;have:=g2 i;unfold addF;omega
 ·exact hz
 ·rw[htot];exact Int.natCast_nonneg _
 ·rintro e w' ⟨⟨v,ds,j,rfl,hv,hf,hj⟩,hb⟩
  exact⟨⟨v,ds,rfl,hv,mE_ hf hj hz _ htot⟩,hb⟩
theorem lV_ (k:Nat) (bx1 bx2:Nat) (v1:Value) (n lo1 hi1:Nat) (v2:Value) (m lo2 hi2:Nat) (W:World) (hk:k≤1000000) (e1:bx1<W.heap.size) (e2:bx2<W.heap.size)
  (hb1:W.cell? ⟨bx1,0,none⟩=some v1) (hb2:W.cell? ⟨bx2,0,none⟩=some (v2)) (h1:Nm W v1 n lo1 hi1) (r1:hi1≤W.heap.size) (l1:(dig 10000 n).length≤k) (h2:Nm W v2 m lo2 hi2) (r2:hi2≤W.heap.size) (l2:(dig 10000 m).length≤k) (hle:m≤n) :
  Calls Tryz.prog 242 #[.int .i64 k,.int .i64 0,.func (.func 245) #[] #[.pointer (some ⟨bx1,0,none⟩),.pointer (some ⟨bx2,0,none⟩)]] W fun e w'=>
   (∃v ds,e=.returned v∧Ns w' v ds W.heap.size w'.heap.size∧trim ds=dig 10000 (n-m))∧Below W.heap.size W w':=by
 have g1:=fun i=>dL_ (B:=9999) (bR_ (B:=10000) (by omega) n) i
 have g2:=fun i=>dL_ (B:=9999) (bR_ (B:=10000) (by omega) m) i
 have hz:∀i,k≤i→subF n m i=0:=by
  intro i hi
  have z1:(dig 10000 n)[i]?.getD 0=0:=by rw[List.getElem?_eq_none (by omega)];rfl
  have z2:(dig 10000 m)[i]?.getD 0=0:=by rw[List.getElem?_eq_none (by omega)];rfl
  simp[subF,z1,z2]
 have htot:bM_ (subF n m) k=((n-m:Nat):Int):=by
  unfold subF;rw[wY_,eX_ l1,eX_ l2,cA_ (by omega),cA_ (by omega)];omega
 refine(mF_ 245 #[.pointer (some ⟨bx1,0,none⟩),.pointer (some ⟨bx2,0,none⟩)] (subF n m) k W (enters_of Tryz.func245 (by kernel_rfl) rfl) ?_ hk ?_ ?_ ?_ ?_).mono ?_
 ·intro i w' hi hbw
  exact sF_ i bx1 bx2 v1 _ v2 _ lo1 hi1 lo2 hi2 w' hi ((hbw.cell (p:=⟨bx1,0,none⟩) e1).trans hb1) ((hbw.cell (p:=⟨bx2,0,none⟩) e2).trans hb2) (h2.below hbw r2) (bR_ (by omega) m) (h1.below hbw r1) (bR_ (by omega) n)
 ·intro i;have:=g1 i;have:=g2 i;unfold subF;omega
 ·intro i;have:=g1 i;have:=g2 i;unfold subF;omega
 ·exact hz
 ·rw[htot];exact Int.natCast_nonneg _
 ·rintro e w' ⟨⟨v,ds,j,rfl,hv,hf,hj⟩,hb⟩
  exact⟨⟨v,ds,rfl,hv,mE_ hf hj hz _ htot⟩,hb⟩
theorem sY_ (k:Nat) (bx1 bx2:Nat) (v1:Value) (n lo1 hi1:Nat) (d:Nat) (W:World) (hk:k≤1000000) (e1:bx1<W.heap.size) (e2:bx2<W.heap.size)
  (hb1:W.cell? ⟨bx1,0,none⟩=some v1) (hb2:W.cell? ⟨bx2,0,none⟩=some (.int .i64 (d:Int))) (h1:Nm W v1 n lo1 hi1) (r1:hi1≤W.heap.size) (l1:(dig 10000 n).length≤k) (hd:d≤9999) :
  Calls Tryz.prog 242 #[.int .i64 k,.int .i64 0,.func (.func 249) #[] #[.pointer (some ⟨bx1,0,none⟩),.pointer (some ⟨bx2,0,none⟩)]] W fun e w'=>
   (∃v ds,e=.returned v∧Ns w' v ds W.heap.size w'.heap.size∧trim ds=dig 10000 (n*d))∧Below W.heap.size W w':=by
 have g1:=fun i=>dL_ (B:=9999) (bR_ (B:=10000) (by omega) n) i
 have hz:∀i,k≤i→mulF n d i=0:=by
  intro i hi
  have z1:(dig 10000 n)[i]?.getD 0=0:=by rw[List.getElem?_eq_none (by omega)];rfl
  simp[mulF,z1]
 have htot:bM_ (mulF n d) k=((n*d:Nat):Int):=by
  unfold mulF;rw[wZ_,eX_ l1,cA_ (by omega)];simp
 refine(mF_ 249 #[.pointer (some ⟨bx1,0,none⟩),.pointer (some ⟨bx2,0,none⟩)] (mulF n d) k W (enters_of Tryz.func249 (by kernel_rfl) rfl) ?_ hk ?_ ?_ ?_ ?_).mono ?_
 ·intro i w' hi hbw
  exact aEO i bx1 bx2 v1 _ d lo1 hi1 w' hi ((hbw.cell (p:=⟨bx1,0,none⟩) e1).trans hb1) ((hbw.cell (p:=⟨bx2,0,none⟩) e2).trans hb2) hd (h1.below hbw r1) (bR_ (by omega) n)
 ·intro i;unfold mulF;rw[←Int.natCast_mul];omega
 ·intro i;have hm:((dig 10000 n)[i]?.getD 0)*d≤9999*9999:=Nat.mul_le_mul (by have:=g1 i;omega) hd;unfold mulF;rw[←Int.natCast_mul];omega
 ·exact hz
 ·rw[htot];exact Int.natCast_nonneg _
 ·rintro e w' ⟨⟨v,ds,j,rfl,hv,hf,hj⟩,hb⟩
  exact⟨⟨v,ds,rfl,hv,mE_ hf hj hz _ htot⟩,hb⟩
theorem qQ_ (v1 v2:Value) (n m:Nat) (lo1 hi1 lo2 hi2:Nat) (w:World) (h1:Nm w v1 n lo1 hi1) (h2:Nm w v2 m lo2 hi2) (b1:hi1≤w.heap.size) (b2:hi2≤w.heap.size) (l1:Few n) (l2:Few m) :
  Calls Tryz.prog 230 #[v1,v2] w fun e w'=>(∃v,e=.returned v∧Nm w' v (n+m) w.heap.size w'.heap.size)∧Below w.heap.size w w':=by
 obtain⟨a1,cap1,rfl⟩:∃a cap,v1=.slice a (dig 10000 n).length cap:=by obtain⟨a,cap,e,_⟩:=h1;exact⟨a,cap,e⟩
 obtain⟨a2,cap2,rfl⟩:∃a cap,v2=.slice a (dig 10000 m).length cap:=by obtain⟨a,cap,e,_⟩:=h2;exact⟨a,cap,e⟩
 have H2:=Lib.hid h2
 clear h2
 have H1:=Lib.hid h1
 clear h1
 unfold Few at l1 l2
 obtain⟨W,hW⟩:∃W,(w.alloc (.cells #[.slice a1 (dig 10000 n).length cap1] 243)).alloc (.cells #[.slice a2 (dig 10000 m).length cap2] 243)=W:=⟨_,rfl⟩
 have hWs:W.heap.size=w.heap.size+2:=by rw[←hW];simp
 have hWb:Below w.heap.size w W:=by rw[←hW];exact((Below.refl _ _).alloc (Nat.le_refl _) _).alloc (by simp) _
 have c1:W.cell? ⟨w.heap.size,0,none⟩=some (.slice a1 (dig 10000 n).length cap1):=by rw[←hW];simp[go_sem]
 have c2:W.cell? ⟨w.heap.size+1,0,none⟩=some (.slice a2 (dig 10000 m).length cap2):=by rw[←hW];simp[go_sem]
 have hf:=fun k hk l1 l2=>nM_ k w.heap.size (w.heap.size+1) _ n lo1 hi1 _ m lo2 hi2 W hk (by omega) (by omega) c1 c2 (H1.out.below hWb b1) (by omega) l1 (H2.out.below hWb b2) (by omega) l2
 have HW:=Lib.hid hW
 have HS:=Lib.hid hWs
 have HF:=Lib.hid hf
 clear hW hWs c1 c2 hf
 rcases Nat.lt_or_ge (dig 10000 n).length (dig 10000 m).length with hlt|hlt
 all_goals
  go_enter Tryz.func230,Tryz.ntmps230
  go_wp2_with (first
   | (go_at_call 242;rw[HW.out];refine(HF.out _ (by omega) (by omega) (by omega)).mono ?_;rintro e w1 ⟨⟨v,ds,rfl,hv,ht⟩,hb⟩;have HV:=Lib.hid hv;have HT:=Lib.hid ht;clear hv ht)
   | (go_at_call 233;refine(cH_ _ ds _ _ _ HV.out).mono ?_;rintro e w2 ⟨⟨v',rfl,hv'⟩,rfl⟩;have HV2:=Lib.hid hv';clear hv'))
  go_ret
  have hs:=HS.out
  have hv2:=HV2.out
  rw[HT.out] at hv2
  exact⟨⟨_,rfl,hv2.mono (by omega) (Nat.le_refl _)⟩,hWb.trans (hb.mono (by omega))⟩
theorem gQ_ (v1 v2:Value) (n m:Nat) (lo1 hi1 lo2 hi2:Nat) (w:World) (h1:Nm w v1 n lo1 hi1) (h2:Nm w v2 m lo2 hi2) (b1:hi1≤w.heap.size) (b2:hi2≤w.heap.size) (l1:Few n) (_l2:Few m) (hle:m≤n) :
  Calls Tryz.prog 231 #[v1,v2] w fun e w'=>(∃v,e=.returned v∧Nm w' v (n-m) w.heap.size w'.heap.size)∧Below w.heap.size w w':=by
 obtain⟨a1,cap1,rfl⟩:∃a cap,v1=.slice a (dig 10000 n).length cap:=by obtain⟨a,cap,e,_⟩:=h1;exact⟨a,cap,e⟩
 obtain⟨a2,cap2,rfl⟩:∃a cap,v2=.slice a (dig 10000 m).length cap:=by obtain⟨a,cap,e,_⟩:=h2;exact⟨a,cap,e⟩
 have H2:=Lib.hid h2
 clear h2
 have H1:=Lib.hid h1
 have hlen:=aR_ (B:=10000) (by omega) hle
 clear h1
 unfold Few at l1
 obtain⟨W,hW⟩:∃W,(w.alloc (.cells #[.slice a1 (dig 10000 n).length cap1] 243)).alloc (.cells #[.slice a2 (dig 10000 m).length cap2] 243)=W:=⟨_,rfl⟩
 have hWs:W.heap.size=w.heap.size+2:=by rw[←hW];simp
 have hWb:Below w.heap.size w W:=by rw[←hW];exact((Below.refl _ _).alloc (Nat.le_refl _) _).alloc (by simp) _
 have c1:W.cell? ⟨w.heap.size,0,none⟩=some (.slice a1 (dig 10000 n).length cap1):=by rw[←hW];simp[go_sem]
 have c2:W.cell? ⟨w.heap.size+1,0,none⟩=some (.slice a2 (dig 10000 m).length cap2):=by rw[←hW];simp[go_sem]
 have hf:=fun k hk l1 l2=>lV_ k w.heap.size (w.heap.size+1) _ n lo1 hi1 _ m lo2 hi2 W hk (by omega) (by omega) c1 c2 (H1.out.below hWb b1) (by omega) l1 (H2.out.below hWb b2) (by omega) l2 hle
 have HW:=Lib.hid hW
 have HS:=Lib.hid hWs
 have HF:=Lib.hid hf
 clear hW hWs c1 c2 hf
 go_enter Tryz.func231,Tryz.ntmps231
 go_wp2_with (first
  | (go_at_call 242;rw[HW.out];refine(HF.out _ (by omega) (by omega) (by omega)).mono ?_;rintro e w1 ⟨⟨v,ds,rfl,hv,ht⟩,hb⟩;have HV:=Lib.hid hv;have HT:=Lib.hid ht;clear hv ht)
  | (go_at_call 233;refine(cH_ _ ds _ _ _ HV.out).mono ?_;rintro e w2 ⟨⟨v',rfl,hv'⟩,rfl⟩;have HV2:=Lib.hid hv';clear hv'))
 all_goals
  go_ret
  have hs:=HS.out
  have hv2:=HV2.out
  rw[HT.out] at hv2
  exact⟨⟨_,rfl,hv2.mono (by omega) (Nat.le_refl _)⟩,hWb.trans (hb.mono (by omega))⟩
theorem aCL (v1:Value) (n d:Nat) (lo1 hi1:Nat) (w:World) (h1:Nm w v1 n lo1 hi1) (b1:hi1≤w.heap.size) (l1:Few n) (hd:d≤9999) :
  Calls Tryz.prog 234 #[v1,.int .i64 (d:Int)] w fun e w'=>(∃v,e=.returned v∧Nm w' v (n*d) w.heap.size w'.heap.size)∧Below w.heap.size w w':=by
 obtain⟨a1,cap1,rfl⟩:∃a cap,v1=.slice a (dig 10000 n).length cap:=by obtain⟨a,cap,e,_⟩:=h1;exact⟨a,cap,e⟩
 have H1:=Lib.hid h1
 clear h1
 unfold Few at l1
 obtain⟨W,hW⟩:∃W,(w.alloc (.cells #[.slice a1 (dig 10000 n).length cap1] 243)).alloc (.cells #[.int .i64 (d:Int)] 3)=W:=⟨_,rfl⟩
 have hWs:W.heap.size=w.heap.size+2:=by rw[←hW];simp
 have hWb:Below w.heap.size w W:=by rw[←hW];exact((Below.refl _ _).alloc (Nat.le_refl _) _).alloc (by simp) _
 have c1:W.cell? ⟨w.heap.size,0,none⟩=some (.slice a1 (dig 10000 n).length cap1):=by rw[←hW];simp[go_sem]
 have c2:W.cell? ⟨w.heap.size+1,0,none⟩=some (.int .i64 (d:Int)):=by rw[←hW];simp[go_sem]
 have hf:=fun k hk l1=>sY_ k w.heap.size (w.heap.size+1) _ n lo1 hi1 d W hk (by omega) (by omega) c1 c2 (H1.out.below hWb b1) (by omega) l1 hd
 have HW:=Lib.hid hW
 have HS:=Lib.hid hWs
 have HF:=Lib.hid hf
 clear hW hWs c1 c2 hf
 go_enter Tryz.func234,Tryz.ntmps234
 go_wp2_with (first
  | (go_at_call 242;rw[HW.out];refine(HF.out _ (by omega) (by omega)).mono ?_;rintro e w1 ⟨⟨v,ds,rfl,hv,ht⟩,hb⟩;have HV:=Lib.hid hv;have HT:=Lib.hid ht;clear hv ht)
  | (go_at_call 233;refine(cH_ _ ds _ _ _ HV.out).mono ?_;rintro e w2 ⟨⟨v',rfl,hv'⟩,rfl⟩;have HV2:=Lib.hid hv';clear hv'))
 all_goals
  go_ret
  have hs:=HS.out
  have hv2:=HV2.out
  rw[HT.out] at hv2
  exact⟨⟨_,rfl,hv2.mono (by omega) (Nat.le_refl _)⟩,hWb.trans (hb.mono (by omega))⟩
end Go.Proofs.YtdkaohphbgdkpaaGreatDoor
