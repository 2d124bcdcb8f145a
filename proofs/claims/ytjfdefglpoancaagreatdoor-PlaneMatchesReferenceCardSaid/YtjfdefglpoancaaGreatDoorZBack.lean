/- - -/
import Derived.RangeFuncNested
import Derived.RangeFuncBound
import Derived.RangeFuncCalls
import Derived.RangeFuncLeaves
import Derived.RangeFuncBox
import Derived.Shelf.Abstract
import Derived.Shelf.RegionOpen
import Derived.WalkKit
import Derived.OwnWalkIn
import Derived.TacticsInMore
import Derived.LoopNIn
import Derived.LoopIn
import Derived.Stop.RegionWithIn
import Derived.IntWalk
import Derived.Test.YtjfdefglpoancaaGreatDoorZNum
import Derived.Test.YtjfdefglpoancaaGreatDoorZAri
set_option maxHeartbeats 40000000
set_option maxRecDepth 1000000
open Go.Lib (hid)
namespace Go.Proofs.YtjfdefglpoancaaGreatDoor
open Go.RowKit Go.Shelf
attribute [local go_sem] Oper.semAt_some
abbrev BkEl (L:Nat):={ p:Nat×Nat // p.1<L∧p.2<10000 }
def yJ_ {L:Nat} (x:BkEl L):Array Value:=#[Value.int .i64 (x.1.1:Int),Value.int .i64 (x.1.2:Int)]
def bkUp (xs:List Nat) (k:Nat):List (Nat×Nat):=(List.range k).map fun j=>(xs.length-1-j,xs[xs.length-1-j]?.getD 0)
theorem gE_ (xs:List Nat) (k:Nat):bkUp xs (k+1)=bkUp xs k++[(xs.length-1-k,xs[xs.length-1-k]?.getD 0)]:=by simp[bkUp,List.range_succ]
theorem yI_ (xs:List Nat) (k:Nat):(bkUp xs k).length=k:=by simp[bkUp]
def aZ_ (n₀ Bs:Nat) (A B:World):Prop:=Below n₀ A B∧B.heap[Bs]?=A.heap[Bs]?
theorem aZ_.refl (n₀ Bs:Nat) (A:World):aZ_ n₀ Bs A A:=⟨Below.refl _ _,rfl⟩
theorem aZ_.trans {n₀ Bs:Nat} {A B C:World} (h:aZ_ n₀ Bs A B) (k:aZ_ n₀ Bs B C):aZ_ n₀ Bs A C:=⟨h.1.trans k.1,k.2.trans h.2⟩
theorem aZ_.of_below {n₀ Bs m:Nat} {A B:World} (h:Below m A B) (h1:n₀≤m) (h2:Bs<m):aZ_ n₀ Bs A B:=⟨h.mono h1,h.block Bs h2⟩
theorem aZ_.setCell {n₀ Bs:Nat} {A B:World} (h:aZ_ n₀ Bs A B) {p:Addr} (hp:n₀≤p.block) (hq:Bs≠p.block) (u:Value):aZ_ n₀ Bs A (B.setCell p u):=
 ⟨h.1.setCell hp u,(Below.heap_setCell _ _ _ _ hq).trans h.2⟩
theorem aZ_.cell {n₀ Bs:Nat} {A B:World} (h:aZ_ n₀ Bs A B) (o:Nat):B.cell? ⟨Bs,o,none⟩=A.cell? ⟨Bs,o,none⟩:=World.cell?_of_block (w:=A) h.2
theorem hV_ {n₀ Bs:Nat} {w:World} (hn:n₀≤w.heap.size) (hb:Bs<w.heap.size) (W:World) (l:Nat) (o o':Obj) (hl:w.heap.size≤l) (h:W.heap[l]?=some o) (h1:o.isCells=false) (h2:o.isWalk=false):aZ_ n₀ Bs W (W.putObj l o'):=
 ⟨belowK_b hn W l o o' hl h h1 h2,(grownBy_putObj' W l o').block Bs (by have:=(Array.getElem?_eq_some_iff.1 h).1;omega) (fun e=>by simp only[Option.some.injEq] at e;omega)⟩
theorem aLR (F:Fence) (n:Nat) (h8:F.fn 194) (hro:F.round=none) (hn:1≤n) (l Bs n₀ hi lo:Nat) (sv:Value) (xs:List Nat) (hb:hi≤n₀) (hd:∀d∈xs,d<10000) (J Jx:List (BkEl xs.length)→World→Prop)
  (hY:∀pre x W,J pre W→pre.length<xs.length→YieldAt F (n-1) Tryz.prog l (yJ_ x) W fun e W'=>
   (e=.returned (.bool true)∧J (pre++[x]) W'∧aZ_ n₀ Bs W W')∨(e=.returned (.bool false)∧Jx (pre++[x]) W'))
  (W:World) (hBs:W.cell? ⟨Bs,0,none⟩=some sv) (hI:Ns W sv xs lo hi) (h0:J [] W) :
  CallsIn F n Tryz.prog 194 #[.func (.yield l) #[] #[],.pointer (some ⟨Bs,0,none⟩)] W fun e W'=>(∃v,e=.returned v)∧
   ((∃ys,ys.map (·.1)=bkUp xs xs.length∧J ys W')∨(∃pre,(∃k,k≤xs.length∧pre.map (·.1)=bkUp xs k)∧Jx pre W')):=by
 obtain⟨a,cap,rfl⟩:∃a cap,sv=.slice a xs.length cap:=by obtain⟨a,cap,e,_⟩:=hI;exact⟨a,cap,e⟩
 have hlen:=hI.len
 unfold maxLen at hlen
 have HI:=hid hI
 clear hI
 refine callsIn_of_wp Tryz.func194 rfl h8 ?_ hro
 simp only[Tryz.ntmps194,List.size_toArray,List.length_cons,List.length_nil,Nat.reduceAdd,Nat.reduceSub,Array.replicate_succ,Array.replicate_zero,List.push_toArray,List.append_toArray,List.nil_append,List.cons_append]
 gi_wp2
 gi_loopw [3] (fun i wr=>∃(k:Nat) (ys:List (BkEl xs.length)),k≤xs.length∧i=.int .i64 ((xs.length:Int)-1-k)∧ys.map (·.1)=bkUp xs k∧J ys wr∧aZ_ n₀ Bs W wr)
  (fun i _=>(intOf i+1).toNat)
 case atStart=>exact⟨0,[],Nat.zero_le _,by go_num,rfl,h0,aZ_.refl _ _ _⟩
 case round=>
  obtain⟨k,ys,hk,rfl,hys,hJs,hnx⟩:=hrel
  have hylen:ys.length=k:=by have:=congrArg List.length hys;simpa[yI_] using this
  have HYS:=hid hys
  clear hys
  by_cases hlt:k<xs.length
  ·have hcB:=(hnx.cell 0).trans hBs
   have hIr:Ns wr _ xs lo hi:=HI.out.below hnx.1 hb
   obtain⟨i,hk2,hi2⟩:∃i,i<xs.length∧i=xs.length-1-k:=⟨_,by omega,rfl⟩
   have hi3:(xs.length:Int)-1-k=i:=by omega
   rw[hi3]
   have HI2:=hid hi2
   clear hi2 hi3
   obtain⟨b,off,rfl,_,_,hcx⟩:=hIr.at (k:=i) hk2
   have hx:xs[i]<10000:=hd _ (List.getElem_mem _)
   obtain⟨fn,tmps,assign,body,hy,hR⟩:=hY ys ⟨(i,xs[i]),hk2,hx⟩ wr hJs (by omega)
   simp only[yJ_] at hy
   clear hIr
   gi_wp2
   refine hR.mono ?_
   rintro e W3 (⟨rfl,hJ3,hk3⟩|⟨rfl,hJx3⟩)
   ·gi_wp2
    go_roundw
    case rel=>exact⟨k+1,_,by omega,congrArg (Value.int .i64) (by have:=HI2.out;omega),by rw[List.map_append,HYS.out,gE_];simp[HI2.out,show xs.length-1-k<xs.length from by omega],hJ3,hnx.trans hk3⟩
    case measure=>have:=HI2.out;simp only[intOf];omega
   ·gi_wp2
    refine bodyPost_ret (results_none rfl _ _ _) rfl ?_
    exact⟨⟨_,rfl⟩,.inr ⟨_,⟨k+1,by omega,by rw[List.map_append,HYS.out,gE_];simp[HI2.out,show xs.length-1-k<xs.length from by omega]⟩,hJx3⟩⟩
  ·obtain rfl:k=xs.length:=by omega
   gi_wp2
   go_end0
   exact⟨⟨_,rfl⟩,.inl ⟨ys,HYS.out,hJs⟩⟩
theorem uC_ (F:Fence) (n:Nat) (h6:F.fn 173) (hro:F.round=none) (a:Option Addr) (len cap:Nat) (w:World) :
  CallsIn F n Tryz.prog 173 #[.slice a len cap] w fun e w'=>e=.returned (.func (.func 194) #[] #[.pointer (some ⟨w.heap.size,0,none⟩)])∧w.alloc (.cells #[.slice a len cap] 149)=w':=by
 refine callsIn_of_wp Tryz.func173 rfl h6 ?_ hro
 simp only[Tryz.ntmps173,List.size_toArray,List.length_cons,List.length_nil,Nat.reduceAdd,Nat.reduceSub,Array.replicate_succ,Array.replicate_zero,List.push_toArray,List.append_toArray,List.nil_append,List.cons_append]
 gi_wp2
 go_ret
 exact⟨rfl,rfl⟩
theorem jB_ (F:Fence) (n:Nat) (h8:F.fn 194) (hro:F.round=none) (hn:1≤n) (Bs n₀ lo hi:Nat) (sv:Value) (xs:List Nat) (w:World) (hBs:Bs<w.heap.size) (hn₀:n₀≤w.heap.size)
  (hc:w.cell? ⟨Bs,0,none⟩=some sv) (hI:Ns w sv xs lo hi) (hb:hi≤n₀) (hd:∀d∈xs,d<10000) :
  SeqStopsK F n Tryz.prog 194 #[.pointer (some ⟨Bs,0,none⟩)] (yJ_ (L:=xs.length)) (aZ_ n₀ Bs) (fun ys=>ys.map (·.1)=bkUp xs xs.length)
   (fun pre=>∃k,k≤xs.length∧pre.map (·.1)=bkUp xs k) xs.length w:=fun l J Jx W hW _ _ hY h0=>
 aLR F n h8 hro hn l Bs n₀ hi lo sv xs hb hd J Jx hY W ((hW.cell (p:=⟨Bs,0,none⟩) hBs).trans hc) (hI.below hW (by omega)) h0
def cmpI (a b:Int):Int:=if a<b then -1 else if b<a then 1 else 0
theorem jM_ (a b:Int) (w:World) :
  Calls Tryz.prog 70 #[.int .i64 a,.int .i64 b] w fun e w'=>e=.returned (.int .i64 (cmpI a b))∧w=w':=by
 have h1:(a != a)=false:=by simp
 have h2:(b != b)=false:=by simp
 rcases Int.lt_trichotomy a b with h|h|h
 ·have hc:cmpI a b = -1:=by simp[cmpI,h]
  rw[hc]
  clear hc
  go_enter Tryz.func70,Tryz.ntmps70
  go_wp2
  go_ret
  exact⟨rfl,rfl⟩
 ·subst h
  have hc:cmpI a a=0:=by simp[cmpI]
  rw[hc]
  clear hc
  go_enter Tryz.func70,Tryz.ntmps70
  go_wp2
  go_ret
  exact⟨rfl,rfl⟩
 ·have hc:cmpI a b=1:=by simp[cmpI,h];omega
  have hn:¬a<b:=by omega
  rw[hc]
  clear hc
  go_enter Tryz.func70,Tryz.ntmps70
  go_wp2
  go_ret
  exact⟨rfl,rfl⟩
theorem rU_ {B n m:Nat} (hB:2≤B) (h:¬(dig B n).length=(dig B m).length):cmpI (dig B n).length (dig B m).length=cmpI n m:=by
 unfold cmpI
 rcases Nat.lt_or_gt_of_ne h with h1|h1
 ·have:n<m:=by
   rcases Nat.lt_or_ge n m with h2|h2
   ·exact h2
   ·have:=aG_ hB h2;omega
  rw[if_pos (by omega),if_pos (by omega)]
 ·have:m<n:=by
   rcases Nat.lt_or_ge m n with h2|h2
   ·exact h2
   ·have:=aG_ hB h2;omega
  rw[if_neg (by omega),if_pos (by omega),if_neg (by omega),if_pos (by omega)]
theorem aCY {B n m:Nat} (hB:2≤B) (hl:(dig B n).length=(dig B m).length) (ys:List (BkEl (dig B n).length)) (hys:ys.map (·.1)=bkUp (dig B n) (dig B n).length) (hp:∀p∈ys,(dig B m)[p.1.1]?.getD 0=p.1.2):n=m:=by
 refine tR_ hB (List.ext_getElem hl fun i h1 h2=>?_)
 have hm:(i,(dig B n)[i]?.getD 0)∈ys.map (·.1):=by
  rw[hys]
  simp only[bkUp,List.mem_map,List.mem_range]
  exact⟨(dig B n).length-1-i,by omega,by rw[show(dig B n).length-1-((dig B n).length-1-i)=i from by omega]⟩
 obtain⟨p,hp1,hp2⟩:=List.mem_map.1 hm
 have:=hp p hp1
 rw[hp2] at this
 simp only[List.getElem?_eq_getElem h1,List.getElem?_eq_getElem h2,Option.getD_some] at this
 exact this.symm
theorem sE_ {B:Nat} (hB:2≤B):∀(a b:List Nat) (x y:Nat),a.length=b.length→(∀d∈a,d<B)→(∀d∈b,d<B)→x<y→∀c,val B (a++x::c)<val B (b++y::c):=by
 intro a b x y hl ha hb hxy c
 rw[dK_,dK_,hl]
 have h1:=qL_ hB a ha
 rw[hl] at h1
 simp only[val]
 have h2:B^b.length*(x+B*val B c)+B^b.length≤B^b.length*(y+B*val B c):=by
  rw[←Nat.mul_succ]
  exact Nat.mul_le_mul_left _ (by omega)
 omega
theorem aCX {B n m:Nat} (hB:2≤B) (hl:(dig B n).length=(dig B m).length) (ini:List (BkEl (dig B n).length)) (last:BkEl (dig B n).length) (k:Nat) (hk:k≤(dig B n).length)
  (hys:(ini++[last]).map (·.1)=bkUp (dig B n) k) (hp:∀p∈ini,(dig B m)[p.1.1]?.getD 0=p.1.2) (hne:¬(dig B m)[last.1.1]?.getD 0=last.1.2) :
  cmpI (last.1.2:Nat) ((dig B m)[last.1.1]?.getD 0:Nat)=cmpI n m:=by
 obtain⟨j,rfl⟩:∃j,k=j+1:=by
  cases k with
  | zero=>simp[bkUp] at hys
  | succ j=>exact⟨j,rfl⟩
 rw[gE_,List.map_append] at hys
 obtain⟨h1,h2⟩:=List.append_inj' hys rfl
 simp only[List.map_cons,List.map_nil,List.cons.injEq,and_true] at h2
 obtain⟨i,hi⟩:∃i,i=(dig B n).length-1-j:=⟨_,rfl⟩
 rw[←hi] at h2
 have hin:i<(dig B n).length:=by omega
 have him:i<(dig B m).length:=by omega
 rw[h2] at hne⊢
 simp only[List.getElem?_eq_getElem hin,List.getElem?_eq_getElem him,Option.getD_some] at hne⊢
 have htail:(dig B n).drop (i+1)=(dig B m).drop (i+1):=by
  refine List.ext_getElem (by simp[hl]) fun r h3 h4=>?_
  simp only[List.length_drop] at h3 h4
  have hm:(i+1+r,(dig B n)[i+1+r]?.getD 0)∈ini.map (·.1):=by
   rw[h1]
   simp only[bkUp,List.mem_map,List.mem_range]
   exact⟨(dig B n).length-1-(i+1+r),by omega,by rw[show(dig B n).length-1-((dig B n).length-1-(i+1+r))=i+1+r from by omega]⟩
  obtain⟨p,hp1,hp2⟩:=List.mem_map.1 hm
  have:=hp p hp1
  rw[hp2] at this
  simp only[List.getElem?_eq_getElem (show i+1+r<(dig B n).length from by omega),List.getElem?_eq_getElem (show i+1+r<(dig B m).length from by omega),Option.getD_some] at this
  simp only[List.getElem_drop]
  exact this.symm
 have en:dig B n=(dig B n).take i++(dig B n)[i]::(dig B n).drop (i+1):=by rw[List.getElem_cons_drop,List.take_append_drop]
 have em:dig B m=(dig B m).take i++(dig B m)[i]::(dig B n).drop (i+1):=by rw[htail,List.getElem_cons_drop,List.take_append_drop]
 have vn:=bK_ hB n
 have vm:=bK_ hB m
 have hlen:((dig B n).take i).length=((dig B m).take i).length:=by simp;omega
 have dn:∀d∈(dig B n).take i,d<B:=fun d hd=>bX_ hB n d (List.mem_of_mem_take hd)
 have dm:∀d∈(dig B m).take i,d<B:=fun d hd=>bX_ hB m d (List.mem_of_mem_take hd)
 rcases Nat.lt_or_gt_of_ne (fun h=>hne h.symm:(dig B n)[i]≠(dig B m)[i]) with h5|h5
 ·have h6:=sE_ hB _ _ _ _ hlen dn dm h5 ((dig B n).drop (i+1))
  rw[←en,←em,vn,vm] at h6
  unfold cmpI
  rw[if_pos (by omega),if_pos (by omega)]
 ·have h6:=sE_ hB _ _ _ _ hlen.symm dm dn h5 ((dig B n).drop (i+1))
  rw[←en,←em,vn,vm] at h6
  unfold cmpI
  rw[if_neg (by omega),if_pos (by omega),if_neg (by omega),if_pos (by omega)]
theorem Sl.own {W W':World} {row:Option Nat} {v:Value} {n sz:Nat} {cs:List Value} {lo hi:Nat} (h:Sl W v n sz cs lo hi) (hg:W.grownBy W' row) (hr:∀r,row=some r→∃o:Obj,W.heap[r]?=some o∧o.isCells=false):Sl W' v n sz cs lo hi:=by
 obtain⟨a,cap,hv,h3,h4,h5,h6,h7⟩:=h
 refine⟨a,cap,hv,h3,h4,h5,h6,fun ad ha=>?_⟩
 obtain⟨b,off,e,l1,l2,l3⟩:=h7 ad ha
 exact⟨b,off,e,l1,l2,fun i u hu=>cell_kept (l3 i u hu) hg hr⟩
theorem gW_ (v1 v2:Value) (n m:Nat) (lo1 hi1 lo2 hi2:Nat) (w:World) (h1:Nm w v1 n lo1 hi1) (h2:Nm w v2 m lo2 hi2) (b1:hi1≤w.heap.size) (b2:hi2≤w.heap.size) :
  Calls Tryz.prog 161 #[v1,v2] w fun e w'=>e=.returned (.int .i64 (cmpI n m))∧Below w.heap.size w w':=by
 obtain⟨a1,cap1,rfl⟩:∃a cap,v1=.slice a (dig 10000 n).length cap:=by obtain⟨a,cap,e,_⟩:=h1;exact⟨a,cap,e⟩
 obtain⟨a2,cap2,rfl⟩:∃a cap,v2=.slice a (dig 10000 m).length cap:=by obtain⟨a,cap,e,_⟩:=h2;exact⟨a,cap,e⟩
 have g1:=h1.len
 have g2:=h2.len
 unfold maxLen at g1 g2
 have H1:=hid h1
 have H2:=hid h2
 clear h1 h2
 by_cases hl:(dig 10000 n).length=(dig 10000 m).length
 ·have hlb:(((dig 10000 n).length:Int) != ((dig 10000 m).length:Int))=false:=by rw[bne_eq_false_iff_eq];omega
  have HL:=hid hl
  clear hl
  refine(callsIn_wide (n:=3)).1 ?_
  refine callsIn_of_wp_marks Tryz.func161 rfl trivial ?_ rfl
  simp only[Tryz.ntmps161,List.size_toArray,List.length_cons,List.length_nil,Nat.reduceAdd,Nat.reduceSub,Array.replicate_succ,Array.replicate_zero,List.push_toArray,List.append_toArray,List.nil_append,List.cons_append]
  gi_wp2_with (refine⟨trivial,?_⟩;gi_at_call 173;refine(uC_ Fence.wide _ trivial rfl _ _ _ _).mono ?_;rintro e w' ⟨rfl,rfl⟩)
  have bM:=Boxed.new w 149 (.slice a2 (dig 10000 m).length cap2)
  have bR:=Boxed.new (w.alloc (.cells #[.slice a2 (dig 10000 m).length cap2] 149)) 3 (.int .i64 0)
  rw[World.size_alloc] at bR
  obtain⟨W0,hW0⟩:∃W0,(w.alloc (.cells #[.slice a2 (dig 10000 m).length cap2] 149)).alloc (.cells #[.int .i64 0] 3)=W0:=⟨_,rfl⟩
  have hs0:W0.heap.size=w.heap.size+1+1:=by rw[←hW0];simp
  have hB0:Below w.heap.size w W0:=by rw[←hW0];exact((Below.refl _ _).alloc (Nat.le_refl _) _).alloc (by simp) _
  have bM0:Boxed W0 w.heap.size 149 (.slice a2 (dig 10000 m).length cap2):=by rw[←hW0];exact bM.alloc _
  have bR0:Boxed W0 (w.heap.size+1) 3 (.int .i64 0):=by rw[←hW0];exact bR
  have bN:=Boxed.new W0 149 (.slice a1 (dig 10000 n).length cap1)
  rw[hs0] at bN
  rw[hW0]
  clear hW0 bM bR
  have hl1:=H1.out
  have hl2:=H2.out
  have hB1:Below W0.heap.size W0 (W0.alloc (.cells #[.slice a1 (dig 10000 n).length cap1] 149)):=(Below.refl _ _).alloc (Nat.le_refl _) _
  refine wpIn_rangeFunc_ownG rfl (by omega) (gf:=194) (lb:=#[.pointer (some ⟨w.heap.size+1+1,0,none⟩)]) rfl trivial (enters_of Tryz.func194 (by kernel_rfl) rfl)
   (jB_ Fence.wide _ trivial rfl (by omega) (w.heap.size+1+1) w.heap.size lo1 hi1 _ (dig 10000 n) (W0.alloc (.cells #[.slice a1 (dig 10000 n).length cap1] 149)) (by simp;omega) (by simp;omega) bN.cell ((hl1.below hB0 b1).below hB1 (by omega)) b1 (bX_ (by omega) n))
   aZ_.trans (hV_ (by simp;omega) (by simp;omega)) (Below.refl _ _) (fun _=>rfl)
   (fun pre W=>((∀p∈pre,(dig 10000 m)[p.1.1]?.getD 0=p.1.2)∧W.cell? ⟨w.heap.size,0,none⟩=some (.slice a2 (dig 10000 m).length cap2)∧Nm W (.slice a2 (dig 10000 m).length cap2) m lo2 hi2∧W.cell? ⟨w.heap.size+1,0,none⟩=some (.int .i64 0)∧W.frozen? ⟨w.heap.size+1,0,none⟩=false)∧Below w.heap.size w W)
   (fun c pre W=>(c=.ret∧∃ini last,pre=ini++[last]∧(∀p∈ini,(dig 10000 m)[p.1.1]?.getD 0=p.1.2)∧¬(dig 10000 m)[last.1.1]?.getD 0=last.1.2∧W.cell? ⟨w.heap.size+1,0,none⟩=some (.int .i64 (cmpI (last.1.2:Nat) ((dig 10000 m)[last.1.1]?.getD 0:Nat))))∧Below w.heap.size w W)
   ?I ?Ix ?h0
   (fun x=>{ tmps:=#[.slice a1 (dig 10000 n).length cap1,.slice a2 (dig 10000 m).length cap2,undef,.pointer (some ⟨w.heap.size,0,none⟩),.pointer (some ⟨w.heap.size+1,0,none⟩),.int .i64 (x.1.1:Int),.int .i64 (x.1.2:Int),.slice a1 (dig 10000 n).length cap1,.int .i64 (dig 10000 n).length,.slice a2 (dig 10000 m).length cap2,.int .i64 (dig 10000 m).length,.bool false,undef,undef,undef,undef,undef,.slice a1 (dig 10000 n).length cap1,.func (.func 194) #[] #[.pointer (some ⟨w.heap.size+1+1,0,none⟩)],.int .i64 (x.1.1:Int),.int .i64 (x.1.2:Int),undef,undef,undef,undef,undef,undef,undef,undef,undef,undef,undef,undef],defers:=[] }) ?assign ?body ?done ?stop
  case I=>exact OwnFrom.and (Own.from (fun s A B row hs hg hr=>⟨hs.1,cell_kept hs.2.1 hg hr,hs.2.2.1.own hg hr,cell_kept hs.2.2.2.1 hg hr,(frozen_kept hs.2.2.2.1 hg hr).trans hs.2.2.2.2⟩) _) (ownFrom_below (Nat.le_refl _) (by simp;omega))
  case Ix=>exact fun c=>OwnFrom.and (Own.from (fun s A B row hs hg hr=>by obtain⟨hc,ini,last,e1,e2,e3,e4⟩:=hs;exact⟨hc,ini,last,e1,e2,e3,cell_kept e4 hg hr⟩) _) (ownFrom_below (Nat.le_refl _) (by simp;omega))
  case h0=>exact⟨⟨by simp,(bM0.alloc _).cell,(hl2.below hB0 b2).below hB1 (by omega),(bR0.alloc _).cell,(bR0.alloc _).frozen⟩,hB0.trans (hB1.mono (by omega))⟩
  case assign=>
   intro l x W K hK
   simp only[yJ_]
   gi_wp2
   exact hK
  case body=>
   rintro l pre x W ⟨⟨hp,hcM,hNm,hcR,hfR⟩,hB⟩ _
   obtain⟨⟨i,d⟩,hi,hd⟩:=x
   simp only at hi hd⊢
   have hi2:i<(dig 10000 m).length:=by rw[←HL.out];exact hi
   obtain⟨b,off,rfl,hlo,hhi,hcx⟩:=hNm.at (k:=i) hi2
   have HN:=hid hNm
   have HP:=hid hp
   have hge:(dig 10000 m)[i]?.getD 0=(dig 10000 m)[i]:=by rw[List.getElem?_eq_getElem hi2];rfl
   have HG:=hid hge
   clear hNm hp hge
   by_cases he:d=(dig 10000 m)[i]
   ·have hne:((d:Int) != ((dig 10000 m)[i]:Int))=false:=by rw[bne_eq_false_iff_eq];omega
    have HE:=hid he
    clear he
    gi_wp2
    exact⟨KeepsFrom.refl _ _,aZ_.refl _ _ _,⟨fun p hp'=>(List.mem_append.1 hp').elim (HP.out p) (fun e=>by simp at e;subst e;simp only;rw[HG.out,HE.out]),hcM,HN.out,hcR,hfR⟩,hB⟩
   ·have hne:((d:Int) != ((dig 10000 m)[i]:Int))=true:=by rw[bne_iff_ne];omega
    gi_wp2_with (refine⟨trivial,?_⟩;gi_at_call 70;refine(CallsIn.inRound l (callsIn_wide.2 (jM_ _ _ _))).mono ?_;rintro e w' ⟨rfl,rfl⟩)
    exact⟨(KeepsOthers.setCell _ _ _).from _,⟨rfl,pre,⟨(i,d),hi,hd⟩,rfl,HP.out,by simp only;rw[HG.out];exact fun h=>he h.symm,by simp only;rw[HG.out];exact World.cell?_setCell_same' _ _ _ (by rw[hcR];rfl)⟩,hB.setCell (p:=⟨w.heap.size+1,0,none⟩) (by simp) _⟩
  case done=>
   rintro D ys W hD hys ⟨⟨hp,_,_,hcR,hfR⟩,hB⟩ hK
   have hK':=(KeepsOthers.setCell W ⟨w.heap.size+1,0,none⟩ (.int .i64 0)).same D _ hK rfl
   have hcz:cmpI n m=0:=by
    have:n=m:=aCY (by omega) HL.out ys hys hp
    rw[this];simp[cmpI]
   have HCZ:=hid hcz
   clear hcz hys hp
   gi_wp2
   refine⟨by simp,.inl ⟨_,_,rfl,run_takeDeferred hK',?_⟩⟩
   have hc5:=cell_kept (World.cell?_setCell_same' W ⟨w.heap.size+1,0,none⟩ (.int .i64 0) (by rw[hcR];rfl)) (grownBy_putObj' _ D (.deferred none)) (fun r e=>by cases e;exact⟨_,hK',rfl⟩)
   refine⟨.int .i64 0,?_,by rw[HCZ.out],(hB.setCell (p:=⟨w.heap.size+1,0,none⟩) (by simp) _).trans (belowK_b (w:=w) (Nat.le_refl _) _ D _ _ (by simp at hD;omega) hK' rfl rfl)⟩
   simp[results,Tryz.f161,go_sem,hc5]
  case stop=>
   rintro D c pre W hD ⟨k,hk,hpre⟩ ⟨⟨rfl,ini,last,e1,e2,e3,hcr⟩,hB⟩ hK
   have hcz:cmpI (last.1.2:Nat) ((dig 10000 m)[last.1.1]?.getD 0:Nat)=cmpI n m:=aCX (by omega) HL.out ini last k hk (by rw[←e1];exact hpre) e2 e3
   rw[hcz] at hcr
   clear hcz hpre e1 e2 e3
   gi_wp2
   refine⟨by simp,.inl ⟨_,_,rfl,run_takeDeferred hK,?_⟩⟩
   have hc5:=cell_kept hcr (grownBy_putObj' _ D (.deferred none)) (fun r e=>by cases e;exact⟨_,hK,rfl⟩)
   refine⟨.int .i64 (cmpI n m),?_,rfl,hB.trans (belowK_b (w:=w) (Nat.le_refl _) W D _ _ (by simp at hD;omega) hK rfl rfl)⟩
   simp[results,Tryz.f161,go_sem,hc5]
 ·have hlb:(((dig 10000 n).length:Int) != ((dig 10000 m).length:Int))=true:=by rw[bne_iff_ne];omega
  go_enter Tryz.func161,Tryz.ntmps161
  go_wp2_with (go_at_call 70;refine(jM_ _ _ _).mono ?_;rintro e w' ⟨rfl,rfl⟩)
  rw[rU_ (by omega) hl]
  exact bodyPost_ret (v:=.int .i64 (cmpI n m)) (by simp[results,Tryz.results161,go_sem]) rfl ⟨rfl,((Below.refl _ _).alloc (Nat.le_refl _) _).alloc (by simp) _⟩
def fM_ (n:Nat) (l:List (Nat×Nat)):Nat:=l.foldl (fun a p=>a*10000+n*p.2) 0
theorem jS_ (n:Nat) (l:List (Nat×Nat)) (p:Nat×Nat):fM_ n (l++[p])=fM_ n l*10000+n*p.2:=by simp[fM_]
theorem aEQ (n:Nat) (l:List (Nat×Nat)) (h:∀p∈l,p.2<10000):fM_ n l≤n*(10000^l.length-1):=by
 obtain⟨r,hr⟩:∃r,r=l.reverse:=⟨_,rfl⟩
 obtain rfl:l=r.reverse:=by rw[hr];simp
 clear hr
 induction r with
 | nil=>simp[fM_]
 | cons p r ih=>
  have h1:=ih (fun q hq=>h q (by simp at hq⊢;exact .inl hq))
  have h2:p.2<10000:=h p (by simp)
  simp only[List.reverse_cons,jS_,List.length_append,List.length_cons,List.length_nil,Nat.zero_add] at h1⊢
  have hp:0<10000^r.reverse.length:=Nat.pow_pos (by omega)
  rw[Nat.pow_succ]
  obtain⟨q,hq⟩:∃q,10000^r.reverse.length=q+1:=⟨_,(Nat.succ_pred_eq_of_pos hp).symm⟩
  rw[hq] at h1⊢
  simp only[Nat.add_sub_cancel] at h1
  have h3:n*((q+1)*10000-1)=n*q*10000+n*9999:=by
   rw[show(q+1)*10000-1=q*10000+9999 from by omega,Nat.mul_add,Nat.mul_assoc]
  have h4:n*p.2≤n*9999:=Nat.mul_le_mul_left n (by omega)
  rw[h3]
  omega
theorem qW_ {n k:Nat} {l:List (Nat×Nat)} (h:∀p∈l,p.2<10000) (hk:(dig 10000 n).length+l.length≤k):(dig 10000 (fM_ n l)).length≤k:=by
 rw[aD_ (by omega)]
 have h1:=aEQ n l h
 have h2:n<10000^(dig 10000 n).length:=(aD_ (by omega) n _).1 (Nat.le_refl _)
 have hp:0<10000^l.length:=Nat.pow_pos (by omega)
 have h3:n*(10000^l.length-1)≤n*10000^l.length:=Nat.mul_le_mul_left _ (by omega)
 have h4:n*10000^l.length<10000^(dig 10000 n).length*10000^l.length:=Nat.mul_lt_mul_of_pos_right h2 hp
 rw[←Nat.pow_add] at h4
 have h5:10000^((dig 10000 n).length+l.length)≤10000^k:=Nat.pow_le_pow_right (by omega) hk
 omega
theorem wM_ (xs:List Nat) (k:Nat) (hk:k<xs.length):val 10000 (xs.drop (xs.length-(k+1)))=xs[xs.length-1-k]?.getD 0+10000*val 10000 (xs.drop (xs.length-k)):=by
 have h:xs.length-(k+1)<xs.length:=by omega
 rw[List.drop_eq_getElem_cons h,show xs.length-(k+1)+1=xs.length-k from by omega]
 simp only[val]
 rw[show xs.length-1-k=xs.length-(k+1) from by omega,List.getElem?_eq_getElem h]
 rfl
theorem aER (n:Nat) (xs:List Nat) (k:Nat) (hk:k≤xs.length):fM_ n (bkUp xs k)=n*val 10000 (xs.drop (xs.length-k)):=by
 induction k with
 | zero=>simp[bkUp,fM_,val]
 | succ k ih=>
  rw[gE_,jS_,ih (by omega),wM_ xs k (by omega),Nat.mul_add,Nat.add_comm]
  congr 1
  rw[Nat.mul_assoc,Nat.mul_comm (val 10000 _) 10000]
theorem aR_ {W W':World} (h:Below W.heap.size W W'):KeepsOthers W W':=⟨h.size,fun k _ hk _=>(h.block k (Array.getElem?_eq_some_iff.1 hk).1).trans hk⟩
theorem nZ_ {N B n A d lo1 hi1 hO:Nat} {w W Wb w2 w3:World} {v1 vO:Value} {a:Option Addr} {L c:Nat} (hN:N=w.heap.size) (hko:KeepsOthers W Wb) (hkb:aZ_ N (N+1+1) W Wb) (hBw:Below N w Wb) (hs:N+3≤Wb.heap.size)
  (hcL:Wb.cell? ⟨N,0,none⟩=some v1) (hNl:Nm Wb v1 n lo1 hi1) (b1:hi1≤N) (hcO3:w3.cell? ⟨N+1,0,none⟩=some vO) (hfO:Wb.frozen? ⟨N+1,0,none⟩=false) (hB2:Below Wb.heap.size Wb w2) (hb3:Below w2.heap.size w2 w3)
  (hv:Nm w3 (.slice a L c) (A+n*d) w2.heap.size hO) (hh:hO≤w3.heap.size) :
  KeepsFrom B W (w3.setCell ⟨N+1,0,none⟩ (.slice a L c))∧aZ_ N (N+1+1) W (w3.setCell ⟨N+1,0,none⟩ (.slice a L c))∧
  ((w3.setCell ⟨N+1,0,none⟩ (.slice a L c)).cell? ⟨N,0,none⟩=some v1∧Nm (w3.setCell ⟨N+1,0,none⟩ (.slice a L c)) v1 n lo1 hi1∧(w3.setCell ⟨N+1,0,none⟩ (.slice a L c)).frozen? ⟨N+1,0,none⟩=false∧N+3≤(w3.setCell ⟨N+1,0,none⟩ (.slice a L c)).heap.size∧
    ∃v,(w3.setCell ⟨N+1,0,none⟩ (.slice a L c)).cell? ⟨N+1,0,none⟩=some v∧∃h,Nm (w3.setCell ⟨N+1,0,none⟩ (.slice a L c)) v (A+n*d) (N+2) h∧h≤(w3.setCell ⟨N+1,0,none⟩ (.slice a L c)).heap.size)∧Below N w (w3.setCell ⟨N+1,0,none⟩ (.slice a L c)):=by
 have hsz2:=hB2.size
 have hsz3:=hb3.size
 have hB3:Below Wb.heap.size Wb w3:=hB2.trans (hb3.mono hsz2)
 have hX:bM_ 0 (N+1) w3 (w3.setCell ⟨N+1,0,none⟩ (.slice a L c)):=(bM_.refl 0 (N+1) w3).setCell (p:=⟨N+1,0,none⟩) (.inr (Nat.le_refl _)) _
 have hX2:bM_ (N+2) w3.heap.size w3 (w3.setCell ⟨N+1,0,none⟩ (.slice a L c)):=(bM_.refl (N+2) w3.heap.size w3).setCell (p:=⟨N+1,0,none⟩) (.inl (Nat.lt_succ_self _)) _
 have hsX:(w3.setCell ⟨N+1,0,none⟩ (.slice a L c)).heap.size=w3.heap.size:=by simp[World.setCell]
 refine⟨((hko.trans (aR_ hB3)).trans (KeepsOthers.setCell _ _ _)).from _,(hkb.trans (aZ_.of_below hB3 (by omega) (by omega))).setCell (by simp) (by simp) _,⟨?_,?_,?_,by rw[hsX];omega,?_⟩,?_⟩
 ·rw[World.cell?_of_block (w:=w3) (a:=⟨N,0,none⟩) (hX N (Nat.zero_le _) (by omega))]
  exact(hB3.cell (p:=⟨N,0,none⟩) (show N<Wb.heap.size by omega)).trans hcL
 ·exact(hNl.below hB3 (by omega)).keep (fun k h1 h2=>hX k (Nat.zero_le _) (by omega))
 ·rw[World.frozen?_setCell]
  exact(hB3.frozen (p:=⟨N+1,0,none⟩) (show N+1<Wb.heap.size by omega)).trans hfO
 ·refine⟨.slice a L c,World.cell?_setCell_same' _ _ _ (by rw[hcO3];rfl),hO,?_,by rw[hsX];exact hh⟩
  exact(hv.mono (lo':=N+2) (by omega) (Nat.le_refl _)).keep (fun k h1 h2=>hX2 k h1 (by omega))
 ·exact(hBw.trans (hB3.mono (by omega))).setCell (by simp) _
theorem aDV (v1 v2:Value) (n m:Nat) (lo1 hi1 lo2 hi2:Nat) (w:World) (h1:Nm w v1 n lo1 hi1) (h2:Nm w v2 m lo2 hi2) (b1:hi1≤w.heap.size) (b2:hi2≤w.heap.size) (hf:(dig 10000 n).length+(dig 10000 m).length≤1000000) :
  Calls Tryz.prog 192 #[v1,v2] w fun e w'=>(∃v,e=.returned v∧Nm w' v (n*m) w.heap.size w'.heap.size)∧Below w.heap.size w w':=by
 obtain⟨i0,hi,hz0,hz1,hz2⟩:=info_parts fF_
 obtain⟨a1,cap1,rfl⟩:∃a cap,v1=.slice a (dig 10000 n).length cap:=by obtain⟨a,cap,e,_⟩:=h1;exact⟨a,cap,e⟩
 obtain⟨a2,cap2,rfl⟩:∃a cap,v2=.slice a (dig 10000 m).length cap:=by obtain⟨a,cap,e,_⟩:=h2;exact⟨a,cap,e⟩
 have H1:=hid h1
 have H2:=hid h2
 clear h1 h2
 refine(callsIn_wide (n:=3)).1 ?_
 refine callsIn_of_wp_marks Tryz.func192 rfl trivial ?_ rfl
 simp only[Tryz.ntmps192,List.size_toArray,List.length_cons,List.length_nil,Nat.reduceAdd,Nat.reduceSub,Array.replicate_succ,Array.replicate_zero,List.push_toArray,List.append_toArray,List.nil_append,List.cons_append]
 gi_wp2_with (refine⟨trivial,?_⟩;gi_at_call 173;refine(uC_ Fence.wide _ trivial rfl _ _ _ _).mono ?_;rintro e w' ⟨rfl,rfl⟩)
 obtain⟨W0,hW0⟩:∃W0,(w.alloc (.cells #[.slice a1 (dig 10000 n).length cap1] 149)).alloc (.cells #[.slice none 0 0] 149)=W0:=⟨_,rfl⟩
 have hs0:W0.heap.size=w.heap.size+1+1:=by rw[←hW0];simp
 have hB0:Below w.heap.size w W0:=by rw[←hW0];exact((Below.refl _ _).alloc (Nat.le_refl _) _).alloc (by simp) _
 have bL:Boxed W0 w.heap.size 149 (.slice a1 (dig 10000 n).length cap1):=by rw[←hW0];exact(Boxed.new w 149 _).alloc _
 have bO:Boxed W0 (w.heap.size+1) 149 (.slice none 0 0):=by
  rw[←hW0]
  have:=Boxed.new (w.alloc (.cells #[.slice a1 (dig 10000 n).length cap1] 149)) 149 (.slice none 0 0)
  rwa[World.size_alloc] at this
 have bN:=Boxed.new W0 149 (.slice a2 (dig 10000 m).length cap2)
 rw[hs0] at bN
 rw[hW0]
 clear hW0
 have hB1:Below W0.heap.size W0 (W0.alloc (.cells #[.slice a2 (dig 10000 m).length cap2] 149)):=(Below.refl _ _).alloc (Nat.le_refl _) _
 refine wpIn_rangeFunc_ownG rfl (by omega) (gf:=194) (lb:=#[.pointer (some ⟨w.heap.size+1+1,0,none⟩)]) rfl trivial (enters_of Tryz.func194 (by kernel_rfl) rfl)
  (jB_ Fence.wide _ trivial rfl (by omega) (w.heap.size+1+1) w.heap.size lo2 hi2 _ (dig 10000 m) (W0.alloc (.cells #[.slice a2 (dig 10000 m).length cap2] 149)) (by simp;omega) (by simp;omega) bN.cell ((H2.out.below hB0 b2).below hB1 (by omega)) b2 (bX_ (by omega) m))
  aZ_.trans (hV_ (by simp;omega) (by simp;omega)) (Below.refl _ _) (fun _=>rfl)
  (fun pre W=>(W.cell? ⟨w.heap.size,0,none⟩=some (.slice a1 (dig 10000 n).length cap1)∧Nm W (.slice a1 (dig 10000 n).length cap1) n lo1 hi1∧W.frozen? ⟨w.heap.size+1,0,none⟩=false∧w.heap.size+3≤W.heap.size∧
   ∃v,W.cell? ⟨w.heap.size+1,0,none⟩=some v∧∃h,Nm W v (fM_ n (pre.map (·.1))) (w.heap.size+2) h∧h≤W.heap.size)∧Below w.heap.size w W)
  (fun _ _ _=>False)
  ?I (fun _ _ _ _ _ hs _ _=>hs) ?h0
  (fun x=>{ tmps:=#[.slice a1 (dig 10000 n).length cap1,.slice a2 (dig 10000 m).length cap2,.pointer (some ⟨w.heap.size,0,none⟩),undef,.slice none 0 0,.pointer (some ⟨w.heap.size+1,0,none⟩),undef,.int .i64 (x.1.2:Int),.slice a2 (dig 10000 m).length cap2,.func (.func 194) #[] #[.pointer (some ⟨w.heap.size+1+1,0,none⟩)],.int .i64 (x.1.1:Int),.int .i64 (x.1.2:Int),undef,undef,undef,undef,undef,undef,undef,undef,undef,undef,undef,undef],defers:=[] }) ?assign ?body ?done ?stop
 case I=>
  refine OwnFrom.and (Own.from (fun s A B row hs hg hr=>?_) _) (ownFrom_below (Nat.le_refl _) (by simp;omega))
  obtain⟨e1,e2,e3,e7,v,e4,h,e5,e6⟩:=hs
  exact⟨cell_kept e1 hg hr,e2.own hg hr,(frozen_kept e4 hg hr).trans e3,Nat.le_trans e7 hg.size,v,cell_kept e4 hg hr,h,e5.own hg hr,Nat.le_trans e6 hg.size⟩
 case h0=>
  exact⟨⟨(bL.alloc _).cell,(H1.out.below hB0 b1).below hB1 (by omega),(bO.alloc _).frozen,by simp;omega,_,(bO.alloc _).cell,w.heap.size+2,Sl.nil _ _ _ _,by simp;omega⟩,hB0.trans (hB1.mono (by omega))⟩
 case assign=>
  intro l x W K hK
  simp only[yJ_]
  gi_wp2
  exact hK
 case body=>
  rintro l pre x W ⟨⟨hcL,hNl,hfO,hs3,vO,hcO,h,hNo,hh⟩,hB⟩ hlen
  have hsz:=hB.size
  obtain⟨A,hA⟩:∃A,A=fM_ n (pre.map (·.1)):=⟨_,rfl⟩
  have hfew:(dig 10000 A).length≤(dig 10000 n).length+pre.length:=by
   rw[hA]
   exact qW_ (fun p hp=>by obtain⟨q,_,rfl⟩:=List.mem_map.1 hp;exact q.2.2) (by simp)
  have hnext:fM_ n ((pre++[x]).map (·.1))=A*10000+n*x.1.2:=by rw[List.map_append,hA];exact jS_ _ _ _
  rw[←hA] at hNo
  have HX:=hid hnext
  clear hA hnext
  obtain⟨⟨i,d⟩,hxi,hxd⟩:=x
  simp only at hxi hxd HX⊢
  obtain⟨a,L,c,rfl,hL⟩:∃a L c,vO=.slice a L c∧L=(dig 10000 A).length:=by obtain⟨a,c,e,_⟩:=hNo;exact⟨a,_,c,e,rfl⟩
  have HNL:=hid hNl
  have HNO:=hid hNo
  have hmx:Tryz.prog.follows .mixedOrders=true:=by kernel_rfl
  have HF2:Hid (Few (n*d)):=by
   have:=qW_ (n:=n) (k:=1000000) (l:=[(0,d)]) (by intro p hp;simp at hp;rw[hp];exact hxd) (by simp;omega)
   have e:fM_ n [(0,d)]=n*d:=by simp[fM_]
   rw[e] at this
   exact this
  clear hNl hNo
  by_cases hA0:A=0
  ·obtain rfl:L=0:=by rw[hL,hA0];rfl
   clear hL
   have HA:=hid hA0
   have HF1:Hid (Few A):=by show _≤_;rw[hA0];decide
   clear hA0 hfew
   gi_wp2
   gi_region_with_o (first
    | (refine⟨trivial,?_⟩;gi_at_call 181;refine(CallsIn.inRound l (callsIn_wide.2 (aAW _ n d lo1 hi1 _ (by exact HNL.out.keep (fun _ _ _=>rfl)) (by exact Nat.le_trans b1 hsz) (by unfold Few;omega) (by omega)))).mono ?_;rintro e w2 ⟨⟨vB,rfl,hvB⟩,hb2⟩;have HVB:=hid hvB;clear hvB;have hB2:Below W.heap.size W w2:=(by first | exact hb2 | exact((Below.refl _ W).drew).trans hb2);clear hb2;have hcO2:=cell_later hB2 hcO;have hfO2:=(hB2.frozen (p:=⟨w.heap.size+1,0,none⟩) (World.block_lt_of_cell? W _ hcO)).trans hfO)
    | (refine⟨trivial,?_⟩;gi_at_call 158;refine(CallsIn.inRound l (callsIn_wide.2 (mY_ _ _ A (n*d) _ _ _ _ _ (by exact HNO.out.below hB2 hh) (by exact HVB.out) (by exact Nat.le_trans hh hB2.size) (by exact Nat.le_refl _) (by exact HF1.out) (by exact HF2.out)))).mono ?_;rintro e w3 ⟨⟨vP,rfl,hvP⟩,hb3⟩;obtain⟨aP,LP,cP,rfl⟩:∃a L c,vP=.slice a L c:=(by obtain⟨a,c,e,_⟩:=hvP;exact⟨_,_,_,e⟩);have HVP:=hid hvP;clear hvP;have hcO3:=cell_later hb3 hcO2;have hfO3:=(hb3.frozen (p:=⟨w.heap.size+1,0,none⟩) (World.block_lt_of_cell? w2 _ hcO2)).trans hfO2))
   all_goals
    gi_wp2
    have hcl:=nZ_ (B:=(W0.alloc (.cells #[.slice a2 (dig 10000 m).length cap2] 149)).heap.size) rfl (KeepsOthers.refl W) (aZ_.refl _ _ W) hB hs3 hcL HNL.out b1 hcO3 hfO hB2 hb3 HVP.out (Nat.le_refl _)
    have hx:=HX.out
    rw[HA.out] at hcl hx
    simp only[Nat.zero_mul,Nat.zero_add] at hx hcl
    rw[←hx] at hcl
    exact hcl
  ·have hLp:0<L:=by rw[hL,cR_ (by omega) (by omega)];simp
   have hLk:L≤1000000:=by omega
   have hnoL:=HNO.out
   obtain⟨bo,oo,rfl,hbo1,hbo2,hj⟩:=hnoL.at (k:=0) (by omega)
   have hsrc:=HNO.out.cells
   have HL:=hid hL
   have HSRC:=hid hsrc
   have hnew:Hid (Few (A*10000)):=by
    show _≤_
    rw[Nat.mul_comm,←Nat.zero_add (10000*A),nO_ (by omega) (by omega) (by omega)]
    simp
    omega
   have hcO1:∀o,(W.alloc o).cell? ⟨w.heap.size+1,0,none⟩=some (.slice (some ⟨bo,oo,none⟩) L c):=fun o=>(World.cell?_of_block (w:=W) (Below.heap_alloc W o _ (by show w.heap.size+1<W.heap.size;omega))).trans hcO
   clear hj hL hfew hnoL hsrc
   gi_wp2_with (gi_at_builtin;refine wpListIn_append_own _ rfl _ _ 149 rfl W.heap.size 3 i0 (.int .i64 0) 1 8 Tryz.underlying149 hi hz0 hz1 hz2 rfl (by decide) (.slice (some ⟨W.heap.size,0,none⟩) 1 1) _ _ rfl (World.ownsRow_lit W #[.int .i64 0] 1 (Nat.le_refl _) (by decide) rfl) ⟨bo,oo,none⟩ L c ((dig 10000 A).map fun n:Nat=>Value.int .i64 (n:Int)) rfl (by simp[HL.out]) (aHZ W bo oo _ (by omega) (HSRC.out bo oo rfl) _) (tH_ _) (by unfold maxLen;omega) (by omega) (by simp) ?_;intro v' w1 hown' hgrow _;obtain⟨aN,LN,cN,rfl⟩:∃a L c,v'=.slice a L c:=(by obtain⟨_,_,e,_⟩:=Sl.of_owns hown';exact⟨_,_,_,e⟩);have hBw1:Below W.heap.size W w1:=((Below.refl _ W).alloc (Nat.le_refl _) _).grown hgrow (by simp) (fun k e=>by simp[Value.ownBlock] at e;omega);have HOWN:=hid hown';clear hown' hgrow;have hcW1:=cell_later hBw1 hcO;have hfW1:=(hBw1.frozen (p:=⟨w.heap.size+1,0,none⟩) (World.block_lt_of_cell? W _ hcO)).trans hfO)
   obtain⟨Wb,hWb⟩:∃Wb,w1.setCell ⟨w.heap.size+1,0,none⟩ (.slice aN LN cN)=Wb:=⟨_,rfl⟩
   have hsW1:=hBw1.size
   have hsWb:Wb.heap.size=w1.heap.size:=by rw[←hWb];simp[World.setCell]
   have hag1:bM_ 0 (w.heap.size+1) w1 Wb:=by rw[←hWb];exact(bM_.refl 0 (w.heap.size+1) w1).setCell (p:=⟨w.heap.size+1,0,none⟩) (.inr (Nat.le_refl _)) _
   have hag2:bM_ (w.heap.size+2) w1.heap.size w1 Wb:=by rw[←hWb];exact(bM_.refl (w.heap.size+2) w1.heap.size w1).setCell (p:=⟨w.heap.size+1,0,none⟩) (.inl (Nat.lt_succ_self _)) _
   have k1:KeepsOthers W Wb:=by rw[←hWb];exact(aR_ hBw1).trans (KeepsOthers.setCell _ _ _)
   have k2:aZ_ w.heap.size (w.heap.size+1+1) W Wb:=by rw[←hWb];exact(aZ_.of_below hBw1 (by omega) (by omega)).setCell (by simp) (by simp) _
   have k3:Below w.heap.size w Wb:=by rw[←hWb];exact(hB.trans (hBw1.mono (by omega))).setCell (by simp) _
   have k4:Wb.cell? ⟨w.heap.size,0,none⟩=some (.slice a1 (dig 10000 n).length cap1):=(World.cell?_of_block (w:=w1) (hag1 w.heap.size (Nat.zero_le _) (by omega))).trans (cell_later hBw1 hcL)
   have k5:Nm Wb (.slice a1 (dig 10000 n).length cap1) n lo1 hi1:=(HNL.out.below hBw1 (by omega)).keep (fun k h1 h2=>hag1 k (Nat.zero_le _) (by omega))
   have k6:Wb.cell? ⟨w.heap.size+1,0,none⟩=some (.slice aN LN cN):=by rw[←hWb];exact World.cell?_setCell_same' _ _ _ (by rw[hcW1];rfl)
   have k7:Wb.frozen? ⟨w.heap.size+1,0,none⟩=false:=by rw[←hWb,World.frozen?_setCell];exact hfW1
   have k8:Nm Wb (.slice aN LN cN) (A*10000) W.heap.size w1.heap.size:=by
    have h1:=Sl.of_owns HOWN.out
    have h2:dig 10000 (A*10000)=0::dig 10000 A:=by
     rw[Nat.mul_comm,←Nat.zero_add (10000*A),nO_ (by omega) (by omega) (by omega)]
    show Ns Wb _ (dig 10000 (A*10000)) _ _
    rw[h2]
    have h3:(0::dig 10000 A).length=1+L:=by simp[HL.out];omega
    have h4:((0::dig 10000 A).map fun n:Nat=>Value.int .i64 (n:Int))=[Value.int .i64 0]++(dig 10000 A).map fun n:Nat=>Value.int .i64 (n:Int):=rfl
    show Sl Wb _ (0::dig 10000 A).length 1 _ _ _
    rw[h3,h4]
    exact h1.keep (fun k e1 e2=>hag2 k (by omega) (by omega))
   have K5:=hid k5
   have K8:=hid k8
   have hsb3:w.heap.size+3≤Wb.heap.size:=by omega
   rw[hWb]
   have HWB:=hid hsWb
   have hw1b:w1.heap.size≤Wb.heap.size:=by omega
   clear hWb hcW1 hfW1 k5 k8 hcO1 hcO hcL hfO hsWb hag1 hag2
   gi_region_with_o (first
    | (refine⟨trivial,?_⟩;gi_at_call 181;refine(CallsIn.inRound l (callsIn_wide.2 (aAW _ n d lo1 hi1 _ (by exact K5.out.keep (fun _ _ _=>rfl)) (by exact Nat.le_trans b1 (Nat.le_trans (Nat.le_add_right _ 3) hsb3)) (by unfold Few;omega) (by omega)))).mono ?_;rintro e w2 ⟨⟨vB,rfl,hvB⟩,hb2⟩;have HVB:=hid hvB;clear hvB;have hB2:Below Wb.heap.size Wb w2:=(by first | exact hb2 | exact((Below.refl _ Wb).drew).trans hb2);clear hb2;have hcO2:=cell_later hB2 k6;have hfO2:=(hB2.frozen (p:=⟨w.heap.size+1,0,none⟩) (World.block_lt_of_cell? Wb _ k6)).trans k7)
    | (refine⟨trivial,?_⟩;gi_at_call 158;refine(CallsIn.inRound l (callsIn_wide.2 (mY_ _ _ (A*10000) (n*d) _ _ _ _ _ (by exact K8.out.below hB2 hw1b) (by exact HVB.out) (by exact Nat.le_trans hw1b hB2.size) (by exact Nat.le_refl _) (by exact hnew.out) (by exact HF2.out)))).mono ?_;rintro e w3 ⟨⟨vP,rfl,hvP⟩,hb3⟩;obtain⟨aP,LP,cP,rfl⟩:∃a L c,vP=.slice a L c:=(by obtain⟨a,c,e,_⟩:=hvP;exact⟨_,_,_,e⟩);have HVP:=hid hvP;clear hvP;have hcO3:=cell_later hb3 hcO2;have hfO3:=(hb3.frozen (p:=⟨w.heap.size+1,0,none⟩) (World.block_lt_of_cell? w2 _ hcO2)).trans hfO2))
   all_goals
    gi_wp2
    have hcl:=nZ_ (B:=(W0.alloc (.cells #[.slice a2 (dig 10000 m).length cap2] 149)).heap.size) rfl k1 k2 k3 hsb3 k4 K5.out b1 hcO3 k7 hB2 hb3 HVP.out (Nat.le_refl _)
    have hx:=HX.out
    rw[←hx] at hcl
    exact hcl
 case done=>
  rintro D ys W hD hys ⟨⟨_,_,hfO,_,vO,hcO,h,hNo,hh⟩,hB⟩ hK
  have hz:fM_ n (ys.map (·.1))=n*m:=by rw[hys,aER n _ _ (Nat.le_refl _)];simp[bK_]
  rw[hz] at hNo
  clear hz hys
  have HNO:=hid hNo
  clear hNo
  gi_wp2
  refine⟨by simp,.inl ⟨_,_,rfl,run_takeDeferred hK,?_⟩⟩
  refine⟨_,results_tmp rfl _ _ _,⟨_,rfl,?_⟩,hB.trans (belowK_b (w:=w) (Nat.le_refl _) W D _ _ (by simp at hD;omega) hK rfl rfl)⟩
  have ho:=(HNO.out.own (grownBy_putObj' _ D (.deferred none)) (fun r e=>by cases e;exact⟨_,hK,rfl⟩)).mono (lo':=w.heap.size) (hi':=W.heap.size) (by omega) hh
  exact ho.mono (Nat.le_refl _) (by simp[World.putObj])
 case stop=>
  rintro D c pre W _ _ h _
  exact h.elim
end Go.Proofs.YtjfdefglpoancaaGreatDoor
namespace Go.Proofs.YtjfdefglpoancaaGreatDoor
theorem dJ_ (B:Nat) (l:List Nat) (k:Nat):val B (l.take (k+1))=val B (l.take k)+B^k*(l[k]?.getD 0):=by
 by_cases h:k<l.length
 ·exact kF_ B l k h
 ·rw[List.take_of_length_le (by omega),List.take_of_length_le (by omega),List.getElem?_eq_none (by omega)]
  simp
theorem sD_ (B:Nat) (l:List Nat) (d:Nat):val B (l++[d])=val B l+B^l.length*d:=by
 rw[dK_]
 simp[val]
theorem bD_ {B:Nat} (hB:2≤B) (n k:Nat):(dig B n)[k]?.getD 0<B:=by
 cases e:(dig B n)[k]? with
 | none=>simp;omega
 | some d=>exact bX_ hB n d (List.mem_of_getElem? e)
theorem aNB {B n:Nat} (hB:2≤B) (h:0<(dig B n).length):B^((dig B n).length-1)≤n:=by
 rcases Nat.lt_or_ge n (B^((dig B n).length-1)) with h1|h1
 ·have:=(aD_ hB n _).2 h1
  omega
 ·exact h1
theorem aCF {B N:Nat} (hB:2≤B) {ds:List Nat} (hd:∀d∈ds,d<B) (hv:val B ds=N) (hl:ds=[]∨B^(ds.length-1)≤N):ds=dig B N:=by
 rw[←hv,←dD_ hB ds hd]
 rcases List.eq_nil_or_concat ds with rfl|⟨ini,d,rfl⟩
 ·rfl
 ·simp only[List.concat_eq_append] at hd hv hl⊢
  rw[hL_]
  rintro rfl
  rcases hl with hl|hl
  ·simp at hl
  ·have h1:=qL_ hB ini (fun d hm=>hd d (by simp[hm]))
   rw[sD_] at hv
   simp at hl
   omega
theorem aFB {B n m i:Nat} (hB:2≤B) (hl:(dig B n).length=(dig B m).length) (hi:i<(dig B n).length) (ht:(dig B n).drop (i+1)=(dig B m).drop (i+1)) (hne:¬(dig B n)[i]?.getD 0=(dig B m)[i]?.getD 0) :
  cmpI ((dig B n)[i]?.getD 0:Nat) ((dig B m)[i]?.getD 0:Nat)=cmpI n m:=by
 have him:i<(dig B m).length:=by omega
 simp only[List.getElem?_eq_getElem hi,List.getElem?_eq_getElem him,Option.getD_some] at hne⊢
 have en:dig B n=(dig B n).take i++(dig B n)[i]::(dig B n).drop (i+1):=by rw[List.getElem_cons_drop,List.take_append_drop]
 have em:dig B m=(dig B m).take i++(dig B m)[i]::(dig B n).drop (i+1):=by rw[ht,List.getElem_cons_drop,List.take_append_drop]
 have vn:=bK_ hB n
 have vm:=bK_ hB m
 have hlen:((dig B n).take i).length=((dig B m).take i).length:=by simp;omega
 have dn:∀d∈(dig B n).take i,d<B:=fun d hd=>bX_ hB n d (List.mem_of_mem_take hd)
 have dm:∀d∈(dig B m).take i,d<B:=fun d hd=>bX_ hB m d (List.mem_of_mem_take hd)
 rcases Nat.lt_or_gt_of_ne hne with h5|h5
 ·have h6:=sE_ hB _ _ _ _ hlen dn dm h5 ((dig B n).drop (i+1))
  rw[←en,←em,vn,vm] at h6
  unfold cmpI
  rw[if_pos (by omega),if_pos (by omega)]
 ·have h6:=sE_ hB _ _ _ _ hlen.symm dm dn h5 ((dig B n).drop (i+1))
  rw[←en,←em,vn,vm] at h6
  unfold cmpI
  rw[if_neg (by omega),if_pos (by omega),if_neg (by omega),if_pos (by omega)]
theorem aGV {a b:List Nat} {i:Nat} (hl:a.length=b.length) (hi:i<a.length) (ht:a.drop (i+1)=b.drop (i+1)) (he:a[i]?.getD 0=b[i]?.getD 0):a.drop i=b.drop i:=by
 rw[List.drop_eq_getElem_cons hi,List.drop_eq_getElem_cons (show i<b.length from by omega),ht]
 simp only[List.getElem?_eq_getElem hi,List.getElem?_eq_getElem (show i<b.length from by omega),Option.getD_some] at he
 rw[he]
structure PlusAt (n m k:Nat) (ds:List Nat) (c:Nat):Prop where
 len:ds.length=k
 dlt:∀d∈ds,d<10
 eq:val 10 ds+10^k*c=val 10 ((dig 10 n).take k)+val 10 ((dig 10 m).take k)
 chi:c≤1
 far:(k≤(dig 10 n).length∨k≤(dig 10 m).length)∨c=0∧0<k∧10^(k-1)≤n+m
theorem PlusAt.start (n m:Nat):PlusAt n m 0 [] 0:=⟨rfl,by simp,by simp[val],by omega,.inl (.inl (by omega))⟩
theorem PlusAt.all {n m k:Nat} {ds:List Nat} {c:Nat} (h:PlusAt n m k ds c) (h1:(dig 10 n).length≤k) (h2:(dig 10 m).length≤k):val 10 ds+10^k*c=n+m:=by
 have:=h.eq
 rwa[List.take_of_length_le h1,List.take_of_length_le h2,bK_ (by omega),bK_ (by omega)] at this
theorem PlusAt.step {n m k:Nat} {ds:List Nat} {c:Nat} (h:PlusAt n m k ds c) (hgo:k<(dig 10 n).length∨k<(dig 10 m).length∨0<c) (s:Nat) (hs:s=c+(dig 10 n)[k]?.getD 0+(dig 10 m)[k]?.getD 0) :
  PlusAt n m (k+1) (ds++[s%10]) (s/10):=by
 have g1:=bD_ (B:=10) (by omega) n k
 have g2:=bD_ (B:=10) (by omega) m k
 have hc:=h.chi
 refine⟨by simp[h.len],?_,?_,by omega,?_⟩
 ·intro d hd
  rcases List.mem_append.1 hd with hd|hd
  ·exact h.dlt d hd
  ·simp at hd;omega
 ·rw[sD_,h.len,dJ_,dJ_]
  have e:=h.eq
  have e2:10^(k+1)*(s/10)=10^k*(10*(s/10)):=by rw[Nat.pow_succ,Nat.mul_assoc]
  have e3:10^k*(s%10)+10^k*(10*(s/10))=10^k*c+10^k*((dig 10 n)[k]?.getD 0)+10^k*((dig 10 m)[k]?.getD 0):=by
   rw[←Nat.mul_add,←Nat.mul_add,←Nat.mul_add]
   congr 1
   omega
  omega
 ·by_cases h1:k<(dig 10 n).length∨k<(dig 10 m).length
  ·left;omega
  ·right
   have hc0:0<c:=by omega
   have hz1:(dig 10 n)[k]?.getD 0=0:=by rw[List.getElem?_eq_none (by omega)];rfl
   have hz2:(dig 10 m)[k]?.getD 0=0:=by rw[List.getElem?_eq_none (by omega)];rfl
   have hall:=h.all (by omega) (by omega)
   have:10^k*1≤10^k*c:=Nat.mul_le_mul_left _ hc0
   refine⟨by omega,by omega,?_⟩
   rw[Nat.add_sub_cancel]
   omega
theorem PlusAt.done {n m k:Nat} {ds:List Nat} (h:PlusAt n m k ds 0) (h1:(dig 10 n).length≤k) (h2:(dig 10 m).length≤k):ds=dig 10 (n+m):=by
 have hall:=h.all h1 h2
 refine aCF (by omega) h.dlt (by omega) ?_
 rw[h.len]
 rcases Nat.eq_zero_or_pos k with hk|hk
 ·left;exact List.eq_nil_of_length_eq_zero (by rw[h.len,hk])
 ·right
  rcases h.far with (hf|hf)|⟨_,_,hf⟩
  ·have e:k=(dig 10 n).length:=by omega
   have:=aNB (B:=10) (n:=n) (by omega) (by omega)
   rw[←e] at this
   omega
  ·have e:k=(dig 10 m).length:=by omega
   have:=aNB (B:=10) (n:=m) (by omega) (by omega)
   rw[←e] at this
   omega
  ·exact hf
structure MinusAt (n m k:Nat) (ds:List Nat) (c:Nat):Prop where
 len:ds.length=k
 dlt:∀d∈ds,d<10
 eq:val 10 ds+val 10 ((dig 10 m).take k)=val 10 ((dig 10 n).take k)+10^k*c
 chi:c≤1
theorem MinusAt.start (n m:Nat):MinusAt n m 0 [] 0:=⟨rfl,by simp,by simp[val],by omega⟩
theorem MinusAt.step {n m k:Nat} {ds:List Nat} {c:Nat} (h:MinusAt n m k ds c) (d c':Nat) (hd:d<10) (hc':c'≤1) (hs:d+(dig 10 m)[k]?.getD 0+c=(dig 10 n)[k]?.getD 0+10*c') :
  MinusAt n m (k+1) (ds++[d]) c':=by
 refine⟨by simp[h.len],?_,?_,hc'⟩
 ·intro x hx
  rcases List.mem_append.1 hx with hx|hx
  ·exact h.dlt x hx
  ·simp at hx;omega
 ·rw[sD_,h.len,dJ_,dJ_]
  have e:=h.eq
  have e2:10^(k+1)*c'=10^k*(10*c'):=by rw[Nat.pow_succ,Nat.mul_assoc]
  have e3:10^k*d+10^k*((dig 10 m)[k]?.getD 0)+10^k*c=10^k*((dig 10 n)[k]?.getD 0)+10^k*(10*c'):=by
   rw[←Nat.mul_add,←Nat.mul_add,←Nat.mul_add,hs]
  omega
theorem MinusAt.done {n m:Nat} {ds:List Nat} {c:Nat} (h:MinusAt n m (dig 10 n).length ds c) (hle:m≤n):trim ds=dig 10 (n-m):=by
 have e:=h.eq
 have hl:(dig 10 m).length≤(dig 10 n).length:=aG_ (by omega) hle
 rw[List.take_of_length_le (Nat.le_refl _),List.take_of_length_le hl,bK_ (by omega),bK_ (by omega)] at e
 have h1:=qL_ (B:=10) (by omega) ds h.dlt
 rw[h.len] at h1
 have hc:c=0:=by
  rcases Nat.eq_zero_or_pos c with h0|h0
  ·exact h0
  ·have:c=1:=by have:=h.chi;omega
   subst this
   omega
 subst hc
 rw[dD_ (by omega) ds h.dlt]
 congr 1
 omega
theorem wX_ (B:Nat):∀(l:List Nat) (j x:Nat),j<l.length→val B (l.set j x)+B^j*(l[j]?.getD 0)=val B l+B^j*x
 | [],j,x,h=>by simp at h
 | d::ds,0,x,_=>by simp[val];omega
 | d::ds,j+1,x,h=>by
  have ih:=wX_ B ds j x (by simpa using h)
  simp only[List.set_cons_succ,val,List.getElem?_cons_succ,Nat.pow_succ]
  have e:=congrArg (B * ·) ih
  simp only[Nat.mul_add] at e
  rw[Nat.mul_comm (B^j) B,Nat.mul_assoc,Nat.mul_assoc]
  omega
theorem rE_ {B:Nat} {l:List Nat} {j x:Nat} (h:∀d∈l,d<B) (hx:x<B):∀d∈l.set j x,d<B:=by
 intro d hd
 rcases List.mem_or_eq_of_mem_set hd with hd|rfl
 ·exact h d hd
 ·exact hx
structure TimesAt (n m i k:Nat) (os:List Nat) (c:Nat):Prop where
 len:os.length=(dig 10 n).length+(dig 10 m).length
 dlt:∀d∈os,d<10
 eq:val 10 os+10^(i+k)*c=val 10 ((dig 10 n).take i)*m+10^i*((dig 10 n)[i]?.getD 0*val 10 ((dig 10 m).take k))
 chi:c≤9
 far:k≤(dig 10 m).length∧(∀j,i+(dig 10 m).length≤j→os[j]?.getD 0=0)∨k=(dig 10 m).length+1∧c=0∧(∀j,i+1+(dig 10 m).length≤j→os[j]?.getD 0=0)
theorem TimesAt.step {n m i k:Nat} {os:List Nat} {c:Nat} (h:TimesAt n m i k os c) (hi:i<(dig 10 n).length) (hgo:k<(dig 10 m).length∨0<c) (s:Nat)
  (hs:s=os[i+k]?.getD 0+c+(dig 10 n)[i]?.getD 0*(dig 10 m)[k]?.getD 0):i+k<os.length∧TimesAt n m i (k+1) (os.set (i+k) (s%10)) (s/10):=by
 have g1:=bD_ (B:=10) (by omega) n i
 have g2:=bD_ (B:=10) (by omega) m k
 have hl:=h.len
 have hc:=h.chi
 have g3:os[i+k]?.getD 0<10:=by
  cases e:os[i+k]? with
  | none=>simp
  | some d=>exact h.dlt d (List.mem_of_getElem? e)
 have hmul:(dig 10 n)[i]?.getD 0*(dig 10 m)[k]?.getD 0≤9*9:=Nat.mul_le_mul (by omega) (by omega)
 have hk:k≤(dig 10 m).length:=by
  rcases h.far with h1|⟨h1,h2,_⟩ <;> omega
 have hlt:i+k<os.length:=by omega
 refine⟨hlt,by simpa using hl,rE_ h.dlt (by omega),?_,by omega,?_⟩
 ·have e1:=wX_ 10 os (i+k) (s%10) hlt
  have e2:=h.eq
  have e3:10^(i+(k+1))*(s/10)=10^(i+k)*(10*(s/10)):=by rw[←Nat.add_assoc,Nat.pow_succ,Nat.mul_assoc]
  rw[dJ_,e3,Nat.mul_add,Nat.mul_add]
  have e4:10^i*((dig 10 n)[i]?.getD 0*(10^k*(dig 10 m)[k]?.getD 0))=10^(i+k)*((dig 10 n)[i]?.getD 0*(dig 10 m)[k]?.getD 0):=by
   rw[Nat.pow_add,Nat.mul_left_comm ((dig 10 n)[i]?.getD 0) (10^k),←Nat.mul_assoc]
  rw[e4]
  have e5:10^(i+k)*(s%10)+10^(i+k)*(10*(s/10))=10^(i+k)*os[i+k]?.getD 0+10^(i+k)*c+10^(i+k)*((dig 10 n)[i]?.getD 0*(dig 10 m)[k]?.getD 0):=by
   rw[←Nat.mul_add,←Nat.mul_add,←Nat.mul_add]
   congr 1
   omega
  omega
 ·have hset:∀j,i+k<j→(os.set (i+k) (s%10))[j]?.getD 0=os[j]?.getD 0:=by
   intro j hj
   rw[List.getElem?_set_ne (by omega)]
  rcases h.far with ⟨h1,h2⟩|⟨h1,h2,h3⟩
  ·by_cases hk2:k<(dig 10 m).length
   ·left
    exact⟨by omega,fun j hj=>by rw[hset j (by omega)];exact h2 j hj⟩
   ·right
    have hz1:(dig 10 m)[k]?.getD 0=0:=by rw[List.getElem?_eq_none (by omega)];rfl
    have hz2:=h2 (i+k) (by omega)
    rw[hz1,hz2,Nat.mul_zero] at hs
    exact⟨by omega,by omega,fun j hj=>by rw[hset j (by omega)];exact h2 j (by omega)⟩
  ·omega
theorem TimesAt.start (n m:Nat):TimesAt n m 0 0 (List.replicate ((dig 10 n).length+(dig 10 m).length) 0) 0:=by
 have hz:∀k,val 10 (List.replicate k 0)=0:=by
  intro k
  induction k with
  | zero=>rfl
  | succ k ih=>simp[List.replicate_succ,val,ih]
 refine⟨by simp,?_,by simp[hz,val],by omega,.inl ⟨by omega,?_⟩⟩
 ·intro d hd
  rw[List.eq_of_mem_replicate hd]
  omega
 ·intro j _
  rw[List.getElem?_replicate]
  split <;> rfl
theorem TimesAt.next {n m i k:Nat} {os:List Nat} (h:TimesAt n m i k os 0) (hk:(dig 10 m).length≤k):TimesAt n m (i+1) 0 os 0:=by
 refine⟨h.len,h.dlt,?_,by omega,.inl ⟨by omega,?_⟩⟩
 ·have e:=h.eq
  rw[List.take_of_length_le hk,bK_ (by omega)] at e
  rw[dJ_,Nat.add_mul]
  simp only[Nat.mul_zero,Nat.add_zero,List.take_zero,val] at e⊢
  rw[Nat.mul_assoc]
  exact e
 ·intro j hj
  rcases h.far with ⟨_,h2⟩|⟨_,_,h2⟩
  ·exact h2 j (by omega)
  ·exact h2 j (by omega)
theorem TimesAt.done {n m:Nat} {os:List Nat} (h:TimesAt n m (dig 10 n).length 0 os 0):trim os=dig 10 (n*m):=by
 have e:=h.eq
 rw[List.take_of_length_le (Nat.le_refl _),bK_ (by omega)] at e
 rw[dD_ (by omega) os h.dlt]
 have e2:val 10 os=n*m:=by simpa only[Nat.mul_zero,Nat.add_zero,List.take_zero,val] using e
 rw[e2]
theorem dig_getD {B:Nat} (hB:2≤B) (i n:Nat):(dig B n)[i]?.getD 0=n/B^i%B:=by
 induction i generalizing n with
 | zero=>
  rcases Nat.eq_zero_or_pos n with h|h
  ·subst h;simp[eC_]
  ·rw[cR_ hB h];simp
 | succ i ih=>
  rcases Nat.eq_zero_or_pos n with h|h
  ·subst h;simp[eC_]
  ·rw[cR_ hB h,List.getElem?_cons_succ,ih,Nat.div_div_eq_div_mul,Nat.pow_succ,Nat.mul_comm B]
theorem aDL (B:Nat) (k:Nat):val B (List.replicate k 0)=0:=by
 induction k with
 | zero=>rfl
 | succ k ih=>simp[List.replicate_succ,val,ih]
theorem aCA (k j:Nat):(List.replicate k 0)[j]?.getD 0=0:=by
 rw[List.getElem?_replicate]
 split <;> rfl
theorem aFL {k d:Nat} (h:d∈List.replicate k 0):d<10:=by
 rw[List.eq_of_mem_replicate h]
 omega
theorem aGW (n i:Nat):n/10^i=10*(n/10^(i+1))+n/10^i%10:=by
 rw[Nat.pow_succ,←Nat.div_div_eq_div_mul]
 omega
structure DivAt (n m j:Nat) (qs:List Nat) (R:Nat):Prop where
 len:qs.length=(dig 10 n).length
 dlt:∀d∈qs,d<10
 low:∀s,s<j→qs[s]?.getD 0=0
 eq:val 10 qs*m+10^j*R=10^j*(n/10^j)
 lt:R<m
structure DivIn (n m i t:Nat) (qs:List Nat) (R:Nat):Prop where
 len:qs.length=(dig 10 n).length
 dlt:∀d∈qs,d<10
 low:∀s,s<i→qs[s]?.getD 0=0
 cur:qs[i]?.getD 0=t
 eq:val 10 qs*m+10^i*R=10^i*(n/10^i)
 lt:t*m+R<10*m
theorem DivAt.start {n m:Nat} (hm:0<m):DivAt n m (dig 10 n).length (List.replicate (dig 10 n).length 0) 0:=by
 have h:=(aD_ (B:=10) (by omega) n _).1 (Nat.le_refl _)
 refine⟨by simp,fun d hd=>aFL hd,fun s _=>aCA _ _,?_,hm⟩
 rw[aDL,Nat.div_eq_of_lt h]
 simp
theorem DivAt.enter {n m i:Nat} {qs:List Nat} {R:Nat} (h:DivAt n m (i+1) qs R):DivIn n m i 0 qs ((dig 10 n)[i]?.getD 0+10*R):=by
 have e:=h.eq
 have hl:=h.lt
 rw[dig_getD (by omega)]
 refine⟨h.len,h.dlt,fun s hs=>h.low s (by omega),h.low i (by omega),?_,by omega⟩
 have e2:=congrArg (10^i * ·) (aGW n i)
 generalize n/10^(i+1)=X at e e2
 simp only[Nat.mul_add] at e2⊢
 rw[Nat.pow_succ,Nat.mul_assoc,Nat.mul_assoc] at e
 omega
theorem DivIn.small {n m i t:Nat} {qs:List Nat} {R:Nat} (h:DivIn n m i t qs R):t<10:=by
 have h1:=h.lt
 rcases Nat.lt_or_ge t 10 with h2|h2
 ·exact h2
 ·have:=Nat.mul_le_mul_right m h2
  omega
theorem DivIn.step {n m i t:Nat} {qs:List Nat} {R:Nat} (h:DivIn n m i t qs R) (hi:i<(dig 10 n).length) (hR:m≤R):DivIn n m i (t+1) (qs.set i (t+1)) (R-m):=by
 have h1:=h.lt
 have e:=h.eq
 have hl:=h.len
 have h2:t+1<10:=by
  rcases Nat.lt_or_ge (t+1) 10 with h2|h2
  ·exact h2
  ·have:=Nat.mul_le_mul_right m h2
   rw[Nat.add_mul,Nat.one_mul] at this
   omega
 refine⟨by simpa using hl,rE_ h.dlt h2,fun s hs=>by rw[List.getElem?_set_ne (by omega)];exact h.low s hs,by rw[List.getElem?_set_self (by omega)];rfl,?_,by rw[Nat.add_mul,Nat.one_mul];omega⟩
 have e1:=wX_ 10 qs i (t+1) (by omega)
 rw[h.cur,Nat.mul_add,Nat.mul_one] at e1
 have e2:val 10 (qs.set i (t+1))=val 10 qs+10^i:=by omega
 have e3:10^i*R=10^i*m+10^i*(R-m):=by rw[←Nat.mul_add];congr 1;omega
 rw[e2,Nat.add_mul]
 omega
theorem DivIn.leave {n m i t:Nat} {qs:List Nat} {R:Nat} (h:DivIn n m i t qs R) (hR:R<m):DivAt n m i qs R:=⟨h.len,h.dlt,h.low,h.eq,hR⟩
theorem DivAt.done {n m:Nat} {qs:List Nat} {R:Nat} (h:DivAt n m 0 qs R):trim qs=dig 10 (n/m)∧R=n%m:=by
 have e:=h.eq
 have hl:=h.lt
 simp only[Nat.pow_zero,Nat.one_mul,Nat.div_one] at e
 rw[Nat.mul_comm,Nat.add_comm] at e
 have hd:n/m=val 10 qs:=by rw[←e,Nat.add_mul_div_left _ _ (by omega),Nat.div_eq_of_lt hl,Nat.zero_add]
 have hr:n%m=R:=by rw[←e,Nat.add_mul_mod_self_left,Nat.mod_eq_of_lt hl]
 exact⟨by rw[dD_ (by omega) qs h.dlt,hd],hr.symm⟩
structure Pl where
 x:Int
 y:Int
deriving DecidableEq
def aA_ (a b c:Pl):Int:=(b.x-a.x)*(c.y-a.y)-(b.y-a.y)*(c.x-a.x)
def vP (p:Pl):Bool:=decide (0≤p.x)&&decide (p.x≤4095)&&decide (0≤p.y)&&decide (p.y≤4095)
def dH_ (a b c:Pl):Int:=if vP a&&vP b&&vP c then cmpI (aA_ a b c) 0 else 0
def ovl (a b c d:Int):Bool:=decide (max (min a b) (min c d)≤min (max a b) (max c d))
def cX_ (a b c d:Pl):Bool:=vP a&&vP b&&vP c&&vP d&&(ovl a.x b.x c.x d.x&&ovl a.y b.y c.y d.y&&decide (dH_ a b c*dH_ a b d≤0)&&decide (dH_ c d a*dH_ c d b≤0))
theorem aLI (n:Int):cmpI (-n) 0 = -cmpI n 0:=by
 unfold cmpI
 split <;> split <;> (try split) <;> (try split) <;> omega
theorem dC_ (n:Int):(n<0∧cmpI n 0 = -1)∨(n=0∧cmpI n 0=0)∨(0<n∧cmpI n 0=1):=by
 unfold cmpI
 split
 ·exact .inl ⟨‹_›,rfl⟩
 ·split
  ·exact .inr (.inr ⟨‹_›,rfl⟩)
  ·exact .inr (.inl ⟨by omega,rfl⟩)
theorem fX_ (a b c:Pl):aA_ b a c = -aA_ a b c:=by unfold aA_;grind
theorem aBE (a b c:Pl):aA_ a c b = -aA_ a b c:=by unfold aA_;grind
theorem aIT (a b c:Pl):aA_ b c a=aA_ a b c:=by unfold aA_;grind
theorem uO_ (a b c:Pl):dH_ b a c = -dH_ a b c:=by
 unfold dH_
 rw[fX_,aLI,Bool.and_comm (vP b)]
 split <;> simp
theorem iK_ (a b c:Pl) : -1≤dH_ a b c∧dH_ a b c≤1:=by
 unfold dH_
 split
 ·rcases dC_ (aA_ a b c) with ⟨_,h⟩|⟨_,h⟩|⟨_,h⟩ <;> rw[h] <;> decide
 ·decide
theorem iS_ (a b c d:Int):ovl c d a b=ovl a b c d:=by unfold ovl;rw[Int.max_comm,Int.min_comm (max c d)]
theorem nD_ (a b c d:Int):ovl b a c d=ovl a b c d:=by unfold ovl;rw[Int.min_comm b a,Int.max_comm b a]
theorem vF_ (a b c d:Int):ovl a b d c=ovl a b c d:=by unfold ovl;rw[Int.min_comm d c,Int.max_comm d c]
theorem iY_ (a b c d:Pl):cX_ c d a b=cX_ a b c d:=by
 unfold cX_
 rw[iS_,iS_ a.y]
 cases vP a <;> cases vP b <;> cases vP c <;> cases vP d <;> simp[Bool.and_comm,Bool.and_left_comm]
theorem aCG (a b c d:Pl):cX_ b a c d=cX_ a b c d:=by
 unfold cX_
 rw[nD_,nD_ a.y,uO_ a b c,uO_ a b d,Int.neg_mul_neg,Int.mul_comm (dH_ c d b)]
 cases vP a <;> cases vP b <;> simp
theorem pM_ (a b c d:Pl):cX_ a b d c=cX_ a b c d:=by rw[iY_,aCG,iY_]
theorem wavg {a b c d s s' t t':Int} (e:c*s+d*s'=b*t+a*t') (hs:0<s) (hs':0<s') (ht:0<t) (ht':0<t') (hS:s+s'=t+t'):min a b≤max c d:=by
 rcases Int.lt_or_le (max c d) (min a b) with h|h
 ·exfalso
  generalize hm:max c d=m at h
  have h1:c*s≤m*s:=Int.mul_le_mul_of_nonneg_right (by omega) (by omega)
  have h2:d*s'≤m*s':=Int.mul_le_mul_of_nonneg_right (by omega) (by omega)
  have h3:(m+1)*t≤b*t:=Int.mul_le_mul_of_nonneg_right (by omega) (by omega)
  have h4:(m+1)*t'≤a*t':=Int.mul_le_mul_of_nonneg_right (by omega) (by omega)
  have h5:m*s+m*s'=m*t+m*t':=by rw[←Int.mul_add,hS,Int.mul_add]
  rw[Int.add_mul] at h3 h4
  omega
 ·exact h
theorem zR_ {a b c d s s' t t':Int} (e:c*s+d*s'=b*t+a*t') (hs:0<s) (hs':0<s') (ht:0<t) (ht':0<t') (hS:s+s'=t+t'):ovl a b c d=true:=by
 have h1:=wavg e hs hs' ht ht' hS
 have h2:=wavg (a:=d) (b:=c) (c:=b) (d:=a) (s:=t) (s':=t') (t:=s) (t':=s') e.symm ht ht' hs hs' hS.symm
 unfold ovl
 exact decide_eq_true (by omega)
theorem aFN (a b c d:Pl):c.x*aA_ a b d-d.x*aA_ a b c=b.x*aA_ c d a-a.x*aA_ c d b:=by unfold aA_;grind
theorem aFM (a b c d:Pl):c.y*aA_ a b d-d.y*aA_ a b c=b.y*aA_ c d a-a.y*aA_ c d b:=by unfold aA_;grind
theorem aFO (a b c d:Pl):aA_ a b d-aA_ a b c=aA_ c d a-aA_ c d b:=by unfold aA_;grind
theorem aX_ {a b c:Pl} (h:vP a&&vP b&&vP c):dH_ a b c=cmpI (aA_ a b c) 0:=by unfold dH_;exact if_pos h
theorem zI_ {x y:Int} (h:cmpI x 0*cmpI y 0<0):(0<x∧y<0)∨(x<0∧0<y):=by
 rcases dC_ x with ⟨h1,e1⟩|⟨h1,e1⟩|⟨h1,e1⟩ <;> rcases dC_ y with ⟨h2,e2⟩|⟨h2,e2⟩|⟨h2,e2⟩ <;> rw[e1,e2] at h <;> first|(exact .inl ⟨h1,h2⟩)|(exact .inr ⟨h1,h2⟩)|(exact absurd h (by decide))
theorem wD_ {a b c d:Pl} (ha:vP a=true) (hb:vP b=true) (hc:vP c=true) (hd:vP d=true) (h1:dH_ a b c*dH_ a b d<0) (h2:dH_ c d a*dH_ c d b<0):cX_ a b c d=true:=by
 have k1:=h1
 have k2:=h2
 rw[aX_ (by simp[ha,hb,hc]),aX_ (by simp[ha,hb,hd])] at k1
 rw[aX_ (by simp[ha,hc,hd]),aX_ (by simp[hb,hc,hd])] at k2
 have mx:=aFN a b c d
 have my:=aFM a b c d
 have md:=aFO a b c d
 have hx:ovl a.x b.x c.x d.x=true∧ovl a.y b.y c.y d.y=true:=by
  generalize aA_ a b c=s1 at *
  generalize aA_ a b d=s2 at *
  generalize aA_ c d a=t1 at *
  generalize aA_ c d b=t2 at *
  rcases zI_ k1 with ⟨p1,p2⟩|⟨p1,p2⟩ <;> rcases zI_ k2 with ⟨p3,p4⟩|⟨p3,p4⟩
  ·omega
  ·exact⟨zR_ (s:=-s2) (s':=s1) (t:=-t1) (t':=t2) (by rw[Int.mul_neg,Int.mul_neg];omega) (by omega) (by omega) (by omega) (by omega) (by omega),
    zR_ (s:=-s2) (s':=s1) (t:=-t1) (t':=t2) (by rw[Int.mul_neg,Int.mul_neg];omega) (by omega) (by omega) (by omega) (by omega) (by omega)⟩
  ·exact⟨zR_ (s:=s2) (s':=-s1) (t:=t1) (t':=-t2) (by rw[Int.mul_neg,Int.mul_neg];omega) (by omega) (by omega) (by omega) (by omega) (by omega),
    zR_ (s:=s2) (s':=-s1) (t:=t1) (t':=-t2) (by rw[Int.mul_neg,Int.mul_neg];omega) (by omega) (by omega) (by omega) (by omega) (by omega)⟩
  ·omega
 unfold cX_
 rw[ha,hb,hc,hd,hx.1,hx.2,decide_eq_true (Int.le_of_lt h1),decide_eq_true (Int.le_of_lt h2)]
 rfl
structure Rc where
 x:Int
 y:Int
 w:Int
 h:Int
deriving DecidableEq
def vRc (r:Rc):Bool:=vP ⟨r.x,r.y⟩&&decide (0≤r.w)&&decide (r.w≤4095-r.x)&&decide (0≤r.h)&&decide (r.h≤4095-r.y)
def cB_ (r:Rc) (p:Pl):Rc:=⟨min r.x p.x,min r.y p.y,max (r.x+r.w) p.x-min r.x p.x,max (r.y+r.h) p.y-min r.y p.y⟩
end Go.Proofs.YtjfdefglpoancaaGreatDoor
namespace Go.Proofs.YtjfdefglpoancaaGreatDoor
open Go.RowKit Go.Shelf
attribute [local go_sem] Oper.semAt_some
theorem in_t {n lo hi:Int} (h1:lo≤n) (h2:n≤hi) (w:World) :
  Calls Tryz.prog 35 #[.int .i64 n,.int .i64 lo,.int .i64 hi] w fun e w'=>e=.returned (.bool true)∧w=w':=by
 go_enter Tryz.func35,Tryz.ntmps35
 go_wp2
 go_ret
 exact⟨rfl,rfl⟩
theorem in_f {n lo hi:Int} (h:n<lo∨hi<n) (w:World) :
  Calls Tryz.prog 35 #[.int .i64 n,.int .i64 lo,.int .i64 hi] w fun e w'=>e=.returned (.bool false)∧w=w':=by
 by_cases h1:lo≤n
 ·have h2:hi<n:=by omega
  have h3:decide (n≤hi)=false:=decide_eq_false (by omega)
  clear h
  go_enter Tryz.func35,Tryz.ntmps35
  go_wp2
  go_ret
  exact⟨rfl,rfl⟩
 ·have h3:decide (lo≤n)=false:=decide_eq_false h1
  clear h
  go_enter Tryz.func35,Tryz.ntmps35
  go_wp2
  go_ret
  exact⟨rfl,rfl⟩
theorem iI_ (p:Pl) (w:World) :
  Calls Tryz.prog 29 #[.agg #[.int .i64 p.x,.int .i64 p.y]] w fun e W'=>e=.returned (.bool (vP p))∧Below w.heap.size w W':=by
 obtain⟨x,y⟩:=p
 by_cases hx:0≤x∧x≤4095
 ·have kx:=hid (fun W=>in_t hx.1 hx.2 W)
  by_cases hy:0≤y∧y≤4095
  ·have ky:=hid (fun W=>in_t hy.1 hy.2 W)
   rw[show vP ⟨x,y⟩=true by simp[vP,hx.1,hx.2,hy.1,hy.2]]
   clear hx hy
   go_enter Tryz.func29,Tryz.ntmps29
   go_wp2_with (first
    | (go_at_call 35;(with_reducible refine(kx.out _).mono ?_);rintro e w' ⟨rfl,rfl⟩)
    | (go_at_call 35;(with_reducible refine(ky.out _).mono ?_);rintro e w' ⟨rfl,rfl⟩)
    | fail)
   go_ret
   exact⟨rfl,(Below.refl _ _).alloc (Nat.le_refl _) _⟩
  ·have ky:=hid (fun W=>in_f (n:=y) (lo:=0) (hi:=4095) (by omega) W)
   rw[show vP ⟨x,y⟩=false by simp[vP];omega]
   clear hx hy
   go_enter Tryz.func29,Tryz.ntmps29
   go_wp2_with (first
    | (go_at_call 35;(with_reducible refine(kx.out _).mono ?_);rintro e w' ⟨rfl,rfl⟩)
    | (go_at_call 35;(with_reducible refine(ky.out _).mono ?_);rintro e w' ⟨rfl,rfl⟩)
    | fail)
   go_ret
   exact⟨rfl,(Below.refl _ _).alloc (Nat.le_refl _) _⟩
 ·have kx:=hid (fun W=>in_f (n:=x) (lo:=0) (hi:=4095) (by omega) W)
  rw[show vP ⟨x,y⟩=false by simp[vP];omega]
  clear hx
  go_enter Tryz.func29,Tryz.ntmps29
  go_wp2_with (go_at_call 35;(with_reducible refine(kx.out _).mono ?_);rintro e w' ⟨rfl,rfl⟩)
  go_ret
  exact⟨rfl,(Below.refl _ _).alloc (Nat.le_refl _) _⟩
theorem yR_ (p:Pl) (w:World) :
  Calls Tryz.prog 97 #[.agg #[.int .i64 p.x,.int .i64 p.y]] w fun e W'=>e=.returned (.bool (!vP p))∧Below w.heap.size w W':=by
 have k:=hid (fun W=>iI_ p W)
 have s0:=hid ((Below.refl w.heap.size w).alloc (Nat.le_refl _) (.cells #[.int .i64 p.x,.int .i64 p.y] 26))
 go_enter Tryz.func97,Tryz.ntmps97
 go_wp2_with (go_at_call 29;(with_reducible refine(k.out _).mono ?_);rintro e w1 ⟨rfl,hb⟩)
 go_ret
 exact⟨rfl,s0.out.trans (hb.mono (by simp))⟩
structure PsAt (B:Nat) (ps:List Pl) (W:World):Prop where
 row:∀(k:Nat) (p:Pl),ps[k]?=some p→W.cell? ⟨B,k*2,none⟩=some (.int .i64 p.x)∧W.cell? ⟨B,k*2+1,none⟩=some (.int .i64 p.y)
 sz:B<W.heap.size
theorem PsAt.below {B:Nat} {ps:List Pl} {W W':World} (h:PsAt B ps W) (hb:Below W.heap.size W W'):PsAt B ps W':=
 ⟨fun k p hp=>⟨(hb.cell (p:=⟨B,k*2,none⟩) h.sz).trans (h.row k p hp).1,(hb.cell (p:=⟨B,k*2+1,none⟩) h.sz).trans (h.row k p hp).2⟩,Nat.lt_of_lt_of_le h.sz hb.size⟩
def plC:List Pl→List Value
 | []=>[]
 | p::l=>.int .i64 p.x::.int .i64 p.y::plC l
theorem jJ_:∀{ps:List Pl} {k:Nat} {p:Pl},ps[k]?=some p→(plC ps)[k*2]?=some (.int .i64 p.x)∧(plC ps)[k*2+1]?=some (.int .i64 p.y)
 | [],k,p,h=>by simp at h
 | q::l,0,p,h=>by simp at h;subst h;exact⟨rfl,rfl⟩
 | q::l,k+1,p,h=>by
  have:=jJ_ (ps:=l) (k:=k) (p:=p) (by simpa using h)
  rw[show(k+1)*2=k*2+2 by omega]
  exact this
theorem PsAt.of {B:Nat} {ps:List Pl} {W:World} (h:ArAt B (plC ps) W):PsAt B ps W:=
 ⟨fun k _ hp=>⟨h.row (k*2) _ (jJ_ hp).1,h.row (k*2+1) _ (jJ_ hp).2⟩,h.sz⟩
theorem aPZ {B cap:Nat} {ps:List Pl} (hn:ps.length≤1000000) (w:World) (h:PsAt B ps w) :
  Calls Tryz.prog 132 #[.slice (some ⟨B,0,none⟩) ps.length cap,.func (.func 97) #[] #[]] w fun e W'=>(∃i:Int,e=.returned (.int .i64 i)∧decide (0≤i) = !(ps.all vP))∧Below w.heap.size w W':=by
 obtain⟨n,en⟩:∃n,n=ps.length:=⟨_,rfl⟩
 rw[←en]
 rw[←en] at hn
 have HN:=hid en
 have HP:=hid h
 clear en h
 go_enter Tryz.func132,Tryz.ntmps132
 go_wp2
 go_loopw [8] (fun i wr=>∃k:Nat,k≤n∧i=.int .i64 (k:Int)∧Below w.heap.size w wr∧(ps.take k).all vP=true) (fun i _=>n-(intOf i).toNat)
 case atStart=>exact⟨0,Nat.zero_le _,rfl,Below.refl _ _,rfl⟩
 case round=>
  obtain⟨k,hk,rfl,hb,ha⟩:=hrel
  by_cases hlt:k<n
  ·obtain⟨p,hp⟩:∃p,ps[k]?=some p:=⟨ps[k]'(by have:=HN.out;omega),List.getElem?_eq_getElem _⟩
   obtain⟨c0,c1⟩:=((HP.out.below hb).row k p hp)
   have HB:=hid hb
   have HA:=hid ha
   have HE:=hid (show(ps.take (k+1)).all vP=((ps.take k).all vP&&vP p) by rw[List.take_add_one,hp];simp)
   have K:=hid (fun W=>yR_ p W)
   have HH:=hid hp
   clear hb ha hp
   cases hv:vP p with
   | true=>
    rw[hv] at K HE
    go_wp2_with (go_at_call 97;(with_reducible refine(K.out _).mono ?_);rintro e w1 ⟨rfl,hb⟩;have H1:=hid (HB.out.trans (hb.mono HB.out.size));clear hb)
    exact⟨⟨k+1,by omega,by go_num,H1.out,by rw[HE.out,HA.out];rfl⟩,by simp only[intOf];omega⟩
   | false=>
    rw[hv] at K
    have HF:=hid hv
    clear hv
    go_wp2_with (go_at_call 97;(with_reducible refine(K.out _).mono ?_);rintro e w1 ⟨rfl,hb⟩;have H1:=hid (HB.out.trans (hb.mono HB.out.size));clear hb)
    go_ret
    refine⟨⟨_,rfl,?_⟩,H1.out⟩
    rw[show ps.all vP=false by
     rw[Bool.eq_false_iff]
     intro hall
     have:=List.all_eq_true.1 hall p (List.mem_of_getElem? HH.out)
     rw[HF.out] at this
     cases this]
    simp
  ·obtain rfl:k=n:=by omega
   have HA:=hid ha
   have HB:=hid hb
   clear ha hb
   go_wp2
   go_ret
   refine⟨⟨_,rfl,?_⟩,HB.out⟩
   have:=HA.out
   rw[HN.out,List.take_length] at this
   rw[this]
   rfl
end Go.Proofs.YtjfdefglpoancaaGreatDoor
namespace Go.Proofs.YtjfdefglpoancaaGreatDoor
def eZ_ (i o:Rc):Bool:=vRc i&&vRc o&&(decide (o.x≤i.x)&&decide (i.x+i.w≤o.x+o.w))&&(decide (o.y≤i.y)&&decide (i.y+i.h≤o.y+o.h))
def hM_ (a b:Rc):Bool:=vRc a&&vRc b&&ovl a.x (a.x+a.w) b.x (b.x+b.w)&&ovl a.y (a.y+a.h) b.y (b.y+b.h)
theorem aT_ {p:Pl} : vP p=true↔0≤p.x∧p.x≤4095∧0≤p.y∧p.y≤4095:=by
 unfold vP
 simp only[Bool.and_eq_true,decide_eq_true_eq,and_assoc]
theorem bO_ {r:Rc} : vRc r=true↔0≤r.x∧r.x≤4095∧0≤r.y∧r.y≤4095∧0≤r.w∧r.w≤4095-r.x∧0≤r.h∧r.h≤4095-r.y:=by
 unfold vRc
 simp only[Bool.and_eq_true,aT_,decide_eq_true_eq,and_assoc]
theorem oR_ {a b c d:Int} : ovl a b c d=true↔max (min a b) (min c d)≤min (max a b) (max c d):=by
 unfold ovl
 exact decide_eq_true_iff
def bY_ (p:Pl) (l:List Pl):Rc:=l.foldl cB_ ⟨p.x,p.y,0,0⟩
def lowL (p:Pl):List Pl→Pl
 | []=>p
 | q::l=>lowL ⟨min p.x q.x,min p.y q.y⟩ l
def eL_ (p:Pl):List Pl→Pl
 | []=>p
 | q::l=>eL_ ⟨max p.x q.x,max p.y q.y⟩ l
theorem aDA (lo hi:Pl) (l:List Pl):l.foldl cB_ ⟨lo.x,lo.y,hi.x-lo.x,hi.y-lo.y⟩=⟨(lowL lo l).x,(lowL lo l).y,(eL_ hi l).x-(lowL lo l).x,(eL_ hi l).y-(lowL lo l).y⟩:=by
 induction l generalizing lo hi with
 | nil=>rfl
 | cons q l ih=>
  have e:cB_ ⟨lo.x,lo.y,hi.x-lo.x,hi.y-lo.y⟩ q=⟨min lo.x q.x,min lo.y q.y,max hi.x q.x-min lo.x q.x,max hi.y q.y-min lo.y q.y⟩:=by
   unfold cB_
   simp only[Rc.mk.injEq]
   refine⟨trivial,trivial,?_,?_⟩ <;> omega
  rw[List.foldl_cons,e]
  exact ih ⟨min lo.x q.x,min lo.y q.y⟩ ⟨max hi.x q.x,max hi.y q.y⟩
theorem pY_ (p:Pl) (l:List Pl):bY_ p l=⟨(lowL p l).x,(lowL p l).y,(eL_ p l).x-(lowL p l).x,(eL_ p l).y-(lowL p l).y⟩:=by
 have:=aDA p p l
 rw[Int.sub_self,Int.sub_self] at this
 exact this
theorem low_le (p:Pl) (l:List Pl):(lowL p l).x≤p.x∧(lowL p l).y≤p.y∧∀q∈l,(lowL p l).x≤q.x∧(lowL p l).y≤q.y:=by
 induction l generalizing p with
 | nil=>exact⟨Int.le_refl _,Int.le_refl _,fun _ h=>by cases h⟩
 | cons r l ih=>
  obtain⟨h1,h2,h3⟩:=ih ⟨min p.x r.x,min p.y r.y⟩
  simp only at h1 h2
  refine⟨by show(lowL ⟨min p.x r.x,min p.y r.y⟩ l).x≤_;omega,by show(lowL ⟨min p.x r.x,min p.y r.y⟩ l).y≤_;omega,fun q hq=>?_⟩
  rcases List.mem_cons.1 hq with rfl|hq
  ·exact⟨by show(lowL ⟨min p.x q.x,min p.y q.y⟩ l).x≤_;omega,by show(lowL ⟨min p.x q.x,min p.y q.y⟩ l).y≤_;omega⟩
  ·exact h3 q hq
theorem aQF (p:Pl) (l:List Pl):p.x≤(eL_ p l).x∧p.y≤(eL_ p l).y∧∀q∈l,q.x≤(eL_ p l).x∧q.y≤(eL_ p l).y:=by
 induction l generalizing p with
 | nil=>exact⟨Int.le_refl _,Int.le_refl _,fun _ h=>by cases h⟩
 | cons r l ih=>
  obtain⟨h1,h2,h3⟩:=ih ⟨max p.x r.x,max p.y r.y⟩
  simp only at h1 h2
  refine⟨by show _≤(eL_ ⟨max p.x r.x,max p.y r.y⟩ l).x;omega,by show _≤(eL_ ⟨max p.x r.x,max p.y r.y⟩ l).y;omega,fun q hq=>?_⟩
  rcases List.mem_cons.1 hq with rfl|hq
  ·exact⟨by show _≤(eL_ ⟨max p.x q.x,max p.y q.y⟩ l).x;omega,by show _≤(eL_ ⟨max p.x q.x,max p.y q.y⟩ l).y;omega⟩
  ·exact h3 q hq
theorem vM_ (p:Pl) (l:List Pl) (hp:vP p=true) (hl:∀q∈l,vP q=true):vP (lowL p l)=true:=by
 induction l generalizing p with
 | nil=>exact hp
 | cons r l ih=>
  refine ih _ ?_ (fun q hq=>hl q (List.mem_cons_of_mem _ hq))
  have h1:=aT_.1 hp
  have h2:=aT_.1 (hl r (by simp))
  exact aT_.2 ⟨by simp only;omega,by simp only;omega,by simp only;omega,by simp only;omega⟩
theorem rI_ (p:Pl) (l:List Pl) (hp:vP p=true) (hl:∀q∈l,vP q=true):vP (eL_ p l)=true:=by
 induction l generalizing p with
 | nil=>exact hp
 | cons r l ih=>
  refine ih _ ?_ (fun q hq=>hl q (List.mem_cons_of_mem _ hq))
  have h1:=aT_.1 hp
  have h2:=aT_.1 (hl r (by simp))
  exact aT_.2 ⟨by simp only;omega,by simp only;omega,by simp only;omega,by simp only;omega⟩
theorem wQ_ (p:Pl) (l:List Pl) (hp:vP p=true) (hl:∀q∈l,vP q=true):vRc (bY_ p l)=true:=by
 rw[pY_]
 have h1:=aT_.1 (vM_ p l hp hl)
 have h2:=aT_.1 (rI_ p l hp hl)
 have h3:=low_le p l
 have h4:=aQF p l
 exact bO_.2 (by simp only;omega)
theorem aJL {p:Pl} (h:vP p=true):vRc ⟨p.x,p.y,0,0⟩=true:=by
 have:=aT_.1 h
 exact bO_.2 (by simp only;omega)
end Go.Proofs.YtjfdefglpoancaaGreatDoor
namespace Go.Proofs.YtjfdefglpoancaaGreatDoor
open Go.RowKit Go.Shelf
attribute [local go_sem] Oper.semAt_some
theorem hN_ {ps qs:List Pl} {k:Nat} {p q:Pl} (hp:ps[k]?=some p) (hq:qs[k]?=some q) (h:ps.take k=qs.take k) (e:p=q):ps.take (k+1)=qs.take (k+1):=by
 rw[List.take_add_one,List.take_add_one,hp,hq,h,e]
theorem same_s {B C n m c1 c2:Nat} {ps qs:List Pl} (hp:ps.length=n) (hq:qs.length=m) (hn:n≤1000000) (hm:m≤1000000) (w:World) (h1:PsAt B ps w) (h2:PsAt C qs w) :
  Calls Tryz.prog 20 #[.slice (some ⟨B,0,none⟩) n c1,.slice (some ⟨C,0,none⟩) m c2] w fun e w'=>e=.returned (.bool (decide (ps=qs)))∧Below w.heap.size w w':=by
 have HP:=hid hp
 have HQ:=hid hq
 have H1:=hid h1
 have H2:=hid h2
 clear h1 h2
 by_cases hnm:n=m
 ·clear hp hq
  subst hnm
  go_enter Tryz.func20,Tryz.ntmps20
  go_wp2
  go_loopw [5] (fun i wr=>∃k:Nat,k≤n∧i=.int .i64 (k:Int)∧Below w.heap.size w wr∧ps.take k=qs.take k) (fun i _=>n-(intOf i).toNat)
  case atStart=>exact⟨0,Nat.zero_le _,rfl,Below.refl _ _,rfl⟩
  case round=>
   obtain⟨k,hk,rfl,hb,ht⟩:=hrel
   by_cases hlt:k<n
   ·obtain⟨p,hp⟩:∃p,ps[k]?=some p:=⟨ps[k]'(by have:=HP.out;omega),List.getElem?_eq_getElem _⟩
    obtain⟨q,hq⟩:∃q,qs[k]?=some q:=⟨qs[k]'(by have:=HQ.out;omega),List.getElem?_eq_getElem _⟩
    obtain⟨c0,c1'⟩:=((H1.out.below hb).row k p hp)
    obtain⟨d0,d1⟩:=((H2.out.below hb).row k q hq)
    have HB:=hid hb
    have HT:=hid ht
    have HE:=hid (And.intro hp hq)
    clear hb ht hp hq
    have i1:(0:Int)≤(k:Int):=by omega
    have i2:(k:Int)<(n:Int):=by omega
    by_cases hpq:p=q
    ·subst hpq
     go_wp2
     go_region
     all_goals
      go_wp2
      exact⟨⟨k+1,by omega,by go_num,HB.out.drew,hN_ HE.out.1 HE.out.2 HT.out rfl⟩,by simp only[intOf];omega⟩
    ·have hne:¬ps=qs:=fun e=>hpq (by have h1:=HE.out.1;rw[e,HE.out.2] at h1;exact(Option.some.inj h1).symm)
     have HN:=hid hne
     have hd:(p.x==q.x)=false∨((p.x==q.x)=true∧(p.y==q.y)=false):=by
      by_cases hx:p.x=q.x
      ·right
       refine⟨beq_iff_eq.2 hx,beq_eq_false_iff_ne.2 fun hy=>hpq ?_⟩
       cases p
       cases q
       simp_all
      ·exact .inl (beq_eq_false_iff_ne.2 hx)
     clear hpq hne
     rcases hd with hx|⟨hx,hy⟩
     all_goals
      go_wp2
      go_region
      all_goals
       go_wp2
       go_ret
       exact⟨aQ_ (decide_eq_false HN.out).symm,HB.out.drew⟩
   ·obtain rfl:k=n:=by omega
    have HB:=hid hb
    have HT:=hid ht
    clear hb ht
    go_wp2
    go_ret
    have:=HT.out
    rw[List.take_of_length_le (by rw[HP.out];exact Nat.le_refl _),List.take_of_length_le (by rw[HQ.out];exact Nat.le_refl _)] at this
    exact⟨aQ_ (decide_eq_true this).symm,HB.out⟩
 ·have hne:¬ps=qs:=fun e=>hnm (by rw[←hp,←hq,e])
  rw[decide_eq_false hne]
  clear hp hq hne
  go_enter Tryz.func20,Tryz.ntmps20
  go_wp2
  go_ret
  exact⟨rfl,Below.refl _ _⟩
end Go.Proofs.YtjfdefglpoancaaGreatDoor
namespace Go.Proofs.YtjfdefglpoancaaGreatDoor
def onP (p a b:Pl):Bool:=decide (aA_ a b p=0)&&(decide (min a.x b.x≤p.x)&&decide (p.x≤max a.x b.x))&&(decide (min a.y b.y≤p.y)&&decide (p.y≤max a.y b.y))
theorem hS_ {p a b:Pl} : onP p a b=true↔aA_ a b p=0∧(min a.x b.x≤p.x∧p.x≤max a.x b.x)∧(min a.y b.y≤p.y∧p.y≤max a.y b.y):=by
 unfold onP
 simp only[Bool.and_eq_true,decide_eq_true_eq,and_assoc]
theorem nG_ (p a b:Pl):onP p b a=onP p a b:=by
 unfold onP
 rw[Int.min_comm b.x,Int.max_comm b.x,Int.min_comm b.y,Int.max_comm b.y,fX_]
 congr 2
 exact decide_eq_decide.2 (by omega)
def strP (a b c d:Pl):Bool:=decide (cmpI (aA_ a b c) 0*cmpI (aA_ a b d) 0<0)&&decide (cmpI (aA_ c d a) 0*cmpI (aA_ c d b) 0<0)
theorem oG_ {u v s t:Int} (e:u*s=v*t) (h:0<s*t) (k:u*v≤0):u=0∧v=0:=by
 have hs:(0<s∧0<t)∨(s<0∧t<0):=by
  rcases Int.lt_trichotomy s 0 with h1|h1|h1
  ·rcases Int.lt_trichotomy t 0 with h2|h2|h2
   ·exact .inr ⟨h1,h2⟩
   ·rw[h2] at h;omega
   ·have:=Int.mul_pos (show 0 < -s by omega) h2
    rw[Int.neg_mul] at this;omega
  ·rw[h1] at h;omega
  ·rcases Int.lt_trichotomy t 0 with h2|h2|h2
   ·have:=Int.mul_pos h1 (show 0 < -t by omega)
    rw[Int.mul_neg] at this;omega
   ·rw[h2] at h;omega
   ·exact .inl ⟨h1,h2⟩
 have hz:u=0∨v=0∨(u≠0∧v≠0):=by omega
 have hst:s≠0∧t≠0:=by omega
 rcases hz with rfl|rfl|⟨h1,h2⟩
 ·rw[Int.zero_mul] at e
  rcases Int.mul_eq_zero.1 e.symm with h|h
  ·exact⟨rfl,h⟩
  ·exact absurd h hst.2
 ·rw[Int.zero_mul] at e
  rcases Int.mul_eq_zero.1 e with h|h
  ·exact⟨h,rfl⟩
  ·exact absurd h hst.1
 ·exfalso
  have e2:(u*v)*s=(v*v)*t:=by grind
  have vv:=Int.mul_pos_of_neg_of_neg (a:=v) (b:=v)
  have vp:=Int.mul_pos (a:=v) (b:=v)
  have v2:0<v*v:=by
   rcases Int.lt_trichotomy v 0 with h|h|h
   ·exact vv h h
   ·exact absurd h h2
   ·exact vp h h
  rcases hs with ⟨p1,p2⟩|⟨p1,p2⟩
  ·have m1:=Int.mul_pos v2 p2
   have m2:=Int.mul_nonneg (show 0≤-(u*v) by omega) (Int.le_of_lt p1)
   rw[Int.neg_mul] at m2
   omega
  ·have m1:=Int.mul_pos v2 (show 0 < -t by omega)
   have m2:=Int.mul_nonneg (show 0≤-(u*v) by omega) (show 0≤-s by omega)
   rw[Int.mul_neg] at m1
   rw[Int.neg_mul_neg] at m2
   omega
theorem zX_ {u v s t:Int} (e:u*s=v*t) (h:s*t≤0) (hn:¬(s=0∧t=0)):u*v≤0:=by
 apply Classical.byContradiction
 intro k
 have:=oG_ (u:=s) (v:=t) (s:=u) (t:=v) (by rw[Int.mul_comm s,Int.mul_comm t,e]) (by omega) h
 exact hn this
theorem aAH {p a b:Int} : (p-b)*(p-a)≤0↔min a b≤p∧p≤max a b:=by
 constructor
 ·intro h
  apply Classical.byContradiction
  intro hn
  rcases(show(a<p∧b<p)∨(p<a∧p<b) by omega) with ⟨h1,h2⟩|⟨h1,h2⟩
  ·have:=Int.mul_pos (show 0<p-b by omega) (show 0<p-a by omega)
   omega
  ·have:=Int.mul_pos (show 0 < -(p-b) by omega) (show 0 < -(p-a) by omega)
   rw[Int.neg_mul_neg] at this
   omega
 ·rintro⟨h1,h2⟩
  rcases(show(a≤p∧p≤b)∨(b≤p∧p≤a) by omega) with ⟨k1,k2⟩|⟨k1,k2⟩
  ·have:=Int.mul_nonneg (show 0≤b-p by omega) (show 0≤p-a by omega)
   have e:(p-b)*(p-a) = -((b-p)*(p-a)):=by grind
   omega
  ·have:=Int.mul_nonneg (show 0≤p-b by omega) (show 0≤a-p by omega)
   have e:(p-b)*(p-a) = -((p-b)*(a-p)):=by grind
   omega
theorem aLP {dx dy px py:Int} (h0:dx≠0) (e:dx*py=dy*px) (h:(0≤px∧px≤dx)∨(dx≤px∧px≤0)):(0≤py∧py≤dy)∨(dy≤py∧py≤0):=by
 have key:∀dx dy px py:Int,0<dx→dx*py=dy*px→0≤px→px≤dx→(0≤py∧py≤dy)∨(dy≤py∧py≤0):=by
  intro dx dy px py h0 e h1 h2
  rcases Int.le_total 0 dy with hy|hy
  ·have m1:=Int.mul_nonneg hy h1
   have m2:=Int.mul_nonneg hy (show 0≤dx-px by omega)
   have e2:dx*(dy-py)=dy*(dx-px):=by grind
   exact .inl ⟨Int.le_of_mul_le_mul_left (a:=dx) (by omega) h0,by
    have:0≤dy-py:=Int.le_of_mul_le_mul_left (a:=dx) (by omega) h0
    omega⟩
  ·have m1:=Int.mul_nonneg (show 0≤-dy by omega) h1
   have m2:=Int.mul_nonneg (show 0≤-dy by omega) (show 0≤dx-px by omega)
   have e1:dx * -py = -dy*px:=by grind
   have e2:dx*(py-dy) = -dy*(dx-px):=by grind
   have k1:0≤-py:=Int.le_of_mul_le_mul_left (a:=dx) (by omega) h0
   have k2:0≤py-dy:=Int.le_of_mul_le_mul_left (a:=dx) (by omega) h0
   exact .inr ⟨by omega,by omega⟩
 rcases h with ⟨h1,h2⟩|⟨h1,h2⟩
 ·exact key dx dy px py (by omega) e h1 h2
 ·have:=key (-dx) (-dy) (-px) (-py) (by omega) (by grind) (by omega) (by omega)
  omega
theorem aFS {a b c d:Pl} (hw:d.x≠c.x) (hab:a≠b) (t1:aA_ c d a=0) (t2:aA_ c d b=0) (s1:aA_ a b c=0) (s2:aA_ a b d=0) (hx:ovl a.x b.x c.x d.x=true) :
  onP a c d=true∨onP b c d=true∨onP c a b=true∨onP d a b=true:=by
 have hd:a.x≠b.x:=by
  intro e
  have k:(d.x-c.x)*(a.y-b.y)=0:=by
   unfold aA_ at t1 t2
   have:(d.x-c.x)*(a.y-b.y)=(d.y-c.y)*(a.x-b.x):=by grind
   rw[this,e]
   grind
  rcases Int.mul_eq_zero.1 k with h|h
  ·omega
  ·exact hab (by
    cases a;cases b
    simp only at e h
    congr
    omega)
 rw[oR_] at hx
 have on1:∀p q r:Pl,r.x≠q.x→aA_ q r p=0→(min q.x r.x≤p.x∧p.x≤max q.x r.x)→onP p q r=true:=fun p q r hne ht hb=>by
  have:=aLP (dx:=r.x-q.x) (dy:=r.y-q.y) (px:=p.x-q.x) (py:=p.y-q.y) (by omega) (by unfold aA_ at ht;omega) (by omega)
  exact hS_.2 ⟨ht,hb,by omega⟩
 have hc:(min c.x d.x≤a.x∧a.x≤max c.x d.x)∨(min c.x d.x≤b.x∧b.x≤max c.x d.x)∨(min a.x b.x≤c.x∧c.x≤max a.x b.x):=by omega
 rcases hc with h|h|h
 ·exact .inl (on1 a c d hw t1 h)
 ·exact .inr (.inl (on1 b c d hw t2 h))
 ·exact .inr (.inr (.inl (on1 c a b (fun e=>hd e.symm) s1 h)))
def swP (p:Pl):Pl:=⟨p.y,p.x⟩
theorem nX_ (a b c:Pl):aA_ (swP a) (swP b) (swP c) = -aA_ a b c:=by unfold aA_ swP;grind
theorem zY_ {p a b:Pl} : onP (swP p) (swP a) (swP b)=true↔onP p a b=true:=by
 rw[hS_,hS_,nX_]
 unfold swP
 simp only
 constructor <;> rintro⟨h1,h2,h3⟩ <;> exact⟨by omega,h3,h2⟩
theorem sB_ {a b c d:Pl} (s1:aA_ a b c=0) (hx:ovl a.x b.x c.x d.x=true) (hy:ovl a.y b.y c.y d.y=true) (ht:aA_ c d a*aA_ c d b≤0) :
  onP a c d=true∨onP b c d=true∨onP c a b=true∨onP d a b=true:=by
 have md:=aFO a b c d
 have mx:=aFN a b c d
 have my:=aFM a b c d
 rw[s1] at md mx my
 have ex:(c.x-b.x)*aA_ c d a=(c.x-a.x)*aA_ c d b:=by
  have:aA_ a b d=aA_ c d a-aA_ c d b:=by omega
  rw[this] at mx
  grind
 have ey:(c.y-b.y)*aA_ c d a=(c.y-a.y)*aA_ c d b:=by
  have:aA_ a b d=aA_ c d a-aA_ c d b:=by omega
  rw[this] at my
  grind
 by_cases hz:aA_ c d a=0∧aA_ c d b=0
 ·have s2:aA_ a b d=0:=by omega
  by_cases hcd:c=d
  ·subst hcd
   rw[oR_] at hx hy
   exact .inr (.inr (.inl (hS_.2 ⟨s1,by omega,by omega⟩)))
  by_cases hab:a=b
  ·subst hab
   rw[oR_] at hx hy
   exact .inl (hS_.2 ⟨hz.1,by omega,by omega⟩)
  by_cases hw:d.x=c.x
  ·have hw2:d.y≠c.y:=fun e=>hcd (by cases c;cases d;simp_all)
   have:=aFS (a:=swP a) (b:=swP b) (c:=swP c) (d:=swP d) hw2 (fun e=>hab (by
    have e1:=congrArg Pl.x e
    have e2:=congrArg Pl.y e
    unfold swP at e1 e2
    cases a;cases b;simp_all)) (by rw[nX_];omega) (by rw[nX_];omega) (by rw[nX_];omega) (by rw[nX_];omega) hy
   rw[zY_,zY_,zY_,zY_] at this
   exact this
  ·exact aFS hw hab hz.1 hz.2 s1 s2 hx
 ·exact .inr (.inr (.inl (hS_.2 ⟨s1,aAH.1 (zX_ ex ht hz),aAH.1 (zX_ ey ht hz)⟩)))
theorem nF_ {a b c d:Pl} (ha:vP a=true) (hb:vP b=true) (hc:vP c=true) (hd:vP d=true) (h:onP c a b=true):cX_ a b c d=true:=by
 obtain⟨s1,bx,by'⟩:=hS_.1 h
 have md:=aFO a b c d
 have mx:=aFN a b c d
 have my:=aFM a b c d
 rw[s1] at md mx my
 have ex:(c.x-b.x)*aA_ c d a=(c.x-a.x)*aA_ c d b:=by
  have:aA_ a b d=aA_ c d a-aA_ c d b:=by omega
  rw[this] at mx
  grind
 have ey:(c.y-b.y)*aA_ c d a=(c.y-a.y)*aA_ c d b:=by
  have:aA_ a b d=aA_ c d a-aA_ c d b:=by omega
  rw[this] at my
  grind
 have ht:aA_ c d a*aA_ c d b≤0:=by
  apply Classical.byContradiction
  intro k
  have p1:=oG_ ex (by omega) (aAH.2 bx)
  have p2:=oG_ ey (by omega) (aAH.2 by')
  have e:a=c:=by
   cases a;cases c
   simp only at p1 p2
   congr <;> omega
  subst e
  apply k
  have:aA_ a d a=0:=by unfold aA_;grind
  rw[this]
  omega
 unfold cX_
 rw[ha,hb,hc,hd]
 simp only[Bool.true_and,Bool.and_eq_true,decide_eq_true_eq]
 rw[aX_ (by simp[ha,hb,hc]),aX_ (by simp[ha,hb,hd]),aX_ (by simp[ha,hc,hd]),aX_ (by simp[hb,hc,hd]),s1]
 refine⟨⟨⟨oR_.2 (by omega),oR_.2 (by omega)⟩,by show(0:Int)*_≤0;omega⟩,?_⟩
 have q1:=dC_ (aA_ c d a)
 have q2:=dC_ (aA_ c d b)
 generalize aA_ c d a=x at *
 generalize aA_ c d b=y at *
 rcases q1 with ⟨k1,e1⟩|⟨k1,e1⟩|⟨k1,e1⟩ <;> rcases q2 with ⟨k2,e2⟩|⟨k2,e2⟩|⟨k2,e2⟩ <;> rw[e1,e2] <;> try decide
 ·have:=Int.mul_pos_of_neg_of_neg k1 k2
  omega
 ·have:=Int.mul_pos k1 k2
  omega
theorem aLA {a b c d:Pl} (ha:vP a=true) (hb:vP b=true) (hc:vP c=true) (hd:vP d=true):cX_ a b c d=(onP a c d||onP b c d||onP c a b||onP d a b||strP a b c d):=by
 rw[Bool.eq_iff_iff]
 constructor
 ·intro h
  unfold cX_ at h
  rw[ha,hb,hc,hd] at h
  simp only[Bool.true_and,Bool.and_eq_true,decide_eq_true_eq] at h
  rw[aX_ (by simp[ha,hb,hc]),aX_ (by simp[ha,hb,hd]),aX_ (by simp[ha,hc,hd]),aX_ (by simp[hb,hc,hd])] at h
  obtain⟨⟨⟨hx,hy⟩,h1⟩,h2⟩:=h
  simp only[Bool.or_eq_true]
  have pr:∀x y:Int,cmpI x 0*cmpI y 0≤0→x*y≤0:=fun x y h=>by
   rcases dC_ x with ⟨k1,e1⟩|⟨k1,e1⟩|⟨k1,e1⟩ <;> rcases dC_ y with ⟨k2,e2⟩|⟨k2,e2⟩|⟨k2,e2⟩ <;> rw[e1,e2] at h
   ·omega
   ·rw[k2];omega
   ·have:=Int.mul_pos (show 0 < -x by omega) k2
    rw[Int.neg_mul] at this;omega
   ·rw[k1];omega
   ·rw[k1];omega
   ·rw[k1];omega
   ·have:=Int.mul_pos k1 (show 0 < -y by omega)
    rw[Int.mul_neg] at this;omega
   ·rw[k2];omega
   ·omega
  have g1:=pr _ _ h1
  have g2:=pr _ _ h2
  by_cases hs:cmpI (aA_ a b c) 0*cmpI (aA_ a b d) 0<0∧cmpI (aA_ c d a) 0*cmpI (aA_ c d b) 0<0
  ·right
   unfold strP
   rw[decide_eq_true hs.1,decide_eq_true hs.2]
   rfl
  ·left
   have hz:aA_ a b c=0∨aA_ a b d=0∨aA_ c d a=0∨aA_ c d b=0:=by
    have sn:∀x y:Int,x≠0→y≠0→cmpI x 0*cmpI y 0≤0→cmpI x 0*cmpI y 0<0:=fun x y hx hy h=>by
     rcases dC_ x with ⟨k1,e1⟩|⟨k1,e1⟩|⟨k1,e1⟩ <;> rcases dC_ y with ⟨k2,e2⟩|⟨k2,e2⟩|⟨k2,e2⟩ <;> rw[e1,e2] at h⊢<;> omega
    apply Classical.byContradiction
    intro hn
    exact hs ⟨sn _ _ (fun e=>hn (.inl e)) (fun e=>hn (.inr (.inl e))) h1,sn _ _ (fun e=>hn (.inr (.inr (.inl e)))) (fun e=>hn (.inr (.inr (.inr e)))) h2⟩
   have ors:∀{p q r s:Prop},(p∨q∨r∨s)→(((p∨q)∨r)∨s):=fun h=>by
    rcases h with h|h|h|h
    ·exact .inl (.inl (.inl h))
    ·exact .inl (.inl (.inr h))
    ·exact .inl (.inr h)
    ·exact .inr h
   rcases hz with z|z|z|z
   ·exact ors (sB_ z hx hy g2)
   ·have:=sB_ (a:=a) (b:=b) (c:=d) (d:=c) z (by rw[vF_];exact hx) (by rw[vF_];exact hy) (by rw[fX_ c d a,fX_ c d b,Int.neg_mul_neg];exact g2)
    rw[nG_ a,nG_ b] at this
    rcases this with h|h|h|h
    ·exact ors (.inl h)
    ·exact ors (.inr (.inl h))
    ·exact ors (.inr (.inr (.inr h)))
    ·exact ors (.inr (.inr (.inl h)))
   ·have:=sB_ (a:=c) (b:=d) (c:=a) (d:=b) z (by rw[iS_];exact hx) (by rw[iS_];exact hy) g1
    rcases this with h|h|h|h
    ·exact ors (.inr (.inr (.inl h)))
    ·exact ors (.inr (.inr (.inr h)))
    ·exact ors (.inl h)
    ·exact ors (.inr (.inl h))
   ·have:=sB_ (a:=c) (b:=d) (c:=b) (d:=a) z (by rw[iS_,nD_];exact hx) (by rw[iS_,nD_];exact hy) (by rw[fX_ a b c,fX_ a b d,Int.neg_mul_neg];exact g1)
    rw[nG_ c,nG_ d] at this
    rcases this with h|h|h|h
    ·exact ors (.inr (.inr (.inl h)))
    ·exact ors (.inr (.inr (.inr h)))
    ·exact ors (.inr (.inl h))
    ·exact ors (.inl h)
 ·intro h
  simp only[Bool.or_eq_true] at h
  rcases h with (((h|h)|h)|h)|h
  ·rw[←iY_];exact nF_ hc hd ha hb h
  ·rw[←iY_,←pM_];exact nF_ hc hd hb ha h
  ·exact nF_ ha hb hc hd h
  ·rw[←pM_];exact nF_ ha hb hd hc h
  ·unfold strP at h
   simp only[Bool.and_eq_true,decide_eq_true_eq] at h
   exact wD_ ha hb hc hd (by rw[aX_ (by simp[ha,hb,hc]),aX_ (by simp[ha,hb,hd])];exact h.1) (by rw[aX_ (by simp[ha,hc,hd]),aX_ (by simp[hb,hc,hd])];exact h.2)
end Go.Proofs.YtjfdefglpoancaaGreatDoor
