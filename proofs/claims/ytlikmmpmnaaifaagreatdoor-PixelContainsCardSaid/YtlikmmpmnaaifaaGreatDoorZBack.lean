/- - -/
import Derived.RangeFuncNested
import Derived.RangeFuncBound
import Derived.RangeFuncCalls
import Derived.RangeFuncLeaves
import Derived.RangeFuncBox
import Derived.Shelf.Abstract
import Derived.Shelf.RegionOpen
import Derived.WalkKit
import Derived.OwnWalkIn
import Derived.TacticsInMore
import Derived.LoopNIn
import Derived.LoopIn
import Derived.Stop.RegionWithIn
import Derived.IntWalk
import Derived.Test.YtlikmmpmnaaifaaGreatDoorZNum
import Derived.Test.YtlikmmpmnaaifaaGreatDoorZAri
set_option maxHeartbeats 40000000
set_option maxRecDepth 1000000
open Go.Lib (hid)
namespace Go.Proofs.YtlikmmpmnaaifaaGreatDoor
open Go.RowKit Go.Shelf
attribute [local go_sem] Oper.semAt_some
abbrev BkEl (L:Nat):={ p:Nat×Nat // p.1<L∧p.2<10000 }
def wO_ {L:Nat} (x:BkEl L):Array Value:=#[Value.int .i64 (x.1.1:Int),Value.int .i64 (x.1.2:Int)]
def bkUp (xs:List Nat) (k:Nat):List (Nat×Nat):=(List.range k).map fun j=>(xs.length-1-j,xs[xs.length-1-j]?.getD 0)
theorem fB_ (xs:List Nat) (k:Nat):bkUp xs (k+1)=bkUp xs k++[(xs.length-1-k,xs[xs.length-1-k]?.getD 0)]:=by simp[bkUp,List.range_succ]
theorem wN_ (xs:List Nat) (k:Nat):(bkUp xs k).length=k:=by simp[bkUp]
def aX_ (n₀ Bs:Nat) (A B:World):Prop:=Below n₀ A B∧B.heap[Bs]?=A.heap[Bs]?
theorem aX_.refl (n₀ Bs:Nat) (A:World):aX_ n₀ Bs A A:=⟨Below.refl _ _,rfl⟩
theorem aX_.trans {n₀ Bs:Nat} {A B C:World} (h:aX_ n₀ Bs A B) (k:aX_ n₀ Bs B C):aX_ n₀ Bs A C:=⟨h.1.trans k.1,k.2.trans h.2⟩
theorem aX_.of_below {n₀ Bs m:Nat} {A B:World} (h:Below m A B) (h1:n₀≤m) (h2:Bs<m):aX_ n₀ Bs A B:=⟨h.mono h1,h.block Bs h2⟩
theorem aX_.setCell {n₀ Bs:Nat} {A B:World} (h:aX_ n₀ Bs A B) {p:Addr} (hp:n₀≤p.block) (hq:Bs≠p.block) (u:Value):aX_ n₀ Bs A (B.setCell p u):=
 ⟨h.1.setCell hp u,(Below.heap_setCell _ _ _ _ hq).trans h.2⟩
theorem aX_.cell {n₀ Bs:Nat} {A B:World} (h:aX_ n₀ Bs A B) (o:Nat):B.cell? ⟨Bs,o,none⟩=A.cell? ⟨Bs,o,none⟩:=World.cell?_of_block (w:=A) h.2
theorem jS_ {n₀ Bs:Nat} {w:World} (hn:n₀≤w.heap.size) (hb:Bs<w.heap.size) (W:World) (l:Nat) (o o':Obj) (hl:w.heap.size≤l) (h:W.heap[l]?=some o) (h1:o.isCells=false) (h2:o.isWalk=false):aX_ n₀ Bs W (W.putObj l o'):=
 ⟨belowK_b hn W l o o' hl h h1 h2,(grownBy_putObj' W l o').block Bs (by have:=(Array.getElem?_eq_some_iff.1 h).1;omega) (fun e=>by simp only[Option.some.injEq] at e;omega)⟩
theorem aMD (F:Fence) (n:Nat) (h8:F.fn 292) (hro:F.round=none) (hn:1≤n) (l Bs n₀ hi lo:Nat) (sv:Value) (xs:List Nat) (hb:hi≤n₀) (hd:∀d∈xs,d<10000) (J Jx:List (BkEl xs.length)→World→Prop)
  (hY:∀pre x W,J pre W→pre.length<xs.length→YieldAt F (n-1) Tryz.prog l (wO_ x) W fun e W'=>
   (e=.returned (.bool true)∧J (pre++[x]) W'∧aX_ n₀ Bs W W')∨(e=.returned (.bool false)∧Jx (pre++[x]) W'))
  (W:World) (hBs:W.cell? ⟨Bs,0,none⟩=some sv) (hI:Ns W sv xs lo hi) (h0:J [] W) :
  CallsIn F n Tryz.prog 292 #[.func (.yield l) #[] #[],.pointer (some ⟨Bs,0,none⟩)] W fun e W'=>(∃v,e=.returned v)∧
   ((∃ys,ys.map (·.1)=bkUp xs xs.length∧J ys W')∨(∃pre,(∃k,k≤xs.length∧pre.map (·.1)=bkUp xs k)∧Jx pre W')):=by
 obtain⟨a,cap,rfl⟩:∃a cap,sv=.slice a xs.length cap:=by obtain⟨a,cap,e,_⟩:=hI;exact⟨a,cap,e⟩
 have hlen:=hI.len
 unfold maxLen at hlen
 have HI:=hid hI
 clear hI
 refine callsIn_of_wp Tryz.func292 rfl h8 ?_ hro
 simp only[Tryz.ntmps292,List.size_toArray,List.length_cons,List.length_nil,Nat.reduceAdd,Nat.reduceSub,Array.replicate_succ,Array.replicate_zero,List.push_toArray,List.append_toArray,List.nil_append,List.cons_append]
 gi_wp2
 gi_loopw [3] (fun i wr=>∃(k:Nat) (ys:List (BkEl xs.length)),k≤xs.length∧i=.int .i64 ((xs.length:Int)-1-k)∧ys.map (·.1)=bkUp xs k∧J ys wr∧aX_ n₀ Bs W wr)
  (fun i _=>(intOf i+1).toNat)
 case atStart=>exact⟨0,[],Nat.zero_le _,by go_num,rfl,h0,aX_.refl _ _ _⟩
 case round=>
  obtain⟨k,ys,hk,rfl,hys,hJs,hnx⟩:=hrel
  have hylen:ys.length=k:=by have:=congrArg List.length hys;simpa[wN_] using this
  have HYS:=hid hys
  clear hys
  by_cases hlt:k<xs.length
  ·have hcB:=(hnx.cell 0).trans hBs
   have hIr:Ns wr _ xs lo hi:=HI.out.below hnx.1 hb
   obtain⟨i,hk2,hi2⟩:∃i,i<xs.length∧i=xs.length-1-k:=⟨_,by omega,rfl⟩
   have hi3:(xs.length:Int)-1-k=i:=by omega
   rw[hi3]
   have HI2:=hid hi2
   clear hi2 hi3
   obtain⟨b,off,rfl,_,_,hcx⟩:=hIr.at (k:=i) hk2
   have hx:xs[i]<10000:=hd _ (List.getElem_mem _)
   obtain⟨fn,tmps,assign,body,hy,hR⟩:=hY ys ⟨(i,xs[i]),hk2,hx⟩ wr hJs (by omega)
   simp only[wO_] at hy
   clear hIr
   gi_wp2
   refine hR.mono ?_
   rintro e W3 (⟨rfl,hJ3,hk3⟩|⟨rfl,hJx3⟩)
   ·gi_wp2
    go_roundw
    case rel=>exact⟨k+1,_,by omega,congrArg (Value.int .i64) (by have:=HI2.out;omega),by rw[List.map_append,HYS.out,fB_];simp[HI2.out,show xs.length-1-k<xs.length from by omega],hJ3,hnx.trans hk3⟩
    case measure=>have:=HI2.out;simp only[intOf];omega
   ·gi_wp2
    refine bodyPost_ret (results_none rfl _ _ _) rfl ?_
    exact⟨⟨_,rfl⟩,.inr ⟨_,⟨k+1,by omega,by rw[List.map_append,HYS.out,fB_];simp[HI2.out,show xs.length-1-k<xs.length from by omega]⟩,hJx3⟩⟩
  ·obtain rfl:k=xs.length:=by omega
   gi_wp2
   go_end0
   exact⟨⟨_,rfl⟩,.inl ⟨ys,HYS.out,hJs⟩⟩
theorem rL_ (F:Fence) (n:Nat) (h6:F.fn 257) (hro:F.round=none) (a:Option Addr) (len cap:Nat) (w:World) :
  CallsIn F n Tryz.prog 257 #[.slice a len cap] w fun e w'=>e=.returned (.func (.func 292) #[] #[.pointer (some ⟨w.heap.size,0,none⟩)])∧w.alloc (.cells #[.slice a len cap] 220)=w':=by
 refine callsIn_of_wp Tryz.func257 rfl h6 ?_ hro
 simp only[Tryz.ntmps257,List.size_toArray,List.length_cons,List.length_nil,Nat.reduceAdd,Nat.reduceSub,Array.replicate_succ,Array.replicate_zero,List.push_toArray,List.append_toArray,List.nil_append,List.cons_append]
 gi_wp2
 go_ret
 exact⟨rfl,rfl⟩
theorem hF_ (F:Fence) (n:Nat) (h8:F.fn 292) (hro:F.round=none) (hn:1≤n) (Bs n₀ lo hi:Nat) (sv:Value) (xs:List Nat) (w:World) (hBs:Bs<w.heap.size) (hn₀:n₀≤w.heap.size)
  (hc:w.cell? ⟨Bs,0,none⟩=some sv) (hI:Ns w sv xs lo hi) (hb:hi≤n₀) (hd:∀d∈xs,d<10000) :
  SeqStopsK F n Tryz.prog 292 #[.pointer (some ⟨Bs,0,none⟩)] (wO_ (L:=xs.length)) (aX_ n₀ Bs) (fun ys=>ys.map (·.1)=bkUp xs xs.length)
   (fun pre=>∃k,k≤xs.length∧pre.map (·.1)=bkUp xs k) xs.length w:=fun l J Jx W hW _ _ hY h0=>
 aMD F n h8 hro hn l Bs n₀ hi lo sv xs hb hd J Jx hY W ((hW.cell (p:=⟨Bs,0,none⟩) hBs).trans hc) (hI.below hW (by omega)) h0
def cmpI (a b:Int):Int:=if a<b then -1 else if b<a then 1 else 0
theorem hO_ (a b:Int) (w:World) :
  Calls Tryz.prog 99 #[.int .i64 a,.int .i64 b] w fun e w'=>e=.returned (.int .i64 (cmpI a b))∧w=w':=by
 have h1:(a != a)=false:=by simp
 have h2:(b != b)=false:=by simp
 rcases Int.lt_trichotomy a b with h|h|h
 ·have hc:cmpI a b = -1:=by simp[cmpI,h]
  rw[hc]
  clear hc
  go_enter Tryz.func99,Tryz.ntmps99
  go_wp2
  go_ret
  exact⟨rfl,rfl⟩
 ·subst h
  have hc:cmpI a a=0:=by simp[cmpI]
  rw[hc]
  clear hc
  go_enter Tryz.func99,Tryz.ntmps99
  go_wp2
  go_ret
  exact⟨rfl,rfl⟩
 ·have hc:cmpI a b=1:=by simp[cmpI,h];omega
  have hn:¬a<b:=by omega
  rw[hc]
  clear hc
  go_enter Tryz.func99,Tryz.ntmps99
  go_wp2
  go_ret
  exact⟨rfl,rfl⟩
theorem aBL {B n m:Nat} (hB:2≤B) (h:¬(dig B n).length=(dig B m).length):cmpI (dig B n).length (dig B m).length=cmpI n m:=by
 unfold cmpI
 rcases Nat.lt_or_gt_of_ne h with h1|h1
 ·have:n<m:=by
   rcases Nat.lt_or_ge n m with h2|h2
   ·exact h2
   ·have:=aZ_ hB h2;omega
  rw[if_pos (by omega),if_pos (by omega)]
 ·have:m<n:=by
   rcases Nat.lt_or_ge m n with h2|h2
   ·exact h2
   ·have:=aZ_ hB h2;omega
  rw[if_neg (by omega),if_pos (by omega),if_neg (by omega),if_pos (by omega)]
theorem aBW {B n m:Nat} (hB:2≤B) (hl:(dig B n).length=(dig B m).length) (ys:List (BkEl (dig B n).length)) (hys:ys.map (·.1)=bkUp (dig B n) (dig B n).length) (hp:∀p∈ys,(dig B m)[p.1.1]?.getD 0=p.1.2):n=m:=by
 refine aGZ hB (List.ext_getElem hl fun i h1 h2=>?_)
 have hm:(i,(dig B n)[i]?.getD 0)∈ys.map (·.1):=by
  rw[hys]
  simp only[bkUp,List.mem_map,List.mem_range]
  exact⟨(dig B n).length-1-i,by omega,by rw[show(dig B n).length-1-((dig B n).length-1-i)=i from by omega]⟩
 obtain⟨p,hp1,hp2⟩:=List.mem_map.1 hm
 have:=hp p hp1
 rw[hp2] at this
 simp only[List.getElem?_eq_getElem h1,List.getElem?_eq_getElem h2,Option.getD_some] at this
 exact this.symm
theorem aCL {B:Nat} (hB:2≤B):∀(a b:List Nat) (x y:Nat),a.length=b.length→(∀d∈a,d<B)→(∀d∈b,d<B)→x<y→∀c,val B (a++x::c)<val B (b++y::c):=by
 intro a b x y hl ha hb hxy c
 rw[cY_,cY_,hl]
 have h1:=xA_ hB a ha
 rw[hl] at h1
 simp only[val]
 have h2:B^b.length*(x+B*val B c)+B^b.length≤B^b.length*(y+B*val B c):=by
  rw[←Nat.mul_succ]
  exact Nat.mul_le_mul_left _ (by omega)
 omega
theorem aBV {B n m:Nat} (hB:2≤B) (hl:(dig B n).length=(dig B m).length) (ini:List (BkEl (dig B n).length)) (last:BkEl (dig B n).length) (k:Nat) (hk:k≤(dig B n).length)
  (hys:(ini++[last]).map (·.1)=bkUp (dig B n) k) (hp:∀p∈ini,(dig B m)[p.1.1]?.getD 0=p.1.2) (hne:¬(dig B m)[last.1.1]?.getD 0=last.1.2) :
  cmpI (last.1.2:Nat) ((dig B m)[last.1.1]?.getD 0:Nat)=cmpI n m:=by
 obtain⟨j,rfl⟩:∃j,k=j+1:=by
  cases k with
  | zero=>simp[bkUp] at hys
  | succ j=>exact⟨j,rfl⟩
 rw[fB_,List.map_append] at hys
 obtain⟨h1,h2⟩:=List.append_inj' hys rfl
 simp only[List.map_cons,List.map_nil,List.cons.injEq,and_true] at h2
 obtain⟨i,hi⟩:∃i,i=(dig B n).length-1-j:=⟨_,rfl⟩
 rw[←hi] at h2
 have hin:i<(dig B n).length:=by omega
 have him:i<(dig B m).length:=by omega
 rw[h2] at hne⊢
 simp only[List.getElem?_eq_getElem hin,List.getElem?_eq_getElem him,Option.getD_some] at hne⊢
 have htail:(dig B n).drop (i+1)=(dig B m).drop (i+1):=by
  refine List.ext_getElem (by simp[hl]) fun r h3 h4=>?_
  simp only[List.length_drop] at h3 h4
  have hm:(i+1+r,(dig B n)[i+1+r]?.getD 0)∈ini.map (·.1):=by
   rw[h1]
   simp only[bkUp,List.mem_map,List.mem_range]
   exact⟨(dig B n).length-1-(i+1+r),by omega,by rw[show(dig B n).length-1-((dig B n).length-1-(i+1+r))=i+1+r from by omega]⟩
  obtain⟨p,hp1,hp2⟩:=List.mem_map.1 hm
  have:=hp p hp1
  rw[hp2] at this
  simp only[List.getElem?_eq_getElem (show i+1+r<(dig B n).length from by omega),List.getElem?_eq_getElem (show i+1+r<(dig B m).length from by omega),Option.getD_some] at this
  simp only[List.getElem_drop]
  exact this.symm
 have en:dig B n=(dig B n).take i++(dig B n)[i]::(dig B n).drop (i+1):=by rw[List.getElem_cons_drop,List.take_append_drop]
 have em:dig B m=(dig B m).take i++(dig B m)[i]::(dig B n).drop (i+1):=by rw[htail,List.getElem_cons_drop,List.take_append_drop]
 have vn:=cF_ hB n
 have vm:=cF_ hB m
 have hlen:((dig B n).take i).length=((dig B m).take i).length:=by simp;omega
 have dn:∀d∈(dig B n).take i,d<B:=fun d hd=>cA_ hB n d (List.mem_of_mem_take hd)
 have dm:∀d∈(dig B m).take i,d<B:=fun d hd=>cA_ hB m d (List.mem_of_mem_take hd)
 rcases Nat.lt_or_gt_of_ne (fun h=>hne h.symm:(dig B n)[i]≠(dig B m)[i]) with h5|h5
 ·have h6:=aCL hB _ _ _ _ hlen dn dm h5 ((dig B n).drop (i+1))
  rw[←en,←em,vn,vm] at h6
  unfold cmpI
  rw[if_pos (by omega),if_pos (by omega)]
 ·have h6:=aCL hB _ _ _ _ hlen.symm dm dn h5 ((dig B n).drop (i+1))
  rw[←en,←em,vn,vm] at h6
  unfold cmpI
  rw[if_neg (by omega),if_pos (by omega),if_neg (by omega),if_pos (by omega)]
theorem Sl.own {W W':World} {row:Option Nat} {v:Value} {n sz:Nat} {cs:List Value} {lo hi:Nat} (h:Sl W v n sz cs lo hi) (hg:W.grownBy W' row) (hr:∀r,row=some r→∃o:Obj,W.heap[r]?=some o∧o.isCells=false):Sl W' v n sz cs lo hi:=by
 obtain⟨a,cap,hv,h3,h4,h5,h6,h7⟩:=h
 refine⟨a,cap,hv,h3,h4,h5,h6,fun ad ha=>?_⟩
 obtain⟨b,off,e,l1,l2,l3⟩:=h7 ad ha
 exact⟨b,off,e,l1,l2,fun i u hu=>cell_kept (l3 i u hu) hg hr⟩
theorem fQ_ (v1 v2:Value) (n m:Nat) (lo1 hi1 lo2 hi2:Nat) (w:World) (h1:Nm w v1 n lo1 hi1) (h2:Nm w v2 m lo2 hi2) (b1:hi1≤w.heap.size) (b2:hi2≤w.heap.size) :
  Calls Tryz.prog 238 #[v1,v2] w fun e w'=>e=.returned (.int .i64 (cmpI n m))∧Below w.heap.size w w':=by
 obtain⟨a1,cap1,rfl⟩:∃a cap,v1=.slice a (dig 10000 n).length cap:=by obtain⟨a,cap,e,_⟩:=h1;exact⟨a,cap,e⟩
 obtain⟨a2,cap2,rfl⟩:∃a cap,v2=.slice a (dig 10000 m).length cap:=by obtain⟨a,cap,e,_⟩:=h2;exact⟨a,cap,e⟩
 have g1:=h1.len
 have g2:=h2.len
 unfold maxLen at g1 g2
 have H1:=hid h1
 have H2:=hid h2
 clear h1 h2
 by_cases hl:(dig 10000 n).length=(dig 10000 m).length
 ·have hlb:(((dig 10000 n).length:Int) != ((dig 10000 m).length:Int))=false:=by rw[bne_eq_false_iff_eq];omega
  have HL:=hid hl
  clear hl
  refine(callsIn_wide (n:=3)).1 ?_
  refine callsIn_of_wp_marks Tryz.func238 rfl trivial ?_ rfl
  simp only[Tryz.ntmps238,List.size_toArray,List.length_cons,List.length_nil,Nat.reduceAdd,Nat.reduceSub,Array.replicate_succ,Array.replicate_zero,List.push_toArray,List.append_toArray,List.nil_append,List.cons_append]
  gi_wp2_with (refine⟨trivial,?_⟩;gi_at_call 257;refine(rL_ Fence.wide _ trivial rfl _ _ _ _).mono ?_;rintro e w' ⟨rfl,rfl⟩)
  have bM:=Boxed.new w 220 (.slice a2 (dig 10000 m).length cap2)
  have bR:=Boxed.new (w.alloc (.cells #[.slice a2 (dig 10000 m).length cap2] 220)) 3 (.int .i64 0)
  rw[World.size_alloc] at bR
  obtain⟨W0,hW0⟩:∃W0,(w.alloc (.cells #[.slice a2 (dig 10000 m).length cap2] 220)).alloc (.cells #[.int .i64 0] 3)=W0:=⟨_,rfl⟩
  have hs0:W0.heap.size=w.heap.size+1+1:=by rw[←hW0];simp
  have hB0:Below w.heap.size w W0:=by rw[←hW0];exact((Below.refl _ _).alloc (Nat.le_refl _) _).alloc (by simp) _
  have bM0:Boxed W0 w.heap.size 220 (.slice a2 (dig 10000 m).length cap2):=by rw[←hW0];exact bM.alloc _
  have bR0:Boxed W0 (w.heap.size+1) 3 (.int .i64 0):=by rw[←hW0];exact bR
  have bN:=Boxed.new W0 220 (.slice a1 (dig 10000 n).length cap1)
  rw[hs0] at bN
  rw[hW0]
  clear hW0 bM bR
  have hl1:=H1.out
  have hl2:=H2.out
  have hB1:Below W0.heap.size W0 (W0.alloc (.cells #[.slice a1 (dig 10000 n).length cap1] 220)):=(Below.refl _ _).alloc (Nat.le_refl _) _
  refine wpIn_rangeFunc_ownG rfl (by omega) (gf:=292) (lb:=#[.pointer (some ⟨w.heap.size+1+1,0,none⟩)]) rfl trivial (enters_of Tryz.func292 (by kernel_rfl) rfl)
   (hF_ Fence.wide _ trivial rfl (by omega) (w.heap.size+1+1) w.heap.size lo1 hi1 _ (dig 10000 n) (W0.alloc (.cells #[.slice a1 (dig 10000 n).length cap1] 220)) (by simp;omega) (by simp;omega) bN.cell ((hl1.below hB0 b1).below hB1 (by omega)) b1 (cA_ (by omega) n))
   aX_.trans (jS_ (by simp;omega) (by simp;omega)) (Below.refl _ _) (fun _=>rfl)
   (fun pre W=>((∀p∈pre,(dig 10000 m)[p.1.1]?.getD 0=p.1.2)∧W.cell? ⟨w.heap.size,0,none⟩=some (.slice a2 (dig 10000 m).length cap2)∧Nm W (.slice a2 (dig 10000 m).length cap2) m lo2 hi2∧W.cell? ⟨w.heap.size+1,0,none⟩=some (.int .i64 0)∧W.frozen? ⟨w.heap.size+1,0,none⟩=false)∧Below w.heap.size w W)
   (fun c pre W=>(c=.ret∧∃ini last,pre=ini++[last]∧(∀p∈ini,(dig 10000 m)[p.1.1]?.getD 0=p.1.2)∧¬(dig 10000 m)[last.1.1]?.getD 0=last.1.2∧W.cell? ⟨w.heap.size+1,0,none⟩=some (.int .i64 (cmpI (last.1.2:Nat) ((dig 10000 m)[last.1.1]?.getD 0:Nat))))∧Below w.heap.size w W)
   ?I ?Ix ?h0
   (fun x=>{ tmps:=#[.slice a1 (dig 10000 n).length cap1,.slice a2 (dig 10000 m).length cap2,undef,.pointer (some ⟨w.heap.size,0,none⟩),.pointer (some ⟨w.heap.size+1,0,none⟩),.int .i64 (x.1.1:Int),.int .i64 (x.1.2:Int),.slice a1 (dig 10000 n).length cap1,.int .i64 (dig 10000 n).length,.slice a2 (dig 10000 m).length cap2,.int .i64 (dig 10000 m).length,.bool false,undef,undef,undef,undef,undef,.slice a1 (dig 10000 n).length cap1,.func (.func 292) #[] #[.pointer (some ⟨w.heap.size+1+1,0,none⟩)],.int .i64 (x.1.1:Int),.int .i64 (x.1.2:Int),undef,undef,undef,undef,undef,undef,undef,undef,undef,undef,undef,undef],defers:=[] }) ?assign ?body ?done ?stop
  case I=>exact OwnFrom.and (Own.from (fun s A B row hs hg hr=>⟨hs.1,cell_kept hs.2.1 hg hr,hs.2.2.1.own hg hr,cell_kept hs.2.2.2.1 hg hr,(frozen_kept hs.2.2.2.1 hg hr).trans hs.2.2.2.2⟩) _) (ownFrom_below (Nat.le_refl _) (by simp;omega))
  case Ix=>exact fun c=>OwnFrom.and (Own.from (fun s A B row hs hg hr=>by obtain⟨hc,ini,last,e1,e2,e3,e4⟩:=hs;exact⟨hc,ini,last,e1,e2,e3,cell_kept e4 hg hr⟩) _) (ownFrom_below (Nat.le_refl _) (by simp;omega))
  case h0=>exact⟨⟨by simp,(bM0.alloc _).cell,(hl2.below hB0 b2).below hB1 (by omega),(bR0.alloc _).cell,(bR0.alloc _).frozen⟩,hB0.trans (hB1.mono (by omega))⟩
  case assign=>
   intro l x W K hK
   simp only[wO_]
   gi_wp2
   exact hK
  case body=>
   rintro l pre x W ⟨⟨hp,hcM,hNm,hcR,hfR⟩,hB⟩ _
   obtain⟨⟨i,d⟩,hi,hd⟩:=x
   simp only at hi hd⊢
   have hi2:i<(dig 10000 m).length:=by rw[←HL.out];exact hi
   obtain⟨b,off,rfl,hlo,hhi,hcx⟩:=hNm.at (k:=i) hi2
   have HN:=hid hNm
   have HP:=hid hp
   have hge:(dig 10000 m)[i]?.getD 0=(dig 10000 m)[i]:=by rw[List.getElem?_eq_getElem hi2];rfl
   have HG:=hid hge
   clear hNm hp hge
   by_cases he:d=(dig 10000 m)[i]
   ·have hne:((d:Int) != ((dig 10000 m)[i]:Int))=false:=by rw[bne_eq_false_iff_eq];omega
    have HE:=hid he
    clear he
    gi_wp2
    exact⟨KeepsFrom.refl _ _,aX_.refl _ _ _,⟨fun p hp'=>(List.mem_append.1 hp').elim (HP.out p) (fun e=>by simp at e;subst e;simp only;rw[HG.out,HE.out]),hcM,HN.out,hcR,hfR⟩,hB⟩
   ·have hne:((d:Int) != ((dig 10000 m)[i]:Int))=true:=by rw[bne_iff_ne];omega
    gi_wp2_with (refine⟨trivial,?_⟩;gi_at_call 99;refine(CallsIn.inRound l (callsIn_wide.2 (hO_ _ _ _))).mono ?_;rintro e w' ⟨rfl,rfl⟩)
    exact⟨(KeepsOthers.setCell _ _ _).from _,⟨rfl,pre,⟨(i,d),hi,hd⟩,rfl,HP.out,by simp only;rw[HG.out];exact fun h=>he h.symm,by simp only;rw[HG.out];exact World.cell?_setCell_same' _ _ _ (by rw[hcR];rfl)⟩,hB.setCell (p:=⟨w.heap.size+1,0,none⟩) (by simp) _⟩
  case done=>
   rintro D ys W hD hys ⟨⟨hp,_,_,hcR,hfR⟩,hB⟩ hK
   have hK':=(KeepsOthers.setCell W ⟨w.heap.size+1,0,none⟩ (.int .i64 0)).same D _ hK rfl
   have hcz:cmpI n m=0:=by
    have:n=m:=aBW (by omega) HL.out ys hys hp
    rw[this];simp[cmpI]
   have HCZ:=hid hcz
   clear hcz hys hp
   gi_wp2
   refine⟨by simp,.inl ⟨_,_,rfl,run_takeDeferred hK',?_⟩⟩
   have hc5:=cell_kept (World.cell?_setCell_same' W ⟨w.heap.size+1,0,none⟩ (.int .i64 0) (by rw[hcR];rfl)) (grownBy_putObj' _ D (.deferred none)) (fun r e=>by cases e;exact⟨_,hK',rfl⟩)
   refine⟨.int .i64 0,?_,by rw[HCZ.out],(hB.setCell (p:=⟨w.heap.size+1,0,none⟩) (by simp) _).trans (belowK_b (w:=w) (Nat.le_refl _) _ D _ _ (by simp at hD;omega) hK' rfl rfl)⟩
   simp[results,Tryz.f238,go_sem,hc5]
  case stop=>
   rintro D c pre W hD ⟨k,hk,hpre⟩ ⟨⟨rfl,ini,last,e1,e2,e3,hcr⟩,hB⟩ hK
   have hcz:cmpI (last.1.2:Nat) ((dig 10000 m)[last.1.1]?.getD 0:Nat)=cmpI n m:=aBV (by omega) HL.out ini last k hk (by rw[←e1];exact hpre) e2 e3
   rw[hcz] at hcr
   clear hcz hpre e1 e2 e3
   gi_wp2
   refine⟨by simp,.inl ⟨_,_,rfl,run_takeDeferred hK,?_⟩⟩
   have hc5:=cell_kept hcr (grownBy_putObj' _ D (.deferred none)) (fun r e=>by cases e;exact⟨_,hK,rfl⟩)
   refine⟨.int .i64 (cmpI n m),?_,rfl,hB.trans (belowK_b (w:=w) (Nat.le_refl _) W D _ _ (by simp at hD;omega) hK rfl rfl)⟩
   simp[results,Tryz.f238,go_sem,hc5]
 ·have hlb:(((dig 10000 n).length:Int) != ((dig 10000 m).length:Int))=true:=by rw[bne_iff_ne];omega
  go_enter Tryz.func238,Tryz.ntmps238
  go_wp2_with (go_at_call 99;refine(hO_ _ _ _).mono ?_;rintro e w' ⟨rfl,rfl⟩)
  rw[aBL (by omega) hl]
  exact bodyPost_ret (v:=.int .i64 (cmpI n m)) (by simp[results,Tryz.results238,go_sem]) rfl ⟨rfl,((Below.refl _ _).alloc (Nat.le_refl _) _).alloc (by simp) _⟩
end Go.Proofs.YtlikmmpmnaaifaaGreatDoor
namespace Go.Proofs.YtlikmmpmnaaifaaGreatDoor
structure Pl where
 x:Int
 y:Int
deriving DecidableEq
def aB_ (a b c:Pl):Int:=(b.x-a.x)*(c.y-a.y)-(b.y-a.y)*(c.x-a.x)
def vP (p:Pl):Bool:=decide (0≤p.x)&&decide (p.x≤4095)&&decide (0≤p.y)&&decide (p.y≤4095)
def ovl (a b c d:Int):Bool:=decide (max (min a b) (min c d)≤min (max a b) (max c d))
theorem zR_ (a b c:Pl):aB_ a c b = -aB_ a b c:=by unfold aB_;grind
theorem xH_ (a b c:Pl):aB_ b c a=aB_ a b c:=by unfold aB_;grind
structure Rc where
 x:Int
 y:Int
 w:Int
 h:Int
deriving DecidableEq
def vRc (r:Rc):Bool:=vP ⟨r.x,r.y⟩&&decide (0≤r.w)&&decide (r.w≤4095-r.x)&&decide (0≤r.h)&&decide (r.h≤4095-r.y)
def cW_ (r:Rc) (p:Pl):Rc:=⟨min r.x p.x,min r.y p.y,max (r.x+r.w) p.x-min r.x p.x,max (r.y+r.h) p.y-min r.y p.y⟩
def dX_ (i o:Rc):Bool:=vRc i&&vRc o&&(decide (o.x≤i.x)&&decide (i.x+i.w≤o.x+o.w))&&(decide (o.y≤i.y)&&decide (i.y+i.h≤o.y+o.h))
def oH_ (a b:Rc):Bool:=vRc a&&vRc b&&ovl a.x (a.x+a.w) b.x (b.x+b.w)&&ovl a.y (a.y+a.h) b.y (b.y+b.h)
theorem bL_ {p:Pl} : vP p=true↔0≤p.x∧p.x≤4095∧0≤p.y∧p.y≤4095:=by
 unfold vP
 simp only[Bool.and_eq_true,decide_eq_true_eq,and_assoc]
theorem aV_ {r:Rc} : vRc r=true↔0≤r.x∧r.x≤4095∧0≤r.y∧r.y≤4095∧0≤r.w∧r.w≤4095-r.x∧0≤r.h∧r.h≤4095-r.y:=by
 unfold vRc
 simp only[Bool.and_eq_true,bL_,decide_eq_true_eq,and_assoc]
def aA_ (p:Pl) (l:List Pl):Rc:=l.foldl cW_ ⟨p.x,p.y,0,0⟩
def lowL (p:Pl):List Pl→Pl
 | []=>p
 | q::l=>lowL ⟨min p.x q.x,min p.y q.y⟩ l
def jB_ (p:Pl):List Pl→Pl
 | []=>p
 | q::l=>jB_ ⟨max p.x q.x,max p.y q.y⟩ l
theorem aBX (lo hi:Pl) (l:List Pl):l.foldl cW_ ⟨lo.x,lo.y,hi.x-lo.x,hi.y-lo.y⟩=⟨(lowL lo l).x,(lowL lo l).y,(jB_ hi l).x-(lowL lo l).x,(jB_ hi l).y-(lowL lo l).y⟩:=by
 induction l generalizing lo hi with
 | nil=>rfl
 | cons q l ih=>
  have e:cW_ ⟨lo.x,lo.y,hi.x-lo.x,hi.y-lo.y⟩ q=⟨min lo.x q.x,min lo.y q.y,max hi.x q.x-min lo.x q.x,max hi.y q.y-min lo.y q.y⟩:=by
   unfold cW_
   simp only[Rc.mk.injEq]
   refine⟨trivial,trivial,?_,?_⟩ <;> omega
  rw[List.foldl_cons,e]
  exact ih ⟨min lo.x q.x,min lo.y q.y⟩ ⟨max hi.x q.x,max hi.y q.y⟩
theorem nZ_ (p:Pl) (l:List Pl):aA_ p l=⟨(lowL p l).x,(lowL p l).y,(jB_ p l).x-(lowL p l).x,(jB_ p l).y-(lowL p l).y⟩:=by
 have:=aBX p p l
 rw[Int.sub_self,Int.sub_self] at this
 exact this
theorem aNA (p:Pl) (l:List Pl):(lowL p l).x≤p.x∧(lowL p l).y≤p.y∧∀q∈l,(lowL p l).x≤q.x∧(lowL p l).y≤q.y:=by
 induction l generalizing p with
 | nil=>exact⟨Int.le_refl _,Int.le_refl _,fun _ h=>by cases h⟩
 | cons r l ih=>
  obtain⟨h1,h2,h3⟩:=ih ⟨min p.x r.x,min p.y r.y⟩
  simp only at h1 h2
  refine⟨by show(lowL ⟨min p.x r.x,min p.y r.y⟩ l).x≤_;omega,by show(lowL ⟨min p.x r.x,min p.y r.y⟩ l).y≤_;omega,fun q hq=>?_⟩
  rcases List.mem_cons.1 hq with rfl|hq
  ·exact⟨by show(lowL ⟨min p.x q.x,min p.y q.y⟩ l).x≤_;omega,by show(lowL ⟨min p.x q.x,min p.y q.y⟩ l).y≤_;omega⟩
  ·exact h3 q hq
theorem aFY (p:Pl) (l:List Pl):p.x≤(jB_ p l).x∧p.y≤(jB_ p l).y∧∀q∈l,q.x≤(jB_ p l).x∧q.y≤(jB_ p l).y:=by
 induction l generalizing p with
 | nil=>exact⟨Int.le_refl _,Int.le_refl _,fun _ h=>by cases h⟩
 | cons r l ih=>
  obtain⟨h1,h2,h3⟩:=ih ⟨max p.x r.x,max p.y r.y⟩
  simp only at h1 h2
  refine⟨by show _≤(jB_ ⟨max p.x r.x,max p.y r.y⟩ l).x;omega,by show _≤(jB_ ⟨max p.x r.x,max p.y r.y⟩ l).y;omega,fun q hq=>?_⟩
  rcases List.mem_cons.1 hq with rfl|hq
  ·exact⟨by show _≤(jB_ ⟨max p.x q.x,max p.y q.y⟩ l).x;omega,by show _≤(jB_ ⟨max p.x q.x,max p.y q.y⟩ l).y;omega⟩
  ·exact h3 q hq
theorem aFF (p:Pl) (l:List Pl) (hp:vP p=true) (hl:∀q∈l,vP q=true):vP (lowL p l)=true:=by
 induction l generalizing p with
 | nil=>exact hp
 | cons r l ih=>
  refine ih _ ?_ (fun q hq=>hl q (List.mem_cons_of_mem _ hq))
  have h1:=bL_.1 hp
  have h2:=bL_.1 (hl r (by simp))
  exact bL_.2 ⟨by simp only;omega,by simp only;omega,by simp only;omega,by simp only;omega⟩
theorem aAU (p:Pl) (l:List Pl) (hp:vP p=true) (hl:∀q∈l,vP q=true):vP (jB_ p l)=true:=by
 induction l generalizing p with
 | nil=>exact hp
 | cons r l ih=>
  refine ih _ ?_ (fun q hq=>hl q (List.mem_cons_of_mem _ hq))
  have h1:=bL_.1 hp
  have h2:=bL_.1 (hl r (by simp))
  exact bL_.2 ⟨by simp only;omega,by simp only;omega,by simp only;omega,by simp only;omega⟩
theorem kT_ (p:Pl) (l:List Pl) (hp:vP p=true) (hl:∀q∈l,vP q=true):vRc (aA_ p l)=true:=by
 rw[nZ_]
 have h1:=bL_.1 (aFF p l hp hl)
 have h2:=bL_.1 (aAU p l hp hl)
 have h3:=aNA p l
 have h4:=aFY p l
 exact aV_.2 (by simp only;omega)
theorem aJU {p:Pl} (h:vP p=true):vRc ⟨p.x,p.y,0,0⟩=true:=by
 have:=bL_.1 h
 exact aV_.2 (by simp only;omega)
end Go.Proofs.YtlikmmpmnaaifaaGreatDoor
namespace Go.Proofs.YtlikmmpmnaaifaaGreatDoor
open Go.RowKit Go.Shelf
attribute [local go_sem] Oper.semAt_some
def eF_ (n:Nat) (l:List (Nat×Nat)):Nat:=l.foldl (fun a p=>a*10000+n*p.2) 0
theorem hX_ (n:Nat) (l:List (Nat×Nat)) (p:Nat×Nat):eF_ n (l++[p])=eF_ n l*10000+n*p.2:=by simp[eF_]
theorem aEA (n:Nat) (l:List (Nat×Nat)) (h:∀p∈l,p.2<10000):eF_ n l≤n*(10000^l.length-1):=by
 obtain⟨r,hr⟩:∃r,r=l.reverse:=⟨_,rfl⟩
 obtain rfl:l=r.reverse:=by rw[hr];simp
 clear hr
 induction r with
 | nil=>simp[eF_]
 | cons p r ih=>
  have h1:=ih (fun q hq=>h q (by simp at hq⊢;exact .inl hq))
  have h2:p.2<10000:=h p (by simp)
  simp only[List.reverse_cons,hX_,List.length_append,List.length_cons,List.length_nil,Nat.zero_add] at h1⊢
  have hp:0<10000^r.reverse.length:=Nat.pow_pos (by omega)
  rw[Nat.pow_succ]
  obtain⟨q,hq⟩:∃q,10000^r.reverse.length=q+1:=⟨_,(Nat.succ_pred_eq_of_pos hp).symm⟩
  rw[hq] at h1⊢
  simp only[Nat.add_sub_cancel] at h1
  have h3:n*((q+1)*10000-1)=n*q*10000+n*9999:=by
   rw[show(q+1)*10000-1=q*10000+9999 from by omega,Nat.mul_add,Nat.mul_assoc]
  have h4:n*p.2≤n*9999:=Nat.mul_le_mul_left n (by omega)
  rw[h3]
  omega
theorem oO_ {n k:Nat} {l:List (Nat×Nat)} (h:∀p∈l,p.2<10000) (hk:(dig 10000 n).length+l.length≤k):(dig 10000 (eF_ n l)).length≤k:=by
 rw[aT_ (by omega)]
 have h1:=aEA n l h
 have h2:n<10000^(dig 10000 n).length:=(aT_ (by omega) n _).1 (Nat.le_refl _)
 have hp:0<10000^l.length:=Nat.pow_pos (by omega)
 have h3:n*(10000^l.length-1)≤n*10000^l.length:=Nat.mul_le_mul_left _ (by omega)
 have h4:n*10000^l.length<10000^(dig 10000 n).length*10000^l.length:=Nat.mul_lt_mul_of_pos_right h2 hp
 rw[←Nat.pow_add] at h4
 have h5:10000^((dig 10000 n).length+l.length)≤10000^k:=Nat.pow_le_pow_right (by omega) hk
 omega
theorem uM_ (xs:List Nat) (k:Nat) (hk:k<xs.length):val 10000 (xs.drop (xs.length-(k+1)))=xs[xs.length-1-k]?.getD 0+10000*val 10000 (xs.drop (xs.length-k)):=by
 have h:xs.length-(k+1)<xs.length:=by omega
 rw[List.drop_eq_getElem_cons h,show xs.length-(k+1)+1=xs.length-k from by omega]
 simp only[val]
 rw[show xs.length-1-k=xs.length-(k+1) from by omega,List.getElem?_eq_getElem h]
 rfl
theorem aEB (n:Nat) (xs:List Nat) (k:Nat) (hk:k≤xs.length):eF_ n (bkUp xs k)=n*val 10000 (xs.drop (xs.length-k)):=by
 induction k with
 | zero=>simp[bkUp,eF_,val]
 | succ k ih=>
  rw[fB_,hX_,ih (by omega),uM_ xs k (by omega),Nat.mul_add,Nat.add_comm]
  congr 1
  rw[Nat.mul_assoc,Nat.mul_comm (val 10000 _) 10000]
theorem aM_ {W W':World} (h:Below W.heap.size W W'):KeepsOthers W W':=⟨h.size,fun k _ hk _=>(h.block k (Array.getElem?_eq_some_iff.1 hk).1).trans hk⟩
theorem mA_ {N B n A d lo1 hi1 hO:Nat} {w W Wb w2 w3:World} {v1 vO:Value} {a:Option Addr} {L c:Nat} (hN:N=w.heap.size) (hko:KeepsOthers W Wb) (hkb:aX_ N (N+1+1) W Wb) (hBw:Below N w Wb) (hs:N+3≤Wb.heap.size)
  (hcL:Wb.cell? ⟨N,0,none⟩=some v1) (hNl:Nm Wb v1 n lo1 hi1) (b1:hi1≤N) (hcO3:w3.cell? ⟨N+1,0,none⟩=some vO) (hfO:Wb.frozen? ⟨N+1,0,none⟩=false) (hB2:Below Wb.heap.size Wb w2) (hb3:Below w2.heap.size w2 w3)
  (hv:Nm w3 (.slice a L c) (A+n*d) w2.heap.size hO) (hh:hO≤w3.heap.size) :
  KeepsFrom B W (w3.setCell ⟨N+1,0,none⟩ (.slice a L c))∧aX_ N (N+1+1) W (w3.setCell ⟨N+1,0,none⟩ (.slice a L c))∧
  ((w3.setCell ⟨N+1,0,none⟩ (.slice a L c)).cell? ⟨N,0,none⟩=some v1∧Nm (w3.setCell ⟨N+1,0,none⟩ (.slice a L c)) v1 n lo1 hi1∧(w3.setCell ⟨N+1,0,none⟩ (.slice a L c)).frozen? ⟨N+1,0,none⟩=false∧N+3≤(w3.setCell ⟨N+1,0,none⟩ (.slice a L c)).heap.size∧
    ∃v,(w3.setCell ⟨N+1,0,none⟩ (.slice a L c)).cell? ⟨N+1,0,none⟩=some v∧∃h,Nm (w3.setCell ⟨N+1,0,none⟩ (.slice a L c)) v (A+n*d) (N+2) h∧h≤(w3.setCell ⟨N+1,0,none⟩ (.slice a L c)).heap.size)∧Below N w (w3.setCell ⟨N+1,0,none⟩ (.slice a L c)):=by
 have hsz2:=hB2.size
 have hsz3:=hb3.size
 have hB3:Below Wb.heap.size Wb w3:=hB2.trans (hb3.mono hsz2)
 have hX:bG_ 0 (N+1) w3 (w3.setCell ⟨N+1,0,none⟩ (.slice a L c)):=(bG_.refl 0 (N+1) w3).setCell (p:=⟨N+1,0,none⟩) (.inr (Nat.le_refl _)) _
 have hX2:bG_ (N+2) w3.heap.size w3 (w3.setCell ⟨N+1,0,none⟩ (.slice a L c)):=(bG_.refl (N+2) w3.heap.size w3).setCell (p:=⟨N+1,0,none⟩) (.inl (Nat.lt_succ_self _)) _
 have hsX:(w3.setCell ⟨N+1,0,none⟩ (.slice a L c)).heap.size=w3.heap.size:=by simp[World.setCell]
 refine⟨((hko.trans (aM_ hB3)).trans (KeepsOthers.setCell _ _ _)).from _,(hkb.trans (aX_.of_below hB3 (by omega) (by omega))).setCell (by simp) (by simp) _,⟨?_,?_,?_,by rw[hsX];omega,?_⟩,?_⟩
 ·rw[World.cell?_of_block (w:=w3) (a:=⟨N,0,none⟩) (hX N (Nat.zero_le _) (by omega))]
  exact(hB3.cell (p:=⟨N,0,none⟩) (show N<Wb.heap.size by omega)).trans hcL
 ·exact(hNl.below hB3 (by omega)).keep (fun k h1 h2=>hX k (Nat.zero_le _) (by omega))
 ·rw[World.frozen?_setCell]
  exact(hB3.frozen (p:=⟨N+1,0,none⟩) (show N+1<Wb.heap.size by omega)).trans hfO
 ·refine⟨.slice a L c,World.cell?_setCell_same' _ _ _ (by rw[hcO3];rfl),hO,?_,by rw[hsX];exact hh⟩
  exact(hv.mono (lo':=N+2) (by omega) (Nat.le_refl _)).keep (fun k h1 h2=>hX2 k h1 (by omega))
 ·exact(hBw.trans (hB3.mono (by omega))).setCell (by simp) _
theorem aCT (v1 v2:Value) (n m:Nat) (lo1 hi1 lo2 hi2:Nat) (w:World) (h1:Nm w v1 n lo1 hi1) (h2:Nm w v2 m lo2 hi2) (b1:hi1≤w.heap.size) (b2:hi2≤w.heap.size) (hf:(dig 10000 n).length+(dig 10000 m).length≤1000000) :
  Calls Tryz.prog 273 #[v1,v2] w fun e w'=>(∃v,e=.returned v∧Nm w' v (n*m) w.heap.size w'.heap.size)∧Below w.heap.size w w':=by
 obtain⟨i0,hi,hz0,hz1,hz2⟩:=info_parts rS_
 obtain⟨a1,cap1,rfl⟩:∃a cap,v1=.slice a (dig 10000 n).length cap:=by obtain⟨a,cap,e,_⟩:=h1;exact⟨a,cap,e⟩
 obtain⟨a2,cap2,rfl⟩:∃a cap,v2=.slice a (dig 10000 m).length cap:=by obtain⟨a,cap,e,_⟩:=h2;exact⟨a,cap,e⟩
 have H1:=hid h1
 have H2:=hid h2
 clear h1 h2
 refine(callsIn_wide (n:=3)).1 ?_
 refine callsIn_of_wp_marks Tryz.func273 rfl trivial ?_ rfl
 simp only[Tryz.ntmps273,List.size_toArray,List.length_cons,List.length_nil,Nat.reduceAdd,Nat.reduceSub,Array.replicate_succ,Array.replicate_zero,List.push_toArray,List.append_toArray,List.nil_append,List.cons_append]
 gi_wp2_with (refine⟨trivial,?_⟩;gi_at_call 257;refine(rL_ Fence.wide _ trivial rfl _ _ _ _).mono ?_;rintro e w' ⟨rfl,rfl⟩)
 obtain⟨W0,hW0⟩:∃W0,(w.alloc (.cells #[.slice a1 (dig 10000 n).length cap1] 220)).alloc (.cells #[.slice none 0 0] 220)=W0:=⟨_,rfl⟩
 have hs0:W0.heap.size=w.heap.size+1+1:=by rw[←hW0];simp
 have hB0:Below w.heap.size w W0:=by rw[←hW0];exact((Below.refl _ _).alloc (Nat.le_refl _) _).alloc (by simp) _
 have bL:Boxed W0 w.heap.size 220 (.slice a1 (dig 10000 n).length cap1):=by rw[←hW0];exact(Boxed.new w 220 _).alloc _
 have bO:Boxed W0 (w.heap.size+1) 220 (.slice none 0 0):=by
  rw[←hW0]
  have:=Boxed.new (w.alloc (.cells #[.slice a1 (dig 10000 n).length cap1] 220)) 220 (.slice none 0 0)
  rwa[World.size_alloc] at this
 have bN:=Boxed.new W0 220 (.slice a2 (dig 10000 m).length cap2)
 rw[hs0] at bN
 rw[hW0]
 clear hW0
 have hB1:Below W0.heap.size W0 (W0.alloc (.cells #[.slice a2 (dig 10000 m).length cap2] 220)):=(Below.refl _ _).alloc (Nat.le_refl _) _
 refine wpIn_rangeFunc_ownG rfl (by omega) (gf:=292) (lb:=#[.pointer (some ⟨w.heap.size+1+1,0,none⟩)]) rfl trivial (enters_of Tryz.func292 (by kernel_rfl) rfl)
  (hF_ Fence.wide _ trivial rfl (by omega) (w.heap.size+1+1) w.heap.size lo2 hi2 _ (dig 10000 m) (W0.alloc (.cells #[.slice a2 (dig 10000 m).length cap2] 220)) (by simp;omega) (by simp;omega) bN.cell ((H2.out.below hB0 b2).below hB1 (by omega)) b2 (cA_ (by omega) m))
  aX_.trans (jS_ (by simp;omega) (by simp;omega)) (Below.refl _ _) (fun _=>rfl)
  (fun pre W=>(W.cell? ⟨w.heap.size,0,none⟩=some (.slice a1 (dig 10000 n).length cap1)∧Nm W (.slice a1 (dig 10000 n).length cap1) n lo1 hi1∧W.frozen? ⟨w.heap.size+1,0,none⟩=false∧w.heap.size+3≤W.heap.size∧
   ∃v,W.cell? ⟨w.heap.size+1,0,none⟩=some v∧∃h,Nm W v (eF_ n (pre.map (·.1))) (w.heap.size+2) h∧h≤W.heap.size)∧Below w.heap.size w W)
  (fun _ _ _=>False)
  ?I (fun _ _ _ _ _ hs _ _=>hs) ?h0
  (fun x=>{ tmps:=#[.slice a1 (dig 10000 n).length cap1,.slice a2 (dig 10000 m).length cap2,.pointer (some ⟨w.heap.size,0,none⟩),undef,.slice none 0 0,.pointer (some ⟨w.heap.size+1,0,none⟩),undef,.int .i64 (x.1.2:Int),.slice a2 (dig 10000 m).length cap2,.func (.func 292) #[] #[.pointer (some ⟨w.heap.size+1+1,0,none⟩)],.int .i64 (x.1.1:Int),.int .i64 (x.1.2:Int),undef,undef,undef,undef,undef,undef,undef,undef,undef,undef,undef,undef],defers:=[] }) ?assign ?body ?done ?stop
 case I=>
  refine OwnFrom.and (Own.from (fun s A B row hs hg hr=>?_) _) (ownFrom_below (Nat.le_refl _) (by simp;omega))
  obtain⟨e1,e2,e3,e7,v,e4,h,e5,e6⟩:=hs
  exact⟨cell_kept e1 hg hr,e2.own hg hr,(frozen_kept e4 hg hr).trans e3,Nat.le_trans e7 hg.size,v,cell_kept e4 hg hr,h,e5.own hg hr,Nat.le_trans e6 hg.size⟩
 case h0=>
  exact⟨⟨(bL.alloc _).cell,(H1.out.below hB0 b1).below hB1 (by omega),(bO.alloc _).frozen,by simp;omega,_,(bO.alloc _).cell,w.heap.size+2,Sl.nil _ _ _ _,by simp;omega⟩,hB0.trans (hB1.mono (by omega))⟩
 case assign=>
  intro l x W K hK
  simp only[wO_]
  gi_wp2
  exact hK
 case body=>
  rintro l pre x W ⟨⟨hcL,hNl,hfO,hs3,vO,hcO,h,hNo,hh⟩,hB⟩ hlen
  have hsz:=hB.size
  obtain⟨A,hA⟩:∃A,A=eF_ n (pre.map (·.1)):=⟨_,rfl⟩
  have hfew:(dig 10000 A).length≤(dig 10000 n).length+pre.length:=by
   rw[hA]
   exact oO_ (fun p hp=>by obtain⟨q,_,rfl⟩:=List.mem_map.1 hp;exact q.2.2) (by simp)
  have hnext:eF_ n ((pre++[x]).map (·.1))=A*10000+n*x.1.2:=by rw[List.map_append,hA];exact hX_ _ _ _
  rw[←hA] at hNo
  have HX:=hid hnext
  clear hA hnext
  obtain⟨⟨i,d⟩,hxi,hxd⟩:=x
  simp only at hxi hxd HX⊢
  obtain⟨a,L,c,rfl,hL⟩:∃a L c,vO=.slice a L c∧L=(dig 10000 A).length:=by obtain⟨a,c,e,_⟩:=hNo;exact⟨a,_,c,e,rfl⟩
  have HNL:=hid hNl
  have HNO:=hid hNo
  have hmx:Tryz.prog.follows .mixedOrders=true:=by kernel_rfl
  have HF2:Hid (Few (n*d)):=by
   have:=oO_ (n:=n) (k:=1000000) (l:=[(0,d)]) (by intro p hp;simp at hp;rw[hp];exact hxd) (by simp;omega)
   have e:eF_ n [(0,d)]=n*d:=by simp[eF_]
   rw[e] at this
   exact this
  clear hNl hNo
  by_cases hA0:A=0
  ·obtain rfl:L=0:=by rw[hL,hA0];rfl
   clear hL
   have HA:=hid hA0
   have HF1:Hid (Few A):=by show _≤_;rw[hA0];decide
   clear hA0 hfew
   gi_wp2
   gi_region_with_o (first
    | (refine⟨trivial,?_⟩;gi_at_call 264;refine(CallsIn.inRound l (callsIn_wide.2 (zC_ _ n d lo1 hi1 _ (by exact HNL.out.keep (fun _ _ _=>rfl)) (by exact Nat.le_trans b1 hsz) (by unfold Few;omega) (by omega)))).mono ?_;rintro e w2 ⟨⟨vB,rfl,hvB⟩,hb2⟩;have HVB:=hid hvB;clear hvB;have hB2:Below W.heap.size W w2:=(by first | exact hb2 | exact((Below.refl _ W).drew).trans hb2);clear hb2;have hcO2:=cell_later hB2 hcO;have hfO2:=(hB2.frozen (p:=⟨w.heap.size+1,0,none⟩) (World.block_lt_of_cell? W _ hcO)).trans hfO)
    | (refine⟨trivial,?_⟩;gi_at_call 235;refine(CallsIn.inRound l (callsIn_wide.2 (lJ_ _ _ A (n*d) _ _ _ _ _ (by exact HNO.out.below hB2 hh) (by exact HVB.out) (by exact Nat.le_trans hh hB2.size) (by exact Nat.le_refl _) (by exact HF1.out) (by exact HF2.out)))).mono ?_;rintro e w3 ⟨⟨vP,rfl,hvP⟩,hb3⟩;obtain⟨aP,LP,cP,rfl⟩:∃a L c,vP=.slice a L c:=(by obtain⟨a,c,e,_⟩:=hvP;exact⟨_,_,_,e⟩);have HVP:=hid hvP;clear hvP;have hcO3:=cell_later hb3 hcO2;have hfO3:=(hb3.frozen (p:=⟨w.heap.size+1,0,none⟩) (World.block_lt_of_cell? w2 _ hcO2)).trans hfO2))
   all_goals
    gi_wp2
    have hcl:=mA_ (B:=(W0.alloc (.cells #[.slice a2 (dig 10000 m).length cap2] 220)).heap.size) rfl (KeepsOthers.refl W) (aX_.refl _ _ W) hB hs3 hcL HNL.out b1 hcO3 hfO hB2 hb3 HVP.out (Nat.le_refl _)
    have hx:=HX.out
    rw[HA.out] at hcl hx
    simp only[Nat.zero_mul,Nat.zero_add] at hx hcl
    rw[←hx] at hcl
    exact hcl
  ·have hLp:0<L:=by rw[hL,cH_ (by omega) (by omega)];simp
   have hLk:L≤1000000:=by omega
   have hnoL:=HNO.out
   obtain⟨bo,oo,rfl,hbo1,hbo2,hj⟩:=hnoL.at (k:=0) (by omega)
   have hsrc:=HNO.out.cells
   have HL:=hid hL
   have HSRC:=hid hsrc
   have hnew:Hid (Few (A*10000)):=by
    show _≤_
    rw[Nat.mul_comm,←Nat.zero_add (10000*A),jH_ (by omega) (by omega) (by omega)]
    simp
    omega
   have hcO1:∀o,(W.alloc o).cell? ⟨w.heap.size+1,0,none⟩=some (.slice (some ⟨bo,oo,none⟩) L c):=fun o=>(World.cell?_of_block (w:=W) (Below.heap_alloc W o _ (by show w.heap.size+1<W.heap.size;omega))).trans hcO
   clear hj hL hfew hnoL hsrc
   gi_wp2_with (gi_at_builtin;refine wpListIn_append_own _ rfl _ _ 220 rfl W.heap.size 3 i0 (.int .i64 0) 1 8 Tryz.underlying220 hi hz0 hz1 hz2 rfl (by decide) (.slice (some ⟨W.heap.size,0,none⟩) 1 1) _ _ rfl (World.ownsRow_lit W #[.int .i64 0] 1 (Nat.le_refl _) (by decide) rfl) ⟨bo,oo,none⟩ L c ((dig 10000 A).map fun n:Nat=>Value.int .i64 (n:Int)) rfl (by simp[HL.out]) (aHY W bo oo _ (by omega) (HSRC.out bo oo rfl) _) (yO_ _) (by unfold maxLen;omega) (by omega) (by simp) ?_;intro v' w1 hown' hgrow _;obtain⟨aN,LN,cN,rfl⟩:∃a L c,v'=.slice a L c:=(by obtain⟨_,_,e,_⟩:=Sl.of_owns hown';exact⟨_,_,_,e⟩);have hBw1:Below W.heap.size W w1:=((Below.refl _ W).alloc (Nat.le_refl _) _).grown hgrow (by simp) (fun k e=>by simp[Value.ownBlock] at e;omega);have HOWN:=hid hown';clear hown' hgrow;have hcW1:=cell_later hBw1 hcO;have hfW1:=(hBw1.frozen (p:=⟨w.heap.size+1,0,none⟩) (World.block_lt_of_cell? W _ hcO)).trans hfO)
   obtain⟨Wb,hWb⟩:∃Wb,w1.setCell ⟨w.heap.size+1,0,none⟩ (.slice aN LN cN)=Wb:=⟨_,rfl⟩
   have hsW1:=hBw1.size
   have hsWb:Wb.heap.size=w1.heap.size:=by rw[←hWb];simp[World.setCell]
   have hag1:bG_ 0 (w.heap.size+1) w1 Wb:=by rw[←hWb];exact(bG_.refl 0 (w.heap.size+1) w1).setCell (p:=⟨w.heap.size+1,0,none⟩) (.inr (Nat.le_refl _)) _
   have hag2:bG_ (w.heap.size+2) w1.heap.size w1 Wb:=by rw[←hWb];exact(bG_.refl (w.heap.size+2) w1.heap.size w1).setCell (p:=⟨w.heap.size+1,0,none⟩) (.inl (Nat.lt_succ_self _)) _
   have k1:KeepsOthers W Wb:=by rw[←hWb];exact(aM_ hBw1).trans (KeepsOthers.setCell _ _ _)
   have k2:aX_ w.heap.size (w.heap.size+1+1) W Wb:=by rw[←hWb];exact(aX_.of_below hBw1 (by omega) (by omega)).setCell (by simp) (by simp) _
   have k3:Below w.heap.size w Wb:=by rw[←hWb];exact(hB.trans (hBw1.mono (by omega))).setCell (by simp) _
   have k4:Wb.cell? ⟨w.heap.size,0,none⟩=some (.slice a1 (dig 10000 n).length cap1):=(World.cell?_of_block (w:=w1) (hag1 w.heap.size (Nat.zero_le _) (by omega))).trans (cell_later hBw1 hcL)
   have k5:Nm Wb (.slice a1 (dig 10000 n).length cap1) n lo1 hi1:=(HNL.out.below hBw1 (by omega)).keep (fun k h1 h2=>hag1 k (Nat.zero_le _) (by omega))
   have k6:Wb.cell? ⟨w.heap.size+1,0,none⟩=some (.slice aN LN cN):=by rw[←hWb];exact World.cell?_setCell_same' _ _ _ (by rw[hcW1];rfl)
   have k7:Wb.frozen? ⟨w.heap.size+1,0,none⟩=false:=by rw[←hWb,World.frozen?_setCell];exact hfW1
   have k8:Nm Wb (.slice aN LN cN) (A*10000) W.heap.size w1.heap.size:=by
    have h1:=Sl.of_owns HOWN.out
    have h2:dig 10000 (A*10000)=0::dig 10000 A:=by
     rw[Nat.mul_comm,←Nat.zero_add (10000*A),jH_ (by omega) (by omega) (by omega)]
    show Ns Wb _ (dig 10000 (A*10000)) _ _
    rw[h2]
    have h3:(0::dig 10000 A).length=1+L:=by simp[HL.out];omega
    have h4:((0::dig 10000 A).map fun n:Nat=>Value.int .i64 (n:Int))=[Value.int .i64 0]++(dig 10000 A).map fun n:Nat=>Value.int .i64 (n:Int):=rfl
    show Sl Wb _ (0::dig 10000 A).length 1 _ _ _
    rw[h3,h4]
    exact h1.keep (fun k e1 e2=>hag2 k (by omega) (by omega))
   have K5:=hid k5
   have K8:=hid k8
   have hsb3:w.heap.size+3≤Wb.heap.size:=by omega
   rw[hWb]
   have HWB:=hid hsWb
   have hw1b:w1.heap.size≤Wb.heap.size:=by omega
   clear hWb hcW1 hfW1 k5 k8 hcO1 hcO hcL hfO hsWb hag1 hag2
   gi_region_with_o (first
    | (refine⟨trivial,?_⟩;gi_at_call 264;refine(CallsIn.inRound l (callsIn_wide.2 (zC_ _ n d lo1 hi1 _ (by exact K5.out.keep (fun _ _ _=>rfl)) (by exact Nat.le_trans b1 (Nat.le_trans (Nat.le_add_right _ 3) hsb3)) (by unfold Few;omega) (by omega)))).mono ?_;rintro e w2 ⟨⟨vB,rfl,hvB⟩,hb2⟩;have HVB:=hid hvB;clear hvB;have hB2:Below Wb.heap.size Wb w2:=(by first | exact hb2 | exact((Below.refl _ Wb).drew).trans hb2);clear hb2;have hcO2:=cell_later hB2 k6;have hfO2:=(hB2.frozen (p:=⟨w.heap.size+1,0,none⟩) (World.block_lt_of_cell? Wb _ k6)).trans k7)
    | (refine⟨trivial,?_⟩;gi_at_call 235;refine(CallsIn.inRound l (callsIn_wide.2 (lJ_ _ _ (A*10000) (n*d) _ _ _ _ _ (by exact K8.out.below hB2 hw1b) (by exact HVB.out) (by exact Nat.le_trans hw1b hB2.size) (by exact Nat.le_refl _) (by exact hnew.out) (by exact HF2.out)))).mono ?_;rintro e w3 ⟨⟨vP,rfl,hvP⟩,hb3⟩;obtain⟨aP,LP,cP,rfl⟩:∃a L c,vP=.slice a L c:=(by obtain⟨a,c,e,_⟩:=hvP;exact⟨_,_,_,e⟩);have HVP:=hid hvP;clear hvP;have hcO3:=cell_later hb3 hcO2;have hfO3:=(hb3.frozen (p:=⟨w.heap.size+1,0,none⟩) (World.block_lt_of_cell? w2 _ hcO2)).trans hfO2))
   all_goals
    gi_wp2
    have hcl:=mA_ (B:=(W0.alloc (.cells #[.slice a2 (dig 10000 m).length cap2] 220)).heap.size) rfl k1 k2 k3 hsb3 k4 K5.out b1 hcO3 k7 hB2 hb3 HVP.out (Nat.le_refl _)
    have hx:=HX.out
    rw[←hx] at hcl
    exact hcl
 case done=>
  rintro D ys W hD hys ⟨⟨_,_,hfO,_,vO,hcO,h,hNo,hh⟩,hB⟩ hK
  have hz:eF_ n (ys.map (·.1))=n*m:=by rw[hys,aEB n _ _ (Nat.le_refl _)];simp[cF_]
  rw[hz] at hNo
  clear hz hys
  have HNO:=hid hNo
  clear hNo
  gi_wp2
  refine⟨by simp,.inl ⟨_,_,rfl,run_takeDeferred hK,?_⟩⟩
  refine⟨_,results_tmp rfl _ _ _,⟨_,rfl,?_⟩,hB.trans (belowK_b (w:=w) (Nat.le_refl _) W D _ _ (by simp at hD;omega) hK rfl rfl)⟩
  have ho:=(HNO.out.own (grownBy_putObj' _ D (.deferred none)) (fun r e=>by cases e;exact⟨_,hK,rfl⟩)).mono (lo':=w.heap.size) (hi':=W.heap.size) (by omega) hh
  exact ho.mono (Nat.le_refl _) (by simp[World.putObj])
 case stop=>
  rintro D c pre W _ _ h _
  exact h.elim
theorem in_t {n lo hi:Int} (h1:lo≤n) (h2:n≤hi) (w:World) :
  Calls Tryz.prog 64 #[.int .i64 n,.int .i64 lo,.int .i64 hi] w fun e w'=>e=.returned (.bool true)∧w=w':=by
 go_enter Tryz.func64,Tryz.ntmps64
 go_wp2
 go_ret
 exact⟨rfl,rfl⟩
theorem in_f {n lo hi:Int} (h:n<lo∨hi<n) (w:World) :
  Calls Tryz.prog 64 #[.int .i64 n,.int .i64 lo,.int .i64 hi] w fun e w'=>e=.returned (.bool false)∧w=w':=by
 by_cases h1:lo≤n
 ·have h2:hi<n:=by omega
  have h3:decide (n≤hi)=false:=decide_eq_false (by omega)
  clear h
  go_enter Tryz.func64,Tryz.ntmps64
  go_wp2
  go_ret
  exact⟨rfl,rfl⟩
 ·have h3:decide (lo≤n)=false:=decide_eq_false h1
  clear h
  go_enter Tryz.func64,Tryz.ntmps64
  go_wp2
  go_ret
  exact⟨rfl,rfl⟩
theorem lC_ (p:Pl) (w:World) :
  Calls Tryz.prog 36 #[.agg #[.int .i64 p.x,.int .i64 p.y]] w fun e W'=>e=.returned (.bool (vP p))∧Below w.heap.size w W':=by
 obtain⟨x,y⟩:=p
 by_cases hx:0≤x∧x≤4095
 ·have kx:=hid (fun W=>in_t hx.1 hx.2 W)
  by_cases hy:0≤y∧y≤4095
  ·have ky:=hid (fun W=>in_t hy.1 hy.2 W)
   rw[show vP ⟨x,y⟩=true by simp[vP,hx.1,hx.2,hy.1,hy.2]]
   clear hx hy
   go_enter Tryz.func36,Tryz.ntmps36
   go_wp2_with (first
    | (go_at_call 64;(with_reducible refine(kx.out _).mono ?_);rintro e w' ⟨rfl,rfl⟩)
    | (go_at_call 64;(with_reducible refine(ky.out _).mono ?_);rintro e w' ⟨rfl,rfl⟩)
    | fail)
   go_ret
   exact⟨rfl,(Below.refl _ _).alloc (Nat.le_refl _) _⟩
  ·have ky:=hid (fun W=>in_f (n:=y) (lo:=0) (hi:=4095) (by omega) W)
   rw[show vP ⟨x,y⟩=false by simp[vP];omega]
   clear hx hy
   go_enter Tryz.func36,Tryz.ntmps36
   go_wp2_with (first
    | (go_at_call 64;(with_reducible refine(kx.out _).mono ?_);rintro e w' ⟨rfl,rfl⟩)
    | (go_at_call 64;(with_reducible refine(ky.out _).mono ?_);rintro e w' ⟨rfl,rfl⟩)
    | fail)
   go_ret
   exact⟨rfl,(Below.refl _ _).alloc (Nat.le_refl _) _⟩
 ·have kx:=hid (fun W=>in_f (n:=x) (lo:=0) (hi:=4095) (by omega) W)
  rw[show vP ⟨x,y⟩=false by simp[vP];omega]
  clear hx
  go_enter Tryz.func36,Tryz.ntmps36
  go_wp2_with (go_at_call 64;(with_reducible refine(kx.out _).mono ?_);rintro e w' ⟨rfl,rfl⟩)
  go_ret
  exact⟨rfl,(Below.refl _ _).alloc (Nat.le_refl _) _⟩
theorem aIS (p:Pl) (w:World) :
  Calls Tryz.prog 155 #[.agg #[.int .i64 p.x,.int .i64 p.y]] w fun e W'=>e=.returned (.bool (!vP p))∧Below w.heap.size w W':=by
 have k:=hid (fun W=>lC_ p W)
 have s0:=hid ((Below.refl w.heap.size w).alloc (Nat.le_refl _) (.cells #[.int .i64 p.x,.int .i64 p.y] 26))
 go_enter Tryz.func155,Tryz.ntmps155
 go_wp2_with (go_at_call 36;(with_reducible refine(k.out _).mono ?_);rintro e w1 ⟨rfl,hb⟩)
 go_ret
 exact⟨rfl,s0.out.trans (hb.mono (by simp))⟩
structure PsAt (B:Nat) (ps:List Pl) (W:World):Prop where
 row:∀(k:Nat) (p:Pl),ps[k]?=some p→W.cell? ⟨B,k*2,none⟩=some (.int .i64 p.x)∧W.cell? ⟨B,k*2+1,none⟩=some (.int .i64 p.y)
 sz:B<W.heap.size
theorem PsAt.below {B:Nat} {ps:List Pl} {W W':World} (h:PsAt B ps W) (hb:Below W.heap.size W W'):PsAt B ps W':=
 ⟨fun k p hp=>⟨(hb.cell (p:=⟨B,k*2,none⟩) h.sz).trans (h.row k p hp).1,(hb.cell (p:=⟨B,k*2+1,none⟩) h.sz).trans (h.row k p hp).2⟩,Nat.lt_of_lt_of_le h.sz hb.size⟩
def plC:List Pl→List Value
 | []=>[]
 | p::l=>.int .i64 p.x::.int .i64 p.y::plC l
theorem iR_:∀{ps:List Pl} {k:Nat} {p:Pl},ps[k]?=some p→(plC ps)[k*2]?=some (.int .i64 p.x)∧(plC ps)[k*2+1]?=some (.int .i64 p.y)
 | [],k,p,h=>by simp at h
 | q::l,0,p,h=>by simp at h;subst h;exact⟨rfl,rfl⟩
 | q::l,k+1,p,h=>by
  have:=iR_ (ps:=l) (k:=k) (p:=p) (by simpa using h)
  rw[show(k+1)*2=k*2+2 by omega]
  exact this
theorem PsAt.of {B:Nat} {ps:List Pl} {W:World} (h:ArAt B (plC ps) W):PsAt B ps W:=
 ⟨fun k _ hp=>⟨h.row (k*2) _ (iR_ hp).1,h.row (k*2+1) _ (iR_ hp).2⟩,h.sz⟩
theorem aOZ {B cap:Nat} {ps:List Pl} (hn:ps.length≤1000000) (w:World) (h:PsAt B ps w) :
  Calls Tryz.prog 198 #[.slice (some ⟨B,0,none⟩) ps.length cap,.func (.func 155) #[] #[]] w fun e W'=>(∃i:Int,e=.returned (.int .i64 i)∧decide (0≤i) = !(ps.all vP))∧Below w.heap.size w W':=by
 obtain⟨n,en⟩:∃n,n=ps.length:=⟨_,rfl⟩
 rw[←en]
 rw[←en] at hn
 have HN:=hid en
 have HP:=hid h
 clear en h
 go_enter Tryz.func198,Tryz.ntmps198
 go_wp2
 go_loopw [8] (fun i wr=>∃k:Nat,k≤n∧i=.int .i64 (k:Int)∧Below w.heap.size w wr∧(ps.take k).all vP=true) (fun i _=>n-(intOf i).toNat)
 case atStart=>exact⟨0,Nat.zero_le _,rfl,Below.refl _ _,rfl⟩
 case round=>
  obtain⟨k,hk,rfl,hb,ha⟩:=hrel
  by_cases hlt:k<n
  ·obtain⟨p,hp⟩:∃p,ps[k]?=some p:=⟨ps[k]'(by have:=HN.out;omega),List.getElem?_eq_getElem _⟩
   obtain⟨c0,c1⟩:=((HP.out.below hb).row k p hp)
   have HB:=hid hb
   have HA:=hid ha
   have HE:=hid (show(ps.take (k+1)).all vP=((ps.take k).all vP&&vP p) by rw[List.take_add_one,hp];simp)
   have K:=hid (fun W=>aIS p W)
   have HH:=hid hp
   clear hb ha hp
   cases hv:vP p with
   | true=>
    rw[hv] at K HE
    go_wp2_with (go_at_call 155;(with_reducible refine(K.out _).mono ?_);rintro e w1 ⟨rfl,hb⟩;have H1:=hid (HB.out.trans (hb.mono HB.out.size));clear hb)
    exact⟨⟨k+1,by omega,by go_num,H1.out,by rw[HE.out,HA.out];rfl⟩,by simp only[intOf];omega⟩
   | false=>
    rw[hv] at K
    have HF:=hid hv
    clear hv
    go_wp2_with (go_at_call 155;(with_reducible refine(K.out _).mono ?_);rintro e w1 ⟨rfl,hb⟩;have H1:=hid (HB.out.trans (hb.mono HB.out.size));clear hb)
    go_ret
    refine⟨⟨_,rfl,?_⟩,H1.out⟩
    rw[show ps.all vP=false by
     rw[Bool.eq_false_iff]
     intro hall
     have:=List.all_eq_true.1 hall p (List.mem_of_getElem? HH.out)
     rw[HF.out] at this
     cases this]
    simp
  ·obtain rfl:k=n:=by omega
   have HA:=hid ha
   have HB:=hid hb
   clear ha hb
   go_wp2
   go_ret
   refine⟨⟨_,rfl,?_⟩,HB.out⟩
   have:=HA.out
   rw[HN.out,List.take_length] at this
   rw[this]
   rfl
theorem sF_ {ps qs:List Pl} {k:Nat} {p q:Pl} (hp:ps[k]?=some p) (hq:qs[k]?=some q) (h:ps.take k=qs.take k) (e:p=q):ps.take (k+1)=qs.take (k+1):=by
 rw[List.take_add_one,List.take_add_one,hp,hq,h,e]
theorem same_s {B C n m c1 c2:Nat} {ps qs:List Pl} (hp:ps.length=n) (hq:qs.length=m) (hn:n≤1000000) (hm:m≤1000000) (w:World) (h1:PsAt B ps w) (h2:PsAt C qs w) :
  Calls Tryz.prog 27 #[.slice (some ⟨B,0,none⟩) n c1,.slice (some ⟨C,0,none⟩) m c2] w fun e w'=>e=.returned (.bool (decide (ps=qs)))∧Below w.heap.size w w':=by
 have HP:=hid hp
 have HQ:=hid hq
 have H1:=hid h1
 have H2:=hid h2
 clear h1 h2
 by_cases hnm:n=m
 ·clear hp hq
  subst hnm
  go_enter Tryz.func27,Tryz.ntmps27
  go_wp2
  go_loopw [5] (fun i wr=>∃k:Nat,k≤n∧i=.int .i64 (k:Int)∧Below w.heap.size w wr∧ps.take k=qs.take k) (fun i _=>n-(intOf i).toNat)
  case atStart=>exact⟨0,Nat.zero_le _,rfl,Below.refl _ _,rfl⟩
  case round=>
   obtain⟨k,hk,rfl,hb,ht⟩:=hrel
   by_cases hlt:k<n
   ·obtain⟨p,hp⟩:∃p,ps[k]?=some p:=⟨ps[k]'(by have:=HP.out;omega),List.getElem?_eq_getElem _⟩
    obtain⟨q,hq⟩:∃q,qs[k]?=some q:=⟨qs[k]'(by have:=HQ.out;omega),List.getElem?_eq_getElem _⟩
    obtain⟨c0,c1'⟩:=((H1.out.below hb).row k p hp)
    obtain⟨d0,d1⟩:=((H2.out.below hb).row k q hq)
    have HB:=hid hb
    have HT:=hid ht
    have HE:=hid (And.intro hp hq)
    clear hb ht hp hq
    have i1:(0:Int)≤(k:Int):=by omega
    have i2:(k:Int)<(n:Int):=by omega
    by_cases hpq:p=q
    ·subst hpq
     go_wp2
     go_region
     all_goals
      go_wp2
      exact⟨⟨k+1,by omega,by go_num,HB.out.drew,sF_ HE.out.1 HE.out.2 HT.out rfl⟩,by simp only[intOf];omega⟩
    ·have hne:¬ps=qs:=fun e=>hpq (by have h1:=HE.out.1;rw[e,HE.out.2] at h1;exact(Option.some.inj h1).symm)
     have HN:=hid hne
     have hd:(p.x==q.x)=false∨((p.x==q.x)=true∧(p.y==q.y)=false):=by
      by_cases hx:p.x=q.x
      ·right
       refine⟨beq_iff_eq.2 hx,beq_eq_false_iff_ne.2 fun hy=>hpq ?_⟩
       cases p
       cases q
       simp_all
      ·exact .inl (beq_eq_false_iff_ne.2 hx)
     clear hpq hne
     rcases hd with hx|⟨hx,hy⟩
     all_goals
      go_wp2
      go_region
      all_goals
       go_wp2
       go_ret
       exact⟨aN_ (decide_eq_false HN.out).symm,HB.out.drew⟩
   ·obtain rfl:k=n:=by omega
    have HB:=hid hb
    have HT:=hid ht
    clear hb ht
    go_wp2
    go_ret
    have:=HT.out
    rw[List.take_of_length_le (by rw[HP.out];exact Nat.le_refl _),List.take_of_length_le (by rw[HQ.out];exact Nat.le_refl _)] at this
    exact⟨aN_ (decide_eq_true this).symm,HB.out⟩
 ·have hne:¬ps=qs:=fun e=>hnm (by rw[←hp,←hq,e])
  rw[decide_eq_false hne]
  clear hp hq hne
  go_enter Tryz.func27,Tryz.ntmps27
  go_wp2
  go_ret
  exact⟨rfl,Below.refl _ _⟩
end Go.Proofs.YtlikmmpmnaaifaaGreatDoor
namespace Go.Proofs.YtlikmmpmnaaifaaGreatDoor
theorem dig_getD {B:Nat} (hB:2≤B) (i n:Nat):(dig B n)[i]?.getD 0=n/B^i%B:=by
 induction i generalizing n with
 | zero=>
  rcases Nat.eq_zero_or_pos n with h|h
  ·subst h;simp[eK_]
  ·rw[cH_ hB h];simp
 | succ i ih=>
  rcases Nat.eq_zero_or_pos n with h|h
  ·subst h;simp[eK_]
  ·rw[cH_ hB h,List.getElem?_cons_succ,ih,Nat.div_div_eq_div_mul,Nat.pow_succ,Nat.mul_comm B]
end Go.Proofs.YtlikmmpmnaaifaaGreatDoor
