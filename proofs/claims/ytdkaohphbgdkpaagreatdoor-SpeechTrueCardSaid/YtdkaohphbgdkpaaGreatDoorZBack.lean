/- - -/
import Derived.RangeFuncNested
import Derived.RangeFuncBound
import Derived.RangeFuncCalls
import Derived.RangeFuncLeaves
import Derived.RangeFuncBox
import Derived.Shelf.Abstract
import Derived.Shelf.RegionOpen
import Derived.WalkKit
import Derived.OwnWalkIn
import Derived.TacticsInMore
import Derived.LoopNIn
import Derived.LoopIn
import Derived.Stop.RegionWithIn
import Derived.IntWalk
import Derived.Test.YtdkaohphbgdkpaaGreatDoorZNum
import Derived.Test.YtdkaohphbgdkpaaGreatDoorZAri
set_option maxHeartbeats 40000000
set_option maxRecDepth 1000000
namespace Go.Proofs.YtdkaohphbgdkpaaGreatDoor
open Go.RowKit Go.Shelf
attribute [local go_sem] Oper.semAt_some
abbrev BkEl (L:Nat):={ p:Nat×Nat // p.1<L∧p.2<10000 }
def sZ_ {L:Nat} (x:BkEl L):Array Value:=#[Value.int .i64 (x.1.1:Int),Value.int .i64 (x.1.2:Int)]
def bkUp (xs:List Nat) (k:Nat):List (Nat×Nat):=(List.range k).map fun j=>(xs.length-1-j,xs[xs.length-1-j]?.getD 0)
theorem fC_ (xs:List Nat) (k:Nat):bkUp xs (k+1)=bkUp xs k++[(xs.length-1-k,xs[xs.length-1-k]?.getD 0)]:=by simp[bkUp,List.range_succ]
theorem pR_ (xs:List Nat) (k:Nat):(bkUp xs k).length=k:=by simp[bkUp]
def cK_ (n₀ Bs:Nat) (A B:World):Prop:=Below n₀ A B∧B.heap[Bs]?=A.heap[Bs]?
theorem cK_.refl (n₀ Bs:Nat) (A:World):cK_ n₀ Bs A A:=⟨Below.refl _ _,rfl⟩
theorem cK_.trans {n₀ Bs:Nat} {A B C:World} (h:cK_ n₀ Bs A B) (k:cK_ n₀ Bs B C):cK_ n₀ Bs A C:=⟨h.1.trans k.1,k.2.trans h.2⟩
theorem cK_.of_below {n₀ Bs m:Nat} {A B:World} (h:Below m A B) (h1:n₀≤m) (h2:Bs<m):cK_ n₀ Bs A B:=⟨h.mono h1,h.block Bs h2⟩
theorem cK_.setCell {n₀ Bs:Nat} {A B:World} (h:cK_ n₀ Bs A B) {p:Addr} (hp:n₀≤p.block) (hq:Bs≠p.block) (u:Value):cK_ n₀ Bs A (B.setCell p u):=
 ⟨h.1.setCell hp u,(Below.heap_setCell _ _ _ _ hq).trans h.2⟩
theorem cK_.cell {n₀ Bs:Nat} {A B:World} (h:cK_ n₀ Bs A B) (o:Nat):B.cell? ⟨Bs,o,none⟩=A.cell? ⟨Bs,o,none⟩:=World.cell?_of_block (w:=A) h.2
theorem pG_ {n₀ Bs:Nat} {w:World} (hn:n₀≤w.heap.size) (hb:Bs<w.heap.size) (W:World) (l:Nat) (o o':Obj) (hl:w.heap.size≤l) (h:W.heap[l]?=some o) (h1:o.isCells=false) (h2:o.isWalk=false):cK_ n₀ Bs W (W.putObj l o'):=
 ⟨belowK_b hn W l o o' hl h h1 h2,(grownBy_putObj' W l o').block Bs (by have:=(Array.getElem?_eq_some_iff.1 h).1;omega) (fun e=>by simp only[Option.some.injEq] at e;omega)⟩
theorem aBN (F:Fence) (n:Nat) (h8:F.fn 241) (hro:F.round=none) (hn:1≤n) (l Bs n₀ hi lo:Nat) (sv:Value) (xs:List Nat) (hb:hi≤n₀) (hd:∀d∈xs,d<10000) (J Jx:List (BkEl xs.length)→World→Prop)
  (hY:∀pre x W,J pre W→pre.length<xs.length→YieldAt F (n-1) Tryz.prog l (sZ_ x) W fun e W'=>
   (e=.returned (.bool true)∧J (pre++[x]) W'∧cK_ n₀ Bs W W')∨(e=.returned (.bool false)∧Jx (pre++[x]) W'))
  (W:World) (hBs:W.cell? ⟨Bs,0,none⟩=some sv) (hI:Ns W sv xs lo hi) (h0:J [] W) :
  CallsIn F n Tryz.prog 241 #[.func (.yield l) #[] #[],.pointer (some ⟨Bs,0,none⟩)] W fun e W'=>(∃v,e=.returned v)∧
   ((∃ys,ys.map (·.1)=bkUp xs xs.length∧J ys W')∨(∃pre,(∃k,k≤xs.length∧pre.map (·.1)=bkUp xs k)∧Jx pre W')):=by
 obtain⟨a,cap,rfl⟩:∃a cap,sv=.slice a xs.length cap:=by obtain⟨a,cap,e,_⟩:=hI;exact⟨a,cap,e⟩
 have hlen:=hI.len
 unfold maxLen at hlen
 have HI:=Lib.hid hI
 clear hI
 refine callsIn_of_wp Tryz.func241 rfl h8 ?_ hro
 simp only[Tryz.ntmps241,List.size_toArray,List.length_cons,List.length_nil,Nat.reduceAdd,Nat.reduceSub,Array.replicate_succ,Array.replicate_zero,List.push_toArray,List.append_toArray,List.nil_append,List.cons_append]
 gi_wp2
 gi_loopw [3] (fun i wr=>∃(k:Nat) (ys:List (BkEl xs.length)),k≤xs.length∧i=.int .i64 ((xs.length:Int)-1-k)∧ys.map (·.1)=bkUp xs k∧J ys wr∧cK_ n₀ Bs W wr)
  (fun i _=>(intOf i+1).toNat)
 case atStart=>exact⟨0,[],Nat.zero_le _,by go_num,rfl,h0,cK_.refl _ _ _⟩
 case round=>
  obtain⟨k,ys,hk,rfl,hys,hJs,hnx⟩:=hrel
  have hylen:ys.length=k:=by have:=congrArg List.length hys;simpa[pR_] using this
  have HYS:=Lib.hid hys
  clear hys
  by_cases hlt:k<xs.length
  ·have hcB:=(hnx.cell 0).trans hBs
   have hIr:Ns wr _ xs lo hi:=HI.out.below hnx.1 hb
   obtain⟨i,hk2,hi2⟩:∃i,i<xs.length∧i=xs.length-1-k:=⟨_,by omega,rfl⟩
   have hi3:(xs.length:Int)-1-k=i:=by omega
   rw[hi3]
   have HI2:=Lib.hid hi2
   clear hi2 hi3
   obtain⟨b,off,rfl,_,_,hcx⟩:=hIr.at (k:=i) hk2
   have hx:xs[i]<10000:=hd _ (List.getElem_mem _)
   obtain⟨fn,tmps,assign,body,hy,hR⟩:=hY ys ⟨(i,xs[i]),hk2,hx⟩ wr hJs (by omega)
   simp only[sZ_] at hy
   clear hIr
   gi_wp2
   refine hR.mono ?_
   rintro e W3 (⟨rfl,hJ3,hk3⟩|⟨rfl,hJx3⟩)
   ·gi_wp2
    go_roundw
    case rel=>exact⟨k+1,_,by omega,congrArg (Value.int .i64) (by have:=HI2.out;omega),by rw[List.map_append,HYS.out,fC_];simp[HI2.out,show xs.length-1-k<xs.length from by omega],hJ3,hnx.trans hk3⟩
    case measure=>have:=HI2.out;simp only[intOf];omega
   ·gi_wp2
    refine bodyPost_ret (results_none rfl _ _ _) rfl ?_
    exact⟨⟨_,rfl⟩,.inr ⟨_,⟨k+1,by omega,by rw[List.map_append,HYS.out,fC_];simp[HI2.out,show xs.length-1-k<xs.length from by omega]⟩,hJx3⟩⟩
  ·obtain rfl:k=xs.length:=by omega
   gi_wp2
   go_end0
   exact⟨⟨_,rfl⟩,.inl ⟨ys,HYS.out,hJs⟩⟩
theorem pS_ (F:Fence) (n:Nat) (h6:F.fn 229) (hro:F.round=none) (a:Option Addr) (len cap:Nat) (w:World) :
  CallsIn F n Tryz.prog 229 #[.slice a len cap] w fun e w'=>e=.returned (.func (.func 241) #[] #[.pointer (some ⟨w.heap.size,0,none⟩)])∧w.alloc (.cells #[.slice a len cap] 243)=w':=by
 refine callsIn_of_wp Tryz.func229 rfl h6 ?_ hro
 simp only[Tryz.ntmps229,List.size_toArray,List.length_cons,List.length_nil,Nat.reduceAdd,Nat.reduceSub,Array.replicate_succ,Array.replicate_zero,List.push_toArray,List.append_toArray,List.nil_append,List.cons_append]
 gi_wp2
 go_ret
 exact⟨rfl,rfl⟩
theorem hH_ (F:Fence) (n:Nat) (h8:F.fn 241) (hro:F.round=none) (hn:1≤n) (Bs n₀ lo hi:Nat) (sv:Value) (xs:List Nat) (w:World) (hBs:Bs<w.heap.size) (hn₀:n₀≤w.heap.size)
  (hc:w.cell? ⟨Bs,0,none⟩=some sv) (hI:Ns w sv xs lo hi) (hb:hi≤n₀) (hd:∀d∈xs,d<10000) :
  SeqStopsK F n Tryz.prog 241 #[.pointer (some ⟨Bs,0,none⟩)] (sZ_ (L:=xs.length)) (cK_ n₀ Bs) (fun ys=>ys.map (·.1)=bkUp xs xs.length)
   (fun pre=>∃k,k≤xs.length∧pre.map (·.1)=bkUp xs k) xs.length w:=fun l J Jx W hW _ _ hY h0=>
 aBN F n h8 hro hn l Bs n₀ hi lo sv xs hb hd J Jx hY W ((hW.cell (p:=⟨Bs,0,none⟩) hBs).trans hc) (hI.below hW (by omega)) h0
def cmpI (a b:Int):Int:=if a<b then -1 else if b<a then 1 else 0
theorem fW_ (a b:Int) (w:World) :
  Calls Tryz.prog 68 #[.int .i64 a,.int .i64 b] w fun e w'=>e=.returned (.int .i64 (cmpI a b))∧w=w':=by
 have h1:(a != a)=false:=by simp
 have h2:(b != b)=false:=by simp
 rcases Int.lt_trichotomy a b with h|h|h
 ·have hc:cmpI a b = -1:=by simp[cmpI,h]
  rw[hc]
  clear hc
  go_enter Tryz.func68,Tryz.ntmps68
  go_wp2
  go_ret
  exact⟨rfl,rfl⟩
 ·subst h
  have hc:cmpI a a=0:=by simp[cmpI]
  rw[hc]
  clear hc
  go_enter Tryz.func68,Tryz.ntmps68
  go_wp2
  go_ret
  exact⟨rfl,rfl⟩
 ·have hc:cmpI a b=1:=by simp[cmpI,h];omega
  have hn:¬a<b:=by omega
  rw[hc]
  clear hc
  go_enter Tryz.func68,Tryz.ntmps68
  go_wp2
  go_ret
  exact⟨rfl,rfl⟩
theorem sV_ {B n m:Nat} (hB:2≤B) (h:¬(dig B n).length=(dig B m).length):cmpI (dig B n).length (dig B m).length=cmpI n m:=by
 unfold cmpI
 rcases Nat.lt_or_gt_of_ne h with h1|h1
 ·have:n<m:=by
   rcases Nat.lt_or_ge n m with h2|h2
   ·exact h2
   ·have:=aR_ hB h2;omega
  rw[if_pos (by omega),if_pos (by omega)]
 ·have:m<n:=by
   rcases Nat.lt_or_ge m n with h2|h2
   ·exact h2
   ·have:=aR_ hB h2;omega
  rw[if_neg (by omega),if_pos (by omega),if_neg (by omega),if_pos (by omega)]
theorem tC_ {B n m:Nat} (hB:2≤B) (hl:(dig B n).length=(dig B m).length) (ys:List (BkEl (dig B n).length)) (hys:ys.map (·.1)=bkUp (dig B n) (dig B n).length) (hp:∀p∈ys,(dig B m)[p.1.1]?.getD 0=p.1.2):n=m:=by
 refine xJ_ hB (List.ext_getElem hl fun i h1 h2=>?_)
 have hm:(i,(dig B n)[i]?.getD 0)∈ys.map (·.1):=by
  rw[hys]
  simp only[bkUp,List.mem_map,List.mem_range]
  exact⟨(dig B n).length-1-i,by omega,by rw[show(dig B n).length-1-((dig B n).length-1-i)=i from by omega]⟩
 obtain⟨p,hp1,hp2⟩:=List.mem_map.1 hm
 have:=hp p hp1
 rw[hp2] at this
 simp only[List.getElem?_eq_getElem h1,List.getElem?_eq_getElem h2,Option.getD_some] at this
 exact this.symm
theorem tN_ {B:Nat} (hB:2≤B):∀(a b:List Nat) (x y:Nat),a.length=b.length→(∀d∈a,d<B)→(∀d∈b,d<B)→x<y→∀c,val B (a++x::c)<val B (b++y::c):=by
 intro a b x y hl ha hb hxy c
 rw[cG_,cG_,hl]
 have h1:=qA_ hB a ha
 rw[hl] at h1
 simp only[val]
 have h2:B^b.length*(x+B*val B c)+B^b.length≤B^b.length*(y+B*val B c):=by
  rw[←Nat.mul_succ]
  exact Nat.mul_le_mul_left _ (by omega)
 omega
theorem tB_ {B n m:Nat} (hB:2≤B) (hl:(dig B n).length=(dig B m).length) (ini:List (BkEl (dig B n).length)) (last:BkEl (dig B n).length) (k:Nat) (hk:k≤(dig B n).length)
  (hys:(ini++[last]).map (·.1)=bkUp (dig B n) k) (hp:∀p∈ini,(dig B m)[p.1.1]?.getD 0=p.1.2) (hne:¬(dig B m)[last.1.1]?.getD 0=last.1.2) :
  cmpI (last.1.2:Nat) ((dig B m)[last.1.1]?.getD 0:Nat)=cmpI n m:=by
 obtain⟨j,rfl⟩:∃j,k=j+1:=by
  cases k with
  | zero=>simp[bkUp] at hys
  | succ j=>exact⟨j,rfl⟩
 rw[fC_,List.map_append] at hys
 obtain⟨h1,h2⟩:=List.append_inj' hys rfl
 simp only[List.map_cons,List.map_nil,List.cons.injEq,and_true] at h2
 obtain⟨i,hi⟩:∃i,i=(dig B n).length-1-j:=⟨_,rfl⟩
 rw[←hi] at h2
 have hin:i<(dig B n).length:=by omega
 have him:i<(dig B m).length:=by omega
 rw[h2] at hne⊢
 simp only[List.getElem?_eq_getElem hin,List.getElem?_eq_getElem him,Option.getD_some] at hne⊢
 have htail:(dig B n).drop (i+1)=(dig B m).drop (i+1):=by
  refine List.ext_getElem (by simp[hl]) fun r h3 h4=>?_
  simp only[List.length_drop] at h3 h4
  have hm:(i+1+r,(dig B n)[i+1+r]?.getD 0)∈ini.map (·.1):=by
   rw[h1]
   simp only[bkUp,List.mem_map,List.mem_range]
   exact⟨(dig B n).length-1-(i+1+r),by omega,by rw[show(dig B n).length-1-((dig B n).length-1-(i+1+r))=i+1+r from by omega]⟩
  obtain⟨p,hp1,hp2⟩:=List.mem_map.1 hm
  have:=hp p hp1
  rw[hp2] at this
  simp only[List.getElem?_eq_getElem (show i+1+r<(dig B n).length from by omega),List.getElem?_eq_getElem (show i+1+r<(dig B m).length from by omega),Option.getD_some] at this
  simp only[List.getElem_drop]
  exact this.symm
 have en:dig B n=(dig B n).take i++(dig B n)[i]::(dig B n).drop (i+1):=by rw[List.getElem_cons_drop,List.take_append_drop]
 have em:dig B m=(dig B m).take i++(dig B m)[i]::(dig B n).drop (i+1):=by rw[htail,List.getElem_cons_drop,List.take_append_drop]
 have vn:=cA_ hB n
 have vm:=cA_ hB m
 have hlen:((dig B n).take i).length=((dig B m).take i).length:=by simp;omega
 have dn:∀d∈(dig B n).take i,d<B:=fun d hd=>bR_ hB n d (List.mem_of_mem_take hd)
 have dm:∀d∈(dig B m).take i,d<B:=fun d hd=>bR_ hB m d (List.mem_of_mem_take hd)
 rcases Nat.lt_or_gt_of_ne (fun h=>hne h.symm:(dig B n)[i]≠(dig B m)[i]) with h5|h5
 ·have h6:=tN_ hB _ _ _ _ hlen dn dm h5 ((dig B n).drop (i+1))
  rw[←en,←em,vn,vm] at h6
  unfold cmpI
  rw[if_pos (by omega),if_pos (by omega)]
 ·have h6:=tN_ hB _ _ _ _ hlen.symm dm dn h5 ((dig B n).drop (i+1))
  rw[←en,←em,vn,vm] at h6
  unfold cmpI
  rw[if_neg (by omega),if_pos (by omega),if_neg (by omega),if_pos (by omega)]
theorem Sl.own {W W':World} {row:Option Nat} {v:Value} {n sz:Nat} {cs:List Value} {lo hi:Nat} (h:Sl W v n sz cs lo hi) (hg:W.grownBy W' row) (hr:∀r,row=some r→∃o:Obj,W.heap[r]?=some o∧o.isCells=false):Sl W' v n sz cs lo hi:=by
 obtain⟨a,cap,hv,h3,h4,h5,h6,h7⟩:=h
 refine⟨a,cap,hv,h3,h4,h5,h6,fun ad ha=>?_⟩
 obtain⟨b,off,e,l1,l2,l3⟩:=h7 ad ha
 exact⟨b,off,e,l1,l2,fun i u hu=>cell_kept (l3 i u hu) hg hr⟩
theorem eL_ (v1 v2:Value) (n m:Nat) (lo1 hi1 lo2 hi2:Nat) (w:World) (h1:Nm w v1 n lo1 hi1) (h2:Nm w v2 m lo2 hi2) (b1:hi1≤w.heap.size) (b2:hi2≤w.heap.size) :
  Calls Tryz.prog 211 #[v1,v2] w fun e w'=>e=.returned (.int .i64 (cmpI n m))∧Below w.heap.size w w':=by
 obtain⟨a1,cap1,rfl⟩:∃a cap,v1=.slice a (dig 10000 n).length cap:=by obtain⟨a,cap,e,_⟩:=h1;exact⟨a,cap,e⟩
 obtain⟨a2,cap2,rfl⟩:∃a cap,v2=.slice a (dig 10000 m).length cap:=by obtain⟨a,cap,e,_⟩:=h2;exact⟨a,cap,e⟩
 have g1:=h1.len
 have g2:=h2.len
 unfold maxLen at g1 g2
 have H1:=Lib.hid h1
 have H2:=Lib.hid h2
 clear h1 h2
 by_cases hl:(dig 10000 n).length=(dig 10000 m).length
 ·have hlb:(((dig 10000 n).length:Int) != ((dig 10000 m).length:Int))=false:=by rw[bne_eq_false_iff_eq];omega
  have HL:=Lib.hid hl
  clear hl
  refine(callsIn_wide (n:=3)).1 ?_
  refine callsIn_of_wp_marks Tryz.func211 rfl trivial ?_ rfl
  simp only[Tryz.ntmps211,List.size_toArray,List.length_cons,List.length_nil,Nat.reduceAdd,Nat.reduceSub,Array.replicate_succ,Array.replicate_zero,List.push_toArray,List.append_toArray,List.nil_append,List.cons_append]
  gi_wp2_with (refine⟨trivial,?_⟩;gi_at_call 229;refine(pS_ Fence.wide _ trivial rfl _ _ _ _).mono ?_;rintro e w' ⟨rfl,rfl⟩)
  have bM:=Boxed.new w 243 (.slice a2 (dig 10000 m).length cap2)
  have bR:=Boxed.new (w.alloc (.cells #[.slice a2 (dig 10000 m).length cap2] 243)) 3 (.int .i64 0)
  rw[World.size_alloc] at bR
  obtain⟨W0,hW0⟩:∃W0,(w.alloc (.cells #[.slice a2 (dig 10000 m).length cap2] 243)).alloc (.cells #[.int .i64 0] 3)=W0:=⟨_,rfl⟩
  have hs0:W0.heap.size=w.heap.size+1+1:=by rw[←hW0];simp
  have hB0:Below w.heap.size w W0:=by rw[←hW0];exact((Below.refl _ _).alloc (Nat.le_refl _) _).alloc (by simp) _
  have bM0:Boxed W0 w.heap.size 243 (.slice a2 (dig 10000 m).length cap2):=by rw[←hW0];exact bM.alloc _
  have bR0:Boxed W0 (w.heap.size+1) 3 (.int .i64 0):=by rw[←hW0];exact bR
  have bN:=Boxed.new W0 243 (.slice a1 (dig 10000 n).length cap1)
  rw[hs0] at bN
  rw[hW0]
  clear hW0 bM bR
  have hl1:=H1.out
  have hl2:=H2.out
  have hB1:Below W0.heap.size W0 (W0.alloc (.cells #[.slice a1 (dig 10000 n).length cap1] 243)):=(Below.refl _ _).alloc (Nat.le_refl _) _
  refine wpIn_rangeFunc_ownG rfl (by omega) (gf:=241) (lb:=#[.pointer (some ⟨w.heap.size+1+1,0,none⟩)]) rfl trivial (enters_of Tryz.func241 (by kernel_rfl) rfl)
   (hH_ Fence.wide _ trivial rfl (by omega) (w.heap.size+1+1) w.heap.size lo1 hi1 _ (dig 10000 n) (W0.alloc (.cells #[.slice a1 (dig 10000 n).length cap1] 243)) (by simp;omega) (by simp;omega) bN.cell ((hl1.below hB0 b1).below hB1 (by omega)) b1 (bR_ (by omega) n))
   cK_.trans (pG_ (by simp;omega) (by simp;omega)) (Below.refl _ _) (fun _=>rfl)
   (fun pre W=>((∀p∈pre,(dig 10000 m)[p.1.1]?.getD 0=p.1.2)∧W.cell? ⟨w.heap.size,0,none⟩=some (.slice a2 (dig 10000 m).length cap2)∧Nm W (.slice a2 (dig 10000 m).length cap2) m lo2 hi2∧W.cell? ⟨w.heap.size+1,0,none⟩=some (.int .i64 0)∧W.frozen? ⟨w.heap.size+1,0,none⟩=false)∧Below w.heap.size w W)
   (fun c pre W=>(c=.ret∧∃ini last,pre=ini++[last]∧(∀p∈ini,(dig 10000 m)[p.1.1]?.getD 0=p.1.2)∧¬(dig 10000 m)[last.1.1]?.getD 0=last.1.2∧W.cell? ⟨w.heap.size+1,0,none⟩=some (.int .i64 (cmpI (last.1.2:Nat) ((dig 10000 m)[last.1.1]?.getD 0:Nat))))∧Below w.heap.size w W)
   ?I ?Ix ?h0
   (fun x=>{ tmps:=#[.slice a1 (dig 10000 n).length cap1,.slice a2 (dig 10000 m).length cap2,undef,.pointer (some ⟨w.heap.size,0,none⟩),.pointer (some ⟨w.heap.size+1,0,none⟩),.int .i64 (x.1.1:Int),.int .i64 (x.1.2:Int),.slice a1 (dig 10000 n).length cap1,.int .i64 (dig 10000 n).length,.slice a2 (dig 10000 m).length cap2,.int .i64 (dig 10000 m).length,.bool false,undef,undef,undef,undef,undef,.slice a1 (dig 10000 n).length cap1,.func (.func 241) #[] #[.pointer (some ⟨w.heap.size+1+1,0,none⟩)],.int .i64 (x.1.1:Int),.int .i64 (x.1.2:Int),undef,undef,undef,undef,undef,undef,undef,undef,undef,undef,undef,undef],defers:=[] }) ?assign ?body ?done ?stop
  case I=>exact OwnFrom.and (Own.from (fun s A B row hs hg hr=>⟨hs.1,cell_kept hs.2.1 hg hr,hs.2.2.1.own hg hr,cell_kept hs.2.2.2.1 hg hr,(frozen_kept hs.2.2.2.1 hg hr).trans hs.2.2.2.2⟩) _) (ownFrom_below (Nat.le_refl _) (by simp;omega))
  case Ix=>exact fun c=>OwnFrom.and (Own.from (fun s A B row hs hg hr=>by obtain⟨hc,ini,last,e1,e2,e3,e4⟩:=hs;exact⟨hc,ini,last,e1,e2,e3,cell_kept e4 hg hr⟩) _) (ownFrom_below (Nat.le_refl _) (by simp;omega))
  case h0=>exact⟨⟨by simp,(bM0.alloc _).cell,(hl2.below hB0 b2).below hB1 (by omega),(bR0.alloc _).cell,(bR0.alloc _).frozen⟩,hB0.trans (hB1.mono (by omega))⟩
  case assign=>
   intro l x W K hK
   simp only[sZ_]
   gi_wp2
   exact hK
  case body=>
   rintro l pre x W ⟨⟨hp,hcM,hNm,hcR,hfR⟩,hB⟩ _
   obtain⟨⟨i,d⟩,hi,hd⟩:=x
   simp only at hi hd⊢
   have hi2:i<(dig 10000 m).length:=by rw[←HL.out];exact hi
   obtain⟨b,off,rfl,hlo,hhi,hcx⟩:=hNm.at (k:=i) hi2
   have HN:=Lib.hid hNm
   have HP:=Lib.hid hp
   have hge:(dig 10000 m)[i]?.getD 0=(dig 10000 m)[i]:=by rw[List.getElem?_eq_getElem hi2];rfl
   have HG:=Lib.hid hge
   clear hNm hp hge
   by_cases he:d=(dig 10000 m)[i]
   ·have hne:((d:Int) != ((dig 10000 m)[i]:Int))=false:=by rw[bne_eq_false_iff_eq];omega
    have HE:=Lib.hid he
    clear he
    gi_wp2
    exact⟨KeepsFrom.refl _ _,cK_.refl _ _ _,⟨fun p hp'=>(List.mem_append.1 hp').elim (HP.out p) (fun e=>by simp at e;subst e;simp only;rw[HG.out,HE.out]),hcM,HN.out,hcR,hfR⟩,hB⟩
   ·have hne:((d:Int) != ((dig 10000 m)[i]:Int))=true:=by rw[bne_iff_ne];omega
    gi_wp2_with (refine⟨trivial,?_⟩;gi_at_call 68;refine(CallsIn.inRound l (callsIn_wide.2 (fW_ _ _ _))).mono ?_;rintro e w' ⟨rfl,rfl⟩)
    exact⟨(KeepsOthers.setCell _ _ _).from _,⟨rfl,pre,⟨(i,d),hi,hd⟩,rfl,HP.out,by simp only;rw[HG.out];exact fun h=>he h.symm,by simp only;rw[HG.out];exact World.cell?_setCell_same' _ _ _ (by rw[hcR];rfl)⟩,hB.setCell (p:=⟨w.heap.size+1,0,none⟩) (by simp) _⟩
  case done=>
   rintro D ys W hD hys ⟨⟨hp,_,_,hcR,hfR⟩,hB⟩ hK
   have hK':=(KeepsOthers.setCell W ⟨w.heap.size+1,0,none⟩ (.int .i64 0)).same D _ hK rfl
   have hcz:cmpI n m=0:=by
    have:n=m:=tC_ (by omega) HL.out ys hys hp
    rw[this];simp[cmpI]
   have HCZ:=Lib.hid hcz
   clear hcz hys hp
   gi_wp2
   refine⟨by simp,.inl ⟨_,_,rfl,run_takeDeferred hK',?_⟩⟩
   have hc5:=cell_kept (World.cell?_setCell_same' W ⟨w.heap.size+1,0,none⟩ (.int .i64 0) (by rw[hcR];rfl)) (grownBy_putObj' _ D (.deferred none)) (fun r e=>by cases e;exact⟨_,hK',rfl⟩)
   refine⟨.int .i64 0,?_,by rw[HCZ.out],(hB.setCell (p:=⟨w.heap.size+1,0,none⟩) (by simp) _).trans (belowK_b (w:=w) (Nat.le_refl _) _ D _ _ (by simp at hD;omega) hK' rfl rfl)⟩
   simp[results,Tryz.f211,go_sem,hc5]
  case stop=>
   rintro D c pre W hD ⟨k,hk,hpre⟩ ⟨⟨rfl,ini,last,e1,e2,e3,hcr⟩,hB⟩ hK
   have hcz:cmpI (last.1.2:Nat) ((dig 10000 m)[last.1.1]?.getD 0:Nat)=cmpI n m:=tB_ (by omega) HL.out ini last k hk (by rw[←e1];exact hpre) e2 e3
   rw[hcz] at hcr
   clear hcz hpre e1 e2 e3
   gi_wp2
   refine⟨by simp,.inl ⟨_,_,rfl,run_takeDeferred hK,?_⟩⟩
   have hc5:=cell_kept hcr (grownBy_putObj' _ D (.deferred none)) (fun r e=>by cases e;exact⟨_,hK,rfl⟩)
   refine⟨.int .i64 (cmpI n m),?_,rfl,hB.trans (belowK_b (w:=w) (Nat.le_refl _) W D _ _ (by simp at hD;omega) hK rfl rfl)⟩
   simp[results,Tryz.f211,go_sem,hc5]
 ·have hlb:(((dig 10000 n).length:Int) != ((dig 10000 m).length:Int))=true:=by rw[bne_iff_ne];omega
  go_enter Tryz.func211,Tryz.ntmps211
  go_wp2_with (go_at_call 68;refine(fW_ _ _ _).mono ?_;rintro e w' ⟨rfl,rfl⟩)
  rw[sV_ (by omega) hl]
  exact bodyPost_ret (v:=.int .i64 (cmpI n m)) (by simp[results,Tryz.results211,go_sem]) rfl ⟨rfl,((Below.refl _ _).alloc (Nat.le_refl _) _).alloc (by simp) _⟩
end Go.Proofs.YtdkaohphbgdkpaaGreatDoor
namespace Go.Proofs.YtdkaohphbgdkpaaGreatDoor
structure Pl where
 x:Int
 y:Int
deriving DecidableEq
def vP (p:Pl):Bool:=decide (0≤p.x)&&decide (p.x≤4095)&&decide (0≤p.y)&&decide (p.y≤4095)
structure Rc where
 x:Int
 y:Int
 w:Int
 h:Int
deriving DecidableEq
def vRc (r:Rc):Bool:=vP ⟨r.x,r.y⟩&&decide (0≤r.w)&&decide (r.w≤4095-r.x)&&decide (0≤r.h)&&decide (r.h≤4095-r.y)
def jG_ (i o:Rc):Bool:=vRc i&&vRc o&&(decide (o.x≤i.x)&&decide (i.x+i.w≤o.x+o.w))&&(decide (o.y≤i.y)&&decide (i.y+i.h≤o.y+o.h))
theorem vP_iff {p:Pl} : vP p=true↔0≤p.x∧p.x≤4095∧0≤p.y∧p.y≤4095:=by
 unfold vP
 simp only[Bool.and_eq_true,decide_eq_true_eq,and_assoc]
theorem aCT {r:Rc} : vRc r=true↔0≤r.x∧r.x≤4095∧0≤r.y∧r.y≤4095∧0≤r.w∧r.w≤4095-r.x∧0≤r.h∧r.h≤4095-r.y:=by
 unfold vRc
 simp only[Bool.and_eq_true,vP_iff,decide_eq_true_eq,and_assoc]
theorem fT_ {α β:Type} {l:List α} {f g:α→List β} (h:∀x∈l,f x=g x):l.flatMap f=l.flatMap g:=by
 induction l with
 | nil=>rfl
 | cons a l ih=>rw[List.flatMap_cons,List.flatMap_cons,h a List.mem_cons_self,ih fun x hx=>h x (List.mem_cons_of_mem _ hx)]
structure Sh where
 code:Int
 kind:Int
 rect:Rc
 a:Pl
 b:Pl
 word:ByteArray
deriving DecidableEq
def vK_ (b s:Sh):Bool:=decide (b.code<s.code)||(decide (s.code<b.code)&&decide (b.rect≠s.rect))
def bQ_ (b s:Sh):Bool:=decide (b.kind=2)&&vK_ b s&&jG_ s.rect b.rect
def dM_ (s:Sh):Int:=s.rect.w*s.rect.h
def parF (s:Sh) (p:Option Sh) (b:Sh):Option Sh:=
 if bQ_ b s then match p with
  | none=>some b
  | some q=>if dM_ b≤dM_ q then some b else some q
 else p
def parK (l:List Sh) (s:Sh):Option Sh:=l.foldl (parF s) none
def pcd (l:List Sh) (s:Sh):Int:=match parK l s with|none=>0|some p=>p.code
def ParI (s:Sh) (pre:List Sh) (p:Option Sh):Prop:=
 (p=none∧∀b∈pre,bQ_ b s=false)∨
 ∃q l1 l2,p=some q∧pre=l1++q::l2∧bQ_ q s=true∧(∀b∈l1,bQ_ b s=true→dM_ q≤dM_ b)∧(∀b∈l2,bQ_ b s=true→dM_ q<dM_ b)
theorem ParI.step {s:Sh} {pre:List Sh} {p:Option Sh} (h:ParI s pre p) (b:Sh):ParI s (pre++[b]) (parF s p b):=by
 unfold parF
 cases hb:bQ_ b s with
 | false=>
  rw[if_neg (by simp)]
  rcases h with ⟨rfl,h⟩|⟨q,l1,l2,rfl,rfl,hq,h1,h2⟩
  ·refine .inl ⟨rfl,fun x hx=>?_⟩
   rcases List.mem_append.1 hx with hx|hx
   ·exact h x hx
   ·rw[List.mem_singleton.1 hx];exact hb
  ·refine .inr ⟨q,l1,l2++[b],rfl,by simp,hq,h1,fun x hx hh=>?_⟩
   rcases List.mem_append.1 hx with hx|hx
   ·exact h2 x hx hh
   ·rw[List.mem_singleton.1 hx,hb] at hh;cases hh
 | true=>
  rw[if_pos rfl]
  rcases h with ⟨rfl,h⟩|⟨q,l1,l2,rfl,rfl,hq,h1,h2⟩
  ·exact .inr ⟨b,pre,[],rfl,rfl,hb,fun x hx hh=>(by rw[h x hx] at hh;cases hh),fun x hx=>by cases hx⟩
  ·show ParI s _ (if dM_ b≤dM_ q then some b else some q)
   by_cases hle:dM_ b≤dM_ q
   ·rw[if_pos hle]
    refine .inr ⟨b,l1++q::l2,[],rfl,by simp,hb,fun x hx hh=>?_,fun x hx=>by cases hx⟩
    rcases List.mem_append.1 hx with hx|hx
    ·exact Int.le_trans hle (h1 x hx hh)
    ·rcases List.mem_cons.1 hx with rfl|hx
     ·exact hle
     ·have:=h2 x hx hh;omega
   ·rw[if_neg hle]
    refine .inr ⟨q,l1,l2++[b],rfl,by simp,hq,h1,fun x hx hh=>?_⟩
    rcases List.mem_append.1 hx with hx|hx
    ·exact h2 x hx hh
    ·rw[List.mem_singleton.1 hx];omega
theorem nO_ {s:Sh} (l:List Sh):∀(pre:List Sh) (p:Option Sh),ParI s pre p→ParI s (pre++l) (l.foldl (parF s) p):=by
 induction l with
 | nil=>intro pre p h;simpa using h
 | cons b l ih=>
  intro pre p h
  have:=ih (pre++[b]) _ (h.step b)
  rw[List.append_assoc] at this
  exact this
theorem vF_ (l:List Sh) (s:Sh):ParI s l (parK l s):=nO_ l [] none (.inl ⟨rfl,fun b h=>by cases h⟩)
theorem eH_ {l:List Sh} {s p:Sh} (h:parK l s=some p):p∈l∧bQ_ p s=true:=by
 rcases vF_ l s with ⟨h1,_⟩|⟨q,l1,l2,h1,h2,h3,_⟩
 ·rw[h] at h1;cases h1
 ·rw[h] at h1;cases h1
  exact⟨by rw[h2];simp,h3⟩
theorem vG_ {s q:Sh} {l1 l2:List Sh} (hq:bQ_ q s=true) (h1:∀b∈l1,bQ_ b s=true→dM_ q≤dM_ b) (h2:∀b∈l2,bQ_ b s=true→dM_ q<dM_ b):parK (l1++q::l2) s=some q:=by
 unfold parK
 rw[List.foldl_append,List.foldl_cons]
 have e:parF s (l1.foldl (parF s) none) q=some q:=by
  have hI:=nO_ (s:=s) l1 [] none (.inl ⟨rfl,fun b h=>by cases h⟩)
  rw[List.nil_append] at hI
  rcases hI with ⟨e,_⟩|⟨r,a,b,e,e2,hr,_,_⟩
  ·rw[e];unfold parF;rw[if_pos hq]
  ·rw[e];unfold parF;rw[if_pos hq]
   show(if dM_ q≤dM_ r then some q else some r)=some q
   rw[if_pos (h1 r (by rw[e2];simp) hr)]
 rw[e]
 clear h1 e
 induction l2 with
 | nil=>rfl
 | cons b l2 ih=>
  rw[List.foldl_cons]
  have e:parF s (some q) b=some q:=by
   unfold parF
   by_cases hb:bQ_ b s=true
   ·rw[if_pos hb]
    show(if dM_ b≤dM_ q then some b else some q)=some q
    rw[if_neg (by have:=h2 b List.mem_cons_self hb;omega)]
   ·rw[if_neg hb]
  rw[e]
  exact ih fun x hx=>h2 x (List.mem_cons_of_mem _ hx)
theorem vH_ {s:Sh} {l:List Sh} (h:∀b∈l,bQ_ b s=false):parK l s=none:=by
 rcases vF_ l s with ⟨e,_⟩|⟨q,l1,l2,e,e2,hq,_⟩
 ·exact e
 ·rw[h q (by rw[e2];simp)] at hq;cases hq
theorem iX_ {l:List Sh} {s:Sh} (f:Sh→Bool) (h:∀p,parK l s=some p→f p=true):parK (l.filter f) s=parK l s:=by
 rcases vF_ l s with ⟨e,h1⟩|⟨q,l1,l2,e,e2,hq,h1,h2⟩
 ·rw[e]
  exact vH_ fun b hb=>h1 b (List.mem_filter.1 hb).1
 ·rw[e,e2,List.filter_append,List.filter_cons_of_pos (h q e)]
  exact vG_ hq (fun b hb=>h1 b (List.mem_filter.1 hb).1) (fun b hb=>h2 b (List.mem_filter.1 hb).1)
def bd (s:Sh):Prop:=vRc s.rect=true∧1≤s.code∧s.code≤39999
def rk (s:Sh):Nat:=((s.rect.w+s.rect.h)*40000+(40000-s.code)).toNat
theorem mT_ {r:Rc} (h:vRc r=true):0≤r.x∧0≤r.y∧0≤r.w∧0≤r.h∧r.x+r.w≤4095∧r.y+r.h≤4095:=by
 simp only[vRc,vP,Bool.and_eq_true,decide_eq_true_eq] at h
 omega
theorem fK_ {b s:Sh} : bQ_ b s=true↔b.kind=2∧(b.code<s.code∨(s.code<b.code∧b.rect≠s.rect))∧vRc s.rect=true∧vRc b.rect=true∧b.rect.x≤s.rect.x∧s.rect.x+s.rect.w≤b.rect.x+b.rect.w∧b.rect.y≤s.rect.y∧s.rect.y+s.rect.h≤b.rect.y+b.rect.h:=by
 simp only[bQ_,vK_,jG_,Bool.and_eq_true,Bool.or_eq_true,decide_eq_true_eq]
 constructor
 ·rintro⟨⟨h1,h2⟩,⟨⟨h3,h4⟩,h5,h6⟩,h7,h8⟩
  exact⟨h1,h2,h3,h4,h5,h6,h7,h8⟩
 ·rintro⟨h1,h2,h3,h4,h5,h6,h7,h8⟩
  exact⟨⟨h1,h2⟩,⟨⟨h3,h4⟩,h5,h6⟩,h7,h8⟩
theorem aAQ {b s:Sh} (h:bQ_ b s=true) (hb:bd b) (hs:bd s):rk s<rk b:=by
 obtain⟨_,ho,v1,v2,h1,h2,h3,h4⟩:=fK_.1 h
 have n1:=mT_ v1
 have n2:=mT_ v2
 obtain⟨_,c1,c2⟩:=hb
 obtain⟨_,c3,c4⟩:=hs
 unfold rk
 by_cases e:b.rect=s.rect
 ·rw[e]
  rcases ho with ho|⟨_,ho⟩
  ·omega
  ·exact absurd e ho
 ·have:s.rect.w+s.rect.h<b.rect.w+b.rect.h:=by
   rcases b with ⟨bc,bk,⟨bx,bY,bw,bh⟩,_,_,_⟩
   rcases s with ⟨sc,sk,⟨sx,sy,sw,sh⟩,_,_,_⟩
   simp only[Rc.mk.injEq] at *
   omega
  omega
def befB (a b:Sh):Bool:=decide (a.rect.y<b.rect.y)||(decide (a.rect.y=b.rect.y)&&(decide (a.rect.x<b.rect.x)||(decide (a.rect.x=b.rect.x)&&decide (a.code<b.code))))
theorem cM_ {a b:Sh} : befB a b=true↔a.rect.y<b.rect.y∨(a.rect.y=b.rect.y∧(a.rect.x<b.rect.x∨(a.rect.x=b.rect.x∧a.code<b.code))):=by
 simp only[befB,Bool.or_eq_true,Bool.and_eq_true,decide_eq_true_eq]
theorem kY_ {a b c:Sh} (h1:befB a b=true) (h2:befB b c=true):befB a c=true:=by
 rw[cM_] at *;omega
theorem hG_ {a b:Sh} (h1:befB a b=true):befB b a=false:=by
 rw[←Bool.not_eq_true,cM_];rw[cM_] at h1;omega
theorem kZ_ {a b:Sh} (h:a.code≠b.code):befB a b=true∨befB b a=true:=by
 rw[cM_,cM_];omega
def insS (s:Sh):List Sh→List Sh
 | []=>[s]
 | x::l=>if befB s x then s::x::l else x::insS s l
def srt (l:List Sh):List Sh:=l.foldl (fun acc s=>insS s acc) []
def Srt (l:List Sh):Prop:=l.Pairwise fun a b=>befB a b=true
def Dist (l:List Sh):Prop:=l.Pairwise fun a b=>a.code≠b.code
theorem jH_ (s:Sh) (l:List Sh):(insS s l).Perm (s::l):=by
 induction l with
 | nil=>exact .refl _
 | cons x l ih=>
  unfold insS
  split
  ·exact .refl _
  ·exact(ih.cons x).trans (.swap s x l)
theorem aAK {s:Sh} {l:List Sh} (h:Srt l) (hd:∀x∈l,s.code≠x.code):Srt (insS s l):=by
 induction l with
 | nil=>exact List.pairwise_singleton _ _
 | cons x l ih=>
  obtain⟨h1,h2⟩:=List.pairwise_cons.1 h
  unfold insS
  split
  next hb=>
   refine List.pairwise_cons.2 ⟨fun y hy=>?_,h⟩
   rcases List.mem_cons.1 hy with rfl|hy
   ·exact hb
   ·exact kY_ hb (h1 y hy)
  next hb=>
   refine List.pairwise_cons.2 ⟨fun y hy=>?_,ih h2 fun y hy=>hd y (List.mem_cons_of_mem _ hy)⟩
   rcases List.mem_cons.1 ((jH_ s l).mem_iff.1 hy) with rfl|hy
   ·exact(kZ_ (hd x List.mem_cons_self)).resolve_left hb
   ·exact h1 y hy
theorem uE_ (l:List Sh):∀acc:List Sh,(l.foldl (fun acc s=>insS s acc) acc).Perm (acc++l):=by
 induction l with
 | nil=>intro acc;simp
 | cons s l ih=>
  intro acc
  refine(ih (insS s acc)).trans ?_
  refine((jH_ s acc).append_right l).trans ?_
  exact(List.perm_middle (l₁:=acc) (a:=s) (l₂:=l)).symm
theorem fF_ (l:List Sh):(srt l).Perm l:=uE_ l []
theorem zE_ (l:List Sh):∀acc:List Sh,Srt acc→Dist (acc++l)→Srt (l.foldl (fun acc s=>insS s acc) acc):=by
 induction l with
 | nil=>intro acc h _;exact h
 | cons s l ih=>
  intro acc h hd
  have hd':Dist (insS s acc++l):=by
   refine(List.Perm.pairwise_iff (fun h=>h.symm) ?_).1 hd
   exact(List.perm_middle (l₁:=acc) (a:=s) (l₂:=l)).trans ((jH_ s acc).symm.append_right l)
  refine ih _ (aAK h fun x hx=>?_) hd'
  have:=(List.pairwise_append.1 hd).2.2 x hx s List.mem_cons_self
  exact this.symm
theorem oT_ {l:List Sh} (h:Dist l):Srt (srt l):=zE_ l [] List.Pairwise.nil (by simpa using h)
theorem qI_:∀{l m:List Sh},Srt l→Srt m→l.Perm m→l=m
 | [],m,_,_,hp=>by simpa using hp.symm
 | x::l,[],_,_,hp=>by simp at hp
 | x::l,y::m,hl,hm,hp=>by
  obtain⟨l1,l2⟩:=List.pairwise_cons.1 hl
  obtain⟨m1,m2⟩:=List.pairwise_cons.1 hm
  have e:x=y:=by
   rcases List.mem_cons.1 (hp.mem_iff.1 List.mem_cons_self) with e|hx
   ·exact e
   rcases List.mem_cons.1 (hp.mem_iff.2 List.mem_cons_self) with e|hy
   ·exact e.symm
   have a:=l1 y hy
   have b:=hG_ (m1 x hx)
   rw[a] at b;cases b
  subst e
  rw[qI_ l2 m2 (List.Perm.cons_inv hp)]
theorem aBY {l m:List Sh} (hd:Dist l) (hs:Srt m) (hp:m.Perm l):m=srt l:=qI_ hs (oT_ hd) (hp.trans (fF_ l).symm)
theorem rR_ {l:List Sh} (hd:Dist l) (f:Sh→Bool):srt (l.filter f)=(srt l).filter f:=
 (aBY (hd.sublist List.filter_sublist) ((oT_ hd).sublist List.filter_sublist) ((fF_ l).filter f)).symm
def aM_ (l:List Sh) (c:Int):List Sh:=srt (l.filter fun s=>decide (pcd l s=c))
def rdL (l:List Sh):Nat→Int→List Sh
 | 0,_=>[]
 | n+1,c=>(aM_ l c).flatMap fun s=>s::rdL l n s.code
structure Ld (l:List Sh):Prop where
 bds:∀s∈l,bd s
 dst:Dist l
theorem aJ_ {l:List Sh} {c:Int} {s:Sh} : s∈aM_ l c↔s∈l∧pcd l s=c:=by
 unfold aM_
 rw[(fF_ _).mem_iff,List.mem_filter,decide_eq_true_eq]
theorem hF_ {l:List Sh} (h:Dist l) {a b:Sh} (ha:a∈l) (hb:b∈l) (e:a.code=b.code):a=b:=by
 induction l with
 | nil=>cases ha
 | cons x l ih=>
  obtain⟨h1,h2⟩:=List.pairwise_cons.1 h
  rcases List.mem_cons.1 ha with ea|ha
  ·rcases List.mem_cons.1 hb with eb|hb
   ·rw[ea,eb]
   ·exact absurd (ea▸e) (h1 b hb)
  ·rcases List.mem_cons.1 hb with eb|hb
   ·exact absurd (eb▸e.symm) (h1 a ha)
   ·exact ih h2 ha hb
section
variable {l:List Sh}
theorem Ld.par (H:Ld l) {s p:Sh} (hs:s∈l) (h:parK l s=some p):p∈l∧pcd l s=p.code∧rk s<rk p:=
 ⟨(eH_ h).1,by unfold pcd;rw[h],aAQ (eH_ h).2 (H.bds p (eH_ h).1) (H.bds s hs)⟩
theorem Ld.par_of (H:Ld l) {s p:Sh} (hp:p∈l) (h:pcd l s=p.code):parK l s=some p:=by
 unfold pcd at h
 cases e:parK l s with
 | none=>rw[e] at h;have:=(H.bds p hp).2.1;simp only at h;omega
 | some q=>
  rw[e] at h
  rw[hF_ H.dst (eH_ e).1 hp h]
theorem Ld.kid_rk (H:Ld l) {s p:Sh} (hp:p∈l) (h:s∈aM_ l p.code):rk s<rk p:=by
 obtain⟨h1,h2⟩:=aJ_.1 h
 exact(H.par h1 (H.par_of hp h2)).2.2
theorem Ld.rk_lt (H:Ld l) {s:Sh} (hs:s∈l):rk s<400000000:=by
 obtain⟨h1,h2,h3⟩:=H.bds s hs
 have:=mT_ h1
 unfold rk;omega
theorem Ld.rd_stable (H:Ld l):∀(n:Nat) (c:Int),(∀s∈aM_ l c,rk s<n)→∀m,n≤m→rdL l m c=rdL l n c
 | 0,c,h,m,_=>by
  have e:aM_ l c=[]:=List.eq_nil_iff_forall_not_mem.2 fun s hs=>by have:=h s hs;omega
  cases m with
  | zero=>rfl
  | succ m=>show(aM_ l c).flatMap _=[];rw[e];rfl
 | n+1,c,h,m,hm=>by
  obtain⟨k,rfl⟩:∃k,m=k+1:=⟨m-1,by omega⟩
  show(aM_ l c).flatMap _=(aM_ l c).flatMap _
  refine fT_ fun s hs=>?_
  rw[H.rd_stable n s.code (fun t ht=>by have:=H.kid_rk (aJ_.1 hs).1 ht;have:=h s hs;omega) k (by omega)]
end
def rdx (l:List Sh) (c:Int):List Sh:=rdL l 400000000 c
section
variable {l:List Sh}
theorem Ld.rdx_eq (H:Ld l) (c:Int):rdx l c=(aM_ l c).flatMap fun s=>s::rdx l s.code:=by
 unfold rdx
 rw[←H.rd_stable 400000000 c (fun s hs=>H.rk_lt (aJ_.1 hs).1) (400000000+1) (by omega)]
 rfl
inductive Anc (l:List Sh):Sh→Sh→Prop
 | self (s:Sh):Anc l s s
 | up {a p s:Sh} : parK l s=some p→Anc l a p→Anc l a s
theorem Anc.trans {a b c:Sh} (h1:Anc l a b) (h2:Anc l b c):Anc l a c:=by
 induction h2 with
 | self=>exact h1
 | up h _ ih=>exact .up h ih
theorem Ld.anc_rk (H:Ld l) {a s:Sh} (h:Anc l a s) (hs:s∈l):a∈l∧rk s≤rk a:=by
 induction h with
 | self=>exact⟨hs,Nat.le_refl _⟩
 | up h _ ih=>
  obtain⟨h1,_,h3⟩:=H.par hs h
  obtain⟨i1,i2⟩:=ih h1
  exact⟨i1,by omega⟩
theorem Anc.comp {a b s:Sh} (h1:Anc l a s) (h2:Anc l b s):Anc l a b∨Anc l b a:=by
 induction h1 with
 | self=>exact .inr h2
 | up h h' ih=>
  cases h2 with
  | self=>exact .inl (.up h h')
  | up k k'=>rw[h] at k;cases k;exact ih k'
theorem Ld.mem_rd (H:Ld l):∀(n:Nat) (c:Int) (s:Sh),s∈rdL l n c→s∈l∧∃a,a∈aM_ l c∧Anc l a s
 | 0,_,s,h=>by cases h
 | n+1,c,s,h=>by
  obtain⟨t,ht,h⟩:=List.mem_flatMap.1 h
  rcases List.mem_cons.1 h with rfl|h
  ·exact⟨(aJ_.1 ht).1,s,ht,.self s⟩
  ·obtain⟨h1,a,ha,h2⟩:=H.mem_rd n t.code s h
   exact⟨h1,t,ht,Anc.trans (.up (H.par_of (aJ_.1 ht).1 (aJ_.1 ha).2) (.self t)) h2⟩
theorem Ld.rdx_kid (H:Ld l):∀(n:Nat) (c:Int) (p:Sh),p∈rdL l n c→∀s∈aM_ l p.code,s∈rdx l c
 | 0,_,s,h=>by cases h
 | n+1,c,p,h=>by
  intro s hs
  obtain⟨t,ht,h⟩:=List.mem_flatMap.1 h
  rw[H.rdx_eq c]
  refine List.mem_flatMap.2 ⟨t,ht,List.mem_cons_of_mem _ ?_⟩
  rcases List.mem_cons.1 h with rfl|h
  ·rw[H.rdx_eq]
   exact List.mem_flatMap.2 ⟨s,hs,List.mem_cons_self⟩
  ·exact H.rdx_kid n t.code p h s hs
theorem Ld.anc_mem (H:Ld l) {a s:Sh} {c:Int} (h:Anc l a s) (hs:s∈l) (ha:a∈aM_ l c):s∈rdx l c:=by
 induction h with
 | self=>
  rw[H.rdx_eq]
  exact List.mem_flatMap.2 ⟨a,ha,List.mem_cons_self⟩
 | up h h' ih=>
  obtain⟨h1,h2,_⟩:=H.par hs h
  exact H.rdx_kid _ c _ (ih h1) _ (aJ_.2 ⟨hs,h2⟩)
theorem Ld.top (H:Ld l):∀(k:Nat) (s:Sh),s∈l→400000000-rk s≤k→∃a,a∈aM_ l 0∧Anc l a s
 | 0,s,hs,hk=>by have:=H.rk_lt hs;omega
 | k+1,s,hs,hk=>by
  cases e:parK l s with
  | none=>exact⟨s,aJ_.2 ⟨hs,by unfold pcd;rw[e]⟩,.self s⟩
  | some p=>
   obtain⟨h1,_,h3⟩:=H.par hs e
   have:=H.rk_lt h1
   obtain⟨a,h4,h5⟩:=H.top k p h1 (by omega)
   exact⟨a,h4,.up e h5⟩
theorem Ld.mem_rdx (H:Ld l) {s:Sh} : s∈rdx l 0↔s∈l:=
 ⟨fun h=>(H.mem_rd _ _ s h).1,fun h=>by obtain⟨a,h1,h2⟩:=H.top _ s h (Nat.le_refl _);exact H.anc_mem h2 h h1⟩
theorem Ld.kids_apart (H:Ld l) {c:Int} {a b s:Sh} (ha:a∈aM_ l c) (hb:b∈aM_ l c) (h1:Anc l a s) (h2:Anc l b s):a=b:=by
 have key:∀{a b:Sh},a∈aM_ l c→b∈aM_ l c→Anc l a b→a=b:=by
  intro a b ha hb h
  cases h with
  | self=>rfl
  | up h h'=>
   rename_i p
   obtain⟨b1,b2⟩:=aJ_.1 hb
   obtain⟨a1,a2⟩:=aJ_.1 ha
   obtain⟨p1,p2,p3⟩:=H.par b1 h
   have e:parK l a=some p:=H.par_of p1 (by rw[a2,←b2,p2])
   have q1:=(H.par a1 e).2.2
   have q2:=(H.anc_rk h' p1).2
   omega
 rcases h1.comp h2 with h|h
 ·exact key ha hb h
 ·exact(key hb ha h).symm
theorem jM_ {a b:List Sh} (h:a.Perm b):Dist a↔Dist b:=List.Perm.pairwise_iff (fun h=>h.symm) h
theorem Ld.kids_dist (H:Ld l) (c:Int):Dist (aM_ l c):=(jM_ (fF_ _)).2 (H.dst.sublist List.filter_sublist)
theorem Ld.rd_dist (H:Ld l):∀(n:Nat) (c:Int),Dist (rdL l n c)
 | 0,_=>List.Pairwise.nil
 | n+1,c=>by
  refine List.pairwise_flatMap.2 ⟨fun t ht=>List.pairwise_cons.2 ⟨fun x hx e=>?_,H.rd_dist n t.code⟩,?_⟩
  ·obtain⟨h1,a,ha,h2⟩:=H.mem_rd n _ x hx
   have hr:=H.kid_rk (aJ_.1 ht).1 ha
   have hr2:=(H.anc_rk h2 h1).2
   have:=hF_ H.dst (aJ_.1 ht).1 h1 e
   subst this;omega
  ·have up:∀{t x:Sh},t∈aM_ l c→x∈t::rdL l n t.code→x∈l∧Anc l t x:=by
    intro t x ht hx
    rcases List.mem_cons.1 hx with rfl|hx
    ·exact⟨(aJ_.1 ht).1,.self x⟩
    ·obtain⟨h1,a,ha,h2⟩:=H.mem_rd n _ x hx
     exact⟨h1,Anc.trans (.up (H.par_of (aJ_.1 ht).1 (aJ_.1 ha).2) (.self t)) h2⟩
   have hk:=H.kids_dist c
   refine List.Pairwise.imp_of_mem ?_ hk
   intro a b ha hb hab x hx y hy e
   obtain⟨x1,x2⟩:=up ha hx
   obtain⟨y1,y2⟩:=up hb hy
   obtain rfl:=hF_ H.dst x1 y1 e
   exact hab (by rw[H.kids_apart ha hb x2 y2])
theorem kT_ {a:List Sh} (h:Dist a):a.Nodup:=List.Pairwise.imp (fun h e=>h (by rw[e])) h
theorem Ld.rdx_perm (H:Ld l):(rdx l 0).Perm l:=
 (List.perm_ext_iff_of_nodup (kT_ (H.rd_dist _ _)) (kT_ H.dst)).2 fun _=>H.mem_rdx
end
def posO (c:Int):List Sh→Option Nat
 | []=>none
 | x::l=>if x.code=c then some 0 else (posO c l).map (· + 1)
theorem qP_ {c:Int} {q:Sh} (hq:q.code=c) (R:List Sh):∀{P:List Sh},(∀x∈P,x.code≠c)→posO c (P++q::R)=some P.length
 | [],_=>by show(if q.code=c then some 0 else _)=_;rw[if_pos hq];rfl
 | x::P,h=>by
  show(if x.code=c then some 0 else (posO c (P++q::R)).map (· + 1))=_
  rw[if_neg (h x List.mem_cons_self),qP_ hq R fun y hy=>h y (List.mem_cons_of_mem _ hy)]
  rfl
def jW_ (l last:List Sh) (s:Sh):Option Nat:=match parK l s with
 | none=>some 0
 | some p=>(posO p.code last).map (· + 1)
def chkO (l:List Sh):List Sh→List Sh→Bool
 | _,[]=>true
 | last,s::r=>match jW_ l last s with
  | none=>false
  | some d=>(match last[d]? with | none=>true | some b=>!befB s b)&&chkO l (last.take d++[s]) r
structure PathO (l P:List Sh) (c:Int):Prop where
 mem:∀p∈P,p∈l
 dec:P.Pairwise fun a b=>rk b<rk a
 last:match P.getLast? with|none=>c=0|some q=>q.code=c
section
variable {l:List Sh}
theorem PathO.deep (H:Ld l) {P:List Sh} {c:Int} (h:PathO l P c) {t:Sh} (ht:t∈aM_ l c) (R:List Sh):jW_ l (P++R) t=some P.length:=by
 obtain⟨t1,t2⟩:=aJ_.1 ht
 unfold jW_
 rcases List.eq_nil_or_concat P with rfl|⟨P0,q,rfl⟩
 ·have hc:c=0:=h.last
  cases e:parK l t with
  | none=>rfl
  | some p=>
   have:=(H.par t1 e).2.1
   have:=(H.bds p (H.par t1 e).1).2.1
   omega
 ·rw[List.concat_eq_append] at h⊢
  have hl:=h.last
  rw[List.getLast?_append,List.getLast?_singleton] at hl
  have hq:q.code=c:=hl
  rw[H.par_of (h.mem q (by simp)) (t2.trans hq.symm)]
  show(posO q.code _).map (· + 1)=_
  rw[List.append_assoc,List.singleton_append,qP_ rfl R]
  ·simp
  ·intro x hx e
   have:=(List.pairwise_append.1 h.dec).2.2 x hx q (by simp)
   rw[hF_ H.dst (h.mem x (List.mem_append_left _ hx)) (h.mem q (by simp)) e] at this
   omega
theorem PathO.down (H:Ld l) {P:List Sh} {c:Int} (h:PathO l P c) {t:Sh} (ht:t∈aM_ l c):PathO l (P++[t]) t.code:=by
 refine⟨fun p hp=>?_,?_,?_⟩
 ·rcases List.mem_append.1 hp with hp|hp
  ·exact h.mem p hp
  ·rw[List.mem_singleton.1 hp];exact(aJ_.1 ht).1
 ·refine List.pairwise_append.2 ⟨h.dec,List.pairwise_singleton _ _,fun a ha b hb=>?_⟩
  rw[List.mem_singleton.1 hb]
  have hl:=h.last
  rcases List.eq_nil_or_concat P with rfl|⟨P0,q,rfl⟩
  ·cases ha
  ·rw[List.concat_eq_append] at h ha hl
   rw[List.getLast?_append,List.getLast?_singleton] at hl
   have hq:q.code=c:=hl
   have hr:=H.kid_rk (h.mem q (by simp)) (hq▸ht)
   rcases List.mem_append.1 ha with ha|ha
   ·have:=(List.pairwise_append.1 h.dec).2.2 a ha q (by simp)
    omega
   ·rw[List.mem_singleton.1 ha];exact hr
 ·rw[List.getLast?_append,List.getLast?_singleton];rfl
theorem Ld.chk_rd (H:Ld l):∀(n:Nat) (c:Int) (P R rest:List Sh),PathO l P c→(∀b,R.head?=some b→∀k∈aM_ l c,befB k b=false)→(∀R',chkO l (P++R') rest=true)→chkO l (P++R) (rdL l n c++rest)=true
 | 0,c,P,R,rest,_,_,h=>h R
 | n+1,c,P,R,rest,hP,hR,h=>by
  have key:∀(ks:List Sh) (R:List Sh),Srt ks→(∀k∈ks,k∈aM_ l c)→(∀b,R.head?=some b→∀k∈ks,befB k b=false)→chkO l (P++R) (ks.flatMap (fun s=>s::rdL l n s.code)++rest)=true:=by
   intro ks
   induction ks with
   | nil=>intro R _ _ _;exact h R
   | cons t ks ih=>
    intro R hs hk hb
    obtain⟨s1,s2⟩:=List.pairwise_cons.1 hs
    have ht:=hk t List.mem_cons_self
    rw[List.flatMap_cons,List.append_assoc,List.cons_append]
    unfold chkO
    rw[hP.deep H ht R]
    show((match (P++R)[P.length]? with|none=>true|some b=>!befB t b)&&chkO l ((P++R).take P.length++[t]) _)=true
    rw[List.getElem?_append_right (Nat.le_refl _),Nat.sub_self,List.take_left',←List.head?_eq_getElem?]
    ·rw[Bool.and_eq_true]
     constructor
     ·cases e:R.head? with
      | none=>rfl
      | some b=>show(!befB t b)=true;rw[hb b e t List.mem_cons_self];rfl
     ·have:=H.chk_rd n t.code (P++[t]) [] (ks.flatMap (fun s=>s::rdL l n s.code)++rest) (hP.down H ht) (fun b hb=>by cases hb) (fun R'=>by
       rw[List.append_assoc,List.singleton_append]
       refine ih (t::R') s2 (fun k hk'=>hk k (List.mem_cons_of_mem _ hk')) fun b hb k hk'=>?_
       cases hb
       exact hG_ (s1 k hk'))
      rwa[List.append_nil] at this
    ·rfl
  exact key _ R (oT_ (H.dst.sublist List.filter_sublist)) (fun k hk=>hk) hR
theorem Ld.chk_rdx (H:Ld l):chkO l [] (rdx l 0)=true:=by
 have:=H.chk_rd 400000000 0 [] [] [] ⟨fun p h=>(by cases h),List.Pairwise.nil,rfl⟩ (fun b hb=>by cases hb) (fun R'=>by cases R' <;> rfl)
 rw[List.append_nil,List.append_nil] at this
 exact this
end
section
variable {l:List Sh} {k:Sh}
theorem zM_ (k:Sh) (s:Sh):parK (l.filter fun x=>decide (x.code≠k.code)) s=parK l s∨∃p,parK l s=some p∧p.code=k.code:=by
 cases e:parK l s with
 | none=>left;rw[iX_ _ (fun p hp=>by rw[e] at hp;cases hp)];exact e
 | some p=>
  by_cases hc:p.code=k.code
  ·exact .inr ⟨p,rfl,hc⟩
  ·left
   rw[iX_ _ (fun q hq=>by rw[e] at hq;cases hq;exact decide_eq_true hc)]
   exact e
theorem Ld.par_less (H:Ld l) (hkl:k∈l) (hk:∀s∈l,parK l s≠some k) {s:Sh} (hs:s∈l):parK (l.filter fun x=>decide (x.code≠k.code)) s=parK l s:=by
 rcases zM_ (l:=l) k s with h|⟨p,h1,h2⟩
 ·exact h
 ·exact absurd h1 (by rw[hF_ H.dst (H.par hs h1).1 hkl h2];exact hk s hs)
theorem Ld.kids_less (H:Ld l) (hkl:k∈l) (hk:∀s∈l,parK l s≠some k) (c:Int):aM_ (l.filter fun x=>decide (x.code≠k.code)) c=(aM_ l c).filter fun x=>decide (x.code≠k.code):=by
 unfold aM_
 rw[←rR_ (H.dst.sublist List.filter_sublist),List.filter_filter,List.filter_filter]
 congr 1
 refine List.filter_congr fun s hs=>?_
 have:pcd (l.filter fun x=>decide (x.code≠k.code)) s=pcd l s:=by unfold pcd;rw[H.par_less hkl hk hs]
 rw[this,Bool.and_comm]
theorem Ld.rd_less (H:Ld l) (hkl:k∈l) (hk:∀s∈l,parK l s≠some k):∀(n:Nat) (c:Int),rdL (l.filter fun x=>decide (x.code≠k.code)) n c=(rdL l n c).filter fun x=>decide (x.code≠k.code)
 | 0,_=>rfl
 | n+1,c=>by
  show(aM_ _ c).flatMap _=((aM_ l c).flatMap _).filter _
  rw[H.kids_less hkl hk,List.filter_flatMap]
  induction aM_ l c with
  | nil=>rfl
  | cons t ks ih=>
   rw[List.flatMap_cons,←ih]
   by_cases ht:t.code=k.code
   ·rw[List.filter_cons_of_neg (by simpa using ht),List.filter_cons_of_neg (by simpa using ht)]
    have e:(rdL l n t.code).filter (fun x=>decide (x.code≠k.code))=[]:=by
     rw[ht,List.filter_eq_nil_iff]
     intro a ha
     obtain⟨_,b,hb,_⟩:=H.mem_rd n _ a ha
     exact absurd (H.par_of hkl (aJ_.1 hb).2) (hk b (aJ_.1 hb).1)
    rw[e,List.nil_append]
   ·rw[List.filter_cons_of_pos (by simpa using ht),List.flatMap_cons,List.filter_cons_of_pos (by simpa using ht),H.rd_less hkl hk n t.code]
theorem Ld.rdx_less (H:Ld l) (hkl:k∈l) (hk:∀s∈l,parK l s≠some k):rdx (l.filter fun x=>decide (x.code≠k.code)) 0=(rdx l 0).filter fun x=>decide (x.code≠k.code):=H.rd_less hkl hk _ _
end
def mvS (u v:Int) (s:Sh):Sh:={ s with rect:=⟨s.rect.x+u,s.rect.y+v,s.rect.w,s.rect.h⟩ }
theorem sT_ {f:Option Sh→Sh→Option Sh} {g:Option Sh→Sh→Option Sh} {m:Sh→Sh} (l:List Sh) (h:∀x∈l,∀p:Option Sh,g (p.map m) (m x)=(f p x).map m):∀p:Option Sh,(l.map m).foldl g (p.map m)=(l.foldl f p).map m:=by
 induction l with
 | nil=>intro p;rfl
 | cons x l ih=>
  intro p
  rw[List.map_cons,List.foldl_cons,List.foldl_cons,h x List.mem_cons_self,ih fun y hy=>h y (List.mem_cons_of_mem _ hy)]
theorem aAR {u v:Int} {b s:Sh} (hb:vRc (mvS u v b).rect=true∧vRc b.rect=true) (hs:vRc (mvS u v s).rect=true∧vRc s.rect=true):bQ_ (mvS u v b) (mvS u v s)=bQ_ b s:=by
 rw[Bool.eq_iff_iff,fK_,fK_]
 have e:(mvS u v b).rect≠(mvS u v s).rect↔b.rect≠s.rect:=by
  rcases b with ⟨bc,bk,⟨bx,bY,bw,bh⟩,_,_,_⟩
  rcases s with ⟨sc,sk,⟨sx,sy,sw,sh⟩,_,_,_⟩
  simp only[mvS,Rc.mk.injEq,ne_eq]
  omega
 rw[e]
 simp only[hb.1,hb.2,hs.1,hs.2,true_and]
 show _∧_∧b.rect.x+u≤s.rect.x+u∧s.rect.x+u+s.rect.w≤b.rect.x+u+b.rect.w∧b.rect.y+v≤s.rect.y+v∧s.rect.y+v+s.rect.h≤b.rect.y+v+b.rect.h↔_
 have e1:(mvS u v b).kind=b.kind:=rfl
 have e2:(mvS u v b).code=b.code:=rfl
 have e3:(mvS u v s).code=s.code:=rfl
 rw[e1,e2,e3]
 constructor <;> rintro⟨h1,h2,h3,h4,h5,h6⟩ <;> exact⟨h1,h2,by omega,by omega,by omega,by omega⟩
section
variable {l:List Sh} {u v:Int}
theorem aCB (hl:∀s∈l,vRc (mvS u v s).rect=true∧vRc s.rect=true) {s:Sh} (hs:s∈l):parK (l.map (mvS u v)) (mvS u v s)=(parK l s).map (mvS u v):=by
 refine sT_ (f:=parF s) (g:=parF (mvS u v s)) (m:=mvS u v) l (fun x hx p=>?_) none
 unfold parF
 rw[aAR (hl x hx) (hl s hs)]
 cases bQ_ x s with
 | false=>rfl
 | true=>
  rw[if_pos rfl,if_pos rfl]
  cases p with
  | none=>rfl
  | some q=>
   show(if dM_ x≤dM_ q then some (mvS u v x) else some (mvS u v q))=_
   by_cases h:dM_ x≤dM_ q
   ·rw[if_pos h];simp only[if_pos h];rfl
   ·rw[if_neg h];simp only[if_neg h];rfl
theorem pcd_mv (hl:∀s∈l,vRc (mvS u v s).rect=true∧vRc s.rect=true) {s:Sh} (hs:s∈l):pcd (l.map (mvS u v)) (mvS u v s)=pcd l s:=by
 unfold pcd
 rw[aCB hl hs]
 cases parK l s <;> rfl
theorem bef_mv {a b:Sh} : befB (mvS u v a) (mvS u v b)=befB a b:=by
 rw[Bool.eq_iff_iff,cM_,cM_]
 show a.rect.y+v<b.rect.y+v∨(a.rect.y+v=b.rect.y+v∧(a.rect.x+u<b.rect.x+u∨(a.rect.x+u=b.rect.x+u∧a.code<b.code)))↔_
 omega
theorem aEB (s:Sh) (m:List Sh):insS (mvS u v s) (m.map (mvS u v))=(insS s m).map (mvS u v):=by
 induction m with
 | nil=>rfl
 | cons x m ih=>
  show(if befB (mvS u v s) (mvS u v x)=true then _ else _)=(if befB s x=true then _ else _:List Sh).map _
  rw[bef_mv]
  split
  ·rfl
  ·rw[List.map_cons];exact congrArg _ ih
theorem aDA (m:List Sh):∀acc:List Sh,(m.map (mvS u v)).foldl (fun acc s=>insS s acc) (acc.map (mvS u v))=(m.foldl (fun acc s=>insS s acc) acc).map (mvS u v):=by
 induction m with
 | nil=>intro acc;rfl
 | cons x m ih=>intro acc;rw[List.map_cons,List.foldl_cons,List.foldl_cons,aEB,ih]
theorem aDY (hl:∀s∈l,vRc (mvS u v s).rect=true∧vRc s.rect=true) (c:Int):aM_ (l.map (mvS u v)) c=(aM_ l c).map (mvS u v):=by
 unfold aM_
 rw[List.filter_map]
 have e:l.filter ((fun s=>decide (pcd (l.map (mvS u v)) s=c))∘mvS u v)=l.filter fun s=>decide (pcd l s=c):=List.filter_congr fun s hs=>by
  show decide (pcd (l.map (mvS u v)) (mvS u v s)=c)=_
  rw[pcd_mv hl hs]
 rw[e]
 exact aDA _ []
theorem rd_mv (hl:∀s∈l,vRc (mvS u v s).rect=true∧vRc s.rect=true):∀(n:Nat) (c:Int),rdL (l.map (mvS u v)) n c=(rdL l n c).map (mvS u v)
 | 0,_=>rfl
 | n+1,c=>by
  show(aM_ _ c).flatMap _=((aM_ l c).flatMap _).map _
  rw[aDY hl,List.map_flatMap,List.flatMap_map]
  refine fT_ fun s _=>?_
  show mvS u v s::rdL (l.map (mvS u v)) n s.code=_
  rw[rd_mv hl n s.code]
  rfl
end
end Go.Proofs.YtdkaohphbgdkpaaGreatDoor
namespace Go.Proofs.YtdkaohphbgdkpaaGreatDoor
open Go.RowKit Go.Shelf
attribute [local go_sem] Oper.semAt_some
theorem xP_ (xs:List Nat) (k:Nat) (hk:k<xs.length):val 10000 (xs.drop (xs.length-(k+1)))=xs[xs.length-1-k]?.getD 0+10000*val 10000 (xs.drop (xs.length-k)):=by
 have h:xs.length-(k+1)<xs.length:=by omega
 rw[List.drop_eq_getElem_cons h,show xs.length-(k+1)+1=xs.length-k from by omega]
 simp only[val]
 rw[show xs.length-1-k=xs.length-(k+1) from by omega,List.getElem?_eq_getElem h]
 rfl
theorem dY_ {W W':World} (h:Below W.heap.size W W'):KeepsOthers W W':=⟨h.size,fun k _ hk _=>(h.block k (Array.getElem?_eq_some_iff.1 hk).1).trans hk⟩
theorem in_t {n lo hi:Int} (h1:lo≤n) (h2:n≤hi) (w:World) :
  Calls Tryz.prog 105 #[.int .i64 n,.int .i64 lo,.int .i64 hi] w fun e w'=>e=.returned (.bool true)∧w=w':=by
 go_enter Tryz.func105,Tryz.ntmps105
 go_wp2
 go_ret
 exact⟨rfl,rfl⟩
theorem in_f {n lo hi:Int} (h:n<lo∨hi<n) (w:World) :
  Calls Tryz.prog 105 #[.int .i64 n,.int .i64 lo,.int .i64 hi] w fun e w'=>e=.returned (.bool false)∧w=w':=by
 by_cases h1:lo≤n
 ·have h2:hi<n:=by omega
  have h3:decide (n≤hi)=false:=decide_eq_false (by omega)
  clear h
  go_enter Tryz.func105,Tryz.ntmps105
  go_wp2
  go_ret
  exact⟨rfl,rfl⟩
 ·have h3:decide (lo≤n)=false:=decide_eq_false h1
  clear h
  go_enter Tryz.func105,Tryz.ntmps105
  go_wp2
  go_ret
  exact⟨rfl,rfl⟩
theorem yP_ (p:Pl) (w:World) :
  Calls Tryz.prog 104 #[.agg #[.int .i64 p.x,.int .i64 p.y]] w fun e W'=>e=.returned (.bool (vP p))∧Below w.heap.size w W':=by
 obtain⟨x,y⟩:=p
 by_cases hx:0≤x∧x≤4095
 ·have kx:=Lib.hid (fun W=>in_t hx.1 hx.2 W)
  by_cases hy:0≤y∧y≤4095
  ·have ky:=Lib.hid (fun W=>in_t hy.1 hy.2 W)
   rw[show vP ⟨x,y⟩=true by simp[vP,hx.1,hx.2,hy.1,hy.2]]
   clear hx hy
   go_enter Tryz.func104,Tryz.ntmps104
   go_wp2_with (first
    | (go_at_call 105;(with_reducible refine(kx.out _).mono ?_);rintro e w' ⟨rfl,rfl⟩)
    | (go_at_call 105;(with_reducible refine(ky.out _).mono ?_);rintro e w' ⟨rfl,rfl⟩)
    | fail)
   go_ret
   exact⟨rfl,(Below.refl _ _).alloc (Nat.le_refl _) _⟩
  ·have ky:=Lib.hid (fun W=>in_f (n:=y) (lo:=0) (hi:=4095) (by omega) W)
   rw[show vP ⟨x,y⟩=false by simp[vP];omega]
   clear hx hy
   go_enter Tryz.func104,Tryz.ntmps104
   go_wp2_with (first
    | (go_at_call 105;(with_reducible refine(kx.out _).mono ?_);rintro e w' ⟨rfl,rfl⟩)
    | (go_at_call 105;(with_reducible refine(ky.out _).mono ?_);rintro e w' ⟨rfl,rfl⟩)
    | fail)
   go_ret
   exact⟨rfl,(Below.refl _ _).alloc (Nat.le_refl _) _⟩
 ·have kx:=Lib.hid (fun W=>in_f (n:=x) (lo:=0) (hi:=4095) (by omega) W)
  rw[show vP ⟨x,y⟩=false by simp[vP];omega]
  clear hx
  go_enter Tryz.func104,Tryz.ntmps104
  go_wp2_with (go_at_call 105;(with_reducible refine(kx.out _).mono ?_);rintro e w' ⟨rfl,rfl⟩)
  go_ret
  exact⟨rfl,(Below.refl _ _).alloc (Nat.le_refl _) _⟩
end Go.Proofs.YtdkaohphbgdkpaaGreatDoor
namespace Go.Proofs.YtdkaohphbgdkpaaGreatDoor
theorem dig_getD {B:Nat} (hB:2≤B) (i n:Nat):(dig B n)[i]?.getD 0=n/B^i%B:=by
 induction i generalizing n with
 | zero=>
  rcases Nat.eq_zero_or_pos n with h|h
  ·subst h;simp[dR_]
  ·rw[cD_ hB h];simp
 | succ i ih=>
  rcases Nat.eq_zero_or_pos n with h|h
  ·subst h;simp[dR_]
  ·rw[cD_ hB h,List.getElem?_cons_succ,ih,Nat.div_div_eq_div_mul,Nat.pow_succ,Nat.mul_comm B]
end Go.Proofs.YtdkaohphbgdkpaaGreatDoor
