/- - -/
import Derived.Shelf.SlSortCmp.WholeK
import Derived.Test.YtlikmmpmnaaifaaGreatDoorZShelfS
import Derived.Test.YtlikmmpmnaaifaaGreatDoorZPl15
set_option maxHeartbeats 40000000
set_option maxRecDepth 1000000
open Go.Lib (hid)
namespace Go.Proofs.YtlikmmpmnaaifaaGreatDoor
open Go.RowKit Go.Shelf Go.Sort
attribute [local go_sem] Oper.semAt_some
theorem aOM (a b:Pl) (w:World) :
  Calls Tryz.prog 72 #[.agg #[.int .i64 a.x,.int .i64 a.y],.agg #[.int .i64 b.x,.int .i64 b.y]] w fun e W'=>e=.returned (.int .i64 (ordP a b))∧∃q os',W'=grow (w.drewN q) os':=by
 have KY:=hid (fun W=>aPX a.y b.y W)
 have KX:=hid (fun W=>aPX a.x b.x W)
 have KO:=hid (fun(W:World) (h:ArAt (w.heap.size+1+1) [.int .i64 (cmpI a.y b.y),.int .i64 (cmpI a.x b.x)] W)=>or_s W (h.row 0 _ rfl) (h.row 1 _ rfl))
 unfold ordP
 generalize cmpI a.y b.y=p at *
 generalize cmpI a.x b.x=q at *
 have H1:=hid (show AzAt [(w.heap.size+1,[.int .i64 b.x,.int .i64 b.y]),(w.heap.size,[.int .i64 a.x,.int .i64 a.y])] w _ from by have hp:=((AzAt.start w).push [.int .i64 a.x,.int .i64 a.y] 26).push [.int .i64 b.x,.int .i64 b.y] 26;simp only[World.size_alloc] at hp;exact hp)
 have H2:=hid (show AzAt [(w.heap.size+1+1,[.int .i64 p,.int .i64 q]),(w.heap.size+1,[.int .i64 b.x,.int .i64 b.y]),(w.heap.size,[.int .i64 a.x,.int .i64 a.y])] w _ from by have hp:=H1.out.push [.int .i64 p,.int .i64 q] 3;simp only[World.size_alloc] at hp;exact hp)
 go_enter Tryz.func72,Tryz.ntmps72
 go_wp2
 go_region_held3 (fun W=>W.cell? ⟨w.heap.size,0,none⟩=some (.int .i64 a.x)∧W.cell? ⟨w.heap.size,1,none⟩=some (.int .i64 a.y)∧W.cell? ⟨w.heap.size+1,0,none⟩=some (.int .i64 b.x)∧W.cell? ⟨w.heap.size+1,1,none⟩=some (.int .i64 b.y)) (first|with_reducible exact⟨(H2.out.drew.row (w.heap.size,[.int .i64 a.x,.int .i64 a.y]) (by simp)).row 0 _ rfl,(H2.out.drew.row (w.heap.size,[.int .i64 a.x,.int .i64 a.y]) (by simp)).row 1 _ rfl,(H2.out.drew.row (w.heap.size+1,[.int .i64 b.x,.int .i64 b.y]) (by simp)).row 0 _ rfl,(H2.out.drew.row (w.heap.size+1,[.int .i64 b.x,.int .i64 b.y]) (by simp)).row 1 _ rfl⟩|with_reducible exact⟨(H1.out.drew.row (w.heap.size,[.int .i64 a.x,.int .i64 a.y]) (by simp)).row 0 _ rfl,(H1.out.drew.row (w.heap.size,[.int .i64 a.x,.int .i64 a.y]) (by simp)).row 1 _ rfl,(H1.out.drew.row (w.heap.size+1,[.int .i64 b.x,.int .i64 b.y]) (by simp)).row 0 _ rfl,(H1.out.drew.row (w.heap.size+1,[.int .i64 b.x,.int .i64 b.y]) (by simp)).row 1 _ rfl⟩) (first
  | (go_at_call 99;(with_reducible refine(KY.out _).mono ?_);rintro e w' ⟨rfl,rfl⟩)
  | (go_at_call 99;(with_reducible refine(KX.out _).mono ?_);rintro e w' ⟨rfl,rfl⟩)
  | (go_at_call 133;(with_reducible refine(KO.out _ (H2.out.drew.at (by simp))).mono ?_);rintro e w' ⟨rfl,rfl⟩)
  | fail)
 all_goals
  go_wp2
  go_ret
  exact⟨rfl,1,_,by simp only[alloc_eq_grow,grow_grow];rfl⟩
def encP (p:Pl):List Value:=[.int .i64 p.x,.int .i64 p.y]
theorem yL_:ltOf ordP=ltP:=by
 funext a b
 rw[aOS]
 rfl
theorem aNP:SWO (ltOf ordP):=by
 rw[yL_]
 constructor
 ·intro x;unfold ltP;simp
 ·intro x y z h k
  unfold ltP at *
  simp only[Bool.or_eq_true,Bool.and_eq_true,decide_eq_true_eq] at *
  omega
 ·intro x y z h k
  unfold ltP at *
  simp only[Bool.or_eq_false_iff,Bool.and_eq_false_iff,decide_eq_false_iff_not] at *
  omega
theorem aKL (blk off size:Nat) (w:World):CmpLays Tryz.prog 72 #[] encP 2 ordP blk off size w:=
 fun _ _ _ _ x y=>aOM x y _
theorem aLD {l:List Pl} {k:Nat} {x:Pl} (h:l[k]?=some x):l.toArray[k]! = x:=by
 simp[h]
theorem yR_ {B:Nat} {l:List Pl} {W:World} (h:PqAt B l W):HoldsK encP 2 W B 0 l.toArray:=by
 intro j hj
 have hs:j<l.toArray.size*2:=by simpa[flatK] using hj
 rw[get_flatK _ _ _ _ hs]
 have hl:j/2<l.length:=by simp at hs;omega
 obtain⟨x,hx⟩:∃x,l[j/2]?=some x:=⟨l[j/2],List.getElem?_eq_getElem hl⟩
 rw[aLD hx,Nat.zero_add]
 obtain⟨c0,c1⟩:=h.row _ _ hx
 refine⟨?_,h.fz j (by simp at hs;omega)⟩
 rcases Nat.mod_two_eq_zero_or_one j with e|e
 ·rw[e]
  rw[show j/2*2=j by omega] at c0
  exact c0
 ·rw[e]
  rw[show j/2*2+1=j by omega] at c1
  exact c1
theorem jC_ {w:World} {blk k:Nat} (f:Array Value→Array Value) (h:k≠blk):(mapBlock w blk f).heap[k]?=w.heap[k]?:=by
 unfold mapBlock
 simp[Array.getElem?_modify,Ne.symm h]
theorem nE_ {W:World} {B n:Nat} {d:Array Pl} {os:Array Obj} {k:Nat} (h:k≠B) (hk:k<W.heap.size):(sortWorldK encP 2 W B 0 n d os).heap[k]?=W.heap[k]?:=by
 unfold sortWorldK putRowK putRow grow
 have e:=jC_ (w:=Sort.ahead W n) (putCells id 0 (flatK encP 2 d)) h
 have hs:k<(mapBlock (Sort.ahead W n) B (putCells id 0 (flatK encP 2 d))).heap.size:=by
  simp[mapBlock,Sort.ahead]
  exact hk
 rw[Array.getElem?_append_left hs]
 exact e
theorem aDG {B:Nat} {l:List Pl} {R:List (Nat×List Value)} {w W:World} (h:PzAt B l R w W) {n:Nat} {d:Array Pl} {os:Array Obj} (hs:d.size=l.toArray.size):PzAt B d.toList R w (sortWorldK encP 2 W B 0 n d os):=by
 have hh:=holdsK_sortWorldK_c (enc:=encP) (k:=2) (w:=W) (blk:=B) (off:=0) l.toArray d n os (yR_ h.ns) h.ns.sz hs
 have hz:W.heap.size≤(sortWorldK encP 2 W B 0 n d os).heap.size:=size_sortWorldK_c (enc:=encP) (k:=2) (w:=W) (blk:=B) (off:=0) n d os
 refine⟨⟨⟨?_,?_,?_,Nat.le_trans h.az.bw.size hz,fun k hk=>?_⟩,fun x hx=>?_⟩,⟨fun k x hx=>?_,fun o ho=>?_,Nat.lt_of_lt_of_le h.ns.sz hz⟩,h.hB,h.ne⟩
 ·exact h.az.bw.os
 ·exact h.az.bw.tape
 ·exact h.az.bw.output
 ·rw[nE_ (by have:=h.hB;omega) (Nat.lt_of_lt_of_le hk h.az.bw.size)]
  exact h.az.bw.block k hk
 ·exact(h.az.row x hx).of_block (nE_ (h.ne x hx).symm (h.az.row x hx).sz) hz
 ·have hk:k<d.size:=by have:=(List.getElem?_eq_some_iff.1 hx).1;simpa using this
  have e:d[k]! = x:=by
   have:d[k]?=some x:=by rw[←hx];simp
   rw[getElem!_pos d k hk]
   rw[Array.getElem?_eq_getElem hk] at this
   exact Option.some.inj this
  have c0:=(HoldsK.cell hh hk (c:=0) (by omega)).1
  have c1:=(HoldsK.cell hh hk (c:=1) (by omega)).1
  rw[e] at c0 c1
  constructor
  ·simpa[encP] using c0
  ·simpa[encP] using c1
 ·have:=hh o (by simpa[flatK] using ho)
  simpa using this.2
theorem aNW {B cap n:Nat} {l:List Pl} {R:List (Nat×List Value)} {w W:World} (hl:l.length=n) (hn:n≤1000000) (h:PzAt B l R w W) :
  Calls Tryz.prog 71 #[.slice (some ⟨B,0,none⟩) n cap,.func (.func 72) #[] #[]] W fun e W'=>e=.returned (.tuple #[])∧∃l':List Pl,l'.length=n∧(∀q,q∈l'↔q∈l)∧l'.Pairwise (fun a b=>ltP b a=false)∧PzAt B l' R w W':=by
 have eg:∀args w,(callFunc 72 args).run Tryz.prog w=.ok (.enter 72 args) w:=enters_of Tryz.func72 (by kernel_rfl) rfl
 have hcon:=AnyQ.slices_SortFunc Tryz.laysSORT 2 Tryz.isAgg26 Tryz.sizeOf26 encP (fun _=>rfl) (fun x v hv=>by simp[encP] at hv;rcases hv with rfl|rfl <;> rfl) ordP aNP 72 #[] B 0 cap l.toArray W eg (aKL B 0 _ W) (yR_ h.ns) h.ns.sz (by simp;omega)
 rw[show l.toArray.size=n by simpa using hl] at hcon
 refine Calls.mono hcon ?_
 rintro e W' ⟨rfl,d',m,os,⟨hs,_,hp⟩,hsort,rfl⟩
 rw[yL_] at hsort
 have hsz:d'.size=n:=by rw[hs];simpa using hl
 refine⟨rfl,d'.toList,by simpa using hsz,fun q=>?_,?_,aDG h (by rw[hs])⟩
 ·have e1:d'.extract 0 n=d':=by rw[←hsz];simp
  have e2:l.toArray.extract 0 n=l.toArray:=by rw[←hl];simp
  rw[e1,e2] at hp
  have:=hp.mem_iff (a:=q)
  simpa using this
 ·rw[List.pairwise_iff_getElem]
  intro i j hi hj hij
  have hj':j<d'.size:=by simpa using hj
  have hi':i<d'.size:=by simpa using hi
  have:=hsort i j (Nat.zero_le _) hij (by omega)
  rw[getElem!_pos d' j hj',getElem!_pos d' i hi'] at this
  simpa using this
end Go.Proofs.YtlikmmpmnaaifaaGreatDoor
