/- - -/
import Derived.Shelf.SlSortCmp.WholeK
import Derived.Deep.RegionHeld3
import Derived.Test.YtdkaohphbgdkpaaGreatDoorZShelfS
import Derived.Test.YtdkaohphbgdkpaaGreatDoorZPl2
import Derived.Test.YtdkaohphbgdkpaaGreatDoorZSo
set_option maxHeartbeats 40000000
set_option maxRecDepth 1000000
namespace Go.Proofs.YtdkaohphbgdkpaaGreatDoor
open Go.RowKit Go.Shelf Go.Sort
attribute [local go_sem] Oper.semAt_some
def or3 (x y z:Int):Int:=if x=0 then (if y=0 then z else y) else x
theorem or3_s {B:Nat} {x y z:Int} (w:World) (c0:w.cell? ⟨B,0,none⟩=some (.int .i64 x)) (c1:w.cell? ⟨B,1,none⟩=some (.int .i64 y)) (c2:w.cell? ⟨B,2,none⟩=some (.int .i64 z)) :
  Calls Tryz.prog 67 #[.slice (some ⟨B,0,none⟩) 3 3] w fun e w'=>e=.returned (.int .i64 (or3 x y z))∧w=w':=by
 have C:=Lib.hid (And.intro c0 (And.intro c1 c2))
 clear c0 c1 c2
 go_enter Tryz.func67,Tryz.ntmps67
 go_wp2
 go_loop [8] (fun i=>∃k:Nat,k≤3∧i=.int .i64 (k:Int)∧(1≤k→x=0)∧(2≤k→y=0)∧(3≤k→z=0)) (fun i=>3-(intOf i).toNat)
 case atStart=>exact⟨0,by omega,rfl,by omega,by omega,by omega⟩
 case round=>
  obtain⟨k,hk,rfl,h1,h2,h3⟩:=hrel
  obtain rfl|rfl|rfl|rfl:k=0∨k=1∨k=2∨k=3:=by omega
  ·have c0:=C.out.1
   clear h1 h2 h3
   by_cases hx:x=0
   ·subst hx
    go_wp2
    go_round
    case rel=>exact⟨1,by omega,by go_num,by simp,fun h=>by omega,fun h=>by omega⟩
    case measure=>simp[intOf]
   ·have hx2:(x==0)=false:=beq_eq_false_iff_ne.2 hx
    have HX:=Lib.hid hx
    clear hx
    go_wp2
    go_ret
    exact⟨cV_ (by unfold or3;rw[if_neg HX.out]),rfl⟩
  ·have c1:=C.out.2.1
   have HX:=Lib.hid (h1 (by omega))
   clear h1 h2 h3
   by_cases hy:y=0
   ·subst hy
    go_wp2
    go_round
    case rel=>exact⟨2,by omega,by go_num,fun _=>HX.out,by simp,fun h=>by omega⟩
    case measure=>simp[intOf]
   ·have hy2:(y==0)=false:=beq_eq_false_iff_ne.2 hy
    have HY:=Lib.hid hy
    clear hy
    go_wp2
    go_ret
    exact⟨cV_ (by unfold or3;rw[if_pos HX.out,if_neg HY.out]),rfl⟩
  ·have c2:=C.out.2.2
   have HX:=Lib.hid (h1 (by omega))
   have HY:=Lib.hid (h2 (by omega))
   clear h1 h2 h3
   by_cases hz:z=0
   ·subst hz
    go_wp2
    go_round
    case rel=>exact⟨3,by omega,by go_num,fun _=>HX.out,fun _=>HY.out,by simp⟩
    case measure=>simp[intOf]
   ·have hz2:(z==0)=false:=beq_eq_false_iff_ne.2 hz
    clear hz
    go_wp2
    go_ret
    exact⟨cV_ (by unfold or3;rw[if_pos HX.out,if_pos HY.out]),rfl⟩
  ·have HX:=Lib.hid (h1 (by omega))
   have HY:=Lib.hid (h2 (by omega))
   have HZ:=Lib.hid (h3 (by omega))
   clear h1 h2 h3
   go_wp2
   go_ret
   exact⟨cV_ (by unfold or3;rw[if_pos HX.out,if_pos HY.out,HZ.out]),rfl⟩
def ordS (a b:Sh):Int:=or3 (cmpI a.rect.y b.rect.y) (cmpI a.rect.x b.rect.x) (cmpI a.code b.code)
theorem aES (a b:Sh):decide (ordS a b<0)=befB a b:=by
 rw[Bool.eq_iff_iff,cM_,decide_eq_true_iff]
 unfold ordS or3 cmpI
 split <;> split <;> (try split) <;> (try split) <;> (try split) <;> omega
theorem zR_ (a b:Sh) (w:World) :
  Calls Tryz.prog 66 #[.agg (shC a).toArray,.agg (shC b).toArray] w fun e W'=>e=.returned (.int .i64 (ordS a b))∧∃q os',W'=grow (w.drewN q) os':=by
 have KY:=Lib.hid (fun W=>aEN a.rect.y b.rect.y W)
 have KX:=Lib.hid (fun W=>aEN a.rect.x b.rect.x W)
 have KC:=Lib.hid (fun W=>aEN a.code b.code W)
 unfold ordS
 have KO:=Lib.hid (fun(W:World) (h:ArAt (w.heap.size+1+1) [.int .i64 (cmpI a.rect.y b.rect.y),.int .i64 (cmpI a.rect.x b.rect.x),.int .i64 (cmpI a.code b.code)] W)=>or3_s W (h.row 0 _ rfl) (h.row 1 _ rfl) (h.row 2 _ rfl))
 generalize cmpI a.rect.y b.rect.y=p at *
 generalize cmpI a.rect.x b.rect.x=q at *
 generalize cmpI a.code b.code=r at *
 have H1:=Lib.hid (show AzAt [(w.heap.size+1,shC b),(w.heap.size,shC a)] w _ from by have hp:=((AzAt.start w).push (shC a) 30).push (shC b) 30;simp only[World.size_alloc] at hp;exact hp)
 have H2:=Lib.hid (show AzAt [(w.heap.size+1+1,[.int .i64 p,.int .i64 q,.int .i64 r]),(w.heap.size+1,shC b),(w.heap.size,shC a)] w _ from by have hp:=H1.out.push [.int .i64 p,.int .i64 q,.int .i64 r] 3;simp only[World.size_alloc] at hp;exact hp)
 go_enter Tryz.func66,Tryz.ntmps66
 go_wp2
 go_region_held3 (fun W=>W.cell? ⟨w.heap.size,0,none⟩=some (.int .i64 a.code)∧W.cell? ⟨w.heap.size,2,none⟩=some (.int .i64 a.rect.x)∧W.cell? ⟨w.heap.size,3,none⟩=some (.int .i64 a.rect.y)∧W.cell? ⟨w.heap.size+1,0,none⟩=some (.int .i64 b.code)∧W.cell? ⟨w.heap.size+1,2,none⟩=some (.int .i64 b.rect.x)∧W.cell? ⟨w.heap.size+1,3,none⟩=some (.int .i64 b.rect.y)) (first|with_reducible exact⟨H2.out.drew.ce 2 0 rfl rfl,H2.out.drew.ce 2 2 rfl rfl,H2.out.drew.ce 2 3 rfl rfl,H2.out.drew.ce 1 0 rfl rfl,H2.out.drew.ce 1 2 rfl rfl,H2.out.drew.ce 1 3 rfl rfl⟩|with_reducible exact⟨H1.out.drew.ce 1 0 rfl rfl,H1.out.drew.ce 1 2 rfl rfl,H1.out.drew.ce 1 3 rfl rfl,H1.out.drew.ce 0 0 rfl rfl,H1.out.drew.ce 0 2 rfl rfl,H1.out.drew.ce 0 3 rfl rfl⟩) (first
  | (go_at_call 68;(with_reducible refine(KY.out _).mono ?_);rintro e w' ⟨rfl,rfl⟩)
  | (go_at_call 68;(with_reducible refine(KX.out _).mono ?_);rintro e w' ⟨rfl,rfl⟩)
  | (go_at_call 68;(with_reducible refine(KC.out _).mono ?_);rintro e w' ⟨rfl,rfl⟩)
  | (go_at_call 67;(with_reducible refine(KO.out _ (H2.out.drew.at (by simp))).mono ?_);rintro e w' ⟨rfl,rfl⟩)
  | fail)
 all_goals
  go_wp2
  go_ret
  exact⟨rfl,1,_,by simp only[alloc_eq_grow,grow_grow];rfl⟩
instance:Inhabited Sh:=⟨⟨0,0,⟨0,0,0,0⟩,⟨0,0⟩,⟨0,0⟩,⟨#[]⟩⟩⟩
theorem nZ_:ltOf ordS=befB:=by
 funext a b
 exact aES a b
theorem zA_:SWO (ltOf ordS):=by
 rw[nZ_]
 constructor
 ·intro x
  have:=hG_ (a:=x) (b:=x)
  cases h:befB x x
  ·rfl
  ·exact absurd (this h) (by rw[h];simp)
 ·intro x y z h k
  exact kY_ h k
 ·intro x y z h k
  rw[Bool.eq_false_iff,Ne,cM_] at *
  omega
theorem qH_ {l:List Sh} {j:Nat} {s:Sh} (h:l[j/11]?=some s):(ssC l)[j]?=(shC s)[j%11]?:=by
 have hm:j%11<11:=Nat.mod_lt _ (by omega)
 obtain⟨v,hv⟩:∃v,(shC s)[j%11]?=some v:=⟨_,List.getElem?_eq_getElem (show j%11<(shC s).length from hm)⟩
 have:=uD_ h (j%11) v hv
 rw[show j/11*11+j%11=j by omega] at this
 rw[this,hv]
theorem aAW (l:List Sh):(flatK shC 11 l.toArray).toList=ssC l:=by
 apply List.ext_getElem?
 intro j
 by_cases hj:j<l.length*11
 ·obtain⟨e,he⟩:∃e,l[j/11]?=some e:=⟨l[j/11]'(by omega),List.getElem?_eq_getElem _⟩
  have hb:l.toArray[j/11]! = e:=by simp[he]
  have hf:=get_flatK shC 11 l.toArray j (by simpa using hj)
  rw[hb] at hf
  have hs:j<(flatK shC 11 l.toArray).size:=by simpa[flatK] using hj
  rw[getElem!_pos _ j hs] at hf
  rw[Array.getElem?_toList,Array.getElem?_eq_getElem hs,hf,qH_ he]
  have hm:j%11<(shC e).length:=Nat.mod_lt _ (by show 0<11;omega)
  rw[List.getElem?_eq_getElem hm,getElem!_pos (shC e) (j%11) hm]
 ·rw[List.getElem?_eq_none (by simpa[flatK] using hj),List.getElem?_eq_none (by rw[kC_];omega)]
theorem wO_ {B n c:Nat} {l:List Sh} {R:List (Nat×List Value)} {w W:World} (h:OsAt 30 11 (.slice (some ⟨B,0,none⟩) n c) n (ssC l) R w W):HoldsK shC 11 W B 0 l.toArray:=by
 intro j hj
 have hs:j<l.toArray.size*11:=by simpa[flatK] using hj
 rw[get_flatK _ _ _ _ hs]
 have hl:j/11<l.length:=by simp at hs;omega
 obtain⟨e,he⟩:∃e,l[j/11]?=some e:=⟨l[j/11],List.getElem?_eq_getElem hl⟩
 have hb:l.toArray[j/11]! = e:=by simp[he]
 rw[hb,Nat.zero_add]
 have hm:j%11<(shC e).length:=Nat.mod_lt _ (by show 0<11;omega)
 refine⟨h.cell rfl ?_,h.fz rfl j⟩
 rw[qH_ he,List.getElem?_eq_getElem hm,getElem!_pos (shC e) (j%11) hm];rfl
theorem tY_ (cur F:Array Value) (h:F.size≤cur.size):(putCells id 0 F cur).toList.take F.size=F.toList:=by
 apply List.ext_getElem?
 intro j
 by_cases hj:j<F.size
 ·rw[List.getElem?_take_of_lt hj,Array.getElem?_toList,Array.getElem?_toList]
  simp[putCells,hj,show j<cur.size by omega]
 ·rw[List.getElem?_take_eq_none (by omega),Array.getElem?_toList,Array.getElem?_eq_none (by omega)]
theorem jT_ {w:World} {blk k:Nat} (f:Array Value→Array Value) (h:k≠blk):(mapBlock w blk f).heap[k]?=w.heap[k]?:=by
 unfold mapBlock
 simp[Array.getElem?_modify,Ne.symm h]
theorem oI_ {W:World} {B n k:Nat} {d:Array Sh} {os:Array Obj} (h:k≠B) (hk:k<W.heap.size):(sortWorldK shC 11 W B 0 n d os).heap[k]?=W.heap[k]?:=by
 unfold sortWorldK putRowK putRow grow
 have e:=jT_ (w:=Sort.ahead W n) (putCells id 0 (flatK shC 11 d)) h
 have hs:k<(mapBlock (Sort.ahead W n) B (putCells id 0 (flatK shC 11 d))).heap.size:=by
  simp[mapBlock,Sort.ahead]
  exact hk
 rw[Array.getElem?_append_left hs]
 exact e
theorem oH_ {W:World} {B n:Nat} {d:Array Sh} {os:Array Obj} {cur:Array Value} {e:TypeId} {fr:Nat×Nat} (hb:W.heap[B]?=some (.cells cur e fr)):(sortWorldK shC 11 W B 0 n d os).heap[B]?=some (.cells (putCells id 0 (flatK shC 11 d) cur) e fr):=by
 have hg:B<W.heap.size:=(Array.getElem?_eq_some_iff.1 hb).1
 unfold sortWorldK putRowK
 rw[heap_grow_old _ _ (by simpa using hg)]
 simp[putRow,mapBlock,Sort.ahead,Array.getElem?_modify,hb,onCells]
theorem oJ_ (W:World) (B m:Nat) (d:Array Sh) (os:Array Obj):W.grownBy (sortWorldK shC 11 W B 0 m d os) (some B):=
 ⟨rfl,rfl,rfl,size_sortWorldK_c (enc:=shC) (k:=11) (w:=W) (blk:=B) (off:=0) m d os,fun i hi hne=>oI_ (fun e=>hne (by rw[e])) hi⟩
theorem rZ_ {B n m c b:Nat} {l ds:List Sh} {W:World} {os:Array Obj} (h:W.ownsRow b 30 11 (.slice (some ⟨B,0,none⟩) n c) n (ssC l)) (hs:ds.length=n) :
  (sortWorldK shC 11 W B 0 m ds.toArray os).ownsRow b 30 11 (.slice (some ⟨B,0,none⟩) n c) n (ssC ds):=by
 refine⟨by rw[kC_,hs],?_⟩
 rcases h.2 with ⟨e,_⟩|⟨g,c',cur,e,h1,h2,h3,h4,h5,h6⟩
 ·cases e
 ·injection e with e1 _ e2
  injection e1 with e1
  injection e1 with e1 _
  subst e1 e2
  have hF:(flatK shC 11 ds.toArray).size=n*11:=by simp[flatK,hs]
  refine .inr ⟨B,c,_,rfl,h1,oH_ h2,h3,h4,by simp[putCells,h5],?_⟩
  have:=tY_ cur (flatK shC 11 ds.toArray) (by rw[hF,h5];omega)
  rw[hF,aAW] at this
  exact this
theorem aDC {B cap n:Nat} {l:List Sh} {R:List (Nat×List Value)} {w W:World} (hl:l.length=n) (hn:n≤1000000) (hd:Dist l) (h:OsAt 30 11 (.slice (some ⟨B,0,none⟩) n cap) n (ssC l) R w W) :
  Calls Tryz.prog 65 #[.slice (some ⟨B,0,none⟩) n cap,.func (.func 66) #[] #[]] W fun e W'=>e=.returned (.tuple #[])∧W.grownBy W' (some B)∧W'.ownsRow w.heap.size 30 11 (.slice (some ⟨B,0,none⟩) n cap) n (ssC (srt l)):=by
 have eg:∀args w,(callFunc 66 args).run Tryz.prog w=.ok (.enter 66 args) w:=enters_of Tryz.func66 (by kernel_rfl) rfl
 have hcon:=AnyQ.slices_SortFunc Tryz.laysSORT 11 Tryz.isAgg30 Tryz.sizeOf30 shC (fun _=>rfl) (fun x v hv=>by simp at hv;rcases hv with rfl|rfl|rfl|rfl|rfl|rfl|rfl|rfl|rfl|rfl|rfl <;> rfl) ordS zA_ 66 #[] B 0 cap l.toArray W eg (fun _ _ _ _ x y=>zR_ x y _) (wO_ h) (h.blk rfl).1 (by simp;omega)
 rw[show l.toArray.size=n by simpa using hl] at hcon
 refine Calls.mono hcon ?_
 rintro e W' ⟨rfl,d',m,os,⟨hs,_,hp⟩,hsort,rfl⟩
 rw[nZ_] at hsort
 have hsz:d'.size=n:=by rw[hs];simpa using hl
 have hperm:d'.toList.Perm l:=by
  have e1:d'.extract 0 n=d':=by rw[←hsz];simp
  have e2:l.toArray.extract 0 n=l.toArray:=by rw[←hl];simp
  rw[e1,e2] at hp
  simpa using hp
 have hst:Srt d'.toList:=by
  have hd':Dist d'.toList:=(jM_ hperm).2 hd
  unfold Srt
  rw[List.pairwise_iff_getElem]
  intro i j hi hj hij
  have hj':j<d'.size:=by simpa using hj
  have hi':i<d'.size:=by simpa using hi
  have:=hsort i j (Nat.zero_le _) hij (by omega)
  rw[getElem!_pos d' j hj',getElem!_pos d' i hi'] at this
  rcases kZ_ ((List.pairwise_iff_getElem.1 hd') i j hi hj hij) with h1|h1
  ·exact h1
  ·exfalso
   simp at h1
   rw[this] at h1
   cases h1
 have e3:=aBY hd hst hperm
 refine⟨rfl,oJ_ _ _ _ _ _,?_⟩
 rw[←e3]
 exact rZ_ h.own (by simpa using hsz)
end Go.Proofs.YtdkaohphbgdkpaaGreatDoor
