/- - -/
import Derived.Test.YtdkaohphbgdkpaaGreatDoorChecked
import Derived.Maps.AppendAt
import Derived.Shelf.Abstract
import Derived.Test.YtdkaohphbgdkpaaGreatDoorZBase
import Derived.Test.YtdkaohphbgdkpaaGreatDoorZDig
set_option maxHeartbeats 40000000
set_option maxRecDepth 1000000
namespace Go.Proofs.YtdkaohphbgdkpaaGreatDoor
open Go.RowKit
abbrev Nm (w:World) (v:Value) (n:Nat) (lo hi:Nat):Prop:=Ns w v (dig 10000 n) lo hi
def Few (n:Nat):Prop:=(dig 10000 n).length≤1000000
theorem xR_ (v:Value) (xs:List Nat) (lo hi:Nat) (i:Int) (w:World) (h:Ns w v xs lo hi) (h0:0≤i) :
  Calls Tryz.prog 244 #[v,.int .i64 i] w fun e w'=>e=.returned (.int .i64 (xs[i.toNat]?.getD 0:Nat))∧w=w':=by
 have hlen:=h.len
 obtain⟨a,cap,rfl,hc,hm⟩:∃a cap,v=.slice a xs.length cap∧xs.length≤cap∧cap≤maxLen:=by obtain⟨a,cap,h1,h2,h3,_⟩:=h;exact⟨a,cap,h1,h2,h3⟩
 unfold maxLen at hm hlen
 by_cases hlt:i<xs.length
 ·obtain⟨b,off,rfl,_,_,hcc⟩:=h.at (k:=i.toNat) (by omega)
  have hx:xs[i.toNat]?.getD 0=xs[i.toNat]'(by omega):=by rw[List.getElem?_eq_getElem (by omega)];rfl
  rw[hx]
  clear hx h
  go_enter Tryz.func244,Tryz.ntmps244
  go_wp2
  go_ret
  exact⟨rfl,rfl⟩
 ·have hx:xs[i.toNat]?.getD 0=0:=by rw[List.getElem?_eq_none (by omega)];rfl
  rw[hx]
  clear hx h
  go_enter Tryz.func244,Tryz.ntmps244
  go_wp2
  go_ret
  exact⟨rfl,rfl⟩
theorem cH_ (v:Value) (xs:List Nat) (lo hi:Nat) (w:World) (h:Ns w v xs lo hi) :
  Calls Tryz.prog 233 #[v] w fun e w'=>(∃v',e=.returned v'∧Ns w v' (trim xs) lo hi)∧w=w':=by
 have hlen:=h.len
 obtain⟨a,cap,rfl,hc,hm⟩:∃a cap,v=.slice a xs.length cap∧xs.length≤cap∧cap≤maxLen:=by obtain⟨a,cap,h1,h2,h3,_⟩:=h;exact⟨a,cap,h1,h2,h3⟩
 unfold maxLen at hm hlen
 have H:=Lib.hid h
 clear h
 go_enter Tryz.func233,Tryz.ntmps233
 go_wp2
 go_loop [0] (fun s=>∃k:Nat,k≤xs.length∧s=.slice a k cap∧trim (xs.take k)=trim xs) (fun s=>lenOf s)
 case atStart=>exact⟨xs.length,Nat.le_refl _,rfl,by simp⟩
 case round=>
  obtain⟨k,hk,rfl,ht⟩:=hrel
  have HT:=Lib.hid ht
  clear ht
  by_cases hk0:k=0
  ·subst hk0
   go_wp2
   go_ret
   exact⟨⟨_,rfl,by rw[←HT.out];exact H.out.take (Nat.zero_le _)⟩,rfl⟩
  ·obtain⟨j,rfl⟩:∃j,k=j+1:=⟨k-1,by omega⟩
   obtain⟨b,off,rfl,_,_,hcc⟩:=H.out.at (k:=j) (by omega)
   go_wp2
   ·have hz:((xs[j]:Int)==0)=true:=by assumption
    refine⟨⟨j,by omega,rfl,?_⟩,by simp[lenOf]⟩
    rw[←HT.out]
    exact(jS_ (by rw[List.getElem?_eq_getElem (by omega)];simp at hz⊢;omega) (by omega)).symm
   ·have hz:((xs[j]:Int)==0)=false:=by assumption
    go_ret
    refine⟨⟨_,rfl,?_⟩,rfl⟩
    rw[←HT.out,mU_ (by rw[List.getElem?_eq_getElem (by omega)];simp at hz⊢;omega) (by omega)]
    exact H.out.take hk
theorem pW_:(Tryz.prog.info? 3).map (fun i=>(i.zero,i.size,i.bytes))=some (some (.int .i64 0),1,8):=by kernel_rfl
def bM_ (f:Nat→Int):Nat→Int
 | 0=>0
 | n+1=>bM_ f n+10000^n*f n
structure FoldAt (f:Nat→Int) (n i:Nat) (ds:List Nat) (c:Int):Prop where
 len:ds.length=i
 dlt:∀d∈ds,d<10000
 eq:(val 10000 ds:Int)+10000^i*c=bM_ f i
 clo : -1≤c
 chi:c≤100000000
 far:i≤n∨(c+(i-n:Nat)≤100000000∧0≤c)
theorem FoldAt.carry {f:Nat→Int} {n i:Nat} {ds:List Nat} {c:Int} (h:FoldAt f n i ds c) (hn:n≤i) (hi:i≤n) (ht:0≤bM_ f n):0≤c:=by
 obtain rfl:n=i:=by omega
 have h1:=qA_ (B:=10000) (by omega) ds h.dlt
 have h2:=h.eq
 rw[h.len] at h1
 by_cases hc:0≤c
 ·exact hc
 ·have h3:c = -1:=by have:=h.clo;omega
  rw[h3] at h2
  have h4:((10000^n:Nat):Int)=10000^n:=by simp
  omega
theorem FoldAt.step {f:Nat→Int} {n k:Nat} {ds:List Nat} {c:Int} (h:FoldAt f n k ds c) (hhi:∀i,f i≤99990000) (hz:∀i,n≤i→f i=0) (ht:0≤bM_ f n)
  (hgo:k<n∨c≠0) (d c':Int) (hd0:0≤d) (hd1:d<10000) (hc : -1≤c') (hs:f k+c=d+10000*c') :
  FoldAt f n (k+1) (ds++[d.toNat]) c':=by
 have h1:=hhi k
 have h2:=h.chi
 have h3:=h.clo
 refine⟨by simp[h.len],?_,?_,hc,by omega,?_⟩
 ·intro x hx
  rcases List.mem_append.1 hx with hx|hx
  ·exact h.dlt x hx
  ·simp at hx;omega
 ·rw[cG_,h.len]
  have h4:((10000^k:Nat):Int)=10000^k:=by simp
  have h5:(d.toNat:Int)=d:=by omega
  simp only[val,Int.natCast_add,Int.natCast_mul,h4,bM_,←h.eq,h5,Int.natCast_zero,Int.mul_zero,Int.add_zero]
  have h6:(10000:Int)^(k+1)*c'=10000^k*(10000*c'):=by rw[Int.pow_succ,Int.mul_assoc]
  rw[h6,Int.add_assoc,←Int.mul_add,←hs,Int.mul_add]
  omega
 ·by_cases hk:k<n
  ·left;omega
  ·right
   have h7:0≤c:=by
    rcases h.far with h8|h8
    ·exact h.carry (by omega) h8 ht
    ·exact h8.2
   have h9:f k=0:=hz k (by omega)
   rcases h.far with h8|h8
   ·omega
   ·omega
theorem mF_ (K:Nat) (caps:Array Value) (f:Nat→Int) (n:Nat) (w:World)
  (hent:∀(args:Array Value) (w:World),(callFunc K args).run Tryz.prog w=.ok (.enter K args) w)
  (hK:∀(i:Nat) (w':World),i≤200000000→Below w.heap.size w w'→Calls Tryz.prog K (#[.int .i64 i]++caps) w' fun e w''=>e=.returned (.int .i64 (f i))∧Still w' w'')
  (hn:n≤1000000) (hlo:∀i,-9999≤f i) (hhi:∀i,f i≤99990000) (hz:∀i,n≤i→f i=0) (ht:0≤bM_ f n) :
  Calls Tryz.prog 242 #[.int .i64 n,.int .i64 0,.func (.func K) #[] caps] w fun e w'=>(∃v ds k,e=.returned v∧Ns w' v ds w.heap.size w'.heap.size∧FoldAt f n k ds 0∧n≤k)∧Below w.heap.size w w':=by
 obtain⟨i0,hi,hz0,hz1,hz2⟩:=info_parts pW_
 have HK:=Lib.hid hK
 clear hK
 have HZ:=Lib.hid hz
 have HLO:=Lib.hid hlo
 have HHI:=Lib.hid hhi
 have HT:=Lib.hid ht
 clear hz hlo hhi ht
 go_enter Tryz.func242,Tryz.ntmps242
 go_wp2_with (at_make;refine wpList_make_own _ rfl _ _ 243 rfl w.heap.size 3 i0 (.int .i64 0) 1 Tryz.underlying243 hi hz0 hz1 .i64 .i64 _ (n+1) rfl rfl (by omega) (by rw[hz2];omega) (by unfold maxLen;omega) (Nat.le_refl _) ?_;intro w1 hown hgrow)
 have hb1:Below w.heap.size w w1:=(Below.refl _ _).grown hgrow (Nat.le_refl _) (by intro k e;cases e)
 clear hgrow
 have HO:=Lib.hid hown
 clear hown
 go_loopw [1,7,8] (fun c v i wr=>∃(k:Nat) (ds:List Nat) (cc:Int),i=.int .i64 k∧c=.int .i64 cc∧FoldAt f n k ds cc∧wr.ownsRow w.heap.size 3 1 v ds.length (ds.map fun d:Nat=>Value.int .i64 (d:Int))∧Below w.heap.size w wr)
  (fun c _ i _=>(n-(intOf i).toNat)*1000000000+(intOf c).toNat)
 case atStart=>exact⟨0,[],0,rfl,rfl,⟨rfl,by simp,by simp[val,bM_],by omega,by omega,by omega⟩,HO.out,hb1⟩
 case round=>
  obtain⟨k,ds,cc,rfl,rfl,hf,hown,hb⟩:=hrel
  have f4:=hf.clo
  have f5:=hf.chi
  have f6:=hf.far
  have HF:=Lib.hid hf
  have hds:ds.length≤200000000:=by have:=hf.len;omega
  have HL:=Lib.hid hf.len
  have HOW:=Lib.hid hown
  have hko:k≤200000000:=by omega
  have l1:=HLO.out k
  have l2:=HHI.out k
  have hstep:=fun hgo=>hf.step HHI.out HZ.out HT.out (hgo:k<n∨cc≠0)
  have HS:=Lib.hid hstep
  clear hf hown hstep
  have hmax:0≤f k+cc∨k<n:=by
   by_cases hlt:k<n
   ·exact .inr hlt
   ·left
    have h7:0≤cc:=by
     rcases f6 with h8|h8
     ·exact HF.out.carry (by omega) h8 HT.out
     ·exact h8.2
    have h9:f k=0:=HZ.out k (by omega)
    omega
  have HMAX:=Lib.hid hmax
  clear hmax
  by_cases hgo:k<n∨cc≠0
  ·have HS2:=Lib.hid (HS.out hgo)
   clear HS
   by_cases hlt:k<n
   ·clear hgo
    rcases Int.lt_or_le (f k+cc) 0 with hs|hs
    ·go_wp2_with (first
      | ((with_reducible refine(HK.out k _ (by assumption) (by assumption)).mono ?_);rintro e w2 ⟨rfl,hst⟩)
      | (at_builtin;refine wpList_append_own _ rfl _ _ 243 rfl w.heap.size 3 i0 (.int .i64 0) 1 8 Tryz.underlying243 hi hz0 hz1 hz2 rfl (by decide) u7 _ _ rfl ((hst.owns HOW.out).alloc _) ⟨w2.heap.size,0,none⟩ 1 1 [.int .i64 (f k+cc+10000)] rfl rfl (cell_one_new _ _ _) (by simp[Value.oneCell']) (by unfold maxLen;omega) (by omega) (by have:=(hst.below 0).size;have:=hb.size;simp;omega) ?_;intro v' w3 hown' hgrow _))
     refine⟨⟨k+1,_,_,by go_num,rfl,HS2.out (f k+cc+10000) (-1) (by omega) (by omega) (by omega) (by omega),bV_ (by omega) hown',cU_ hb (hst.below _) hb.size HOW.out hgrow⟩,?_⟩
     simp only[intOf];omega
    ·rcases Int.lt_or_le (f k+cc) 10000 with hs2|hs2
     ·go_wp2_with (first
       | ((with_reducible refine(HK.out k _ (by assumption) (by assumption)).mono ?_);rintro e w2 ⟨rfl,hst⟩)
       | (at_builtin;refine wpList_append_own _ rfl _ _ 243 rfl w.heap.size 3 i0 (.int .i64 0) 1 8 Tryz.underlying243 hi hz0 hz1 hz2 rfl (by decide) u7 _ _ rfl ((hst.owns HOW.out).alloc _) ⟨w2.heap.size,0,none⟩ 1 1 [.int .i64 (f k+cc)] rfl rfl (cell_one_new _ _ _) (by simp[Value.oneCell']) (by unfold maxLen;omega) (by omega) (by have:=(hst.below 0).size;have:=hb.size;simp;omega) ?_;intro v' w3 hown' hgrow _))
      refine⟨⟨k+1,_,_,by go_num,rfl,HS2.out (f k+cc) (0) (by omega) (by omega) (by omega) (by omega),bV_ (by omega) hown',cU_ hb (hst.below _) hb.size HOW.out hgrow⟩,?_⟩
      simp only[intOf];omega
     ·go_wp2_with (first
       | ((with_reducible refine(HK.out k _ (by assumption) (by assumption)).mono ?_);rintro e w2 ⟨rfl,hst⟩)
       | (at_builtin;refine wpList_append_own _ rfl _ _ 243 rfl w.heap.size 3 i0 (.int .i64 0) 1 8 Tryz.underlying243 hi hz0 hz1 hz2 rfl (by decide) u7 _ _ rfl ((hst.owns HOW.out).alloc _) ⟨w2.heap.size,0,none⟩ 1 1 [.int .i64 ((f k+cc)%10000)] rfl rfl (cell_one_new _ _ _) (by simp[Value.oneCell']) (by unfold maxLen;omega) (by omega) (by have:=(hst.below 0).size;have:=hb.size;simp;omega) ?_;intro v' w3 hown' hgrow _))
      refine⟨⟨k+1,_,_,by go_num,rfl,HS2.out ((f k+cc)%10000) ((f k+cc)/10000) (by omega) (by omega) (by omega) (by omega),bV_ (by omega) hown',cU_ hb (hst.below _) hb.size HOW.out hgrow⟩,?_⟩
      simp only[intOf];omega
   ·have hc0:(cc != 0)=true:=by rw[bne_iff_ne];omega
    have hs:0≤f k+cc:=by rcases HMAX.out with h|h <;> omega
    have hfz:f k=0:=HZ.out k (by omega)
    have hcp:0<cc:=by omega
    have HFZ:=Lib.hid hfz
    clear hgo hfz
    rcases Int.lt_or_le (f k+cc) 10000 with hs2|hs2
    ·go_wp2_with (first
      | ((with_reducible refine(HK.out k _ (by assumption) (by assumption)).mono ?_);rintro e w2 ⟨rfl,hst⟩)
      | (at_builtin;refine wpList_append_own _ rfl _ _ 243 rfl w.heap.size 3 i0 (.int .i64 0) 1 8 Tryz.underlying243 hi hz0 hz1 hz2 rfl (by decide) u7 _ _ rfl ((hst.owns HOW.out).alloc _) ⟨w2.heap.size,0,none⟩ 1 1 [.int .i64 (f k+cc)] rfl rfl (cell_one_new _ _ _) (by simp[Value.oneCell']) (by unfold maxLen;omega) (by omega) (by have:=(hst.below 0).size;have:=hb.size;simp;omega) ?_;intro v' w3 hown' hgrow _))
     refine⟨⟨k+1,_,_,by go_num,rfl,HS2.out (f k+cc) (0) (by omega) (by omega) (by omega) (by omega),bV_ (by omega) hown',cU_ hb (hst.below _) hb.size HOW.out hgrow⟩,?_⟩
     have:=HFZ.out;simp only[intOf];omega
    ·go_wp2_with (first
      | ((with_reducible refine(HK.out k _ (by assumption) (by assumption)).mono ?_);rintro e w2 ⟨rfl,hst⟩)
      | (at_builtin;refine wpList_append_own _ rfl _ _ 243 rfl w.heap.size 3 i0 (.int .i64 0) 1 8 Tryz.underlying243 hi hz0 hz1 hz2 rfl (by decide) u7 _ _ rfl ((hst.owns HOW.out).alloc _) ⟨w2.heap.size,0,none⟩ 1 1 [.int .i64 ((f k+cc)%10000)] rfl rfl (cell_one_new _ _ _) (by simp[Value.oneCell']) (by unfold maxLen;omega) (by omega) (by have:=(hst.below 0).size;have:=hb.size;simp;omega) ?_;intro v' w3 hown' hgrow _))
     refine⟨⟨k+1,_,_,by go_num,rfl,HS2.out ((f k+cc)%10000) ((f k+cc)/10000) (by omega) (by omega) (by omega) (by omega),bV_ (by omega) hown',cU_ hb (hst.below _) hb.size HOW.out hgrow⟩,?_⟩
     have:=HFZ.out;simp only[intOf];omega
  ·have hlt:n≤k:=by omega
   have hc0:cc=0:=by omega
   subst hc0
   have hd:((0:Int) != 0)=false:=rfl
   go_wp2
   go_ret
   exact⟨⟨_,ds,k,rfl,Sl.of_owns HOW.out,HF.out,hlt⟩,hb⟩
theorem mE_ {f:Nat→Int} {n k:Nat} {ds:List Nat} (h:FoldAt f n k ds 0) (hk:n≤k) (hz:∀i,n≤i→f i=0) (T:Nat) (hT:bM_ f n=T):trim ds=dig 10000 T:=by
 have h1:∀j,bM_ f (n+j)=bM_ f n:=by
  intro j
  induction j with
  | zero=>rfl
  | succ j ih=>rw[Nat.add_succ,bM_,ih,hz (n+j) (by omega)];omega
 have h2:=h.eq
 obtain⟨j,rfl⟩:∃j,k=n+j:=⟨k-n,by omega⟩
 rw[h1,hT] at h2
 rw[eF_ (by omega) ds h.dlt]
 congr 1
 omega
end Go.Proofs.YtdkaohphbgdkpaaGreatDoor
namespace Go.Proofs.YtdkaohphbgdkpaaGreatDoor
open Go.RowKit Go.Shelf
attribute [local go_sem] Oper.semAt_some
structure ArAt (B:Nat) (vs:List Value) (W:World):Prop where
 row:∀(i:Nat) (v:Value),vs[i]?=some v→W.cell? ⟨B,i,none⟩=some v
 fz:∀o,o<vs.length→W.frozen? ⟨B,o,none⟩=false
 sz:B<W.heap.size
theorem ArAt.below {B:Nat} {vs:List Value} {W W':World} (h:ArAt B vs W) (hb:Below W.heap.size W W'):ArAt B vs W':=by
 obtain⟨c,f⟩:=mM_ hb
 exact⟨fun i v hv=>(c _ _ h.sz).trans (h.row i v hv),fun o ho=>(f _ _ h.sz).trans (h.fz o ho),Nat.lt_of_lt_of_le h.sz hb.size⟩
theorem ArAt.start (W:World) (vs:Array Value) (t:TypeId):ArAt W.heap.size vs.toList (W.alloc (.cells vs t)):=by
 refine⟨fun i v hv=>?_,fun o ho=>?_,by simp⟩
 ·have hi:i<vs.size:=by
   rcases Nat.lt_or_ge i vs.size with h|h
   ·exact h
   ·rw[List.getElem?_eq_none (by simpa using h)] at hv;cases hv
  rw[List.getElem?_eq_getElem (by simpa using hi)] at hv
  cases hv
  unfold World.cell?
  rw[show(W.alloc (.cells vs t)).heap[W.heap.size]?=some (.cells vs t) by show(W.heap.push _)[W.heap.size]?=_;simp]
  simp[hi]
 ·unfold World.frozen?
  rw[show(W.alloc (.cells vs t)).heap[W.heap.size]?=some (.cells vs t) by show(W.heap.push _)[W.heap.size]?=_;simp]
  simp
theorem ArAt.set {B:Nat} {vs:List Value} {W:World} (h:ArAt B vs W) {i:Nat} {u:Value} (hi:vs[i]?=some u) (v:Value):ArAt B (vs.set i v) (W.setCell ⟨B,i,none⟩ v):=by
 have hl:i<vs.length:=by
  rcases Nat.lt_or_ge i vs.length with h|h
  ·exact h
  ·rw[List.getElem?_eq_none h] at hi;cases hi
 refine⟨fun j x hx=>?_,fun o ho=>?_,by simpa using h.sz⟩
 ·by_cases hj:i=j
  ·subst hj
   rw[List.getElem?_set_self hl] at hx
   cases hx
   exact World.cell?_setCell_same _ _ _ (h.row i u hi)
  ·rw[List.getElem?_set_ne hj] at hx
   exact(World.cell?_setCell_other _ _ _ _ (fun e=>hj (by have:=congrArg Addr.off e;simpa using this))).trans (h.row j x hx)
 ·have:=h.fz o (by simpa using ho)
  simpa[go_sem] using this
theorem ArAt.other {B:Nat} {vs:List Value} {W:World} (h:ArAt B vs W) {B':Nat} (hB:B'≠B) (i:Nat) (v:Value):ArAt B vs (W.setCell ⟨B',i,none⟩ v):=by
 refine⟨fun j x hx=>(World.cell?_setCell_other _ _ _ _ (fun e=>hB (by have:=congrArg Addr.block e;simpa using this))).trans (h.row j x hx),fun o ho=>?_,by simpa using h.sz⟩
 have:=h.fz o ho
 simpa[go_sem] using this
theorem ArAt.drew {B:Nat} {vs:List Value} {W:World} (h:ArAt B vs W):ArAt B vs W.drew:=⟨h.row,h.fz,h.sz⟩
theorem ArAt.mk' (W:World) (l:List Value) (t:TypeId):ArAt W.heap.size l (W.alloc (.cells l.toArray t)):=ArAt.start W l.toArray t
structure AzAt (L:List (Nat×List Value)) (w W:World):Prop where
 bw:Below w.heap.size w W
 row:∀x∈L,ArAt x.1 x.2 W
theorem AzAt.start (w:World):AzAt [] w w:=⟨Below.refl _ _,fun _ h=>by cases h⟩
theorem AzAt.below {L:List (Nat×List Value)} {w W W':World} (h:AzAt L w W) (hb:Below W.heap.size W W'):AzAt L w W':=⟨h.bw.trans (hb.mono h.bw.size),fun x hx=>(h.row x hx).below hb⟩
theorem AzAt.al {L:List (Nat×List Value)} {w W:World} (h:AzAt L w W) (o:Obj):AzAt L w (W.alloc o):=h.below ((Below.refl _ _).alloc (Nat.le_refl _) _)
theorem AzAt.drew {L:List (Nat×List Value)} {w W:World} (h:AzAt L w W):AzAt L w W.drew:=⟨h.bw.drew,fun x hx=>(h.row x hx).drew⟩
theorem AzAt.push {L:List (Nat×List Value)} {w W:World} (h:AzAt L w W) (l:List Value) (t:TypeId):AzAt ((W.heap.size,l)::L) w (W.alloc (.cells l.toArray t)):=by
 refine⟨(h.al _).bw,fun x hx=>?_⟩
 rcases List.mem_cons.1 hx with rfl|hx
 ·exact ArAt.mk' W l t
 ·exact(h.al _).row x hx
theorem AzAt.sub {L L':List (Nat×List Value)} {w W:World} (h:AzAt L w W) (hs:∀x∈L',x∈L):AzAt L' w W:=⟨h.bw,fun x hx=>h.row x (hs x hx)⟩
theorem AzAt.set {L:List (Nat×List Value)} {w W:World} {B i:Nat} {l:List Value} {u:Value} (h:AzAt ((B,l)::L) w W) (hB:w.heap.size≤B) (hd:∀x∈L,B≠x.1) (hi:l[i]?=some u) (v:Value):AzAt ((B,l.set i v)::L) w (W.setCell ⟨B,i,none⟩ v):=by
 refine⟨h.bw.setCell hB _,fun x hx=>?_⟩
 rcases List.mem_cons.1 hx with rfl|hx
 ·exact(h.row (B,l) (by simp)).set hi v
 ·exact(h.row x (by simp[hx])).other (hd x hx) i v
theorem AzAt.at {L:List (Nat×List Value)} {w W:World} (h:AzAt L w W) {B:Nat} {l:List Value} (hm:(B,l)∈L):ArAt B l W:=h.row (B,l) hm
structure WkAt (n N:Nat) (b:Bool) (w W:World):Prop where
 bw:Below n w W
 c:W.cell? ⟨N,0,none⟩=some (.bool b)
 f:W.frozen? ⟨N,0,none⟩=false
 le:n≤N
 sz:N<W.heap.size
theorem WkAt.below {n N:Nat} {b:Bool} {w W W':World} (h:WkAt n N b w W) (hb:Below W.heap.size W W'):WkAt n N b w W':=by
 have hs:=h.sz
 have hl:=h.le
 obtain⟨c,f⟩:=mM_ hb
 exact⟨h.bw.trans (hb.mono (by omega)),(c _ _ hs).trans h.c,(f _ _ hs).trans h.f,hl,Nat.lt_of_lt_of_le hs hb.size⟩
theorem WkAt.alloc {n N:Nat} {b:Bool} {w W:World} (h:WkAt n N b w W) (o:Obj):WkAt n N b w (W.alloc o):=h.below ((Below.refl _ _).alloc (Nat.le_refl _) _)
theorem WkAt.set {n N:Nat} {b:Bool} {w W:World} (h:WkAt n N b w W) (b':Bool):WkAt n N b' w (W.setCell ⟨N,0,none⟩ (.bool b')):=by
 refine⟨h.bw.setCell h.le _,World.cell?_setCell_same _ _ _ h.c,?_,h.le,by simpa using h.sz⟩
 have:=h.f
 simpa[go_sem] using this
theorem WkAt.start {n:Nat} {w W:World} (h:Below n w W) (hn:n≤W.heap.size) (b:Bool):WkAt n W.heap.size b w (W.alloc (.cells #[.bool b] 201)):=by
 refine⟨h.alloc hn _,?_,?_,hn,by simp⟩ <;> simp[go_sem]
structure WkTo (n N:Nat) (b:Bool) (w W W':World):Prop where
 wk:WkAt n N b w W'
 ag:cE_ (N+1) W.heap.size W W'
 size:W.heap.size≤W'.heap.size
theorem WkTo.keep {n N R:Nat} {b:Bool} {w W W':World} (h:WkTo n N b w W W') (h1:N<R) (h2:R<W.heap.size):(∀o,W'.cell? ⟨R,o,none⟩=W.cell? ⟨R,o,none⟩)∧(∀o,W'.frozen? ⟨R,o,none⟩=W.frozen? ⟨R,o,none⟩):=by
 have:=h.ag R (by omega) h2
 exact⟨fun o=>World.cell?_of_block (w:=W) this,fun o=>World.frozen?_of_block (w:=W) this⟩
theorem WkTo.refl {n N:Nat} {b:Bool} {w W:World} (h:WkAt n N b w W):WkTo n N b w W W:=⟨h,cE_.refl _ _ _,Nat.le_refl _⟩
theorem WkTo.below {n N:Nat} {b:Bool} {w W W':World} (h:WkAt n N b w W) (hb:Below W.heap.size W W'):WkTo n N b w W W':=⟨h.below hb,cE_.of_below hb (Nat.le_refl _),hb.size⟩
theorem do_any (K:Nat) {n N:Nat} {b:Bool} {w W:World} (x y s:ByteArray) (k:Int) (h:WkAt n N b w W)
  (hent:∀(args:Array Value) (w:World),(callFunc K args).run Tryz.prog w=.ok (.enter K args) w)
  (hK:b=false→Calls Tryz.prog K #[.string x,.string y] W fun e W'=>e=.returned (.tuple #[.string s,.int .i64 k])∧Below W.heap.size W W') :
  Calls Tryz.prog 190 #[.pointer (some ⟨N,0,none⟩),.func (.func K) #[] #[],.string x,.string y] W fun e W'=>e=.returned (.string (if b=true then ⟨#[]⟩ else s))∧WkTo n N (b||(k != 0)) w W W':=by
 have c0:=h.c
 have f0:=h.f
 have HH:=Lib.hid h
 clear h
 cases b with
 | true=>
  clear hK
  go_enter Tryz.func190,Tryz.ntmps190
  go_wp2
  go_ret
  exact⟨rfl,by simpa using WkTo.refl HH.out⟩
 | false=>
  have HK:=Lib.hid (hK rfl)
  clear hK
  go_enter Tryz.func190,Tryz.ntmps190
  go_wp2_with ((with_reducible refine HK.out.mono ?_);rintro e w1 ⟨rfl,hb1⟩;have h1:=HH.out.below hb1;have c1:=h1.c;have f1:=h1.f;have H1:=Lib.hid h1;clear h1)
  go_ret
  exact⟨rfl,H1.out.set _,(cE_.of_below hb1 (Nat.le_refl _)).setCell (.inl (by simp)) _,by simpa using hb1.size⟩
end Go.Proofs.YtdkaohphbgdkpaaGreatDoor
