/- - -/
import Derived.StillTail
import Derived.BigQuiet
import Derived.Lib.QuietBelow
import Derived.Test.YtdkaohphbgdkpaaGreatDoorZNum
set_option maxHeartbeats 40000000
set_option maxRecDepth 1000000
namespace Go.Proofs.YtdkaohphbgdkpaaGreatDoor
open Go.RowKit Go.Shelf Go.Sort
section
variable (ops:Array Oper)
def aD_ (i:Nat):Option Tmp:=(ops[i]?).bind (·.dst)
def aA_ (val:Nat→Value) (S:List Nat) (a:Act):Act:=S.foldr (fun i a=>a.put (aD_ ops i) (val i)) a
def pL_ (val:Nat→Value) (S:List Nat) (t:Tmp):Option Value:=(S.find? fun i=>aD_ ops i==some t).map val
theorem aY_ (val:Nat→Value) (S:List Nat) (a:Act):(aA_ ops val S a).defers=a.defers:=by
 induction S with
 | nil=>rfl
 | cons i S ih=>
  show((aA_ ops val S a).put _ _).defers=_
  rw[←ih]
  cases aD_ ops i <;> rfl
theorem bE_ (val:Nat→Value) (S:List Nat) (a:Act):(aA_ ops val S a).tmps.size=a.tmps.size:=by
 induction S with
 | nil=>rfl
 | cons i S ih=>
  show((aA_ ops val S a).put _ _).tmps.size=_
  rw[←ih]
  cases aD_ ops i <;> simp[Act.put]
theorem aO_ (val:Nat→Value) (S:List Nat) (a:Act) (t:Tmp):(aA_ ops val S a).tmps[t]?=if t<a.tmps.size then ((pL_ ops val S t).or a.tmps[t]?) else none:=by
 induction S with
 | nil=>
  show a.tmps[t]?=_
  by_cases h:t<a.tmps.size
  ·rw[if_pos h];rfl
  ·rw[if_neg h];exact Array.getElem?_eq_none (Nat.le_of_not_lt h)
 | cons i S ih=>
  show((aA_ ops val S a).put (aD_ ops i) (val i)).tmps[t]?=_
  unfold pL_
  rw[List.find?_cons]
  cases hd:aD_ ops i with
  | none=>
   rw[show((none:Option Tmp)==some t)=false from rfl]
   exact ih
  | some d=>
   show((aA_ ops val S a).tmps.setIfInBounds d (val i))[t]?=_
   rw[Array.getElem?_setIfInBounds,bE_]
   by_cases h:d=t
   ·subst h
    rw[if_pos rfl,show(some d==some d)=true by simp]
    rfl
   ·rw[if_neg h,show(some d==some t)=false by simpa using h]
    exact ih
theorem pU_ {a b:Act} (hd:a.defers=b.defers) (ht:∀t:Nat,a.tmps[t]?=b.tmps[t]?):a=b:=by
 obtain⟨t1,d1⟩:=a
 obtain⟨t2,d2⟩:=b
 obtain rfl:d1=d2:=hd
 obtain rfl:t1=t2:=Array.ext_getElem? ht
 rfl
def jV_ (N:Nat):Bool:=(List.range N).all fun i=>(aD_ ops i).isSome&&(List.range N).all fun j=>i==j||aD_ ops i != aD_ ops j
def lookB (n N:Nat):Bool:=(List.range N).all fun i=>(List.range N).all fun j=>match ops[i]?,aD_ ops j with
 | some o,some d=>!(o.looksAt ops).contains d||(decide (j<i)&&decide (j<n)&&Region.waitsFor .any ops i j)
 | _,_=>false
def aBB (N:Nat):Bool:=(List.range N).all fun i=>match ops[i]? with
 | some o=>o.after.all fun e=>!Region.binds .any e||decide (e.on<i)
 | none=>false
def uF_ (N sz:Nat):Bool:=(List.range N).all fun i=>match aD_ ops i with
 | some d=>decide (d<sz)
 | none=>false
def qtB (n N sz:Nat):Bool:=
 Region.noSelect ops&&decide (n≤N)&&decide (N<ops.size)&&jV_ ops N&&lookB ops n N&&aBB ops N&&uF_ ops N sz&&Region.sinkB .any ops N&&Region.chainB .any ops N&&Region.seqB .any ops (ops.size-N) N (Array.replicate N true++Array.replicate (ops.size-N) false)
variable {ops}
theorem cT_ {N:Nat} (h:jV_ ops N=true) {i j:Nat} (hi:i<N) (hj:j<N) {t:Tmp} (h1:aD_ ops i=some t) (h2:aD_ ops j=some t):i=j:=by
 have:=List.all_eq_true.1 h i (List.mem_range.2 hi)
 simp only[Bool.and_eq_true] at this
 have:=List.all_eq_true.1 this.2 j (List.mem_range.2 hj)
 simpa[h1,h2] using this
theorem jL_ {N:Nat} (h:jV_ ops N=true) {i:Nat} (hi:i<N):∃t,aD_ ops i=some t:=by
 have:=List.all_eq_true.1 h i (List.mem_range.2 hi)
 simp only[Bool.and_eq_true] at this
 exact Option.isSome_iff_exists.1 this.1
theorem bH_ {N:Nat} (h:jV_ ops N=true) {val:Nat→Value} {S:List Nat} (hS:∀i∈S,i<N) {j:Nat} (hj:j∈S) {t:Tmp} (ht:aD_ ops j=some t):pL_ ops val S t=some (val j):=by
 unfold pL_
 cases hf:S.find? (fun i=>aD_ ops i==some t) with
 | none=>
  have:=List.find?_eq_none.1 hf j hj
  simp[ht] at this
 | some i=>
  have h1:=List.find?_some hf
  have h2:=List.mem_of_find?_eq_some hf
  simp only[beq_iff_eq] at h1
  rw[cT_ h (hS i h2) (hS j hj) h1 ht]
  rfl
theorem aU_ {val:Nat→Value} {S:List Nat} {t:Tmp} (h:∀i∈S,aD_ ops i≠some t):pL_ ops val S t=none:=by
 unfold pL_
 rw[List.find?_eq_none.2 (fun i hi=>by simpa using h i hi)]
 rfl
theorem dS_ {o:Oper} (hs:∀cs b,o.op≠.select cs b) {a b:Act} (h:∀t∈o.looksAt ops,a.tmps[t]?=b.tmps[t]?) :
  execOp a.eval o=execOp b.eval o∧Region.wanted o (yielded ops a.tmps)=Region.wanted o (yielded ops b.tmps):=by
 refine⟨execOp_congr o hs fun x hx=>?_,?_⟩
 ·cases x with
  | tmp t=>
   have:=h t (List.mem_append_left _ (List.mem_filterMap.2 ⟨.tmp t,by simpa using hx,rfl⟩))
   show a.tmps.getD t undef=b.tmps.getD t undef
   rw[Array.getD_eq_getD_getElem?,Array.getD_eq_getD_getElem?,this]
  | _=>rfl
 ·unfold Region.wanted
  cases hg:o.guard with
  | none=>rfl
  | some gw=>
   obtain⟨g,want⟩:=gw
   have hy:yielded ops a.tmps g=yielded ops b.tmps g:=by
    unfold yielded
    cases ht:(ops[g]?).bind (·.dst) with
    | none=>rfl
    | some t=>
     have:=h t (by simp[Oper.looksAt,hg,ht])
     simp only[Option.bind_some,this]
   simp only[hy]
theorem uX_ (val:Nat→Value) (k:Nat) (a:Act):aA_ ops val (List.range (k+1)).reverse a=(aA_ ops val (List.range k).reverse a).put (aD_ ops k) (val k):=by
 rw[List.range_succ,List.reverse_append]
 rfl
variable {P:Program} {C:World→Prop}
theorem lX_ {A:Act} {d:Tmp} : ∀(l:List Oper) (a:Act),(∀o∈l,o.dst≠some d)→wpQuiet P ops C (fun a'=>a'=A) l a→A.tmps[d]?=a.tmps[d]?
 | [],a,_,h=>by
  obtain rfl:a=A:=h
  rfl
 | o::l,a,hd,h=>by
  have key:∀v,(a.put o.dst v).tmps[d]?=a.tmps[d]?:=fun v=>by
   cases ho:o.dst with
   | none=>rfl
   | some e=>
    have:e≠d:=fun x=>hd o List.mem_cons_self (by rw[ho,x])
    simp[Act.put,Array.getElem?_setIfInBounds_ne this]
  have hd':∀o∈l,o.dst≠some d:=fun o ho=>hd o (List.mem_cons_of_mem _ ho)
  unfold wpQuiet at h
  split at h
  ·obtain⟨v,_,h2⟩:=h
   rw[lX_ l _ hd' h2,key]
  ·rw[lX_ l _ hd' h,key]
def bC_ (ops:Array Oper) (A:Act) (i:Nat):Value:=(A.tmps[(aD_ ops i).getD 0]?).getD undef
theorem fZ_ {n N:Nat} {a A:Act} (hd:jV_ ops N=true) (hz:uF_ ops N a.tmps.size=true) (hnN:n≤N):∀(l:List Oper) (k:Nat),(∀j,j<l.length→l[j]?=ops[k+j]?)→k+l.length=n→
  wpQuiet P ops C (fun a'=>a'=A) l (aA_ ops (bC_ ops A) (List.range k).reverse a)→
  (∀i,k≤i→i<n→∃o,ops[i]?=some o∧YieldsIn P ops C o (bC_ ops A i) (aA_ ops (bC_ ops A) (List.range i).reverse a))∧A=aA_ ops (bC_ ops A) (List.range n).reverse a
 | [],k,_,hk,h=>by
  obtain rfl:k=n:=by simpa using hk
  exact⟨fun i h1 h2=>by omega,Eq.symm h⟩
 | o::l,k,hl,hk,h=>by
  simp only[List.length_cons] at hk
  have h0:ops[k]?=some o:=by simpa using (hl 0 (by simp)).symm
  have hst:qOp P ops C k (wpQuiet P ops C (fun a'=>a'=A) l) (aA_ ops (bC_ ops A) (List.range k).reverse a):=by unfold qOp;simp only[h0];exact h
  obtain⟨v,hy,hK⟩:=yieldsIn_of_qOp h0 hst
  obtain⟨d,hdk⟩:=jL_ hd (i:=k) (by omega)
  have hod:o.dst=some d:=by unfold aD_ at hdk;rw[h0] at hdk;exact hdk
  have hlt:d<a.tmps.size:=by
   have:=List.all_eq_true.1 hz k (List.mem_range.2 (by omega))
   simpa[hdk] using this
  have hne:∀o'∈l,o'.dst≠some d:=fun o' ho' hx=>by
   obtain⟨j,hj,rfl⟩:=List.mem_iff_getElem.1 ho'
   have h1:=hl (j+1) (by simp;omega)
   rw[List.getElem?_cons_succ,List.getElem?_eq_getElem hj] at h1
   have h2:aD_ ops (k+(j+1))=some d:=by unfold aD_;rw[←h1];exact hx
   have:=cT_ hd (by omega) (by omega) hdk h2
   omega
  have hv:bC_ ops A k=v:=by
   unfold bC_
   rw[hdk]
   show(A.tmps[d]?).getD undef=v
   rw[lX_ l _ hne hK,hod]
   show(((aA_ ops (bC_ ops A) (List.range k).reverse a).tmps.setIfInBounds d v)[d]?).getD undef=v
   rw[Array.getElem?_setIfInBounds,if_pos rfl,bE_,if_pos hlt]
   rfl
  rw[←hv] at hy hK
  have e:=uX_ (ops:=ops) (bC_ ops A) k a
  rw[hdk,←hod] at e
  rw[←e] at hK
  obtain⟨h1,h2⟩:=fZ_ hd hz hnN l (k+1) (fun j hj=>by have:=hl (j+1) (by simp;omega);simpa[Nat.add_assoc,Nat.add_comm 1 j] using this) (by omega) hK
  refine⟨fun i hi1 hi2=>?_,h2⟩
  by_cases hik:i=k
  ·subst hik
   exact⟨o,h0,hy⟩
  ·exact h1 i (by omega) hi2
end
section
variable {P:Program} {ops:Array Oper} {Q:Exit→Act→World→Prop} {w:World} {a A:Act} {n:Nat} {objs:List (List Value×TypeId×(Nat→Value))}
def vfOf (objs:List (List Value×TypeId×(Nat→Value))) (k B:Nat):Value:=match objs[k]? with
 | some x=>x.2.2 B
 | none=>undef
def vgOf (ops:Array Oper) (A:Act) (n:Nat) (objs:List (List Value×TypeId×(Nat→Value))) (g:Nat→Nat) (i:Nat):Value:=if i<n then bC_ ops A i else vfOf objs (i-n) (g i)
theorem eY_ {N:Nat} (he:aBB ops N=true) {listed:Array Bool} (hN:N≤ops.size) (hsz:listed.size=ops.size) (h:∃i,i<N∧listed.getD i false=false):Region.ready .any ops listed≠[]:=by
 obtain⟨i,hi⟩:=h
 induction i using Nat.strongRecOn with
 | _ i ih=>
  by_cases hx:∃j,j<i∧j<N∧listed.getD j false=false
  ·obtain⟨j,h1,h2⟩:=hx
   exact ih j h1 h2
  ·intro h0
   have hio:i<ops.size:=by omega
   have:i∈Region.ready .any ops listed:=mem_ready.2 ⟨getD_in (by omega) hi.2,ops[i],Array.getElem?_eq_getElem hio,fun e hee hb=>by
    have h1:=List.all_eq_true.1 he i (List.mem_range.2 hi.1)
    rw[Array.getElem?_eq_getElem hio] at h1
    have h2:=Array.all_eq_true_iff_forall_mem.1 h1 e hee
    have h3:e.on<i:=by simpa[hb] using h2
    cases hl:listed.getD e.on false with
    | true=>rfl
    | false=>exact absurd ⟨e.on,h3,by omega,hl⟩ hx⟩
   rw[h0] at this
   cases this
theorem fN_:∀(l:List Bool) (i:Nat),l[i]?=some false→(l.set i true).count false+1=l.count false
 | [],i,h=>by simp at h
 | b::l,0,h=>by
  simp at h
  subst h
  simp
 | b::l,i+1,h=>by
  have:=fN_ l i (by simpa using h)
  simp only[List.set_cons_succ,List.count_cons]
  omega
theorem bU_ {listed:Array Bool} {i:Nat} (h:listed.getD i true=false):listed.toList[i]?=some false:=by
 unfold Array.getD at h
 split at h
 ·rename_i hi
  rw[Array.getElem?_toList,Array.getElem?_eq_getElem hi]
  simp at h
  rw[h]
 ·cases h
theorem yK_ (hB:qtB ops n (n+objs.length) a.tmps.size=true)
  (hal:∀k x,objs[k]?=some x→∃o,ops[n+k]?=some o∧Region.wanted o (yielded ops A.tmps)=true∧∀(W:World),(execOp A.eval o).run P W=.ok (.value (x.2.2 W.heap.size)) (W.alloc (.cells x.1.toArray x.2.1)))
  (hq:∀U,Below w.heap.size w U→∀i,i<n→∃o,ops[i]?=some o∧YieldsIn P ops (fun W=>∃p:Regrown,W=grow (redrawn U p.d) p.os) o (bC_ ops A i) (aA_ ops (bC_ ops A) (List.range i).reverse a))
  (hA:A=aA_ ops (bC_ ops A) (List.range n).reverse a)
  (ht:∀(g:Nat→Nat) (W:World),Below w.heap.size w W→(∀k x,objs[k]?=some x→w.heap.size≤g (n+k)∧ArAt (g (n+k)) x.1 W)→(∀i j,i<objs.length→j<objs.length→g (n+i)=g (n+j)→i=j)→
   wpList P ops Q (ops.toList.drop (n+objs.length)) (aA_ ops (vgOf ops A n objs g) ((List.range objs.length).map (n + ·)) A) W) :
  ∀(F:Nat) (S:List Nat) (g:Nat→Nat) (listed:Array Bool) (W:World),listed.toList.count false=F→(∀i,i∈S↔(i<n+objs.length∧listed.getD i false=true))→HeadInv .any ops (n+objs.length) listed→Below w.heap.size w W→
   (∀k x,objs[k]?=some x→n+k∈S→w.heap.size≤g (n+k)∧ArAt (g (n+k)) x.1 W)→(∀i j,n+i∈S→n+j∈S→g (n+i)=g (n+j)→i=j)→
   wpAny P .any ops Q F listed (aA_ ops (vgOf ops A n objs g) S a) W:=by
 simp only[qtB,Bool.and_eq_true,decide_eq_true_eq] at hB
 obtain⟨⟨⟨⟨⟨⟨⟨⟨⟨hsel,hnN⟩,hNs⟩,hd⟩,hlk⟩,hed⟩,hz⟩,hsk⟩,hch⟩,hsq⟩:=hB
 generalize hN:n+objs.length=N at *
 intro F
 induction F with
 | zero=>
  intro S g listed W hc hS inv hb _ _
  have h1:=inv.tail N (Nat.le_refl _) hNs
  have:=List.count_pos_iff.2 (List.mem_of_getElem? (bU_ h1))
  omega
 | succ F ih=>
  intro S g listed W hc hS inv hb hG hinj
  have hSN:∀i∈S,i<N:=fun i hi=>((hS i).1 hi).1
  by_cases hall:∀i,i<N→listed.getD i false=true
  ·have hlisted:listed=Array.replicate N true++Array.replicate (ops.size-N) false:=by
    apply Array.ext_getElem?
    intro i
    rw[Array.getElem?_append,Array.size_replicate]
    split
    ·rename_i h
     have h1:=hall i h
     have h2:i<listed.size:=by rw[inv.size];omega
     rw[Array.getElem?_replicate,if_pos h,Array.getElem?_eq_getElem h2]
     simp[Array.getD,h2] at h1
     rw[h1]
    ·rename_i h
     rw[Array.getElem?_replicate]
     by_cases h3:i<ops.size
     ·rw[if_pos (by omega)]
      have h1:=inv.tail i (by omega) h3
      have h2:i<listed.size:=by rw[inv.size];omega
      rw[Array.getElem?_eq_getElem h2]
      simp[Array.getD,h2] at h1
      rw[h1]
     ·rw[if_neg (by omega),Array.getElem?_eq_none (by rw[inv.size];omega)]
   have hF:F+1=(ops.toList.drop N).length:=by
    rw[←hc,hlisted]
    simp[List.count_replicate]
   rw[hF]
   have e:aA_ ops (vgOf ops A n objs g) S a=aA_ ops (vgOf ops A n objs g) ((List.range objs.length).map (n + ·)) A:=by
    refine pU_ (by rw[aY_,aY_,hA,aY_]) fun t=>?_
    rw[aO_,aO_]
    have hsz:A.tmps.size=a.tmps.size:=by rw[hA,bE_]
    have hAt:A.tmps[t]?=_:=(congrArg (fun x:Act=>x.tmps[t]?) hA).trans (aO_ _ _ _ _ _)
    rw[hsz]
    split
    ·rename_i htl
     rw[if_pos htl] at hAt
     rw[hAt]
     have hM:∀i∈(List.range objs.length).map (n + ·),i<N:=fun i hi=>by
      obtain⟨k,hk,rfl⟩:=List.mem_map.1 hi
      have:=List.mem_range.1 hk
      omega
     by_cases hx:∃j,j<N∧aD_ ops j=some t
     ·obtain⟨j,hj,hjt⟩:=hx
      rw[bH_ hd hSN ((hS j).2 ⟨hj,hall j hj⟩) hjt]
      by_cases hjn:j<n
      ·rw[aU_ (S:=(List.range objs.length).map (n + ·)) (fun i hi hit=>by
        have:=cT_ hd hj (hM i hi) hjt hit
        obtain⟨k,hk,rfl⟩:=List.mem_map.1 hi
        omega),bH_ (S:=(List.range n).reverse) hd (fun i hi=>by have:=List.mem_range.1 (List.mem_reverse.1 hi);omega) (List.mem_reverse.2 (List.mem_range.2 hjn)) hjt]
       unfold vgOf
       rw[if_pos hjn]
       rfl
      ·rw[bH_ (S:=(List.range objs.length).map (n + ·)) hd hM (j:=j) (List.mem_map.2 ⟨j-n,List.mem_range.2 (by omega),by omega⟩) hjt]
       rfl
     ·have hn':∀(S':List Nat),(∀i∈S',i<N)→∀val,pL_ ops val S' t=none:=fun S' h val=>aU_ fun i hi hit=>hx ⟨i,h i hi,hit⟩
      rw[hn' S hSN,hn' _ hM,hn' (List.range n).reverse (fun i hi=>by have:=List.mem_range.1 (List.mem_reverse.1 hi);omega)]
      rfl
    ·rfl
   rw[e]
   have hsq':Region.seqB .any ops (ops.toList.drop N).length N listed=true:=by rw[hlisted];simpa using hsq
   exact wpAny_of_seq (md:=.any) (ops.toList.drop N) N listed _ W (fun j=>by simp[List.getElem?_drop]) hsq' (ht g W hb (fun k x hk=>hG k x hk ((hS _).2 ⟨by have:=(List.getElem?_eq_some_iff.1 hk).1;omega,hall _ (by have:=(List.getElem?_eq_some_iff.1 hk).1;omega)⟩)) (fun i j hi hj h=>hinj i j ((hS _).2 ⟨by omega,hall _ (by omega)⟩) ((hS _).2 ⟨by omega,hall _ (by omega)⟩) h))
  ·obtain⟨i0,hi0⟩:∃i,i<N∧listed.getD i false=false:=by
    refine Classical.byContradiction fun hx=>hall fun i hi=>?_
    cases hl:listed.getD i false with
    | true=>rfl
    | false=>exact absurd ⟨i,hi,hl⟩ hx
   refine⟨fun h0=>absurd h0 (eY_ hed (Nat.le_of_lt hNs) inv.size ⟨i0,hi0⟩),fun i hi=>?_⟩
   have hiN:i<N:=by
    rcases Nat.lt_or_ge i N with h|h
    ·exact h
    ·exact absurd hi (tail_waits hsk hch hNs inv _ i0 rfl hi0.1 (getD_in (by rw[inv.size];omega) hi0.2) i h)
   obtain⟨hun,oi,hoi,hdone⟩:=mem_ready.1 hi
   have hisz:i<listed.size:=by rw[inv.size];omega
   have hiS:i ∉ S:=fun h=>by
    have:=((hS i).1 h).2
    rw[getD_both hun] at this
    cases this
   have hS':∀j,j∈i::S↔(j<N∧(listed.setIfInBounds i true).getD j false=true):=fun j=>by
    rw[List.mem_cons,hS j]
    by_cases hij:i=j
    ·subst hij
     simp[hiN,Array.getD,hisz]
    ·rw[getD_set_ne false hij]
     exact⟨fun h=>h.resolve_left (Ne.symm hij),.inr⟩
   have hc':(listed.setIfInBounds i true).toList.count false=F:=by
    have:=fN_ _ _ (bU_ hun)
    rw[Array.toList_setIfInBounds]
    omega
   have hdi:aD_ ops i=oi.dst:=by unfold aD_;rw[hoi];rfl
   by_cases hin:i<n
   ·obtain⟨o,ho,hy⟩:=hq W hb i hin
    obtain rfl:oi=o:=Option.some.inj (hoi.symm.trans ho)
    have hsm:=dS_ (ops:=ops) (o:=oi) (Region.noSelect_spec hsel i oi · · hoi) (a:=aA_ ops (vgOf ops A n objs g) S a) (b:=aA_ ops (bC_ ops A) (List.range i).reverse a) (fun t htl=>by
     rw[aO_,aO_]
     congr 2
     have hR:∀j∈(List.range i).reverse,j<N:=fun j hj=>by have:=List.mem_range.1 (List.mem_reverse.1 hj);omega
     by_cases hx:∃j,j<N∧aD_ ops j=some t
     ·obtain⟨j,hj,hjt⟩:=hx
      have h1:=List.all_eq_true.1 (List.all_eq_true.1 hlk i (List.mem_range.2 (Nat.lt_of_lt_of_le hin hnN))) j (List.mem_range.2 hj)
      rw[hoi,hjt] at h1
      have h2:j<i∧Region.waitsFor .any ops i j=true:=by
       have h3:(oi.looksAt ops).contains t=true:=by simpa using htl
       simp only[h3,Bool.not_true,Bool.false_or,Bool.and_eq_true,decide_eq_true_eq] at h1
       exact⟨h1.1.1,h1.2⟩
      obtain⟨o2,ho2,e,hee,hbe,hon⟩:=Region.waitsFor_spec h2.2
      obtain rfl:oi=o2:=Option.some.inj (hoi.symm.trans ho2)
      have h4:=hdone e hee hbe
      rw[hon] at h4
      rw[bH_ hd hSN ((hS j).2 ⟨hj,h4⟩) hjt,bH_ hd hR (List.mem_reverse.2 (List.mem_range.2 h2.1)) hjt]
      unfold vgOf
      rw[if_pos (by omega)]
     ·rw[aU_ fun j hj hjt=>hx ⟨j,hSN j hj,hjt⟩,aU_ fun j hj hjt=>hx ⟨j,hR j hj,hjt⟩])
    have hy':=hy.of_same hsm.1 hsm.2
    refine wpOp_of_qOp (C:=fun W'=>∃p:Regrown,W'=grow (redrawn W p.d) p.os) (K:=fun a1=>a1=(aA_ ops (vgOf ops A n objs g) S a).put oi.dst (bC_ ops A i)) (regrown_of_below (Below.refl _ _)) ?_ (hy'.qOp hoi rfl)
    rintro a1 W1 ⟨⟨dq,osq⟩,hp⟩ rfl
    have hbW:Below W.heap.size W W1:=by rw[hp];exact below_regrown W dq osq
    have e:(aA_ ops (vgOf ops A n objs g) S a).put oi.dst (bC_ ops A i)=aA_ ops (vgOf ops A n objs g) (i::S) a:=by
     show _=(aA_ ops (vgOf ops A n objs g) S a).put (aD_ ops i) (vgOf ops A n objs g i)
     rw[hdi]
     unfold vgOf
     rw[if_pos hin]
    rw[e]
    exact ih (i::S) g _ W1 hc' hS' (inv.set hi hiN) (hb.trans (hbW.mono hb.size)) (fun k x hk hm=>by
     have:=hG k x hk ((List.mem_cons.1 hm).resolve_left (by omega))
     exact⟨this.1,this.2.below hbW⟩) (fun j1 j2 h1 h2 h=>hinj j1 j2 ((List.mem_cons.1 h1).resolve_left (by omega)) ((List.mem_cons.1 h2).resolve_left (by omega)) h)
   ·obtain⟨k0,rfl⟩:∃k,i=n+k:=⟨i-n,by omega⟩
    have hk0:k0<objs.length:=by omega
    obtain⟨o,ho,hwa,hrun⟩:=hal k0 _ (List.getElem?_eq_getElem hk0)
    obtain rfl:oi=o:=Option.some.inj (hoi.symm.trans ho)
    have hsm:=dS_ (ops:=ops) (o:=oi) (Region.noSelect_spec hsel (n+k0) oi · · hoi) (a:=aA_ ops (vgOf ops A n objs g) S a) (b:=A) (fun t htl=>by
     have hAt:A.tmps[t]?=_:=(congrArg (fun x:Act=>x.tmps[t]?) hA).trans (aO_ _ _ _ _ _)
     rw[hAt,aO_]
     congr 2
     have hR:∀j∈(List.range n).reverse,j<N:=fun j hj=>by have:=List.mem_range.1 (List.mem_reverse.1 hj);omega
     by_cases hx:∃j,j<N∧aD_ ops j=some t
     ·obtain⟨j,hj,hjt⟩:=hx
      have h1:=List.all_eq_true.1 (List.all_eq_true.1 hlk (n+k0) (List.mem_range.2 hiN)) j (List.mem_range.2 hj)
      rw[hoi,hjt] at h1
      have h2:j<n∧Region.waitsFor .any ops (n+k0) j=true:=by
       have h3:(oi.looksAt ops).contains t=true:=by simpa using htl
       simp only[h3,Bool.not_true,Bool.false_or,Bool.and_eq_true,decide_eq_true_eq] at h1
       exact⟨h1.1.2,h1.2⟩
      obtain⟨o2,ho2,e,hee,hbe,hon⟩:=Region.waitsFor_spec h2.2
      obtain rfl:oi=o2:=Option.some.inj (hoi.symm.trans ho2)
      have h4:=hdone e hee hbe
      rw[hon] at h4
      rw[bH_ hd hSN ((hS j).2 ⟨hj,h4⟩) hjt,bH_ (S:=(List.range n).reverse) hd hR (List.mem_reverse.2 (List.mem_range.2 h2.1)) hjt]
      unfold vgOf
      rw[if_pos h2.1]
     ·rw[aU_ fun j hj hjt=>hx ⟨j,hSN j hj,hjt⟩,aU_ (S:=(List.range n).reverse) fun j hj hjt=>hx ⟨j,hR j hj,hjt⟩])
    unfold wpOp
    simp only[hoi]
    rw[hsm.2,hwa,if_pos rfl]
    refine .inl ?_
    unfold Oper.wp
    rw[hsm.1,hrun]
    show wpAny _ _ _ _ _ _ ((aA_ ops (vgOf ops A n objs g) S a).put oi.dst _) _
    have hgS:∀j∈S,j≠n+k0:=fun j hj h=>hiS (h▸hj)
    have e:(aA_ ops (vgOf ops A n objs g) S a).put oi.dst (objs[k0].2.2 W.heap.size)=aA_ ops (vgOf ops A n objs (fun j=>if j=n+k0 then W.heap.size else g j)) ((n+k0)::S) a:=by
     show _=(aA_ ops (vgOf ops A n objs (fun j=>if j=n+k0 then W.heap.size else g j)) S a).put (aD_ ops (n+k0)) (vgOf ops A n objs (fun j=>if j=n+k0 then W.heap.size else g j) (n+k0))
     rw[hdi]
     congr 1
     ·clear hS hS' hSN hG hinj hiS hsm
      induction S with
      | nil=>rfl
      | cons j S ihS=>
       show(aA_ ops (vgOf ops A n objs g) S a).put _ _=(aA_ ops (vgOf ops A n objs _) S a).put _ _
       rw[ihS (fun j hj=>hgS j (List.mem_cons_of_mem _ hj))]
       congr 1
       unfold vgOf
       simp only
       rw[if_neg (hgS j List.mem_cons_self)]
     ·unfold vgOf
      simp only
      rw[if_neg (by omega),if_pos trivial,show n+k0-n=k0 by omega]
      unfold vfOf
      rw[List.getElem?_eq_getElem hk0]
    rw[e]
    have hbW:Below W.heap.size W (W.alloc (.cells objs[k0].1.toArray objs[k0].2.1)):=(Below.refl _ _).alloc (Nat.le_refl _) _
    refine ih ((n+k0)::S) _ _ _ hc' hS' (inv.set hi hiN) (hb.trans (hbW.mono hb.size)) (fun k x hk hm=>?_) (fun j1 j2 h1 h2 h=>?_)
    ·by_cases hkk:k=k0
     ·subst hkk
      simp only[if_true]
      rw[List.getElem?_eq_getElem hk0] at hk
      cases hk
      exact⟨hb.size,ArAt.mk' W _ _⟩
     ·simp only[show(n+k=n+k0)=False by simp;omega,if_false]
      have:=hG k x hk ((List.mem_cons.1 hm).resolve_left (by omega))
      exact⟨this.1,this.2.below hbW⟩
    ·have old:∀j,n+j∈S→g (n+j)<W.heap.size:=fun j hj=>by
      have h3:=hSN _ hj
      exact(hG j _ (List.getElem?_eq_getElem (by omega)) hj).2.sz
     by_cases a1:j1=k0
     ·by_cases a2:j2=k0
      ·omega
      ·have:=old j2 ((List.mem_cons.1 h2).resolve_left (by omega))
       simp only[a1,if_true,show(n+j2=n+k0)=False by simp;omega,if_false] at h
       omega
     ·have b1:=(List.mem_cons.1 h1).resolve_left (by omega)
      by_cases a2:j2=k0
      ·have:=old j1 b1
       simp only[a2,if_true,show(n+j1=n+k0)=False by simp;omega,if_false] at h
       omega
      ·simp only[show(n+j1=n+k0)=False by simp;omega,show(n+j2=n+k0)=False by simp;omega,if_false] at h
       exact hinj j1 j2 b1 ((List.mem_cons.1 h2).resolve_left (by omega)) h
theorem eR_ {id:Nat} {l:List Oper} (n:Nat) (objs:List (List Value×TypeId×(Nat→Value))) (hm:P.follows .mixedOrders=true) (hB:qtB l.toArray n (n+objs.length) a.tmps.size=true)
  (hal:∀k x,objs[k]?=some x→∃o,l.toArray[n+k]?=some o∧Region.wanted o (yielded l.toArray A.tmps)=true∧∀(W:World),(execOp A.eval o).run P W=.ok (.value (x.2.2 W.heap.size)) (W.alloc (.cells x.1.toArray x.2.1)))
  (h:∀U,Below w.heap.size w U→wpQuiet P l.toArray (fun W=>∃p:Regrown,W=grow (redrawn U p.d) p.os) (fun a'=>a'=A) (l.take n) a)
  (ht:∀(g:Nat→Nat) (W:World),Below w.heap.size w W→(∀k x,objs[k]?=some x→w.heap.size≤g (n+k)∧ArAt (g (n+k)) x.1 W)→(∀i j,i<objs.length→j<objs.length→g (n+i)=g (n+j)→i=j)→
   wpList P l.toArray Q (l.drop (n+objs.length)) (aA_ l.toArray (vgOf l.toArray A n objs g) ((List.range objs.length).map (n + ·)) A) W):(Code.region id l.toArray true).wp P Q a w:=by
 have hB':=hB
 simp only[qtB,Bool.and_eq_true,decide_eq_true_eq] at hB'
 obtain⟨⟨⟨⟨⟨⟨⟨⟨⟨hsel,hnN⟩,hNs⟩,hd⟩,hlk⟩,hed⟩,hz⟩,hsk⟩,hch⟩,hsq⟩:=hB'
 have hNs':n+objs.length<l.length:=by simpa using hNs
 have tab:∀U,Below w.heap.size w U→_:=fun U hU=>fZ_ (P:=P) (C:=fun W=>∃p:Regrown,W=grow (redrawn U p.d) p.os) (a:=a) (A:=A) hd hz hnN (l.take n) 0 (fun j hj=>by
  have hj':j<n:=by rw[List.length_take] at hj;omega
  simp[hj']) (by rw[List.length_take];omega) (h U hU)
 refine wp_region_any hm ?_
 have H:=yK_ (P:=P) (Q:=Q) (w:=w) (a:=a) (A:=A) hB hal (fun U hU i hi=>(tab U hU).1 i (Nat.zero_le _) hi) (tab w (Below.refl _ _)).2 ht l.toArray.size [] (fun _=>0) (Array.replicate l.toArray.size false) { w with drawn:=w.drawn+1 } (by simp)
  (fun i=>⟨fun hi=>(by cases hi),fun hi=>(by rw[getD_replicate_false] at hi;cases hi.2)⟩)
  ⟨by simp,fun j oj _ hl=>(by rw[getD_replicate_false] at hl;cases hl),fun t _ ht=>getD_in (by simpa using ht) (getD_replicate_false _ _)⟩
  ⟨rfl,rfl,rfl,Nat.le_refl _,fun _ _=>rfl⟩ (fun k x _ hm=>by cases hm) (fun i j hi=>by cases hi)
 exact H
theorem bW_ {id:Nat} {l:List Oper} (n:Nat) (hm:P.follows .mixedOrders=true) (hB:qtB l.toArray n n a.tmps.size=true)
  (h:∀U,Below w.heap.size w U→wpQuiet P l.toArray (fun W=>∃p:Regrown,W=grow (redrawn U p.d) p.os) (fun a'=>a'=A) (l.take n) a)
  (ht:∀(W:World),Below w.heap.size w W→wpList P l.toArray Q (l.drop n) A W):(Code.region id l.toArray true).wp P Q a w:=
 eR_ n [] hm hB (fun k x hk=>by simp at hk) h (fun g W hb _ _=>ht W hb)
theorem lC_ {id:Nat} {l:List Oper} (n d:Nat) (vs:List Value) (t:TypeId) (hm:P.follows .mixedOrders=true) (hB:qtB l.toArray n (n+1) a.tmps.size=true)
  (hal:∃o,l.toArray[n]?=some o∧o.dst=some d∧o.guard=none∧∀(b:Act) (W:World),(execOp b.eval o).run P W=.ok (.value (.pointer (some ⟨W.heap.size,0,none⟩))) (W.alloc (.cells vs.toArray t)))
  (h:∀U,Below w.heap.size w U→wpQuiet P l.toArray (fun W=>∃p:Regrown,W=grow (redrawn U p.d) p.os) (fun a'=>a'=A) (l.take n) a)
  (ht:∀(B:Nat) (W:World),Below w.heap.size w W→w.heap.size≤B→ArAt B vs W→wpList P l.toArray Q (l.drop (n+1)) (A.put (some d) (.pointer (some ⟨B,0,none⟩))) W):(Code.region id l.toArray true).wp P Q a w:=by
 obtain⟨o,ho,hd,hg,hr⟩:=hal
 refine eR_ (A:=A) n [(vs,t,fun B=>.pointer (some ⟨B,0,none⟩))] hm hB (fun k x hk=>?_) h (fun g W hb hG _=>?_)
 ·cases k with
  | zero=>cases hk;exact⟨o,ho,by unfold Region.wanted;rw[hg],hr A⟩
  | succ k=>simp at hk
 ·have h1:=hG 0 (vs,t,fun B=>.pointer (some ⟨B,0,none⟩)) rfl
  have:=ht (g n) W hb h1.1 h1.2
  have e:aD_ l.toArray n=some d:=by unfold aD_;rw[ho];exact hd
  have e2:vgOf l.toArray A n [(vs,t,fun B=>.pointer (some ⟨B,0,none⟩))] g n=.pointer (some ⟨g n,0,none⟩):=by unfold vgOf;rw[if_neg (Nat.lt_irrefl _),Nat.sub_self];rfl
  show wpList _ _ _ _ ((A.put (aD_ l.toArray n) (vgOf l.toArray A n [(vs,t,fun B=>.pointer (some ⟨B,0,none⟩))] g n))) W
  rw[e,e2]
  exact this
theorem bL_ {id:Nat} {l:List Oper} (n d m:Nat) (vs:List Value) (t:TypeId) (hm:P.follows .mixedOrders=true) (hB:qtB l.toArray n (n+1) a.tmps.size=true)
  (h:∀U,Below w.heap.size w U→wpQuiet P l.toArray (fun W=>∃p:Regrown,W=grow (redrawn U p.d) p.os) (fun a'=>a'=A) (l.take n) a)
  (hal:∃o,l.toArray[n]?=some o∧o.dst=some d∧Region.wanted o (yielded l.toArray A.tmps)=true∧∀(W:World),(execOp A.eval o).run P W=.ok (.value (.slice (some ⟨W.heap.size,0,none⟩) m m)) (W.alloc (.cells vs.toArray t)))
  (ht:∀(B:Nat) (W:World),Below w.heap.size w W→w.heap.size≤B→ArAt B vs W→wpList P l.toArray Q (l.drop (n+1)) (A.put (some d) (.slice (some ⟨B,0,none⟩) m m)) W):(Code.region id l.toArray true).wp P Q a w:=by
 obtain⟨o,ho,hd,hg,hr⟩:=hal
 refine eR_ (A:=A) n [(vs,t,fun B=>.slice (some ⟨B,0,none⟩) m m)] hm hB (fun k x hk=>?_) h (fun g W hb hG _=>?_)
 ·cases k with
  | zero=>cases hk;exact⟨o,ho,hg,hr⟩
  | succ k=>simp at hk
 ·have h1:=hG 0 (vs,t,fun B=>.slice (some ⟨B,0,none⟩) m m) rfl
  have:=ht (g n) W hb h1.1 h1.2
  have e:aD_ l.toArray n=some d:=by unfold aD_;rw[ho];exact hd
  have e2:vgOf l.toArray A n [(vs,t,fun B=>.slice (some ⟨B,0,none⟩) m m)] g n=.slice (some ⟨g n,0,none⟩) m m:=by unfold vgOf;rw[if_neg (Nat.lt_irrefl _),Nat.sub_self];rfl
  show wpList _ _ _ _ ((A.put (aD_ l.toArray n) (vgOf l.toArray A n [(vs,t,fun B=>.slice (some ⟨B,0,none⟩) m m)] g n))) W
  rw[e,e2]
  exact this
end
end Go.Proofs.YtdkaohphbgdkpaaGreatDoor
namespace Go.Proofs.YtdkaohphbgdkpaaGreatDoor
open Go.RowKit Go.Shelf Go.Sort
section
variable (ops:Array Oper)
def aDW (N:Nat):Bool:=(List.range N).all fun i=>(List.range N).all fun j=>match ops[i]?,aD_ ops j with
 | some o,some d=>!(o.looksAt ops).contains d||(decide (j<i)&&Region.waitsFor .any ops i j)
 | _,_=>false
def aCJ (n N:Nat):Bool:=(List.range N).all fun i=>!decide (n<i)||Region.waitsFor .any ops i (i-1)
def qeB (n N sz:Nat):Bool:=
 Region.noSelect ops&&decide (n≤N)&&decide (N<ops.size)&&jV_ ops N&&aDW ops N&&aCJ ops n N&&aBB ops N&&uF_ ops N sz&&Region.sinkB .any ops N&&Region.chainB .any ops N&&Region.seqB .any ops (ops.size-N) N (Array.replicate N true++Array.replicate (ops.size-N) false)
def vcOf (A:Act) (n:Nat) (vals:List Value) (i:Nat):Value:=if i<n then bC_ ops A i else vals.getD (i-n) undef
def putE (A:Act) (n:Nat) (vals:List Value):Act:=aA_ ops (vcOf ops A n vals) ((List.range vals.length).map (n + ·)) A
variable {ops}
variable {P:Program} {Q:Exit→Act→World→Prop} {w:World} {a A:Act} {n m:Nat} {I:List Value→World→Prop}
theorem aDK (hd:jV_ ops (n+m)=true) (hA:A=aA_ ops (bC_ ops A) (List.range n).reverse a) {vals:List Value} (hv:vals.length≤m) (t:Tmp) :
  (∀j,j<n+vals.length→aD_ ops j=some t→t<a.tmps.size→(putE ops A n vals).tmps[t]?=some (vcOf ops A n vals j))∧((∀j,j<n+vals.length→aD_ ops j≠some t)→t<a.tmps.size→(putE ops A n vals).tmps[t]?=a.tmps[t]?):=by
 have hsz:A.tmps.size=a.tmps.size:=by rw[hA,bE_]
 have hAt:A.tmps[t]?=_:=(congrArg (fun x:Act=>x.tmps[t]?) hA).trans (aO_ _ _ _ _ _)
 have hM:∀i∈(List.range vals.length).map (n + ·),i<n+m:=fun i hi=>by
  obtain⟨k,hk,rfl⟩:=List.mem_map.1 hi
  have:=List.mem_range.1 hk
  omega
 have hR:∀i∈(List.range n).reverse,i<n+m:=fun i hi=>by have:=List.mem_range.1 (List.mem_reverse.1 hi);omega
 constructor
 ·intro j hj hjt htl
  unfold putE
  rw[aO_,hsz,if_pos htl]
  by_cases hjn:j<n
  ·rw[aU_ (S:=(List.range vals.length).map (n + ·)) (fun i hi hit=>by
    have:=cT_ hd (by omega) (hM i hi) hjt hit
    obtain⟨k,hk,rfl⟩:=List.mem_map.1 hi
    omega),hAt,if_pos htl,bH_ hd hR (List.mem_reverse.2 (List.mem_range.2 hjn)) hjt]
   unfold vcOf
   rw[if_pos hjn]
   rfl
  ·rw[bH_ hd hM (j:=j) (List.mem_map.2 ⟨j-n,List.mem_range.2 (by omega),by omega⟩) hjt]
   rfl
 ·intro hno htl
  unfold putE
  rw[aO_,hsz,if_pos htl,aU_ (S:=(List.range vals.length).map (n + ·)) (fun i hi=>by
   obtain⟨k,hk,rfl⟩:=List.mem_map.1 hi
   have:=List.mem_range.1 hk
   exact hno _ (by omega)),hAt,if_pos htl,aU_ (fun i hi=>hno i (by have:=List.mem_range.1 (List.mem_reverse.1 hi);omega))]
  rfl
theorem yM_ (hB:qeB ops n (n+m) a.tmps.size=true)
  (hI:∀(vals:List Value) (W:World) (d:Nat) (os:Array Obj),I vals W→I vals (grow (redrawn W d) os))
  (hal:∀(vals:List Value) (W:World),vals.length<m→I vals W→∃o,ops[n+vals.length]?=some o∧Region.wanted o (yielded ops (putE ops A n vals).tmps)=true∧∃v W',(execOp (putE ops A n vals).eval o).run P W=.ok (.value v) W'∧I (vals++[v]) W')
  (hq:∀(vals:List Value) (U:World),I vals U→∀i,i<n→∃o,ops[i]?=some o∧YieldsIn P ops (fun W=>∃p:Regrown,W=grow (redrawn U p.d) p.os) o (bC_ ops A i) (aA_ ops (bC_ ops A) (List.range i).reverse a))
  (hA:A=aA_ ops (bC_ ops A) (List.range n).reverse a)
  (ht:∀(vals:List Value) (W:World),vals.length=m→I vals W→wpList P ops Q (ops.toList.drop (n+m)) (putE ops A n vals) W) :
  ∀(F:Nat) (S:List Nat) (vals:List Value) (listed:Array Bool) (W:World),listed.toList.count false=F→(∀i,i∈S↔(i<n+m∧listed.getD i false=true))→HeadInv .any ops (n+m) listed→vals.length≤m→
   (∀j,j<m→(n+j∈S↔j<vals.length))→I vals W→wpAny P .any ops Q F listed (aA_ ops (vcOf ops A n vals) S a) W:=by
 simp only[qeB,Bool.and_eq_true,decide_eq_true_eq] at hB
 obtain⟨⟨⟨⟨⟨⟨⟨⟨⟨⟨hsel,hnN⟩,hNs⟩,hd⟩,hlk⟩,hcn⟩,hed⟩,hz⟩,hsk⟩,hch⟩,hsq⟩:=hB
 have hpE:=fun(vals:List Value) (hv:vals.length≤m) (t:Tmp)=>aDK (ops:=ops) (a:=a) (A:=A) (n:=n) (m:=m) hd hA hv t
 have hsA:A.tmps.size=a.tmps.size:=by rw[hA,bE_]
 have hsE:∀vals:List Value,(putE ops A n vals).tmps.size=a.tmps.size:=fun vals=>by unfold putE;rw[bE_,hsA]
 have hslot:∀j t,j<n+m→aD_ ops j=some t→t<a.tmps.size:=fun j t hj hjt=>by
  have:=List.all_eq_true.1 hz j (List.mem_range.2 hj)
  rw[hjt] at this
  exact of_decide_eq_true this
 generalize hN:n+m=N at *
 intro F
 induction F with
 | zero=>
  intro S vals listed W hc hS inv _ _ _
  have h1:=inv.tail N (Nat.le_refl _) hNs
  have:=List.count_pos_iff.2 (List.mem_of_getElem? (bU_ h1))
  omega
 | succ F ih=>
  intro S vals listed W hc hS inv hv hSv hIW
  have hSN:∀i∈S,i<N:=fun i hi=>((hS i).1 hi).1
  have hslots:∀t,(∀j,j<N→aD_ ops j=some t→j∈S∧j<n+vals.length)→(aA_ ops (vcOf ops A n vals) S a).tmps[t]?=(putE ops A n vals).tmps[t]?:=fun t h=>by
   by_cases htl:t<a.tmps.size
   ·rw[aO_,if_pos htl]
    by_cases hx:∃j,j<N∧aD_ ops j=some t
    ·obtain⟨j,hj,hjt⟩:=hx
     rw[bH_ hd hSN (h j hj hjt).1 hjt,(hpE vals hv t).1 j (h j hj hjt).2 hjt htl]
     rfl
    ·rw[aU_ fun j hj hjt=>hx ⟨j,hSN j hj,hjt⟩,(hpE vals hv t).2 (fun j hj hjt=>hx ⟨j,by omega,hjt⟩) htl]
     rfl
   ·rw[Array.getElem?_eq_none (by rw[bE_];exact Nat.le_of_not_lt htl),Array.getElem?_eq_none (by rw[hsE];exact Nat.le_of_not_lt htl)]
  by_cases hall:∀i,i<N→listed.getD i false=true
  ·have hlisted:listed=Array.replicate N true++Array.replicate (ops.size-N) false:=by
    apply Array.ext_getElem?
    intro i
    rw[Array.getElem?_append,Array.size_replicate]
    split
    ·rename_i h
     have h1:=hall i h
     have h2:i<listed.size:=by rw[inv.size];omega
     rw[Array.getElem?_replicate,if_pos h,Array.getElem?_eq_getElem h2]
     simp[Array.getD,h2] at h1
     rw[h1]
    ·rename_i h
     rw[Array.getElem?_replicate]
     by_cases h3:i<ops.size
     ·rw[if_pos (by omega)]
      have h1:=inv.tail i (by omega) h3
      have h2:i<listed.size:=by rw[inv.size];omega
      rw[Array.getElem?_eq_getElem h2]
      simp[Array.getD,h2] at h1
      rw[h1]
     ·rw[if_neg (by omega),Array.getElem?_eq_none (by rw[inv.size];omega)]
   have hF:F+1=(ops.toList.drop N).length:=by
    rw[←hc,hlisted]
    simp[List.count_replicate]
   rw[hF]
   have hvm:vals.length=m:=by
    rcases Nat.lt_or_ge vals.length m with h|h
    ·have:=(hSv vals.length h).1 ((hS _).2 ⟨by omega,hall _ (by omega)⟩)
     omega
    ·omega
   have e:aA_ ops (vcOf ops A n vals) S a=putE ops A n vals:=by
    refine pU_ ?_ fun t=>hslots t fun j hj hjt=>⟨(hS j).2 ⟨hj,hall j hj⟩,by omega⟩
    unfold putE
    rw[aY_,aY_,hA,aY_]
   rw[e]
   have hsq':Region.seqB .any ops (ops.toList.drop N).length N listed=true:=by rw[hlisted];simpa using hsq
   exact wpAny_of_seq (md:=.any) (ops.toList.drop N) N listed _ W (fun j=>by simp[List.getElem?_drop]) hsq' (ht vals W hvm hIW)
  ·obtain⟨i0,hi0⟩:∃i,i<N∧listed.getD i false=false:=by
    refine Classical.byContradiction fun hx=>hall fun i hi=>?_
    cases hl:listed.getD i false with
    | true=>rfl
    | false=>exact absurd ⟨i,hi,hl⟩ hx
   refine⟨fun h0=>absurd h0 (eY_ hed (Nat.le_of_lt hNs) inv.size ⟨i0,hi0⟩),fun i hi=>?_⟩
   have hiN:i<N:=by
    rcases Nat.lt_or_ge i N with h|h
    ·exact h
    ·exact absurd hi (tail_waits hsk hch hNs inv _ i0 rfl hi0.1 (getD_in (by rw[inv.size];omega) hi0.2) i h)
   obtain⟨hun,oi,hoi,hdone⟩:=mem_ready.1 hi
   have hisz:i<listed.size:=by rw[inv.size];omega
   have hiS:i ∉ S:=fun h=>by
    have:=((hS i).1 h).2
    rw[getD_both hun] at this
    cases this
   have hS':∀j,j∈i::S↔(j<N∧(listed.setIfInBounds i true).getD j false=true):=fun j=>by
    rw[List.mem_cons,hS j]
    by_cases hij:i=j
    ·subst hij
     simp[hiN,Array.getD,hisz]
    ·rw[getD_set_ne false hij]
     exact⟨fun h=>h.resolve_left (Ne.symm hij),.inr⟩
   have hc':(listed.setIfInBounds i true).toList.count false=F:=by
    have:=fN_ _ _ (bU_ hun)
    rw[Array.toList_setIfInBounds]
    omega
   have hdi:aD_ ops i=oi.dst:=by unfold aD_;rw[hoi];rfl
   have hwait:∀j,Region.waitsFor .any ops i j=true→listed.getD j false=true:=fun j hw=>by
    obtain⟨o2,ho2,e,hee,hbe,hon⟩:=Region.waitsFor_spec hw
    obtain rfl:oi=o2:=Option.some.inj (hoi.symm.trans ho2)
    have h4:=hdone e hee hbe
    rwa[hon] at h4
   have hlook:∀t∈oi.looksAt ops,∀j,j<N→aD_ ops j=some t→j<i∧j∈S:=fun t htl j hj hjt=>by
    have h1:=List.all_eq_true.1 (List.all_eq_true.1 hlk i (List.mem_range.2 hiN)) j (List.mem_range.2 hj)
    rw[hoi,hjt] at h1
    have h3:(oi.looksAt ops).contains t=true:=by simpa using htl
    simp only[h3,Bool.not_true,Bool.false_or,Bool.and_eq_true,decide_eq_true_eq] at h1
    exact⟨h1.1,(hS j).2 ⟨hj,hwait j h1.2⟩⟩
   by_cases hin:i<n
   ·obtain⟨o,ho,hy⟩:=hq vals W hIW i hin
    obtain rfl:oi=o:=Option.some.inj (hoi.symm.trans ho)
    have hR:∀j∈(List.range i).reverse,j<N:=fun j hj=>by have:=List.mem_range.1 (List.mem_reverse.1 hj);omega
    have hsm:=dS_ (ops:=ops) (o:=oi) (Region.noSelect_spec hsel i oi · · hoi) (a:=aA_ ops (vcOf ops A n vals) S a) (b:=aA_ ops (bC_ ops A) (List.range i).reverse a) (fun t htl=>by
     rw[aO_,aO_]
     congr 2
     by_cases hx:∃j,j<N∧aD_ ops j=some t
     ·obtain⟨j,hj,hjt⟩:=hx
      obtain⟨h2,h3⟩:=hlook t htl j hj hjt
      rw[bH_ hd hSN h3 hjt,bH_ hd hR (List.mem_reverse.2 (List.mem_range.2 h2)) hjt]
      unfold vcOf
      rw[if_pos (by omega)]
     ·rw[aU_ fun j hj hjt=>hx ⟨j,hSN j hj,hjt⟩,aU_ fun j hj hjt=>hx ⟨j,hR j hj,hjt⟩])
    have hy':=hy.of_same hsm.1 hsm.2
    refine wpOp_of_qOp (C:=fun W'=>∃p:Regrown,W'=grow (redrawn W p.d) p.os) (K:=fun a1=>a1=(aA_ ops (vcOf ops A n vals) S a).put oi.dst (bC_ ops A i)) (regrown_of_below (Below.refl _ _)) ?_ (hy'.qOp hoi rfl)
    rintro a1 W1 ⟨⟨dq,osq⟩,hp⟩ rfl
    have e:(aA_ ops (vcOf ops A n vals) S a).put oi.dst (bC_ ops A i)=aA_ ops (vcOf ops A n vals) (i::S) a:=by
     show _=(aA_ ops (vcOf ops A n vals) S a).put (aD_ ops i) (vcOf ops A n vals i)
     rw[hdi]
     unfold vcOf
     rw[if_pos hin]
    rw[e]
    refine ih (i::S) vals _ W1 hc' hS' (inv.set hi hiN) hv (fun j hj=>?_) (by rw[hp];exact hI _ _ _ _ hIW)
    rw[←hSv j hj,List.mem_cons]
    exact⟨fun h=>h.resolve_left (by omega),.inr⟩
   ·obtain⟨k0,rfl⟩:∃k,i=n+k:=⟨i-n,by omega⟩
    have hk0:k0<m:=by omega
    have hkv:k0=vals.length:=by
     have h1:¬k0<vals.length:=fun h=>hiS ((hSv k0 hk0).2 h)
     rcases Nat.eq_zero_or_pos k0 with h0|h0
     ·omega
     ·have h2:=List.all_eq_true.1 hcn (n+k0) (List.mem_range.2 hiN)
      rw[decide_eq_true (show n<n+k0 by omega)] at h2
      have h3:=hwait (n+k0-1) (by simpa using h2)
      have h4:=(hSv (k0-1) (by omega)).1 ((hS _).2 ⟨by omega,by rw[show n+(k0-1)=n+k0-1 by omega];exact h3⟩)
      omega
    subst hkv
    obtain⟨o,ho,hwa,v,W',hrun,hI2⟩:=hal vals W hk0 hIW
    obtain rfl:oi=o:=Option.some.inj (hoi.symm.trans ho)
    have hsm:=dS_ (ops:=ops) (o:=oi) (Region.noSelect_spec hsel _ oi · · hoi) (a:=aA_ ops (vcOf ops A n vals) S a) (b:=putE ops A n vals) (fun t htl=>hslots t fun j hj hjt=>⟨(hlook t htl j hj hjt).2,(hlook t htl j hj hjt).1⟩)
    unfold wpOp
    simp only[hoi]
    rw[hsm.2,hwa,if_pos rfl]
    refine .inl ?_
    unfold Oper.wp
    rw[hsm.1,hrun]
    show wpAny _ _ _ _ _ _ ((aA_ ops (vcOf ops A n vals) S a).put oi.dst _) _
    have hvS:∀j∈S,vcOf ops A n (vals++[v]) j=vcOf ops A n vals j:=fun j hj=>by
     unfold vcOf
     by_cases h:j<n
     ·rw[if_pos h,if_pos h]
     ·rw[if_neg h,if_neg h]
      have:=(hSv (j-n) (by have:=hSN j hj;omega)).1 (by rw[show n+(j-n)=j by omega];exact hj)
      rw[List.getD_eq_getElem?_getD,List.getD_eq_getElem?_getD,List.getElem?_append_left this]
    have e:(aA_ ops (vcOf ops A n vals) S a).put oi.dst v=aA_ ops (vcOf ops A n (vals++[v])) ((n+vals.length)::S) a:=by
     show _=(aA_ ops (vcOf ops A n (vals++[v])) S a).put (aD_ ops (n+vals.length)) (vcOf ops A n (vals++[v]) (n+vals.length))
     rw[hdi]
     congr 1
     ·clear hS hS' hSN hiS hsm hslots hlook hSv
      induction S with
      | nil=>rfl
      | cons j S ihS=>
       show(aA_ ops (vcOf ops A n vals) S a).put _ _=(aA_ ops (vcOf ops A n (vals++[v])) S a).put _ _
       rw[ihS (fun j hj=>hvS j (List.mem_cons_of_mem _ hj)),hvS j List.mem_cons_self]
     ·unfold vcOf
      rw[if_neg (by omega),show n+vals.length-n=vals.length by omega,List.getD_eq_getElem?_getD,List.getElem?_append_right (Nat.le_refl _),Nat.sub_self]
      rfl
    rw[e]
    refine ih ((n+vals.length)::S) (vals++[v]) _ _ hc' hS' (inv.set hi hiN) (by simp;omega) (fun j hj=>?_) hI2
    rw[List.mem_cons,hSv j hj,List.length_append]
    simp only[List.length_cons,List.length_nil]
    omega
theorem hI_ {id:Nat} {l:List Oper} (n m:Nat) (I:List Value→World→Prop) (hm:P.follows .mixedOrders=true) (hB:qeB l.toArray n (n+m) a.tmps.size=true)
  (hst:∀(vals:List Value) (U V:World),I vals U→Below U.heap.size U V→I vals V)
  (h0:∀W,Below w.heap.size w W→I [] W)
  (h:∀(vals:List Value) (U:World),I vals U→wpQuiet P l.toArray (fun W=>∃p:Regrown,W=grow (redrawn U p.d) p.os) (fun a'=>a'=A) (l.take n) a)
  (hal:∀(vals:List Value) (W:World),vals.length<m→I vals W→∃o,l.toArray[n+vals.length]?=some o∧Region.wanted o (yielded l.toArray (putE l.toArray A n vals).tmps)=true∧∃v W',(execOp (putE l.toArray A n vals).eval o).run P W=.ok (.value v) W'∧I (vals++[v]) W')
  (ht:∀(vals:List Value) (W:World),vals.length=m→I vals W→wpList P l.toArray Q (l.drop (n+m)) (putE l.toArray A n vals) W):(Code.region id l.toArray true).wp P Q a w:=by
 have hB':=hB
 simp only[qeB,Bool.and_eq_true,decide_eq_true_eq] at hB'
 obtain⟨⟨⟨⟨⟨⟨⟨⟨⟨⟨hsel,hnN⟩,hNs⟩,hd⟩,hlk⟩,hcn⟩,hed⟩,hz⟩,hsk⟩,hch⟩,hsq⟩:=hB'
 have hNs':n+m<l.length:=by simpa using hNs
 have tab:∀(vals:List Value) (U:World),I vals U→_:=fun vals U hU=>fZ_ (P:=P) (C:=fun W=>∃p:Regrown,W=grow (redrawn U p.d) p.os) (a:=a) (A:=A) hd hz hnN (l.take n) 0 (fun j hj=>by
  have hj':j<n:=by rw[List.length_take] at hj;omega
  simp[hj']) (by rw[List.length_take];omega) (h vals U hU)
 have hw0:I [] { w with drawn:=w.drawn+1 }:=h0 _ ⟨rfl,rfl,rfl,Nat.le_refl _,fun _ _=>rfl⟩
 refine wp_region_any hm ?_
 exact yM_ (P:=P) (Q:=Q) (a:=a) (A:=A) (I:=I) hB (fun vals W d os hI=>hst vals W _ hI (below_regrown W d os)) hal (fun vals U hU i hi=>(tab vals U hU).1 i (Nat.zero_le _) hi) (tab [] _ hw0).2 ht l.toArray.size [] [] (Array.replicate l.toArray.size false) { w with drawn:=w.drawn+1 } (by simp)
  (fun i=>⟨fun hi=>(by cases hi),fun hi=>(by rw[getD_replicate_false] at hi;cases hi.2)⟩)
  ⟨by simp,fun j oj _ hl=>(by rw[getD_replicate_false] at hl;cases hl),fun t _ ht=>getD_in (by simpa using ht) (getD_replicate_false _ _)⟩
  (Nat.zero_le _) (fun j _=>⟨fun h=>(by cases h),fun h=>(by cases h)⟩) hw0
theorem bX_ {id:Nat} {l:List Oper} (n d1 d2 k:Nat) (o1 o2:Oper) (C:World→Prop) (D:Nat→World→Prop) (E:Nat→Value→World→Prop) (hm:P.follows .mixedOrders=true) (hB:qeB l.toArray n (n+2) a.tmps.size=true)
  (i1:l.toArray[n]?=some o1∧o1.dst=some d1∧o1.guard=none) (i2:l.toArray[n+1]?=some o2∧o2.dst=some d2∧o2.guard=none)
  (hC:∀U V:World,C U→Below U.heap.size U V→C V) (hD:∀B (U V:World),D B U→Below U.heap.size U V→D B V) (hE:∀B v (U V:World),E B v U→Below U.heap.size U V→E B v V)
  (h0:∀W,Below w.heap.size w W→C W)
  (h:∀U:World,(C U∨(∃B,D B U)∨∃B v,E B v U)→wpQuiet P l.toArray (fun W=>∃p:Regrown,W=grow (redrawn U p.d) p.os) (fun a'=>a'=A) (l.take n) a)
  (s1:∀W,C W→∃W',(execOp A.eval o1).run P W=.ok (.value (.slice (some ⟨W.heap.size,0,none⟩) k k)) W'∧D W.heap.size W')
  (s2:∀B W,D B W→∃v W',(execOp (A.put (some d1) (.slice (some ⟨B,0,none⟩) k k)).eval o2).run P W=.ok (.value v) W'∧E B v W')
  (ht:∀B v W,E B v W→wpList P l.toArray Q (l.drop (n+2)) ((A.put (some d2) v).put (some d1) (.slice (some ⟨B,0,none⟩) k k)) W):(Code.region id l.toArray true).wp P Q a w:=by
 obtain⟨a1,a2,a3⟩:=i1
 obtain⟨b1,b2,b3⟩:=i2
 have e1:aD_ l.toArray n=some d1:=by unfold aD_;rw[a1];exact a2
 have e2:aD_ l.toArray (n+1)=some d2:=by unfold aD_;rw[b1];exact b2
 have p0:putE l.toArray A n []=A:=rfl
 have p1:∀x,putE l.toArray A n [x]=A.put (some d1) x:=fun x=>by
  show A.put (aD_ l.toArray n) (vcOf l.toArray A n [x] n)=_
  unfold vcOf
  rw[e1,if_neg (Nat.lt_irrefl _),Nat.sub_self]
  rfl
 have p2:∀x y,putE l.toArray A n [x,y]=(A.put (some d2) y).put (some d1) x:=fun x y=>by
  show(A.put (aD_ l.toArray (n+1)) (vcOf l.toArray A n [x,y] (n+1))).put (aD_ l.toArray n) (vcOf l.toArray A n [x,y] n)=_
  unfold vcOf
  rw[e1,e2,if_neg (Nat.lt_irrefl _),if_neg (by omega),Nat.sub_self,show n+1-n=1 by omega]
  rfl
 refine hI_ (A:=A) n 2 (fun vals W=>match vals with | []=>C W | [x]=>∃B,x=.slice (some ⟨B,0,none⟩) k k∧D B W | [x,v]=>∃B,x=.slice (some ⟨B,0,none⟩) k k∧E B v W|_=>False) hm hB (fun vals U V hI hb=>?_) h0 (fun vals U hI=>?_) (fun vals W hl hI=>?_) (fun vals W hl hI=>?_)
 ·match vals,hI with
  | [],hI=>exact hC U V hI hb
  | [x],⟨B,e,hI⟩=>exact⟨B,e,hD B U V hI hb⟩
  | [x,v],⟨B,e,hI⟩=>exact⟨B,e,hE B v U V hI hb⟩
 ·match vals,hI with
  | [],hI=>exact h U (.inl hI)
  | [x],⟨B,e,hI⟩=>exact h U (.inr (.inl ⟨B,hI⟩))
  | [x,v],⟨B,e,hI⟩=>exact h U (.inr (.inr ⟨B,v,hI⟩))
 ·match vals,hl,hI with
  | [],_,hI=>
   obtain⟨W',hr,hd⟩:=s1 W hI
   exact⟨o1,a1,by unfold Region.wanted;rw[a3],_,W',hr,W.heap.size,rfl,hd⟩
  | [x],_,⟨B,e,hI⟩=>
   subst e
   obtain⟨v,W',hr,hd⟩:=s2 B W hI
   rw[p1]
   exact⟨o2,b1,by unfold Region.wanted;rw[b3],v,W',hr,B,rfl,hd⟩
 ·match vals,hl,hI with
  | [x,v],_,⟨B,e,hI⟩=>
   subst e
   rw[p2]
   exact ht B v W hI
end
end Go.Proofs.YtdkaohphbgdkpaaGreatDoor
namespace Go.Proofs.YtdkaohphbgdkpaaGreatDoor
open Go.RowKit Go.Shelf Go.Sort
section
variable (ops:Array Oper)
def vcF (A:Act) (n m:Nat) (vals:List Value) (i:Nat):Value:=if n≤i∧i<n+m then vals.getD (i-n) undef else bC_ ops A i
def putF (A:Act) (n m:Nat) (vals:List Value):Act:=aA_ ops (vcF ops A n m vals) ((List.range vals.length).map (n + ·)) A
variable {ops}
variable {P:Program} {Q:Exit→Act→World→Prop} {w:World} {a A:Act} {n m N:Nat} {I:List Value→World→Prop}
theorem qC_ {i:Nat} {t:Tmp} (h:aD_ ops i=some t) (ht:t<A.tmps.size):A.tmps[t]?=some (bC_ ops A i):=by
 unfold bC_
 rw[h,Array.getElem?_eq_getElem ht]
 show _=some ((A.tmps[t]?).getD undef)
 rw[Array.getElem?_eq_getElem ht]
 rfl
theorem hA_ {C:World→Prop} (hd:jV_ ops N=true) (hz:uF_ ops N a.tmps.size=true) (hlk:aDW ops N=true) (hsel:Region.noSelect ops=true):∀(l:List Oper) (js:List Nat) (b:Act),b.tmps.size=a.tmps.size→js.length=l.length→(∀k,k<l.length→ops[js.getD k 0]?=l[k]?)→js.Pairwise (· < ·)→(∀j∈js,j<N)→wpQuiet P ops C (fun a'=>a'=A) l b→
  (∀j∈js,∃o,ops[j]?=some o∧YieldsIn P ops C o (bC_ ops A j) A)∧A.defers=b.defers∧A.tmps.size=b.tmps.size∧∀t:Tmp,(∀j∈js,aD_ ops j≠some t)→A.tmps[t]?=b.tmps[t]?
 | [],js,b,_,hl,_,_,_,h=>by
  obtain rfl:js=[]:=List.eq_nil_of_length_eq_zero (by simpa using hl)
  obtain rfl:b=A:=h
  exact⟨fun j hj=>(nomatch hj),rfl,rfl,fun t _=>rfl⟩
 | o::l,[],b,_,hl,_,_,_,h=>by simp at hl
 | o::l,j::js,b,hb,hl,hm,hp,hjN,h=>by
  have h0:ops[j]?=some o:=by simpa using hm 0 (by simp)
  have hst:qOp P ops C j (wpQuiet P ops C (fun a'=>a'=A) l) b:=by unfold qOp;simp only[h0];exact h
  obtain⟨v,hy,hK⟩:=yieldsIn_of_qOp h0 hst
  obtain⟨d,hdk⟩:=jL_ hd (hjN j List.mem_cons_self)
  have hod:o.dst=some d:=by unfold aD_ at hdk;rw[h0] at hdk;exact hdk
  have hlt:d<b.tmps.size:=by
   have:=List.all_eq_true.1 hz j (List.mem_range.2 (hjN j List.mem_cons_self))
   rw[hb]
   simpa[hdk] using this
  have hps:(b.put o.dst v).tmps.size=b.tmps.size:=by rw[hod];simp[Act.put]
  obtain⟨ih1,ih2,ih3,ih4⟩:=hA_ hd hz hlk hsel l js (b.put o.dst v) (by rw[hps,hb]) (by simpa using hl) (fun k hk=>by simpa using hm (k+1) (by simp;omega)) (List.pairwise_cons.1 hp).2 (fun i hi=>hjN i (List.mem_cons_of_mem _ hi)) hK
  have hlt2:=(List.pairwise_cons.1 hp).1
  have hnd:∀i∈js,aD_ ops i≠some d:=fun i hi hid=>by
   have:=cT_ hd (hjN i (List.mem_cons_of_mem _ hi)) (hjN j List.mem_cons_self) hid hdk
   have:=hlt2 i hi
   omega
  have hput:∀t:Tmp,t≠d→(b.put o.dst v).tmps[t]?=b.tmps[t]?:=fun t ht=>by
   rw[hod]
   simp[Act.put,Array.getElem?_setIfInBounds_ne (Ne.symm ht)]
  have hv:bC_ ops A j=v:=by
   unfold bC_
   rw[hdk]
   show(A.tmps[d]?).getD undef=v
   rw[ih4 d hnd,hod]
   show((b.tmps.setIfInBounds d v)[d]?).getD undef=v
   rw[Array.getElem?_setIfInBounds,if_pos rfl,if_pos hlt]
   rfl
  refine⟨fun i hi=>?_,by rw[ih2,hod];rfl,by rw[ih3,hps],fun t ht=>by rw[ih4 t (fun i hi=>ht i (List.mem_cons_of_mem _ hi)),hput t (fun e=>ht j List.mem_cons_self (by rw[hdk,e]))]⟩
  rcases List.mem_cons.1 hi with rfl|hi
  ·refine⟨o,h0,?_⟩
   rw[hv]
   have hsm:=dS_ (ops:=ops) (o:=o) (Region.noSelect_spec hsel _ o · · h0) (a:=A) (b:=b) (fun t htl=>by
    have hno:∀k,k<N→aD_ ops k=some t→k<i:=fun k hk hkt=>by
     have h1:=List.all_eq_true.1 (List.all_eq_true.1 hlk i (List.mem_range.2 (hjN i List.mem_cons_self))) k (List.mem_range.2 hk)
     rw[h0,hkt] at h1
     have h3:(o.looksAt ops).contains t=true:=by simpa using htl
     simp only[h3,Bool.not_true,Bool.false_or,Bool.and_eq_true,decide_eq_true_eq] at h1
     exact h1.1
    rw[ih4 t (fun k hk hkt=>by have:=hno k (hjN k (List.mem_cons_of_mem _ hk)) hkt;have:=hlt2 k hk;omega),hput t (fun e=>by
     have:=hno i (hjN i List.mem_cons_self) (by rw[hdk,e])
     omega)])
   exact hy.of_same hsm.1 hsm.2
  ·exact ih1 i hi
end
end Go.Proofs.YtdkaohphbgdkpaaGreatDoor
namespace Go.Proofs.YtdkaohphbgdkpaaGreatDoor
open Go.RowKit Go.Shelf Go.Sort
section
variable (ops:Array Oper)
def quietG (n m N:Nat) (fx:Nat→Bool):Bool:=(List.range N).all fun i=>!(decide (i<n)||decide (n+m≤i))||(List.range m).all fun j=>fx j||match ops[i]?,aD_ ops (n+j) with
 | some o,some d=>!(o.looksAt ops).contains d
 | _,_=>false
def qgB (n m N sz:Nat) (fx:Nat→Bool):Bool:=
 Region.noSelect ops&&decide (n+m≤N)&&decide (N<ops.size)&&jV_ ops N&&aDW ops N&&quietG ops n m N fx&&aCJ ops n (n+m)&&aBB ops N&&uF_ ops N sz&&Region.sinkB .any ops N&&Region.chainB .any ops N&&Region.seqB .any ops (ops.size-N) N (Array.replicate N true++Array.replicate (ops.size-N) false)
structure FrG (n m N:Nat) (fx:Nat→Bool) (a A:Act):Prop where
 d:A.defers=a.defers
 s:A.tmps.size=a.tmps.size
 t:∀t,(∀i,i<N→(i<n∨n+m≤i∨fx (i-n)=true)→aD_ ops i≠some t)→A.tmps[t]?=a.tmps[t]?
variable {ops}
variable {P:Program} {Q:Exit→Act→World→Prop} {w:World} {a A:Act} {n m N:Nat} {fx:Nat→Bool} {I:List Value→World→Prop}
theorem aDJ (hd:jV_ ops N=true) (hN:n+m≤N) (hA:FrG ops n m N fx a A) {vals:List Value} (hv:vals.length≤m) (t:Tmp) :
  (∀j,j<N→(j<n∨n+m≤j∨j<n+vals.length)→aD_ ops j=some t→t<a.tmps.size→(putF ops A n m vals).tmps[t]?=some (vcF ops A n m vals j))∧((∀j,j<N→aD_ ops j≠some t)→(putF ops A n m vals).tmps[t]?=a.tmps[t]?):=by
 have hM:∀i∈(List.range vals.length).map (n + ·),n≤i∧i<n+vals.length:=fun i hi=>by
  obtain⟨k,hk,rfl⟩:=List.mem_map.1 hi
  have:=List.mem_range.1 hk
  omega
 have hM':∀i∈(List.range vals.length).map (n + ·),i<N:=fun i hi=>by have:=hM i hi;omega
 constructor
 ·intro j hj hjq hjt htl
  unfold putF
  rw[aO_,hA.s,if_pos htl]
  by_cases hjn:n≤j∧j<n+m
  ·rw[bH_ hd hM' (j:=j) (List.mem_map.2 ⟨j-n,List.mem_range.2 (by omega),by omega⟩) hjt]
   rfl
  ·rw[aU_ (S:=(List.range vals.length).map (n + ·)) (fun i hi hit=>by
    have:=cT_ hd hj (hM' i hi) hjt hit
    have:=hM i hi
    omega)]
   unfold vcF
   rw[if_neg hjn,qC_ hjt (by rw[hA.s];exact htl)]
   rfl
 ·intro hno
  unfold putF
  rw[aO_,aU_ (S:=(List.range vals.length).map (n + ·)) (fun i hi=>hno i (hM' i hi))]
  have e:=hA.t t (fun i hi _=>hno i hi)
  rw[e]
  by_cases htl:t<A.tmps.size
  ·rw[if_pos htl];rfl
  ·rw[if_neg htl,Array.getElem?_eq_none (by rw[←hA.s];exact Nat.le_of_not_lt htl)]
theorem fX_ {C:World→Prop} {K:Act→Prop} : ∀(l:List Oper) (b:Act),wpQuiet P ops C K l b→∃A1,K A1∧wpQuiet P ops C (fun a'=>a'=A1) l b
 | [],b,h=>⟨b,h,rfl⟩
 | o::l,b,h=>by
  unfold wpQuiet at h
  by_cases hw:Region.wanted o (yielded ops b.tmps)=true
  ·rw[if_pos hw] at h
   obtain⟨v,h1,h2⟩:=h
   obtain⟨A1,hk,h3⟩:=fX_ l _ h2
   refine⟨A1,hk,?_⟩
   unfold wpQuiet
   rw[if_pos hw]
   exact⟨v,h1,h3⟩
  ·rw[if_neg hw] at h
   obtain⟨A1,hk,h3⟩:=fX_ l _ h
   refine⟨A1,hk,?_⟩
   unfold wpQuiet
   rw[if_neg hw]
   exact h3
theorem yL_ (hB:qgB ops n m N a.tmps.size fx=true)
  (hfix:∀(vals:List Value) (W:World),I vals W→∀k,k<vals.length→fx k=true→vals.getD k undef=bC_ ops A (n+k))
  (hI:∀(vals:List Value) (W:World) (d:Nat) (os:Array Obj),I vals W→I vals (grow (redrawn W d) os))
  (hal:∀(vals:List Value) (W:World),vals.length<m→I vals W→∃o,ops[n+vals.length]?=some o∧Region.wanted o (yielded ops (putF ops A n m vals).tmps)=true∧((∃v W',(execOp (putF ops A n m vals).eval o).run P W=.ok (.value v) W'∧I (vals++[v]) W')∨(∃f args v,(execOp (putF ops A n m vals).eval o).run P W=.ok (.enter f args) W∧Calls P f args W fun e W'=>e=.returned v∧I (vals++[v]) W')))
  (hq:∀(vals:List Value) (U:World),I vals U→∀i,i<N→(i<n∨n+m≤i)→∃o,ops[i]?=some o∧YieldsIn P ops (fun W=>∃p:Regrown,W=grow (redrawn U p.d) p.os) o (bC_ ops A i) A)
  (hA:FrG ops n m N fx a A)
  (ht:∀(vals:List Value) (W:World),vals.length=m→I vals W→wpList P ops Q (ops.toList.drop N) (putF ops A n m vals) W) :
  ∀(F:Nat) (S:List Nat) (vals:List Value) (listed:Array Bool) (W:World),listed.toList.count false=F→(∀i,i∈S↔(i<N∧listed.getD i false=true))→HeadInv .any ops N listed→vals.length≤m→
   (∀j,j<m→(n+j∈S↔j<vals.length))→I vals W→wpAny P .any ops Q F listed (aA_ ops (vcF ops A n m vals) S a) W:=by
 simp only[qgB,Bool.and_eq_true,decide_eq_true_eq] at hB
 obtain⟨⟨⟨⟨⟨⟨⟨⟨⟨⟨⟨hsel,hnN⟩,hNs⟩,hd⟩,hlk⟩,hqf⟩,hcn⟩,hed⟩,hz⟩,hsk⟩,hch⟩,hsq⟩:=hB
 have hpE:=fun(vals:List Value) (hv:vals.length≤m) (t:Tmp)=>aDJ (ops:=ops) (a:=a) (A:=A) (n:=n) (m:=m) (N:=N) hd hnN hA hv t
 have hsA:A.tmps.size=a.tmps.size:=hA.s
 have hsE:∀vals:List Value,(putF ops A n m vals).tmps.size=a.tmps.size:=fun vals=>by unfold putF;rw[bE_,hsA]
 have hslot:∀j t,j<N→aD_ ops j=some t→t<a.tmps.size:=fun j t hj hjt=>by
  have:=List.all_eq_true.1 hz j (List.mem_range.2 hj)
  rw[hjt] at this
  exact of_decide_eq_true this
 intro F
 induction F with
 | zero=>
  intro S vals listed W hc hS inv _ _ _
  have h1:=inv.tail N (Nat.le_refl _) hNs
  have:=List.count_pos_iff.2 (List.mem_of_getElem? (bU_ h1))
  omega
 | succ F ih=>
  intro S vals listed W hc hS inv hv hSv hIW
  have hSN:∀i∈S,i<N:=fun i hi=>((hS i).1 hi).1
  have hslots:∀t,(∀j,j<N→aD_ ops j=some t→j∈S∧(j<n∨n+m≤j∨j<n+vals.length))→(aA_ ops (vcF ops A n m vals) S a).tmps[t]?=(putF ops A n m vals).tmps[t]?:=fun t h=>by
   by_cases htl:t<a.tmps.size
   ·rw[aO_,if_pos htl]
    by_cases hx:∃j,j<N∧aD_ ops j=some t
    ·obtain⟨j,hj,hjt⟩:=hx
     rw[bH_ hd hSN (h j hj hjt).1 hjt,(hpE vals hv t).1 j hj (h j hj hjt).2 hjt htl]
     rfl
    ·rw[aU_ fun j hj hjt=>hx ⟨j,hSN j hj,hjt⟩,(hpE vals hv t).2 (fun j hj hjt=>hx ⟨j,hj,hjt⟩)]
     rfl
   ·rw[Array.getElem?_eq_none (by rw[bE_];exact Nat.le_of_not_lt htl),Array.getElem?_eq_none (by rw[hsE];exact Nat.le_of_not_lt htl)]
  by_cases hall:∀i,i<N→listed.getD i false=true
  ·have hlisted:listed=Array.replicate N true++Array.replicate (ops.size-N) false:=by
    apply Array.ext_getElem?
    intro i
    rw[Array.getElem?_append,Array.size_replicate]
    split
    ·rename_i h
     have h1:=hall i h
     have h2:i<listed.size:=by rw[inv.size];omega
     rw[Array.getElem?_replicate,if_pos h,Array.getElem?_eq_getElem h2]
     simp[Array.getD,h2] at h1
     rw[h1]
    ·rename_i h
     rw[Array.getElem?_replicate]
     by_cases h3:i<ops.size
     ·rw[if_pos (by omega)]
      have h1:=inv.tail i (by omega) h3
      have h2:i<listed.size:=by rw[inv.size];omega
      rw[Array.getElem?_eq_getElem h2]
      simp[Array.getD,h2] at h1
      rw[h1]
     ·rw[if_neg (by omega),Array.getElem?_eq_none (by rw[inv.size];omega)]
   have hF:F+1=(ops.toList.drop N).length:=by
    rw[←hc,hlisted]
    simp[List.count_replicate]
   rw[hF]
   have hvm:vals.length=m:=by
    rcases Nat.lt_or_ge vals.length m with h|h
    ·have:=(hSv vals.length h).1 ((hS _).2 ⟨by omega,hall _ (by omega)⟩)
     omega
    ·omega
   have e:aA_ ops (vcF ops A n m vals) S a=putF ops A n m vals:=by
    refine pU_ ?_ fun t=>hslots t fun j hj hjt=>⟨(hS j).2 ⟨hj,hall j hj⟩,by omega⟩
    unfold putF
    rw[aY_,aY_,hA.d]
   rw[e]
   have hsq':Region.seqB .any ops (ops.toList.drop N).length N listed=true:=by rw[hlisted];simpa using hsq
   exact wpAny_of_seq (md:=.any) (ops.toList.drop N) N listed _ W (fun j=>by simp[List.getElem?_drop]) hsq' (ht vals W hvm hIW)
  ·obtain⟨i0,hi0⟩:∃i,i<N∧listed.getD i false=false:=by
    refine Classical.byContradiction fun hx=>hall fun i hi=>?_
    cases hl:listed.getD i false with
    | true=>rfl
    | false=>exact absurd ⟨i,hi,hl⟩ hx
   refine⟨fun h0=>absurd h0 (eY_ hed (Nat.le_of_lt hNs) inv.size ⟨i0,hi0⟩),fun i hi=>?_⟩
   have hiN:i<N:=by
    rcases Nat.lt_or_ge i N with h|h
    ·exact h
    ·exact absurd hi (tail_waits hsk hch hNs inv _ i0 rfl hi0.1 (getD_in (by rw[inv.size];omega) hi0.2) i h)
   obtain⟨hun,oi,hoi,hdone⟩:=mem_ready.1 hi
   have hisz:i<listed.size:=by rw[inv.size];omega
   have hiS:i ∉ S:=fun h=>by
    have:=((hS i).1 h).2
    rw[getD_both hun] at this
    cases this
   have hS':∀j,j∈i::S↔(j<N∧(listed.setIfInBounds i true).getD j false=true):=fun j=>by
    rw[List.mem_cons,hS j]
    by_cases hij:i=j
    ·subst hij
     simp[hiN,Array.getD,hisz]
    ·rw[getD_set_ne false hij]
     exact⟨fun h=>h.resolve_left (Ne.symm hij),.inr⟩
   have hc':(listed.setIfInBounds i true).toList.count false=F:=by
    have:=fN_ _ _ (bU_ hun)
    rw[Array.toList_setIfInBounds]
    omega
   have hdi:aD_ ops i=oi.dst:=by unfold aD_;rw[hoi];rfl
   have hwait:∀j,Region.waitsFor .any ops i j=true→listed.getD j false=true:=fun j hw=>by
    obtain⟨o2,ho2,e,hee,hbe,hon⟩:=Region.waitsFor_spec hw
    obtain rfl:oi=o2:=Option.some.inj (hoi.symm.trans ho2)
    have h4:=hdone e hee hbe
    rwa[hon] at h4
   have hlook:∀t∈oi.looksAt ops,∀j,j<N→aD_ ops j=some t→j<i∧j∈S:=fun t htl j hj hjt=>by
    have h1:=List.all_eq_true.1 (List.all_eq_true.1 hlk i (List.mem_range.2 hiN)) j (List.mem_range.2 hj)
    rw[hoi,hjt] at h1
    have h3:(oi.looksAt ops).contains t=true:=by simpa using htl
    simp only[h3,Bool.not_true,Bool.false_or,Bool.and_eq_true,decide_eq_true_eq] at h1
    exact⟨h1.1,(hS j).2 ⟨hj,hwait j h1.2⟩⟩
   by_cases hin:i<n∨n+m≤i
   ·obtain⟨o,ho,hy⟩:=hq vals W hIW i hiN hin
    obtain rfl:oi=o:=Option.some.inj (hoi.symm.trans ho)
    have hsm:=dS_ (ops:=ops) (o:=oi) (Region.noSelect_spec hsel i oi · · hoi) (a:=aA_ ops (vcF ops A n m vals) S a) (b:=A) (fun t htl=>by
     by_cases hx:∃j,j<N∧aD_ ops j=some t
     ·obtain⟨j,hj,hjt⟩:=hx
      obtain⟨h2,h3⟩:=hlook t htl j hj hjt
      have htz:=hslot j t hj hjt
      have hjq:n≤j∧j<n+m→fx (j-n)=true:=fun hjm=>by
       have h1:=List.all_eq_true.1 hqf i (List.mem_range.2 hiN)
       have h4:(decide (i<n)||decide (n+m≤i))=true:=by simpa using hin
       rw[h4,Bool.not_true,Bool.false_or] at h1
       have h5:=List.all_eq_true.1 h1 (j-n) (List.mem_range.2 (by omega))
       rw[hoi,show n+(j-n)=j by omega,hjt] at h5
       have h6:(oi.looksAt ops).contains t=true:=by simpa using htl
       simp only[h6,Bool.not_true,Bool.or_false] at h5
       exact h5
      rw[aO_,if_pos htz,bH_ hd hSN h3 hjt,qC_ (A:=A) hjt (by rw[hsA];exact htz)]
      unfold vcF
      by_cases hjm:n≤j∧j<n+m
      ·rw[if_pos hjm,hfix vals W hIW (j-n) ((hSv (j-n) (by omega)).1 (by rw[show n+(j-n)=j by omega];exact h3)) (hjq hjm),show n+(j-n)=j by omega]
       rfl
      ·rw[if_neg hjm]
       rfl
     ·rw[hA.t t (fun j hj _ hjt=>hx ⟨j,hj,hjt⟩),aO_,aU_ fun j hj hjt=>hx ⟨j,hSN j hj,hjt⟩]
      by_cases htl:t<a.tmps.size
      ·rw[if_pos htl];rfl
      ·rw[if_neg htl,Array.getElem?_eq_none (Nat.le_of_not_lt htl)])
    have hy':=hy.of_same hsm.1 hsm.2
    refine wpOp_of_qOp (C:=fun W'=>∃p:Regrown,W'=grow (redrawn W p.d) p.os) (K:=fun a1=>a1=(aA_ ops (vcF ops A n m vals) S a).put oi.dst (bC_ ops A i)) (regrown_of_below (Below.refl _ _)) ?_ (hy'.qOp hoi rfl)
    rintro a1 W1 ⟨⟨dq,osq⟩,hp⟩ rfl
    have e:(aA_ ops (vcF ops A n m vals) S a).put oi.dst (bC_ ops A i)=aA_ ops (vcF ops A n m vals) (i::S) a:=by
     show _=(aA_ ops (vcF ops A n m vals) S a).put (aD_ ops i) (vcF ops A n m vals i)
     rw[hdi]
     unfold vcF
     rw[if_neg (by omega)]
    rw[e]
    refine ih (i::S) vals _ W1 hc' hS' (inv.set hi hiN) hv (fun j hj=>?_) (by rw[hp];exact hI _ _ _ _ hIW)
    rw[←hSv j hj,List.mem_cons]
    exact⟨fun h=>h.resolve_left (by omega),.inr⟩
   ·obtain⟨k0,rfl⟩:∃k,i=n+k:=⟨i-n,by omega⟩
    have hk0:k0<m:=by omega
    have hkv:k0=vals.length:=by
     have h1:¬k0<vals.length:=fun h=>hiS ((hSv k0 hk0).2 h)
     rcases Nat.eq_zero_or_pos k0 with h0|h0
     ·omega
     ·have h2:=List.all_eq_true.1 hcn (n+k0) (List.mem_range.2 (by omega))
      rw[decide_eq_true (show n<n+k0 by omega)] at h2
      have h3:=hwait (n+k0-1) (by simpa using h2)
      have h4:=(hSv (k0-1) (by omega)).1 ((hS _).2 ⟨by omega,by rw[show n+(k0-1)=n+k0-1 by omega];exact h3⟩)
      omega
    subst hkv
    obtain⟨o,ho,hwa,hrn⟩:=hal vals W hk0 hIW
    obtain rfl:oi=o:=Option.some.inj (hoi.symm.trans ho)
    have hsm:=dS_ (ops:=ops) (o:=oi) (Region.noSelect_spec hsel _ oi · · hoi) (a:=aA_ ops (vcF ops A n m vals) S a) (b:=putF ops A n m vals) (fun t htl=>hslots t fun j hj hjt=>⟨(hlook t htl j hj hjt).2,by have:=(hlook t htl j hj hjt).1;omega⟩)
    have cont:∀v W',I (vals++[v]) W'→wpAny P .any ops Q F (listed.setIfInBounds (n+vals.length) true) ((aA_ ops (vcF ops A n m vals) S a).put oi.dst v) W':=by
     intro v W' hI2
     have hvS:∀j∈S,vcF ops A n m (vals++[v]) j=vcF ops A n m vals j:=fun j hj=>by
      unfold vcF
      by_cases h:n≤j∧j<n+m
      case neg=>rw[if_neg h,if_neg h]
      case pos=>
       rw[if_pos h,if_pos h]
       have:=(hSv (j-n) (by have:=hSN j hj;omega)).1 (by rw[show n+(j-n)=j by omega];exact hj)
       rw[List.getD_eq_getElem?_getD,List.getD_eq_getElem?_getD,List.getElem?_append_left this]
     have e:(aA_ ops (vcF ops A n m vals) S a).put oi.dst v=aA_ ops (vcF ops A n m (vals++[v])) ((n+vals.length)::S) a:=by
      show _=(aA_ ops (vcF ops A n m (vals++[v])) S a).put (aD_ ops (n+vals.length)) (vcF ops A n m (vals++[v]) (n+vals.length))
      rw[hdi]
      congr 1
      ·clear hS hS' hSN hiS hsm hslots hlook hSv
       induction S with
       | nil=>rfl
       | cons j S ihS=>
        show(aA_ ops (vcF ops A n m vals) S a).put _ _=(aA_ ops (vcF ops A n m (vals++[v])) S a).put _ _
        rw[ihS (fun j hj=>hvS j (List.mem_cons_of_mem _ hj)),hvS j List.mem_cons_self]
      ·unfold vcF
       rw[if_pos (by omega),show n+vals.length-n=vals.length by omega,List.getD_eq_getElem?_getD,List.getElem?_append_right (Nat.le_refl _),Nat.sub_self]
       rfl
     rw[e]
     refine ih ((n+vals.length)::S) (vals++[v]) _ _ hc' hS' (inv.set hi hiN) (by simp;omega) (fun j hj=>?_) hI2
     rw[List.mem_cons,hSv j hj,List.length_append]
     simp only[List.length_cons,List.length_nil]
     omega
    unfold wpOp
    simp only[hoi]
    rw[hsm.2,hwa,if_pos rfl]
    refine .inl ?_
    unfold Oper.wp
    rcases hrn with ⟨v,W',hrun,hI2⟩|⟨f,args,v,hrun,hc3⟩
    ·rw[hsm.1,hrun]
     exact cont v W' hI2
    ·rw[hsm.1,hrun]
     refine Calls.mono hc3 ?_
     rintro e W' ⟨rfl,hI2⟩
     exact cont v W' hI2
theorem eB_ {id:Nat} {l:List Oper} (n d1 d2 k r:Nat) (o1 o2:Oper) (v2:Value) (C:World→Prop) (D:Nat→World→Prop) (hm:P.follows .mixedOrders=true) (hB:qgB l.toArray n 2 (n+2+r) a.tmps.size (fun k=>k==1)=true)
  (i1:l.toArray[n]?=some o1∧o1.dst=some d1) (i2:l.toArray[n+1]?=some o2∧o2.dst=some d2)
  (hC:∀U V:World,C U→Below U.heap.size U V→C V) (hD:∀B (U V:World),D B U→Below U.heap.size U V→D B V) (hDC:∀B U,D B U→C U)
  (h0:∀W,Below w.heap.size w W→C W)
  (h:∀U:World,C U→wpQuiet P l.toArray (fun W=>∃p:Regrown,W=grow (redrawn U p.d) p.os) (fun a1=>wpQuiet P l.toArray (fun W=>∃p:Regrown,W=grow (redrawn U p.d) p.os) (fun a'=>a'=A) ((l.drop (n+2)).take r) (a1.put (some d2) v2)) (l.take n) a)
  (g1:Region.wanted o1 (yielded l.toArray A.tmps)=true) (g2:∀x,Region.wanted o2 (yielded l.toArray (A.put (some d1) x).tmps)=true)
  (s1:∀W,C W→∃W',(execOp A.eval o1).run P W=.ok (.value (.slice (some ⟨W.heap.size,0,none⟩) k k)) W'∧D W.heap.size W')
  (s2:∀B W,D B W→∃f args,(execOp (A.put (some d1) (.slice (some ⟨B,0,none⟩) k k)).eval o2).run P W=.ok (.enter f args) W∧Calls P f args W fun e W'=>e=.returned v2∧C W')
  (ht:∀B W,C W→wpList P l.toArray Q (l.drop (n+2+r)) ((A.put (some d2) v2).put (some d1) (.slice (some ⟨B,0,none⟩) k k)) W):(Code.region id l.toArray true).wp P Q a w:=by
 have hB':=hB
 simp only[qgB,Bool.and_eq_true,decide_eq_true_eq] at hB'
 obtain⟨⟨⟨⟨⟨⟨⟨⟨⟨⟨⟨hsel,hnN⟩,hNs⟩,hd⟩,hlk⟩,hqf⟩,hcn⟩,hed⟩,hz⟩,hsk⟩,hch⟩,hsq⟩:=hB'
 have hNs':n+2+r<l.length:=by simpa using hNs
 obtain⟨a1,a2⟩:=i1
 obtain⟨b1,b2⟩:=i2
 have e1:aD_ l.toArray n=some d1:=by unfold aD_;rw[a1];exact a2
 have e2:aD_ l.toArray (n+1)=some d2:=by unfold aD_;rw[b1];exact b2
 have hd2:d2<a.tmps.size:=by
  have:=List.all_eq_true.1 hz (n+1) (List.mem_range.2 (by omega))
  rw[e2] at this
  exact of_decide_eq_true this
 have tab:∀U:World,C U→(∀i,i<n+2+r→(i<n∨n+2≤i)→∃o,l.toArray[i]?=some o∧YieldsIn P l.toArray (fun W=>∃p:Regrown,W=grow (redrawn U p.d) p.os) o (bC_ l.toArray A i) A)∧FrG l.toArray n 2 (n+2+r) (fun k=>k==1) a A∧bC_ l.toArray A (n+1)=v2:=fun U hU=>by
  obtain⟨A1,hk,h3⟩:=fX_ _ _ (h U hU)
  obtain⟨q1,q2,q3,q4⟩:=hA_ (P:=P) (C:=fun W=>∃p:Regrown,W=grow (redrawn U p.d) p.os) (a:=a) (A:=A1) hd hz hlk hsel (l.take n) (List.range n) a rfl (by simp;omega) (fun k hk=>by
   have hk':k<n:=by simp at hk;omega
   rw[List.getD_eq_getElem?_getD]
   simp[hk']) List.pairwise_lt_range (fun j hj=>by have:=List.mem_range.1 hj;omega) h3
  have hps:(A1.put (some d2) v2).tmps.size=a.tmps.size:=by rw[←q3];simp[Act.put]
  obtain⟨r1,r2,r3,r4⟩:=hA_ (P:=P) (C:=fun W=>∃p:Regrown,W=grow (redrawn U p.d) p.os) (a:=a) (A:=A) hd hz hlk hsel ((l.drop (n+2)).take r) ((List.range r).map (n+2 + ·)) (A1.put (some d2) v2) hps (by simp;omega) (fun k hk=>by
   have hk':k<r:=by simp at hk;omega
   rw[List.getD_eq_getElem?_getD,List.getElem?_map,List.getElem?_range hk',List.getElem?_take,if_pos hk',List.getElem?_drop]
   simp) (by
   rw[List.pairwise_map]
   exact List.pairwise_lt_range.imp (fun h=>by omega)) (fun j hj=>by
   obtain⟨k,hk,rfl⟩:=List.mem_map.1 hj
   have:=List.mem_range.1 hk
   omega) hk
  have hmem:∀j∈(List.range r).map (n+2 + ·),n+2≤j∧j<n+2+r:=fun j hj=>by
   obtain⟨k,hk,rfl⟩:=List.mem_map.1 hj
   have:=List.mem_range.1 hk
   omega
  have hput:∀t:Tmp,t≠d2→(A1.put (some d2) v2).tmps[t]?=A1.tmps[t]?:=fun t ht=>by
   simp[Act.put,Array.getElem?_setIfInBounds_ne (Ne.symm ht)]
  have hA1:∀t:Tmp,t≠d2→(∀j,n+2≤j→j<n+2+r→aD_ l.toArray j≠some t)→A.tmps[t]?=A1.tmps[t]?:=fun t h1 h2=>by
   rw[r4 t (fun j hj=>h2 j (hmem j hj).1 (hmem j hj).2),hput t h1]
  have hv2:bC_ l.toArray A (n+1)=v2:=by
   unfold bC_
   rw[e2]
   show(A.tmps[d2]?).getD undef=v2
   rw[r4 d2 (fun j hj hjd=>by
    have:=cT_ hd (hmem j hj).2 (by omega) hjd e2
    have:=(hmem j hj).1
    omega)]
   show((A1.tmps.setIfInBounds d2 v2)[d2]?).getD undef=v2
   rw[Array.getElem?_setIfInBounds,if_pos rfl,if_pos (by rw[q3];exact hd2)]
   rfl
  refine⟨fun i hi hin=>?_,⟨by rw[r2];exact q2,by rw[r3,hps],fun t ht=>?_⟩,hv2⟩
  ·rcases hin with hin|hin
   ·obtain⟨o,ho,hy⟩:=q1 i (List.mem_range.2 hin)
    have hsame:∀t:Tmp,(∀k,k<n+2+r→aD_ l.toArray k=some t→k<n)→A.tmps[t]?=A1.tmps[t]?:=fun t ht=>hA1 t (fun e=>by
     have:=ht (n+1) (by omega) (by rw[e2,e])
     omega) (fun j h1 h2 hjt=>by have:=ht j h2 hjt;omega)
    have hvv:bC_ l.toArray A i=bC_ l.toArray A1 i:=by
     obtain⟨t,hit⟩:=jL_ hd (i:=i) (by omega)
     unfold bC_
     rw[hit]
     show(A.tmps[t]?).getD undef=(A1.tmps[t]?).getD undef
     rw[hsame t (fun k hk hkt=>by have:=cT_ hd hk (by omega) hkt hit;omega)]
    refine⟨o,ho,?_⟩
    rw[hvv]
    have hsm:=dS_ (ops:=l.toArray) (o:=o) (Region.noSelect_spec hsel _ o · · ho) (a:=A) (b:=A1) (fun t htl=>hsame t fun k hk hkt=>by
     have h1:=List.all_eq_true.1 (List.all_eq_true.1 hlk i (List.mem_range.2 (by omega))) k (List.mem_range.2 hk)
     rw[ho,hkt] at h1
     have h3:(o.looksAt l.toArray).contains t=true:=by simpa using htl
     simp only[h3,Bool.not_true,Bool.false_or,Bool.and_eq_true,decide_eq_true_eq] at h1
     omega)
    exact hy.of_same hsm.1 hsm.2
   ·exact r1 i (List.mem_map.2 ⟨i-(n+2),List.mem_range.2 (by omega),by omega⟩)
  ·rw[hA1 t (fun e=>ht (n+1) (by omega) (.inr (.inr (by simp))) (by rw[e2,e])) (fun j h1 h2=>ht j h2 (.inr (.inl h1)))]
   exact q4 t (fun j hj=>ht j (by have:=List.mem_range.1 hj;omega) (.inl (List.mem_range.1 hj)))
 have p0:putF l.toArray A n 2 []=A:=rfl
 have p1:∀x,putF l.toArray A n 2 [x]=A.put (some d1) x:=fun x=>by
  show A.put (aD_ l.toArray n) (vcF l.toArray A n 2 [x] n)=_
  unfold vcF
  rw[e1,if_pos (by omega),Nat.sub_self]
  rfl
 have p2:∀x y,putF l.toArray A n 2 [x,y]=(A.put (some d2) y).put (some d1) x:=fun x y=>by
  show(A.put (aD_ l.toArray (n+1)) (vcF l.toArray A n 2 [x,y] (n+1))).put (aD_ l.toArray n) (vcF l.toArray A n 2 [x,y] n)=_
  unfold vcF
  rw[e1,e2,if_pos (by omega),if_pos (by omega),Nat.sub_self,show n+1-n=1 by omega]
  rfl
 have hw0:C { w with drawn:=w.drawn+1 }:=h0 _ ⟨rfl,rfl,rfl,Nat.le_refl _,fun _ _=>rfl⟩
 have t0:=tab _ hw0
 let I:List Value→World→Prop:=fun vals W=>match vals with | []=>C W | [x]=>∃B,x=.slice (some ⟨B,0,none⟩) k k∧D B W | [x,v]=>∃B,x=.slice (some ⟨B,0,none⟩) k k∧v=v2∧C W|_=>False
 have hIC:∀vals W,I vals W→C W:=fun vals W hI=>by
  match vals,hI with
  | [],hI=>exact hI
  | [x],⟨B,e,hI⟩=>exact hDC B W hI
  | [x,v],⟨B,e,_,hI⟩=>exact hI
 refine wp_region_any hm ?_
 exact yL_ (P:=P) (Q:=Q) (a:=a) (A:=A) (I:=I) (fx:=fun k=>k==1) hB (fun vals W hI k hk hfk=>by
  obtain rfl:k=1:=by simpa using hfk
  match vals,hI,hk with
  | [],hI,hk=>simp at hk
  | [x],hI,hk=>simp at hk
  | [x,v],⟨B,e,hv,hI⟩,hk=>
   show v=_
   rw[hv,t0.2.2]) (fun vals W d os hI=>by
  have hb:=below_regrown W d os
  match vals,hI with
  | [],hI=>exact hC W _ hI hb
  | [x],⟨B,e,hI⟩=>exact⟨B,e,hD B W _ hI hb⟩
  | [x,v],⟨B,e,hv,hI⟩=>exact⟨B,e,hv,hC W _ hI hb⟩) (fun vals W hl hI=>by
  match vals,hl,hI with
  | [],_,hI=>
   obtain⟨W',hr,hd⟩:=s1 W hI
   exact⟨o1,a1,g1,.inl ⟨_,W',hr,W.heap.size,rfl,hd⟩⟩
  | [x],_,⟨B,e,hI⟩=>
   subst e
   obtain⟨f,args,hr,hc⟩:=s2 B W hI
   rw[p1]
   exact⟨o2,b1,g2 _,.inr ⟨f,args,v2,hr,hc.mono fun e W' he=>⟨he.1,B,rfl,rfl,he.2⟩⟩⟩) (fun vals U hU i hi hq=>(tab U (hIC vals U hU)).1 i hi hq) t0.2.1 (fun vals W hl hI=>by
  match vals,hl,hI with
  | [x,v],_,hI2=>
   obtain⟨B,e,hv,hI3⟩:=hI2
   rw[e,hv,p2]
   exact ht B W hI3) l.toArray.size [] [] (Array.replicate l.toArray.size false) { w with drawn:=w.drawn+1 } (by simp)
  (fun i=>⟨fun hi=>(by cases hi),fun hi=>(by rw[getD_replicate_false] at hi;cases hi.2)⟩)
  ⟨by simp,fun j oj _ hl=>(by rw[getD_replicate_false] at hl;cases hl),fun t _ ht=>getD_in (by simpa using ht) (getD_replicate_false _ _)⟩
  (Nat.zero_le _) (fun j _=>⟨fun h=>(by cases h),fun h=>(by cases h)⟩) hw0
end
end Go.Proofs.YtdkaohphbgdkpaaGreatDoor
