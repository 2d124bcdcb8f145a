/- - -/
import Derived.StillTail
import Derived.BigQuiet
import Derived.Lib.QuietBelow
import Derived.Test.YtlikmmpmnaaifaaGreatDoorZNum
set_option maxHeartbeats 40000000
set_option maxRecDepth 1000000
namespace Go.Proofs.YtlikmmpmnaaifaaGreatDoor
open Go.RowKit Go.Shelf Go.Sort
section
variable (ops:Array Oper)
def bI_ (i:Nat):Option Tmp:=(ops[i]?).bind (·.dst)
def aP_ (val:Nat→Value) (S:List Nat) (a:Act):Act:=S.foldr (fun i a=>a.put (bI_ ops i) (val i)) a
def vS_ (val:Nat→Value) (S:List Nat) (t:Tmp):Option Value:=(S.find? fun i=>bI_ ops i==some t).map val
theorem cT_ (val:Nat→Value) (S:List Nat) (a:Act):(aP_ ops val S a).defers=a.defers:=by
 induction S with
 | nil=>rfl
 | cons i S ih=>
  show((aP_ ops val S a).put _ _).defers=_
  rw[←ih]
  cases bI_ ops i <;> rfl
theorem fG_ (val:Nat→Value) (S:List Nat) (a:Act):(aP_ ops val S a).tmps.size=a.tmps.size:=by
 induction S with
 | nil=>rfl
 | cons i S ih=>
  show((aP_ ops val S a).put _ _).tmps.size=_
  rw[←ih]
  cases bI_ ops i <;> simp[Act.put]
theorem bV_ (val:Nat→Value) (S:List Nat) (a:Act) (t:Tmp):(aP_ ops val S a).tmps[t]?=if t<a.tmps.size then ((vS_ ops val S t).or a.tmps[t]?) else none:=by
 induction S with
 | nil=>
  show a.tmps[t]?=_
  by_cases h:t<a.tmps.size
  ·rw[if_pos h];rfl
  ·rw[if_neg h];exact Array.getElem?_eq_none (Nat.le_of_not_lt h)
 | cons i S ih=>
  show((aP_ ops val S a).put (bI_ ops i) (val i)).tmps[t]?=_
  unfold vS_
  rw[List.find?_cons]
  cases hd:bI_ ops i with
  | none=>
   rw[show((none:Option Tmp)==some t)=false from rfl]
   exact ih
  | some d=>
   show((aP_ ops val S a).tmps.setIfInBounds d (val i))[t]?=_
   rw[Array.getElem?_setIfInBounds,fG_]
   by_cases h:d=t
   ·subst h
    rw[if_pos rfl,show(some d==some d)=true by simp]
    rfl
   ·rw[if_neg h,show(some d==some t)=false by simpa using h]
    exact ih
theorem aIK {a b:Act} (hd:a.defers=b.defers) (ht:∀t:Nat,a.tmps[t]?=b.tmps[t]?):a=b:=by
 obtain⟨t1,d1⟩:=a
 obtain⟨t2,d2⟩:=b
 obtain rfl:d1=d2:=hd
 obtain rfl:t1=t2:=Array.ext_getElem? ht
 rfl
def aBC (N:Nat):Bool:=(List.range N).all fun i=>(bI_ ops i).isSome&&(List.range N).all fun j=>i==j||bI_ ops i != bI_ ops j
def lookB (n N:Nat):Bool:=(List.range N).all fun i=>(List.range N).all fun j=>match ops[i]?,bI_ ops j with
 | some o,some d=>!(o.looksAt ops).contains d||(decide (j<i)&&decide (j<n)&&Region.waitsFor .any ops i j)
 | _,_=>false
def edgeB (N:Nat):Bool:=(List.range N).all fun i=>match ops[i]? with
 | some o=>o.after.all fun e=>!Region.binds .any e||decide (e.on<i)
 | none=>false
def aNX (N sz:Nat):Bool:=(List.range N).all fun i=>match bI_ ops i with
 | some d=>decide (d<sz)
 | none=>false
def qtB (n N sz:Nat):Bool:=
 Region.noSelect ops&&decide (n≤N)&&decide (N<ops.size)&&aBC ops N&&lookB ops n N&&edgeB ops N&&aNX ops N sz&&Region.sinkB .any ops N&&Region.chainB .any ops N&&Region.seqB .any ops (ops.size-N) N (Array.replicate N true++Array.replicate (ops.size-N) false)
variable {ops}
theorem jG_ {N:Nat} (h:aBC ops N=true) {i j:Nat} (hi:i<N) (hj:j<N) {t:Tmp} (h1:bI_ ops i=some t) (h2:bI_ ops j=some t):i=j:=by
 have:=List.all_eq_true.1 h i (List.mem_range.2 hi)
 simp only[Bool.and_eq_true] at this
 have:=List.all_eq_true.1 this.2 j (List.mem_range.2 hj)
 simpa[h1,h2] using this
theorem tY_ {N:Nat} (h:aBC ops N=true) {i:Nat} (hi:i<N):∃t,bI_ ops i=some t:=by
 have:=List.all_eq_true.1 h i (List.mem_range.2 hi)
 simp only[Bool.and_eq_true] at this
 exact Option.isSome_iff_exists.1 this.1
theorem cV_ {N:Nat} (h:aBC ops N=true) {val:Nat→Value} {S:List Nat} (hS:∀i∈S,i<N) {j:Nat} (hj:j∈S) {t:Tmp} (ht:bI_ ops j=some t):vS_ ops val S t=some (val j):=by
 unfold vS_
 cases hf:S.find? (fun i=>bI_ ops i==some t) with
 | none=>
  have:=List.find?_eq_none.1 hf j hj
  simp[ht] at this
 | some i=>
  have h1:=List.find?_some hf
  have h2:=List.mem_of_find?_eq_some hf
  simp only[beq_iff_eq] at h1
  rw[jG_ h (hS i h2) (hS j hj) h1 ht]
  rfl
theorem cE_ {val:Nat→Value} {S:List Nat} {t:Tmp} (h:∀i∈S,bI_ ops i≠some t):vS_ ops val S t=none:=by
 unfold vS_
 rw[List.find?_eq_none.2 (fun i hi=>by simpa using h i hi)]
 rfl
theorem rR_ {o:Oper} (hs:∀cs b,o.op≠.select cs b) {a b:Act} (h:∀t∈o.looksAt ops,a.tmps[t]?=b.tmps[t]?) :
  execOp a.eval o=execOp b.eval o∧Region.wanted o (yielded ops a.tmps)=Region.wanted o (yielded ops b.tmps):=by
 refine⟨execOp_congr o hs fun x hx=>?_,?_⟩
 ·cases x with
  | tmp t=>
   have:=h t (List.mem_append_left _ (List.mem_filterMap.2 ⟨.tmp t,by simpa using hx,rfl⟩))
   show a.tmps.getD t undef=b.tmps.getD t undef
   rw[Array.getD_eq_getD_getElem?,Array.getD_eq_getD_getElem?,this]
  | _=>rfl
 ·unfold Region.wanted
  cases hg:o.guard with
  | none=>rfl
  | some gw=>
   obtain⟨g,want⟩:=gw
   have hy:yielded ops a.tmps g=yielded ops b.tmps g:=by
    unfold yielded
    cases ht:(ops[g]?).bind (·.dst) with
    | none=>rfl
    | some t=>
     have:=h t (by simp[Oper.looksAt,hg,ht])
     simp only[Option.bind_some,this]
   simp only[hy]
theorem sU_ (val:Nat→Value) (k:Nat) (a:Act):aP_ ops val (List.range (k+1)).reverse a=(aP_ ops val (List.range k).reverse a).put (bI_ ops k) (val k):=by
 rw[List.range_succ,List.reverse_append]
 rfl
variable {P:Program} {C:World→Prop}
theorem qS_ {A:Act} {d:Tmp} : ∀(l:List Oper) (a:Act),(∀o∈l,o.dst≠some d)→wpQuiet P ops C (fun a'=>a'=A) l a→A.tmps[d]?=a.tmps[d]?
 | [],a,_,h=>by
  obtain rfl:a=A:=h
  rfl
 | o::l,a,hd,h=>by
  have key:∀v,(a.put o.dst v).tmps[d]?=a.tmps[d]?:=fun v=>by
   cases ho:o.dst with
   | none=>rfl
   | some e=>
    have:e≠d:=fun x=>hd o List.mem_cons_self (by rw[ho,x])
    simp[Act.put,Array.getElem?_setIfInBounds_ne this]
  have hd':∀o∈l,o.dst≠some d:=fun o ho=>hd o (List.mem_cons_of_mem _ ho)
  unfold wpQuiet at h
  split at h
  ·obtain⟨v,_,h2⟩:=h
   rw[qS_ l _ hd' h2,key]
  ·rw[qS_ l _ hd' h,key]
def bN_ (ops:Array Oper) (A:Act) (i:Nat):Value:=(A.tmps[(bI_ ops i).getD 0]?).getD undef
theorem mJ_ {n N:Nat} {a A:Act} (hd:aBC ops N=true) (hz:aNX ops N a.tmps.size=true) (hnN:n≤N):∀(l:List Oper) (k:Nat),(∀j,j<l.length→l[j]?=ops[k+j]?)→k+l.length=n→
  wpQuiet P ops C (fun a'=>a'=A) l (aP_ ops (bN_ ops A) (List.range k).reverse a)→
  (∀i,k≤i→i<n→∃o,ops[i]?=some o∧YieldsIn P ops C o (bN_ ops A i) (aP_ ops (bN_ ops A) (List.range i).reverse a))∧A=aP_ ops (bN_ ops A) (List.range n).reverse a
 | [],k,_,hk,h=>by
  obtain rfl:k=n:=by simpa using hk
  exact⟨fun i h1 h2=>by omega,Eq.symm h⟩
 | o::l,k,hl,hk,h=>by
  simp only[List.length_cons] at hk
  have h0:ops[k]?=some o:=by simpa using (hl 0 (by simp)).symm
  have hst:qOp P ops C k (wpQuiet P ops C (fun a'=>a'=A) l) (aP_ ops (bN_ ops A) (List.range k).reverse a):=by unfold qOp;simp only[h0];exact h
  obtain⟨v,hy,hK⟩:=yieldsIn_of_qOp h0 hst
  obtain⟨d,hdk⟩:=tY_ hd (i:=k) (by omega)
  have hod:o.dst=some d:=by unfold bI_ at hdk;rw[h0] at hdk;exact hdk
  have hlt:d<a.tmps.size:=by
   have:=List.all_eq_true.1 hz k (List.mem_range.2 (by omega))
   simpa[hdk] using this
  have hne:∀o'∈l,o'.dst≠some d:=fun o' ho' hx=>by
   obtain⟨j,hj,rfl⟩:=List.mem_iff_getElem.1 ho'
   have h1:=hl (j+1) (by simp;omega)
   rw[List.getElem?_cons_succ,List.getElem?_eq_getElem hj] at h1
   have h2:bI_ ops (k+(j+1))=some d:=by unfold bI_;rw[←h1];exact hx
   have:=jG_ hd (by omega) (by omega) hdk h2
   omega
  have hv:bN_ ops A k=v:=by
   unfold bN_
   rw[hdk]
   show(A.tmps[d]?).getD undef=v
   rw[qS_ l _ hne hK,hod]
   show(((aP_ ops (bN_ ops A) (List.range k).reverse a).tmps.setIfInBounds d v)[d]?).getD undef=v
   rw[Array.getElem?_setIfInBounds,if_pos rfl,fG_,if_pos hlt]
   rfl
  rw[←hv] at hy hK
  have e:=sU_ (ops:=ops) (bN_ ops A) k a
  rw[hdk,←hod] at e
  rw[←e] at hK
  obtain⟨h1,h2⟩:=mJ_ hd hz hnN l (k+1) (fun j hj=>by have:=hl (j+1) (by simp;omega);simpa[Nat.add_assoc,Nat.add_comm 1 j] using this) (by omega) hK
  refine⟨fun i hi1 hi2=>?_,h2⟩
  by_cases hik:i=k
  ·subst hik
   exact⟨o,h0,hy⟩
  ·exact h1 i (by omega) hi2
end
section
variable {P:Program} {ops:Array Oper} {Q:Exit→Act→World→Prop} {w:World} {a A:Act} {n:Nat} {objs:List (List Value×TypeId×(Nat→Value))}
def vfOf (objs:List (List Value×TypeId×(Nat→Value))) (k B:Nat):Value:=match objs[k]? with
 | some x=>x.2.2 B
 | none=>undef
def vgOf (ops:Array Oper) (A:Act) (n:Nat) (objs:List (List Value×TypeId×(Nat→Value))) (g:Nat→Nat) (i:Nat):Value:=if i<n then bN_ ops A i else vfOf objs (i-n) (g i)
theorem kO_ {N:Nat} (he:edgeB ops N=true) {listed:Array Bool} (hN:N≤ops.size) (hsz:listed.size=ops.size) (h:∃i,i<N∧listed.getD i false=false):Region.ready .any ops listed≠[]:=by
 obtain⟨i,hi⟩:=h
 induction i using Nat.strongRecOn with
 | _ i ih=>
  by_cases hx:∃j,j<i∧j<N∧listed.getD j false=false
  ·obtain⟨j,h1,h2⟩:=hx
   exact ih j h1 h2
  ·intro h0
   have hio:i<ops.size:=by omega
   have:i∈Region.ready .any ops listed:=mem_ready.2 ⟨getD_in (by omega) hi.2,ops[i],Array.getElem?_eq_getElem hio,fun e hee hb=>by
    have h1:=List.all_eq_true.1 he i (List.mem_range.2 hi.1)
    rw[Array.getElem?_eq_getElem hio] at h1
    have h2:=Array.all_eq_true_iff_forall_mem.1 h1 e hee
    have h3:e.on<i:=by simpa[hb] using h2
    cases hl:listed.getD e.on false with
    | true=>rfl
    | false=>exact absurd ⟨e.on,h3,by omega,hl⟩ hx⟩
   rw[h0] at this
   cases this
theorem kB_:∀(l:List Bool) (i:Nat),l[i]?=some false→(l.set i true).count false+1=l.count false
 | [],i,h=>by simp at h
 | b::l,0,h=>by
  simp at h
  subst h
  simp
 | b::l,i+1,h=>by
  have:=kB_ l i (by simpa using h)
  simp only[List.set_cons_succ,List.count_cons]
  omega
theorem eE_ {listed:Array Bool} {i:Nat} (h:listed.getD i true=false):listed.toList[i]?=some false:=by
 unfold Array.getD at h
 split at h
 ·rename_i hi
  rw[Array.getElem?_toList,Array.getElem?_eq_getElem hi]
  simp at h
  rw[h]
 ·cases h
theorem aIQ (hB:qtB ops n (n+objs.length) a.tmps.size=true)
  (hal:∀k x,objs[k]?=some x→∃o,ops[n+k]?=some o∧Region.wanted o (yielded ops A.tmps)=true∧∀(W:World),(execOp A.eval o).run P W=.ok (.value (x.2.2 W.heap.size)) (W.alloc (.cells x.1.toArray x.2.1)))
  (hq:∀U,Below w.heap.size w U→∀i,i<n→∃o,ops[i]?=some o∧YieldsIn P ops (fun W=>∃p:Regrown,W=grow (redrawn U p.d) p.os) o (bN_ ops A i) (aP_ ops (bN_ ops A) (List.range i).reverse a))
  (hA:A=aP_ ops (bN_ ops A) (List.range n).reverse a)
  (ht:∀(g:Nat→Nat) (W:World),Below w.heap.size w W→(∀k x,objs[k]?=some x→w.heap.size≤g (n+k)∧ArAt (g (n+k)) x.1 W)→(∀i j,i<objs.length→j<objs.length→g (n+i)=g (n+j)→i=j)→
   wpList P ops Q (ops.toList.drop (n+objs.length)) (aP_ ops (vgOf ops A n objs g) ((List.range objs.length).map (n + ·)) A) W) :
  ∀(F:Nat) (S:List Nat) (g:Nat→Nat) (listed:Array Bool) (W:World),listed.toList.count false=F→(∀i,i∈S↔(i<n+objs.length∧listed.getD i false=true))→HeadInv .any ops (n+objs.length) listed→Below w.heap.size w W→
   (∀k x,objs[k]?=some x→n+k∈S→w.heap.size≤g (n+k)∧ArAt (g (n+k)) x.1 W)→(∀i j,n+i∈S→n+j∈S→g (n+i)=g (n+j)→i=j)→
   wpAny P .any ops Q F listed (aP_ ops (vgOf ops A n objs g) S a) W:=by
 simp only[qtB,Bool.and_eq_true,decide_eq_true_eq] at hB
 obtain⟨⟨⟨⟨⟨⟨⟨⟨⟨hsel,hnN⟩,hNs⟩,hd⟩,hlk⟩,hed⟩,hz⟩,hsk⟩,hch⟩,hsq⟩:=hB
 generalize hN:n+objs.length=N at *
 intro F
 induction F with
 | zero=>
  intro S g listed W hc hS inv hb _ _
  have h1:=inv.tail N (Nat.le_refl _) hNs
  have:=List.count_pos_iff.2 (List.mem_of_getElem? (eE_ h1))
  omega
 | succ F ih=>
  intro S g listed W hc hS inv hb hG hinj
  have hSN:∀i∈S,i<N:=fun i hi=>((hS i).1 hi).1
  by_cases hall:∀i,i<N→listed.getD i false=true
  ·have hlisted:listed=Array.replicate N true++Array.replicate (ops.size-N) false:=by
    apply Array.ext_getElem?
    intro i
    rw[Array.getElem?_append,Array.size_replicate]
    split
    ·rename_i h
     have h1:=hall i h
     have h2:i<listed.size:=by rw[inv.size];omega
     rw[Array.getElem?_replicate,if_pos h,Array.getElem?_eq_getElem h2]
     simp[Array.getD,h2] at h1
     rw[h1]
    ·rename_i h
     rw[Array.getElem?_replicate]
     by_cases h3:i<ops.size
     ·rw[if_pos (by omega)]
      have h1:=inv.tail i (by omega) h3
      have h2:i<listed.size:=by rw[inv.size];omega
      rw[Array.getElem?_eq_getElem h2]
      simp[Array.getD,h2] at h1
      rw[h1]
     ·rw[if_neg (by omega),Array.getElem?_eq_none (by rw[inv.size];omega)]
   have hF:F+1=(ops.toList.drop N).length:=by
    rw[←hc,hlisted]
    simp[List.count_replicate]
   rw[hF]
   have e:aP_ ops (vgOf ops A n objs g) S a=aP_ ops (vgOf ops A n objs g) ((List.range objs.length).map (n + ·)) A:=by
    refine aIK (by rw[cT_,cT_,hA,cT_]) fun t=>?_
    rw[bV_,bV_]
    have hsz:A.tmps.size=a.tmps.size:=by rw[hA,fG_]
    have hAt:A.tmps[t]?=_:=(congrArg (fun x:Act=>x.tmps[t]?) hA).trans (bV_ _ _ _ _ _)
    rw[hsz]
    split
    ·rename_i htl
     rw[if_pos htl] at hAt
     rw[hAt]
     have hM:∀i∈(List.range objs.length).map (n + ·),i<N:=fun i hi=>by
      obtain⟨k,hk,rfl⟩:=List.mem_map.1 hi
      have:=List.mem_range.1 hk
      omega
     by_cases hx:∃j,j<N∧bI_ ops j=some t
     ·obtain⟨j,hj,hjt⟩:=hx
      rw[cV_ hd hSN ((hS j).2 ⟨hj,hall j hj⟩) hjt]
      by_cases hjn:j<n
      ·rw[cE_ (S:=(List.range objs.length).map (n + ·)) (fun i hi hit=>by
        have:=jG_ hd hj (hM i hi) hjt hit
        obtain⟨k,hk,rfl⟩:=List.mem_map.1 hi
        omega),cV_ (S:=(List.range n).reverse) hd (fun i hi=>by have:=List.mem_range.1 (List.mem_reverse.1 hi);omega) (List.mem_reverse.2 (List.mem_range.2 hjn)) hjt]
       unfold vgOf
       rw[if_pos hjn]
       rfl
      ·rw[cV_ (S:=(List.range objs.length).map (n + ·)) hd hM (j:=j) (List.mem_map.2 ⟨j-n,List.mem_range.2 (by omega),by omega⟩) hjt]
       rfl
     ·have hn':∀(S':List Nat),(∀i∈S',i<N)→∀val,vS_ ops val S' t=none:=fun S' h val=>cE_ fun i hi hit=>hx ⟨i,h i hi,hit⟩
      rw[hn' S hSN,hn' _ hM,hn' (List.range n).reverse (fun i hi=>by have:=List.mem_range.1 (List.mem_reverse.1 hi);omega)]
      rfl
    ·rfl
   rw[e]
   have hsq':Region.seqB .any ops (ops.toList.drop N).length N listed=true:=by rw[hlisted];simpa using hsq
   exact wpAny_of_seq (md:=.any) (ops.toList.drop N) N listed _ W (fun j=>by simp[List.getElem?_drop]) hsq' (ht g W hb (fun k x hk=>hG k x hk ((hS _).2 ⟨by have:=(List.getElem?_eq_some_iff.1 hk).1;omega,hall _ (by have:=(List.getElem?_eq_some_iff.1 hk).1;omega)⟩)) (fun i j hi hj h=>hinj i j ((hS _).2 ⟨by omega,hall _ (by omega)⟩) ((hS _).2 ⟨by omega,hall _ (by omega)⟩) h))
  ·obtain⟨i0,hi0⟩:∃i,i<N∧listed.getD i false=false:=by
    refine Classical.byContradiction fun hx=>hall fun i hi=>?_
    cases hl:listed.getD i false with
    | true=>rfl
    | false=>exact absurd ⟨i,hi,hl⟩ hx
   refine⟨fun h0=>absurd h0 (kO_ hed (Nat.le_of_lt hNs) inv.size ⟨i0,hi0⟩),fun i hi=>?_⟩
   have hiN:i<N:=by
    rcases Nat.lt_or_ge i N with h|h
    ·exact h
    ·exact absurd hi (tail_waits hsk hch hNs inv _ i0 rfl hi0.1 (getD_in (by rw[inv.size];omega) hi0.2) i h)
   obtain⟨hun,oi,hoi,hdone⟩:=mem_ready.1 hi
   have hisz:i<listed.size:=by rw[inv.size];omega
   have hiS:i ∉ S:=fun h=>by
    have:=((hS i).1 h).2
    rw[getD_both hun] at this
    cases this
   have hS':∀j,j∈i::S↔(j<N∧(listed.setIfInBounds i true).getD j false=true):=fun j=>by
    rw[List.mem_cons,hS j]
    by_cases hij:i=j
    ·subst hij
     simp[hiN,Array.getD,hisz]
    ·rw[getD_set_ne false hij]
     exact⟨fun h=>h.resolve_left (Ne.symm hij),.inr⟩
   have hc':(listed.setIfInBounds i true).toList.count false=F:=by
    have:=kB_ _ _ (eE_ hun)
    rw[Array.toList_setIfInBounds]
    omega
   have hdi:bI_ ops i=oi.dst:=by unfold bI_;rw[hoi];rfl
   by_cases hin:i<n
   ·obtain⟨o,ho,hy⟩:=hq W hb i hin
    obtain rfl:oi=o:=Option.some.inj (hoi.symm.trans ho)
    have hsm:=rR_ (ops:=ops) (o:=oi) (Region.noSelect_spec hsel i oi · · hoi) (a:=aP_ ops (vgOf ops A n objs g) S a) (b:=aP_ ops (bN_ ops A) (List.range i).reverse a) (fun t htl=>by
     rw[bV_,bV_]
     congr 2
     have hR:∀j∈(List.range i).reverse,j<N:=fun j hj=>by have:=List.mem_range.1 (List.mem_reverse.1 hj);omega
     by_cases hx:∃j,j<N∧bI_ ops j=some t
     ·obtain⟨j,hj,hjt⟩:=hx
      have h1:=List.all_eq_true.1 (List.all_eq_true.1 hlk i (List.mem_range.2 (Nat.lt_of_lt_of_le hin hnN))) j (List.mem_range.2 hj)
      rw[hoi,hjt] at h1
      have h2:j<i∧Region.waitsFor .any ops i j=true:=by
       have h3:(oi.looksAt ops).contains t=true:=by simpa using htl
       simp only[h3,Bool.not_true,Bool.false_or,Bool.and_eq_true,decide_eq_true_eq] at h1
       exact⟨h1.1.1,h1.2⟩
      obtain⟨o2,ho2,e,hee,hbe,hon⟩:=Region.waitsFor_spec h2.2
      obtain rfl:oi=o2:=Option.some.inj (hoi.symm.trans ho2)
      have h4:=hdone e hee hbe
      rw[hon] at h4
      rw[cV_ hd hSN ((hS j).2 ⟨hj,h4⟩) hjt,cV_ hd hR (List.mem_reverse.2 (List.mem_range.2 h2.1)) hjt]
      unfold vgOf
      rw[if_pos (by omega)]
     ·rw[cE_ fun j hj hjt=>hx ⟨j,hSN j hj,hjt⟩,cE_ fun j hj hjt=>hx ⟨j,hR j hj,hjt⟩])
    have hy':=hy.of_same hsm.1 hsm.2
    refine wpOp_of_qOp (C:=fun W'=>∃p:Regrown,W'=grow (redrawn W p.d) p.os) (K:=fun a1=>a1=(aP_ ops (vgOf ops A n objs g) S a).put oi.dst (bN_ ops A i)) (regrown_of_below (Below.refl _ _)) ?_ (hy'.qOp hoi rfl)
    rintro a1 W1 ⟨⟨dq,osq⟩,hp⟩ rfl
    have hbW:Below W.heap.size W W1:=by rw[hp];exact below_regrown W dq osq
    have e:(aP_ ops (vgOf ops A n objs g) S a).put oi.dst (bN_ ops A i)=aP_ ops (vgOf ops A n objs g) (i::S) a:=by
     show _=(aP_ ops (vgOf ops A n objs g) S a).put (bI_ ops i) (vgOf ops A n objs g i)
     rw[hdi]
     unfold vgOf
     rw[if_pos hin]
    rw[e]
    exact ih (i::S) g _ W1 hc' hS' (inv.set hi hiN) (hb.trans (hbW.mono hb.size)) (fun k x hk hm=>by
     have:=hG k x hk ((List.mem_cons.1 hm).resolve_left (by omega))
     exact⟨this.1,this.2.below hbW⟩) (fun j1 j2 h1 h2 h=>hinj j1 j2 ((List.mem_cons.1 h1).resolve_left (by omega)) ((List.mem_cons.1 h2).resolve_left (by omega)) h)
   ·obtain⟨k0,rfl⟩:∃k,i=n+k:=⟨i-n,by omega⟩
    have hk0:k0<objs.length:=by omega
    obtain⟨o,ho,hwa,hrun⟩:=hal k0 _ (List.getElem?_eq_getElem hk0)
    obtain rfl:oi=o:=Option.some.inj (hoi.symm.trans ho)
    have hsm:=rR_ (ops:=ops) (o:=oi) (Region.noSelect_spec hsel (n+k0) oi · · hoi) (a:=aP_ ops (vgOf ops A n objs g) S a) (b:=A) (fun t htl=>by
     have hAt:A.tmps[t]?=_:=(congrArg (fun x:Act=>x.tmps[t]?) hA).trans (bV_ _ _ _ _ _)
     rw[hAt,bV_]
     congr 2
     have hR:∀j∈(List.range n).reverse,j<N:=fun j hj=>by have:=List.mem_range.1 (List.mem_reverse.1 hj);omega
     by_cases hx:∃j,j<N∧bI_ ops j=some t
     ·obtain⟨j,hj,hjt⟩:=hx
      have h1:=List.all_eq_true.1 (List.all_eq_true.1 hlk (n+k0) (List.mem_range.2 hiN)) j (List.mem_range.2 hj)
      rw[hoi,hjt] at h1
      have h2:j<n∧Region.waitsFor .any ops (n+k0) j=true:=by
       have h3:(oi.looksAt ops).contains t=true:=by simpa using htl
       simp only[h3,Bool.not_true,Bool.false_or,Bool.and_eq_true,decide_eq_true_eq] at h1
       exact⟨h1.1.2,h1.2⟩
      obtain⟨o2,ho2,e,hee,hbe,hon⟩:=Region.waitsFor_spec h2.2
      obtain rfl:oi=o2:=Option.some.inj (hoi.symm.trans ho2)
      have h4:=hdone e hee hbe
      rw[hon] at h4
      rw[cV_ hd hSN ((hS j).2 ⟨hj,h4⟩) hjt,cV_ (S:=(List.range n).reverse) hd hR (List.mem_reverse.2 (List.mem_range.2 h2.1)) hjt]
      unfold vgOf
      rw[if_pos h2.1]
     ·rw[cE_ fun j hj hjt=>hx ⟨j,hSN j hj,hjt⟩,cE_ (S:=(List.range n).reverse) fun j hj hjt=>hx ⟨j,hR j hj,hjt⟩])
    unfold wpOp
    simp only[hoi]
    rw[hsm.2,hwa,if_pos rfl]
    refine .inl ?_
    unfold Oper.wp
    rw[hsm.1,hrun]
    show wpAny _ _ _ _ _ _ ((aP_ ops (vgOf ops A n objs g) S a).put oi.dst _) _
    have hgS:∀j∈S,j≠n+k0:=fun j hj h=>hiS (h▸hj)
    have e:(aP_ ops (vgOf ops A n objs g) S a).put oi.dst (objs[k0].2.2 W.heap.size)=aP_ ops (vgOf ops A n objs (fun j=>if j=n+k0 then W.heap.size else g j)) ((n+k0)::S) a:=by
     show _=(aP_ ops (vgOf ops A n objs (fun j=>if j=n+k0 then W.heap.size else g j)) S a).put (bI_ ops (n+k0)) (vgOf ops A n objs (fun j=>if j=n+k0 then W.heap.size else g j) (n+k0))
     rw[hdi]
     congr 1
     ·clear hS hS' hSN hG hinj hiS hsm
      induction S with
      | nil=>rfl
      | cons j S ihS=>
       show(aP_ ops (vgOf ops A n objs g) S a).put _ _=(aP_ ops (vgOf ops A n objs _) S a).put _ _
       rw[ihS (fun j hj=>hgS j (List.mem_cons_of_mem _ hj))]
       congr 1
       unfold vgOf
       simp only
       rw[if_neg (hgS j List.mem_cons_self)]
     ·unfold vgOf
      simp only
      rw[if_neg (by omega),if_pos trivial,show n+k0-n=k0 by omega]
      unfold vfOf
      rw[List.getElem?_eq_getElem hk0]
    rw[e]
    have hbW:Below W.heap.size W (W.alloc (.cells objs[k0].1.toArray objs[k0].2.1)):=(Below.refl _ _).alloc (Nat.le_refl _) _
    refine ih ((n+k0)::S) _ _ _ hc' hS' (inv.set hi hiN) (hb.trans (hbW.mono hb.size)) (fun k x hk hm=>?_) (fun j1 j2 h1 h2 h=>?_)
    ·by_cases hkk:k=k0
     ·subst hkk
      simp only[if_true]
      rw[List.getElem?_eq_getElem hk0] at hk
      cases hk
      exact⟨hb.size,ArAt.mk' W _ _⟩
     ·simp only[show(n+k=n+k0)=False by simp;omega,if_false]
      have:=hG k x hk ((List.mem_cons.1 hm).resolve_left (by omega))
      exact⟨this.1,this.2.below hbW⟩
    ·have old:∀j,n+j∈S→g (n+j)<W.heap.size:=fun j hj=>by
      have h3:=hSN _ hj
      exact(hG j _ (List.getElem?_eq_getElem (by omega)) hj).2.sz
     by_cases a1:j1=k0
     ·by_cases a2:j2=k0
      ·omega
      ·have:=old j2 ((List.mem_cons.1 h2).resolve_left (by omega))
       simp only[a1,if_true,show(n+j2=n+k0)=False by simp;omega,if_false] at h
       omega
     ·have b1:=(List.mem_cons.1 h1).resolve_left (by omega)
      by_cases a2:j2=k0
      ·have:=old j1 b1
       simp only[a2,if_true,show(n+j1=n+k0)=False by simp;omega,if_false] at h
       omega
      ·simp only[show(n+j1=n+k0)=False by simp;omega,show(n+j2=n+k0)=False by simp;omega,if_false] at h
       exact hinj j1 j2 b1 ((List.mem_cons.1 h2).resolve_left (by omega)) h
theorem gE_ {id:Nat} {l:List Oper} (n:Nat) (objs:List (List Value×TypeId×(Nat→Value))) (hm:P.follows .mixedOrders=true) (hB:qtB l.toArray n (n+objs.length) a.tmps.size=true)
  (hal:∀k x,objs[k]?=some x→∃o,l.toArray[n+k]?=some o∧Region.wanted o (yielded l.toArray A.tmps)=true∧∀(W:World),(execOp A.eval o).run P W=.ok (.value (x.2.2 W.heap.size)) (W.alloc (.cells x.1.toArray x.2.1)))
  (h:∀U,Below w.heap.size w U→wpQuiet P l.toArray (fun W=>∃p:Regrown,W=grow (redrawn U p.d) p.os) (fun a'=>a'=A) (l.take n) a)
  (ht:∀(g:Nat→Nat) (W:World),Below w.heap.size w W→(∀k x,objs[k]?=some x→w.heap.size≤g (n+k)∧ArAt (g (n+k)) x.1 W)→(∀i j,i<objs.length→j<objs.length→g (n+i)=g (n+j)→i=j)→
   wpList P l.toArray Q (l.drop (n+objs.length)) (aP_ l.toArray (vgOf l.toArray A n objs g) ((List.range objs.length).map (n + ·)) A) W):(Code.region id l.toArray true).wp P Q a w:=by
 have hB':=hB
 simp only[qtB,Bool.and_eq_true,decide_eq_true_eq] at hB'
 obtain⟨⟨⟨⟨⟨⟨⟨⟨⟨hsel,hnN⟩,hNs⟩,hd⟩,hlk⟩,hed⟩,hz⟩,hsk⟩,hch⟩,hsq⟩:=hB'
 have hNs':n+objs.length<l.length:=by simpa using hNs
 have tab:∀U,Below w.heap.size w U→_:=fun U hU=>mJ_ (P:=P) (C:=fun W=>∃p:Regrown,W=grow (redrawn U p.d) p.os) (a:=a) (A:=A) hd hz hnN (l.take n) 0 (fun j hj=>by
  have hj':j<n:=by rw[List.length_take] at hj;omega
  simp[hj']) (by rw[List.length_take];omega) (h U hU)
 refine wp_region_any hm ?_
 have H:=aIQ (P:=P) (Q:=Q) (w:=w) (a:=a) (A:=A) hB hal (fun U hU i hi=>(tab U hU).1 i (Nat.zero_le _) hi) (tab w (Below.refl _ _)).2 ht l.toArray.size [] (fun _=>0) (Array.replicate l.toArray.size false) { w with drawn:=w.drawn+1 } (by simp)
  (fun i=>⟨fun hi=>(by cases hi),fun hi=>(by rw[getD_replicate_false] at hi;cases hi.2)⟩)
  ⟨by simp,fun j oj _ hl=>(by rw[getD_replicate_false] at hl;cases hl),fun t _ ht=>getD_in (by simpa using ht) (getD_replicate_false _ _)⟩
  ⟨rfl,rfl,rfl,Nat.le_refl _,fun _ _=>rfl⟩ (fun k x _ hm=>by cases hm) (fun i j hi=>by cases hi)
 exact H
theorem cN_ {id:Nat} {l:List Oper} (n:Nat) (hm:P.follows .mixedOrders=true) (hB:qtB l.toArray n n a.tmps.size=true)
  (h:∀U,Below w.heap.size w U→wpQuiet P l.toArray (fun W=>∃p:Regrown,W=grow (redrawn U p.d) p.os) (fun a'=>a'=A) (l.take n) a)
  (ht:∀(W:World),Below w.heap.size w W→wpList P l.toArray Q (l.drop n) A W):(Code.region id l.toArray true).wp P Q a w:=
 gE_ n [] hm hB (fun k x hk=>by simp at hk) h (fun g W hb _ _=>ht W hb)
theorem bX_ {id:Nat} {l:List Oper} (n d:Nat) (vs:List Value) (t:TypeId) (hm:P.follows .mixedOrders=true) (hB:qtB l.toArray n (n+1) a.tmps.size=true)
  (hal:∃o,l.toArray[n]?=some o∧o.dst=some d∧o.guard=none∧∀(b:Act) (W:World),(execOp b.eval o).run P W=.ok (.value (.pointer (some ⟨W.heap.size,0,none⟩))) (W.alloc (.cells vs.toArray t)))
  (h:∀U,Below w.heap.size w U→wpQuiet P l.toArray (fun W=>∃p:Regrown,W=grow (redrawn U p.d) p.os) (fun a'=>a'=A) (l.take n) a)
  (ht:∀(B:Nat) (W:World),Below w.heap.size w W→w.heap.size≤B→ArAt B vs W→wpList P l.toArray Q (l.drop (n+1)) (A.put (some d) (.pointer (some ⟨B,0,none⟩))) W):(Code.region id l.toArray true).wp P Q a w:=by
 obtain⟨o,ho,hd,hg,hr⟩:=hal
 refine gE_ (A:=A) n [(vs,t,fun B=>.pointer (some ⟨B,0,none⟩))] hm hB (fun k x hk=>?_) h (fun g W hb hG _=>?_)
 ·cases k with
  | zero=>cases hk;exact⟨o,ho,by unfold Region.wanted;rw[hg],hr A⟩
  | succ k=>simp at hk
 ·have h1:=hG 0 (vs,t,fun B=>.pointer (some ⟨B,0,none⟩)) rfl
  have:=ht (g n) W hb h1.1 h1.2
  have e:bI_ l.toArray n=some d:=by unfold bI_;rw[ho];exact hd
  have e2:vgOf l.toArray A n [(vs,t,fun B=>.pointer (some ⟨B,0,none⟩))] g n=.pointer (some ⟨g n,0,none⟩):=by unfold vgOf;rw[if_neg (Nat.lt_irrefl _),Nat.sub_self];rfl
  show wpList _ _ _ _ ((A.put (bI_ l.toArray n) (vgOf l.toArray A n [(vs,t,fun B=>.pointer (some ⟨B,0,none⟩))] g n))) W
  rw[e,e2]
  exact this
theorem pU_ {id:Nat} {l:List Oper} (n d1 d2:Nat) (vs1 vs2:List Value) (t1 t2:TypeId) (hm:P.follows .mixedOrders=true) (hB:qtB l.toArray n (n+2) a.tmps.size=true)
  (hal1:∃o,l.toArray[n]?=some o∧o.dst=some d1∧o.guard=none∧∀(b:Act) (W:World),(execOp b.eval o).run P W=.ok (.value (.pointer (some ⟨W.heap.size,0,none⟩))) (W.alloc (.cells vs1.toArray t1)))
  (hal2:∃o,l.toArray[n+1]?=some o∧o.dst=some d2∧o.guard=none∧∀(b:Act) (W:World),(execOp b.eval o).run P W=.ok (.value (.pointer (some ⟨W.heap.size,0,none⟩))) (W.alloc (.cells vs2.toArray t2)))
  (h:∀U,Below w.heap.size w U→wpQuiet P l.toArray (fun W=>∃p:Regrown,W=grow (redrawn U p.d) p.os) (fun a'=>a'=A) (l.take n) a)
  (ht:∀(B1 B2:Nat) (W:World),Below w.heap.size w W→w.heap.size≤B1→w.heap.size≤B2→B1≠B2→ArAt B1 vs1 W→ArAt B2 vs2 W→wpList P l.toArray Q (l.drop (n+2)) ((A.put (some d2) (.pointer (some ⟨B2,0,none⟩))).put (some d1) (.pointer (some ⟨B1,0,none⟩))) W):(Code.region id l.toArray true).wp P Q a w:=by
 obtain⟨o1,ho1,hd1,hg1,hr1⟩:=hal1
 obtain⟨o2,ho2,hd2,hg2,hr2⟩:=hal2
 refine gE_ (A:=A) n [(vs1,t1,fun B=>.pointer (some ⟨B,0,none⟩)),(vs2,t2,fun B=>.pointer (some ⟨B,0,none⟩))] hm hB (fun k x hk=>?_) h (fun g W hb hG hi=>?_)
 ·match k,hk with
  | 0,hk=>cases hk;exact⟨o1,ho1,by unfold Region.wanted;rw[hg1],hr1 A⟩
  | 1,hk=>cases hk;exact⟨o2,ho2,by unfold Region.wanted;rw[hg2],hr2 A⟩
  | k+2,hk=>simp at hk
 ·have h1:=hG 0 (vs1,t1,fun B=>.pointer (some ⟨B,0,none⟩)) rfl
  have h2:=hG 1 (vs2,t2,fun B=>.pointer (some ⟨B,0,none⟩)) rfl
  have hne:g n≠g (n+1):=fun e=>by have:=hi 0 1 (by simp) (by simp) e;omega
  have:=ht (g n) (g (n+1)) W hb h1.1 h2.1 hne h1.2 h2.2
  have e1:bI_ l.toArray n=some d1:=by unfold bI_;rw[ho1];exact hd1
  have e2:bI_ l.toArray (n+1)=some d2:=by unfold bI_;rw[ho2];exact hd2
  have g1:vgOf l.toArray A n [(vs1,t1,fun B=>.pointer (some ⟨B,0,none⟩)),(vs2,t2,fun B=>.pointer (some ⟨B,0,none⟩))] g n=.pointer (some ⟨g n,0,none⟩):=by unfold vgOf;rw[if_neg (Nat.lt_irrefl _),Nat.sub_self];rfl
  have g2:vgOf l.toArray A n [(vs1,t1,fun B=>.pointer (some ⟨B,0,none⟩)),(vs2,t2,fun B=>.pointer (some ⟨B,0,none⟩))] g (n+1)=.pointer (some ⟨g (n+1),0,none⟩):=by unfold vgOf;rw[if_neg (by omega),show n+1-n=1 by omega];rfl
  show wpList _ _ _ _ ((A.put (bI_ l.toArray (n+1)) (vgOf l.toArray A n [(vs1,t1,fun B=>.pointer (some ⟨B,0,none⟩)),(vs2,t2,fun B=>.pointer (some ⟨B,0,none⟩))] g (n+1))).put (bI_ l.toArray n) (vgOf l.toArray A n [(vs1,t1,fun B=>.pointer (some ⟨B,0,none⟩)),(vs2,t2,fun B=>.pointer (some ⟨B,0,none⟩))] g n)) W
  rw[e1,e2,g1,g2]
  exact this
end
end Go.Proofs.YtlikmmpmnaaifaaGreatDoor
