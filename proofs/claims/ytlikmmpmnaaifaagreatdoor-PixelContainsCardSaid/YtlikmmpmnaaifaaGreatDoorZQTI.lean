/- - -/
import Derived.Sort.BigQuietIn
import Derived.TacticsIn
import Derived.Test.YtlikmmpmnaaifaaGreatDoorZQT
set_option maxHeartbeats 40000000
set_option maxRecDepth 1000000
namespace Go.Proofs.YtlikmmpmnaaifaaGreatDoor
open Go.RowKit Go.Shelf Go.Sort
section
variable {F:Fence} {r:Nat} {P:Program} {ops:Array Oper} {C:World→Prop}
theorem mX_ {A:Act} {d:Tmp} : ∀(l:List Oper) (a:Act),(∀o∈l,o.dst≠some d)→wpQuietIn F r P ops C (fun a'=>a'=A) l a→A.tmps[d]?=a.tmps[d]?
 | [],a,_,h=>by
  obtain rfl:a=A:=h
  rfl
 | o::l,a,hd,h=>by
  have key:∀v,(a.put o.dst v).tmps[d]?=a.tmps[d]?:=fun v=>by
   cases ho:o.dst with
   | none=>rfl
   | some e=>
    have:e≠d:=fun x=>hd o List.mem_cons_self (by rw[ho,x])
    simp[Act.put,Array.getElem?_setIfInBounds_ne this]
  have hd':∀o∈l,o.dst≠some d:=fun o ho=>hd o (List.mem_cons_of_mem _ ho)
  unfold wpQuietIn at h
  obtain⟨_,h⟩:=h
  split at h
  ·obtain⟨v,_,h2⟩:=h
   rw[mX_ l _ hd' h2,key]
  ·rw[mX_ l _ hd' h,key]
theorem kJ_ {n:Nat} {a A:Act} (hd:aBC ops n=true) (hz:aNX ops n a.tmps.size=true):∀(l:List Oper) (k:Nat),(∀j,j<l.length→l[j]?=ops[k+j]?)→k+l.length=n→
  wpQuietIn F r P ops C (fun a'=>a'=A) l (aP_ ops (bN_ ops A) (List.range k).reverse a)→
  (∀i,k≤i→i<n→∃o,ops[i]?=some o∧YieldsQuiet F r P ops C o (bN_ ops A i) (aP_ ops (bN_ ops A) (List.range i).reverse a))∧A=aP_ ops (bN_ ops A) (List.range n).reverse a
 | [],k,_,hk,h=>by
  obtain rfl:k=n:=by simpa using hk
  exact⟨fun i h1 h2=>by omega,Eq.symm h⟩
 | o::l,k,hl,hk,h=>by
  simp only[List.length_cons] at hk
  have h0:ops[k]?=some o:=by simpa using (hl 0 (by simp)).symm
  have hst:qOpIn F r P ops C k (wpQuietIn F r P ops C (fun a'=>a'=A) l) (aP_ ops (bN_ ops A) (List.range k).reverse a):=by unfold qOpIn;simp only[h0];exact h
  obtain⟨v,hy,hK⟩:=yieldsQuiet_of_qOpIn h0 hst
  obtain⟨d,hdk⟩:=tY_ hd (i:=k) (by omega)
  have hod:o.dst=some d:=by unfold bI_ at hdk;rw[h0] at hdk;exact hdk
  have hlt:d<a.tmps.size:=by
   have:=List.all_eq_true.1 hz k (List.mem_range.2 (by omega))
   simpa[hdk] using this
  have hne:∀o'∈l,o'.dst≠some d:=fun o' ho' hx=>by
   obtain⟨j,hj,rfl⟩:=List.mem_iff_getElem.1 ho'
   have h1:=hl (j+1) (by simp;omega)
   rw[List.getElem?_cons_succ,List.getElem?_eq_getElem hj] at h1
   have h2:bI_ ops (k+(j+1))=some d:=by unfold bI_;rw[←h1];exact hx
   have:=jG_ hd (by omega) (by omega) hdk h2
   omega
  have hv:bN_ ops A k=v:=by
   unfold bN_
   rw[hdk]
   show(A.tmps[d]?).getD undef=v
   rw[mX_ l _ hne hK,hod]
   show(((aP_ ops (bN_ ops A) (List.range k).reverse a).tmps.setIfInBounds d v)[d]?).getD undef=v
   rw[Array.getElem?_setIfInBounds,if_pos rfl,fG_,if_pos hlt]
   rfl
  rw[←hv] at hy hK
  have e:=sU_ (ops:=ops) (bN_ ops A) k a
  rw[hdk,←hod] at e
  rw[←e] at hK
  obtain⟨h1,h2⟩:=kJ_ hd hz l (k+1) (fun j hj=>by have:=hl (j+1) (by simp;omega);simpa[Nat.add_assoc,Nat.add_comm 1 j] using this) (by omega) hK
  refine⟨fun i hi1 hi2=>?_,h2⟩
  by_cases hik:i=k
  ·subst hik
   exact⟨o,h0,hy⟩
  ·exact h1 i (by omega) hi2
theorem hI_ {Q':Exit→Act→World→Prop} : ∀(l:List Oper) (k:Nat) (listed:Array Bool) (a:Act) (w:World),(∀j,l[j]?=ops[k+j]?)→
  Region.seqB .any ops l.length k listed=true→wpListIn F r P ops Q' l a w→wpAnyIn F r P .any ops Q' l.length listed a w
 | [],_,_,_,_,_,hB,h=>⟨by simpa[Region.seqB] using hB,h⟩
 | o::l,k,listed,a,w,hl,hB,h=>by
  have h0:ops[k]?=some o:=by simpa using (hl 0).symm
  simp only[List.length_cons,Region.seqB,Bool.and_eq_true,decide_eq_true_eq] at hB
  refine⟨fun h1=>(by rw[hB.1] at h1;cases h1),fun i hi=>?_⟩
  rw[hB.1] at hi
  have hik:i=k:=by simpa using hi
  subst hik
  have hw:wpOpIn F r P ops Q' i (wpListIn F r P ops Q' l) a w:=by unfold wpOpIn;simp only[h0];exact h
  exact wpOpIn_mono (fun a' w' h'=>hI_ l (i+1) _ a' w' (fun j=>by have:=hl (j+1);simpa[Nat.add_assoc,Nat.add_comm 1 j] using this) hB.2 h') hw
variable {Q:Exit→Act→World→Prop} {a A:Act} {n:Nat}
theorem aCG (hro:F.round=none) (hB:qtB ops n n a.tmps.size=true)
  (hq:∀i,i<n→∃o,ops[i]?=some o∧YieldsQuiet F r P ops C o (bN_ ops A i) (aP_ ops (bN_ ops A) (List.range i).reverse a))
  (hA:A=aP_ ops (bN_ ops A) (List.range n).reverse a)
  (ht:∀W:World,C W→wpListIn F r P ops Q (ops.toList.drop n) A W) :
  ∀(k:Nat) (S:List Nat) (listed:Array Bool) (W:World),listed.toList.count false=k→(∀i,i∈S↔(i<n∧listed.getD i false=true))→HeadInv .any ops n listed→C W→
   wpAnyIn F r P .any ops Q k listed (aP_ ops (bN_ ops A) S a) W:=by
 simp only[qtB,Bool.and_eq_true,decide_eq_true_eq] at hB
 obtain⟨⟨⟨⟨⟨⟨⟨⟨⟨hsel,_⟩,hNs⟩,hd⟩,hlk⟩,hed⟩,hz⟩,hsk⟩,hch⟩,hsq⟩:=hB
 intro k
 induction k with
 | zero=>
  intro S listed W hc hS inv hb
  have h1:=inv.tail n (Nat.le_refl _) hNs
  have:=List.count_pos_iff.2 (List.mem_of_getElem? (eE_ h1))
  omega
 | succ k ih=>
  intro S listed W hc hS inv hb
  have hSN:∀i∈S,i<n:=fun i hi=>((hS i).1 hi).1
  by_cases hall:∀i,i<n→listed.getD i false=true
  ·have hlisted:listed=Array.replicate n true++Array.replicate (ops.size-n) false:=by
    apply Array.ext_getElem?
    intro i
    rw[Array.getElem?_append,Array.size_replicate]
    split
    ·rename_i h
     have h1:=hall i h
     have h2:i<listed.size:=by rw[inv.size];omega
     rw[Array.getElem?_replicate,if_pos h,Array.getElem?_eq_getElem h2]
     simp[Array.getD,h2] at h1
     rw[h1]
    ·rename_i h
     rw[Array.getElem?_replicate]
     by_cases h3:i<ops.size
     ·rw[if_pos (by omega)]
      have h1:=inv.tail i (by omega) h3
      have h2:i<listed.size:=by rw[inv.size];omega
      rw[Array.getElem?_eq_getElem h2]
      simp[Array.getD,h2] at h1
      rw[h1]
     ·rw[if_neg (by omega),Array.getElem?_eq_none (by rw[inv.size];omega)]
   have hF:k+1=(ops.toList.drop n).length:=by
    rw[←hc,hlisted]
    simp[List.count_replicate]
   rw[hF]
   have e:aP_ ops (bN_ ops A) S a=A:=by
    refine Eq.trans ?_ hA.symm
    refine aIK (by rw[cT_,cT_]) fun t=>?_
    rw[bV_,bV_]
    split
    ·by_cases hx:∃j,j<n∧bI_ ops j=some t
     ·obtain⟨j,hj,hjt⟩:=hx
      rw[cV_ hd hSN ((hS j).2 ⟨hj,hall j hj⟩) hjt,cV_ (S:=(List.range n).reverse) hd (fun i hi=>by have:=List.mem_range.1 (List.mem_reverse.1 hi);omega) (List.mem_reverse.2 (List.mem_range.2 hj)) hjt]
     ·rw[cE_ fun i hi hit=>hx ⟨i,hSN i hi,hit⟩,cE_ (S:=(List.range n).reverse) fun i hi hit=>hx ⟨i,(by have:=List.mem_range.1 (List.mem_reverse.1 hi);omega),hit⟩]
    ·rfl
   rw[e]
   have hsq':Region.seqB .any ops (ops.toList.drop n).length n listed=true:=by rw[hlisted];simpa using hsq
   exact hI_ (ops.toList.drop n) n listed _ W (fun j=>by simp[List.getElem?_drop]) hsq' (ht W hb)
  ·obtain⟨i0,hi0⟩:∃i,i<n∧listed.getD i false=false:=by
    refine Classical.byContradiction fun hx=>hall fun i hi=>?_
    cases hl:listed.getD i false with
    | true=>rfl
    | false=>exact absurd ⟨i,hi,hl⟩ hx
   refine⟨fun h0=>absurd h0 (kO_ hed (Nat.le_of_lt hNs) inv.size ⟨i0,hi0⟩),fun i hi=>?_⟩
   have hiN:i<n:=by
    rcases Nat.lt_or_ge i n with h|h
    ·exact h
    ·exact absurd hi (tail_waits hsk hch hNs inv _ i0 rfl hi0.1 (getD_in (by rw[inv.size];omega) hi0.2) i h)
   obtain⟨hun,oi,hoi,hdone⟩:=mem_ready.1 hi
   have hisz:i<listed.size:=by rw[inv.size];omega
   have hS':∀j,j∈i::S↔(j<n∧(listed.setIfInBounds i true).getD j false=true):=fun j=>by
    rw[List.mem_cons,hS j]
    by_cases hij:i=j
    ·subst hij
     simp[hiN,Array.getD,hisz]
    ·rw[getD_set_ne false hij]
     exact⟨fun h=>h.resolve_left (Ne.symm hij),.inr⟩
   have hc':(listed.setIfInBounds i true).toList.count false=k:=by
    have:=kB_ _ _ (eE_ hun)
    rw[Array.toList_setIfInBounds]
    omega
   have hdi:bI_ ops i=oi.dst:=by unfold bI_;rw[hoi];rfl
   obtain⟨o,ho,hy⟩:=hq i hiN
   obtain rfl:oi=o:=Option.some.inj (hoi.symm.trans ho)
   have hsmt:∀t∈oi.looksAt ops,(aP_ ops (bN_ ops A) S a).tmps[t]?=(aP_ ops (bN_ ops A) (List.range i).reverse a).tmps[t]?:=fun t htl=>by
    rw[bV_,bV_]
    congr 2
    have hR:∀j∈(List.range i).reverse,j<n:=fun j hj=>by have:=List.mem_range.1 (List.mem_reverse.1 hj);omega
    by_cases hx:∃j,j<n∧bI_ ops j=some t
    ·obtain⟨j,hj,hjt⟩:=hx
     have h1:=List.all_eq_true.1 (List.all_eq_true.1 hlk i (List.mem_range.2 hiN)) j (List.mem_range.2 hj)
     rw[hoi,hjt] at h1
     have h2:j<i∧Region.waitsFor .any ops i j=true:=by
      have h3:(oi.looksAt ops).contains t=true:=by simpa using htl
      simp only[h3,Bool.not_true,Bool.false_or,Bool.and_eq_true,decide_eq_true_eq] at h1
      exact⟨h1.1.1,h1.2⟩
     obtain⟨o2,ho2,e,hee,hbe,hon⟩:=Region.waitsFor_spec h2.2
     obtain rfl:oi=o2:=Option.some.inj (hoi.symm.trans ho2)
     have h4:=hdone e hee hbe
     rw[hon] at h4
     rw[cV_ hd hSN ((hS j).2 ⟨hj,h4⟩) hjt,cV_ hd hR (List.mem_reverse.2 (List.mem_range.2 h2.1)) hjt]
    ·rw[cE_ fun j hj hjt=>hx ⟨j,hSN j hj,hjt⟩,cE_ fun j hj hjt=>hx ⟨j,hR j hj,hjt⟩]
   have hsm:=rR_ (ops:=ops) (o:=oi) (Region.noSelect_spec hsel i oi · · hoi) hsmt
   have hev:∀x∈oi.op.operands,(aP_ ops (bN_ ops A) S a).eval x=(aP_ ops (bN_ ops A) (List.range i).reverse a).eval x:=fun x hx=>by
    cases x with
    | tmp t=>
     have:=hsmt t (List.mem_append_left _ (List.mem_filterMap.2 ⟨.tmp t,by simpa using hx,rfl⟩))
     show(aP_ ops (bN_ ops A) S a).tmps.getD t undef=(aP_ ops (bN_ ops A) (List.range i).reverse a).tmps.getD t undef
     rw[Array.getD_eq_getD_getElem?,Array.getD_eq_getD_getElem?,this]
    | _=>rfl
   have hy':=hy.of_same hsm.1 hsm.2 (fun w=>about_congr oi w hev)
   refine wpOpIn_of_qOpIn hro (C:=C) (K:=fun a1=>a1=(aP_ ops (bN_ ops A) S a).put oi.dst (bN_ ops A i)) hb ?_ (hy'.qOpIn hoi rfl)
   rintro a1 W1 hp rfl
   have e:(aP_ ops (bN_ ops A) S a).put oi.dst (bN_ ops A i)=aP_ ops (bN_ ops A) (i::S) a:=by
    show _=(aP_ ops (bN_ ops A) S a).put (bI_ ops i) (bN_ ops A i)
    rw[hdi]
   rw[e]
   exact ih (i::S) _ W1 hc' hS' (inv.set hi hiN) hp
theorem gF_ {id:Nat} {w:World} {l:List Oper} (n:Nat) (hro:F.round=none) (hm:P.follows .mixedOrders=true) (hB:qtB l.toArray n n a.tmps.size=true)
  (h:wpQuietIn F r P l.toArray (fun w'=>∃k,w'=w.drewN k) (fun a'=>a'=A) (l.take n) a)
  (ht:∀k:Nat,wpListIn F r P l.toArray Q (l.drop n) A (w.drewN k)):(Code.region id l.toArray true).wpIn F r P Q a w:=by
 have hB':=hB
 simp only[qtB,Bool.and_eq_true,decide_eq_true_eq] at hB'
 obtain⟨⟨⟨⟨⟨⟨⟨⟨⟨hsel,_⟩,hNs⟩,hd⟩,hlk⟩,hed⟩,hz⟩,hsk⟩,hch⟩,hsq⟩:=hB'
 have hNs':n<l.length:=by simpa using hNs
 have tab:=kJ_ (F:=F) (r:=r) (P:=P) (C:=fun w'=>∃k,w'=w.drewN k) (a:=a) (A:=A) hd hz (l.take n) 0 (fun j hj=>by
  have hj':j<n:=by rw[List.length_take] at hj;omega
  simp[hj']) (by rw[List.length_take];omega) h
 refine wpIn_region_any hm ?_
 have H:=aCG (F:=F) (r:=r) (P:=P) (Q:=Q) (a:=a) (A:=A) (C:=fun w'=>∃k,w'=w.drewN k) hro hB (fun i hi=>tab.1 i (Nat.zero_le _) hi) tab.2 (fun W hW=>by obtain⟨k,rfl⟩:=hW;exact ht k) l.toArray.size [] (Array.replicate l.toArray.size false) { w with drawn:=w.drawn+1 } (by simp)
  (fun i=>⟨fun hi=>(by cases hi),fun hi=>(by rw[getD_replicate_false] at hi;cases hi.2)⟩)
  ⟨by simp,fun j oj _ hl=>(by rw[getD_replicate_false] at hl;cases hl),fun t _ ht=>getD_in (by simpa using ht) (getD_replicate_false _ _)⟩ ⟨1,rfl⟩
 exact H
end
end Go.Proofs.YtlikmmpmnaaifaaGreatDoor
