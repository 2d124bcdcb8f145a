/-
  Chapter 27: plain facts for SpeechLess; Say without groups and wires; Hear of what is told.
-/
import Derived.Test.YtdkaohphbgdkpaaGreatDoorZSv
import Derived.Test.YtdkaohphbgdkpaaGreatDoorZVb
import Derived.Test.YtdkaohphbgdkpaaGreatDoorWUu
import Derived.Test.YtdkaohphbgdkpaaGreatDoorWVz
set_option linter.unusedSimpArgs false
set_option linter.unusedVariables false
namespace Go.Proofs.YtdkaohphbgdkpaaGreatDoor
open Go.RowKit Go.Shelf Go.Sort
attribute [local go_sem] Oper.semAt_some
theorem hear_told {x:SD} (h:cF_ x=true):∃st,eA_ ⟨[],[]⟩ 0 (mW_ x).data.toList=.ok st∧asmD st=x:=by
 obtain⟨h1,h2⟩:=cP_ h
 refine⟨stOf x,?_,h2⟩
 unfold mW_
 rw[if_pos h]
 have e:(baL (yV_ x)).data.toList=yV_ x:=by unfold baL;simp
 rw[e]
 exact h1.there
theorem told_size {x:SD} (h:cF_ x=true):(mW_ x).size≤6200:=by
 obtain⟨h1,h2⟩:=cP_ h
 unfold mW_
 rw[if_pos h]
 have e:(baL (yV_ x)).size=(yV_ x).length:=by unfold baL;simp[ByteArray.size]
 rw[e]
 exact h1.text_len
theorem hear_r {x:SD} (h:cF_ x=true) (w:World) (hq:OkW w):Calls Tryz.prog 24 #[.string (mW_ x)] w fun e W'=>(∃a0 c0 a1 c1 a2 c2 a3 c3,e=.returned (.tuple #[.agg #[.slice a0 x.shapes.length c0,.slice a1 x.inside.length c1,.slice a2 x.member.length c2,.slice a3 x.leads.length c3],.int .i64 (mW_ x).size,.int .i64 0])∧SdAt a0 a1 a2 a3 x W'∧x.shapes.length≤c0)∧Below w.heap.size w W':=by
 have hz:=told_size h
 refine(yC_ (mW_ x) (by omega) w hq.2.1 hq.2.2.1 hq.2.2.2).mono ?_
 intro e W' hh
 obtain⟨st,h1,h2⟩:=hear_told h
 unfold eO_ at hh
 rw[h1] at hh
 obtain⟨v0,v1,v2,v3,rfl,hm⟩:=hh
 rw[h2] at hm
 have hb:=hm.az.bw
 obtain⟨a0,c0,a1,c1,a2,c2,a3,c3,rfl,rfl,rfl,rfl,hs,hc⟩:=sd_of hm
 exact⟨⟨a0,c0,a1,c1,a2,c2,a3,c3,rfl,hs,hc⟩,hb⟩
theorem say_n {a:Option Addr} {m cap:Nat} {ss:List Sh} (hm:ss.length=m) (hl:bI_ ss=true) (hd:Dist ss) (w:World) (hS:ShsAt a ss w) (hq:OkW w) :
  Calls Tryz.prog 16 #[.slice a m cap,.slice none 0 0,.agg #[.slice none 0 0,.slice none 0 0]] w fun e W'=>e=.returned (.tuple #[.string (mW_ (eN_ ss [] [])),.int .i64 0])∧Below w.heap.size w W':=by
 have h60:=cR_ hl
 have:=say_s (cap:=cap) (gcap:=0) (wcap:=0) (ss:=ss) (es:=[]) (ls:=[]) (dv:=.slice none 0 0) (ga:=none) (wa:=none) (n:=m) (m:=0) (k:=0) hm (by omega) rfl rfl ⟨Nat.zero_le _,fun e he=>by cases he⟩ (by omega) w hS ⟨fun k e he=>by simp at he⟩ ⟨fun k e he=>by simp at he⟩ hq.1 hq.2.2.1 (fun _=>hd) ⟨_,_,_,rfl⟩
 rw[kF_ hl hd rfl (Nat.zero_le _) rfl] at this
 exact this
theorem said_n {ss:List Sh} (hl:bI_ ss=true) (hd:Dist ss):cF_ (eN_ ss [] [])=true:=(nL_ (es:=[]) (ls:=[]) hl hd rfl (Nat.zero_le _) rfl).2
def lessS (ss:List Sh) (k:Nat):List Sh:=ss.take k++ss.drop (k+1)
theorem less_filter {ss:List Sh} (hd:Dist ss) {k:Nat} {t:Sh} (ht:ss[k]?=some t):lessS ss k=ss.filter fun x=>decide (x.code≠t.code):=by
 obtain⟨h,e⟩:=List.getElem?_eq_some_iff.1 ht
 have e1:ss=ss.take k++t::ss.drop (k+1):=by rw[←e,←List.drop_eq_getElem_cons h,List.take_append_drop]
 have key:∀(j:Nat) (x:Sh),ss[j]?=some x→j≠k→x.code≠t.code:=fun j x hx hj hc=>by
  unfold Dist at hd
  rw[List.pairwise_iff_getElem] at hd
  obtain⟨p1,q1⟩:=List.getElem?_eq_some_iff.1 hx
  rcases Nat.lt_or_gt_of_ne hj with hlt|hlt
  ·exact hd j k p1 h hlt (by rw[q1,e,hc])
  ·exact hd k j h p1 hlt (by rw[q1,e,hc])
 conv=>rhs;rw[e1]
 rw[List.filter_append,List.filter_cons_of_neg (by simp)]
 unfold lessS
 congr 1
 ·symm
  rw[List.filter_eq_self]
  intro x hx
  obtain⟨j,hj,ej⟩:=List.mem_iff_getElem.1 hx
  have hj2:j<k:=by rw[List.length_take] at hj;omega
  have:ss[j]?=some x:=by rw[←List.getElem?_take_of_lt hj2,List.getElem?_eq_getElem hj,ej]
  exact decide_eq_true (key j x this (by omega))
 ·symm
  rw[List.filter_eq_self]
  intro x hx
  obtain⟨j,hj,ej⟩:=List.mem_iff_getElem.1 hx
  have:ss[k+1+j]?=some x:=by rw[←List.getElem?_drop,List.getElem?_eq_getElem hj,ej]
  exact decide_eq_true (key _ x this (by omega))
theorem less_laid {ss:List Sh} (hl:bI_ ss=true) (ha:ss.Pairwise (fun a b=>a.code<b.code)) (k:Nat):bI_ (lessS ss k)=true∧Dist (lessS ss k):=by
 have hsub:(lessS ss k).Sublist ss:=by
  unfold lessS
  conv=>rhs;rw[←List.take_append_drop k ss]
  exact List.Sublist.append (List.Sublist.refl _) (by rw[←List.drop_drop];exact List.drop_sublist _ _)
 have ha':=ha.sublist hsub
 refine⟨qT_ (Nat.le_trans hsub.length_le (cR_ hl)) (fun s hs=>?_) ha',gC_ ha'⟩
 have hs':=hsub.subset hs
 have hb:=cL_ hl s hs'
 unfold bd at hb
 unfold bI_ at hl
 simp only[Bool.and_eq_true,Bool.not_eq_true',List.any_eq_false] at hl
 have hf:=hl.2 s hs'
 refine⟨?_,hb.1,by simpa using hf⟩
 unfold aN_
 rw[Bool.and_eq_true,decide_eq_true_eq,decide_eq_true_eq]
 exact hb.2
theorem fm_filter {α β:Type} (l:List α) (P:α→Bool) (g:α→Option β) (Q:β→Bool) (h:∀a b,g a=some b→Q b=P a):(l.filter P).filterMap g=(l.filterMap g).filter Q:=by
 induction l with
 | nil=>rfl
 | cons a l ih=>
  cases hP:P a <;> cases hg:g a <;> simp[List.filter_cons,List.filterMap_cons,hP,hg,ih]
  ·have:=h a _ hg
   simp[this,hP]
  ·have:=h a _ hg
   simp[this,hP]
theorem said_less {ss:List Sh} (H:Ld ss) {k:Nat} {t:Sh} (ht:ss[k]?=some t) (hk:∀s∈ss,parK ss s≠some t):eN_ (lessS ss k) [] []=⟨(eN_ ss [] []).shapes.filter fun x=>decide (x.code≠t.code),(eN_ ss [] []).inside.filter fun p=>decide (p.1≠t.code),[],[]⟩:=by
 have hm:t∈ss:=List.mem_of_getElem? ht
 rw[less_filter H.dst ht]
 have e1:=H.rdx_less hm hk
 have hg:∀c,memG (gsE []) c=none:=fun c=>rfl
 unfold eN_ aCZ
 rw[e1]
 have e2:((rdx ss 0).filter fun x=>decide (x.code≠t.code)).map (dZ_ (ss.filter fun x=>decide (x.code≠t.code)) (memG (gsE [])))=((rdx ss 0).filter fun x=>decide (x.code≠t.code)).map (dZ_ ss (memG (gsE []))):=List.map_congr_left fun s hs=>by
  have hs':s∈ss:=H.mem_rdx.1 (List.mem_filter.1 hs).1
  unfold dZ_
  rw[H.par_less hm hk hs']
 rw[e2]
 unfold asmD
 simp only[List.map_nil,SD.mk.injEq]
 generalize rdx ss 0=l
 refine⟨?_,?_,?_,trivial⟩
 ·rw[List.map_map,List.map_map,List.filter_map]
  rfl
 ·rw[List.filterMap_map,List.filterMap_map]
  refine fm_filter l _ _ _ fun s p hp=>?_
  simp only[Function.comp] at hp
  cases e:(dZ_ ss (memG (gsE [])) s).i with
  | none=>rw[e] at hp;cases hp
  | some n=>rw[e] at hp;cases hp;rfl
 ·rw[List.filterMap_map]
  have:∀m:List Sh,m.filterMap ((fun t:It=>t.m.map fun n=>(t.code,n))∘dZ_ ss (memG (gsE [])))=[]:=fun m=>by
   induction m with
   | nil=>rfl
   | cons s m ih=>rw[List.filterMap_cons_none rfl];exact ih
  exact this _
end Go.Proofs.YtdkaohphbgdkpaaGreatDoor
