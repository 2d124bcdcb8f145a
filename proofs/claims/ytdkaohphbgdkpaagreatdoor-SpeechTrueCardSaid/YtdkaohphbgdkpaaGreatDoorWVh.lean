/-
  Chapter 27: plain facts for SpeechTrue.
-/
import Derived.Test.YtdkaohphbgdkpaaGreatDoorWVy
set_option linter.unusedSimpArgs false
set_option linter.unusedVariables false
namespace Go.Proofs.YtdkaohphbgdkpaaGreatDoor
open Go.RowKit Go.Shelf Go.Sort
def nxtP (ps:List (Int×Int)) (c:Int):Int:=(aE_ ps c).getD 0
theorem lookP_take {ps:List (Int×Int)} {j:Nat} {p:Int×Int} (hp:ps[j]?=some p) (c:Int):aE_ (ps.take (j+1)) c=if p.1=c then some p.2 else aE_ (ps.take j) c:=by
 unfold aE_
 rw[List.take_add_one,hp,Option.toList_some,List.foldl_append]
 rfl
theorem nxtP_step {ps:List (Int×Int)} {j:Nat} {p:Int×Int} (hp:ps[j]?=some p) (c:Int):nxtP (ps.take (j+1)) c=if p.1=c then p.2 else nxtP (ps.take j) c:=by
 unfold nxtP
 rw[lookP_take hp]
 split <;> rfl
theorem saidOf_shapes {ss:List Sh} (es:List Ge) (ls:List Wr):(eN_ ss es ls).shapes=(rdx ss 0).map fun s=>⟨s.code,s.kind,zRc,zPl,zPl,s.word⟩:=by
 unfold eN_ aCZ asmD
 rw[List.map_map]
 refine List.map_congr_left fun s _=>?_
 show shOf (dZ_ ss (memG (gsE es)) s)=_
 have e:(⟨s.word.data.toList.toArray⟩:ByteArray)=s.word:=by simp
 unfold shOf dZ_
 simp only[e]
theorem saidOf_inside {ss:List Sh} (H:Ld ss) (es:List Ge) (ls:List Wr) {a:Sh} (ha:a∈ss):aE_ (eN_ ss es ls).inside a.code=(parK ss a).map (·.code):=by
 have hd:Dist (((rdx ss 0).map (dZ_ ss (memG (gsE es)))).map shOf):=by
  have h:=qO_ H
  unfold Dist at h⊢
  rw[List.map_map,List.pairwise_map]
  exact h
 have ht:dZ_ ss (memG (gsE es)) a∈(rdx ss 0).map (dZ_ ss (memG (gsE es))):=List.mem_map.2 ⟨a,H.mem_rdx.2 ha,rfl⟩
 have:=lookP_its (f:=fun t=>t.i) hd ht
 show aE_ (((rdx ss 0).map (dZ_ ss (memG (gsE es)))).filterMap fun t=>t.i.map fun n=>(t.code,n)) (dZ_ ss (memG (gsE es)) a).code=_
 rw[this]
 show optC (parK ss a)=_
 cases parK ss a <;> rfl
theorem nxt_par {ss:List Sh} (H:Ld ss) (es:List Ge) (ls:List Wr) {a:Sh} (ha:a∈ss):nxtP (eN_ ss es ls).inside a.code=match parK ss a with|none=>0|some p=>p.code:=by
 unfold nxtP
 rw[saidOf_inside H es ls ha]
 cases parK ss a <;> rfl
theorem upsL_none {ss:List Sh} {k:Nat} {a:Sh} (h:parK ss a=none):upsL ss k a=[]:=by
 cases k with
 | zero=>rfl
 | succ k=>unfold upsL;rw[h]
theorem upsL_some {ss:List Sh} {k:Nat} {a p:Sh} (h:parK ss a=some p):upsL ss (k+1) a=p.code::upsL ss k p:=by
 show(match parK ss a with|none=>[]|some p=>p.code::upsL ss k p)=_
 rw[h]
def holdsL (b a:Sh):Bool:=(b.kind==2)&&(b.code != a.code)&&jG_ a.rect b.rect&&(!decide (a.rect=b.rect)||decide (b.code<a.code))
theorem holdsL_eq (b a:Sh):holdsL b a=bQ_ b a:=by
 rw[Bool.eq_iff_iff]
 unfold holdsL bQ_ vK_
 simp only[Bool.and_eq_true,Bool.or_eq_true,decide_eq_true_eq,Bool.not_eq_true',beq_iff_eq,bne_iff_ne,decide_eq_false_iff_not,ne_eq]
 constructor
 ·rintro⟨⟨⟨h1,h2⟩,h3⟩,h4⟩
  refine⟨⟨h1,?_⟩,h3⟩
  rcases Int.lt_trichotomy b.code a.code with h|h|h
  ·exact .inl h
  ·exact absurd h h2
  ·right
   refine⟨h,fun e=>?_⟩
   rcases h4 with h4|h4
   ·exact h4 e.symm
   ·omega
 ·rintro⟨⟨h1,h2⟩,h3⟩
  refine⟨⟨⟨h1,by omega⟩,h3⟩,?_⟩
  rcases h2 with h2|⟨h2,h4⟩
  ·exact .inr h2
  ·exact .inl fun e=>h4 e.symm
theorem hold6 (k c i r l:Bool):(k=false∧Hid ((k&&c&&i&&(!r||l))=false))∨(k=true∧c=false∧Hid ((k&&c&&i&&(!r||l))=false))∨(k=true∧c=true∧i=false∧Hid ((k&&c&&i&&(!r||l))=false))∨(k=true∧c=true∧i=true∧r=false∧Hid ((k&&c&&i&&(!r||l))=true))∨(k=true∧c=true∧i=true∧r=true∧l=false∧Hid ((k&&c&&i&&(!r||l))=false))∨(k=true∧c=true∧i=true∧r=true∧l=true∧Hid ((k&&c&&i&&(!r||l))=true)):=by
 unfold Hid
 revert k c i r l
 decide
end Go.Proofs.YtdkaohphbgdkpaaGreatDoor
