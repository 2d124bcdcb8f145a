/- - -/
import Derived.Shelf.Strings.SlTrimAscii
import Derived.Lib.Hide
import Derived.Test.YtdkaohphbgdkpaaGreatDoorZBase
import Derived.Test.YtdkaohphbgdkpaaGreatDoorZTxt
import Derived.Test.YtdkaohphbgdkpaaGreatDoorZShelf
set_option maxHeartbeats 40000000
set_option maxRecDepth 1000000
namespace Go.Proofs.YtdkaohphbgdkpaaGreatDoor
open Go.RowKit Go.Shelf
attribute [local go_sem] Oper.semAt_some
theorem dV_ (l:List UInt8):Lib.trimPrefix l [45]=bP_ l:=by
 cases l with
 | nil=>rfl
 | cons a t=>
  by_cases h:a=45
  ·subst h;simp[Lib.trimPrefix,bP_,Lib.hasPrefix]
  ·have h':¬45=a:=fun e=>h e.symm
   simp[Lib.trimPrefix,bP_,Lib.hasPrefix,h,h']
def tens:List UInt8:=[48,49,50,51,52,53,54,55,56,57]
theorem yW_ (c:UInt8):tens.contains c=decide (48≤c.toNat∧c.toNat≤57):=by
 have key:∀n:Fin 256,tens.contains (UInt8.ofNat n.val)=decide (48≤(UInt8.ofNat n.val).toNat∧(UInt8.ofNat n.val).toNat≤57):=by decide +kernel
 have:=key ⟨c.toNat,c.toNat_lt⟩
 simpa using this
theorem eK_ {α} (p:α→Bool) (l:List α):l.dropWhile p=[]↔l.all p=true:=by
 induction l with
 | nil=>simp
 | cons a t ih=>
  by_cases h:p a=true
  ·rw[List.dropWhile_cons_of_pos h,ih];simp[h]
  ·rw[List.dropWhile_cons_of_neg h];simp[h]
theorem mG_ {α} (p:α→Bool) (l:List α) (h:(l.dropWhile p).all p=true):l.dropWhile p=[]:=by
 induction l with
 | nil=>rfl
 | cons a t ih=>
  by_cases ha:p a=true
  ·rw[List.dropWhile_cons_of_pos ha] at h⊢;exact ih h
  ·rw[List.dropWhile_cons_of_neg ha] at h;simp[ha] at h
theorem rP_ (l:List UInt8):Lib.trimS l tens=[]↔(l.all fun c=>decide (48≤c.toNat∧c.toNat≤57))=true:=by
 have e:(fun c=>tens.contains c)=fun c:UInt8=>decide (48≤c.toNat∧c.toNat≤57):=funext yW_
 unfold Lib.trimS Lib.trimLeftS Lib.trimRightS
 rw[eK_]
 rw[List.all_reverse,e]
 constructor
 ·intro h
  have:=(eK_ _ _).1 (mG_ _ _ h)
  rwa[List.all_reverse] at this
 ·intro h
  rw[←List.all_reverse] at h
  rw[(eK_ _ _).2 h];rfl
theorem dK_ (s:ByteArray) (w:World) (hs:s.size≤9223372036854775807) :
  Calls Tryz.prog 188 #[.string s] w fun e w'=>e=.returned (.bool (aX_ s.data.toList))∧Below w.heap.size w w':=by
 have hT:=Tryz.strings_TrimPrefix s ⟨#[45]⟩ w
 rw[show(⟨#[45]⟩:ByteArray).data.toList=[45] from rfl,dV_] at hT
 generalize hl:s.data.toList=l at hT⊢
 have h45:¬(s=(⟨#[48]⟩:ByteArray))∨l=[48]:=by
  by_cases h:s=(⟨#[48]⟩:ByteArray)
  ·right;rw[←hl,h]
  ·left;exact h
 generalize hu:bP_ l=u at hT
 have hul:u.length≤l.length:=by
  rw[←hu];unfold bP_;split
  ·rw[List.length_tail];omega
  ·exact Nat.le_refl _
 have hll:l.length≤9223372036854775807:=by rw[←hl];exact hs
 have hTr:Calls Tryz.prog 209 #[.string ⟨u.toArray⟩,.string ⟨#[48,49,50,51,52,53,54,55,56,57]⟩] w fun e w'=>(∃t:ByteArray,e=.returned (.string t)∧t.toList.isEmpty=(u.all fun c=>decide (48≤c.toNat∧c.toNat≤57)))∧Below w.heap.size w w':=by
  refine(Any.strings_Trim_laid Tryz.lays160 (by kernel_rfl) ⟨u.toArray⟩ ⟨#[48,49,50,51,52,53,54,55,56,57]⟩ w (by show u.length≤_;omega) (by decide) (ascii_of_all (by decide))).mono ?_
  rintro e w' ⟨rfl,hb⟩
  refine⟨⟨_,rfl,?_⟩,hb⟩
  have key:=rP_ u
  show((ByteArray.mk (Lib.trimS u tens).toArray).toList.isEmpty=_)
  rw[Lib.toList_data,Bool.eq_iff_iff,←key]
  simp
 have hs48:(s.toList == [48])=decide (l=[48]):=by
  rw[Lib.toList_data,hl,Bool.eq_iff_iff];simp
 have hv:aX_ l=(!u.isEmpty&&decide (u.length≤200)&&(u.all fun c=>decide (48≤c.toNat∧c.toNat≤57))&&(decide (l=[48])||decide (u.head?≠some 48))):=by
  unfold aX_;rw[hu]
 rw[hv]
 have h0:∀h:0<u.length,((((⟨u.toArray⟩:ByteArray)[0]'h).toNat:Int) != 48)=decide (u.head?≠some 48):=by
  intro h
  cases u with
  | nil=>simp at h
  | cons c t=>
   show((c.toNat:Int) != 48)=_
   rw[Bool.eq_iff_iff,bne_iff_ne,decide_eq_true_iff]
   simp only[List.head?_cons,ne_eq,Option.some.injEq]
   refine not_congr ⟨fun e=>UInt8.toNat_inj.1 (by show c.toNat=48;omega),fun e=>by rw[e];rfl⟩
 have hnot:u.isEmpty=false→¬0<u.length→False:=by
  intro h1 h2;cases u <;> simp_all
 generalize (u.all fun c=>decide (48≤c.toNat∧c.toNat≤57))=A at hTr⊢
 clear hv
 go_enter Tryz.func188,Tryz.ntmps188
 go_wp2_with (first
  | (go_at_call 208;refine hT.mono ?_;rintro e w' ⟨rfl,rfl⟩)
  | (go_at_call 209;refine hTr.mono ?_;rintro e w' ⟨⟨t,rfl,ht⟩,hb⟩))
 all_goals first
  | (go_ret
     refine⟨congrArg (fun b=>Ending.returned (Value.bool b)) ?_,by first|exact Below.refl _ _|exact hb⟩
     clear hTr hT hs48
     first
      | (simp_all;done)
      | (have hB:(u.length≤200):=by omega
         rw[h0 (by assumption)]
         clear h0 hnot
         simp_all;done)
      | (have hB:¬(u.length≤200):=by omega
         rw[decide_eq_false hB];simp;done)
      | (have hB:¬(u.length≤200):=by omega
         simp_all;done)
      | (have hB:(u.length≤200):=by omega
         cases A <;> simp_all <;> omega))
  | (exfalso;exact hnot (by simp_all) (by assumption))
end Go.Proofs.YtdkaohphbgdkpaaGreatDoor
