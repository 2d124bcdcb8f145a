/- - -/
import Derived.Lib.ItoaMem
import Derived.Test.YtdkaohphbgdkpaaGreatDoorZDig
set_option maxHeartbeats 40000000
set_option maxRecDepth 1000000
namespace Go.Proofs.YtdkaohphbgdkpaaGreatDoor
def txtN (n:Nat):List UInt8:=if n=0 then [48] else (dig 10 n).reverse.map fun d=>UInt8.ofNat (48+d)
def txt (z:Int):List UInt8:=if z<0 then 45::txtN z.natAbs else txtN z.natAbs
def nDig (n:Nat):Nat:=(txtN n).length
def str (z:Int):ByteArray:=⟨(txt z).toArray⟩
theorem cX_ {n:Nat} (h:0<n):txtN n=(dig 10 n).reverse.map fun d=>UInt8.ofNat (48+d):=by unfold txtN;rw[if_neg (by omega)]
theorem fU_ (n:Nat):Lib.decDigits n=txtN n:=by
 induction n using fM_ (B:=10) (by omega) with
 | h0=>rw[Lib.decDigits];rfl
 | hs n hn ih=>
  rw[Lib.decDigits]
  by_cases h:n<10
  ·rw[dif_pos h,cX_ hn,xI_ (by omega) hn h];rfl
  ·rw[dif_neg h,ih,cX_ hn,cX_ (by omega),cD_ (by omega) hn]
   simp
theorem aAD (z:Int):Lib.itoa z=txt z:=by
 unfold Lib.itoa txt
 rw[fU_,fU_]
 by_cases h:z<0
 ·rw[if_pos h,if_pos h]
 ·rw[if_neg h,if_neg h,show z.toNat=z.natAbs from by omega]
theorem iI_ {d:Nat} (h:d<10):(UInt8.ofNat (48+d)).toNat=48+d:=by simp;omega
theorem zX_ (n:Nat):0<nDig n:=by
 unfold nDig
 by_cases h:n=0
 ·subst h;decide
 ·rw[cX_ (by omega),cD_ (by omega) (by omega)];simp
theorem hB_ {n k:Nat} (hk:0<k):nDig n≤k↔n<10^k:=by
 unfold nDig
 by_cases h:n=0
 ·subst h
  have:0<10^k:=Nat.pow_pos (by omega)
  simp[txtN]
  omega
 ·rw[cX_ (by omega)]
  simp only[List.length_map,List.length_reverse]
  exact aQ_ (by omega) n k
def valB (l:List UInt8):Nat:=val 10 (l.reverse.map fun c=>c.toNat-48)
theorem bO_ (n:Nat):valB (txtN n)=n:=by
 by_cases h:n=0
 ·subst h;rfl
 ·rw[cX_ (by omega),valB,←List.map_reverse,List.reverse_reverse,List.map_map]
  have:(dig 10 n).map ((fun c:UInt8=>c.toNat-48)∘fun d=>UInt8.ofNat (48+d))=dig 10 n:=by
   conv=>rhs;rw[←List.map_id (dig 10 n)]
   apply List.map_congr_left
   intro d hd
   have:=bR_ (B:=10) (by omega) n d hd
   simp only[Function.comp]
   rw[iI_ this]
   simp
  rw[this,cA_ (by omega)]
theorem qF_ {n m:Nat} (h:txtN n=txtN m):n=m:=by rw[←bO_ n,←bO_ m,h]
theorem aZ_ (n:Nat):∀c∈txtN n,48≤c.toNat∧c.toNat≤57:=by
 intro c hc
 by_cases h:n=0
 ·subst h;simp[txtN] at hc;subst hc;decide
 ·rw[cX_ (by omega)] at hc
  obtain⟨d,hd,rfl⟩:=List.mem_map.1 hc
  have:=bR_ (B:=10) (by omega) n d (by simpa using hd)
  rw[iI_ this]
  omega
theorem aCU {a b:Int} (h:txt a=txt b):a=b:=by
 unfold txt at h
 have key:∀n m,45::txtN n≠txtN m:=by
  intro n m e
  have:=aZ_ m 45 (by rw[←e];simp)
  revert this;decide
 by_cases h1:a<0 <;> by_cases h2:b<0
 ·rw[if_pos h1,if_pos h2] at h
  have:=qF_ (List.cons.inj h).2
  omega
 ·rw[if_pos h1,if_neg h2] at h;exact absurd h (key _ _)
 ·rw[if_neg h1,if_pos h2] at h;exact absurd h.symm (key _ _)
 ·rw[if_neg h1,if_neg h2] at h
  have:=qF_ h
  omega
theorem hV_ (z:Int):(str z).size=(txt z).length:=by
 show(txt z).toArray.size=_
 simp
theorem kA_ (z:Int):(txt z).length≤nDig z.natAbs+1:=by
 unfold txt nDig
 split <;> simp
def bP_ (l:List UInt8):List UInt8:=if l.head?=some 45 then l.tail else l
def aX_ (l:List UInt8):Bool:=!(bP_ l).isEmpty&&decide ((bP_ l).length≤200)&&(bP_ l).all (fun c=>decide (48≤c.toNat∧c.toNat≤57))&&(decide (l=[48])||decide ((bP_ l).head?≠some 48))
theorem iO_ {n:Nat} (hn:0<n):(txtN n).head?≠some 48:=by
 rw[cX_ hn]
 intro h
 have h1:=aBE (B:=10) (by omega) n
 rcases List.eq_nil_or_concat (dig 10 n) with h2|⟨ini,d,h2⟩
 ·rw[pN_ (by omega)] at h2;omega
 ·simp only[List.concat_eq_append] at h2
  rw[h2] at h h1
  simp only[List.reverse_append,List.reverse_cons,List.reverse_nil,List.nil_append,List.cons_append,List.map_cons,List.head?_cons,Option.some.injEq] at h
  have hd:d<10:=bR_ (B:=10) (by omega) n d (by rw[h2];simp)
  have h3:d=0:=by
   have:=congrArg UInt8.toNat h
   rw[iI_ hd] at this
   simp at this
   omega
  subst h3
  rw[fR_] at h1
  have h4:(trim ini).length≤ini.length:=by
   clear h h1 h2 hd
   induction ini with
   | nil=>simp[trim]
   | cons x xs ih=>simp only[trim];split <;> simp <;> omega
  rw[h1] at h4
  simp only[List.length_append,List.length_cons,List.length_nil] at h4
  omega
theorem iN_ {l:List UInt8} (hne:l≠[]) (hd:∀c∈l,48≤c.toNat∧c.toNat≤57) (hh:l.head?≠some 48):txtN (valB l)=l∧0<valB l:=by
 have hlt:∀d∈l.reverse.map (fun c=>c.toNat-48),d<10:=by
  intro d h
  obtain⟨c,hc,rfl⟩:=List.mem_map.1 h
  have:=hd c (by simpa using hc)
  omega
 have hlast:trim (l.reverse.map fun c=>c.toNat-48)=l.reverse.map fun c=>c.toNat-48:=by
  apply mV_
  intro d h
  rw[List.getLast?_map,List.getLast?_reverse] at h
  cases l with
  | nil=>exact absurd rfl hne
  | cons c cs=>
   simp at h hh
   have:=hd c (by simp)
   intro h0
   apply hh
   apply UInt8.toNat_inj.1
   show c.toNat=48
   omega
 have hdig:dig 10 (valB l)=l.reverse.map fun c=>c.toNat-48:=by
  rw[←hlast,valB]
  exact(eF_ (by omega) _ hlt).symm
 have hpos:0<valB l:=by
  rcases Nat.eq_zero_or_pos (valB l) with h|h
  ·rw[h,dR_] at hdig
   have:=congrArg List.length hdig
   simp at this
   exact absurd this.symm (by simpa using hne)
  ·exact h
 refine⟨?_,hpos⟩
 rw[cX_ hpos,hdig,←List.map_reverse,List.reverse_reverse,List.map_map]
 conv=>rhs;rw[←List.map_id l]
 apply List.map_congr_left
 intro c hc
 have:=hd c hc
 simp only[Function.comp,id]
 apply UInt8.toNat_inj.1
 rw[iI_ (by omega)]
 omega
theorem gW_ (z:Int):bP_ (txt z)=txtN z.natAbs:=by
 unfold bP_ txt
 by_cases h:z<0
 ·rw[if_pos h];simp
 ·rw[if_neg h,if_neg]
  intro e
  have:(45:UInt8)∈txtN z.natAbs:=List.mem_of_mem_head? (by rw[e];simp)
  have:=aZ_ _ _ this
  revert this;decide
theorem gX_ (n:Nat):txtN n≠[]:=by
 intro h
 have:=zX_ n
 unfold nDig at this
 rw[h] at this
 simp at this
theorem fD_ (z:Int):aX_ (txt z)=decide (nDig z.natAbs≤200):=by
 unfold aX_
 rw[gW_]
 have h1:(txtN z.natAbs).isEmpty=false:=by
  cases h:txtN z.natAbs with
  | nil=>exact absurd h (gX_ _)
  | cons=>rfl
 have h2:(txtN z.natAbs).all (fun c=>decide (48≤c.toNat∧c.toNat≤57))=true:=by
  rw[List.all_eq_true]
  intro c hc
  simpa using aZ_ _ c hc
 have h3:(decide (txt z=[48])||decide ((txtN z.natAbs).head?≠some 48))=true:=by
  by_cases h:z=0
  ·subst h;decide
  ·rw[Bool.or_eq_true];right;simpa using iO_ (n:=z.natAbs) (by omega)
 rw[h1,h2,h3]
 simp only[Bool.not_false,Bool.true_and,Bool.and_true]
 exact decide_eq_decide.2 Iff.rfl
theorem tM_ {l:List UInt8} (h:aX_ l=true):∃z,l=txt z∧nDig z.natAbs≤200:=by
 have hv:=h
 unfold aX_ at h
 simp only[Bool.and_eq_true,Bool.or_eq_true,Bool.not_eq_true',decide_eq_true_eq,List.all_eq_true] at h
 obtain⟨⟨⟨h1,h2⟩,h3⟩,h4⟩:=h
 have hne:bP_ l≠[]:=by intro e;rw[e] at h1;simp at h1
 have key:∃z,l=txt z:=by
  rcases h4 with h4|h4
  ·exact⟨0,h4⟩
  ·obtain⟨h5,h6⟩:=iN_ hne h3 h4
   unfold bP_ at h5 h6
   by_cases hs:l.head?=some 45
   ·rw[if_pos hs] at h5 h6
    refine⟨-(valB l.tail:Int),?_⟩
    unfold txt
    rw[if_pos (by omega),show(-(valB l.tail:Int)).natAbs=valB l.tail from by omega,h5]
    cases l with
    | nil=>simp at hs
    | cons c cs=>simp at hs;simp[hs]
   ·rw[if_neg hs] at h5 h6
    refine⟨(valB l:Int),?_⟩
    unfold txt
    rw[if_neg (by omega),show((valB l:Nat):Int).natAbs=valB l from by omega,h5]
 obtain⟨z,rfl⟩:=key
 rw[fD_] at hv
 exact⟨z,rfl,by simpa using hv⟩
end Go.Proofs.YtdkaohphbgdkpaaGreatDoor
