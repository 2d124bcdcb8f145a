/- - -/
import Derived.Test.YtdkaohphbgdkpaaGreatDoorZOut
import Derived.Test.YtdkaohphbgdkpaaGreatDoorZMade
import Derived.Test.YtdkaohphbgdkpaaGreatDoorZParse
import Derived.Test.YtdkaohphbgdkpaaGreatDoorZRTim
set_option maxHeartbeats 40000000
set_option maxRecDepth 1000000
namespace Go.Proofs.YtdkaohphbgdkpaaGreatDoor
open Go.RowKit Go.Shelf
attribute [local go_sem] Oper.semAt_some
theorem sB_ {z:Int} {s:ByteArray} {n:Int} (hs:aG_ z=true) (h:outZ z=#[.string s,.int .i64 n]):s=str z∧n=0:=by
 unfold outZ at h
 rw[if_pos hs] at h
 simp only[Array.mk.injEq,List.cons.injEq,Value.string.injEq,Value.int.injEq,true_and,and_true] at h
 exact⟨h.1.symm,h.2.symm⟩
theorem sC_ {z:Int} {s:ByteArray} {n:Int} (hs:aG_ z=false) (h:outZ z=#[.string s,.int .i64 n]):s=⟨#[]⟩∧n=30:=by
 unfold outZ at h
 rw[if_neg (by rw[hs];simp)] at h
 simp only[Array.mk.injEq,List.cons.injEq,Value.string.injEq,Value.int.injEq,true_and,and_true] at h
 exact⟨h.1.symm,h.2.symm⟩
theorem aEV {w:World} {s:ByteArray} {b:Bool} (hs:s.size≤9223372036854775807) (hb:aX_ s.data.toList=b) (W:World) (hk:Below w.heap.size w W) :
  Calls Tryz.prog 160 #[.string s] W fun e W'=>e=.returned (.bool b)∧Below w.heap.size w W':=by
 refine(xZ_ s W hs).mono ?_
 rintro e w' ⟨rfl,h⟩
 rw[dI_,hb]
 exact⟨rfl,hk.trans (h.mono hk.size)⟩
theorem yD_ {w:World} (hG:Glob w) {z:Int} {s:ByteArray} (h0 : -9223372036854775808≤z) (h1:z≤9223372036854775807) (es:s=str z) (W:World) (hk:Below w.heap.size w W) :
  Calls Tryz.prog 128 #[.int .i64 z] W fun e W'=>e=.returned (.string s)∧Below w.heap.size w W':=by
 subst es
 refine(pV_ z W (hG.below hk) h0 h1).mono ?_
 rintro e w' ⟨rfl,hb⟩
 exact⟨rfl,hk.trans (hb.mono hk.size)⟩
theorem vJ_ {z:Int} {s:ByteArray} {k:Int} (h:outZ z=#[.string s,.int .i64 k]):s=opS (some z)∧k=opN (some z):=by
 by_cases hs:aG_ z=true
 ·rw[bK_ hs,jA_ hs]
  exact sB_ hs h
 ·have hs':aG_ z=false:=by simpa using hs
  have e1:opS (some z)=⟨#[]⟩:=by unfold opS;exact if_neg hs
  have e2:opN (some z)=30:=by unfold opN;exact if_neg hs
  rw[e1,e2]
  exact sC_ hs' h
theorem qS_ {a b:ByteArray} (h:aK_ a=none∨aK_ b=none):(aX_ a.data.toList&&aX_ b.data.toList)=false:=by
 rw[←dI_,←dI_]
 rcases h with h|h
 ·rw[h];rfl
 ·rw[h];simp
theorem hL_ {a:ByteArray} {x:Int} (h:aK_ a=some x):a=str x∧aG_ x=true:=dF_ h
theorem aAN {w:World} (hG:Glob w) {a b:ByteArray} (ha:Sz a) (hb:Sz b) (W:World) (hk:Below w.heap.size w W) :
  Calls Tryz.prog 191 #[.string a,.string b] W fun e W'=>e=.returned (.tuple #[.string (opS (subO a b)),.int .i64 (opN (subO a b))])∧Below w.heap.size w W':=by
 have hno:(aK_ a=none∨aK_ b=none)→subO a b=none→Calls Tryz.prog 191 #[.string a,.string b] W fun e W'=>e=.returned (.tuple #[.string (opS (subO a b)),.int .i64 (opN (subO a b))])∧Below w.heap.size w W':=fun h ho=>by
  rw[ho,iB_,iC_]
  refine(Sub_no a b W ha.le hb.le (qS_ h)).mono ?_
  rintro e w2 ⟨rfl,h2⟩
  exact⟨rfl,hk.trans (h2.mono hk.size)⟩
 cases h1:aK_ a with
 | none=>exact hno (.inl h1) (by unfold subO;rw[h1])
 | some x=>
  cases h2:aK_ b with
  | none=>exact hno (.inr h2) (by unfold subO;rw[h1,h2])
  | some y=>
   obtain⟨ea,hx⟩:=hL_ h1
   obtain⟨eb,hy⟩:=hL_ h2
   have ho:subO a b=some (x-y):=by unfold subO;rw[h1,h2]
   rw[ho]
   subst ea eb
   refine(Sub_ok x y W (hG.below hk) hx hy).mono ?_
   rintro e w2 ⟨⟨s,n,h3,rfl⟩,h4⟩
   obtain⟨rfl,rfl⟩:=vJ_ h3
   exact⟨rfl,hk.trans (h4.mono hk.size)⟩
theorem aAO {w:World} (hG:Glob w) {a b:ByteArray} (ha:Sz a) (hb:Sz b) (W:World) (hk:Below w.heap.size w W) :
  Calls Tryz.prog 192 #[.string a,.string b] W fun e W'=>e=.returned (.tuple #[.string (opS (gcdO a b)),.int .i64 (opN (gcdO a b))])∧Below w.heap.size w W':=by
 have hno:(aK_ a=none∨aK_ b=none)→gcdO a b=none→Calls Tryz.prog 192 #[.string a,.string b] W fun e W'=>e=.returned (.tuple #[.string (opS (gcdO a b)),.int .i64 (opN (gcdO a b))])∧Below w.heap.size w W':=fun h ho=>by
  rw[ho,iB_,iC_]
  refine(Gcd_no a b W ha.le hb.le (qS_ h)).mono ?_
  rintro e w2 ⟨rfl,h2⟩
  exact⟨rfl,hk.trans (h2.mono hk.size)⟩
 cases h1:aK_ a with
 | none=>exact hno (.inl h1) (by unfold gcdO;rw[h1])
 | some x=>
  cases h2:aK_ b with
  | none=>exact hno (.inr h2) (by unfold gcdO;rw[h1,h2])
  | some y=>
   obtain⟨ea,hx⟩:=hL_ h1
   obtain⟨eb,hy⟩:=hL_ h2
   have ho:gcdO a b=some (((Nat.gcd x.natAbs y.natAbs:Nat):Int)):=by unfold gcdO;rw[h1,h2]
   rw[ho]
   subst ea eb
   refine(Gcd_ok x y W (hG.below hk) hx hy).mono ?_
   rintro e w2 ⟨⟨s,n,h3,rfl⟩,h4⟩
   obtain⟨rfl,rfl⟩:=vJ_ h3
   exact⟨rfl,hk.trans (h4.mono hk.size)⟩
theorem aAP {w:World} (hG:Glob w) {a b:ByteArray} (ha:Sz a) (hb:Sz b) (W:World) (hk:Below w.heap.size w W) :
  Calls Tryz.prog 216 #[.string a,.string b] W fun e W'=>e=.returned (.tuple #[.string (opS (divO a b)),.string (opS (modO a b)),.int .i64 (opN (divO a b))])∧Below w.heap.size w W':=by
 have hno:(aK_ a=none∨aK_ b=none)→divO a b=none→modO a b=none→Calls Tryz.prog 216 #[.string a,.string b] W fun e W'=>e=.returned (.tuple #[.string (opS (divO a b)),.string (opS (modO a b)),.int .i64 (opN (divO a b))])∧Below w.heap.size w W':=fun h ho hm=>by
  rw[ho,hm,iB_,iC_]
  refine(Div_no a b W ha.le hb.le (qS_ h)).mono ?_
  rintro e w2 ⟨rfl,h2⟩
  exact⟨rfl,hk.trans (h2.mono hk.size)⟩
 cases h1:aK_ a with
 | none=>exact hno (.inl h1) (by unfold divO;rw[h1]) (by unfold modO;rw[h1])
 | some x=>
  cases h2:aK_ b with
  | none=>exact hno (.inr h2) (by unfold divO;rw[h1,h2]) (by unfold modO;rw[h1,h2])
  | some y=>
   obtain⟨ea,hx⟩:=hL_ h1
   obtain⟨eb,hy⟩:=hL_ h2
   by_cases hy0:y=0
   ·have ho:divO a b=none:=by unfold divO;rw[h1,h2];exact if_pos hy0
    have hm:modO a b=none:=by unfold modO;rw[h1,h2];exact if_pos hy0
    rw[ho,hm,iB_,iC_]
    subst hy0
    subst ea eb
    refine(aBT x W (hG.below hk) hx).mono ?_
    rintro e w2 ⟨rfl,h4⟩
    exact⟨rfl,hk.trans (h4.mono hk.size)⟩
   ·have ho:divO a b=some (x/y):=by unfold divO;rw[h1,h2];exact if_neg hy0
    have hm:modO a b=some (x%y):=by unfold modO;rw[h1,h2];exact if_neg hy0
    rw[ho,hm,bK_ (cB_ y hx),bK_ (gH_ hy0 hy),jA_ (cB_ y hx)]
    subst ea eb
    refine(Div_ok x y W (hG.below hk) hx hy hy0).mono ?_
    rintro e w2 ⟨rfl,h4⟩
    exact⟨rfl,hk.trans (h4.mono hk.size)⟩
theorem oE_ {w:World} {a b:ByteArray} (ha:Sz a) (hb:Sz b) (W:World) (hk:Below w.heap.size w W) :
  Calls Tryz.prog 189 #[.string a,.string b] W fun e W'=>e=.returned (.int .i64 (cmpO a b))∧Below w.heap.size w W':=by
 have hno:(aK_ a=none∨aK_ b=none)→cmpO a b=0→Calls Tryz.prog 189 #[.string a,.string b] W fun e W'=>e=.returned (.int .i64 (cmpO a b))∧Below w.heap.size w W':=fun h ho=>by
  rw[ho]
  refine(tG_ a b W ha.le hb.le (qS_ h)).mono ?_
  rintro e w2 ⟨rfl,h2⟩
  exact⟨rfl,hk.trans (h2.mono hk.size)⟩
 cases h1:aK_ a with
 | none=>exact hno (.inl h1) (by unfold cmpO;rw[h1])
 | some x=>
  cases h2:aK_ b with
  | none=>exact hno (.inr h2) (by unfold cmpO;rw[h1,h2])
  | some y=>
   obtain⟨ea,hx⟩:=hL_ h1
   obtain⟨eb,hy⟩:=hL_ h2
   have ho:cmpO a b=cmpI x y:=by unfold cmpO;rw[h1,h2]
   rw[ho]
   subst ea eb
   refine(tF_ x y W hx hy).mono ?_
   rintro e w2 ⟨rfl,h4⟩
   exact⟨rfl,hk.trans (h4.mono hk.size)⟩
theorem sN_ {w:World} {a:ByteArray} (ha:Sz a) (W:World) (hk:Below w.heap.size w W) :
  Calls Tryz.prog 160 #[.string a] W fun e W'=>e=.returned (.bool (aX_ a.data.toList))∧Below w.heap.size w W':=aEV ha.le rfl W hk
theorem IOps.of_glob {w:World} (hG:Glob w):IOps w where
 val ha W _:=sN_ ha W (Below.refl _ _)
 cmp ha hb W _:=oE_ ha hb W (Below.refl _ _)
 gcd ha hb W hk:=aAO (hG.below hk) ha hb W (Below.refl _ _)
 sub ha hb W hk:=aAN (hG.below hk) ha hb W (Below.refl _ _)
 div ha hb W hk:=aAP (hG.below hk) ha hb W (Below.refl _ _)
theorem FrOp.of_glob {w:World} (hG:Glob w):FrOp w:=fun _ h1 h2 W hk=>yD_ (hG.below hk) h1 h2 rfl W (Below.refl _ _)
end Go.Proofs.YtdkaohphbgdkpaaGreatDoor
