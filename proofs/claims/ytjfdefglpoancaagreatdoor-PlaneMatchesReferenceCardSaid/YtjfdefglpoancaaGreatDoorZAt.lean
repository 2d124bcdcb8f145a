/- - -/
import Derived.Deep.RegionHeld3
import Derived.IntWalk
import Derived.Test.YtjfdefglpoancaaGreatDoorZOut
import Derived.Test.YtjfdefglpoancaaGreatDoorZMade
import Derived.Test.YtjfdefglpoancaaGreatDoorZParse
import Derived.Test.YtjfdefglpoancaaGreatDoorZRTim
import Derived.Test.YtjfdefglpoancaaGreatDoorZPl2
import Derived.Test.YtjfdefglpoancaaGreatDoorZNum
import Derived.Test.YtjfdefglpoancaaGreatDoorZBack
set_option maxHeartbeats 40000000
set_option maxRecDepth 1000000
open Go.Lib (hid)
namespace Go.Proofs.YtjfdefglpoancaaGreatDoor
open Go.RowKit Go.Shelf
attribute [local go_sem] Oper.semAt_some
theorem aBO {z:Int} {s:ByteArray} {n:Int} (hs:small z=true) (h:outZ z=#[.string s,.int .i64 n]):s=str z∧n=0:=by
 unfold outZ at h
 rw[if_pos hs] at h
 simp only[Array.mk.injEq,List.cons.injEq,Value.string.injEq,Value.int.injEq,true_and,and_true] at h
 exact⟨h.1.symm,h.2.symm⟩
theorem aBP {z:Int} {s:ByteArray} {n:Int} (hs:small z=false) (h:outZ z=#[.string s,.int .i64 n]):s=⟨#[]⟩∧n=30:=by
 unfold outZ at h
 rw[if_neg (by rw[hs];simp)] at h
 simp only[Array.mk.injEq,List.cons.injEq,Value.string.injEq,Value.int.injEq,true_and,and_true] at h
 exact⟨h.1.symm,h.2.symm⟩
theorem aRI {w:World} {s:ByteArray} {b:Bool} (hs:s.size≤9223372036854775807) (hb:aH_ s.data.toList=b) (W:World) (hk:Below w.heap.size w W) :
  Calls Tryz.prog 133 #[.string s] W fun e W'=>e=.returned (.bool b)∧Below w.heap.size w W':=by
 refine(aIN s W hs).mono ?_
 rintro e w' ⟨rfl,h⟩
 rw[bI_,hb]
 exact⟨rfl,hk.trans (h.mono hk.size)⟩
def Bd (z:Int) (k:Nat):Prop:=z.natAbs<10^k
theorem Bd.mono {z:Int} {k l:Nat} (h:Bd z k) (hk:k≤l):Bd z l:=Nat.lt_of_lt_of_le h (Nat.pow_le_pow_right (by omega) hk)
theorem Bd.small {z:Int} {k:Nat} (h:Bd z k) (hk:k≤200):small z=true:=by
 unfold Go.Proofs.YtjfdefglpoancaaGreatDoor.small
 exact decide_eq_true ((jZ_ (by omega)).2 (h.mono hk))
theorem aEH {z:Int} (h0 : -9223372036854775808≤z) (h1:z≤9223372036854775807):small z=true:=by
 have h:z.natAbs<10^19:=by
  have:(10:Nat)^19=10000000000000000000:=by decide
  omega
 exact Bd.small (k:=19) h (by decide)
theorem aIO {w:World} (hG:Glob w) {z:Int} {s:ByteArray} (h0 : -9223372036854775808≤z) (h1:z≤9223372036854775807) (es:s=str z) (W:World) (hk:Below w.heap.size w W) :
  Calls Tryz.prog 99 #[.int .i64 z] W fun e W'=>e=.returned (.string s)∧Below w.heap.size w W':=by
 subst es
 refine(yO_ z W (hG.below hk) h0 h1).mono ?_
 rintro e w' ⟨rfl,hb⟩
 exact⟨rfl,hk.trans (hb.mono hk.size)⟩
theorem oH_ (neg:Bool) (v:Value) (n:Nat) (lo top:Nat) (w:World) (h:Nr w v n lo top) (b:top≤w.heap.size) (hl:(dig 10 n).length≤1000000) :
  Calls Tryz.prog 136 #[.bool neg,v] w fun e w'=>(∃s,s=str (if neg=true then -(n:Int) else n)∧e=.returned (.tuple #[.string s,.bool (small (if neg=true then -(n:Int) else n))]))∧Below w.heap.size w w':=by
 rcases Nat.eq_zero_or_pos n with h0|h0
 ·subst h0
  obtain⟨a,cap,rfl⟩:∃a cap,v=.slice a 0 cap:=by obtain⟨a,cap,e,_⟩:=h;exact⟨a,cap,e⟩
  refine(aEJ neg a cap w).mono ?_
  rintro e w' ⟨rfl,rfl⟩
  refine⟨⟨⟨#[48]⟩,?_,?_⟩,Below.refl _ _⟩
  ·cases neg <;> rfl
  ·cases neg <;> rfl
 ·have hlen:0<(dig 10 n).length:=List.length_pos_iff.2 (by rw[Ne,lQ_ (by omega)];omega)
  have hsm:small (if neg=true then -(n:Int) else n)=decide (((dig 10 n).length:Int)≤200):=by
   unfold small nDig
   have e:(if neg=true then -(n:Int) else n).natAbs=n:=by split <;> omega
   rw[e,cU_ h0,List.length_map,List.length_reverse]
   exact decide_eq_decide.2 (by omega)
  refine(aEL neg v (dig 10 n) lo top w h b (bX_ (by omega) n) hl hlen).mono ?_
  rintro e w' ⟨⟨s,rfl,hs⟩,hb⟩
  refine⟨⟨s,?_,by rw[hsm]⟩,hb⟩
  have h1:digB (dig 10 n)=txtN n:=by rw[cU_ h0];rfl
  apply ByteArray.ext
  apply Array.toList_inj.1
  rw[hs,h1,cV_]
  unfold txt
  cases neg
  ·simp only[Bool.false_eq_true,if_false]
   rw[if_neg (by omega)];rfl
  ·simp only[if_true]
   rw[if_pos (by omega),show(-(n:Int)).natAbs=n from by omega];rfl
theorem fK_ (neg:Bool) (v:Value) (n:Nat) (z:Int) (lo top:Nat) (w:World) (h:Nr w v n lo top) (b:top≤w.heap.size) (hl:(dig 10 n).length≤1000000) (hz:z=if neg=true then -(n:Int) else n) :
  Calls Tryz.prog 131 #[.bool neg,v] w fun e w'=>(∃s k,outZ z=#[.string s,.int .i64 k]∧e=.returned (.tuple #[.string s,.int .i64 k]))∧Below w.heap.size w w':=by
 have ht:=oH_ neg v n lo top w h b hl
 rw[←hz] at ht
 have HT:=hid ht
 clear hz ht
 by_cases hs:small z=true
 ·have ho:outZ z=#[.string (str z),.int .i64 0]:=by unfold outZ;rw[if_pos hs]
  have HS:=hid hs
  have HO:=hid ho
  clear ho hs
  go_enter Tryz.func131,Tryz.ntmps131
  go_wp2_with (go_at_call 136;with_reducible refine(HT.out).mono ?_;rintro e w1 ⟨⟨s,hs,rfl⟩,hb1⟩;rw[HS.out];have HSS:=hid hs;clear hs)
  go_ret2
  exact⟨⟨s,0,by rw[HO.out,HSS.out],rfl⟩,hb1⟩
 ·have hs':small z=false:=by simpa using hs
  have ho:outZ z=#[.string ⟨#[]⟩,.int .i64 30]:=by unfold outZ;rw[if_neg hs]
  have HS:=hid hs'
  have HO:=hid ho
  clear ho hs hs'
  go_enter Tryz.func131,Tryz.ntmps131
  go_wp2_with (go_at_call 136;with_reducible refine(HT.out).mono ?_;rintro e w1 ⟨⟨s,hs,rfl⟩,hb1⟩;rw[HS.out];have HSS:=hid hs;clear hs)
  go_ret2
  exact⟨⟨⟨#[]⟩,30,by rw[HO.out],rfl⟩,hb1⟩
theorem aDY {n m k:Nat} (l1:(dig 10 n).length≤k) (l2:(dig 10 m).length≤k):(dig 10 (n+m)).length≤k+1:=by
 have h1:=(aD_ (B:=10) (by omega) n _).1 l1
 have h2:=(aD_ (B:=10) (by omega) m _).1 l2
 refine(aD_ (by omega) _ _).2 ?_
 rw[Nat.pow_succ]
 omega
theorem aDZ {n m:Nat} (l1:(dig 10 n).length≤90000) (l2:(dig 10 m).length≤90000):(dig 10 (n+m)).length≤90001:=aDY l1 l2
theorem tS_ {n m:Nat} (l1:(dig 10 n).length≤90000):(dig 10 (n-m)).length≤90001:=by
 have:=aG_ (B:=10) (by omega) (Nat.sub_le n m)
 omega
theorem zD_ (n1 n2:Bool) (v1 v2:Value) (n m:Nat) (x y:Int) (lo1 hi1 lo2 hi2:Nat) (w:World) (h1:Nr w v1 n lo1 hi1) (h2:Nr w v2 m lo2 hi2) (b1:hi1≤w.heap.size) (b2:hi2≤w.heap.size) (l1:(dig 10 n).length≤90000) (l2:(dig 10 m).length≤90000)
  (hx:x=if n1=true then -(n:Int) else n) (hy:y=if n2=true then -(m:Int) else m) :
  Calls Tryz.prog 164 #[.bool n1,v1,.bool n2,v2] w fun e w'=>(∃s k,outZ (x+y)=#[.string s,.int .i64 k]∧e=.returned (.tuple #[.string s,.int .i64 k]))∧Below w.heap.size w w':=by
 have hsl:=aDZ l1 l2
 have hd1:=tS_ (m:=m) l1
 have hd2:=tS_ (m:=n) l2
 have f1:cF_ n:=by unfold cF_;omega
 have f2:cF_ m:=by unfold cF_;omega
 have hfin:∀(W:World) (v:Value) (neg:Bool) (k:Nat),(dig 10 k).length≤90001→x+y=(if neg=true then -(k:Int) else k)→Below w.heap.size w W→Nr W v k w.heap.size W.heap.size→
   Calls Tryz.prog 131 #[.bool neg,v] W fun e w'=>(∃s k,outZ (x+y)=#[.string s,.int .i64 k]∧e=.returned (.tuple #[.string s,.int .i64 k]))∧Below w.heap.size w w':=fun W v neg k hk hz hb hv=>
  (fK_ neg v k (x+y) w.heap.size W.heap.size W hv (Nat.le_refl _) (by omega) hz).mono fun e w' ⟨he,hb'⟩=>⟨he,hb.trans (hb'.mono hb.size)⟩
 by_cases hs:n1=n2
 ·subst hs
  have hp:=uR_ v1 v2 n m lo1 hi1 lo2 hi2 w h1 h2 b1 b2 f1 f2
  have hf:=fun W v=>hfin W v n1 (n+m) hsl (by rw[hx,hy];cases n1 <;> simp <;> omega)
  have HP:=hid hp
  have HF:=hid hf
  have hbb:(n1==n1)=true:=by simp
  clear hp hf hfin hx hy h1 h2
  go_enter Tryz.func164,Tryz.ntmps164
  go_wp2_with (first
   | (go_at_call 162;with_reducible refine(HP.out).mono ?_;rintro e w1 ⟨⟨v,rfl,hv⟩,hb1⟩;have HV:=hid hv;clear hv)
   | (go_at_call 131;with_reducible refine(HF.out _ _ hb1 HV.out).mono ?_;rintro e w2 ⟨⟨s,k,hs,rfl⟩,hb2⟩;have HS:=hid hs;clear hs))
  go_ret2
  exact⟨⟨s,k,HS.out,rfl⟩,hb2⟩
 ·have hbb:(n1==n2)=false:=by simpa using hs
  have ho:Calls Tryz.prog 129 #[v1,v2] w fun e w'=>e=.returned (.int .i64 (cmpI n m))∧Below w.heap.size w w':=(iL_ _ _ n m _ _ _ _ _ h1 h2).mono fun e w' ⟨he,hs⟩=>⟨he,hs.below _⟩
  have HO:=hid ho
  by_cases hge:m≤n
  ·have hd:decide (0≤cmpI (n:Int) (m:Int))=true:=decide_eq_true (by unfold cmpI;rw[if_neg (by omega)];split <;> omega)
   have hm:∀W,Below w.heap.size w W→Calls Tryz.prog 163 #[v1,v2] W fun e w'=>∃v,e=.returned v∧Nr w' v (n-m) w.heap.size w'.heap.size∧Below w.heap.size w w':=fun W hW=>by
    have:=hW.size
    refine(iM_ v1 v2 n m lo1 hi1 lo2 hi2 W (h1.below hW b1) (h2.below hW b2) (by omega) (by omega) f1 f2 hge).mono ?_
    rintro e w' ⟨⟨v,rfl,hv⟩,hb⟩
    exact⟨v,rfl,hv.mono (by omega) (Nat.le_refl _),hW.trans (hb.mono hW.size)⟩
   have hf:=fun W v=>hfin W v n1 (n-m) hd1 (by rw[hx,hy];cases n1 <;> cases n2 <;> simp at hs⊢<;> omega)
   have HM:=hid hm
   have HF:=hid hf
   clear ho hm hf hfin hx hy h1 h2 hs
   go_enter Tryz.func164,Tryz.ntmps164
   go_wp2_with (first
    | (go_at_call 129;with_reducible refine(HO.out).mono ?_;rintro e w0 ⟨rfl,hb0⟩)
    | (go_at_call 163;with_reducible refine(HM.out _ hb0).mono ?_;rintro e w1 ⟨v,rfl,hv,hb1⟩;have HV:=hid hv;clear hv)
    | (go_at_call 131;with_reducible refine(HF.out _ _ hb1 HV.out).mono ?_;rintro e w2 ⟨⟨s,k,hs,rfl⟩,hb2⟩;have HS:=hid hs;clear hs))
   go_ret2
   exact⟨⟨s,k,HS.out,rfl⟩,hb2⟩
  ·have hd:decide (0≤cmpI (n:Int) (m:Int))=false:=decide_eq_false (by unfold cmpI;rw[if_pos (by omega)];omega)
   have hm:∀W,Below w.heap.size w W→Calls Tryz.prog 163 #[v2,v1] W fun e w'=>∃v,e=.returned v∧Nr w' v (m-n) w.heap.size w'.heap.size∧Below w.heap.size w w':=fun W hW=>by
    have:=hW.size
    refine(iM_ v2 v1 m n lo2 hi2 lo1 hi1 W (h2.below hW b2) (h1.below hW b1) (by omega) (by omega) f2 f1 (by omega)).mono ?_
    rintro e w' ⟨⟨v,rfl,hv⟩,hb⟩
    exact⟨v,rfl,hv.mono (by omega) (Nat.le_refl _),hW.trans (hb.mono hW.size)⟩
   have hf:=fun W v=>hfin W v n2 (m-n) hd2 (by rw[hx,hy];cases n1 <;> cases n2 <;> simp at hs⊢<;> omega)
   have HM:=hid hm
   have HF:=hid hf
   clear ho hm hf hfin hx hy h1 h2 hs
   go_enter Tryz.func164,Tryz.ntmps164
   go_wp2_with (first
    | (go_at_call 129;with_reducible refine(HO.out).mono ?_;rintro e w0 ⟨rfl,hb0⟩)
    | (go_at_call 163;with_reducible refine(HM.out _ hb0).mono ?_;rintro e w1 ⟨v,rfl,hv,hb1⟩;have HV:=hid hv;clear hv)
    | (go_at_call 131;with_reducible refine(HF.out _ _ hb1 HV.out).mono ?_;rintro e w2 ⟨⟨s,k,hs,rfl⟩,hb2⟩;have HS:=hid hs;clear hs))
   go_ret2
   exact⟨⟨s,k,HS.out,rfl⟩,hb2⟩
def isD (c:UInt8):Bool:=decide (48≤c.toNat∧c.toNat≤57)
theorem aFU {c:UInt8} : isD c=true↔48≤c.toNat∧c.toNat≤57:=by unfold isD;exact decide_eq_true_iff
theorem nW_ {l U:List UInt8} (hU:bZ_ l=U):aH_ l=(decide (0<U.length)&&decide (U.length≤200)&&U.all isD&&(decide (l=[48])||decide (U.head?≠some 48))):=by
 unfold aH_
 rw[hU]
 have e:(!U.isEmpty)=decide (0<U.length):=by cases U <;> simp
 rw[e]
 rfl
theorem kC_ {u:ByteArray} {k:Nat} (h:k<u.size):u.data.toList[k]?=some (u[k]'h):=by
 rw[List.getElem?_eq_getElem (by simpa using h)];rfl
theorem aAY {U:List UInt8} {k:Nat} {c:UInt8} (h:(U.take k).all isD=true) (hc:U[k]?=some c) (hd:isD c=true):(U.take (k+1)).all isD=true:=by
 rw[List.take_add_one,List.all_append,h,hc]
 simp[hd]
theorem tC_ {U:List UInt8} {k:Nat} {c:UInt8} (hc:U[k]?=some c) (hd:isD c=false):U.all isD=false:=by
 rw[List.all_eq_false]
 exact⟨c,List.mem_of_getElem? hc,by simp[hd]⟩
theorem eU_ (u:ByteArray):u.data.toList.length=u.size:=Array.length_toList
theorem drop_one (s:ByteArray) (_h:0<s.size):(s.extract 1 s.size).data.toList=s.data.toList.tail:=by
 rw[ByteArray.data_extract,Array.toList_extract]
 have e:s.data.toList.length=s.size:=eU_ s
 show(s.data.toList.drop 1).take (s.size-1)=_
 rw[List.take_of_length_le (by rw[List.length_drop,e];omega),List.drop_one]
theorem qR_ (s:ByteArray) (w:World) (hs:s.size≤9223372036854775807) :
  Calls Tryz.prog 93 #[.string s] w fun e w'=>e=.returned (.bool (aH_ s.data.toList))∧w=w':=by
 have hls:=eU_ s
 by_cases h0:0<s.size
 ·have hhd:s.data.toList.head?=some (s[0]'h0):=by rw[List.head?_eq_getElem?];exact kC_ h0
  by_cases hm:s[0]'h0=45
  ·have hm1:(((s[0]'h0).toNat:Int)==45)=true:=by rw[hm];rfl
   have HU:Hid (bZ_ s.data.toList=(s.extract 1 s.size).data.toList):=by
    show _=_
    rw[drop_one s h0]
    unfold bZ_
    rw[if_pos (by rw[hhd,hm])]
   have HZ:Hid (decide (s.data.toList=[48])=false):=by
    show _=_
    rw[decide_eq_false_iff_not]
    intro e
    rw[e,hm] at hhd
    exact absurd hhd (by decide)
   have hsz:(s.extract 1 s.size).size≤s.size:=by rw[ByteArray.size_extract];omega
   obtain⟨u,hu⟩:∃u,u=s.extract 1 s.size:=⟨_,rfl⟩
   have HE:=hid hu
   by_cases g3:((s.extract 1 s.size).toList == [48])=true
   ·have HG:Hid ((s.extract 1 s.size).data.toList=[48]):=by show _=_;rw[←Lib.toList_data];simpa using g3
    clear hm hhd hls hu
    go_enter Tryz.func93,Tryz.ntmps93
    go_wp2
    go_ret
    exact⟨aQ_ (by rw[nW_ HU.out,HZ.out,HG.out];simp),rfl⟩
   ·have g3':((s.extract 1 s.size).toList == [48])=false:=by simpa using g3
    clear hm hhd hls hu g3
    go_enter Tryz.func93,Tryz.ntmps93
    go_wp2
    rw[←HE.out] at HU hsz g3'⊢
    clear HE
    have hus:u.size≤9223372036854775807:=by omega
    have hve:=nW_ HU.out
    obtain⟨U,hUU⟩:∃U,U=u.data.toList:=⟨_,rfl⟩
    rw[←hUU] at hve
    have hlen:U.length=u.size:=by rw[hUU];exact eU_ u
    have hat:∀(k:Nat) (h:k<u.size),U[k]?=some (u[k]'h):=fun k h=>by rw[hUU];exact kC_ h
    have HVE:=hid hve
    have HLEN:=hid hlen
    have HAT:=hid hat
    have HUU:=hid hUU
    clear hve hlen hat hUU
    go_loop [3] (fun i=>∃k:Nat,k≤u.size∧i=.int .i64 (k:Int)∧(U.take k).all isD=true) (fun i=>u.size-(intOf i).toNat)
    case atStart=>exact⟨0,Nat.zero_le _,rfl,by simp⟩
    case round=>
     obtain⟨k,hk,rfl,hall⟩:=hrel
     have HALL:=hid hall
     clear hall
     by_cases hlt:k<u.size
     ·have hc:=HAT.out k hlt
      obtain⟨c,hcc⟩:∃c,c=u[k]'hlt:=⟨_,rfl⟩
      have HC:=hid (show U[k]?=some c by rw[hcc];exact hc)
      have h256:=c.toNat_lt
      rw[hcc] at h256
      clear hc
      by_cases h1:(u[k]'hlt).toNat<48
      ·have HD:Hid (isD c=false):=by show isD c=false;unfold isD;exact decide_eq_false (by rw[hcc];omega)
       clear hcc
       go_wp2
       go_ret
       exact⟨aQ_ (by rw[HVE.out,tC_ HC.out HD.out];simp),rfl⟩
      ·by_cases h2:57<(u[k]'hlt).toNat
       ·have HD:Hid (isD c=false):=by show isD c=false;unfold isD;exact decide_eq_false (by rw[hcc];omega)
        clear hcc
        go_wp2
        go_ret
        exact⟨aQ_ (by rw[HVE.out,tC_ HC.out HD.out];simp),rfl⟩
       ·have HD:Hid (isD c=true):=by show isD c=true;rw[aFU,hcc];omega
        clear hcc
        go_wp2
        exact⟨⟨k+1,by omega,by go_num,aAY HALL.out HC.out HD.out⟩,by simp only[intOf];omega⟩
     ·obtain rfl:k=u.size:=by omega
      have hA:U.all isD=true:=by
       have:=HALL.out
       rwa[List.take_of_length_le (by rw[HLEN.out];exact Nat.le_refl _)] at this
      have hve:=HVE.out
      rw[hA,HLEN.out,Bool.and_true] at hve
      have HVE2:=hid hve
      clear hve hA
      by_cases g1:0<u.size
      ·by_cases g2:u.size≤200
       ·have hh:U.head?=some (u[0]'g1):=by rw[List.head?_eq_getElem?];exact HAT.out 0 g1
        have HH:=hid hh
        clear hh
        by_cases g4:(u[0]'g1).toNat=48
        ·have g5:(((u[0]'g1).toNat:Int) != 48)=false:=by rw[g4];rfl
         have HX:Hid (u[0]'g1=48):=UInt8.toNat_inj.1 g4
         clear g4
         go_wp2
         go_ret
         exact⟨aQ_ (by rw[HVE2.out,HZ.out,HH.out,HX.out];simp),rfl⟩
        ·have g5:(((u[0]'g1).toNat:Int) != 48)=true:=by rw[bne_iff_ne];omega
         have HX:Hid (¬u[0]'g1=48):=fun e=>g4 (by rw[e];rfl)
         clear g4
         go_wp2
         go_ret
         exact⟨aQ_ (by rw[HVE2.out,HZ.out,HH.out,decide_eq_true g1,decide_eq_true g2];simp[HX.out]),rfl⟩
       ·go_wp2
        go_ret
        exact⟨aQ_ (by rw[HVE2.out,decide_eq_false g2];simp),rfl⟩
      ·go_wp2
       go_ret
       exact⟨aQ_ (by rw[HVE2.out,decide_eq_false g1];simp),rfl⟩
  ·have hm1:(((s[0]'h0).toNat:Int)==45)=false:=by rw[beq_eq_false_iff_ne];intro e;exact hm (UInt8.toNat_inj.1 (by show(s[0]'h0).toNat=45;omega))
   have HU:Hid (bZ_ s.data.toList=s.data.toList):=by
    show _=_
    unfold bZ_
    rw[if_neg (by rw[hhd];simpa using hm)]
   clear hm hhd hls
   obtain⟨u,hu⟩:∃u,u=s:=⟨_,rfl⟩
   have HE:Hid (s.data.toList=u.data.toList):=by show _=_;rw[hu]
   go_enter Tryz.func93,Tryz.ntmps93
   go_wp2
   subst hu
   have hus:u.size≤9223372036854775807:=by omega
   have hve:=nW_ HU.out
   obtain⟨U,hUU⟩:∃U,U=u.data.toList:=⟨_,rfl⟩
   rw[←hUU] at hve
   have hlen:U.length=u.size:=by rw[hUU];exact eU_ u
   have hat:∀(k:Nat) (h:k<u.size),U[k]?=some (u[k]'h):=fun k h=>by rw[hUU];exact kC_ h
   have HVE:=hid hve
   have HLEN:=hid hlen
   have HAT:=hid hat
   have HUU:=hid hUU
   clear hve hlen hat hUU
   go_loop [3] (fun i=>∃k:Nat,k≤u.size∧i=.int .i64 (k:Int)∧(U.take k).all isD=true) (fun i=>u.size-(intOf i).toNat)
   case atStart=>exact⟨0,Nat.zero_le _,rfl,by simp⟩
   case round=>
    obtain⟨k,hk,rfl,hall⟩:=hrel
    have HALL:=hid hall
    clear hall
    by_cases hlt:k<u.size
    ·have hc:=HAT.out k hlt
     obtain⟨c,hcc⟩:∃c,c=u[k]'hlt:=⟨_,rfl⟩
     have HC:=hid (show U[k]?=some c by rw[hcc];exact hc)
     have h256:=c.toNat_lt
     rw[hcc] at h256
     clear hc
     by_cases h1:(u[k]'hlt).toNat<48
     ·have HD:Hid (isD c=false):=by show isD c=false;unfold isD;exact decide_eq_false (by rw[hcc];omega)
      clear hcc
      go_wp2
      go_ret
      exact⟨aQ_ (by rw[←HUU.out,HVE.out,tC_ HC.out HD.out];simp),rfl⟩
     ·by_cases h2:57<(u[k]'hlt).toNat
      ·have HD:Hid (isD c=false):=by show isD c=false;unfold isD;exact decide_eq_false (by rw[hcc];omega)
       clear hcc
       go_wp2
       go_ret
       exact⟨aQ_ (by rw[←HUU.out,HVE.out,tC_ HC.out HD.out];simp),rfl⟩
      ·have HD:Hid (isD c=true):=by show isD c=true;rw[aFU,hcc];omega
       clear hcc
       go_wp2
       exact⟨⟨k+1,by omega,by go_num,aAY HALL.out HC.out HD.out⟩,by simp only[intOf];omega⟩
    ·obtain rfl:k=u.size:=by omega
     have hA:U.all isD=true:=by
      have:=HALL.out
      rwa[List.take_of_length_le (by rw[HLEN.out];exact Nat.le_refl _)] at this
     have hve:=HVE.out
     rw[hA,HLEN.out,Bool.and_true] at hve
     have HVE2:=hid hve
     clear hve hA
     by_cases g1:0<u.size
     ·by_cases g2:u.size≤200
      ·have hh:U.head?=some (u[0]'g1):=by rw[List.head?_eq_getElem?];exact HAT.out 0 g1
       have HH:=hid hh
       clear hh
       by_cases g3:(u.toList == [48])=true
       ·have HZ:Hid (U=[48]):=by show U=[48];rw[HUU.out,←Lib.toList_data];simpa using g3
        go_wp2
        go_ret
        exact⟨aQ_ (by rw[←HUU.out,HVE2.out,HZ.out,decide_eq_true g1,decide_eq_true g2];rfl),rfl⟩
       ·have g3':(u.toList == [48])=false:=by simpa using g3
        have HZ:Hid (¬U=[48]):=by show ¬U=[48];rw[HUU.out,←Lib.toList_data];simpa using g3
        clear g3
        by_cases g4:(u[0]'g1).toNat=48
        ·have g5:(((u[0]'g1).toNat:Int) != 48)=false:=by rw[g4];rfl
         have HX:Hid (u[0]'g1=48):=UInt8.toNat_inj.1 g4
         clear g4
         go_wp2
         go_ret
         exact⟨aQ_ (by rw[←HUU.out,HVE2.out,HH.out,HX.out,decide_eq_false HZ.out];simp),rfl⟩
        ·have g5:(((u[0]'g1).toNat:Int) != 48)=true:=by rw[bne_iff_ne];omega
         have HX:Hid (¬u[0]'g1=48):=fun e=>g4 (by rw[e];rfl)
         clear g4
         go_wp2
         go_ret
         exact⟨aQ_ (by rw[←HUU.out,HVE2.out,HH.out,decide_eq_false HZ.out,decide_eq_true g1,decide_eq_true g2];simp[HX.out]),rfl⟩
      ·go_wp2
       go_ret
       exact⟨aQ_ (by rw[←HUU.out,HVE2.out,decide_eq_false g2];simp),rfl⟩
     ·exact absurd h0 g1
 ·have hz:s.data.toList=[]:=List.eq_nil_of_length_eq_zero (by omega)
  have HV:Hid (aH_ s.data.toList=false):=by show _=_;rw[hz];decide +kernel
  have h00:s.size=0:=by omega
  clear hz hls h0
  go_enter Tryz.func93,Tryz.ntmps93
  go_wp2
  go_loop [3] (fun i=>i=.int .i64 0) (fun i=>0)
  case atStart=>exact rfl
  case round=>
   obtain rfl:=hrel
   go_wp2
   go_ret
   exact⟨aQ_ HV.out.symm,rfl⟩
theorem yX_ {n k:Nat} (hn:0<n) (hk:k<(dig 10 n).length):(txtN n)[(dig 10 n).length-1-k]?=some (UInt8.ofNat (48+(dig 10 n)[k]?.getD 0)):=by
 rw[cU_ hn,List.getElem?_map,List.getElem?_reverse (by omega),show(dig 10 n).length-1-((dig 10 n).length-1-k)=k from by omega,List.getElem?_eq_getElem hk]
 rfl
theorem mV_ {n:Nat} (hn:0<n):(txtN n).length=(dig 10 n).length:=by rw[cU_ hn];simp
theorem jH_ {l:List Nat} {k:Nat} (hk:k<l.length):l.take (k+1)=l.take k++[l[k]?.getD 0]:=by
 rw[List.take_succ_eq_append_getElem hk,List.getElem?_eq_getElem hk]
 rfl
theorem aK_ (s:ByteArray) (z:Int) (w:World) (es:s=str z) (hz:small z=true) :
  Calls Tryz.prog 128 #[.string s] w fun e w'=>(∃v,e=.returned (.tuple #[.bool (decide (z<0)),v])∧Nr w' v z.natAbs w.heap.size w'.heap.size)∧Below w.heap.size w w':=by
 obtain⟨i0,hi,hz0,hz1,hz2⟩:=info_parts fF_
 have hsz:s.size≤9223372036854775807:=by
  rw[es,kK_]
  have:=iJ_ z
  have:nDig z.natAbs≤200:=by simpa[small] using hz
  omega
 have hl:s.data.toList=txt z:=by rw[es,cV_]
 have hls:=eU_ s
 obtain⟨n,hn⟩:∃n,n=z.natAbs:=⟨_,rfl⟩
 rw[←hn]
 have hnl:nDig n≤200:=by rw[hn];simpa[small] using hz
 by_cases hneg:z<0
 ·have hn0:0<n:=by omega
  have ht:txt z=45::txtN n:=by unfold txt;rw[if_pos hneg,hn]
  rw[ht] at hl
  have h0:0<s.size:=by rw[←hls,hl];simp
  have h45:s[0]'h0=45:=by
   have:=kC_ h0
   rw[hl] at this
   simpa using this.symm
  have hm1:(((s[0]'h0).toNat:Int)==45)=true:=by rw[h45];rfl
  have hu1:(s.extract 1 s.size).data.toList=txtN n:=by rw[drop_one s h0,hl];rfl
  have hul:(s.extract 1 s.size).size=(dig 10 n).length:=by rw[←eU_,hu1,mV_ hn0]
  have hdz:decide (z<0)=true:=decide_eq_true hneg
  rw[hdz]
  have h48:((s.extract 1 s.size).toList == [48])=false:=by
   rw[beq_eq_false_iff_ne,ne_eq,Lib.toList_data,hu1]
   intro e
   have:=kH_ hn0
   rw[e] at this
   exact this rfl
  obtain⟨u,hu⟩:∃u,u=s.extract 1 s.size:=⟨_,rfl⟩
  have HE:=hid hu
  have HU:=hid hu1
  have HUL:=hid hul
  have hus:u.size=s.size-1:=by rw[hu,ByteArray.size_extract];omega
  have HUS:=hid hus
  clear hus hu hu1 hul h45 hl hls ht hdz hn es
  go_enter Tryz.func128,Tryz.ntmps128
  go_wp2
  rw[←HE.out] at HU HUL h48⊢
  clear HE
  have hnL:(dig 10 n).length≤200:=by rw[←mV_ hn0];exact hnl
  obtain⟨L,hL⟩:∃L,L=u.size:=⟨_,rfl⟩
  have hLL:L≤200:=by rw[hL,HUL.out];exact hnL
  rw[←hL] at HUL
  have hLb:L≤u.size:=by omega
  have HLS:=hid (show L=s.size-1 by rw[hL,HUS.out])
  clear hL hnL
  go_loopw [5,6] (fun v i wr=>∃k:Nat,k≤L∧i=.int .i64 ((L:Int)-1-k)∧wr.ownsRow w.heap.size 3 1 v k (((dig 10 n).take k).map fun d:Nat=>Value.int .i64 (d:Int))∧Below w.heap.size w wr) (fun _ i _=>(intOf i+1).toNat)
  case atStart=>exact⟨0,Nat.zero_le _,congrArg _ (by have:=HLS.out;omega),World.ownsRow_nil _ _ _ _,Below.refl _ _⟩
  case round=>
   obtain⟨k,hk,rfl,hown,hb⟩:=hrel
   have hwr:=hb.size
   have HO:=hid hown
   have HB:=hid hb
   clear hown hb
   by_cases hkl:k=L
   ·subst hkl
    have hn:Ns wr u5 (dig 10 n) w.heap.size wr.heap.size:=by
     have:=Sl.of_owns HO.out
     rw[List.take_of_length_le (by rw[HUL.out];exact Nat.le_refl _)] at this
     show Sl wr u5 (dig 10 n).length 1 _ _ _
     rw[←HUL.out]
     exact this
    have HNN:=hid hn
    clear hn
    go_wp2
    go_ret2
    exact⟨⟨_,rfl,HNN.out⟩,HB.out⟩
   ·obtain⟨ix,hix⟩:∃ix,ix+k+1=L:=⟨L-1-k,by omega⟩
    rw[show(L:Int)-1-k=(ix:Int) from by omega]
    have hlt:ix<u.size:=by omega
    have hkd:k<(dig 10 n).length:=by rw[←HUL.out];omega
    have hx9:=bD_ (B:=10) (by omega) n k
    have hch:(u[ix]'hlt).toNat=48+(dig 10 n)[k]?.getD 0:=by
     have h1:(txtN n)[ix]?=some (u[ix]'hlt):=by rw[←HU.out];exact kC_ hlt
     have h2:=yX_ hn0 hkd
     rw[show(dig 10 n).length-1-k=ix from by rw[←HUL.out];omega,h1] at h2
     rw[Option.some.inj h2,fO_ hx9]
    have hsn:=jH_ hkd
    obtain⟨d,hd⟩:∃d,d=(dig 10 n)[k]?.getD 0:=⟨_,rfl⟩
    rw[←hd] at hch hx9 hsn
    have HSN:=hid hsn
    clear hsn hd hkd
    go_wp2_with (at_builtin;refine wpList_append_own _ rfl _ _ 97 rfl w.heap.size 3 i0 (.int .i64 0) 1 8 Tryz.underlying97 hi hz0 hz1 hz2 rfl (by decide) u5 k _ rfl (HO.out.alloc _) ⟨wr.heap.size,0,none⟩ 1 1 [.int .i64 (48+(d:Int)-48)] rfl rfl (cell_one_new _ _ _) (by simp[Value.oneCell']) (by unfold maxLen;omega) (by omega) (by simp;omega) ?_;intro v' w3 hown' hgrow _)
    refine⟨⟨k+1,by omega,congrArg _ (by omega),?_,(HB.out.alloc hwr _).grown hgrow (by simp;omega) (fun g e=>(HO.out.lt g e).1)⟩,by simp only[intOf];omega⟩
    rw[HSN.out,List.map_append]
    rw[show(48+(d:Int)-48)=(d:Int) from by omega] at hown'
    exact hown'
 ·have hdz:decide (z<0)=false:=decide_eq_false hneg
  rw[hdz]
  have ht:txt z=txtN n:=by unfold txt;rw[if_neg hneg,hn]
  rw[ht] at hl
  have h0:0<s.size:=by rw[←hls,hl];exact List.length_pos_iff.2 (sG_ n)
  have h45:¬s[0]'h0=45:=by
   intro e
   have:=kC_ h0
   rw[hl,e] at this
   have:=cN_ n 45 (List.mem_of_getElem? this)
   revert this;decide
  have hm1:(((s[0]'h0).toNat:Int)==45)=false:=by rw[beq_eq_false_iff_ne];intro e;exact h45 (UInt8.toNat_inj.1 (by show(s[0]'h0).toNat=45;omega))
  rcases Nat.eq_zero_or_pos n with hn0|hn0
  ·have es0:s=⟨#[48]⟩:=by
    rw[es,show z=0 from by omega]
    decide +kernel
   rw[hn0]
   subst es0
   clear h45 hl hls ht hdz es hn hm1 h0 hsz
   go_enter Tryz.func128,Tryz.ntmps128
   go_wp2
   go_loopw [5,6] (fun v i wr=>v=.slice none 0 0∧i=.int .i64 0∧wr=w) (fun _ _ _=>0)
   case atStart=>exact⟨rfl,rfl,rfl⟩
   case round=>
    obtain⟨rfl,rfl,rfl⟩:=hrel
    go_wp2
    go_ret2
    exact⟨⟨_,rfl,Sl.nil _ _ _ _⟩,Below.refl _ _⟩
  ·have hu1:s.data.toList=txtN n:=hl
   have hul:s.size=(dig 10 n).length:=by rw[←eU_,hu1,mV_ hn0]
   have h48:(s.toList == [48])=false:=by
    rw[beq_eq_false_iff_ne,ne_eq,Lib.toList_data,hu1]
    intro e
    have:=kH_ hn0
    rw[e] at this
    exact this rfl
   have HU:=hid hu1
   have HUL:=hid hul
   clear hu1 hul h45 hl hls ht hdz hn es
   obtain⟨u,hu⟩:∃u,u=s:=⟨_,rfl⟩
   go_enter Tryz.func128,Tryz.ntmps128
   go_wp2
   subst hu
   have hnL:(dig 10 n).length≤200:=by rw[←mV_ hn0];exact hnl
   obtain⟨L,hL⟩:∃L,L=u.size:=⟨_,rfl⟩
   have hLL:L≤200:=by rw[hL,HUL.out];exact hnL
   rw[←hL] at HUL
   have hLb:L≤u.size:=by omega
   have HLS:=hid (show L=u.size from hL)
   clear hL hnL
   go_loopw [5,6] (fun v i wr=>∃k:Nat,k≤L∧i=.int .i64 ((L:Int)-1-k)∧wr.ownsRow w.heap.size 3 1 v k (((dig 10 n).take k).map fun d:Nat=>Value.int .i64 (d:Int))∧Below w.heap.size w wr) (fun _ i _=>(intOf i+1).toNat)
   case atStart=>exact⟨0,Nat.zero_le _,congrArg _ (by have:=HLS.out;omega),World.ownsRow_nil _ _ _ _,Below.refl _ _⟩
   case round=>
    obtain⟨k,hk,rfl,hown,hb⟩:=hrel
    have hwr:=hb.size
    have HO:=hid hown
    have HB:=hid hb
    clear hown hb
    by_cases hkl:k=L
    ·subst hkl
     have hn:Ns wr u5 (dig 10 n) w.heap.size wr.heap.size:=by
      have:=Sl.of_owns HO.out
      rw[List.take_of_length_le (by rw[HUL.out];exact Nat.le_refl _)] at this
      show Sl wr u5 (dig 10 n).length 1 _ _ _
      rw[←HUL.out]
      exact this
     have HNN:=hid hn
     clear hn
     go_wp2
     go_ret2
     exact⟨⟨_,rfl,HNN.out⟩,HB.out⟩
    ·obtain⟨ix,hix⟩:∃ix,ix+k+1=L:=⟨L-1-k,by omega⟩
     rw[show(L:Int)-1-k=(ix:Int) from by omega]
     have hlt:ix<u.size:=by omega
     have hkd:k<(dig 10 n).length:=by rw[←HUL.out];omega
     have hx9:=bD_ (B:=10) (by omega) n k
     have hch:(u[ix]'hlt).toNat=48+(dig 10 n)[k]?.getD 0:=by
      have h1:(txtN n)[ix]?=some (u[ix]'hlt):=by rw[←HU.out];exact kC_ hlt
      have h2:=yX_ hn0 hkd
      rw[show(dig 10 n).length-1-k=ix from by rw[←HUL.out];omega,h1] at h2
      rw[Option.some.inj h2,fO_ hx9]
     have hsn:=jH_ hkd
     obtain⟨d,hd⟩:∃d,d=(dig 10 n)[k]?.getD 0:=⟨_,rfl⟩
     rw[←hd] at hch hx9 hsn
     have HSN:=hid hsn
     clear hsn hd hkd
     go_wp2_with (at_builtin;refine wpList_append_own _ rfl _ _ 97 rfl w.heap.size 3 i0 (.int .i64 0) 1 8 Tryz.underlying97 hi hz0 hz1 hz2 rfl (by decide) u5 k _ rfl (HO.out.alloc _) ⟨wr.heap.size,0,none⟩ 1 1 [.int .i64 (48+(d:Int)-48)] rfl rfl (cell_one_new _ _ _) (by simp[Value.oneCell']) (by unfold maxLen;omega) (by omega) (by simp;omega) ?_;intro v' w3 hown' hgrow _)
     refine⟨⟨k+1,by omega,congrArg _ (by omega),?_,(HB.out.alloc hwr _).grown hgrow (by simp;omega) (fun g e=>(HO.out.lt g e).1)⟩,by simp only[intOf];omega⟩
     rw[HSN.out,List.map_append]
     rw[show(48+(d:Int)-48)=(d:Int) from by omega] at hown'
     exact hown'
theorem aU_ {z:Int} (h:small z=true):(dig 10 z.natAbs).length≤200:=by
 rw[aD_ (by omega)]
 exact(jZ_ (n:=z.natAbs) (k:=200) (by omega)).1 (by simpa[small] using h)
theorem aE_ {a:ByteArray} {v:Bool} (hs:a.size≤9223372036854775807) (h:aH_ a.data.toList=v) (W:World) :
  Calls Tryz.prog 93 #[.string a] W fun e w'=>e=.returned (.bool v)∧W=w':=by
 subst h
 exact qR_ a W hs
theorem aP_ {s:ByteArray} {z:Int} (e:s=str z) (h:small z=true):aH_ s.data.toList=true∧s.size≤9223372036854775807:=by
 subst e
 refine⟨by rw[cV_,fW_];exact h,?_⟩
 rw[kK_]
 have:=iJ_ z
 have:nDig z.natAbs≤200:=by simpa[small] using h
 omega
theorem oF_ (z:Int):z=if decide (z<0)=true then -(z.natAbs:Int) else (z.natAbs:Int):=by
 by_cases h:z<0
 ·rw[if_pos (decide_eq_true h)];omega
 ·rw[if_neg (by simpa using h)];omega
theorem aJF (z:Int) : -z=if (!decide (z<0))=true then -(z.natAbs:Int) else (z.natAbs:Int):=by
 by_cases h:z<0
 ·rw[if_neg (by simpa using h)];omega
 ·rw[if_pos (by simpa using h)];omega
theorem aJG (x y:Int):x*y=if (decide (x<0) != decide (y<0))=true then -((x.natAbs*y.natAbs:Nat):Int) else ((x.natAbs*y.natAbs:Nat):Int):=by
 have h1:=oF_ x
 have h2:=oF_ y
 generalize x.natAbs=n at h1⊢
 generalize y.natAbs=m at h2⊢
 generalize decide (x<0)=a at h1⊢
 generalize decide (y<0)=b at h2⊢
 rw[h1,h2]
 cases a <;> cases b <;> simp[Int.neg_mul,Int.mul_neg]
theorem aOP (a b:ByteArray) (w:World) (ha:a.size≤9223372036854775807) (hb:b.size≤9223372036854775807) (hn:(aH_ a.data.toList&&aH_ b.data.toList)=false) :
  Calls Tryz.prog 125 #[.string a,.string b] w fun e w'=>e=.returned (.tuple #[.string ⟨#[]⟩,.int .i64 30])∧w=w':=by
 by_cases h:aH_ a.data.toList=true
 ·have hvb:aH_ b.data.toList=false:=by rw[h] at hn;simpa using hn
  have VA:=hid (aE_ ha h)
  have VB:=hid (aE_ hb hvb)
  clear h hvb hn
  go_enter Tryz.func125,Tryz.ntmps125
  go_wp2_with (first
   | (go_at_call 93;with_reducible refine(VA.out _).mono ?_;rintro e w1 ⟨rfl,rfl⟩)
   | (go_at_call 93;with_reducible refine(VB.out _).mono ?_;rintro e w1 ⟨rfl,rfl⟩))
  go_ret2
  exact⟨rfl,rfl⟩
 ·have VA:=hid (aE_ ha (show aH_ a.data.toList=false by simpa using h))
  clear h hn
  go_enter Tryz.func125,Tryz.ntmps125
  go_wp2_with (go_at_call 93;with_reducible refine(VA.out _).mono ?_;rintro e w1 ⟨rfl,rfl⟩)
  go_ret2
  exact⟨rfl,rfl⟩
theorem aOH (a b:ByteArray) (w:World) (ha:a.size≤9223372036854775807) (hb:b.size≤9223372036854775807) (hn:(aH_ a.data.toList&&aH_ b.data.toList)=false) :
  Calls Tryz.prog 126 #[.string a,.string b] w fun e w'=>e=.returned (.tuple #[.string ⟨#[]⟩,.int .i64 30])∧w=w':=by
 by_cases h:aH_ a.data.toList=true
 ·have hvb:aH_ b.data.toList=false:=by rw[h] at hn;simpa using hn
  have VA:=hid (aE_ ha h)
  have VB:=hid (aE_ hb hvb)
  clear h hvb hn
  go_enter Tryz.func126,Tryz.ntmps126
  go_wp2_with (first
   | (go_at_call 93;with_reducible refine(VA.out _).mono ?_;rintro e w1 ⟨rfl,rfl⟩)
   | (go_at_call 93;with_reducible refine(VB.out _).mono ?_;rintro e w1 ⟨rfl,rfl⟩))
  go_ret2
  exact⟨rfl,rfl⟩
 ·have VA:=hid (aE_ ha (show aH_ a.data.toList=false by simpa using h))
  clear h hn
  go_enter Tryz.func126,Tryz.ntmps126
  go_wp2_with (go_at_call 93;with_reducible refine(VA.out _).mono ?_;rintro e w1 ⟨rfl,rfl⟩)
  go_ret2
  exact⟨rfl,rfl⟩
theorem aOJ (a b:ByteArray) (w:World) (ha:a.size≤9223372036854775807) (hb:b.size≤9223372036854775807) (hn:(aH_ a.data.toList&&aH_ b.data.toList)=false) :
  Calls Tryz.prog 127 #[.string a,.string b] w fun e w'=>e=.returned (.tuple #[.string ⟨#[]⟩,.int .i64 30])∧w=w':=by
 by_cases h:aH_ a.data.toList=true
 ·have hvb:aH_ b.data.toList=false:=by rw[h] at hn;simpa using hn
  have VA:=hid (aE_ ha h)
  have VB:=hid (aE_ hb hvb)
  clear h hvb hn
  go_enter Tryz.func127,Tryz.ntmps127
  go_wp2_with (first
   | (go_at_call 93;with_reducible refine(VA.out _).mono ?_;rintro e w1 ⟨rfl,rfl⟩)
   | (go_at_call 93;with_reducible refine(VB.out _).mono ?_;rintro e w1 ⟨rfl,rfl⟩))
  go_ret2
  exact⟨rfl,rfl⟩
 ·have VA:=hid (aE_ ha (show aH_ a.data.toList=false by simpa using h))
  clear h hn
  go_enter Tryz.func127,Tryz.ntmps127
  go_wp2_with (go_at_call 93;with_reducible refine(VA.out _).mono ?_;rintro e w1 ⟨rfl,rfl⟩)
  go_ret2
  exact⟨rfl,rfl⟩
theorem aOL (a b:ByteArray) (w:World) (ha:a.size≤9223372036854775807) (hb:b.size≤9223372036854775807) (hn:(aH_ a.data.toList&&aH_ b.data.toList)=false) :
  Calls Tryz.prog 95 #[.string a,.string b] w fun e w'=>e=.returned (.tuple #[.string ⟨#[]⟩,.int .i64 30])∧w=w':=by
 by_cases h:aH_ a.data.toList=true
 ·have hvb:aH_ b.data.toList=false:=by rw[h] at hn;simpa using hn
  have VA:=hid (aE_ ha h)
  have VB:=hid (aE_ hb hvb)
  clear h hvb hn
  go_enter Tryz.func95,Tryz.ntmps95
  go_wp2_with (first
   | (go_at_call 93;with_reducible refine(VA.out _).mono ?_;rintro e w1 ⟨rfl,rfl⟩)
   | (go_at_call 93;with_reducible refine(VB.out _).mono ?_;rintro e w1 ⟨rfl,rfl⟩))
  go_ret2
  exact⟨rfl,rfl⟩
 ·have VA:=hid (aE_ ha (show aH_ a.data.toList=false by simpa using h))
  clear h hn
  go_enter Tryz.func95,Tryz.ntmps95
  go_wp2_with (go_at_call 93;with_reducible refine(VA.out _).mono ?_;rintro e w1 ⟨rfl,rfl⟩)
  go_ret2
  exact⟨rfl,rfl⟩
theorem xL_ (a b:ByteArray) (w:World) (ha:a.size≤9223372036854775807) (hb:b.size≤9223372036854775807) (hn:(aH_ a.data.toList&&aH_ b.data.toList)=false) :
  Calls Tryz.prog 94 #[.string a,.string b] w fun e w'=>e=.returned (.int .i64 0)∧w=w':=by
 by_cases h:aH_ a.data.toList=true
 ·have hvb:aH_ b.data.toList=false:=by rw[h] at hn;simpa using hn
  have VA:=hid (aE_ ha h)
  have VB:=hid (aE_ hb hvb)
  clear h hvb hn
  go_enter Tryz.func94,Tryz.ntmps94
  go_wp2_with (first
   | (go_at_call 93;with_reducible refine(VA.out _).mono ?_;rintro e w1 ⟨rfl,rfl⟩)
   | (go_at_call 93;with_reducible refine(VB.out _).mono ?_;rintro e w1 ⟨rfl,rfl⟩))
  go_ret
  exact⟨rfl,rfl⟩
 ·have VA:=hid (aE_ ha (show aH_ a.data.toList=false by simpa using h))
  clear h hn
  go_enter Tryz.func94,Tryz.ntmps94
  go_wp2_with (go_at_call 93;with_reducible refine(VA.out _).mono ?_;rintro e w1 ⟨rfl,rfl⟩)
  go_ret
  exact⟨rfl,rfl⟩
theorem aON (a b:ByteArray) (w:World) (ha:a.size≤9223372036854775807) (hb:b.size≤9223372036854775807) (hn:(aH_ a.data.toList&&aH_ b.data.toList)=false) :
  Calls Tryz.prog 122 #[.string a,.string b] w fun e w'=>e=.returned (.tuple #[.string ⟨#[]⟩,.string ⟨#[]⟩,.int .i64 30])∧w=w':=by
 by_cases h:aH_ a.data.toList=true
 ·have hvb:aH_ b.data.toList=false:=by rw[h] at hn;simpa using hn
  have VA:=hid (aE_ ha h)
  have VB:=hid (aE_ hb hvb)
  clear h hvb hn
  go_enter Tryz.func122,Tryz.ntmps122
  go_wp2_with (first
   | (go_at_call 93;with_reducible refine(VA.out _).mono ?_;rintro e w1 ⟨rfl,rfl⟩)
   | (go_at_call 93;with_reducible refine(VB.out _).mono ?_;rintro e w1 ⟨rfl,rfl⟩))
  go_ret3
  exact⟨rfl,rfl⟩
 ·have VA:=hid (aE_ ha (show aH_ a.data.toList=false by simpa using h))
  clear h hn
  go_enter Tryz.func122,Tryz.ntmps122
  go_wp2_with (go_at_call 93;with_reducible refine(VA.out _).mono ?_;rintro e w1 ⟨rfl,rfl⟩)
  go_ret3
  exact⟨rfl,rfl⟩
theorem aOO (a b:ByteArray) (x y:Int) (w:World) (ea:a=str x) (eb:b=str y) (hx:small x=true) (hy:small y=true) :
  Calls Tryz.prog 125 #[.string a,.string b] w fun e w'=>(∃s k,outZ (x+y)=#[.string s,.int .i64 k]∧e=.returned (.tuple #[.string s,.int .i64 k]))∧Below w.heap.size w w':=by
 obtain⟨va,za⟩:=aP_ ea hx
 obtain⟨vb,zb⟩:=aP_ eb hy
 have lx:=aU_ hx
 have ly:=aU_ hy
 have hda:=fun W=>aK_ a x W ea hx
 have hdb:=fun W=>aK_ b y W eb hy
 have VA:=hid (aE_ za va)
 have VB:=hid (aE_ zb vb)
 have HDA:=hid hda
 have HDB:=hid hdb
 have hs1:=oF_ x
 have hs2:=oF_ y
 have HS1:=hid hs1
 have HS2:=hid hs2
 clear hs1 hs2 hda hdb va vb ea eb hx hy
 generalize decide (x<0)=sx at HDA HS1
 generalize decide (y<0)=sy at HDB HS2
 go_enter Tryz.func125,Tryz.ntmps125
 go_wp2_with (first
  | (go_at_call 93;with_reducible refine(VA.out _).mono ?_;rintro e w1 ⟨rfl,rfl⟩)
  | (go_at_call 93;with_reducible refine(VB.out _).mono ?_;rintro e w1 ⟨rfl,rfl⟩)
  | (go_at_call 128;with_reducible refine(HDA.out _).mono ?_;rintro e w1 ⟨⟨v1,rfl,hv1⟩,hb1⟩;have HV1:=hid hv1;have HB1:=hid hb1;clear hv1 hb1)
  | (go_at_call 128;with_reducible refine(HDB.out _).mono ?_;rintro e w2 ⟨⟨v2,rfl,hv2⟩,hb2⟩;have HV2:=hid hv2;have HB2:=hid hb2;have HV1b:=hid (HV1.out.below HB2.out (Nat.le_refl _));have HBB:=hid (HB1.out.trans (HB2.out.mono HB1.out.size));clear hv2 hb2)
  | (go_at_call 164;refine(zD_ sx (sy) v1 v2 x.natAbs y.natAbs x (y) w.heap.size w1.heap.size w1.heap.size w2.heap.size _ HV1b.out HV2.out HB2.out.size (Nat.le_refl _) (by omega) (by omega) HS1.out HS2.out).mono ?_;rintro e w3 ⟨⟨s,k,hs,rfl⟩,hb3⟩;have HS:=hid hs;have HB3:=hid hb3;clear hs hb3))
 go_ret2
 exact⟨⟨s,k,HS.out,rfl⟩,HBB.out.trans (HB3.out.mono HBB.out.size)⟩
theorem aOG (a b:ByteArray) (x y:Int) (w:World) (ea:a=str x) (eb:b=str y) (hx:small x=true) (hy:small y=true) :
  Calls Tryz.prog 126 #[.string a,.string b] w fun e w'=>(∃s k,outZ (x-y)=#[.string s,.int .i64 k]∧e=.returned (.tuple #[.string s,.int .i64 k]))∧Below w.heap.size w w':=by
 obtain⟨va,za⟩:=aP_ ea hx
 obtain⟨vb,zb⟩:=aP_ eb hy
 have lx:=aU_ hx
 have ly:=aU_ hy
 have hda:=fun W=>aK_ a x W ea hx
 have hdb:=fun W=>aK_ b y W eb hy
 have VA:=hid (aE_ za va)
 have VB:=hid (aE_ zb vb)
 have HDA:=hid hda
 have HDB:=hid hdb
 have hs1:=oF_ x
 have hs2:=aJF y
 have HS1:=hid hs1
 have HS2:=hid hs2
 clear hs1 hs2 hda hdb va vb ea eb hx hy
 generalize decide (x<0)=sx at HDA HS1
 generalize decide (y<0)=sy at HDB HS2
 go_enter Tryz.func126,Tryz.ntmps126
 go_wp2_with (first
  | (go_at_call 93;with_reducible refine(VA.out _).mono ?_;rintro e w1 ⟨rfl,rfl⟩)
  | (go_at_call 93;with_reducible refine(VB.out _).mono ?_;rintro e w1 ⟨rfl,rfl⟩)
  | (go_at_call 128;with_reducible refine(HDA.out _).mono ?_;rintro e w1 ⟨⟨v1,rfl,hv1⟩,hb1⟩;have HV1:=hid hv1;have HB1:=hid hb1;clear hv1 hb1)
  | (go_at_call 128;with_reducible refine(HDB.out _).mono ?_;rintro e w2 ⟨⟨v2,rfl,hv2⟩,hb2⟩;have HV2:=hid hv2;have HB2:=hid hb2;have HV1b:=hid (HV1.out.below HB2.out (Nat.le_refl _));have HBB:=hid (HB1.out.trans (HB2.out.mono HB1.out.size));clear hv2 hb2)
  | (go_at_call 164;refine(zD_ sx (!sy) v1 v2 x.natAbs y.natAbs x (-y) w.heap.size w1.heap.size w1.heap.size w2.heap.size _ HV1b.out HV2.out HB2.out.size (Nat.le_refl _) (by omega) (by omega) HS1.out HS2.out).mono ?_;rintro e w3 ⟨⟨s,k,hs,rfl⟩,hb3⟩;have HS:=hid hs;have HB3:=hid hb3;clear hs hb3))
 go_ret2
 exact⟨⟨s,k,by rw[Int.sub_eq_add_neg];exact HS.out,rfl⟩,HBB.out.trans (HB3.out.mono HBB.out.size)⟩
theorem aFK {n m k l:Nat} (l1:(dig 10 n).length≤k) (l2:(dig 10 m).length≤l):(dig 10 (n*m)).length≤k+l:=by
 have h1:=(aD_ (B:=10) (by omega) n _).1 l1
 have h2:=(aD_ (B:=10) (by omega) m _).1 l2
 refine(aD_ (by omega) _ _).2 ?_
 rw[Nat.pow_add]
 exact Nat.mul_lt_mul'' h1 h2
theorem aPD {n m:Nat} (l1:(dig 10 n).length≤200) (l2:(dig 10 m).length≤200):(dig 10 (n*m)).length≤400:=aFK l1 l2
theorem aOI (a b:ByteArray) (x y:Int) (w:World) (ea:a=str x) (eb:b=str y) (hx:small x=true) (hy:small y=true) :
  Calls Tryz.prog 127 #[.string a,.string b] w fun e w'=>(∃s k,outZ (x*y)=#[.string s,.int .i64 k]∧e=.returned (.tuple #[.string s,.int .i64 k]))∧Below w.heap.size w w':=by
 obtain⟨va,za⟩:=aP_ ea hx
 obtain⟨vb,zb⟩:=aP_ eb hy
 have lx:=aU_ hx
 have ly:=aU_ hy
 have hda:=fun W=>aK_ a x W ea hx
 have hdb:=fun W=>aK_ b y W eb hy
 have VA:=hid (aE_ za va)
 have VB:=hid (aE_ zb vb)
 have HDA:=hid hda
 have HDB:=hid hdb
 have hs1:=aJG x y
 have hml:=aPD lx ly
 have HS1:=hid hs1
 have f1:cF_ x.natAbs:=by unfold cF_;omega
 have f2:cF_ y.natAbs:=by unfold cF_;omega
 clear hs1 hda hdb va vb ea eb hx hy
 generalize decide (x<0)=sx at HDA HS1
 generalize decide (y<0)=sy at HDB HS1
 go_enter Tryz.func127,Tryz.ntmps127
 go_wp2_with (first
  | (go_at_call 93;with_reducible refine(VA.out _).mono ?_;rintro e w1 ⟨rfl,rfl⟩)
  | (go_at_call 93;with_reducible refine(VB.out _).mono ?_;rintro e w1 ⟨rfl,rfl⟩)
  | (go_at_call 128;with_reducible refine(HDA.out _).mono ?_;rintro e w1 ⟨⟨v1,rfl,hv1⟩,hb1⟩;have HV1:=hid hv1;have HB1:=hid hb1;clear hv1 hb1)
  | (go_at_call 128;with_reducible refine(HDB.out _).mono ?_;rintro e w2 ⟨⟨v2,rfl,hv2⟩,hb2⟩;have HV2:=hid hv2;have HB2:=hid hb2;have HV1b:=hid (HV1.out.below HB2.out (Nat.le_refl _));have HBB:=hid (HB1.out.trans (HB2.out.mono HB1.out.size));clear hv2 hb2)
  | (go_at_call 165;refine(aBJ v1 v2 x.natAbs y.natAbs w.heap.size w1.heap.size w1.heap.size w2.heap.size _ HV1b.out HV2.out HB2.out.size (Nat.le_refl _) f1 f2).mono ?_;rintro e w3 ⟨⟨v3,rfl,hv3⟩,hb3⟩;have HV3:=hid hv3;have HB3:=hid hb3;clear hv3 hb3)
  | (go_at_call 131;refine(fK_ (sx != sy) v3 (x.natAbs*y.natAbs) (x*y) w2.heap.size w3.heap.size _ HV3.out (Nat.le_refl _) (by omega) HS1.out).mono ?_;rintro e w4 ⟨⟨s,k,hs,rfl⟩,hb4⟩;have HS:=hid hs;have HB4:=hid hb4;clear hs hb4))
 go_ret2
 have h3:=HBB.out.trans (HB3.out.mono HBB.out.size)
 exact⟨⟨s,k,HS.out,rfl⟩,h3.trans (HB4.out.mono h3.size)⟩
theorem xM_ (a b:ByteArray) (x y:Int) (w:World) (ea:a=str x) (eb:b=str y) (hx:small x=true) (hy:small y=true) (h1:x<0) (h2:y<0) :
  Calls Tryz.prog 94 #[.string a,.string b] w fun e w'=>e=.returned (.int .i64 (cmpI x y))∧Below w.heap.size w w':=by
 have hcx:cmpI x y=cmpI (y.natAbs:Int) (x.natAbs:Int):=by
  unfold cmpI
  rcases Int.lt_trichotomy x y with h|h|h
  ·first|(rw[if_pos h];done)|(rw[if_pos h,if_pos (by omega)];done)|(exfalso;omega)
  ·first|(rw[if_neg (by omega),if_neg (by omega),if_neg (by omega),if_neg (by omega)];done)|(exfalso;omega)
  ·first|(rw[if_neg (by omega),if_pos (by omega)];done)|(rw[if_neg (by omega),if_pos (by omega),if_neg (by omega),if_pos (by omega)];done)|(exfalso;omega)
 rw[hcx]
 obtain⟨va,za⟩:=aP_ ea hx
 obtain⟨vb,zb⟩:=aP_ eb hy
 have lx:=aU_ hx
 have ly:=aU_ hy
 have hda:=fun W=>aK_ a x W ea hx
 have hdb:=fun W=>aK_ b y W eb hy
 have VA:=hid (aE_ za va)
 have VB:=hid (aE_ zb vb)
 have HDA:=hid hda
 have HDB:=hid hdb
 have hbx:decide (x<0)=true:=by exact decide_eq_true h1
 have hby:decide (y<0)=true:=by exact decide_eq_true h2
 rw[hbx] at HDA
 rw[hby] at HDB
 clear hda hdb va vb ea eb hx hy hbx hby hcx h1 h2
 go_enter Tryz.func94,Tryz.ntmps94
 go_wp2_with (first
  | (go_at_call 93;with_reducible refine(VA.out _).mono ?_;rintro e w1 ⟨rfl,rfl⟩)
  | (go_at_call 93;with_reducible refine(VB.out _).mono ?_;rintro e w1 ⟨rfl,rfl⟩)
  | (go_at_call 128;with_reducible refine(HDA.out _).mono ?_;rintro e w1 ⟨⟨v1,rfl,hv1⟩,hb1⟩;have HV1:=hid hv1;have HB1:=hid hb1;clear hv1 hb1)
  | (go_at_call 128;with_reducible refine(HDB.out _).mono ?_;rintro e w2 ⟨⟨v2,rfl,hv2⟩,hb2⟩;have HV2:=hid hv2;have HB2:=hid hb2;have HV1b:=hid (HV1.out.below HB2.out (Nat.le_refl _));have HBB:=hid (HB1.out.trans (HB2.out.mono HB1.out.size));clear hv2 hb2)
  | fail)
 go_wp2_with (go_at_call 129;refine(iL_ v2 v1 y.natAbs x.natAbs _ _ _ _ _ HV2.out HV1b.out).mono ?_;rintro e w3 ⟨rfl,hs3⟩;have HB3:=hid (hs3.below w2.heap.size);clear hs3)
 go_wp2
 go_ret
 exact⟨rfl,HBB.out.trans (HB3.out.mono HBB.out.size)⟩
theorem xK_ (a b:ByteArray) (x y:Int) (w:World) (ea:a=str x) (eb:b=str y) (hx:small x=true) (hy:small y=true) (h1:x<0) (h2:¬y<0) :
  Calls Tryz.prog 94 #[.string a,.string b] w fun e w'=>e=.returned (.int .i64 (cmpI x y))∧Below w.heap.size w w':=by
 have hcx:cmpI x y = -1:=by
  unfold cmpI
  rcases Int.lt_trichotomy x y with h|h|h
  ·first|(rw[if_pos h];done)|(rw[if_pos h,if_pos (by omega)];done)|(exfalso;omega)
  ·first|(rw[if_neg (by omega),if_neg (by omega),if_neg (by omega),if_neg (by omega)];done)|(exfalso;omega)
  ·first|(rw[if_neg (by omega),if_pos (by omega)];done)|(rw[if_neg (by omega),if_pos (by omega),if_neg (by omega),if_pos (by omega)];done)|(exfalso;omega)
 rw[hcx]
 obtain⟨va,za⟩:=aP_ ea hx
 obtain⟨vb,zb⟩:=aP_ eb hy
 have lx:=aU_ hx
 have ly:=aU_ hy
 have hda:=fun W=>aK_ a x W ea hx
 have hdb:=fun W=>aK_ b y W eb hy
 have VA:=hid (aE_ za va)
 have VB:=hid (aE_ zb vb)
 have HDA:=hid hda
 have HDB:=hid hdb
 have hbx:decide (x<0)=true:=by exact decide_eq_true h1
 have hby:decide (y<0)=false:=by exact decide_eq_false h2
 rw[hbx] at HDA
 rw[hby] at HDB
 clear hda hdb va vb ea eb hx hy hbx hby hcx h1 h2
 go_enter Tryz.func94,Tryz.ntmps94
 go_wp2_with (first
  | (go_at_call 93;with_reducible refine(VA.out _).mono ?_;rintro e w1 ⟨rfl,rfl⟩)
  | (go_at_call 93;with_reducible refine(VB.out _).mono ?_;rintro e w1 ⟨rfl,rfl⟩)
  | (go_at_call 128;with_reducible refine(HDA.out _).mono ?_;rintro e w1 ⟨⟨v1,rfl,hv1⟩,hb1⟩;have HV1:=hid hv1;have HB1:=hid hb1;clear hv1 hb1)
  | (go_at_call 128;with_reducible refine(HDB.out _).mono ?_;rintro e w2 ⟨⟨v2,rfl,hv2⟩,hb2⟩;have HV2:=hid hv2;have HB2:=hid hb2;have HV1b:=hid (HV1.out.below HB2.out (Nat.le_refl _));have HBB:=hid (HB1.out.trans (HB2.out.mono HB1.out.size));clear hv2 hb2)
  | fail)
 skip
 go_wp2
 go_ret
 exact⟨rfl,HBB.out⟩
theorem xI_ (a b:ByteArray) (x y:Int) (w:World) (ea:a=str x) (eb:b=str y) (hx:small x=true) (hy:small y=true) (h1:¬x<0) (h2:y<0) :
  Calls Tryz.prog 94 #[.string a,.string b] w fun e w'=>e=.returned (.int .i64 (cmpI x y))∧Below w.heap.size w w':=by
 have hcx:cmpI x y=1:=by
  unfold cmpI
  rcases Int.lt_trichotomy x y with h|h|h
  ·first|(rw[if_pos h];done)|(rw[if_pos h,if_pos (by omega)];done)|(exfalso;omega)
  ·first|(rw[if_neg (by omega),if_neg (by omega),if_neg (by omega),if_neg (by omega)];done)|(exfalso;omega)
  ·first|(rw[if_neg (by omega),if_pos (by omega)];done)|(rw[if_neg (by omega),if_pos (by omega),if_neg (by omega),if_pos (by omega)];done)|(exfalso;omega)
 rw[hcx]
 obtain⟨va,za⟩:=aP_ ea hx
 obtain⟨vb,zb⟩:=aP_ eb hy
 have lx:=aU_ hx
 have ly:=aU_ hy
 have hda:=fun W=>aK_ a x W ea hx
 have hdb:=fun W=>aK_ b y W eb hy
 have VA:=hid (aE_ za va)
 have VB:=hid (aE_ zb vb)
 have HDA:=hid hda
 have HDB:=hid hdb
 have hbx:decide (x<0)=false:=by exact decide_eq_false h1
 have hby:decide (y<0)=true:=by exact decide_eq_true h2
 rw[hbx] at HDA
 rw[hby] at HDB
 clear hda hdb va vb ea eb hx hy hbx hby hcx h1 h2
 go_enter Tryz.func94,Tryz.ntmps94
 go_wp2_with (first
  | (go_at_call 93;with_reducible refine(VA.out _).mono ?_;rintro e w1 ⟨rfl,rfl⟩)
  | (go_at_call 93;with_reducible refine(VB.out _).mono ?_;rintro e w1 ⟨rfl,rfl⟩)
  | (go_at_call 128;with_reducible refine(HDA.out _).mono ?_;rintro e w1 ⟨⟨v1,rfl,hv1⟩,hb1⟩;have HV1:=hid hv1;have HB1:=hid hb1;clear hv1 hb1)
  | (go_at_call 128;with_reducible refine(HDB.out _).mono ?_;rintro e w2 ⟨⟨v2,rfl,hv2⟩,hb2⟩;have HV2:=hid hv2;have HB2:=hid hb2;have HV1b:=hid (HV1.out.below HB2.out (Nat.le_refl _));have HBB:=hid (HB1.out.trans (HB2.out.mono HB1.out.size));clear hv2 hb2)
  | fail)
 skip
 go_wp2
 go_ret
 exact⟨rfl,HBB.out⟩
theorem xH_ (a b:ByteArray) (x y:Int) (w:World) (ea:a=str x) (eb:b=str y) (hx:small x=true) (hy:small y=true) (h1:¬x<0) (h2:¬y<0) :
  Calls Tryz.prog 94 #[.string a,.string b] w fun e w'=>e=.returned (.int .i64 (cmpI x y))∧Below w.heap.size w w':=by
 have hcx:cmpI x y=cmpI (x.natAbs:Int) (y.natAbs:Int):=by
  unfold cmpI
  rcases Int.lt_trichotomy x y with h|h|h
  ·first|(rw[if_pos h];done)|(rw[if_pos h,if_pos (by omega)];done)|(exfalso;omega)
  ·first|(rw[if_neg (by omega),if_neg (by omega),if_neg (by omega),if_neg (by omega)];done)|(exfalso;omega)
  ·first|(rw[if_neg (by omega),if_pos (by omega)];done)|(rw[if_neg (by omega),if_pos (by omega),if_neg (by omega),if_pos (by omega)];done)|(exfalso;omega)
 rw[hcx]
 obtain⟨va,za⟩:=aP_ ea hx
 obtain⟨vb,zb⟩:=aP_ eb hy
 have lx:=aU_ hx
 have ly:=aU_ hy
 have hda:=fun W=>aK_ a x W ea hx
 have hdb:=fun W=>aK_ b y W eb hy
 have VA:=hid (aE_ za va)
 have VB:=hid (aE_ zb vb)
 have HDA:=hid hda
 have HDB:=hid hdb
 have hbx:decide (x<0)=false:=by exact decide_eq_false h1
 have hby:decide (y<0)=false:=by exact decide_eq_false h2
 rw[hbx] at HDA
 rw[hby] at HDB
 clear hda hdb va vb ea eb hx hy hbx hby hcx h1 h2
 go_enter Tryz.func94,Tryz.ntmps94
 go_wp2_with (first
  | (go_at_call 93;with_reducible refine(VA.out _).mono ?_;rintro e w1 ⟨rfl,rfl⟩)
  | (go_at_call 93;with_reducible refine(VB.out _).mono ?_;rintro e w1 ⟨rfl,rfl⟩)
  | (go_at_call 128;with_reducible refine(HDA.out _).mono ?_;rintro e w1 ⟨⟨v1,rfl,hv1⟩,hb1⟩;have HV1:=hid hv1;have HB1:=hid hb1;clear hv1 hb1)
  | (go_at_call 128;with_reducible refine(HDB.out _).mono ?_;rintro e w2 ⟨⟨v2,rfl,hv2⟩,hb2⟩;have HV2:=hid hv2;have HB2:=hid hb2;have HV1b:=hid (HV1.out.below HB2.out (Nat.le_refl _));have HBB:=hid (HB1.out.trans (HB2.out.mono HB1.out.size));clear hv2 hb2)
  | fail)
 go_wp2_with (go_at_call 129;refine(iL_ v1 v2 x.natAbs y.natAbs _ _ _ _ _ HV1b.out HV2.out).mono ?_;rintro e w3 ⟨rfl,hs3⟩;have HB3:=hid (hs3.below w2.heap.size);clear hs3)
 go_wp2
 go_ret
 exact⟨rfl,HBB.out.trans (HB3.out.mono HBB.out.size)⟩
theorem xJ_ (a b:ByteArray) (x y:Int) (w:World) (ea:a=str x) (eb:b=str y) (hx:small x=true) (hy:small y=true) :
  Calls Tryz.prog 94 #[.string a,.string b] w fun e w'=>e=.returned (.int .i64 (cmpI x y))∧Below w.heap.size w w':=by
 by_cases h1:x<0 <;> by_cases h2:y<0
 ·exact xM_ a b x y w ea eb hx hy h1 h2
 ·exact xK_ a b x y w ea eb hx hy h1 h2
 ·exact xI_ a b x y w ea eb hx hy h1 h2
 ·exact xH_ a b x y w ea eb hx hy h1 h2
theorem aOK (a b:ByteArray) (x y:Int) (w:World) (ea:a=str x) (eb:b=str y) (hx:small x=true) (hy:small y=true) :
  Calls Tryz.prog 95 #[.string a,.string b] w fun e w'=>(∃s n,outZ ((Nat.gcd x.natAbs y.natAbs:Nat):Int)=#[.string s,.int .i64 n]∧e=.returned (.tuple #[.string s,.int .i64 n]))∧Below w.heap.size w w':=by
 obtain⟨μ,hμ⟩:=rD_
 have HMU:=hid hμ
 clear hμ
 obtain⟨va,za⟩:=aP_ ea hx
 obtain⟨vb,zb⟩:=aP_ eb hy
 have lx:=aU_ hx
 have ly:=aU_ hy
 have hda:=fun W=>aK_ a x W ea hx
 have hdb:=fun W=>aK_ b y W eb hy
 have VA:=hid (aE_ za va)
 have VB:=hid (aE_ zb vb)
 have HDA:=hid hda
 have HDB:=hid hdb
 clear hda hdb va vb ea eb hx hy
 go_enter Tryz.func95,Tryz.ntmps95
 go_wp2_with (first
  | (go_at_call 93;with_reducible refine(VA.out _).mono ?_;rintro e w1 ⟨rfl,rfl⟩)
  | (go_at_call 93;with_reducible refine(VB.out _).mono ?_;rintro e w1 ⟨rfl,rfl⟩)
  | (go_at_call 128;with_reducible refine(HDA.out _).mono ?_;rintro e w1 ⟨⟨v1,rfl,hv1⟩,hb1⟩;have HV1:=hid hv1;have HB1:=hid hb1;clear hv1 hb1)
  | (go_at_call 128;with_reducible refine(HDB.out _).mono ?_;rintro e w2 ⟨⟨v2,rfl,hv2⟩,hb2⟩;have HV2:=hid hv2;have HB2:=hid hb2;have HV1b:=hid (HV1.out.below HB2.out (Nat.le_refl _));have HBB:=hid (HB1.out.trans (HB2.out.mono HB1.out.size));clear hv2 hb2)
  | fail)
 obtain⟨K0,hK0⟩:∃K,K=x.natAbs:=⟨_,rfl⟩
 obtain⟨L0,hL0⟩:∃L,L=y.natAbs:=⟨_,rfl⟩
 rw[←hK0] at lx HV1b
 rw[←hL0] at ly HV2
 have HG0:Hid (Nat.gcd x.natAbs y.natAbs=Nat.gcd K0 L0):=by show _=_;rw[hK0,hL0]
 have h12:=HB2.out.size
 have h01:=HB1.out.size
 have HS1:=hid (HV1b.out.mono (Nat.le_refl _) h12)
 have HS2:=hid (HV2.out.mono h01 (Nat.le_refl _))
 clear hK0 hL0
 go_loopw [7,9,10,11] (fun k l _ _ wr=>∃(K L:Nat),Nr wr k K w.heap.size wr.heap.size∧Nr wr l L w.heap.size wr.heap.size∧(dig 10 K).length≤200∧(dig 10 L).length≤200∧Nat.gcd K L=Nat.gcd K0 L0∧Below w.heap.size w wr)
  (fun _ l _ _ wr=>μ wr l)
 case atStart=>exact⟨K0,L0,HS1.out,HS2.out,lx,ly,rfl,HBB.out⟩
 case round=>
  obtain⟨K,L,hk,hl,hK,hL,hgcd,hb⟩:=hrel
  obtain⟨la,lc,rfl⟩:=Nr.form hl
  have HK:=hid hk
  have HL:=hid hl
  have HGC:=hid hgcd
  have HBW:=hid hb
  have hpos:(dig 10 L).length=0↔L=0:=by rw[List.length_eq_zero_iff,lQ_ (by omega)]
  have hLs:=hid hL
  obtain⟨Ln,hLn⟩:∃Ln,Ln=(dig 10 L).length:=⟨_,rfl⟩
  rw[←hLn] at hpos hL⊢
  have HLn:=hid hLn
  clear hk hl hgcd hb hLn
  rcases Nat.eq_zero_or_pos L with h0|h0
  ·have hz:=hpos.2 h0
   have e:Nat.gcd x.natAbs y.natAbs=K:=by rw[HG0.out,←HGC.out,h0,Nat.gcd_zero_right]
   have HE:=hid e
   clear hpos h0 e
   go_wp2_with (go_at_call 131;refine(fK_ false _ K (K:Int) _ _ _ HK.out (Nat.le_refl _) (by omega) rfl).mono ?_;rintro e w3 ⟨⟨s,n,hs,rfl⟩,hb3⟩;have HS:=hid hs;have HB3:=hid hb3;clear hs hb3)
   go_ret2
   exact⟨⟨s,n,by rw[HE.out];exact HS.out,rfl⟩,HBW.out.trans (HB3.out.mono HBW.out.size)⟩
  ·have hz:0<Ln:=by omega
   clear hpos
   have hdv:=fun(hs:Nr wr (.slice la Ln lc) L w.heap.size wr.heap.size)=>fJ_ _ _ K L w.heap.size wr.heap.size w.heap.size wr.heap.size wr HK.out hs (Nat.le_refl _) (Nat.le_refl _) (by unfold cF_;omega) (by have:=hLs.out;omega) h0
   have HD:=hid (hdv (by rw[HLn.out];exact HL.out))
   clear hdv
   go_wp2_with (go_at_call 130;with_reducible refine(HD.out).mono ?_;rintro e w3 ⟨⟨q,r,rfl,hq,hr⟩,hb3⟩;have HR:=hid hr;have HB3:=hid hb3;clear hq hr hb3)
   have hlt:K%L<L:=Nat.mod_lt _ h0
   have hsz:=HBW.out.size
   have hL2:=HL.out.below HB3.out (Nat.le_refl _)
   rw[HLn.out]
   refine⟨⟨L,K%L,hL2.mono (Nat.le_refl _) HB3.out.size,HR.out.mono hsz (Nat.le_refl _),hLs.out,?_,?_,HBW.out.trans (HB3.out.mono hsz)⟩,?_⟩
   ·have:=aG_ (B:=10) (by omega) (Nat.le_of_lt hlt)
    have:=hLs.out
    omega
   ·rw[←HGC.out,Nat.gcd_comm K L,Nat.gcd_rec L K,Nat.gcd_comm]
   ·rw[HMU.out _ _ _ _ _ HR.out,HMU.out _ _ _ _ _ HL.out];exact hlt
theorem nr_one (W:World):Nr (W.alloc (.cells #[.int .i64 1] 3)) (.slice (some ⟨W.heap.size,0,none⟩) 1 1) 1 W.heap.size (W.alloc (.cells #[.int .i64 1] 3)).heap.size:=by
 have h:=Sl.of_owns (World.ownsRow_lit (base:=W.heap.size) (e:=3) (size:=1) W #[.int .i64 1] 1 (Nat.le_refl _) (by decide) rfl)
 have h1:dig 10 1=[1]:=by decide
 show Ns _ _ (dig 10 1) _ _
 rw[h1]
 exact h
theorem sJ_ {b:ByteArray} {y:Int} (eb:b=str y) (h:y≠0):(b.toList == [48])=false:=by
 rw[beq_eq_false_iff_ne,ne_eq,Lib.toList_data,eb,cV_]
 intro e
 exact h (wZ_ (e.trans (show[48]=txt 0 by decide)))
theorem fS_ (neg:Bool) (v:Value) (n:Nat) (z:Int) (lo top:Nat) (w:World) (h:Nr w v n lo top) (b:top≤w.heap.size) (hl:(dig 10 n).length≤1000000) (hz:z=if neg=true then -(n:Int) else n) (hs:small z=true) {sz:ByteArray} (es:sz=str z) :
  Calls Tryz.prog 131 #[.bool neg,v] w fun e w'=>e=.returned (.tuple #[.string sz,.int .i64 0])∧Below w.heap.size w w':=by
 refine(fK_ neg v n z lo top w h b hl hz).mono ?_
 rintro e w' ⟨⟨s,k,h1,rfl⟩,hb⟩
 unfold outZ at h1
 rw[if_pos hs] at h1
 simp only[Array.mk.injEq,List.cons.injEq,Value.string.injEq,Value.int.injEq,true_and,and_true] at h1
 obtain⟨rfl,rfl⟩:=h1
 rw[es]
 exact⟨rfl,hb⟩
theorem kP_ (v:Value) (n:Nat) (z:Int) (lo top:Nat) (w:World) (h:Nr w v n lo top) (b:top≤w.heap.size) (hl:(dig 10 n).length≤1000000) (hz:z=if false=true then -(n:Int) else n) {sz:ByteArray} (es:sz=str z) :
  Calls Tryz.prog 136 #[.bool false,v] w fun e w'=>(∃c,e=.returned (.tuple #[.string sz,.bool c]))∧Below w.heap.size w w':=by
 refine(oH_ false v n lo top w h b hl).mono ?_
 rintro e w' ⟨⟨s,h1,rfl⟩,hb⟩
 rw[←hz,←es] at h1
 rw[h1]
 exact⟨⟨_,rfl⟩,hb⟩
theorem aEM (a b:ByteArray) (x:Int) (w:World) (ea:a=str x) (eb:b=str 0) (hx:small x=true) :
  Calls Tryz.prog 122 #[.string a,.string b] w fun e w'=>e=.returned (.tuple #[.string ⟨#[]⟩,.string ⟨#[]⟩,.int .i64 30])∧w=w':=by
 obtain⟨va,za⟩:=aP_ ea hx
 obtain⟨vb,zb⟩:=aP_ eb (by decide)
 have VA:=hid (aE_ za va)
 have VB:=hid (aE_ zb vb)
 have h0:(b.toList == [48])=true:=by rw[beq_iff_eq,Lib.toList_data,eb,cV_];decide
 clear va vb ea eb hx
 go_enter Tryz.func122,Tryz.ntmps122
 go_wp2_with (first
  | (go_at_call 93;with_reducible refine(VA.out _).mono ?_;rintro e w1 ⟨rfl,rfl⟩)
  | (go_at_call 93;with_reducible refine(VB.out _).mono ?_;rintro e w1 ⟨rfl,rfl⟩))
 go_ret3
 exact⟨rfl,rfl⟩
theorem rDiv_A (a b:ByteArray) (x y:Int) (w:World) (ea:a=str x) (eb:b=str y) (hx:small x=true) (hy:small y=true) (hy0:y≠0) (hneg:¬x<0) :
  Calls Tryz.prog 122 #[.string a,.string b] w fun e w'=>e=.returned (.tuple #[.string (str (x/y)),.string (str (x%y)),.int .i64 0])∧Below w.heap.size w w':=by
 have hsd:=aL_ y hx
 obtain⟨sq,hsq⟩:∃s,s=str (x/y):=⟨_,rfl⟩
 obtain⟨sr,hsr⟩:∃s,s=str (x%y):=⟨_,rfl⟩
 rw[←hsq,←hsr]
 have HSQ:=hid hsq
 have HSR:=hid hsr
 have HSD:=hid hsd
 obtain⟨va,za⟩:=aP_ ea hx
 obtain⟨vb,zb⟩:=aP_ eb hy
 have lx:=aU_ hx
 have ly:=aU_ hy
 have hda:=fun W=>aK_ a x W ea hx
 have hdb:=fun W=>aK_ b y W eb hy
 have hbx:decide (x<0)=false:=by exact decide_eq_false hneg
 have hL0:0<y.natAbs:=by omega
 have hb0:=sJ_ eb hy0
 have hdl:=div_A (n2:=decide (y<0)) ⟨(decide_eq_false hneg).symm,rfl⟩ ⟨rfl,rfl⟩ hL0
 have hlq:(dig 10 (x.natAbs/y.natAbs)).length≤200:=Nat.le_trans (aG_ (by omega) (Nat.div_le_self _ _)) lx
 have hlr:(dig 10 (x.natAbs%y.natAbs)).length≤200:=Nat.le_trans (aG_ (by omega) (Nat.le_of_lt (Nat.mod_lt _ hL0))) ly
 have hrl:=Nat.mod_lt x.natAbs hL0
 rw[hbx] at hda
 obtain⟨K,hK⟩:∃K,K=x.natAbs:=⟨_,rfl⟩
 obtain⟨L,hL⟩:∃L,L=y.natAbs:=⟨_,rfl⟩
 rw[←hK] at lx hda hdl hlq hlr hrl
 rw[←hL] at ly hdb hdl hlq hlr hL0 hrl
 have VA:=hid (aE_ za va)
 have VB:=hid (aE_ zb vb)
 have HDA:=hid hda
 generalize decide (y<0)=sy at hdb hdl
 have HDB:=hid hdb
 have HDL:=hid hdl
 have f1:cF_ K:=by unfold cF_;omega
 clear hda hdb hdl va vb ea eb hx hy hbx hsq hsr hsd hK hL hneg
 go_enter Tryz.func122,Tryz.ntmps122
 go_wp2_with (first
  | (go_at_call 93;with_reducible refine(VA.out _).mono ?_;rintro e w1 ⟨rfl,rfl⟩)
  | (go_at_call 93;with_reducible refine(VB.out _).mono ?_;rintro e w1 ⟨rfl,rfl⟩)
  | (go_at_call 128;with_reducible refine(HDA.out _).mono ?_;rintro e w1 ⟨⟨v1,rfl,hv1⟩,hb1⟩;have HV1:=hid hv1;have HB1:=hid hb1;clear hv1 hb1)
  | (go_at_call 128;with_reducible refine(HDB.out _).mono ?_;rintro e w2 ⟨⟨v2,rfl,hv2⟩,hb2⟩;have HV2:=hid hv2;have HB2:=hid hb2;have HV1b:=hid (HV1.out.below HB2.out (Nat.le_refl _));have HBB:=hid (HB1.out.trans (HB2.out.mono HB1.out.size));clear hv2 hb2)
  | (go_at_call 130;refine(fJ_ v1 v2 K L w.heap.size w1.heap.size w1.heap.size w2.heap.size w2 HV1b.out HV2.out HB2.out.size (Nat.le_refl _) f1 (by omega) hL0).mono ?_;rintro e w3 ⟨⟨q,r,rfl,hq,hr⟩,hb3⟩;skip;have HQ:=hid hq;have HR:=hid hr;have HB3:=hid hb3;have HBC:=hid (HBB.out.trans (HB3.out.mono HBB.out.size));clear hq hr hb3;have HQf:=HQ;have HRf:=HR;have HQle:=hid (Nat.le_refl w3.heap.size);have HRle:=hid (Nat.le_refl w3.heap.size);have hqlen:(dig 10 (K/L)).length≤1000000:=(by omega);have hrlen:(dig 10 (K%L)).length≤1000000:=(by omega))
  | (go_at_call 131;refine(fS_ (sy) q (K/L) (x/y) _ _ w3 HQf.out HQle.out hqlen HDL.out.1 HSD.out HSQ.out).mono ?_;rintro e w6 ⟨rfl,hb6⟩;have HB6:=hid hb6;have HBD:=hid (HBC.out.trans (HB6.out.mono HBC.out.size));clear hb6)
  | (go_at_call 136;refine(kP_ r (K%L) (x%y) _ _ w6 (HRf.out.below HB6.out HRle.out) (Nat.le_trans HRle.out HB6.out.size) hrlen HDL.out.2 HSR.out).mono ?_;rintro e w7 ⟨⟨c,rfl⟩,hb7⟩;have HBE:=hid (HBD.out.trans (hb7.mono HBD.out.size));clear hb7))
 go_ret3
 exact⟨rfl,HBE.out⟩
theorem rDiv_B (a b:ByteArray) (x y:Int) (w:World) (ea:a=str x) (eb:b=str y) (hx:small x=true) (hy:small y=true) (hy0:y≠0) (hneg:x<0) (hrem:x.natAbs%y.natAbs=0) :
  Calls Tryz.prog 122 #[.string a,.string b] w fun e w'=>e=.returned (.tuple #[.string (str (x/y)),.string (str (x%y)),.int .i64 0])∧Below w.heap.size w w':=by
 have hsd:=aL_ y hx
 obtain⟨sq,hsq⟩:∃s,s=str (x/y):=⟨_,rfl⟩
 obtain⟨sr,hsr⟩:∃s,s=str (x%y):=⟨_,rfl⟩
 rw[←hsq,←hsr]
 have HSQ:=hid hsq
 have HSR:=hid hsr
 have HSD:=hid hsd
 obtain⟨va,za⟩:=aP_ ea hx
 obtain⟨vb,zb⟩:=aP_ eb hy
 have lx:=aU_ hx
 have ly:=aU_ hy
 have hda:=fun W=>aK_ a x W ea hx
 have hdb:=fun W=>aK_ b y W eb hy
 have hbx:decide (x<0)=true:=by exact decide_eq_true hneg
 have hL0:0<y.natAbs:=by omega
 have hb0:=sJ_ eb hy0
 have hdl:=div_B (n2:=decide (y<0)) ⟨(decide_eq_true hneg).symm,rfl⟩ ⟨rfl,rfl⟩ hL0 hrem
 have hlq:(dig 10 (x.natAbs/y.natAbs)).length≤200:=Nat.le_trans (aG_ (by omega) (Nat.div_le_self _ _)) lx
 have hlr:(dig 10 (x.natAbs%y.natAbs)).length≤200:=Nat.le_trans (aG_ (by omega) (Nat.le_of_lt (Nat.mod_lt _ hL0))) ly
 have hrl:=Nat.mod_lt x.natAbs hL0
 rw[hbx] at hda
 obtain⟨K,hK⟩:∃K,K=x.natAbs:=⟨_,rfl⟩
 obtain⟨L,hL⟩:∃L,L=y.natAbs:=⟨_,rfl⟩
 rw[←hK] at lx hda hdl hlq hlr hrl hrem
 rw[←hL] at ly hdb hdl hlq hlr hL0 hrl hrem
 have VA:=hid (aE_ za va)
 have VB:=hid (aE_ zb vb)
 have HDA:=hid hda
 generalize decide (y<0)=sy at hdb hdl
 have HDB:=hid hdb
 have HDL:=hid hdl
 have HREM:=hid hrem
 have f1:cF_ K:=by unfold cF_;omega
 clear hda hdb hdl va vb ea eb hx hy hbx hsq hsr hsd hK hL hneg hrem
 go_enter Tryz.func122,Tryz.ntmps122
 go_wp2_with (first
  | (go_at_call 93;with_reducible refine(VA.out _).mono ?_;rintro e w1 ⟨rfl,rfl⟩)
  | (go_at_call 93;with_reducible refine(VB.out _).mono ?_;rintro e w1 ⟨rfl,rfl⟩)
  | (go_at_call 128;with_reducible refine(HDA.out _).mono ?_;rintro e w1 ⟨⟨v1,rfl,hv1⟩,hb1⟩;have HV1:=hid hv1;have HB1:=hid hb1;clear hv1 hb1)
  | (go_at_call 128;with_reducible refine(HDB.out _).mono ?_;rintro e w2 ⟨⟨v2,rfl,hv2⟩,hb2⟩;have HV2:=hid hv2;have HB2:=hid hb2;have HV1b:=hid (HV1.out.below HB2.out (Nat.le_refl _));have HBB:=hid (HB1.out.trans (HB2.out.mono HB1.out.size));clear hv2 hb2)
  | (go_at_call 130;refine(fJ_ v1 v2 K L w.heap.size w1.heap.size w1.heap.size w2.heap.size w2 HV1b.out HV2.out HB2.out.size (Nat.le_refl _) f1 (by omega) hL0).mono ?_;rintro e w3 ⟨⟨q,r,rfl,hq,hr⟩,hb3⟩;obtain⟨ra,rc,rfl⟩:∃a c,r=.slice a 0 c:=(by obtain⟨a,c,e⟩:=Nr.form hr;rw[HREM.out] at e;exact⟨a,c,e⟩);have HQ:=hid hq;have HR:=hid hr;have HB3:=hid hb3;have HBC:=hid (HBB.out.trans (HB3.out.mono HBB.out.size));clear hq hr hb3;have HQf:=HQ;have HRf:=HR;have HQle:=hid (Nat.le_refl w3.heap.size);have HRle:=hid (Nat.le_refl w3.heap.size);have hqlen:(dig 10 (K/L)).length≤1000000:=(by omega);have hrlen:(dig 10 (K%L)).length≤1000000:=(by omega))
  | (go_at_call 131;refine(fS_ (!sy) q (K/L) (x/y) _ _ w3 HQf.out HQle.out hqlen HDL.out.1 HSD.out HSQ.out).mono ?_;rintro e w6 ⟨rfl,hb6⟩;have HB6:=hid hb6;have HBD:=hid (HBC.out.trans (HB6.out.mono HBC.out.size));clear hb6)
  | (go_at_call 136;refine(kP_ (.slice ra 0 rc) (K%L) (x%y) _ _ w6 (HRf.out.below HB6.out HRle.out) (Nat.le_trans HRle.out HB6.out.size) hrlen HDL.out.2 HSR.out).mono ?_;rintro e w7 ⟨⟨c,rfl⟩,hb7⟩;have HBE:=hid (HBD.out.trans (hb7.mono HBD.out.size));clear hb7))
 go_ret3
 exact⟨rfl,HBE.out⟩
theorem rDiv_C (a b:ByteArray) (x y:Int) (w:World) (ea:a=str x) (eb:b=str y) (hx:small x=true) (hy:small y=true) (hy0:y≠0) (hneg:x<0) (hrem:x.natAbs%y.natAbs≠0) :
  Calls Tryz.prog 122 #[.string a,.string b] w fun e w'=>e=.returned (.tuple #[.string (str (x/y)),.string (str (x%y)),.int .i64 0])∧Below w.heap.size w w':=by
 have hsd:=aL_ y hx
 obtain⟨sq,hsq⟩:∃s,s=str (x/y):=⟨_,rfl⟩
 obtain⟨sr,hsr⟩:∃s,s=str (x%y):=⟨_,rfl⟩
 rw[←hsq,←hsr]
 have HSQ:=hid hsq
 have HSR:=hid hsr
 have HSD:=hid hsd
 obtain⟨va,za⟩:=aP_ ea hx
 obtain⟨vb,zb⟩:=aP_ eb hy
 have lx:=aU_ hx
 have ly:=aU_ hy
 have hda:=fun W=>aK_ a x W ea hx
 have hdb:=fun W=>aK_ b y W eb hy
 have hbx:decide (x<0)=true:=by exact decide_eq_true hneg
 have hL0:0<y.natAbs:=by omega
 have hb0:=sJ_ eb hy0
 have hdl:=div_C (n2:=decide (y<0)) ⟨(decide_eq_true hneg).symm,rfl⟩ ⟨rfl,rfl⟩ hL0 hrem
 have hlq:(dig 10 (x.natAbs/y.natAbs)).length≤200:=Nat.le_trans (aG_ (by omega) (Nat.div_le_self _ _)) lx
 have hlr:(dig 10 (x.natAbs%y.natAbs)).length≤200:=Nat.le_trans (aG_ (by omega) (Nat.le_of_lt (Nat.mod_lt _ hL0))) ly
 have hrl:=Nat.mod_lt x.natAbs hL0
 rw[hbx] at hda
 obtain⟨K,hK⟩:∃K,K=x.natAbs:=⟨_,rfl⟩
 obtain⟨L,hL⟩:∃L,L=y.natAbs:=⟨_,rfl⟩
 rw[←hK] at lx hda hdl hlq hlr hrl hrem
 rw[←hL] at ly hdb hdl hlq hlr hL0 hrl hrem
 have VA:=hid (aE_ za va)
 have VB:=hid (aE_ zb vb)
 have HDA:=hid hda
 generalize decide (y<0)=sy at hdb hdl
 have HDB:=hid hdb
 have HDL:=hid hdl
 obtain⟨Lr,hLr⟩:∃Lr,Lr=(dig 10 (K%L)).length:=⟨_,rfl⟩
 have hLr0:0<Lr:=by
  rcases Nat.eq_zero_or_pos Lr with h|h
  ·rw[h] at hLr
   exact absurd ((lQ_ (by omega)).1 (List.eq_nil_of_length_eq_zero hLr.symm)) hrem
  ·exact h
 have HLR:=hid hLr
 have fq:cF_ (K/L):=by unfold cF_;omega
 have f11:cF_ 1:=by unfold cF_;decide
 have fl:cF_ L:=by unfold cF_;omega
 have fr:cF_ (K%L):=by unfold cF_;omega
 have hrle:K%L≤L:=by omega
 have hqlen:(dig 10 (K/L+1)).length≤1000000:=by
  have:=aDZ (n:=K/L) (m:=1) (by omega) (by decide)
  omega
 have hrlen:(dig 10 (L-K%L)).length≤1000000:=by
  have:=tS_ (n:=L) (m:=K%L) (by omega)
  omega
 have f1:cF_ K:=by unfold cF_;omega
 clear hda hdb hdl va vb ea eb hx hy hbx hsq hsr hsd hK hL hneg hrem hLr
 go_enter Tryz.func122,Tryz.ntmps122
 go_wp2_with (first
  | (go_at_call 93;with_reducible refine(VA.out _).mono ?_;rintro e w1 ⟨rfl,rfl⟩)
  | (go_at_call 93;with_reducible refine(VB.out _).mono ?_;rintro e w1 ⟨rfl,rfl⟩)
  | (go_at_call 128;with_reducible refine(HDA.out _).mono ?_;rintro e w1 ⟨⟨v1,rfl,hv1⟩,hb1⟩;have HV1:=hid hv1;have HB1:=hid hb1;clear hv1 hb1)
  | (go_at_call 128;with_reducible refine(HDB.out _).mono ?_;rintro e w2 ⟨⟨v2,rfl,hv2⟩,hb2⟩;have HV2:=hid hv2;have HB2:=hid hb2;have HV1b:=hid (HV1.out.below HB2.out (Nat.le_refl _));have HBB:=hid (HB1.out.trans (HB2.out.mono HB1.out.size));clear hv2 hb2)
  | (go_at_call 130;refine(fJ_ v1 v2 K L w.heap.size w1.heap.size w1.heap.size w2.heap.size w2 HV1b.out HV2.out HB2.out.size (Nat.le_refl _) f1 (by omega) hL0).mono ?_;rintro e w3 ⟨⟨q,r,rfl,hq,hr⟩,hb3⟩;obtain⟨ra,rc,rfl⟩:∃a c,r=.slice a Lr c:=(by obtain⟨a,c,e⟩:=Nr.form hr;rw[←HLR.out] at e;exact⟨a,c,e⟩);have HQ:=hid hq;have HR:=hid hr;have HB3:=hid hb3;have HBC:=hid (HBB.out.trans (HB3.out.mono HBB.out.size));clear hq hr hb3)
  | (go_at_call 162;refine(uR_ q _ (K/L) 1 w2.heap.size w3.heap.size w3.heap.size _ _ (HQ.out.below ((Below.refl _ _).alloc (Nat.le_refl _) _) (Nat.le_refl _)) (nr_one w3) (by simp) (Nat.le_refl _) fq f11).mono ?_;rintro e w4 ⟨⟨q2,rfl,hq2⟩,hb4⟩;have HB4:=hid (((Below.refl w3.heap.size w3).alloc (Nat.le_refl _) (.cells #[.int .i64 1] 3)).trans (hb4.mono (by simp)));have HQ2:=hid (hq2.mono (show w3.heap.size≤_ by simp) (Nat.le_refl _));clear hq2 hb4)
  | (go_at_call 163;refine(iM_ v2 _ L (K%L) w1.heap.size w2.heap.size w2.heap.size w3.heap.size w4 ((HV2.out.below HB3.out (Nat.le_refl _)).below HB4.out HB3.out.size) (HR.out.below HB4.out (Nat.le_refl _)) (Nat.le_trans HB3.out.size HB4.out.size) HB4.out.size fl fr hrle).mono ?_;rintro e w5 ⟨⟨r2,rfl,hr2⟩,hb5⟩;have HQf:=hid (HQ2.out.below hb5 (Nat.le_refl _));have HQle:=hid hb5.size;have HRf:=hid hr2;have HRle:=hid (Nat.le_refl w5.heap.size);have HB4b:=hid (HBC.out.trans (HB4.out.mono HBC.out.size));have HB5:=hid (HB4b.out.trans (hb5.mono HB4b.out.size));clear hr2 hb5)
  | (go_at_call 131;refine(fS_ (!sy) q2 (K/L+1) (x/y) _ _ w5 HQf.out HQle.out hqlen HDL.out.1 HSD.out HSQ.out).mono ?_;rintro e w6 ⟨rfl,hb6⟩;have HB6:=hid hb6;have HBD:=hid (HB5.out.trans (HB6.out.mono HB5.out.size));clear hb6)
  | (go_at_call 136;refine(kP_ r2 (L-K%L) (x%y) _ _ w6 (HRf.out.below HB6.out HRle.out) (Nat.le_trans HRle.out HB6.out.size) hrlen HDL.out.2 HSR.out).mono ?_;rintro e w7 ⟨⟨c,rfl⟩,hb7⟩;have HBE:=hid (HBD.out.trans (hb7.mono HBD.out.size));clear hb7))
 go_ret3
 exact⟨rfl,HBE.out⟩
theorem aOM (a b:ByteArray) (x y:Int) (w:World) (ea:a=str x) (eb:b=str y) (hx:small x=true) (hy:small y=true) (hy0:y≠0) :
  Calls Tryz.prog 122 #[.string a,.string b] w fun e w'=>e=.returned (.tuple #[.string (str (x/y)),.string (str (x%y)),.int .i64 0])∧Below w.heap.size w w':=by
 by_cases hneg:x<0
 ·by_cases hrem:x.natAbs%y.natAbs=0
  ·exact rDiv_B a b x y w ea eb hx hy hy0 hneg hrem
  ·exact rDiv_C a b x y w ea eb hx hy hy0 hneg hrem
 ·exact rDiv_A a b x y w ea eb hx hy hy0 hneg
theorem aEK (v:Value) (n:Nat) (z:Int) (lo top:Nat) (w:World) (h:Nr w v n lo top) (b:top≤w.heap.size) (hl:(dig 10 n).length≤1000000) (hz:z=if true=true then -(n:Int) else n) {sz:ByteArray} (es:sz=str z) :
  Calls Tryz.prog 136 #[.bool true,v] w fun e w'=>(∃c,e=.returned (.tuple #[.string sz,.bool c]))∧Below w.heap.size w w':=by
 refine(oH_ true v n lo top w h b hl).mono ?_
 rintro e w' ⟨⟨s,h1,rfl⟩,hb⟩
 rw[←hz,←es] at h1
 rw[h1]
 exact⟨⟨_,rfl⟩,hb⟩
theorem dig19 {N:Nat} (h:N<10000000000000000000):(dig 10 N).length≤19:=by
 have e:(10:Nat)^19=10000000000000000000:=by decide
 exact(aD_ (by omega) _ _).2 (by omega)
theorem uW_ (n:Int) (w:World) (h0:0≤n) (h1:n≤9223372036854775807) :
  Calls Tryz.prog 101 #[.int .i64 n] w fun e w'=>e=.returned (.string (str n))∧Below w.heap.size w w':=by
 obtain⟨i0,hi,hz0,hz1,hz2⟩:=info_parts fF_
 obtain⟨N,hN⟩:∃N:Nat,n=(N:Int):=⟨n.toNat,by omega⟩
 subst hN
 have hNl:(dig 10 N).length≤19:=dig19 (by omega)
 obtain⟨s,hs⟩:∃s,s=str (N:Int):=⟨_,rfl⟩
 rw[←hs]
 have HS:=hid hs
 have hd:decide ((N:Int)<0)=false:=decide_eq_false (by omega)
 clear hs
 go_enter Tryz.func101,Tryz.ntmps101
 go_wp2
 go_loopw [3,4] (fun v m wr=>∃(M:Nat) (ds:List Nat),M≤N∧m=.int .i64 (M:Int)∧dig 10 N=ds++dig 10 M∧wr.ownsRow w.heap.size 3 1 v ds.length (ds.map fun d:Nat=>Value.int .i64 (d:Int))∧Below w.heap.size w wr) (fun _ m _=>(intOf m).natAbs)
 case atStart=>exact⟨N,[],Nat.le_refl _,rfl,rfl,World.ownsRow_nil _ _ _ _,Below.refl _ _⟩
 case round=>
  obtain⟨M,ds,hM,rfl,he,hown,hb⟩:=hrel
  have hwr:=hb.size
  have hdl:ds.length≤19:=by
   have:=congrArg List.length he
   rw[List.length_append] at this
   omega
  obtain⟨k,hk⟩:∃k,k=ds.length:=⟨_,rfl⟩
  rw[←hk] at hown hdl
  have HK:=hid hk
  have HE:=hid he
  have HO:=hid hown
  have HB:=hid hb
  clear hk he hown hb
  rcases Nat.eq_zero_or_pos M with hm|hm
  ·subst hm
   have hds:ds=dig 10 N:=by have:=HE.out;rw[eC_,List.append_nil] at this;exact this.symm
   have hn:Nr wr u3 N w.heap.size wr.heap.size:=by
    have:=Sl.of_owns HO.out
    rw[hds] at this
    show Sl wr u3 (dig 10 N).length 1 _ _ _
    rw[←hds,←HK.out]
    rw[←hds] at this
    exact this
   have HN:=hid hn
   clear hn hds
   go_wp2_with (go_at_call 136;with_reducible refine(kP_ u3 N (N:Int) _ _ wr HN.out (Nat.le_refl _) (by omega) rfl HS.out).mono ?_;rintro e w2 ⟨⟨c,rfl⟩,hb2⟩)
   go_ret
   exact⟨rfl,HB.out.trans (hb2.mono HB.out.size)⟩
  ·have hdp:=cR_ (B:=10) (by omega) hm
   have HD:=hid hdp
   have hne:((M:Int) != 0)=true:=by rw[bne_iff_ne];omega
   clear hdp
   go_wp2_with (at_builtin;refine wpList_append_own _ rfl _ _ 97 rfl w.heap.size 3 i0 (.int .i64 0) 1 8 Tryz.underlying97 hi hz0 hz1 hz2 rfl (by decide) u3 k _ rfl (HO.out.alloc _) ⟨wr.heap.size,0,none⟩ 1 1 [.int .i64 ((M:Int)%10)] rfl rfl (cell_one_new _ _ _) (by simp[Value.oneCell']) (by unfold maxLen;omega) (by omega) (by simp;omega) ?_;intro v' w3 hown' hgrow _)
   refine⟨⟨M/10,ds++[M%10],by omega,congrArg _ (by omega),by rw[HE.out,HD.out];simp,bE_ (d:=(M:Int)%10) (x:=M%10) (by omega) (by rw[←HK.out];exact hown'),(HB.out.alloc hwr _).grown hgrow (by simp;omega) (fun g e=>(HO.out.lt g e).1)⟩,?_⟩
   simp only[intOf];omega
theorem uX_ (n:Int) (w:World) (h0:n<0) (h1 : -9223372036854775808≤n) :
  Calls Tryz.prog 101 #[.int .i64 n] w fun e w'=>e=.returned (.string (str n))∧Below w.heap.size w w':=by
 obtain⟨i0,hi,hz0,hz1,hz2⟩:=info_parts fF_
 obtain⟨N,hN⟩:∃N:Nat,n = -(N:Int):=⟨n.natAbs,by omega⟩
 subst hN
 have hN63:N≤9223372036854775808:=by omega
 have hNl:(dig 10 N).length≤19:=dig19 (by omega)
 obtain⟨s,hs⟩:∃s,s=str (-(N:Int)):=⟨_,rfl⟩
 rw[←hs]
 have HS:=hid hs
 have hN0:0<N:=by omega
 clear hs
 go_enter Tryz.func101,Tryz.ntmps101
 go_wp2
 go_loopw [3,4] (fun v m wr=>∃(M:Nat) (ds:List Nat),M≤N∧m=.int .i64 (-(M:Int))∧dig 10 N=ds++dig 10 M∧wr.ownsRow w.heap.size 3 1 v ds.length (ds.map fun d:Nat=>Value.int .i64 (d:Int))∧Below w.heap.size w wr) (fun _ m _=>(intOf m).natAbs)
 case atStart=>exact⟨N,[],Nat.le_refl _,rfl,rfl,World.ownsRow_nil _ _ _ _,Below.refl _ _⟩
 case round=>
  obtain⟨M,ds,hM,rfl,he,hown,hb⟩:=hrel
  have hwr:=hb.size
  have hdl:ds.length≤19:=by
   have:=congrArg List.length he
   rw[List.length_append] at this
   omega
  obtain⟨k,hk⟩:∃k,k=ds.length:=⟨_,rfl⟩
  rw[←hk] at hown hdl
  have HK:=hid hk
  have HE:=hid he
  have HO:=hid hown
  have HB:=hid hb
  clear hk he hown hb
  rcases Nat.eq_zero_or_pos M with hm|hm
  ·subst hm
   have hds:ds=dig 10 N:=by have:=HE.out;rw[eC_,List.append_nil] at this;exact this.symm
   have hn:Nr wr u3 N w.heap.size wr.heap.size:=by
    have:=Sl.of_owns HO.out
    rw[hds] at this
    show Sl wr u3 (dig 10 N).length 1 _ _ _
    rw[←hds,←HK.out]
    rw[←hds] at this
    exact this
   have HN:=hid hn
   clear hn hds
   go_wp2_with (go_at_call 136;with_reducible refine(aEK u3 N (-(N:Int)) _ _ wr HN.out (Nat.le_refl _) (by omega) rfl HS.out).mono ?_;rintro e w2 ⟨⟨c,rfl⟩,hb2⟩)
   go_ret
   exact⟨rfl,HB.out.trans (hb2.mono HB.out.size)⟩
  ·have hdp:=cR_ (B:=10) (by omega) hm
   have HD:=hid hdp
   have hne:(-(M:Int) != 0)=true:=by rw[bne_iff_ne];omega
   clear hdp
   obtain⟨D,hD⟩:∃D,M%10=D:=⟨_,rfl⟩
   have HDD:=hid hD
   have hD9:D<10:=by omega
   clear hD
   rcases Nat.eq_zero_or_pos D with hmz|hmz
   ·subst hmz
    have hmi:(M:Int)%10=0:=by have:=HDD.out;omega
    go_wp2_with (at_builtin;refine wpList_append_own _ rfl _ _ 97 rfl w.heap.size 3 i0 (.int .i64 0) 1 8 Tryz.underlying97 hi hz0 hz1 hz2 rfl (by decide) u3 k _ rfl (HO.out.alloc _) ⟨wr.heap.size,0,none⟩ 1 1 [.int .i64 (0)] rfl rfl (cell_one_new _ _ _) (by simp[Value.oneCell']) (by unfold maxLen;omega) (by omega) (by simp;omega) ?_;intro v' w3 hown' hgrow _)
    refine⟨⟨M/10,ds++[0],by omega,congrArg _ (by omega),by rw[HE.out,HD.out,HDD.out];simp,bE_ (d:=0) (x:=0) (by omega) (by rw[←HK.out];exact hown'),(HB.out.alloc hwr _).grown hgrow (by simp;omega) (fun g e=>(HO.out.lt g e).1)⟩,by simp only[intOf];omega⟩
   ·have hmi:(M:Int)%10=(D:Int):=by have:=HDD.out;omega
    go_wp2_with (at_builtin;refine wpList_append_own _ rfl _ _ 97 rfl w.heap.size 3 i0 (.int .i64 0) 1 8 Tryz.underlying97 hi hz0 hz1 hz2 rfl (by decide) u3 k _ rfl (HO.out.alloc _) ⟨wr.heap.size,0,none⟩ 1 1 [.int .i64 ((D:Int))] rfl rfl (cell_one_new _ _ _) (by simp[Value.oneCell']) (by unfold maxLen;omega) (by omega) (by simp;omega) ?_;intro v' w3 hown' hgrow _)
    refine⟨⟨M/10,ds++[D],by omega,congrArg _ (by omega),by rw[HE.out,HD.out,HDD.out];simp,bE_ (d:=(D:Int)) (x:=D) (by omega) (by rw[←HK.out];exact hown'),(HB.out.alloc hwr _).grown hgrow (by simp;omega) (fun g e=>(HO.out.lt g e).1)⟩,by simp only[intOf];omega⟩
theorem uY_ (n:Int) (w:World) (h0 : -9223372036854775808≤n) (h1:n≤9223372036854775807) :
  Calls Tryz.prog 101 #[.int .i64 n] w fun e w'=>e=.returned (.string (str n))∧Below w.heap.size w w':=by
 by_cases h:n<0
 ·exact uX_ n w h h0
 ·exact uW_ n w (by omega) h1
theorem hR_ {z:Int} {s:ByteArray} {k:Int} (h:outZ z=#[.string s,.int .i64 k]):s=opS (some z)∧k=opN (some z):=by
 by_cases hs:small z=true
 ·rw[aB_ hs,aV_ hs]
  exact aBO hs h
 ·have hs':small z=false:=by simpa using hs
  have e1:opS (some z)=⟨#[]⟩:=by unfold opS;exact if_neg hs
  have e2:opN (some z)=30:=by unfold opN;exact if_neg hs
  rw[e1,e2]
  exact aBP hs' h
theorem hD_ {a b:ByteArray} (h:aC_ a=none∨aC_ b=none):(aH_ a.data.toList&&aH_ b.data.toList)=false:=by
 rw[←bI_,←bI_]
 rcases h with h|h
 ·rw[h];rfl
 ·rw[h];simp
theorem cK_ {a:ByteArray} {x:Int} (h:aC_ a=some x):a=str x∧small x=true:=bH_ h
theorem aKM {w:World} (hG:Glob w) {a b:ByteArray} (ha:Sz a) (hb:Sz b) (W:World) (hk:Below w.heap.size w W) :
  Calls Tryz.prog 121 #[.string a,.string b] W fun e W'=>e=.returned (.tuple #[.string (opS (addO a b)),.int .i64 (opN (addO a b))])∧Below w.heap.size w W':=by
 have hno:(aC_ a=none∨aC_ b=none)→addO a b=none→Calls Tryz.prog 121 #[.string a,.string b] W fun e W'=>e=.returned (.tuple #[.string (opS (addO a b)),.int .i64 (opN (addO a b))])∧Below w.heap.size w W':=fun h ho=>by
  rw[ho,dE_,dF_]
  refine(Add_no a b W ha.le hb.le (hD_ h)).mono ?_
  rintro e w2 ⟨rfl,h2⟩
  exact⟨rfl,hk.trans (h2.mono hk.size)⟩
 cases h1:aC_ a with
 | none=>exact hno (.inl h1) (by unfold addO;rw[h1])
 | some x=>
  cases h2:aC_ b with
  | none=>exact hno (.inr h2) (by unfold addO;rw[h1,h2])
  | some y=>
   obtain⟨ea,hx⟩:=cK_ h1
   obtain⟨eb,hy⟩:=cK_ h2
   have ho:addO a b=some (x+y):=by unfold addO;rw[h1,h2]
   rw[ho]
   subst ea eb
   refine(Add_ok x y W (hG.below hk) hx hy).mono ?_
   rintro e w2 ⟨⟨s,n,h3,rfl⟩,h4⟩
   obtain⟨rfl,rfl⟩:=hR_ h3
   exact⟨rfl,hk.trans (h4.mono hk.size)⟩
theorem aJK {w:World} {a b:ByteArray} (ha:Sz a) (hb:Sz b) (W:World) (hk:Below w.heap.size w W) :
  Calls Tryz.prog 125 #[.string a,.string b] W fun e W'=>e=.returned (.tuple #[.string (opS (addO a b)),.int .i64 (opN (addO a b))])∧Below w.heap.size w W':=by
 have hno:(aC_ a=none∨aC_ b=none)→addO a b=none→Calls Tryz.prog 125 #[.string a,.string b] W fun e W'=>e=.returned (.tuple #[.string (opS (addO a b)),.int .i64 (opN (addO a b))])∧Below w.heap.size w W':=fun h ho=>by
  rw[ho,dE_,dF_]
  refine(aOP a b W ha.le hb.le (hD_ h)).mono ?_
  rintro e w2 ⟨rfl,rfl⟩
  exact⟨rfl,hk⟩
 cases h1:aC_ a with
 | none=>exact hno (.inl h1) (by unfold addO;rw[h1])
 | some x=>
  cases h2:aC_ b with
  | none=>exact hno (.inr h2) (by unfold addO;rw[h1,h2])
  | some y=>
   obtain⟨ea,hx⟩:=cK_ h1
   obtain⟨eb,hy⟩:=cK_ h2
   have ho:addO a b=some (x+y):=by unfold addO;rw[h1,h2]
   rw[ho]
   refine(aOO a b x y W ea eb hx hy).mono ?_
   rintro e w2 ⟨⟨s,n,h3,rfl⟩,h4⟩
   obtain⟨rfl,rfl⟩:=hR_ h3
   exact⟨rfl,hk.trans (h4.mono hk.size)⟩
theorem aKI {w:World} (hG:Glob w) {a b:ByteArray} (ha:Sz a) (hb:Sz b) (W:World) (hk:Below w.heap.size w W) :
  Calls Tryz.prog 114 #[.string a,.string b] W fun e W'=>e=.returned (.tuple #[.string (opS (subO a b)),.int .i64 (opN (subO a b))])∧Below w.heap.size w W':=by
 have hno:(aC_ a=none∨aC_ b=none)→subO a b=none→Calls Tryz.prog 114 #[.string a,.string b] W fun e W'=>e=.returned (.tuple #[.string (opS (subO a b)),.int .i64 (opN (subO a b))])∧Below w.heap.size w W':=fun h ho=>by
  rw[ho,dE_,dF_]
  refine(Sub_no a b W ha.le hb.le (hD_ h)).mono ?_
  rintro e w2 ⟨rfl,h2⟩
  exact⟨rfl,hk.trans (h2.mono hk.size)⟩
 cases h1:aC_ a with
 | none=>exact hno (.inl h1) (by unfold subO;rw[h1])
 | some x=>
  cases h2:aC_ b with
  | none=>exact hno (.inr h2) (by unfold subO;rw[h1,h2])
  | some y=>
   obtain⟨ea,hx⟩:=cK_ h1
   obtain⟨eb,hy⟩:=cK_ h2
   have ho:subO a b=some (x-y):=by unfold subO;rw[h1,h2]
   rw[ho]
   subst ea eb
   refine(Sub_ok x y W (hG.below hk) hx hy).mono ?_
   rintro e w2 ⟨⟨s,n,h3,rfl⟩,h4⟩
   obtain⟨rfl,rfl⟩:=hR_ h3
   exact⟨rfl,hk.trans (h4.mono hk.size)⟩
theorem sR_ {w:World} {a b:ByteArray} (ha:Sz a) (hb:Sz b) (W:World) (hk:Below w.heap.size w W) :
  Calls Tryz.prog 126 #[.string a,.string b] W fun e W'=>e=.returned (.tuple #[.string (opS (subO a b)),.int .i64 (opN (subO a b))])∧Below w.heap.size w W':=by
 have hno:(aC_ a=none∨aC_ b=none)→subO a b=none→Calls Tryz.prog 126 #[.string a,.string b] W fun e W'=>e=.returned (.tuple #[.string (opS (subO a b)),.int .i64 (opN (subO a b))])∧Below w.heap.size w W':=fun h ho=>by
  rw[ho,dE_,dF_]
  refine(aOH a b W ha.le hb.le (hD_ h)).mono ?_
  rintro e w2 ⟨rfl,rfl⟩
  exact⟨rfl,hk⟩
 cases h1:aC_ a with
 | none=>exact hno (.inl h1) (by unfold subO;rw[h1])
 | some x=>
  cases h2:aC_ b with
  | none=>exact hno (.inr h2) (by unfold subO;rw[h1,h2])
  | some y=>
   obtain⟨ea,hx⟩:=cK_ h1
   obtain⟨eb,hy⟩:=cK_ h2
   have ho:subO a b=some (x-y):=by unfold subO;rw[h1,h2]
   rw[ho]
   refine(aOG a b x y W ea eb hx hy).mono ?_
   rintro e w2 ⟨⟨s,n,h3,rfl⟩,h4⟩
   obtain⟨rfl,rfl⟩:=hR_ h3
   exact⟨rfl,hk.trans (h4.mono hk.size)⟩
theorem aKJ {w:World} (hG:Glob w) {a b:ByteArray} (ha:Sz a) (hb:Sz b) (W:World) (hk:Below w.heap.size w W) :
  Calls Tryz.prog 171 #[.string a,.string b] W fun e W'=>e=.returned (.tuple #[.string (opS (mulO a b)),.int .i64 (opN (mulO a b))])∧Below w.heap.size w W':=by
 have hno:(aC_ a=none∨aC_ b=none)→mulO a b=none→Calls Tryz.prog 171 #[.string a,.string b] W fun e W'=>e=.returned (.tuple #[.string (opS (mulO a b)),.int .i64 (opN (mulO a b))])∧Below w.heap.size w W':=fun h ho=>by
  rw[ho,dE_,dF_]
  refine(Mul_no a b W ha.le hb.le (hD_ h)).mono ?_
  rintro e w2 ⟨rfl,h2⟩
  exact⟨rfl,hk.trans (h2.mono hk.size)⟩
 cases h1:aC_ a with
 | none=>exact hno (.inl h1) (by unfold mulO;rw[h1])
 | some x=>
  cases h2:aC_ b with
  | none=>exact hno (.inr h2) (by unfold mulO;rw[h1,h2])
  | some y=>
   obtain⟨ea,hx⟩:=cK_ h1
   obtain⟨eb,hy⟩:=cK_ h2
   have ho:mulO a b=some (x*y):=by unfold mulO;rw[h1,h2]
   rw[ho]
   subst ea eb
   refine(Mul_ok x y W (hG.below hk) hx hy).mono ?_
   rintro e w2 ⟨⟨s,n,h3,rfl⟩,h4⟩
   obtain⟨rfl,rfl⟩:=hR_ h3
   exact⟨rfl,hk.trans (h4.mono hk.size)⟩
theorem gL_ {w:World} {a b:ByteArray} (ha:Sz a) (hb:Sz b) (W:World) (hk:Below w.heap.size w W) :
  Calls Tryz.prog 127 #[.string a,.string b] W fun e W'=>e=.returned (.tuple #[.string (opS (mulO a b)),.int .i64 (opN (mulO a b))])∧Below w.heap.size w W':=by
 have hno:(aC_ a=none∨aC_ b=none)→mulO a b=none→Calls Tryz.prog 127 #[.string a,.string b] W fun e W'=>e=.returned (.tuple #[.string (opS (mulO a b)),.int .i64 (opN (mulO a b))])∧Below w.heap.size w W':=fun h ho=>by
  rw[ho,dE_,dF_]
  refine(aOJ a b W ha.le hb.le (hD_ h)).mono ?_
  rintro e w2 ⟨rfl,rfl⟩
  exact⟨rfl,hk⟩
 cases h1:aC_ a with
 | none=>exact hno (.inl h1) (by unfold mulO;rw[h1])
 | some x=>
  cases h2:aC_ b with
  | none=>exact hno (.inr h2) (by unfold mulO;rw[h1,h2])
  | some y=>
   obtain⟨ea,hx⟩:=cK_ h1
   obtain⟨eb,hy⟩:=cK_ h2
   have ho:mulO a b=some (x*y):=by unfold mulO;rw[h1,h2]
   rw[ho]
   refine(aOI a b x y W ea eb hx hy).mono ?_
   rintro e w2 ⟨⟨s,n,h3,rfl⟩,h4⟩
   obtain⟨rfl,rfl⟩:=hR_ h3
   exact⟨rfl,hk.trans (h4.mono hk.size)⟩
theorem aKK {w:World} (hG:Glob w) {a b:ByteArray} (ha:Sz a) (hb:Sz b) (W:World) (hk:Below w.heap.size w W) :
  Calls Tryz.prog 156 #[.string a,.string b] W fun e W'=>e=.returned (.tuple #[.string (opS (gcdO a b)),.int .i64 (opN (gcdO a b))])∧Below w.heap.size w W':=by
 have hno:(aC_ a=none∨aC_ b=none)→gcdO a b=none→Calls Tryz.prog 156 #[.string a,.string b] W fun e W'=>e=.returned (.tuple #[.string (opS (gcdO a b)),.int .i64 (opN (gcdO a b))])∧Below w.heap.size w W':=fun h ho=>by
  rw[ho,dE_,dF_]
  refine(Gcd_no a b W ha.le hb.le (hD_ h)).mono ?_
  rintro e w2 ⟨rfl,h2⟩
  exact⟨rfl,hk.trans (h2.mono hk.size)⟩
 cases h1:aC_ a with
 | none=>exact hno (.inl h1) (by unfold gcdO;rw[h1])
 | some x=>
  cases h2:aC_ b with
  | none=>exact hno (.inr h2) (by unfold gcdO;rw[h1,h2])
  | some y=>
   obtain⟨ea,hx⟩:=cK_ h1
   obtain⟨eb,hy⟩:=cK_ h2
   have ho:gcdO a b=some (((Nat.gcd x.natAbs y.natAbs:Nat):Int)):=by unfold gcdO;rw[h1,h2]
   rw[ho]
   subst ea eb
   refine(Gcd_ok x y W (hG.below hk) hx hy).mono ?_
   rintro e w2 ⟨⟨s,n,h3,rfl⟩,h4⟩
   obtain⟨rfl,rfl⟩:=hR_ h3
   exact⟨rfl,hk.trans (h4.mono hk.size)⟩
theorem sS_ {w:World} {a b:ByteArray} (ha:Sz a) (hb:Sz b) (W:World) (hk:Below w.heap.size w W) :
  Calls Tryz.prog 95 #[.string a,.string b] W fun e W'=>e=.returned (.tuple #[.string (opS (gcdO a b)),.int .i64 (opN (gcdO a b))])∧Below w.heap.size w W':=by
 have hno:(aC_ a=none∨aC_ b=none)→gcdO a b=none→Calls Tryz.prog 95 #[.string a,.string b] W fun e W'=>e=.returned (.tuple #[.string (opS (gcdO a b)),.int .i64 (opN (gcdO a b))])∧Below w.heap.size w W':=fun h ho=>by
  rw[ho,dE_,dF_]
  refine(aOL a b W ha.le hb.le (hD_ h)).mono ?_
  rintro e w2 ⟨rfl,rfl⟩
  exact⟨rfl,hk⟩
 cases h1:aC_ a with
 | none=>exact hno (.inl h1) (by unfold gcdO;rw[h1])
 | some x=>
  cases h2:aC_ b with
  | none=>exact hno (.inr h2) (by unfold gcdO;rw[h1,h2])
  | some y=>
   obtain⟨ea,hx⟩:=cK_ h1
   obtain⟨eb,hy⟩:=cK_ h2
   have ho:gcdO a b=some (((Nat.gcd x.natAbs y.natAbs:Nat):Int)):=by unfold gcdO;rw[h1,h2]
   rw[ho]
   refine(aOK a b x y W ea eb hx hy).mono ?_
   rintro e w2 ⟨⟨s,n,h3,rfl⟩,h4⟩
   obtain⟨rfl,rfl⟩:=hR_ h3
   exact⟨rfl,hk.trans (h4.mono hk.size)⟩
theorem aKL {w:World} (hG:Glob w) {a b:ByteArray} (ha:Sz a) (hb:Sz b) (W:World) (hk:Below w.heap.size w W) :
  Calls Tryz.prog 119 #[.string a,.string b] W fun e W'=>e=.returned (.tuple #[.string (opS (divO a b)),.string (opS (modO a b)),.int .i64 (opN (divO a b))])∧Below w.heap.size w W':=by
 have hno:(aC_ a=none∨aC_ b=none)→divO a b=none→modO a b=none→Calls Tryz.prog 119 #[.string a,.string b] W fun e W'=>e=.returned (.tuple #[.string (opS (divO a b)),.string (opS (modO a b)),.int .i64 (opN (divO a b))])∧Below w.heap.size w W':=fun h ho hm=>by
  rw[ho,hm,dE_,dF_]
  refine(Div_no a b W ha.le hb.le (hD_ h)).mono ?_
  rintro e w2 ⟨rfl,h2⟩
  exact⟨rfl,hk.trans (h2.mono hk.size)⟩
 cases h1:aC_ a with
 | none=>exact hno (.inl h1) (by unfold divO;rw[h1]) (by unfold modO;rw[h1])
 | some x=>
  cases h2:aC_ b with
  | none=>exact hno (.inr h2) (by unfold divO;rw[h1,h2]) (by unfold modO;rw[h1,h2])
  | some y=>
   obtain⟨ea,hx⟩:=cK_ h1
   obtain⟨eb,hy⟩:=cK_ h2
   by_cases hy0:y=0
   ·have ho:divO a b=none:=by unfold divO;rw[h1,h2];exact if_pos hy0
    have hm:modO a b=none:=by unfold modO;rw[h1,h2];exact if_pos hy0
    rw[ho,hm,dE_,dF_]
    subst hy0
    subst ea eb
    refine(aMH x W (hG.below hk) hx).mono ?_
    rintro e w2 ⟨rfl,h4⟩
    exact⟨rfl,hk.trans (h4.mono hk.size)⟩
   ·have ho:divO a b=some (x/y):=by unfold divO;rw[h1,h2];exact if_neg hy0
    have hm:modO a b=some (x%y):=by unfold modO;rw[h1,h2];exact if_neg hy0
    rw[ho,hm,aB_ (aL_ y hx),aB_ (fZ_ hy0 hy),aV_ (aL_ y hx)]
    subst ea eb
    refine(Div_ok x y W (hG.below hk) hx hy hy0).mono ?_
    rintro e w2 ⟨rfl,h4⟩
    exact⟨rfl,hk.trans (h4.mono hk.size)⟩
theorem iO_ {w:World} {a b:ByteArray} (ha:Sz a) (hb:Sz b) (W:World) (hk:Below w.heap.size w W) :
  Calls Tryz.prog 122 #[.string a,.string b] W fun e W'=>e=.returned (.tuple #[.string (opS (divO a b)),.string (opS (modO a b)),.int .i64 (opN (divO a b))])∧Below w.heap.size w W':=by
 have hno:(aC_ a=none∨aC_ b=none)→divO a b=none→modO a b=none→Calls Tryz.prog 122 #[.string a,.string b] W fun e W'=>e=.returned (.tuple #[.string (opS (divO a b)),.string (opS (modO a b)),.int .i64 (opN (divO a b))])∧Below w.heap.size w W':=fun h ho hm=>by
  rw[ho,hm,dE_,dF_]
  refine(aON a b W ha.le hb.le (hD_ h)).mono ?_
  rintro e w2 ⟨rfl,rfl⟩
  exact⟨rfl,hk⟩
 cases h1:aC_ a with
 | none=>exact hno (.inl h1) (by unfold divO;rw[h1]) (by unfold modO;rw[h1])
 | some x=>
  cases h2:aC_ b with
  | none=>exact hno (.inr h2) (by unfold divO;rw[h1,h2]) (by unfold modO;rw[h1,h2])
  | some y=>
   obtain⟨ea,hx⟩:=cK_ h1
   obtain⟨eb,hy⟩:=cK_ h2
   by_cases hy0:y=0
   ·have ho:divO a b=none:=by unfold divO;rw[h1,h2];exact if_pos hy0
    have hm:modO a b=none:=by unfold modO;rw[h1,h2];exact if_pos hy0
    rw[ho,hm,dE_,dF_]
    subst hy0
    refine(aEM a b x W ea eb hx).mono ?_
    rintro e w2 ⟨rfl,rfl⟩
    exact⟨rfl,hk⟩
   ·have ho:divO a b=some (x/y):=by unfold divO;rw[h1,h2];exact if_neg hy0
    have hm:modO a b=some (x%y):=by unfold modO;rw[h1,h2];exact if_neg hy0
    rw[ho,hm,aB_ (aL_ y hx),aB_ (fZ_ hy0 hy),aV_ (aL_ y hx)]
    refine(aOM a b x y W ea eb hx hy hy0).mono ?_
    rintro e w2 ⟨rfl,h4⟩
    exact⟨rfl,hk.trans (h4.mono hk.size)⟩
theorem vS_ {w:World} {a b:ByteArray} (ha:Sz a) (hb:Sz b) (W:World) (hk:Below w.heap.size w W) :
  Calls Tryz.prog 120 #[.string a,.string b] W fun e W'=>e=.returned (.int .i64 (cmpO a b))∧Below w.heap.size w W':=by
 have hno:(aC_ a=none∨aC_ b=none)→cmpO a b=0→Calls Tryz.prog 120 #[.string a,.string b] W fun e W'=>e=.returned (.int .i64 (cmpO a b))∧Below w.heap.size w W':=fun h ho=>by
  rw[ho]
  refine(aDG a b W ha.le hb.le (hD_ h)).mono ?_
  rintro e w2 ⟨rfl,h2⟩
  exact⟨rfl,hk.trans (h2.mono hk.size)⟩
 cases h1:aC_ a with
 | none=>exact hno (.inl h1) (by unfold cmpO;rw[h1])
 | some x=>
  cases h2:aC_ b with
  | none=>exact hno (.inr h2) (by unfold cmpO;rw[h1,h2])
  | some y=>
   obtain⟨ea,hx⟩:=cK_ h1
   obtain⟨eb,hy⟩:=cK_ h2
   have ho:cmpO a b=cmpI x y:=by unfold cmpO;rw[h1,h2]
   rw[ho]
   subst ea eb
   refine(aDF x y W hx hy).mono ?_
   rintro e w2 ⟨rfl,h4⟩
   exact⟨rfl,hk.trans (h4.mono hk.size)⟩
theorem cO_ {w:World} {a b:ByteArray} (ha:Sz a) (hb:Sz b) (W:World) (hk:Below w.heap.size w W) :
  Calls Tryz.prog 94 #[.string a,.string b] W fun e W'=>e=.returned (.int .i64 (cmpO a b))∧Below w.heap.size w W':=by
 have hno:(aC_ a=none∨aC_ b=none)→cmpO a b=0→Calls Tryz.prog 94 #[.string a,.string b] W fun e W'=>e=.returned (.int .i64 (cmpO a b))∧Below w.heap.size w W':=fun h ho=>by
  rw[ho]
  refine(xL_ a b W ha.le hb.le (hD_ h)).mono ?_
  rintro e w2 ⟨rfl,rfl⟩
  exact⟨rfl,hk⟩
 cases h1:aC_ a with
 | none=>exact hno (.inl h1) (by unfold cmpO;rw[h1])
 | some x=>
  cases h2:aC_ b with
  | none=>exact hno (.inr h2) (by unfold cmpO;rw[h1,h2])
  | some y=>
   obtain⟨ea,hx⟩:=cK_ h1
   obtain⟨eb,hy⟩:=cK_ h2
   have ho:cmpO a b=cmpI x y:=by unfold cmpO;rw[h1,h2]
   rw[ho]
   refine(xJ_ a b x y W ea eb hx hy).mono ?_
   rintro e w2 ⟨rfl,h4⟩
   exact⟨rfl,hk.trans (h4.mono hk.size)⟩
theorem aBX {w:World} {a:ByteArray} (ha:Sz a) (W:World) (hk:Below w.heap.size w W) :
  Calls Tryz.prog 133 #[.string a] W fun e W'=>e=.returned (.bool (aH_ a.data.toList))∧Below w.heap.size w W':=aRI ha.le rfl W hk
theorem dL_ {w:World} {a:ByteArray} (ha:Sz a) (W:World) (hk:Below w.heap.size w W) :
  Calls Tryz.prog 93 #[.string a] W fun e W'=>e=.returned (.bool (aH_ a.data.toList))∧Below w.heap.size w W':=by
 refine(qR_ a W ha.le).mono ?_
 rintro e w' ⟨rfl,rfl⟩
 exact⟨rfl,hk⟩
theorem qU_ {w:World} {z:Int} {s:ByteArray} (h0 : -9223372036854775808≤z) (h1:z≤9223372036854775807) (es:s=str z) (W:World) (hk:Below w.heap.size w W) :
  Calls Tryz.prog 101 #[.int .i64 z] W fun e W'=>e=.returned (.string s)∧Below w.heap.size w W':=by
 subst es
 refine(uY_ z W h0 h1).mono ?_
 rintro e w' ⟨rfl,hb⟩
 exact⟨rfl,hk.trans (hb.mono hk.size)⟩
theorem IOps.of_glob {w:World} (hG:Glob w):IOps w where
 val ha W _:=aBX ha W (Below.refl _ _)
 cmp ha hb W _:=vS_ ha hb W (Below.refl _ _)
 gcd ha hb W hk:=aKK (hG.below hk) ha hb W (Below.refl _ _)
 add ha hb W hk:=aKM (hG.below hk) ha hb W (Below.refl _ _)
 sub ha hb W hk:=aKI (hG.below hk) ha hb W (Below.refl _ _)
 mul ha hb W hk:=aKJ (hG.below hk) ha hb W (Below.refl _ _)
 div ha hb W hk:=aKL (hG.below hk) ha hb W (Below.refl _ _)
theorem FrOp.of_glob {w:World} (hG:Glob w):FrOp w:=fun _ h1 h2 W hk=>aIO (hG.below hk) h1 h2 rfl W (Below.refl _ _)
theorem cM_ {n:Int} (h1 : -9223372036854775808≤n) (h2:n≤9223372036854775807):FO (whO n):=fun _ hr=>hT_ (aEH h1 h2) (by decide) hr
theorem aAJ {a:Pl} {s x:Option Rat} {A S:Nat} (ha:vP a=true) (fs:FO s) (fx:FO x) {w:World} (hi:IOps w) (hf:FrOp w) (cA:ArAt A [.int .i64 a.x,.int .i64 a.y] w) (cS:ArAt S [.string (qN s),.string (qD s)] w) :
  Calls Tryz.prog 81 #[.agg #[.string (qN x),.string (qD x)],.pointer (some ⟨A,0,none⟩),.pointer (some ⟨S,0,none⟩)] w fun e W'=>e=.returned (.agg #[.string (qN (plO (whO a.y) (tiO s (miO x (whO a.x))))),.string (qD (plO (whO a.y) (tiO s (miO x (whO a.x)))))])∧Below w.heap.size w W':=by
 obtain⟨⟨a1,a2⟩,a3,a4⟩:=vP_b ha
 have f1:FO (whO a.y):=cM_ (by omega) (by omega)
 have f2:FO (whO a.x):=cM_ (by omega) (by omega)
 have f3:FO (miO x (whO a.x)):=FO.sub _ _
 have f4:FO (tiO s (miO x (whO a.x))):=FO.mul _ _
 have K1:=hid (fun(W:World) (h:Below w.heap.size w W)=>dG_ (n:=a.y) (by omega) (by omega) (hi.below h) (hf.below h))
 have K2:=hid (fun(W:World) (h:Below w.heap.size w W)=>dG_ (n:=a.x) (by omega) (by omega) (hi.below h) (hf.below h))
 have K3:=hid (fun(W:World) (h:Below w.heap.size w W)=>oW_ fx f2 (hi.below h))
 have K4:=hid (fun(W:World) (h:Below w.heap.size w W)=>aDU fs f3 (hi.below h))
 have K5:=hid (fun(W:World) (h:Below w.heap.size w W)=>qX_ f1 f4 (hi.below h))
 have H0:=hid (show AzAt [(w.heap.size+1,[.string ⟨#[]⟩,.string ⟨#[]⟩]),(w.heap.size,[.string (qN x),.string (qD x)]),(A,[.int .i64 a.x,.int .i64 a.y]),(S,[.string (qN s),.string (qD s)])] w _ from by have hp:=((AzAt.mk (L:=[(A,[.int .i64 a.x,.int .i64 a.y]),(S,[.string (qN s),.string (qD s)])]) (Below.refl _ w) (fun y hy=>by rcases List.mem_cons.1 hy with rfl|hy;exact cA;rcases List.mem_cons.1 hy with rfl|hy;exact cS;cases hy)).push [.string (qN x),.string (qD x)] 74).push [.string ⟨#[]⟩,.string ⟨#[]⟩] 74;simp only[World.size_alloc] at hp;exact hp)
 have sA:=cA.sz
 have sS:=cS.sz
 clear ha fs fx f1 f2 f3 f4 hi hf cA cS
 generalize qN (plO (whO a.y) (tiO s (miO x (whO a.x))))=rn at K5⊢
 generalize qD (plO (whO a.y) (tiO s (miO x (whO a.x))))=rd at K5⊢
 generalize qN (tiO s (miO x (whO a.x)))=n4 at K4 K5
 generalize qD (tiO s (miO x (whO a.x)))=d4 at K4 K5
 generalize qN (miO x (whO a.x))=n3 at K3 K4
 generalize qD (miO x (whO a.x))=d3 at K3 K4
 generalize qN (whO a.x)=n2 at K2 K3
 generalize qD (whO a.x)=d2 at K2 K3
 generalize qN (whO a.y)=n1 at K1 K5
 generalize qD (whO a.y)=d1 at K1 K5
 generalize qN s=sn at K4 H0
 generalize qD s=sd at K4 H0
 generalize qN x=xn at K3 H0⊢
 generalize qD x=xd at K3 H0⊢
 go_enter Tryz.func81,Tryz.ntmps81
 go_wp2
 go_region_held3 (fun W=>W.cell? ⟨w.heap.size,0,none⟩=some (.string xn)∧W.cell? ⟨w.heap.size,1,none⟩=some (.string xd)∧W.cell? ⟨A,0,none⟩=some (.int .i64 a.x)∧W.cell? ⟨A,1,none⟩=some (.int .i64 a.y)∧W.cell? ⟨S,0,none⟩=some (.string sn)∧W.cell? ⟨S,1,none⟩=some (.string sd)) (first|with_reducible exact⟨((W5.out.set2 (by omega) (by simp <;> omega) (.string rn) (.string rd)).row (w.heap.size,[.string xn,.string xd]) (by simp)).row 0 _ rfl,((W5.out.set2 (by omega) (by simp <;> omega) (.string rn) (.string rd)).row (w.heap.size,[.string xn,.string xd]) (by simp)).row 1 _ rfl,((W5.out.set2 (by omega) (by simp <;> omega) (.string rn) (.string rd)).row (A,[.int .i64 a.x,.int .i64 a.y]) (by simp)).row 0 _ rfl,((W5.out.set2 (by omega) (by simp <;> omega) (.string rn) (.string rd)).row (A,[.int .i64 a.x,.int .i64 a.y]) (by simp)).row 1 _ rfl,((W5.out.set2 (by omega) (by simp <;> omega) (.string rn) (.string rd)).row (S,[.string sn,.string sd]) (by simp)).row 0 _ rfl,((W5.out.set2 (by omega) (by simp <;> omega) (.string rn) (.string rd)).row (S,[.string sn,.string sd]) (by simp)).row 1 _ rfl⟩|with_reducible exact⟨(W5.out.row (w.heap.size,[.string xn,.string xd]) (by simp)).row 0 _ rfl,(W5.out.row (w.heap.size,[.string xn,.string xd]) (by simp)).row 1 _ rfl,(W5.out.row (A,[.int .i64 a.x,.int .i64 a.y]) (by simp)).row 0 _ rfl,(W5.out.row (A,[.int .i64 a.x,.int .i64 a.y]) (by simp)).row 1 _ rfl,(W5.out.row (S,[.string sn,.string sd]) (by simp)).row 0 _ rfl,(W5.out.row (S,[.string sn,.string sd]) (by simp)).row 1 _ rfl⟩|with_reducible exact⟨(W4.out.row (w.heap.size,[.string xn,.string xd]) (by simp)).row 0 _ rfl,(W4.out.row (w.heap.size,[.string xn,.string xd]) (by simp)).row 1 _ rfl,(W4.out.row (A,[.int .i64 a.x,.int .i64 a.y]) (by simp)).row 0 _ rfl,(W4.out.row (A,[.int .i64 a.x,.int .i64 a.y]) (by simp)).row 1 _ rfl,(W4.out.row (S,[.string sn,.string sd]) (by simp)).row 0 _ rfl,(W4.out.row (S,[.string sn,.string sd]) (by simp)).row 1 _ rfl⟩|with_reducible exact⟨(W3.out.row (w.heap.size,[.string xn,.string xd]) (by simp)).row 0 _ rfl,(W3.out.row (w.heap.size,[.string xn,.string xd]) (by simp)).row 1 _ rfl,(W3.out.row (A,[.int .i64 a.x,.int .i64 a.y]) (by simp)).row 0 _ rfl,(W3.out.row (A,[.int .i64 a.x,.int .i64 a.y]) (by simp)).row 1 _ rfl,(W3.out.row (S,[.string sn,.string sd]) (by simp)).row 0 _ rfl,(W3.out.row (S,[.string sn,.string sd]) (by simp)).row 1 _ rfl⟩|with_reducible exact⟨(W2.out.row (w.heap.size,[.string xn,.string xd]) (by simp)).row 0 _ rfl,(W2.out.row (w.heap.size,[.string xn,.string xd]) (by simp)).row 1 _ rfl,(W2.out.row (A,[.int .i64 a.x,.int .i64 a.y]) (by simp)).row 0 _ rfl,(W2.out.row (A,[.int .i64 a.x,.int .i64 a.y]) (by simp)).row 1 _ rfl,(W2.out.row (S,[.string sn,.string sd]) (by simp)).row 0 _ rfl,(W2.out.row (S,[.string sn,.string sd]) (by simp)).row 1 _ rfl⟩|with_reducible exact⟨(W1.out.row (w.heap.size,[.string xn,.string xd]) (by simp)).row 0 _ rfl,(W1.out.row (w.heap.size,[.string xn,.string xd]) (by simp)).row 1 _ rfl,(W1.out.row (A,[.int .i64 a.x,.int .i64 a.y]) (by simp)).row 0 _ rfl,(W1.out.row (A,[.int .i64 a.x,.int .i64 a.y]) (by simp)).row 1 _ rfl,(W1.out.row (S,[.string sn,.string sd]) (by simp)).row 0 _ rfl,(W1.out.row (S,[.string sn,.string sd]) (by simp)).row 1 _ rfl⟩|with_reducible exact⟨(H0.out.drew.row (w.heap.size,[.string xn,.string xd]) (by simp)).row 0 _ rfl,(H0.out.drew.row (w.heap.size,[.string xn,.string xd]) (by simp)).row 1 _ rfl,(H0.out.drew.row (A,[.int .i64 a.x,.int .i64 a.y]) (by simp)).row 0 _ rfl,(H0.out.drew.row (A,[.int .i64 a.x,.int .i64 a.y]) (by simp)).row 1 _ rfl,(H0.out.drew.row (S,[.string sn,.string sd]) (by simp)).row 0 _ rfl,(H0.out.drew.row (S,[.string sn,.string sd]) (by simp)).row 1 _ rfl⟩) (first
  | (go_at_call 55;(with_reducible refine(K1.out _ (by first | with_reducible exact W5.out.bw | with_reducible exact W4.out.bw | with_reducible exact W3.out.bw | with_reducible exact W2.out.bw | with_reducible exact W1.out.bw | with_reducible exact H0.out.drew.bw)).mono ?_);rintro e u1 ⟨rfl,hb⟩;have W1:=hid (show AzAt [(w.heap.size+1,[.string ⟨#[]⟩,.string ⟨#[]⟩]),(w.heap.size,[.string xn,.string xd]),(A,[.int .i64 a.x,.int .i64 a.y]),(S,[.string sn,.string sd])] w _ from by first | with_reducible exact AzAt.below W5.out hb | with_reducible exact AzAt.below W4.out hb | with_reducible exact AzAt.below W3.out hb | with_reducible exact AzAt.below W2.out hb | with_reducible exact AzAt.below W1.out hb | with_reducible exact AzAt.below H0.out.drew hb);clear hb)
  | (go_at_call 55;(with_reducible refine(K2.out _ (by first | with_reducible exact W5.out.bw | with_reducible exact W4.out.bw | with_reducible exact W3.out.bw | with_reducible exact W2.out.bw | with_reducible exact W1.out.bw | with_reducible exact H0.out.drew.bw)).mono ?_);rintro e u2 ⟨rfl,hb⟩;have W2:=hid (show AzAt [(w.heap.size+1,[.string ⟨#[]⟩,.string ⟨#[]⟩]),(w.heap.size,[.string xn,.string xd]),(A,[.int .i64 a.x,.int .i64 a.y]),(S,[.string sn,.string sd])] w _ from by first | with_reducible exact AzAt.below W5.out hb | with_reducible exact AzAt.below W4.out hb | with_reducible exact AzAt.below W3.out hb | with_reducible exact AzAt.below W2.out hb | with_reducible exact AzAt.below W1.out hb | with_reducible exact AzAt.below H0.out.drew hb);clear hb)
  | (go_at_call 56;(with_reducible refine(K3.out _ (by first | with_reducible exact W5.out.bw | with_reducible exact W4.out.bw | with_reducible exact W3.out.bw | with_reducible exact W2.out.bw | with_reducible exact W1.out.bw | with_reducible exact H0.out.drew.bw)).mono ?_);rintro e u3 ⟨rfl,hb⟩;have W3:=hid (show AzAt [(w.heap.size+1,[.string ⟨#[]⟩,.string ⟨#[]⟩]),(w.heap.size,[.string xn,.string xd]),(A,[.int .i64 a.x,.int .i64 a.y]),(S,[.string sn,.string sd])] w _ from by first | with_reducible exact AzAt.below W5.out hb | with_reducible exact AzAt.below W4.out hb | with_reducible exact AzAt.below W3.out hb | with_reducible exact AzAt.below W2.out hb | with_reducible exact AzAt.below W1.out hb | with_reducible exact AzAt.below H0.out.drew hb);clear hb)
  | (go_at_call 82;(with_reducible refine(K4.out _ (by first | with_reducible exact W5.out.bw | with_reducible exact W4.out.bw | with_reducible exact W3.out.bw | with_reducible exact W2.out.bw | with_reducible exact W1.out.bw | with_reducible exact H0.out.drew.bw)).mono ?_);rintro e u4 ⟨rfl,hb⟩;have W4:=hid (show AzAt [(w.heap.size+1,[.string ⟨#[]⟩,.string ⟨#[]⟩]),(w.heap.size,[.string xn,.string xd]),(A,[.int .i64 a.x,.int .i64 a.y]),(S,[.string sn,.string sd])] w _ from by first | with_reducible exact AzAt.below W5.out hb | with_reducible exact AzAt.below W4.out hb | with_reducible exact AzAt.below W3.out hb | with_reducible exact AzAt.below W2.out hb | with_reducible exact AzAt.below W1.out hb | with_reducible exact AzAt.below H0.out.drew hb);clear hb)
  | (go_at_call 58;(with_reducible refine(K5.out _ (by first | with_reducible exact W5.out.bw | with_reducible exact W4.out.bw | with_reducible exact W3.out.bw | with_reducible exact W2.out.bw | with_reducible exact W1.out.bw | with_reducible exact H0.out.drew.bw)).mono ?_);rintro e u5 ⟨rfl,hb⟩;have W5:=hid (show AzAt [(w.heap.size+1,[.string ⟨#[]⟩,.string ⟨#[]⟩]),(w.heap.size,[.string xn,.string xd]),(A,[.int .i64 a.x,.int .i64 a.y]),(S,[.string sn,.string sd])] w _ from by first | with_reducible exact AzAt.below W5.out hb | with_reducible exact AzAt.below W4.out hb | with_reducible exact AzAt.below W3.out hb | with_reducible exact AzAt.below W2.out hb | with_reducible exact AzAt.below W1.out hb | with_reducible exact AzAt.below H0.out.drew hb);have h_:=W5.out.row (w.heap.size+1,[.string ⟨#[]⟩,.string ⟨#[]⟩]) (by simp);have zq0:=h_.row 0 _ rfl;have zf0:=h_.fz 0 (by simp);have zq1:=h_.row 1 _ rfl;have zf1:=h_.fz 1 (by simp);clear h_;clear hb)
  | fail)
 all_goals
  go_wp2
  have hp:=W5.out.set2 (by omega) (by simp <;> omega) (.string rn) (.string rd)
  generalize ((u5.setCell ⟨w.heap.size+1,0,none⟩ (.string rn)).setCell ⟨w.heap.size+1,1,none⟩ (.string rd))=WF at hp⊢
  have h_:=hp.row (w.heap.size+1,[.string rn,.string rd]) (by simp)
  have q0:=h_.row 0 _ rfl
  have q1:=h_.row 1 _ rfl
  clear h_
  refine bodyPost_ret (v:=.agg #[.string rn,.string rd]) ?_ rfl ⟨rfl,hp.bw⟩
  simp[results,Tryz.results81,go_sem,Result.andThen,q0,q1]
theorem cS_ {n d:ByteArray} (zn:Sz n) (zd:Sz d) (w:World) :
  Calls Tryz.prog 65 #[.agg #[.string n,.string d]] w fun e W'=>e=.returned (.bool (vR n d))∧Below w.heap.size w W':=by
 have v1:=fun W=>dL_ (w:=W) zn W (Below.refl _ _)
 have v2:=fun W=>dL_ (w:=W) zd W (Below.refl _ _)
 have v3:=fun W=>cO_ (w:=W) zd dS_ W (Below.refl _ _)
 have v4:=fun W=>sS_ (w:=W) zn zd W (Below.refl _ _)
 rw[←bI_] at v1 v2
 have HS:=hid (RtAt.start (Below.refl _ w) n d 47)
 by_cases hn:aC_ n=none∨aC_ d=none
 ·have e:vR n d=false:=by
   unfold vR ratO
   rcases hn with h|h
   ·rw[h]
    rfl
   ·rw[h]
    cases aC_ n <;> rfl
  rw[e]
  have hb:((aC_ n).isSome=false)∨((aC_ n).isSome=true∧(aC_ d).isSome=false):=by
   rcases hn with h|h
   ·rw[h];exact .inl rfl
   ·cases h2:aC_ n with
    | none=>exact .inl rfl
    | some p=>rw[h];exact .inr ⟨rfl,rfl⟩
  clear e hn v3 v4
  generalize (aC_ n).isSome=b1 at v1 hb
  generalize (aC_ d).isSome=b2 at v2 hb
  have V1:=hid v1
  have V2:=hid v2
  clear v1 v2
  rcases hb with rfl|⟨rfl,rfl⟩
  all_goals
   go_enter Tryz.func65,Tryz.ntmps65
   go_wp2_with (first
    | (go_at_call 93;with_reducible refine(V1.out _).mono ?_;rintro e w1 ⟨rfl,hb1⟩;have h1:=HS.out.below hb1;have c1:=h1.c0;have d1:=h1.c1;have H1:=hid h1;clear h1 hb1)
    | (go_at_call 93;with_reducible refine(V2.out _).mono ?_;rintro e w2 ⟨rfl,hb2⟩;have h2:=H1.out.below hb2;have H2:=hid h2;clear h2 hb2)
    | fail)
   go_ret
   exact⟨rfl,H2.out.bw⟩
 ·obtain⟨p,h1⟩:∃p,aC_ n=some p:=Option.ne_none_iff_exists'.1 (fun h=>hn (.inl h))
  obtain⟨q,h2⟩:∃q,aC_ d=some q:=Option.ne_none_iff_exists'.1 (fun h=>hn (.inr h))
  clear hn
  rw[h1] at v1
  rw[h2] at v2
  rw[iZ_ h2] at v3
  have V1:=hid v1
  have V2:=hid v2
  clear v1 v2
  by_cases hq:0<q
  ·rw[show cmpI q 0=1 by unfold cmpI;rw[if_neg (by omega),if_pos hq]] at v3
   obtain⟨g1,g2⟩:=aGH h1 h2 (p:=p) (q:=q) (by omega)
   rw[g1,g2] at v4
   have V3:=hid v3
   have V4:=hid v4
   have key:vR n d=((str ((Nat.gcd p.natAbs q.natAbs:Nat):Int)).toList == [49]):=by
    unfold vR ratO
    rw[h1,h2,aMV]
    show(if _ then _ else _:Option Rat).isSome=_
    by_cases hg:Nat.gcd p.natAbs q.natAbs=1
    ·rw[if_pos ⟨hq,hg⟩,hg];rfl
    ·rw[if_neg (fun k=>hg k.2)]
     exact(decide_eq_false (by omega)).symm
   clear v3 v4 g1 g2 h1 h2
   rw[key]
   clear key
   generalize str ((Nat.gcd p.natAbs q.natAbs:Nat):Int)=g at V4⊢
   go_enter Tryz.func65,Tryz.ntmps65
   go_wp2_with (first
    | (go_at_call 93;with_reducible refine(V1.out _).mono ?_;rintro e w1 ⟨rfl,hb1⟩;have h1:=HS.out.below hb1;have c1:=h1.c0;have d1:=h1.c1;have H1:=hid h1;clear h1 hb1)
    | (go_at_call 93;with_reducible refine(V2.out _).mono ?_;rintro e w2 ⟨rfl,hb2⟩;have h2:=H1.out.below hb2;have c2:=h2.c0;have d2:=h2.c1;have H2:=hid h2;clear h2 hb2)
    | (go_at_call 94;with_reducible refine(V3.out _).mono ?_;rintro e w3 ⟨rfl,hb3⟩;have h3:=H2.out.below hb3;have c3:=h3.c0;have d3:=h3.c1;have H3:=hid h3;clear h3 hb3)
    | (go_at_call 95;with_reducible refine(V4.out _).mono ?_;rintro e w4 ⟨rfl,hb4⟩;have h4:=H3.out.below hb4;have H4:=hid h4;clear h4 hb4)
    | fail)
   go_ret
   exact⟨rfl,H4.out.bw⟩
  ·have hq0:q≤0:=by omega
   have key:vR n d=false:=by
    unfold vR ratO
    rw[h1,h2]
    show(if _ then _ else _:Option Rat).isSome=_
    rw[if_neg (fun k=>hq k.1)]
    rfl
   rw[key]
   have hc:cmpI q 0≤0:=by unfold cmpI;rw[if_neg (show ¬0<q from hq)];split <;> omega
   clear key hq hq0 h1 h2 v4
   generalize cmpI q 0=c at v3 hc
   have V3:=hid v3
   clear v3
   go_enter Tryz.func65,Tryz.ntmps65
   go_wp2_with (first
    | (go_at_call 93;with_reducible refine(V1.out _).mono ?_;rintro e w1 ⟨rfl,hb1⟩;have h1:=HS.out.below hb1;have c1:=h1.c0;have d1:=h1.c1;have H1:=hid h1;clear h1 hb1)
    | (go_at_call 93;with_reducible refine(V2.out _).mono ?_;rintro e w2 ⟨rfl,hb2⟩;have h2:=H1.out.below hb2;have c2:=h2.c0;have d2:=h2.c1;have H2:=hid h2;clear h2 hb2)
    | (go_at_call 94;with_reducible refine(V3.out _).mono ?_;rintro e w3 ⟨rfl,hb3⟩;have h3:=H2.out.below hb3;have H3:=hid h3;clear h3 hb3)
    | fail)
   go_ret
   exact⟨rfl,H3.out.bw⟩
theorem lZ_ {x y:ByteArray} (zx:Sz x) (zy:Sz y) (w:World) (h:aC_ x=none∨aC_ y=none∨y=⟨#[48]⟩) :
  Calls Tryz.prog 100 #[.string x,.string y] w fun e W'=>e=.returned (.tuple #[.agg #[.string ⟨#[]⟩,.string ⟨#[]⟩],.int .i64 40])∧Below w.heap.size w W':=by
 have v1:=fun W=>dL_ (w:=W) zx W (Below.refl _ _)
 have v2:=fun W=>dL_ (w:=W) zy W (Below.refl _ _)
 rw[←bI_] at v1 v2
 have hb:((aC_ x).isSome=false)∨((aC_ x).isSome=true∧(aC_ y).isSome=false)∨((aC_ x).isSome=true∧(aC_ y).isSome=true∧(y.toList == [48])=true):=by
  cases h1:aC_ x with
  | none=>exact .inl rfl
  | some p=>
   cases h2:aC_ y with
   | none=>exact .inr (.inl ⟨rfl,rfl⟩)
   | some q=>
    rw[h1,h2] at h
    rcases h with h|h|h
    ·cases h
    ·cases h
    ·rw[h];exact .inr (.inr ⟨rfl,rfl,by rw[Lib.toList_data];rfl⟩)
 generalize (aC_ x).isSome=b1 at v1 hb
 generalize (aC_ y).isSome=b2 at v2 hb
 have V1:=hid v1
 have V2:=hid v2
 clear v1 v2 h
 have H0:=hid (RsAt.start (Below.refl _ w) 47)
 rcases hb with rfl|⟨rfl,rfl⟩|⟨rfl,rfl,hy⟩
 all_goals
  go_enter Tryz.func100,Tryz.ntmps100
  go_wp2_with (first
   | (go_at_call 93;with_reducible refine(V1.out _).mono ?_;rintro e w1 ⟨rfl,hb⟩;have H1:=hid (H0.out.below hb);clear hb)
   | (go_at_call 93;with_reducible refine(V2.out _).mono ?_;rintro e w2 ⟨rfl,hb⟩;have h2:=H1.out.below hb;obtain⟨_,q1,q2,q3,q4,_,_⟩:=id h2;have H2:=hid h2;clear hb h2)
   | fail)
  obtain⟨W5,hW5,p0,p1,hbl⟩:=H2.out.fin ⟨#[]⟩ ⟨#[]⟩
  rw[hW5]
  clear hW5 q1 q2 q3 q4
  refine bodyPost_ret (v:=.tuple #[.agg #[.string ⟨#[]⟩,.string ⟨#[]⟩],.int .i64 40]) ?_ rfl ⟨rfl,hbl⟩
  simp[results,Tryz.results100,go_sem,p0,p1,Result.andThen]
theorem aDD {x y:ByteArray} {p q:Int} (zx:Sz x) (zy:Sz y) (w:World) (h1:aC_ x=some p) (h2:aC_ y=some q) (hq:0<q) :
  Calls Tryz.prog 100 #[.string x,.string y] w fun e W'=>e=.returned (.tuple #[.agg #[.string (str (p/((Nat.gcd p.natAbs q.natAbs:Nat):Int))),.string (str (q/((Nat.gcd p.natAbs q.natAbs:Nat):Int)))],.int .i64 0])∧Below w.heap.size w W':=by
 obtain⟨ex,hp⟩:=bH_ h1
 obtain⟨ey,hqs⟩:=bH_ h2
 have hy:(y.toList == [48])=false:=by
  rw[ey,fP_]
  exact decide_eq_false (by omega)
 have v1:=fun W=>dL_ (w:=W) zx W (Below.refl _ _)
 have v2:=fun W=>dL_ (w:=W) zy W (Below.refl _ _)
 rw[←bI_,h1] at v1
 rw[←bI_,h2] at v2
 have hg:=hW_ (p:=p) hqs (by omega)
 have hg0:0<Nat.gcd p.natAbs q.natAbs:=tJ_ (by omega)
 have eg:gcdO x y=some ((Nat.gcd p.natAbs q.natAbs:Nat):Int):=by unfold gcdO;rw[h1,h2]
 generalize Nat.gcd p.natAbs q.natAbs=g at eg hg hg0⊢
 have ng:aC_ (str (g:Int))=some (g:Int):=by rw[bA_,if_pos hg]
 have zg:Sz (str (g:Int)):=by rw[←aB_ hg];exact bU_ _
 have ed1:divO x (str (g:Int))=some (p/g):=by unfold divO;rw[h1,ng];exact if_neg (by omega)
 have ed2:divO y (str (g:Int))=some (q/g):=by unfold divO;rw[h2,ng];exact if_neg (by omega)
 have kc:=hid (fun W=>by have:=cO_ (w:=W) zy dS_ W (Below.refl _ _);rw[iZ_ h2,show cmpI q 0=1 by unfold cmpI;rw[if_neg (by omega),if_pos hq]] at this;exact this)
 have kg:=hid (fun W=>by have:=sS_ (w:=W) zx zy W (Below.refl _ _);rw[eg,aB_ hg,aV_ hg] at this;exact this)
 have k1:=hid (fun W=>by have:=iO_ (w:=W) zx zg W (Below.refl _ _);rw[ed1,aB_ (aL_ g hp),aV_ (aL_ g hp)] at this;exact this)
 have k2:=hid (fun W=>by have:=iO_ (w:=W) zy zg W (Below.refl _ _);rw[ed2,aB_ (aL_ g hqs),aV_ (aL_ g hqs)] at this;exact this)
 generalize opS (modO x (str (g:Int)))=r1 at k1
 generalize opS (modO y (str (g:Int)))=r2 at k2
 generalize str (g:Int)=sg at kg k1 k2
 generalize str (p/(g:Int))=s1 at k1⊢
 generalize str (q/(g:Int))=s2 at k2⊢
 have V1:=hid v1
 have V2:=hid v2
 clear v1 v2 ed1 ed2 ng zg eg hg hg0 ex ey hp hqs h1 h2 hq zx zy
 have H0:=hid (RsAt.start (Below.refl _ w) 47)
 go_enter Tryz.func100,Tryz.ntmps100
 go_wp2_with (first
  | (go_at_call 93;with_reducible refine(V1.out _).mono ?_;rintro e w1 ⟨rfl,hb⟩;have H1:=hid (H0.out.below hb);clear hb)
  | (go_at_call 93;with_reducible refine(V2.out _).mono ?_;rintro e w2 ⟨rfl,hb⟩;have H2:=hid (H1.out.below hb);clear hb)
  | (go_at_call 94;with_reducible refine(kc.out _).mono ?_;rintro e w3 ⟨rfl,hb⟩;have H3:=hid (H2.out.below hb);clear hb)
  | (go_at_call 95;with_reducible refine(kg.out _).mono ?_;rintro e w4 ⟨rfl,hb⟩;have H4:=hid (H3.out.below hb);clear hb)
  | (go_at_call 122;with_reducible refine(k1.out _).mono ?_;rintro e w5 ⟨rfl,hb⟩;have H5:=hid (H4.out.below hb);clear hb)
  | (go_at_call 122;with_reducible refine(k2.out _).mono ?_;rintro e w6 ⟨rfl,hb⟩;have h6:=H5.out.below hb;obtain⟨_,q1,q2,q3,q4,_,_⟩:=id h6;have H6:=hid h6;clear hb h6)
  | fail)
 obtain⟨W5,hW5,p0,p1,hbl⟩:=H6.out.fin s1 s2
 rw[hW5]
 clear hW5 q1 q2 q3 q4
 refine bodyPost_ret (v:=.tuple #[.agg #[.string s1,.string s2],.int .i64 0]) ?_ rfl ⟨rfl,hbl⟩
 simp[results,Tryz.results100,go_sem,p0,p1,Result.andThen]
theorem aDE {x y:ByteArray} {p q:Int} (zx:Sz x) (zy:Sz y) (w:World) (h1:aC_ x=some p) (h2:aC_ y=some q) (hq:q<0) :
  Calls Tryz.prog 100 #[.string x,.string y] w fun e W'=>e=.returned (.tuple #[.agg #[.string (str (-p/((Nat.gcd (-p).natAbs (-q).natAbs:Nat):Int))),.string (str (-q/((Nat.gcd (-p).natAbs (-q).natAbs:Nat):Int)))],.int .i64 0])∧Below w.heap.size w W':=by
 obtain⟨ex,hp⟩:=bH_ h1
 obtain⟨ey,hqs⟩:=bH_ h2
 have hy:(y.toList == [48])=false:=by
  rw[ey,fP_]
  exact decide_eq_false (by omega)
 have v1:=fun W=>dL_ (w:=W) zx W (Below.refl _ _)
 have v2:=fun W=>dL_ (w:=W) zy W (Below.refl _ _)
 rw[←bI_,h1] at v1
 rw[←bI_,h2] at v2
 have e01:subO ⟨#[48]⟩ x=some (-p):=by unfold subO;rw[kU_,h1];show some (0-p)=_;rw[Int.zero_sub]
 have e02:subO ⟨#[48]⟩ y=some (-q):=by unfold subO;rw[kU_,h2];show some (0-q)=_;rw[Int.zero_sub]
 have hp':=cZ_ hp
 have hqs':=cZ_ hqs
 have m1:aC_ (str (-p))=some (-p):=by rw[bA_,if_pos hp']
 have m2:aC_ (str (-q))=some (-q):=by rw[bA_,if_pos hqs']
 have zx':Sz (str (-p)):=by rw[←aB_ hp'];exact bU_ _
 have zy':Sz (str (-q)):=by rw[←aB_ hqs'];exact bU_ _
 have hg:=hW_ (p:=-p) (cZ_ hqs) (by omega)
 have hg0:0<Nat.gcd (-p).natAbs (-q).natAbs:=tJ_ (by omega)
 have eg:gcdO (str (-p)) (str (-q))=some ((Nat.gcd (-p).natAbs (-q).natAbs:Nat):Int):=by unfold gcdO;rw[m1,m2]
 generalize Nat.gcd (-p).natAbs (-q).natAbs=g at eg hg hg0⊢
 have ng:aC_ (str (g:Int))=some (g:Int):=by rw[bA_,if_pos hg]
 have zg:Sz (str (g:Int)):=by rw[←aB_ hg];exact bU_ _
 have ed1:divO (str (-p)) (str (g:Int))=some (-p/g):=by unfold divO;rw[m1,ng];exact if_neg (by omega)
 have ed2:divO (str (-q)) (str (g:Int))=some (-q/g):=by unfold divO;rw[m2,ng];exact if_neg (by omega)
 have kc:=hid (fun W=>by have:=cO_ (w:=W) zy dS_ W (Below.refl _ _);rw[iZ_ h2,show cmpI q 0 = -1 by unfold cmpI;rw[if_pos hq]] at this;exact this)
 have ks1:=hid (fun W=>by have:=sR_ (w:=W) dS_ zx W (Below.refl _ _);rw[e01,aB_ hp',aV_ hp'] at this;exact this)
 have ks2:=hid (fun W=>by have:=sR_ (w:=W) dS_ zy W (Below.refl _ _);rw[e02,aB_ hqs',aV_ hqs'] at this;exact this)
 have kg:=hid (fun W=>by have:=sS_ (w:=W) zx' zy' W (Below.refl _ _);rw[eg,aB_ hg,aV_ hg] at this;exact this)
 have k1:=hid (fun W=>by have:=iO_ (w:=W) zx' zg W (Below.refl _ _);rw[ed1,aB_ (aL_ g hp'),aV_ (aL_ g hp')] at this;exact this)
 have k2:=hid (fun W=>by have:=iO_ (w:=W) zy' zg W (Below.refl _ _);rw[ed2,aB_ (aL_ g hqs'),aV_ (aL_ g hqs')] at this;exact this)
 generalize opS (modO (str (-p)) (str (g:Int)))=r1 at k1
 generalize opS (modO (str (-q)) (str (g:Int)))=r2 at k2
 generalize str (g:Int)=sg at kg k1 k2
 generalize str (-p/(g:Int))=s1 at k1⊢
 generalize str (-q/(g:Int))=s2 at k2⊢
 generalize str (-p)=x' at ks1 kg k1
 generalize str (-q)=y' at ks2 kg k2
 have V1:=hid v1
 have V2:=hid v2
 clear v1 v2 ed1 ed2 ng zg eg hg hg0 ex ey hp hqs h1 h2 hq zx zy e01 e02 hp' hqs' m1 m2 zx' zy'
 have H0:=hid (RsAt.start (Below.refl _ w) 47)
 go_enter Tryz.func100,Tryz.ntmps100
 go_wp2_with (first
  | (go_at_call 93;with_reducible refine(V1.out _).mono ?_;rintro e w1 ⟨rfl,hb⟩;have H1:=hid (H0.out.below hb);clear hb)
  | (go_at_call 93;with_reducible refine(V2.out _).mono ?_;rintro e w2 ⟨rfl,hb⟩;have H2:=hid (H1.out.below hb);clear hb)
  | (go_at_call 94;with_reducible refine(kc.out _).mono ?_;rintro e w3 ⟨rfl,hb⟩;have H3:=hid (H2.out.below hb);clear hb)
  | (go_at_call 126;with_reducible refine(ks1.out _).mono ?_;rintro e w4 ⟨rfl,hb⟩;have H4:=hid (H3.out.below hb);clear hb)
  | (go_at_call 126;with_reducible refine(ks2.out _).mono ?_;rintro e w5 ⟨rfl,hb⟩;have H5:=hid (H4.out.below hb);clear hb)
  | (go_at_call 95;with_reducible refine(kg.out _).mono ?_;rintro e w6 ⟨rfl,hb⟩;have H6:=hid (H5.out.below hb);clear hb)
  | (go_at_call 122;with_reducible refine(k1.out _).mono ?_;rintro e w7 ⟨rfl,hb⟩;have H7:=hid (H6.out.below hb);clear hb)
  | (go_at_call 122;with_reducible refine(k2.out _).mono ?_;rintro e w8 ⟨rfl,hb⟩;have h8:=H7.out.below hb;obtain⟨_,q1,q2,q3,q4,_,_⟩:=id h8;have H8:=hid h8;clear hb h8)
  | fail)
 obtain⟨W5,hW5,p0,p1,hbl⟩:=H8.out.fin s1 s2
 rw[hW5]
 clear hW5 q1 q2 q3 q4
 refine bodyPost_ret (v:=.tuple #[.agg #[.string s1,.string s2],.int .i64 0]) ?_ rfl ⟨rfl,hbl⟩
 simp[results,Tryz.results100,go_sem,p0,p1,Result.andThen]
theorem wU_ {x y:ByteArray} (zx:Sz x) (zy:Sz y) (w:World) :
  Calls Tryz.prog 100 #[.string x,.string y] w fun e W'=>e=.returned (.tuple #[.agg #[.string (qN (hG_ x y)),.string (qD (hG_ x y))],.int .i64 (qE (hG_ x y))])∧Below w.heap.size w W':=by
 cases h1:aC_ x with
 | none=>rw[lN_ (.inl h1)];exact lZ_ zx zy w (.inl h1)
 | some p=>
  cases h2:aC_ y with
  | none=>rw[lN_ (.inr h2)];exact lZ_ zx zy w (.inr (.inl h2))
  | some q=>
   rw[dN_ h1 h2]
   unfold aO_
   rcases Int.lt_trichotomy q 0 with hq|hq|hq
   ·rw[if_neg (by omega),oL_,oM_,sU_,tB_ hq,tT_ hq]
    exact aDE zx zy w h1 h2 hq
   ·rw[if_pos hq]
    refine lZ_ zx zy w (.inr (.inr ?_))
    rw[(bH_ h2).1,hq]
    rfl
   ·rw[if_neg (by omega),oL_,oM_,sU_,lM_ hq,den_pos hq]
    exact aDD zx zy w h1 h2 hq
theorem Of_f {n d:Int} (n1 : -9223372036854775808≤n) (n2:n≤9223372036854775807) (d1 : -9223372036854775808≤d) (d2:d≤9223372036854775807) (w:World) :
  Calls Tryz.prog 69 #[.int .i64 n,.int .i64 d] w fun e W'=>e=.returned (.tuple #[.agg #[.string (qN (aO_ n d)),.string (qD (aO_ n d))],.int .i64 (qE (aO_ n d))])∧Below w.heap.size w W':=by
 have H0:=hid (RsAt.start (Below.refl _ w) 47)
 have sn:=kN_ n1 n2
 have sd:=kN_ d1 d2
 have zn:Sz (str n):=by rw[←aB_ sn];exact bU_ _
 have zd:Sz (str d):=by rw[←aB_ sd];exact bU_ _
 have em:hG_ (str n) (str d)=aO_ n d:=dN_ (by rw[bA_,if_pos sn]) (by rw[bA_,if_pos sd])
 have k1:=hid (fun W=>qU_ (w:=W) n1 n2 rfl W (Below.refl _ _))
 have k2:=hid (fun W=>qU_ (w:=W) d1 d2 rfl W (Below.refl _ _))
 have km:=hid (fun W=>by have:=wU_ zn zd W;rw[em] at this;exact this)
 generalize aO_ n d=o at km⊢
 generalize str n=sn' at k1 km
 generalize str d=sd' at k2 km
 clear sn sd zn zd em n1 n2 d1 d2
 go_enter Tryz.func69,Tryz.ntmps69
 go_wp2_with (first
  | (go_at_call 101;with_reducible refine(k1.out _).mono ?_;rintro e w1 ⟨rfl,hb⟩;have H1:=hid (H0.out.below hb);clear hb)
  | (go_at_call 101;with_reducible refine(k2.out _).mono ?_;rintro e w2 ⟨rfl,hb⟩;have H2:=hid (H1.out.below hb);clear hb)
  | (go_at_call 100;with_reducible refine(km.out _).mono ?_;rintro e w3 ⟨rfl,hb⟩;have h3:=H2.out.below hb;obtain⟨_,q1,q2,q3,q4,_,_⟩:=id h3;have H3:=hid h3;clear hb h3)
  | fail)
 obtain⟨W5,hW5,p0,p1,hbl⟩:=H3.out.fin (qN o) (qD o)
 rw[hW5]
 clear hW5 q1 q2 q3 q4
 refine bodyPost_ret (v:=.tuple #[.agg #[.string (qN o),.string (qD o)],.int .i64 (qE o)]) ?_ rfl ⟨rfl,hbl⟩
 simp[results,Tryz.results69,go_sem,p0,p1,Result.andThen]
theorem at_s (x y:Int) (w:World):Calls Tryz.prog 31 #[.int .i64 x,.int .i64 y] w fun e W'=>e=.returned (.agg #[.int .i64 x,.int .i64 y])∧Below w.heap.size w W':=by
 go_enter Tryz.func31,Tryz.ntmps31
 go_wp2
 refine bodyPost_ret (v:=.agg #[.int .i64 x,.int .i64 y]) ?_ rfl ⟨rfl,(Below.refl _ _).alloc (Nat.le_refl _) _⟩
 simp[results,Tryz.results31,go_sem,Result.andThen]
theorem aOS {x y:Int} (x1 : -9223372036854775808≤x) (x2:x≤9223372036854775807) (y1 : -9223372036854775808≤y) (y2:y≤9223372036854775807) (w:World) :
  Calls Tryz.prog 33 #[.agg #[.int .i64 x,.int .i64 y]] w fun e W'=>e=.returned (.agg #[.int .i64 (dQ_ x 40:Nat),.int .i64 (dQ_ y 40:Nat)])∧Below w.heap.size w W':=by
 have KX:=hid (show ∀W,Calls Tryz.prog 34 #[.int .i64 x,.int .i64 40] W fun e w'=>e=.returned (.int .i64 (dQ_ x 40:Nat))∧W=w' from fun W=>qY_ x 40 x1 x2 (by decide) (by decide) W)
 have KY:=hid (show ∀W,Calls Tryz.prog 34 #[.int .i64 y,.int .i64 40] W fun e w'=>e=.returned (.int .i64 (dQ_ y 40:Nat))∧W=w' from fun W=>qY_ y 40 y1 y2 (by decide) (by decide) W)
 have H0:=hid (show AzAt [(w.heap.size+1,[.int .i64 0,.int .i64 0]),(w.heap.size,[.int .i64 x,.int .i64 y])] w _ from by have hp:=((AzAt.start w).push [.int .i64 x,.int .i64 y] 58).push [.int .i64 0,.int .i64 0] 26;simp only[World.size_alloc] at hp;exact hp)
 have HB:=hid ((AzAt.start w).push [.int .i64 x,.int .i64 y] 58)
 generalize ((dQ_ x 40:Nat):Int)=u at KX⊢
 generalize ((dQ_ y 40:Nat):Int)=v at KY⊢
 clear x1 x2 y1 y2
 go_enter Tryz.func33,Tryz.ntmps33
 go_wp2
 go_region_held3 (fun W=>W.cell? ⟨w.heap.size,0,none⟩=some (.int .i64 x)∧W.cell? ⟨w.heap.size,1,none⟩=some (.int .i64 y)) (first|with_reducible exact⟨(H0.out.drew.row (w.heap.size,[.int .i64 x,.int .i64 y]) (by simp)).row 0 _ rfl,(H0.out.drew.row (w.heap.size,[.int .i64 x,.int .i64 y]) (by simp)).row 1 _ rfl⟩|with_reducible exact⟨(((HB.out.push [.int .i64 u,.int .i64 v] 26).drew).row (w.heap.size,[.int .i64 x,.int .i64 y]) (by simp)).row 0 _ rfl,(((HB.out.push [.int .i64 u,.int .i64 v] 26).drew).row (w.heap.size,[.int .i64 x,.int .i64 y]) (by simp)).row 1 _ rfl⟩) (first
  | (go_at_call 34;(with_reducible refine(KX.out _).mono ?_);rintro e w' ⟨rfl,rfl⟩)
  | (go_at_call 34;(with_reducible refine(KY.out _).mono ?_);rintro e w' ⟨rfl,rfl⟩)
  | fail)
 all_goals
  go_wp2
  refine bodyPost_ret (v:=.agg #[.int .i64 u,.int .i64 v]) ?_ rfl ⟨rfl,((HB.out.push [.int .i64 u,.int .i64 v] 26).drew).bw⟩
  simp[results,Tryz.results33,go_sem,Result.andThen]
theorem sQ_ {n d:Int} (hd:d≠0) (n1 : -9223372036854775808≤n) (n2:n≤9223372036854775807) (d1 : -9223372036854775808≤d) (d2:d≤9223372036854775807) (w:World) :
  Calls Tryz.prog 32 #[.int .i64 n,.int .i64 d] w fun e W'=>e=.returned (.agg #[.string (qN (aO_ n d)),.string (qD (aO_ n d))])∧Below w.heap.size w W':=by
 have K:=hid (fun W=>Of_f n1 n2 d1 d2 W)
 rw[show qE (aO_ n d)=0 by unfold aO_;rw[if_neg hd];rfl] at K
 generalize qN (aO_ n d)=rn at K⊢
 generalize qD (aO_ n d)=rd at K⊢
 clear hd n1 n2 d1 d2
 have H0:=hid ((AzAt.start w).push [.string ⟨#[]⟩,.string ⟨#[]⟩] 47)
 go_enter Tryz.func32,Tryz.ntmps32
 go_wp2_with (first
  | (go_at_call 69;(with_reducible refine(K.out _).mono ?_);rintro e w1 ⟨rfl,hb⟩;have hp:=AzAt.al (H0.out.below hb) (.cells #[.string rn,.string rd] 47);have h_:=hp.row (w.heap.size,[.string ⟨#[]⟩,.string ⟨#[]⟩]) (by simp);have q0:=h_.row 0 _ rfl;have z0:=h_.fz 0 (by simp);have q1:=h_.row 1 _ rfl;have z1:=h_.fz 1 (by simp);clear h_;have H2:=hid hp;clear hb hp)
  | fail)
 have hp:=(H2.out).set2 (by omega) (by simp <;> omega) (.string rn) (.string rd)
 generalize (((w1.alloc (.cells #[.string rn,.string rd] 47)).setCell ⟨w.heap.size,0,none⟩ (.string rn)).setCell ⟨w.heap.size,1,none⟩ (.string rd))=WF at hp⊢
 have h_:=hp.row (w.heap.size,[.string rn,.string rd]) (by simp)
 have q0:=h_.row 0 _ rfl
 have q1:=h_.row 1 _ rfl
 clear h_
 refine bodyPost_ret (v:=.agg #[.string rn,.string rd]) ?_ rfl ⟨rfl,hp.bw⟩
 simp[results,Tryz.results32,go_sem,Result.andThen,q0,q1]
theorem jW_ {n d:ByteArray} {r:Rat} (h:ratO n d=some r):aC_ n=some r.num∧aC_ d=some (r.den:Int):=by
 obtain⟨e1,e2,h1,h2⟩:=dA_ h
 rw[e1,e2]
 exact⟨bW_ h1,bW_ h2⟩
theorem eX_ (z:Int):(small z=true∧opN (some z)=0)∨(small z=false∧opN (some z)=30):=by
 cases h:small z with
 | true=>exact .inl ⟨rfl,aV_ h⟩
 | false=>exact .inr ⟨rfl,vG_ (by rw[h];simp)⟩
theorem yT_ {a1 a2 b1 b2:ByteArray} (hn:ratO a1 a2=none∨ratO b1 b2=none):vR a1 a2=false∨vR a1 a2=true∧vR b1 b2=false:=by
 unfold vR
 rcases hn with h|h
 ·rw[h];exact .inl rfl
 ·rw[h]
  cases ratO a1 a2
  ·exact .inl rfl
  ·exact .inr ⟨rfl,rfl⟩
theorem hK_ {a1 a2:ByteArray} {r:Rat} (h:ratO a1 a2=some r):vR a1 a2=true:=by unfold vR;rw[h];rfl
theorem aAO {a1 a2 b1 b2:ByteArray} (z1:Sz a1) (z2:Sz a2) (z3:Sz b1) (z4:Sz b2) (hn:ratO a1 a2=none∨ratO b1 b2=none) (w:World) :
  Calls Tryz.prog 124 #[.agg #[.string a1,.string a2],.agg #[.string b1,.string b2]] w fun e W'=>e=.returned (.tuple #[.string ⟨#[]⟩,.string ⟨#[]⟩,.string ⟨#[]⟩,.bool false])∧Below w.heap.size w W':=by
 have v1:=fun W=>cS_ z1 z2 W
 have v2:=fun W=>cS_ z3 z4 W
 have H0:=hid (CpAt.start w a1 a2 b1 b2 47)
 have hv:=yT_ hn
 clear z1 z2 z3 z4 hn
 generalize vR a1 a2=x1 at v1 hv
 generalize vR b1 b2=x2 at v2 hv
 have V1:=hid v1
 have V2:=hid v2
 clear v1 v2
 rcases hv with rfl|⟨rfl,rfl⟩
 all_goals
  go_enter Tryz.func124,Tryz.ntmps124
  go_wp2_with (first
   | (go_at_call 65;with_reducible refine(V1.out _).mono ?_;rintro e w1 ⟨rfl,hb⟩;have h1:=H0.out.below hb;obtain⟨_,x0,x1,y0,y1,_⟩:=id h1;have H1:=hid h1;clear hb h1)
   | (go_at_call 65;with_reducible refine(V2.out _).mono ?_;rintro e w2 ⟨rfl,hb⟩;have H2:=hid (H1.out.below hb);clear hb)
   | fail)
  refine bodyPost_ret (v:=.tuple #[.string ⟨#[]⟩,.string ⟨#[]⟩,.string ⟨#[]⟩,.bool false]) ?_ rfl ⟨rfl,H2.out.bw⟩
  simp[results,Tryz.results124,go_sem]
theorem aAN {a1 a2 b1 b2:ByteArray} {a b:Rat} (ha:ratO a1 a2=some a) (hb:ratO b1 b2=some b) (w:World) :
  Calls Tryz.prog 124 #[.agg #[.string a1,.string a2],.agg #[.string b1,.string b2]] w fun e W'=>e=.returned (.tuple #[.string (opS (some (a.num*b.den))),.string (opS (some (b.num*a.den))),.string (opS (some ((a.den:Int)*b.den))),.bool (small (a.num*b.den)&&small (b.num*a.den)&&small ((a.den:Int)*b.den))])∧Below w.heap.size w W':=by
 obtain⟨z1,z2⟩:=cY_ ha
 obtain⟨z3,z4⟩:=cY_ hb
 obtain⟨n1,n2⟩:=jW_ ha
 obtain⟨n3,n4⟩:=jW_ hb
 have V1:=hid (fun W=>by have:=cS_ z1 z2 W;rw[hK_ ha] at this;exact this)
 have V2:=hid (fun W=>by have:=cS_ z3 z4 W;rw[hK_ hb] at this;exact this)
 have m1:=fun W=>by have:=gL_ (w:=W) z1 z4 W (Below.refl _ _);rw[show mulO a1 b2=some (a.num*b.den) by unfold mulO;rw[n1,n4]] at this;exact this
 have m2:=fun W=>by have:=gL_ (w:=W) z3 z2 W (Below.refl _ _);rw[show mulO b1 a2=some (b.num*a.den) by unfold mulO;rw[n3,n2]] at this;exact this
 have m3:=fun W=>by have:=gL_ (w:=W) z2 z4 W (Below.refl _ _);rw[show mulO a2 b2=some ((a.den:Int)*b.den) by unfold mulO;rw[n2,n4]] at this;exact this
 have H0:=hid (CpAt.start w a1 a2 b1 b2 47)
 have t1:=eX_ (a.num*b.den)
 have t2:=eX_ (b.num*a.den)
 have t3:=eX_ ((a.den:Int)*b.den)
 generalize a.num*(b.den:Int)=p1 at m1 t1⊢
 generalize b.num*(a.den:Int)=p2 at m2 t2⊢
 generalize (a.den:Int)*(b.den:Int)=p3 at m3 t3⊢
 clear ha hb z1 z2 z3 z4 n1 n2 n3 n4
 generalize opS (some p1)=s1 at m1⊢
 generalize opS (some p2)=s2 at m2⊢
 generalize opS (some p3)=s3 at m3⊢
 generalize opN (some p1)=k1 at m1 t1
 generalize opN (some p2)=k2 at m2 t2
 generalize opN (some p3)=k3 at m3 t3
 have M1:=hid m1
 have M2:=hid m2
 have M3:=hid m3
 clear m1 m2 m3
 rcases t1 with ⟨e1,rfl⟩|⟨e1,rfl⟩ <;> rcases t2 with ⟨e2,rfl⟩|⟨e2,rfl⟩ <;> rcases t3 with ⟨e3,rfl⟩|⟨e3,rfl⟩
 all_goals
  rw[e1,e2,e3]
  clear e1 e2 e3
  go_enter Tryz.func124,Tryz.ntmps124
  go_wp2_with (first
   | (go_at_call 65;with_reducible refine(V1.out _).mono ?_;rintro e w1 ⟨rfl,hb⟩;have h1:=H0.out.below hb;obtain⟨_,x0,x1,y0,y1,_⟩:=id h1;have H1:=hid h1;clear hb h1)
   | (go_at_call 65;with_reducible refine(V2.out _).mono ?_;rintro e w2 ⟨rfl,hb⟩;have h2:=H1.out.below hb;obtain⟨_,x0',x1',y0',y1',_⟩:=id h2;have H2:=hid h2;clear hb h2)
   | (go_at_call 127;with_reducible refine(M1.out _).mono ?_;rintro e w3 ⟨rfl,hb⟩;have h3:=H2.out.below hb;obtain⟨_,x0'',x1'',y0'',y1'',_⟩:=id h3;have H3:=hid h3;clear hb h3)
   | (go_at_call 127;with_reducible refine(M2.out _).mono ?_;rintro e w4 ⟨rfl,hb⟩;have h4:=H3.out.below hb;obtain⟨_,xa,xb,ya,yb,_⟩:=id h4;have H4:=hid h4;clear hb h4)
   | (go_at_call 127;with_reducible refine(M3.out _).mono ?_;rintro e w5 ⟨rfl,hb⟩;have H5:=hid (H4.out.below hb);clear hb)
   | fail)
  refine bodyPost_ret (v:=.tuple #[.string s1,.string s2,.string s3,.bool _]) ?_ rfl ⟨rfl,H5.out.bw⟩
  simp[results,Tryz.results124,go_sem]
theorem aNO {a1 a2 b1 b2 x y d s n' d':ByteArray} {ok:Bool} {k e':Int} (w:World)
  (C:∀W,Calls Tryz.prog 124 #[.agg #[.string a1,.string a2],.agg #[.string b1,.string b2]] W fun e W'=>e=.returned (.tuple #[.string x,.string y,.string d,.bool ok])∧Below W.heap.size W W')
  (S:ok=true→∀W,Calls Tryz.prog 125 #[.string x,.string y] W fun e W'=>e=.returned (.tuple #[.string s,.int .i64 k])∧Below W.heap.size W W')
  (M:ok=true→k=0→∀W,Calls Tryz.prog 100 #[.string s,.string d] W fun e W'=>e=.returned (.tuple #[.agg #[.string n',.string d'],.int .i64 e'])∧Below W.heap.size W W')
  (R:ok=false∨ok=true∧k=30→n'=⟨#[]⟩∧d'=⟨#[]⟩∧e'=40) (hk:k=0∨k=30) :
  Calls Tryz.prog 89 #[.agg #[.string a1,.string a2],.agg #[.string b1,.string b2]] w fun e W'=>e=.returned (.tuple #[.agg #[.string n',.string d'],.int .i64 e'])∧Below w.heap.size w W':=by
 have H0:=hid (OpAt.start w a1 a2 b1 b2 47)
 have KC:=hid C
 cases ok with
 | false=>
  obtain⟨rfl,rfl,rfl⟩:=R (.inl rfl)
  clear C S M R hk
  go_enter Tryz.func89,Tryz.ntmps89
  go_wp2_with (first
   | (go_at_call 124;with_reducible refine(KC.out _).mono ?_;rintro e w1 ⟨rfl,hb⟩;have h1:=H0.out.below hb;obtain⟨_,_,_,_,_,q1,q2,q3,q4,_⟩:=id h1;have H1:=hid h1;clear hb h1)
   | fail)
  obtain⟨W5,hW5,p0,p1,hbl⟩:=H1.out.rs.fin ⟨#[]⟩ ⟨#[]⟩
  rw[hW5]
  clear hW5 q1 q2 q3 q4
  refine bodyPost_ret (v:=.tuple #[.agg #[.string ⟨#[]⟩,.string ⟨#[]⟩],.int .i64 40]) ?_ rfl ⟨rfl,hbl⟩
  simp[results,Tryz.results89,go_sem,p0,p1,Result.andThen]
 | true=>
  have KS:=hid (S rfl)
  rcases hk with rfl|rfl
  ·have KM:=hid (M rfl rfl)
   clear C S M R
   go_enter Tryz.func89,Tryz.ntmps89
   go_wp2_with (first
    | (go_at_call 124;with_reducible refine(KC.out _).mono ?_;rintro e w1 ⟨rfl,hb⟩;have H1:=hid (H0.out.below hb);clear hb)
    | (go_at_call 125;with_reducible refine(KS.out _).mono ?_;rintro e w2 ⟨rfl,hb⟩;have H2:=hid (H1.out.below hb);clear hb)
    | (go_at_call 100;with_reducible refine(KM.out _).mono ?_;rintro e w3 ⟨rfl,hb⟩;have h3:=H2.out.below hb;obtain⟨_,_,_,_,_,q1,q2,q3,q4,_⟩:=id h3;have H3:=hid h3;clear hb h3)
    | fail)
   obtain⟨W5,hW5,p0,p1,hbl⟩:=H3.out.rs.fin n' d'
   rw[hW5]
   clear hW5 q1 q2 q3 q4
   refine bodyPost_ret (v:=.tuple #[.agg #[.string n',.string d'],.int .i64 e']) ?_ rfl ⟨rfl,hbl⟩
   simp[results,Tryz.results89,go_sem,p0,p1,Result.andThen]
  ·obtain⟨rfl,rfl,rfl⟩:=R (.inr ⟨rfl,rfl⟩)
   clear C S M R
   go_enter Tryz.func89,Tryz.ntmps89
   go_wp2_with (first
    | (go_at_call 124;with_reducible refine(KC.out _).mono ?_;rintro e w1 ⟨rfl,hb⟩;have H1:=hid (H0.out.below hb);clear hb)
    | (go_at_call 125;with_reducible refine(KS.out _).mono ?_;rintro e w2 ⟨rfl,hb⟩;have h2:=H1.out.below hb;obtain⟨_,_,_,_,_,q1,q2,q3,q4,_⟩:=id h2;have H2:=hid h2;clear hb h2)
    | fail)
   obtain⟨W5,hW5,p0,p1,hbl⟩:=H2.out.rs.fin ⟨#[]⟩ ⟨#[]⟩
   rw[hW5]
   clear hW5 q1 q2 q3 q4
   refine bodyPost_ret (v:=.tuple #[.agg #[.string ⟨#[]⟩,.string ⟨#[]⟩],.int .i64 40]) ?_ rfl ⟨rfl,hbl⟩
   simp[results,Tryz.results89,go_sem,p0,p1,Result.andThen]
theorem Add_f {a1 a2 b1 b2:ByteArray} (z1:Sz a1) (z2:Sz a2) (z3:Sz b1) (z4:Sz b2) (w:World) :
  Calls Tryz.prog 89 #[.agg #[.string a1,.string a2],.agg #[.string b1,.string b2]] w fun e W'=>e=.returned (.tuple #[.agg #[.string (qN (op2 addR a1 a2 b1 b2)),.string (qD (op2 addR a1 a2 b1 b2))],.int .i64 (qE (op2 addR a1 a2 b1 b2))])∧Below w.heap.size w W':=by
 by_cases hn:ratO a1 a2=none∨ratO b1 b2=none
 ·rw[gP_ hn]
  exact aNO (s:=⟨#[]⟩) (k:=0) w (aAO z1 z2 z3 z4 hn) (fun h=>nomatch h) (fun h=>nomatch h) (fun _=>⟨rfl,rfl,rfl⟩) (.inl rfl)
 ·obtain⟨a,ha⟩:∃a,ratO a1 a2=some a:=Option.ne_none_iff_exists'.1 (fun h=>hn (.inl h))
  obtain⟨b,hb⟩:∃b,ratO b1 b2=some b:=Option.ne_none_iff_exists'.1 (fun h=>hn (.inr h))
  rw[gO_ ha hb,qB_]
  refine aNO (s:=opS (some (a.num*b.den+b.num*a.den))) (k:=opN (some (a.num*b.den+b.num*a.den))) w (aAN ha hb) (fun h W=>?_) (fun h h0 W=>?_) (fun h=>?_) (by rcases eX_ (a.num*b.den+b.num*a.den) with ⟨_,e⟩|⟨_,e⟩ <;> rw[e] <;> simp)
  ·simp only[Bool.and_eq_true] at h
   have:=aJK (w:=W) (bU_ (some (a.num*b.den))) (bU_ (some (b.num*a.den))) W (Below.refl _ _)
   rw[show addO (opS (some (a.num*b.den))) (opS (some (b.num*a.den)))=some (a.num*b.den+b.num*a.den) by unfold addO;rw[aB_ h.1.1,aB_ h.1.2,bW_ h.1.1,bW_ h.1.2]] at this
   exact this
  ·simp only[Bool.and_eq_true] at h
   rcases eX_ (a.num*b.den+b.num*a.den) with ⟨hs,_⟩|⟨_,e⟩
   ·rw[if_pos ⟨h.1.1,h.1.2,hs,h.2⟩]
    have:=wU_ (bU_ (some (a.num*b.den+b.num*a.den))) (bU_ (some ((a.den:Int)*b.den))) W
    rw[aB_ hs,aB_ h.2,dN_ (bW_ hs) (bW_ h.2)] at this
    rw[aB_ hs,aB_ h.2]
    exact this
   ·rw[e] at h0
    exact absurd h0 (by decide)
  ·rw[if_neg]
   ·exact⟨rfl,rfl,rfl⟩
   ·rintro⟨h1,h2,h3,h4⟩
    rw[h1,h2,h4,aV_ h3] at h
    rcases h with h|⟨_,h⟩
    ·exact absurd h (by decide)
    ·exact absurd h (by decide)
theorem aNN {a1 a2 b1 b2 x y d s n' d':ByteArray} {ok:Bool} {k e':Int} (w:World)
  (C:∀W,Calls Tryz.prog 124 #[.agg #[.string a1,.string a2],.agg #[.string b1,.string b2]] W fun e W'=>e=.returned (.tuple #[.string x,.string y,.string d,.bool ok])∧Below W.heap.size W W')
  (S:ok=true→∀W,Calls Tryz.prog 126 #[.string x,.string y] W fun e W'=>e=.returned (.tuple #[.string s,.int .i64 k])∧Below W.heap.size W W')
  (M:ok=true→k=0→∀W,Calls Tryz.prog 100 #[.string s,.string d] W fun e W'=>e=.returned (.tuple #[.agg #[.string n',.string d'],.int .i64 e'])∧Below W.heap.size W W')
  (R:ok=false∨ok=true∧k=30→n'=⟨#[]⟩∧d'=⟨#[]⟩∧e'=40) (hk:k=0∨k=30) :
  Calls Tryz.prog 90 #[.agg #[.string a1,.string a2],.agg #[.string b1,.string b2]] w fun e W'=>e=.returned (.tuple #[.agg #[.string n',.string d'],.int .i64 e'])∧Below w.heap.size w W':=by
 have H0:=hid (OpAt.start w a1 a2 b1 b2 47)
 have KC:=hid C
 cases ok with
 | false=>
  obtain⟨rfl,rfl,rfl⟩:=R (.inl rfl)
  clear C S M R hk
  go_enter Tryz.func90,Tryz.ntmps90
  go_wp2_with (first
   | (go_at_call 124;with_reducible refine(KC.out _).mono ?_;rintro e w1 ⟨rfl,hb⟩;have h1:=H0.out.below hb;obtain⟨_,_,_,_,_,q1,q2,q3,q4,_⟩:=id h1;have H1:=hid h1;clear hb h1)
   | fail)
  obtain⟨W5,hW5,p0,p1,hbl⟩:=H1.out.rs.fin ⟨#[]⟩ ⟨#[]⟩
  rw[hW5]
  clear hW5 q1 q2 q3 q4
  refine bodyPost_ret (v:=.tuple #[.agg #[.string ⟨#[]⟩,.string ⟨#[]⟩],.int .i64 40]) ?_ rfl ⟨rfl,hbl⟩
  simp[results,Tryz.results90,go_sem,p0,p1,Result.andThen]
 | true=>
  have KS:=hid (S rfl)
  rcases hk with rfl|rfl
  ·have KM:=hid (M rfl rfl)
   clear C S M R
   go_enter Tryz.func90,Tryz.ntmps90
   go_wp2_with (first
    | (go_at_call 124;with_reducible refine(KC.out _).mono ?_;rintro e w1 ⟨rfl,hb⟩;have H1:=hid (H0.out.below hb);clear hb)
    | (go_at_call 126;with_reducible refine(KS.out _).mono ?_;rintro e w2 ⟨rfl,hb⟩;have H2:=hid (H1.out.below hb);clear hb)
    | (go_at_call 100;with_reducible refine(KM.out _).mono ?_;rintro e w3 ⟨rfl,hb⟩;have h3:=H2.out.below hb;obtain⟨_,_,_,_,_,q1,q2,q3,q4,_⟩:=id h3;have H3:=hid h3;clear hb h3)
    | fail)
   obtain⟨W5,hW5,p0,p1,hbl⟩:=H3.out.rs.fin n' d'
   rw[hW5]
   clear hW5 q1 q2 q3 q4
   refine bodyPost_ret (v:=.tuple #[.agg #[.string n',.string d'],.int .i64 e']) ?_ rfl ⟨rfl,hbl⟩
   simp[results,Tryz.results90,go_sem,p0,p1,Result.andThen]
  ·obtain⟨rfl,rfl,rfl⟩:=R (.inr ⟨rfl,rfl⟩)
   clear C S M R
   go_enter Tryz.func90,Tryz.ntmps90
   go_wp2_with (first
    | (go_at_call 124;with_reducible refine(KC.out _).mono ?_;rintro e w1 ⟨rfl,hb⟩;have H1:=hid (H0.out.below hb);clear hb)
    | (go_at_call 126;with_reducible refine(KS.out _).mono ?_;rintro e w2 ⟨rfl,hb⟩;have h2:=H1.out.below hb;obtain⟨_,_,_,_,_,q1,q2,q3,q4,_⟩:=id h2;have H2:=hid h2;clear hb h2)
    | fail)
   obtain⟨W5,hW5,p0,p1,hbl⟩:=H2.out.rs.fin ⟨#[]⟩ ⟨#[]⟩
   rw[hW5]
   clear hW5 q1 q2 q3 q4
   refine bodyPost_ret (v:=.tuple #[.agg #[.string ⟨#[]⟩,.string ⟨#[]⟩],.int .i64 40]) ?_ rfl ⟨rfl,hbl⟩
   simp[results,Tryz.results90,go_sem,p0,p1,Result.andThen]
theorem Sub_f {a1 a2 b1 b2:ByteArray} (z1:Sz a1) (z2:Sz a2) (z3:Sz b1) (z4:Sz b2) (w:World) :
  Calls Tryz.prog 90 #[.agg #[.string a1,.string a2],.agg #[.string b1,.string b2]] w fun e W'=>e=.returned (.tuple #[.agg #[.string (qN (op2 subR a1 a2 b1 b2)),.string (qD (op2 subR a1 a2 b1 b2))],.int .i64 (qE (op2 subR a1 a2 b1 b2))])∧Below w.heap.size w W':=by
 by_cases hn:ratO a1 a2=none∨ratO b1 b2=none
 ·rw[gP_ hn]
  exact aNN (s:=⟨#[]⟩) (k:=0) w (aAO z1 z2 z3 z4 hn) (fun h=>nomatch h) (fun h=>nomatch h) (fun _=>⟨rfl,rfl,rfl⟩) (.inl rfl)
 ·obtain⟨a,ha⟩:∃a,ratO a1 a2=some a:=Option.ne_none_iff_exists'.1 (fun h=>hn (.inl h))
  obtain⟨b,hb⟩:∃b,ratO b1 b2=some b:=Option.ne_none_iff_exists'.1 (fun h=>hn (.inr h))
  rw[gO_ ha hb,oB_]
  refine aNN (s:=opS (some (a.num*b.den-b.num*a.den))) (k:=opN (some (a.num*b.den-b.num*a.den))) w (aAN ha hb) (fun h W=>?_) (fun h h0 W=>?_) (fun h=>?_) (by rcases eX_ (a.num*b.den-b.num*a.den) with ⟨_,e⟩|⟨_,e⟩ <;> rw[e] <;> simp)
  ·simp only[Bool.and_eq_true] at h
   have:=sR_ (w:=W) (bU_ (some (a.num*b.den))) (bU_ (some (b.num*a.den))) W (Below.refl _ _)
   rw[show subO (opS (some (a.num*b.den))) (opS (some (b.num*a.den)))=some (a.num*b.den-b.num*a.den) by unfold subO;rw[aB_ h.1.1,aB_ h.1.2,bW_ h.1.1,bW_ h.1.2]] at this
   exact this
  ·simp only[Bool.and_eq_true] at h
   rcases eX_ (a.num*b.den-b.num*a.den) with ⟨hs,_⟩|⟨_,e⟩
   ·rw[if_pos ⟨h.1.1,h.1.2,hs,h.2⟩]
    have:=wU_ (bU_ (some (a.num*b.den-b.num*a.den))) (bU_ (some ((a.den:Int)*b.den))) W
    rw[aB_ hs,aB_ h.2,dN_ (bW_ hs) (bW_ h.2)] at this
    rw[aB_ hs,aB_ h.2]
    exact this
   ·rw[e] at h0
    exact absurd h0 (by decide)
  ·rw[if_neg]
   ·exact⟨rfl,rfl,rfl⟩
   ·rintro⟨h1,h2,h3,h4⟩
    rw[h1,h2,h4,aV_ h3] at h
    rcases h with h|⟨_,h⟩
    ·exact absurd h (by decide)
    ·exact absurd h (by decide)
theorem aMF {a1 a2 b1 b2:ByteArray} (z1:Sz a1) (z2:Sz a2) (z3:Sz b1) (z4:Sz b2) (hn:ratO a1 a2=none∨ratO b1 b2=none) (w:World) :
  Calls Tryz.prog 91 #[.agg #[.string a1,.string a2],.agg #[.string b1,.string b2]] w fun e W'=>e=.returned (.tuple #[.agg #[.string ⟨#[]⟩,.string ⟨#[]⟩],.int .i64 40])∧Below w.heap.size w W':=by
 have v1:=fun W=>cS_ z1 z2 W
 have v2:=fun W=>cS_ z3 z4 W
 have H0:=hid (OpAt.start w a1 a2 b1 b2 47)
 have hv:=yT_ hn
 clear z1 z2 z3 z4 hn
 generalize vR a1 a2=x1 at v1 hv
 generalize vR b1 b2=x2 at v2 hv
 have V1:=hid v1
 have V2:=hid v2
 clear v1 v2
 rcases hv with rfl|⟨rfl,rfl⟩
 all_goals
  go_enter Tryz.func91,Tryz.ntmps91
  go_wp2_with (first
   | (go_at_call 65;with_reducible refine(V1.out _).mono ?_;rintro e w1 ⟨rfl,hb⟩;have h1:=H0.out.below hb;obtain⟨_,x0,x1,y0,y1,_⟩:=id h1;have H1:=hid h1;clear hb h1)
   | (go_at_call 65;with_reducible refine(V2.out _).mono ?_;rintro e w2 ⟨rfl,hb⟩;have h2:=H1.out.below hb;obtain⟨_,_,_,_,_,q1,q2,q3,q4,_⟩:=id h2;have H2:=hid h2;clear hb h2)
   | fail)
  obtain⟨W5,hW5,p0,p1,hbl⟩:=H2.out.rs.fin ⟨#[]⟩ ⟨#[]⟩
  rw[hW5]
  clear hW5 q1 q2 q3 q4
  refine bodyPost_ret (v:=.tuple #[.agg #[.string ⟨#[]⟩,.string ⟨#[]⟩],.int .i64 40]) ?_ rfl ⟨rfl,hbl⟩
  simp[results,Tryz.results91,go_sem,p0,p1,Result.andThen]
theorem aME {a1 a2 b1 b2:ByteArray} {a b:Rat} (ha:ratO a1 a2=some a) (hb:ratO b1 b2=some b) (w:World) :
  Calls Tryz.prog 91 #[.agg #[.string a1,.string a2],.agg #[.string b1,.string b2]] w fun e W'=>e=.returned (.tuple #[.agg #[.string (qN (mulR a b)),.string (qD (mulR a b))],.int .i64 (qE (mulR a b))])∧Below w.heap.size w W':=by
 obtain⟨z1,z2⟩:=cY_ ha
 obtain⟨z3,z4⟩:=cY_ hb
 obtain⟨n1,n2⟩:=jW_ ha
 obtain⟨n3,n4⟩:=jW_ hb
 have V1:=hid (fun W=>by have:=cS_ z1 z2 W;rw[hK_ ha] at this;exact this)
 have V2:=hid (fun W=>by have:=cS_ z3 z4 W;rw[hK_ hb] at this;exact this)
 have m1:=fun W=>by have:=gL_ (w:=W) z1 z3 W (Below.refl _ _);rw[show mulO a1 b1=some (a.num*b.num) by unfold mulO;rw[n1,n3]] at this;exact this
 have m2:=fun W=>by have:=gL_ (w:=W) z2 z4 W (Below.refl _ _);rw[show mulO a2 b2=some ((a.den:Int)*b.den) by unfold mulO;rw[n2,n4]] at this;exact this
 have H0:=hid (OpAt.start w a1 a2 b1 b2 47)
 have t1:=eX_ (a.num*b.num)
 have t2:=eX_ ((a.den:Int)*b.den)
 rw[oV_]
 have km:=fun W=>wU_ (bU_ (some (a.num*b.num))) (bU_ (some ((a.den:Int)*b.den))) W
 generalize a.num*b.num=p1 at m1 t1 km⊢
 generalize (a.den:Int)*b.den=p2 at m2 t2 km⊢
 clear ha hb z1 z2 z3 z4 n1 n2 n3 n4
 have hs:small p1=true→small p2=true→hG_ (opS (some p1)) (opS (some p2))=aO_ p1 p2:=fun h1 h2=>by rw[aB_ h1,aB_ h2,dN_ (bW_ h1) (bW_ h2)]
 generalize opS (some p1)=s1 at m1 km hs
 generalize opS (some p2)=s2 at m2 km hs
 generalize opN (some p1)=k1 at m1 t1
 generalize opN (some p2)=k2 at m2 t2
 have M1:=hid m1
 have M2:=hid m2
 clear m1 m2
 rcases t1 with ⟨e1,rfl⟩|⟨e1,rfl⟩ <;> rcases t2 with ⟨e2,rfl⟩|⟨e2,rfl⟩
 ·rw[hs e1 e2] at km
  rw[if_pos ⟨e1,e2⟩]
  generalize aO_ p1 p2=o at km⊢
  have KM:=hid km
  clear km hs e1 e2
  go_enter Tryz.func91,Tryz.ntmps91
  go_wp2_with (first
   | (go_at_call 65;with_reducible refine(V1.out _).mono ?_;rintro e w1 ⟨rfl,hb⟩;have h1:=H0.out.below hb;obtain⟨_,x0,x1,y0,y1,_⟩:=id h1;have H1:=hid h1;clear hb h1)
   | (go_at_call 65;with_reducible refine(V2.out _).mono ?_;rintro e w2 ⟨rfl,hb⟩;have h2:=H1.out.below hb;obtain⟨_,x0',x1',y0',y1',_⟩:=id h2;have H2:=hid h2;clear hb h2)
   | (go_at_call 127;with_reducible refine(M1.out _).mono ?_;rintro e w3 ⟨rfl,hb⟩;have h3:=H2.out.below hb;obtain⟨_,x0'',x1'',y0'',y1'',_⟩:=id h3;have H3:=hid h3;clear hb h3)
   | (go_at_call 127;with_reducible refine(M2.out _).mono ?_;rintro e w4 ⟨rfl,hb⟩;have h4:=H3.out.below hb;obtain⟨_,x0''',x1''',y0''',y1''',_⟩:=id h4;have H4:=hid h4;clear hb h4)
   | (go_at_call 100;with_reducible refine(KM.out _).mono ?_;rintro e w5 ⟨rfl,hb⟩;have h5:=H4.out.below hb;obtain⟨_,_,_,_,_,q1,q2,q3,q4,_⟩:=id h5;have H5:=hid h5;clear hb h5)
   | fail)
  obtain⟨W5,hW5,p0,p1,hbl⟩:=H5.out.rs.fin (qN o) (qD o)
  rw[hW5]
  clear hW5 q1 q2 q3 q4
  refine bodyPost_ret (v:=.tuple #[.agg #[.string (qN o),.string (qD o)],.int .i64 (qE o)]) ?_ rfl ⟨rfl,hbl⟩
  simp[results,Tryz.results91,go_sem,p0,p1,Result.andThen]
 all_goals
  rw[if_neg (by rw[e1,e2];simp)]
  clear km hs e1 e2
  go_enter Tryz.func91,Tryz.ntmps91
  go_wp2_with (first
   | (go_at_call 65;with_reducible refine(V1.out _).mono ?_;rintro e w1 ⟨rfl,hb⟩;have h1:=H0.out.below hb;obtain⟨_,x0,x1,y0,y1,_⟩:=id h1;have H1:=hid h1;clear hb h1)
   | (go_at_call 65;with_reducible refine(V2.out _).mono ?_;rintro e w2 ⟨rfl,hb⟩;have h2:=H1.out.below hb;obtain⟨_,x0',x1',y0',y1',_⟩:=id h2;have H2:=hid h2;clear hb h2)
   | (go_at_call 127;with_reducible refine(M1.out _).mono ?_;rintro e w3 ⟨rfl,hb⟩;have h3:=H2.out.below hb;obtain⟨_,x0'',x1'',y0'',y1'',_⟩:=id h3;have H3:=hid h3;clear hb h3)
   | (go_at_call 127;with_reducible refine(M2.out _).mono ?_;rintro e w4 ⟨rfl,hb⟩;have h4:=H3.out.below hb;obtain⟨_,_,_,_,_,q1,q2,q3,q4,_⟩:=id h4;have H4:=hid h4;clear hb h4)
   | fail)
  obtain⟨W5,hW5,p0,p1,hbl⟩:=H4.out.rs.fin ⟨#[]⟩ ⟨#[]⟩
  rw[hW5]
  clear hW5 q1 q2 q3 q4
  refine bodyPost_ret (v:=.tuple #[.agg #[.string ⟨#[]⟩,.string ⟨#[]⟩],.int .i64 40]) ?_ rfl ⟨rfl,hbl⟩
  simp[results,Tryz.results91,go_sem,p0,p1,Result.andThen]
theorem Mul_f {a1 a2 b1 b2:ByteArray} (z1:Sz a1) (z2:Sz a2) (z3:Sz b1) (z4:Sz b2) (w:World) :
  Calls Tryz.prog 91 #[.agg #[.string a1,.string a2],.agg #[.string b1,.string b2]] w fun e W'=>e=.returned (.tuple #[.agg #[.string (qN (op2 mulR a1 a2 b1 b2)),.string (qD (op2 mulR a1 a2 b1 b2))],.int .i64 (qE (op2 mulR a1 a2 b1 b2))])∧Below w.heap.size w W':=by
 by_cases hn:ratO a1 a2=none∨ratO b1 b2=none
 ·rw[gP_ hn]
  exact aMF z1 z2 z3 z4 hn w
 ·obtain⟨a,ha⟩:∃a,ratO a1 a2=some a:=Option.ne_none_iff_exists'.1 (fun h=>hn (.inl h))
  obtain⟨b,hb⟩:∃b,ratO b1 b2=some b:=Option.ne_none_iff_exists'.1 (fun h=>hn (.inr h))
  rw[gO_ ha hb]
  exact aME ha hb w
theorem aMJ {a1 a2 b1 b2:ByteArray} (z1:Sz a1) (z2:Sz a2) (z3:Sz b1) (z4:Sz b2) (hn:ratO a1 a2=none∨ratO b1 b2=none) (w:World) :
  Calls Tryz.prog 92 #[.agg #[.string a1,.string a2],.agg #[.string b1,.string b2]] w fun e W'=>e=.returned (.tuple #[.agg #[.string ⟨#[]⟩,.string ⟨#[]⟩],.int .i64 40])∧Below w.heap.size w W':=by
 have v1:=fun W=>cS_ z1 z2 W
 have v2:=fun W=>cS_ z3 z4 W
 have H0:=hid (OpAt.start w a1 a2 b1 b2 47)
 have hv:=yT_ hn
 clear z1 z2 z3 z4 hn
 generalize vR a1 a2=x1 at v1 hv
 generalize vR b1 b2=x2 at v2 hv
 have V1:=hid v1
 have V2:=hid v2
 clear v1 v2
 rcases hv with rfl|⟨rfl,rfl⟩
 all_goals
  go_enter Tryz.func92,Tryz.ntmps92
  go_wp2_with (first
   | (go_at_call 65;with_reducible refine(V1.out _).mono ?_;rintro e w1 ⟨rfl,hb⟩;have h1:=H0.out.below hb;obtain⟨_,x0,x1,y0,y1,_⟩:=id h1;have H1:=hid h1;clear hb h1)
   | (go_at_call 65;with_reducible refine(V2.out _).mono ?_;rintro e w2 ⟨rfl,hb⟩;have h2:=H1.out.below hb;obtain⟨_,_,_,_,_,q1,q2,q3,q4,_⟩:=id h2;have H2:=hid h2;clear hb h2)
   | fail)
  obtain⟨W5,hW5,p0,p1,hbl⟩:=H2.out.rs.fin ⟨#[]⟩ ⟨#[]⟩
  rw[hW5]
  clear hW5 q1 q2 q3 q4
  refine bodyPost_ret (v:=.tuple #[.agg #[.string ⟨#[]⟩,.string ⟨#[]⟩],.int .i64 40]) ?_ rfl ⟨rfl,hbl⟩
  simp[results,Tryz.results92,go_sem,p0,p1,Result.andThen]
theorem aMI {a1 a2 b1 b2:ByteArray} {a b:Rat} (ha:ratO a1 a2=some a) (hb:ratO b1 b2=some b) (w:World) :
  Calls Tryz.prog 92 #[.agg #[.string a1,.string a2],.agg #[.string b1,.string b2]] w fun e W'=>e=.returned (.tuple #[.agg #[.string (qN (divR a b)),.string (qD (divR a b))],.int .i64 (qE (divR a b))])∧Below w.heap.size w W':=by
 obtain⟨z1,z2⟩:=cY_ ha
 obtain⟨z3,z4⟩:=cY_ hb
 obtain⟨n1,n2⟩:=jW_ ha
 obtain⟨n3,n4⟩:=jW_ hb
 have V1:=hid (fun W=>by have:=cS_ z1 z2 W;rw[hK_ ha] at this;exact this)
 have V2:=hid (fun W=>by have:=cS_ z3 z4 W;rw[hK_ hb] at this;exact this)
 have m1:=fun W=>by have:=gL_ (w:=W) z1 z4 W (Below.refl _ _);rw[show mulO a1 b2=some (a.num*b.den) by unfold mulO;rw[n1,n4]] at this;exact this
 have m2:=fun W=>by have:=gL_ (w:=W) z2 z3 W (Below.refl _ _);rw[show mulO a2 b1=some ((a.den:Int)*b.num) by unfold mulO;rw[n2,n3]] at this;exact this
 have H0:=hid (OpAt.start w a1 a2 b1 b2 47)
 have t1:=eX_ (a.num*b.den)
 have t2:=eX_ ((a.den:Int)*b.num)
 rw[pK_]
 have km:=fun W=>wU_ (bU_ (some (a.num*b.den))) (bU_ (some ((a.den:Int)*b.num))) W
 generalize a.num*b.den=p1 at m1 t1 km⊢
 generalize (a.den:Int)*b.num=p2 at m2 t2 km⊢
 clear ha hb z1 z2 z3 z4 n1 n2 n3 n4
 have hs:small p1=true→small p2=true→hG_ (opS (some p1)) (opS (some p2))=aO_ p1 p2:=fun h1 h2=>by rw[aB_ h1,aB_ h2,dN_ (bW_ h1) (bW_ h2)]
 generalize opS (some p1)=s1 at m1 km hs
 generalize opS (some p2)=s2 at m2 km hs
 generalize opN (some p1)=k1 at m1 t1
 generalize opN (some p2)=k2 at m2 t2
 have M1:=hid m1
 have M2:=hid m2
 clear m1 m2
 rcases t1 with ⟨e1,rfl⟩|⟨e1,rfl⟩ <;> rcases t2 with ⟨e2,rfl⟩|⟨e2,rfl⟩
 ·rw[hs e1 e2] at km
  rw[if_pos ⟨e1,e2⟩]
  generalize aO_ p1 p2=o at km⊢
  have KM:=hid km
  clear km hs e1 e2
  go_enter Tryz.func92,Tryz.ntmps92
  go_wp2_with (first
   | (go_at_call 65;with_reducible refine(V1.out _).mono ?_;rintro e w1 ⟨rfl,hb⟩;have h1:=H0.out.below hb;obtain⟨_,x0,x1,y0,y1,_⟩:=id h1;have H1:=hid h1;clear hb h1)
   | (go_at_call 65;with_reducible refine(V2.out _).mono ?_;rintro e w2 ⟨rfl,hb⟩;have h2:=H1.out.below hb;obtain⟨_,x0',x1',y0',y1',_⟩:=id h2;have H2:=hid h2;clear hb h2)
   | (go_at_call 127;with_reducible refine(M1.out _).mono ?_;rintro e w3 ⟨rfl,hb⟩;have h3:=H2.out.below hb;obtain⟨_,x0'',x1'',y0'',y1'',_⟩:=id h3;have H3:=hid h3;clear hb h3)
   | (go_at_call 127;with_reducible refine(M2.out _).mono ?_;rintro e w4 ⟨rfl,hb⟩;have h4:=H3.out.below hb;obtain⟨_,x0''',x1''',y0''',y1''',_⟩:=id h4;have H4:=hid h4;clear hb h4)
   | (go_at_call 100;with_reducible refine(KM.out _).mono ?_;rintro e w5 ⟨rfl,hb⟩;have h5:=H4.out.below hb;obtain⟨_,_,_,_,_,q1,q2,q3,q4,_⟩:=id h5;have H5:=hid h5;clear hb h5)
   | fail)
  obtain⟨W5,hW5,p0,p1,hbl⟩:=H5.out.rs.fin (qN o) (qD o)
  rw[hW5]
  clear hW5 q1 q2 q3 q4
  refine bodyPost_ret (v:=.tuple #[.agg #[.string (qN o),.string (qD o)],.int .i64 (qE o)]) ?_ rfl ⟨rfl,hbl⟩
  simp[results,Tryz.results92,go_sem,p0,p1,Result.andThen]
 all_goals
  rw[if_neg (by rw[e1,e2];simp)]
  clear km hs e1 e2
  go_enter Tryz.func92,Tryz.ntmps92
  go_wp2_with (first
   | (go_at_call 65;with_reducible refine(V1.out _).mono ?_;rintro e w1 ⟨rfl,hb⟩;have h1:=H0.out.below hb;obtain⟨_,x0,x1,y0,y1,_⟩:=id h1;have H1:=hid h1;clear hb h1)
   | (go_at_call 65;with_reducible refine(V2.out _).mono ?_;rintro e w2 ⟨rfl,hb⟩;have h2:=H1.out.below hb;obtain⟨_,x0',x1',y0',y1',_⟩:=id h2;have H2:=hid h2;clear hb h2)
   | (go_at_call 127;with_reducible refine(M1.out _).mono ?_;rintro e w3 ⟨rfl,hb⟩;have h3:=H2.out.below hb;obtain⟨_,x0'',x1'',y0'',y1'',_⟩:=id h3;have H3:=hid h3;clear hb h3)
   | (go_at_call 127;with_reducible refine(M2.out _).mono ?_;rintro e w4 ⟨rfl,hb⟩;have h4:=H3.out.below hb;obtain⟨_,_,_,_,_,q1,q2,q3,q4,_⟩:=id h4;have H4:=hid h4;clear hb h4)
   | fail)
  obtain⟨W5,hW5,p0,p1,hbl⟩:=H4.out.rs.fin ⟨#[]⟩ ⟨#[]⟩
  rw[hW5]
  clear hW5 q1 q2 q3 q4
  refine bodyPost_ret (v:=.tuple #[.agg #[.string ⟨#[]⟩,.string ⟨#[]⟩],.int .i64 40]) ?_ rfl ⟨rfl,hbl⟩
  simp[results,Tryz.results92,go_sem,p0,p1,Result.andThen]
theorem Div_f {a1 a2 b1 b2:ByteArray} (z1:Sz a1) (z2:Sz a2) (z3:Sz b1) (z4:Sz b2) (w:World) :
  Calls Tryz.prog 92 #[.agg #[.string a1,.string a2],.agg #[.string b1,.string b2]] w fun e W'=>e=.returned (.tuple #[.agg #[.string (qN (op2 divR a1 a2 b1 b2)),.string (qD (op2 divR a1 a2 b1 b2))],.int .i64 (qE (op2 divR a1 a2 b1 b2))])∧Below w.heap.size w W':=by
 by_cases hn:ratO a1 a2=none∨ratO b1 b2=none
 ·rw[gP_ hn]
  exact aMJ z1 z2 z3 z4 hn w
 ·obtain⟨a,ha⟩:∃a,ratO a1 a2=some a:=Option.ne_none_iff_exists'.1 (fun h=>hn (.inl h))
  obtain⟨b,hb⟩:∃b,ratO b1 b2=some b:=Option.ne_none_iff_exists'.1 (fun h=>hn (.inr h))
  rw[gO_ ha hb]
  exact aMI ha hb w
theorem gH_ (w:World):Calls Tryz.prog 123 #[.string ⟨#[48]⟩] w fun e W'=>e=.returned (.string ⟨#[48]⟩)∧w=W':=by
 go_enter Tryz.func123,Tryz.ntmps123
 go_wp2
 go_ret
 exact⟨rfl,rfl⟩
theorem qJ_ {s:ByteArray} (h:(s.toList == [48])=false) (w:World):Calls Tryz.prog 123 #[.string s] w fun e W'=>e=.returned (.string ⟨#[49]⟩)∧w=W':=by
 go_enter Tryz.func123,Tryz.ntmps123
 go_wp2
 go_ret
 exact⟨rfl,rfl⟩
def denV (v:Value):Nat:=match v with | .string t=>(match aC_ t with|some z=>z.natAbs|none=>0)|_=>0
theorem aAM {n d:ByteArray} {r:Rat} (h:ratO n d=some r):denV (.string d)=r.den:=by
 show(match aC_ d with|some z=>z.natAbs|none=>0)=_
 rw[(jW_ h).2]
 exact Int.natAbs_natCast _
theorem qG_ {a1 a2 b1 b2:ByteArray} {a b:Rat} (ha:ratO a1 a2=some a) (hb:ratO b1 b2=some b) (w:World) :
  Calls Tryz.prog 88 #[.agg #[.string a1,.string a2],.agg #[.string b1,.string b2]] w fun e W'=>e=.returned (.int .i64 (cmpR a b))∧Below w.heap.size w W':=by
 obtain⟨z1,z2⟩:=cY_ ha
 obtain⟨z3,z4⟩:=cY_ hb
 have V1:=hid (fun W=>by have:=cS_ z1 z2 W;rw[hK_ ha] at this;exact this)
 have V2:=hid (fun W=>by have:=cS_ z3 z4 W;rw[hK_ hb] at this;exact this)
 have H0:=hid (CpAt.start w a1 a2 b1 b2 47)
 have HA:=hid ha
 have HB:=hid hb
 obtain⟨cc,hcc⟩:∃cc,cmpR a b=cc:=⟨_,rfl⟩
 rw[hcc]
 have HCC:=hid hcc
 clear ha hb z1 z2 z3 z4 hcc
 go_enter Tryz.func88,Tryz.ntmps88
 go_wp2_with (first
  | (go_at_call 65;with_reducible refine(V1.out _).mono ?_;rintro e w1 ⟨rfl,hb⟩;have h1:=H0.out.below hb;obtain⟨_,x0,x1,y0,y1,_⟩:=id h1;have H1:=hid h1;clear hb h1)
  | (go_at_call 65;with_reducible refine(V2.out _).mono ?_;rintro e w2 ⟨rfl,hb⟩;have h2:=H1.out.below hb;obtain⟨_,x0',x1',y0',y1',_⟩:=id h2;have H2:=hid h2;clear hb h2)
  | fail)
 clear V1 V2
 go_loopw [7,8,9,10,11] (fun s n d m c wr=>∃(S:Int) (n1 d1 n2 d2:ByteArray) (A B:Rat),s=.int .i64 S∧n=.string n1∧d=.string d1∧m=.string n2∧c=.string d2∧(S=1∨S = -1)∧ratO n1 d1=some A∧ratO n2 d2=some B∧S*cmpR A B=cc∧Below w.heap.size w wr) (fun _ _ d _ _ _=>denV d)
 case atStart=>exact⟨1,a1,a2,b1,b2,a,b,rfl,rfl,rfl,rfl,rfl,.inl rfl,HA.out,HB.out,by rw[HCC.out];omega,H2.out.bw⟩
 case round=>
  obtain⟨S,n1,d1,n2,d2,A,B,rfl,rfl,rfl,rfl,rfl,hS,h1,h2,hm,hbw⟩:=hrel
  have HBW:=hid hbw
  clear hbw
  obtain⟨zn1,zd1⟩:=cY_ h1
  obtain⟨zn2,zd2⟩:=cY_ h2
  obtain⟨e1,e2⟩:=iN_ h1
  obtain⟨e3,e4⟩:=iN_ h2
  have fA:=(dA_ h1).2.2
  have fB:=(dA_ h2).2.2
  have k1:=hid (fun W=>by have:=iO_ (w:=W) zn1 zd1 W (Below.refl _ _);rw[e1,e2,aB_ (aJ_ fA),aB_ (dZ_ fA),aV_ (aJ_ fA)] at this;exact this)
  have k2:=hid (fun W=>by have:=iO_ (w:=W) zn2 zd2 W (Below.refl _ _);rw[e3,e4,aB_ (aJ_ fB),aB_ (dZ_ fB),aV_ (aJ_ fB)] at this;exact this)
  have k3:=fun W=>by have:=cO_ (w:=W) (mB_ (aJ_ fA)) (mB_ (aJ_ fB)) W (Below.refl _ _);rw[show cmpO (str A.floor) (str B.floor)=cmpI A.floor B.floor by unfold cmpO;rw[bW_ (aJ_ fA),bW_ (aJ_ fB)]] at this;exact this
  clear e1 e2 e3 e4 zn1 zn2 zd1 zd2
  have hsb : -1≤S∧S≤1:=by rcases hS with rfl|rfl <;> omega
  obtain⟨sb1,sb2⟩:=hsb
  have FF:=hid (lV_ (a:=A) (b:=B))
  have RR:=hid (pQ_ (a:=A) (b:=B))
  have ZA:=fP_ (z:=A.num%(A.den:Int))
  have ZB:=fP_ (z:=B.num%(B.den:Int))
  have NA:=hid (gA_ h1)
  have NB:=hid (gA_ h2)
  have hden:=hid (aAM h1)
  have HM:=hid hm
  have HSS:=hid hS
  clear hm h1 h2 hS fA fB HA HB
  generalize str A.floor=tp at k1 k3
  generalize str B.floor=tq at k2 k3
  generalize hr1:str (A.num%(A.den:Int))=tr at k1 ZA NA
  generalize hr2:str (B.num%(B.den:Int))=ts at k2 ZB NB
  have K3:=hid k3
  rcases lW_ A.floor B.floor with hc|hc|hc
  ·have hres:=FF.out (by omega)
   rw[hc] at hres
   rw[hc] at k3
   have K3:=hid k3
   have hfin:=HM.out
   rw[hres] at hfin
   have HF:=hid hfin
   clear hres ZA ZB k3 hfin
   go_wp2_with (first
    | (go_at_call 122;with_reducible refine(k1.out _).mono ?_;rintro e w3 ⟨rfl,hb⟩;have H3:=hid (HBW.out.trans (hb.mono HBW.out.size));clear hb)
    | (go_at_call 122;with_reducible refine(k2.out _).mono ?_;rintro e w4 ⟨rfl,hb⟩;have H4:=hid (H3.out.trans (hb.mono H3.out.size));clear hb)
    | (go_at_call 94;with_reducible refine(K3.out _).mono ?_;rintro e w5 ⟨rfl,hb⟩;have H5:=hid (H4.out.trans (hb.mono H4.out.size));clear hb)
    | fail)
   go_ret
   exact⟨bT_ (by have:=HF.out;omega),H5.out⟩
  ·have hf:=pR_ hc
   have hres:=RR.out hf
   rw[hc] at k3
   have K3:=hid k3
   have hm:=HM.out
   rw[hres] at hm
   clear hres hf hc
   by_cases hA:A.num%(A.den:Int)=0
   ·rw[decide_eq_true hA] at ZA
    rw[if_pos hA] at hm
    by_cases hB:B.num%(B.den:Int)=0
    ·rw[decide_eq_true hB] at ZB
     rw[if_pos hB] at hm
     rw[hA] at hr1
     obtain rfl:tr=⟨#[48]⟩:=hr1.symm
     rw[hB] at hr2
     obtain rfl:ts=⟨#[48]⟩:=hr2.symm
     have HF:=hid hm
     have k6:=hid (fun W=>by have:=cO_ (w:=W) dS_ dS_ W (Below.refl _ _);rw[show cmpO ⟨#[48]⟩ ⟨#[48]⟩=0 by decide +kernel] at this;exact this)
     have q1:=hid (fun W=>gH_ W)
     have q2:=hid (fun W=>gH_ W)
     clear hm hA hB k3
     go_wp2_with (first
      | (go_at_call 122;with_reducible refine(k1.out _).mono ?_;rintro e w3 ⟨rfl,hb⟩;have H3:=hid (HBW.out.trans (hb.mono HBW.out.size));clear hb)
      | (go_at_call 122;with_reducible refine(k2.out _).mono ?_;rintro e w4 ⟨rfl,hb⟩;have H4:=hid (H3.out.trans (hb.mono H3.out.size));clear hb)
      | (go_at_call 94;with_reducible refine(K3.out _).mono ?_;rintro e w5 ⟨rfl,hb⟩;have H5:=hid (H4.out.trans (hb.mono H4.out.size));clear hb)
      | (go_at_call 123;with_reducible refine(q1.out _).mono ?_;rintro e w6 ⟨rfl,rfl⟩)
      | (go_at_call 123;with_reducible refine(q2.out _).mono ?_;rintro e w7 ⟨rfl,rfl⟩)
      | (go_at_call 94;with_reducible refine(k6.out _).mono ?_;rintro e w8 ⟨rfl,hb⟩;have H6:=hid (H5.out.trans (hb.mono H5.out.size));clear hb)
      | fail)
     go_ret
     exact⟨bT_ (by have:=HF.out;omega),H6.out⟩
    ·rw[decide_eq_false hB] at ZB
     rw[if_neg hB] at hm
     rw[hA] at hr1
     obtain rfl:tr=⟨#[48]⟩:=hr1.symm
     have HF:=hid hm
     have k6:=hid (fun W=>by have:=cO_ (w:=W) dS_ aML W (Below.refl _ _);rw[show cmpO ⟨#[48]⟩ ⟨#[49]⟩ = -1 by decide +kernel] at this;exact this)
     have q1:=hid (fun W=>gH_ W)
     have q2:=hid (fun W=>qJ_ (s:=ts) ZB W)
     clear hm hA hB k3
     go_wp2_with (first
      | (go_at_call 122;with_reducible refine(k1.out _).mono ?_;rintro e w3 ⟨rfl,hb⟩;have H3:=hid (HBW.out.trans (hb.mono HBW.out.size));clear hb)
      | (go_at_call 122;with_reducible refine(k2.out _).mono ?_;rintro e w4 ⟨rfl,hb⟩;have H4:=hid (H3.out.trans (hb.mono H3.out.size));clear hb)
      | (go_at_call 94;with_reducible refine(K3.out _).mono ?_;rintro e w5 ⟨rfl,hb⟩;have H5:=hid (H4.out.trans (hb.mono H4.out.size));clear hb)
      | (go_at_call 123;with_reducible refine(q1.out _).mono ?_;rintro e w6 ⟨rfl,rfl⟩)
      | (go_at_call 123;with_reducible refine(q2.out _).mono ?_;rintro e w7 ⟨rfl,rfl⟩)
      | (go_at_call 94;with_reducible refine(k6.out _).mono ?_;rintro e w8 ⟨rfl,hb⟩;have H6:=hid (H5.out.trans (hb.mono H5.out.size));clear hb)
      | fail)
     go_ret
     exact⟨bT_ (by have:=HF.out;omega),H6.out⟩
   ·rw[decide_eq_false hA] at ZA
    rw[if_neg hA] at hm
    by_cases hB:B.num%(B.den:Int)=0
    ·rw[decide_eq_true hB] at ZB
     rw[if_pos hB] at hm
     rw[hB] at hr2
     obtain rfl:ts=⟨#[48]⟩:=hr2.symm
     have HF:=hid hm
     have k6:=hid (fun W=>by have:=cO_ (w:=W) aML dS_ W (Below.refl _ _);rw[show cmpO ⟨#[49]⟩ ⟨#[48]⟩=1 by decide +kernel] at this;exact this)
     have q1:=hid (fun W=>qJ_ (s:=tr) ZA W)
     have q2:=hid (fun W=>gH_ W)
     clear hm hA hB k3
     go_wp2_with (first
      | (go_at_call 122;with_reducible refine(k1.out _).mono ?_;rintro e w3 ⟨rfl,hb⟩;have H3:=hid (HBW.out.trans (hb.mono HBW.out.size));clear hb)
      | (go_at_call 122;with_reducible refine(k2.out _).mono ?_;rintro e w4 ⟨rfl,hb⟩;have H4:=hid (H3.out.trans (hb.mono H3.out.size));clear hb)
      | (go_at_call 94;with_reducible refine(K3.out _).mono ?_;rintro e w5 ⟨rfl,hb⟩;have H5:=hid (H4.out.trans (hb.mono H4.out.size));clear hb)
      | (go_at_call 123;with_reducible refine(q1.out _).mono ?_;rintro e w6 ⟨rfl,rfl⟩)
      | (go_at_call 123;with_reducible refine(q2.out _).mono ?_;rintro e w7 ⟨rfl,rfl⟩)
      | (go_at_call 94;with_reducible refine(k6.out _).mono ?_;rintro e w8 ⟨rfl,hb⟩;have H6:=hid (H5.out.trans (hb.mono H5.out.size));clear hb)
      | fail)
     go_ret
     exact⟨bT_ (by have:=HF.out;omega),H6.out⟩
    ·rw[decide_eq_false hB] at ZB
     rw[if_neg hB] at hm
     have na:=NA.out hA
     have nb:=NB.out hB
     have nd:=tD_ hA
     have ne:=aAM na
     have HN:=hid (And.intro na (And.intro nb (And.intro nd (And.intro hm ne))))
     clear hm na nb nd ne hA hB k3
     go_wp2_with (first
      | (go_at_call 122;with_reducible refine(k1.out _).mono ?_;rintro e w3 ⟨rfl,hb⟩;have H3:=hid (HBW.out.trans (hb.mono HBW.out.size));clear hb)
      | (go_at_call 122;with_reducible refine(k2.out _).mono ?_;rintro e w4 ⟨rfl,hb⟩;have H4:=hid (H3.out.trans (hb.mono H3.out.size));clear hb)
      | (go_at_call 94;with_reducible refine(K3.out _).mono ?_;rintro e w5 ⟨rfl,hb⟩;have H5:=hid (H4.out.trans (hb.mono H4.out.size));clear hb)
      | fail)
     obtain⟨na,nb,nd,hm,ne⟩:=HN.out
     refine⟨⟨-S,d1,tr,d2,ts,_,_,by go_num,rfl,rfl,rfl,rfl,?_,na,nb,?_,H5.out⟩,?_⟩
     ·rcases HSS.out with rfl|rfl
      ·exact .inr rfl
      ·exact .inl rfl
     ·rw[←hm,Int.neg_mul,Int.mul_neg]
     ·rw[ne,hden.out]
      exact nd
  ·have hres:=FF.out (by omega)
   rw[hc] at hres
   rw[hc] at k3
   have K3:=hid k3
   have hfin:=HM.out
   rw[hres] at hfin
   have HF:=hid hfin
   clear hres ZA ZB k3 hfin
   go_wp2_with (first
    | (go_at_call 122;with_reducible refine(k1.out _).mono ?_;rintro e w3 ⟨rfl,hb⟩;have H3:=hid (HBW.out.trans (hb.mono HBW.out.size));clear hb)
    | (go_at_call 122;with_reducible refine(k2.out _).mono ?_;rintro e w4 ⟨rfl,hb⟩;have H4:=hid (H3.out.trans (hb.mono H3.out.size));clear hb)
    | (go_at_call 94;with_reducible refine(K3.out _).mono ?_;rintro e w5 ⟨rfl,hb⟩;have H5:=hid (H4.out.trans (hb.mono H4.out.size));clear hb)
    | fail)
   go_ret
   exact⟨bT_ (by have:=HF.out;omega),H5.out⟩
theorem wW_ {a1 a2 b1 b2:ByteArray} (z1:Sz a1) (z2:Sz a2) (z3:Sz b1) (z4:Sz b2) (hn:ratO a1 a2=none∨ratO b1 b2=none) (w:World) :
  Calls Tryz.prog 88 #[.agg #[.string a1,.string a2],.agg #[.string b1,.string b2]] w fun e W'=>e=.returned (.int .i64 0)∧Below w.heap.size w W':=by
 have v1:=fun W=>cS_ z1 z2 W
 have v2:=fun W=>cS_ z3 z4 W
 have H0:=hid (CpAt.start w a1 a2 b1 b2 47)
 have hv:=yT_ hn
 clear z1 z2 z3 z4 hn
 generalize vR a1 a2=x1 at v1 hv
 generalize vR b1 b2=x2 at v2 hv
 have V1:=hid v1
 have V2:=hid v2
 clear v1 v2
 rcases hv with rfl|⟨rfl,rfl⟩
 all_goals
  go_enter Tryz.func88,Tryz.ntmps88
  go_wp2_with (first
   | (go_at_call 65;with_reducible refine(V1.out _).mono ?_;rintro e w1 ⟨rfl,hb⟩;have h1:=H0.out.below hb;obtain⟨_,x0,x1,y0,y1,_⟩:=id h1;have H1:=hid h1;clear hb h1)
   | (go_at_call 65;with_reducible refine(V2.out _).mono ?_;rintro e w2 ⟨rfl,hb⟩;have H2:=hid (H1.out.below hb);clear hb)
   | fail)
  go_ret
  exact⟨rfl,H2.out.bw⟩
theorem aIP {a1 a2 b1 b2:ByteArray} (z1:Sz a1) (z2:Sz a2) (z3:Sz b1) (z4:Sz b2) (w:World) :
  Calls Tryz.prog 88 #[.agg #[.string a1,.string a2],.agg #[.string b1,.string b2]] w fun e W'=>e=.returned (.int .i64 (cmpS a1 a2 b1 b2))∧Below w.heap.size w W':=by
 by_cases hn:ratO a1 a2=none∨ratO b1 b2=none
 ·rw[wJ_ hn]
  exact wW_ z1 z2 z3 z4 hn w
 ·obtain⟨a,ha⟩:∃a,ratO a1 a2=some a:=Option.ne_none_iff_exists'.1 (fun h=>hn (.inl h))
  obtain⟨b,hb⟩:∃b,ratO b1 b2=some b:=Option.ne_none_iff_exists'.1 (fun h=>hn (.inr h))
  rw[wI_ ha hb]
  exact qG_ ha hb w
end Go.Proofs.YtjfdefglpoancaaGreatDoor
namespace Go.Proofs.YtjfdefglpoancaaGreatDoor
open Go.RowKit Go.Shelf
end Go.Proofs.YtjfdefglpoancaaGreatDoor
