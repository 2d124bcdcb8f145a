/-
  Package pixel: Concat of two slices of inks, of which either may be no slice at all.
-/
import Derived.Test.YtlikmmpmnaaifaaGreatDoorZYj
namespace Go.Proofs.YtlikmmpmnaaifaaGreatDoor
open Go.RowKit Go.Shelf Go.Sort
attribute [local go_sem] Oper.semAt_some
theorem append_nil_c {P:Program} {w:World} {base size:Nat} {t ty e:TypeId} {i:TypeInfo} (ht:P.underlying t=some (.slice e)) (hi:P.info? e=some i) {v:Value} {n:Nat} {xs:List Value} (hown:w.ownsRow base e size v n xs) (c:Nat):(Builtin.append_ #[t,t] ty #[v,.slice none 0 c]).run P w=.ok v w:=by
 rcases hown.2 with ⟨rfl,rfl⟩|⟨g,cap,cur,rfl,_,_,hnc,_⟩
 ·simp[Builtin.append_,run_underlying ht,sizeOf,typeInfo,hi,Builtin.lenOf,Builtin.firstCells]
 ·simp[Builtin.append_,run_underlying ht,sizeOf,typeInfo,hi,Builtin.lenOf,Builtin.firstCells,hnc,storeCells]
attribute [local go_sem ↓] rQ_
set_option maxHeartbeats 4000000 in
set_option maxRecDepth 100000 in
theorem concatN_s {S m1 m2 c1 c2 cs:Nat} {a1 a2:Option Addr} {l1 l2:List Ent} (h1:l1.length=m1) (h2:l2.length=m2) (hn:m1≤1000∧m2≤1000) (n1:a1=none→m1=0) (n2:a2=none→m2=0) {R:List (Nat×List Value)} {W:World} (hA:AzAt ((S,[.slice a1 m1 c1,.slice a2 m2 c2])::R) W W) (v1:CsAt a1 (entV l1) W) (v2:CsAt a2 (entV l2) W) :
  Calls Tryz.prog 124 #[.slice (some ⟨S,0,none⟩) 2 cs] W fun e W'=>∃v,e=.returned v∧OsAt 79 2 v (m1+m2) (entV (l1++l2)) ((S,[.slice a1 m1 c1,.slice a2 m2 c2])::R) W W':=by
 obtain⟨i0,hi0,hz0,hz1,hz2⟩:=info_parts lO_
 have HL:=Lib.hid (And.intro h1 h2)
 have HN1:=Lib.hid n1
 have HN2:=Lib.hid n2
 have HG:=Lib.hid (aLC (n:=m1+m2) (by omega) hA)
 rw[Int.natCast_add] at HG
 have HV:=Lib.hid (And.intro v1 v2)
 have s0:=(hA.row (S,[.slice a1 m1 c1,.slice a2 m2 c2]) (by simp)).row 0 _ rfl
 have s1:=(hA.row (S,[.slice a1 m1 c1,.slice a2 m2 c2]) (by simp)).row 1 _ rfl
 have hS:=(hA.row (S,[.slice a1 m1 c1,.slice a2 m2 c2]) (by simp)).sz
 clear hA h1 h2 n1 n2 v1 v2
 have hm1:IntKind.i64.wrap (m1:Int)=(m1:Int):=IntWalk.i64_in _ (by omega)
 have hm2:IntKind.i64.wrap ((m1:Int)+(m2:Int))=(m1:Int)+(m2:Int):=IntWalk.i64_in _ (by omega)
 go_enter Tryz.func124,Tryz.ntmps124
 go_wp2
 go_loopw [3,11] (fun v3 v11 wr=>∃k:Nat,k≤2∧v11=.int .i64 (k:Int)∧wr=W∧v3=.int .i64 (if k=0 then 0 else if k=1 then (m1:Int) else (m1:Int)+(m2:Int))) (fun _ v11 _=>2-(intOf v11).toNat)
 case atStart=>exact⟨0,by omega,rfl,rfl,rfl⟩
 case round=>
  obtain⟨k,hk,rfl,rfl,rfl⟩:=hrel
  rcases(by omega:k=0∨k=1∨k=2) with rfl|rfl|rfl
  ·rw[if_pos rfl]
   go_wp2
   exact⟨⟨1,by omega,by go_num,trivial,by simp⟩,by simp only[intOf];omega⟩
  ·rw[if_neg (by decide),if_pos rfl]
   go_wp2
   exact⟨⟨2,by omega,by go_num,trivial,by simp⟩,by simp only[intOf];omega⟩
  ·rw[if_neg (by decide),if_neg (by decide)]
   go_wp2_with (first
    | (go_at_call 168;(with_reducible refine(HG.out).mono ?_);rintro e w1 ⟨vg,rfl,hz⟩;have HZ0:=Lib.hid hz;clear hz)
    | fail)
   clear HG s0 s1 hS
   go_loopw [6,27] (fun v6 v27 w2=>∃k:Nat,v27=.int .i64 (k:Int)∧((k=0∧OsAt 79 2 v6 0 (entV []) ((S,[.slice a1 m1 c1,.slice a2 m2 c2])::R) wr w2)∨(k=1∧OsAt 79 2 v6 m1 (entV l1) ((S,[.slice a1 m1 c1,.slice a2 m2 c2])::R) wr w2)∨(k=2∧OsAt 79 2 v6 (m1+m2) (entV (l1++l2)) ((S,[.slice a1 m1 c1,.slice a2 m2 c2])::R) wr w2))) (fun _ v27 _=>2-(intOf v27).toNat)
   case atStart=>exact⟨0,rfl,.inl ⟨rfl,HZ0.out⟩⟩
   case round=>
    obtain⟨k,rfl,hrel⟩:=hrel
    rcases hrel with ⟨rfl,hz⟩|⟨rfl,hz⟩|⟨rfl,hz⟩
    all_goals
     have HZ:=Lib.hid hz
     clear hz
    ·have y0:=(HZ.out.az.row (S,[.slice a1 m1 c1,.slice a2 m2 c2]) (by simp)).row 0 _ rfl
     have hyS:=(HZ.out.az.row (S,[.slice a1 m1 c1,.slice a2 m2 c2]) (by simp)).sz
     have hb0:=HZ.out.az.bw.size
     cases a1 with
     | none=>
      have e1:=HN1.out rfl
      subst e1
      have hap:(aQB #[56,56] 56 #[u6,.slice none 0 c1]).run Tryz.prog wr=.ok u6 wr:=append_nil_c Tryz.underlying56 hi0 HZ.out.own c1
      go_wp2
      exact⟨⟨1,by go_num,.inr (.inl ⟨rfl,by rw[List.length_eq_zero_iff.1 HL.out.1];exact HZ.out⟩)⟩,by simp only[intOf];omega⟩
     | some ad=>
      have HN:=Lib.hid (HV.out.1.below HZ.out.az.bw).news
      go_wp2_with (first
       | (at_builtin;refine wpList_append_own_at _ rfl _ _ 56 rfl _ 79 i0 (.agg #[.int .i64 0,.slice none 0 0]) 2 32 Tryz.underlying56 hi0 hz0 hz1 hz2 rfl (by decide) u6 0 (entV []) rfl HZ.out.own ad m1 c1 (entV l1) rfl (by rw[iD_,HL.out.1]) HN.out (yW_ l1) (by unfold maxLen;omega) (by omega) hb0 ?_;intro v' w7 hown' hgrow hnil hat;have HZ7:=Lib.hid (HZ.out.grown hown' hgrow hat);clear hown' hgrow hat)
       | fail)
      have h7:=HZ7.out
      rw[Nat.zero_add] at h7
      exact⟨⟨1,by go_num,.inr (.inl ⟨rfl,h7⟩)⟩,by simp only[intOf];omega⟩
    ·have y0:=(HZ.out.az.row (S,[.slice a1 m1 c1,.slice a2 m2 c2]) (by simp)).row 1 _ rfl
     have hyS:=(HZ.out.az.row (S,[.slice a1 m1 c1,.slice a2 m2 c2]) (by simp)).sz
     have hb0:=HZ.out.az.bw.size
     cases a2 with
     | none=>
      have e1:=HN2.out rfl
      subst e1
      have hap:(aQB #[56,56] 56 #[u6,.slice none 0 c2]).run Tryz.prog wr=.ok u6 wr:=append_nil_c Tryz.underlying56 hi0 HZ.out.own c2
      go_wp2
      exact⟨⟨2,by go_num,.inr (.inr ⟨rfl,by rw[List.length_eq_zero_iff.1 HL.out.2,List.append_nil];exact HZ.out⟩)⟩,by simp only[intOf];omega⟩
     | some ad=>
      have HN:=Lib.hid (HV.out.2.below HZ.out.az.bw).news
      go_wp2_with (first
       | (at_builtin;refine wpList_append_own_at _ rfl _ _ 56 rfl _ 79 i0 (.agg #[.int .i64 0,.slice none 0 0]) 2 32 Tryz.underlying56 hi0 hz0 hz1 hz2 rfl (by decide) u6 m1 (entV l1) rfl HZ.out.own ad m2 c2 (entV l2) rfl (by rw[iD_,HL.out.2]) HN.out (yW_ l2) (by unfold maxLen;omega) (by omega) hb0 ?_;intro v' w7 hown' hgrow hnil hat;have HZ7:=Lib.hid (HZ.out.grown hown' hgrow hat);clear hown' hgrow hat)
       | fail)
      have h7:=HZ7.out
      rw[←vW_] at h7
      exact⟨⟨2,by go_num,.inr (.inr ⟨rfl,h7⟩)⟩,by simp only[intOf];omega⟩
    ·go_wp2
     go_ret
     exact⟨_,rfl,HZ.out⟩
theorem InksAt.none {a:Option Addr} {ks:List Ik} {n:Nat} {W:World} (h:InksAt a ks W) (hl:ks.length=n):a=Option.none→n=0:=fun e=>by
 subst e
 cases ks with
 | nil=>exact hl.symm
 | cons k l=>
  obtain⟨_,_,_,_,e,_⟩:=h.row 0 k rfl
  cases e
end Go.Proofs.YtlikmmpmnaaifaaGreatDoor
