/- - -/
import Derived.Deep.CutBlock
import Derived.Deep.CutRange
import Derived.Test.YtdkaohphbgdkpaaGreatDoorZSd
import Derived.Test.YtdkaohphbgdkpaaGreatDoorZOut
import Derived.Test.YtdkaohphbgdkpaaGreatDoorZTb
set_option linter.unusedSimpArgs false
set_option linter.unusedVariables false
set_option maxHeartbeats 40000000
set_option maxRecDepth 1000000
namespace Go.Proofs.YtdkaohphbgdkpaaGreatDoor
open Go.RowKit Go.Shelf Go.Sort
attribute [local go_sem] Oper.semAt_some
theorem FrOp.under {w w':World} (h:FrOp w) (hb:Below w.heap.size w w'):FrOp w':=fun n h1 h2 W hk=>h n h1 h2 W (hb.trans (hk.mono hb.size))
theorem aDG {B:Nat} (W:World) (l:List Value) (t:TypeId) (hB:B=W.heap.size):∀j u,l[j]?=some u→(W.alloc (.cells l.toArray t)).cell? ((⟨B,0,none⟩:Addr).add j)=some u:=fun j u h=>by
 have:=(ArAt.mk' W l t).row j u h
 subst hB
 unfold Addr.add
 split
 ·next e=>subst e;exact this
 ·simp only[Nat.zero_add];exact this
theorem mN_:∀{ss:List Sh} {p:Option Int},ascB p ss=true→∀x∈ss,vRc x.rect=true∧aN_ x.code=true
 | [],_,_,x,hx=>by cases hx
 | s::l,p,h,x,hx=>by
  simp only[ascB,Bool.and_eq_true] at h
  rcases List.mem_cons.1 hx with rfl|hx
  ·exact⟨h.1.1.2,h.1.1.1⟩
  ·exact mN_ h.2 x hx
theorem wM_:(Tryz.prog.info? 160).map (fun i=>(i.zero,i.size,i.bytes))=some (some (.agg #[.int .i64 0,.string ⟨#[]⟩,.string ⟨#[]⟩,.string ⟨#[]⟩,.string ⟨#[]⟩]),5,72):=by kernel_rfl
theorem aEK {a:Option Addr} {n cap:Nat} {ss:List Sh} (hn:ss.length=n) (hn6:n≤1000000) (w:World) (hS:ShsAt a ss w) (hq:IOps w∧FrOp w) :
  Calls Tryz.prog 60 #[.slice a n cap] w fun e W'=>(∃b m c,e=.returned (.tuple #[.slice b m c,.int .i64 (if gS_ ss then 0 else 100)]))∧Below w.heap.size w W':=by
 have HN:=Lib.hid hn
 have HP:=Lib.hid hS
 have KL:=Lib.hid (laid_s (cap:=cap) hn hn6 w hS)
 cases hl:gS_ ss with
 | false=>
  rw[hl] at KL
  clear hn hS hq
  go_enter Tryz.func60,Tryz.ntmps60
  go_wp2_with (go_at_call 106;(with_reducible refine(KL.out).mono ?_);rintro e w1 ⟨rfl,hb⟩;have H1:=Lib.hid hb)
  go_ret2
  exact⟨⟨none,0,0,rfl⟩,H1.out⟩
 | true=>
  rw[hl] at KL
  have h60:n≤60:=by
   unfold gS_ at hl
   rw[hn] at hl
   simp only[Bool.and_eq_true,decide_eq_true_eq] at hl
   exact hl.2
  have HB:=Lib.hid (show ∀x∈ss,vRc x.rect=true from fun x hx=>(mN_ (by unfold gS_ at hl;rw[Bool.and_eq_true] at hl;exact hl.1) x hx).1)
  have KO:=Lib.hid (show ∀(z:Int),0≤z∧z≤4095→∃r1 r2 r3,∀W:World,Below w.heap.size w W→Calls Tryz.prog 107 #[.int .i64 z,.int .i64 1] W fun e W'=>e=.returned (.tuple #[.agg #[.string r1,.string r2],.int .i64 r3])∧Below W.heap.size W W' from
   fun z hz=>⟨_,_,_,fun W h=>Of_q (hq.1.below h) (hq.2.under h) (by omega) (by omega) (by omega) (by omega)⟩)
  obtain⟨i0,hi0,hz0,hz1,hz2⟩:=info_parts wM_
  clear hn hS hq
  go_enter Tryz.func60,Tryz.ntmps60
  go_wp2_with (go_at_call 106;(with_reducible refine(KL.out).mono ?_);rintro e w1 ⟨rfl,hb⟩;have H1:=Lib.hid hb)
  go_loopw [4,16] (fun v4 v16 wr=>∃(k:Nat) (xs:List Value),k≤n∧v16=.int .i64 (k:Int)∧OsAt 160 5 v4 k xs [] w wr) (fun _ v16 _=>n-(intOf v16).toNat)
  case atStart=>exact⟨0,[],Nat.zero_le _,rfl,OsAt.nil ⟨H1.out,fun x hx=>by cases hx⟩ _ _⟩
  case round=>
   obtain⟨k,xs,hk,rfl,ho⟩:=hrel
   have H2:=Lib.hid ho
   have HW:=Lib.hid (HP.out.below ho.az.bw)
   clear ho
   by_cases hkn:k<n
   case neg=>
    obtain rfl:k=n:=by omega
    have t9:decide ((k:Int)<(k:Int))=false:=decide_eq_false (by omega)
    obtain⟨b',c',hv,_⟩:=CsAt.own H2.out
    rw[hv]
    go_wp2
    go_ret2
    exact⟨⟨b',k,c',rfl⟩,H2.out.az.bw⟩
   case pos=>
    have t9:decide ((k:Int)<(n:Int))=true:=decide_eq_true (by omega)
    obtain⟨x,hx⟩:∃x,ss[k]?=some x:=⟨_,List.getElem?_eq_getElem (by rw[HN.out];exact hkn)⟩
    have hbx:=mT_ (HB.out x (List.mem_of_getElem? hx))
    obtain⟨b,o,rfl,hb7,c0,c1,c2,c3,c4,c5,c6,c7,c8,c9,c10⟩:=HW.out.sh hx
    clear hx
    have H3:=Lib.hid (H2.out.push (shC x) 30)
    obtain⟨r1,r2,r3,ho1⟩:=KO.out x.rect.x (by omega)
    obtain⟨t1,t2,t3,ho2⟩:=KO.out x.rect.y (by omega)
    have HO1:=Lib.hid ho1
    have HO2:=Lib.hid ho2
    clear ho1 ho2 hbx
    go_wp2_with (first
     | (go_at_call 107;(with_reducible refine(HO1.out _ H3.out.az.bw).mono ?_);rintro e w2 ⟨rfl,hb⟩;have H4:=Lib.hid ((H3.out.below hb).push [.string r1,.string r2] 155);have d0:=(H3.out.below hb).az.ce 0 0 rfl rfl;have d3:=(H3.out.below hb).az.ce 0 3 rfl rfl;have dsz:=((H3.out.below hb).az.row (wr.heap.size,shC x) (by simp)).sz;clear hb HO1 H3)
     | (go_at_call 107;(with_reducible refine(HO2.out _ H4.out.az.bw).mono ?_);rintro e w3 ⟨rfl,hb⟩;have H5:=Lib.hid ((H4.out.below hb).push [.string t1,.string t2] 155);have e0:=(H4.out.below hb).az.ce 1 0 rfl rfl;have r0:=(H4.out.below hb).az.ce 0 0 rfl rfl;have r9:=(H4.out.below hb).az.ce 0 1 rfl rfl;have esz:=((H4.out.below hb).az.row (wr.heap.size,shC x) (by simp)).sz;have rsz:=((H4.out.below hb).az.row (w2.heap.size,[.string r1,.string r2]) (by simp)).sz;clear hb HO2 H4)
     | (at_builtin;refine wpList_append_own_at _ rfl _ _ 115 rfl _ 160 i0 (.agg #[.int .i64 0,.string ⟨#[]⟩,.string ⟨#[]⟩,.string ⟨#[]⟩,.string ⟨#[]⟩]) 5 72 Tryz.underlying115 hi0 hz0 hz1 hz2 rfl (by decide) _ k xs rfl (H5.out.al _).own ⟨_,0,none⟩ 1 1 [.int .i64 x.code,.string r1,.string r2,.string t1,.string t2] rfl rfl (aDG _ _ _ (by simp)) (by simp[Value.oneCell']) (by unfold maxLen;omega) (by omega) (H5.out.al _).az.bw.size ?_;intro v' w7 hown' hgrow hnil hat;have H7:=Lib.hid (((H5.out.al _).grown hown' hgrow hat).sub (R':=[]) (by simp));clear hown' hgrow hat hnil)
     | fail)
    exact⟨⟨k+1,_,by omega,by go_num,H7.out⟩,by simp only[intOf];omega⟩
theorem ShsAt.shk {b o:Nat} {ss:List Sh} {W:World} (h:ShsAt (some ⟨b,o,none⟩) ss W) {k:Nat} {x:Sh} (hk:ss[k]?=some x):b<W.heap.size∧W.cell? ⟨b,o+k*11,none⟩=some (.int .i64 x.code)∧W.cell? ⟨b,o+k*11+1,none⟩=some (.int .i64 x.kind)∧W.cell? ⟨b,o+k*11+2,none⟩=some (.int .i64 x.rect.x)∧W.cell? ⟨b,o+k*11+3,none⟩=some (.int .i64 x.rect.y)∧W.cell? ⟨b,o+k*11+4,none⟩=some (.int .i64 x.rect.w)∧W.cell? ⟨b,o+k*11+5,none⟩=some (.int .i64 x.rect.h)∧W.cell? ⟨b,o+k*11+6,none⟩=some (.int .i64 x.a.x)∧W.cell? ⟨b,o+k*11+7,none⟩=some (.int .i64 x.a.y)∧W.cell? ⟨b,o+k*11+8,none⟩=some (.int .i64 x.b.x)∧W.cell? ⟨b,o+k*11+9,none⟩=some (.int .i64 x.b.y)∧W.cell? ⟨b,o+k*11+10,none⟩=some (.string x.word):=by
 obtain⟨b',o',e,h'⟩:=h.sh hk
 injection e with e
 injection e with e1 e2
 subst e1 e2
 exact h'
def bI_ (ss:List Sh):Bool:=gS_ ss && !ss.any fun s=>!bS_ s.kind s.word.data.toList
theorem jR_ {a:Option Addr} {n cap:Nat} {ss:List Sh} (hn:ss.length=n) (hn6:n≤1000000) (w:World) (hS:ShsAt a ss w) (hq:IOps w∧FrOp w) :
  Calls Tryz.prog 33 #[.slice a n cap] w fun e W'=>e=.returned (.bool (bI_ ss))∧Below w.heap.size w W':=by
 have KD:=Lib.hid (aEK (cap:=cap) hn hn6 w hS hq)
 have KC:=Lib.hid (show ∀W:World,Below w.heap.size w W→Calls Tryz.prog 61 #[.slice a n cap,.func (.func 62) #[] #[]] W fun e W'=>e=.returned (.bool (ss.any fun s=>!bS_ s.kind s.word.data.toList))∧Below W.heap.size W W' from fun W h=>
  pO_ (enters_of Tryz.func62 (by kernel_rfl) rfl) hn hn6 W (hS.below h) (rO_ W))
 unfold bI_
 generalize (ss.any fun s=>!bS_ s.kind s.word.data.toList)=r at *
 clear hn hS hq
 generalize gS_ ss=q at *
 cases q
 all_goals
  go_enter Tryz.func33,Tryz.ntmps33
  go_wp2_with (first
   | (go_at_call 60;(with_reducible refine(KD.out).mono ?_);rintro e w1 ⟨⟨b',m',c',rfl⟩,hb⟩;have H1:=Lib.hid hb)
   | (go_at_call 61;(with_reducible refine(KC.out _ H1.out).mono ?_);rintro e w2 ⟨rfl,hb⟩;have H2:=Lib.hid (aT_ H1.out hb))
   | fail)
  go_ret
  first
   | exact⟨rfl,H2.out⟩
   | exact⟨rfl,H1.out⟩
theorem cL_ {ss:List Sh} (h:bI_ ss=true):∀x∈ss,bd x:=by
 unfold bI_ gS_ at h
 simp only[Bool.and_eq_true] at h
 intro x hx
 obtain⟨h1,h2⟩:=mN_ h.1.1 x hx
 unfold aN_ at h2
 simp only[Bool.and_eq_true,decide_eq_true_eq] at h2
 exact⟨h1,h2⟩
theorem cR_ {ss:List Sh} (h:bI_ ss=true):ss.length≤60:=by
 unfold bI_ gS_ at h
 simp only[Bool.and_eq_true,decide_eq_true_eq] at h
 exact h.1.2
def eU_ (ss:List Sh) (c:Int):Int×Bool×Int:=match ss[(ixF (fun s=>s.code==c) ss).toNat]? with
 | none=>(0,false,270)
 | some s=>if 0≤ixF (fun s=>s.code==c) ss∧bI_ ss=true then ((orZ (parK ss s)).code,(parK ss s).isSome,0) else (0,false,270)
theorem iW_ (c:Int) {a:Option Addr} {n cap:Nat} {ss:List Sh} (hn:ss.length=n) (hn6:n≤1000000) (w:World) (hS:ShsAt a ss w) (hq:IOps w∧FrOp w) :
  Calls Tryz.prog 21 #[.slice a n cap,.int .i64 c] w fun e W'=>e=.returned (.tuple #[.int .i64 (eU_ ss c).1,.bool (eU_ ss c).2.1,.int .i64 (eU_ ss c).2.2])∧Below w.heap.size w W':=by
 have hw1:Below w.heap.size w (w.alloc (.cells #[.int .i64 c] 3)):=(Below.refl _ _).alloc (Nat.le_refl _) _
 have HB1:=Lib.hid hw1
 have KX:=Lib.hid (show Calls Tryz.prog 42 #[.slice a n cap,.func (.func 43) #[] #[.pointer (some ⟨w.heap.size,0,none⟩)]] (w.alloc (.cells #[.int .i64 c] 3)) fun e W'=>e=.returned (.int .i64 (ixF (fun s=>s.code==c) ss))∧Below (w.alloc (.cells #[.int .i64 c] 3)).heap.size (w.alloc (.cells #[.int .i64 c] 3)) W' from
  mB_ (cap:=cap) (enters_of Tryz.func43 (by kernel_rfl) rfl) hn hn6 _ (hS.below hw1) (aAG c ((ArAt.mk' w [.int .i64 c] 3).row 0 _ rfl) (by simp)))
 have KL:=Lib.hid (fun(W:World) (h:Below w.heap.size w W)=>jR_ (cap:=cap) hn hn6 W (hS.below h) ⟨hq.1.below h,hq.2.under h⟩)
 have HP:=Lib.hid hS
 have HN:=Lib.hid hn
 clear hw1 hS hq hn
 unfold eU_
 obtain⟨z,hz⟩:∃z,z=ixF (fun s=>s.code==c) ss:=⟨_,rfl⟩
 rw[←hz] at KX⊢
 have hz2:z = -1∨∃k:Nat,z=(k:Int)∧k<ss.length:=by
  rw[hz]
  unfold ixF
  cases h:ss.findIdx? fun s=>s.code==c with
  | none=>exact .inl rfl
  | some i=>exact .inr ⟨i,rfl,(List.findIdx?_eq_some_iff_getElem.1 h).1⟩
 clear hz
 rcases hz2 with rfl|⟨k,rfl,hk⟩
 ·have e1:(match ss[((-1:Int)).toNat]? with|none=>((0:Int),false,(270:Int))|some s=>if 0≤(-1:Int)∧bI_ ss=true then ((orZ (parK ss s)).code,(parK ss s).isSome,0) else (0,false,270))=(0,false,270):=by
   split
   ·rfl
   ·rw[if_neg (by omega)]
  rw[e1]
  go_enter Tryz.func21,Tryz.ntmps21
  go_wp2_with (first
   | (go_at_call 42;(with_reducible refine(KX.out).mono ?_);rintro e w1 ⟨rfl,hb⟩;have H1:=Lib.hid (aT_ HB1.out hb))
   | fail)
  refine bodyPost_ret (v:=.tuple #[.int .i64 0,.bool false,.int .i64 270]) ?_ rfl ⟨rfl,H1.out⟩
  simp[results,Tryz.results21,go_sem,Result.andThen]
 ·obtain⟨s,hs⟩:∃s,ss[k]?=some s:=⟨_,List.getElem?_eq_getElem hk⟩
  have hkn:(k:Int)<(n:Int):=by rw[←HN.out];omega
  have t0:decide ((k:Int)<0)=false:=decide_eq_false (by omega)
  have e1:(match ss[((k:Int)).toNat]? with|none=>((0:Int),false,(270:Int))|some s=>if 0≤(k:Int)∧bI_ ss=true then ((orZ (parK ss s)).code,(parK ss s).isSome,0) else (0,false,270))=if bI_ ss=true then ((orZ (parK ss s)).code,(parK ss s).isSome,0) else (0,false,270):=by
   rw[Int.toNat_natCast,hs]
   simp only
   by_cases h:bI_ ss=true
   ·rw[if_pos ⟨by omega,h⟩,if_pos h]
   ·rw[if_neg (fun h'=>h h'.2),if_neg h]
  rw[e1]
  clear e1
  cases hl:bI_ ss with
  | false=>
   rw[hl] at KL
   rw[if_neg (by simp)]
   go_enter Tryz.func21,Tryz.ntmps21
   go_wp2_with (first
    | (go_at_call 42;(with_reducible refine(KX.out).mono ?_);rintro e w1 ⟨rfl,hb⟩;have H1:=Lib.hid (aT_ HB1.out hb))
    | (go_at_call 33;(with_reducible refine(KL.out _ H1.out).mono ?_);rintro e w2 ⟨rfl,hb⟩;have H2:=Lib.hid (aT_ H1.out hb))
    | fail)
   refine bodyPost_ret (v:=.tuple #[.int .i64 0,.bool false,.int .i64 270]) ?_ rfl ⟨rfl,H2.out⟩
   simp[results,Tryz.results21,go_sem,Result.andThen]
  | true=>
   rw[hl] at KL
   rw[if_pos rfl]
   have KP:=Lib.hid (fun(W:World) (h:Below w.heap.size w W)=>lR_ (cap:=cap) s HN.out hn6 (cL_ hl) W (HP.out.below h))
   obtain⟨b,o,rfl,-⟩:=HP.out.sh hs
   have HS:=Lib.hid hs
   clear hs
   go_enter Tryz.func21,Tryz.ntmps21
   go_wp2_with (first
    | (go_at_call 42;(with_reducible refine(KX.out).mono ?_);rintro e w1 ⟨rfl,hb⟩;have H1:=Lib.hid (aT_ HB1.out hb))
    | (go_at_call 33;(with_reducible refine(KL.out _ H1.out).mono ?_);rintro e w2 ⟨rfl,hb⟩;have H2:=Lib.hid (aT_ H1.out hb);obtain⟨hb8,c0,c1,c2,c3,c4,c5,c6,c7,c8,c9,c10⟩:=(HP.out.below H2.out).shk HS.out)
    | (go_at_call 36;(with_reducible refine(KP.out _ H2.out).mono ?_);rintro e w3 ⟨rfl,hb⟩;have H3:=Lib.hid (aT_ H2.out hb))
    | fail)
   refine bodyPost_ret (v:=.tuple #[.int .i64 (orZ (parK ss s)).code,.bool (parK ss s).isSome,.int .i64 0]) ?_ rfl ⟨rfl,H3.out.alloc H3.out.size _⟩
   simp[results,Tryz.results21,go_sem,Result.andThen]
end Go.Proofs.YtdkaohphbgdkpaaGreatDoor
namespace Go.Proofs.YtdkaohphbgdkpaaGreatDoor
open Go.RowKit Go.Shelf Go.Sort
structure Q5 where
 a:Int
 b:Int
 c:Int
 d:Int
 e:Int
def letS (p:Nat):ByteArray:=⟨#[([76,78,86,88,90]:List UInt8).getD p 0]⟩
def pF_ (q:Q5):Int:=if aI_ q.a 9<5 then 1+(aI_ q.a 9:Nat) else 2
def aCR (q:Q5):ByteArray:=if pF_ q=4 then letS (aI_ q.b 5) else ⟨#[]⟩
def sh5 (q:Q5) (i:Nat):Sh:=
 ⟨1000*(aI_ (q.a.tdiv 9) 2:Nat)+2000*(i:Int)+1+(i:Int),pF_ q,⟨50*(aI_ q.b 8:Nat),50*(aI_ q.c 8:Nat),50*(aI_ q.d 8:Nat),50*(aI_ q.e 8:Nat)⟩,zPl,zPl,aCR q⟩
def shs5 (xs:List Q5) (k:Nat):List Sh:=(xs.take k).zipIdx.map fun x=>sh5 x.1 x.2
theorem oW_ {xs:List Q5} {k i:Nat} {s:Sh} : (shs5 xs k)[i]?=some s↔i<k∧∃q,xs[i]?=some q∧s=sh5 q i:=by
 unfold shs5
 rw[List.getElem?_map,List.getElem?_zipIdx,List.getElem?_take]
 by_cases h:i<k
 ·rw[if_pos h]
  cases hx:xs[i]? with
  | none=>simp
  | some q=>simp[h,eq_comm]
 ·rw[if_neg h];simp[h]
theorem gK_ (xs:List Q5) (k:Nat):(shs5 xs k).length=min k xs.length:=by unfold shs5;simp
theorem uG_ {xs:List Q5} {k:Nat} {q:Q5} (h:xs[k]?=some q):shs5 xs (k+1)=shs5 xs k++[sh5 q k]:=by
 have hk:k<xs.length:=(List.getElem?_eq_some_iff.1 h).1
 unfold shs5
 rw[List.take_add_one,h]
 simp[List.zipIdx_append,Nat.min_eq_left (Nat.le_of_lt hk)]
theorem aDX (q:Q5):1≤pF_ q∧pF_ q≤5:=by
 unfold pF_
 split <;> omega
theorem qL_ (q:Q5) (i:Nat):bS_ (sh5 q i).kind (sh5 q i).word.data.toList=true:=by
 show bS_ (pF_ q) (aCR q).data.toList=true
 have hk:=aDX q
 unfold aCR bS_
 by_cases h:pF_ q=4
 ·rw[if_pos h,if_pos h]
  have h5:=aV_ q.b (n:=5) (by decide)
  generalize aI_ q.b 5=p at *
  match p,h5 with
  | 0,_=>decide
  | 1,_=>decide
  | 2,_=>decide
  | 3,_=>decide
  | 4,_=>decide
 ·rw[if_neg h,if_neg h]
  simp[hk]
theorem gL_ (q:Q5) (i:Nat):2000*(i:Int)+1+(i:Int)≤(sh5 q i).code∧(sh5 q i).code≤2000*(i:Int)+1001+(i:Int):=by
 have h:=aV_ (q.a.tdiv 9) (n:=2) (by decide)
 show _≤1000*(aI_ (q.a.tdiv 9) 2:Int)+2000*(i:Int)+1+(i:Int)∧1000*(aI_ (q.a.tdiv 9) 2:Int)+2000*(i:Int)+1+(i:Int)≤_
 omega
theorem lL_ (q:Q5) (i:Nat):vRc (sh5 q i).rect=true∧0≤(sh5 q i).rect.x∧(sh5 q i).rect.x≤350∧0≤(sh5 q i).rect.y∧(sh5 q i).rect.y≤350∧0≤(sh5 q i).rect.w∧(sh5 q i).rect.w≤350∧0≤(sh5 q i).rect.h∧(sh5 q i).rect.h≤350:=by
 have h1:=aV_ q.b (n:=8) (by decide)
 have h2:=aV_ q.c (n:=8) (by decide)
 have h3:=aV_ q.d (n:=8) (by decide)
 have h4:=aV_ q.e (n:=8) (by decide)
 have e:(sh5 q i).rect=⟨50*(aI_ q.b 8:Nat),50*(aI_ q.c 8:Nat),50*(aI_ q.d 8:Nat),50*(aI_ q.e 8:Nat)⟩:=rfl
 rw[e]
 simp only[vRc,vP,Bool.and_eq_true,decide_eq_true_eq]
 omega
theorem xW_ {p:Option Int} : ∀{l:List Sh},(∀s∈l,aN_ s.code=true∧vRc s.rect=true)→l.Pairwise (fun a b=>a.code<b.code)→(∀c s,p=some c→s∈l.head?→c<s.code)→ascB p l=true
 | [],_,_,_=>rfl
 | s::l,h1,h2,h3=>by
  obtain⟨h4,h5⟩:=List.pairwise_cons.1 h2
  unfold ascB
  rw[(h1 s List.mem_cons_self).1,(h1 s List.mem_cons_self).2,xW_ (p:=some s.code) (fun x hx=>h1 x (List.mem_cons_of_mem _ hx)) h5 (fun c x hc hx=>by cases hc;exact h4 x (List.mem_of_mem_head? hx))]
  unfold oP_
  cases p with
  | none=>rfl
  | some c=>have:=h3 c s rfl rfl;simp[this]
theorem hW_ (xs:List Q5) (k:Nat):(shs5 xs k).Pairwise (fun a b=>a.code<b.code):=by
 rw[List.pairwise_iff_getElem]
 intro i j hi hj hij
 obtain⟨h1,q,hq,e1⟩:=oW_.1 (List.getElem?_eq_getElem hi)
 obtain⟨h2,r,hr,e2⟩:=oW_.1 (List.getElem?_eq_getElem hj)
 rw[e1,e2]
 have:=gL_ q i
 have:=gL_ r j
 omega
theorem gJ_ {xs:List Q5} {k:Nat} {s:Sh} (h:s∈shs5 xs k):∃i q,i<k∧s=sh5 q i:=by
 obtain⟨i,hi,e⟩:=List.mem_iff_getElem.1 h
 obtain⟨h1,q,hq,e1⟩:=oW_.1 (List.getElem?_eq_getElem hi)
 exact⟨i,q,h1,by rw[←e,e1]⟩
theorem gC_ {l:List Sh} (h:l.Pairwise (fun a b=>a.code<b.code)):Dist l:=by
 unfold Dist
 rw[List.pairwise_iff_getElem] at *
 intro i j hi hj hij
 have:=h i j hi hj hij
 omega
theorem qT_ {l:List Sh} (hl:l.length≤60) (h:∀s∈l,aN_ s.code=true∧vRc s.rect=true∧bS_ s.kind s.word.data.toList=true) (ha:l.Pairwise (fun a b=>a.code<b.code)):bI_ l=true:=by
 unfold bI_ gS_
 rw[xW_ (fun s hs=>⟨(h s hs).1,(h s hs).2.1⟩) ha (fun c s hc=>by cases hc),decide_eq_true hl]
 simp only[Bool.and_self,Bool.true_and,Bool.not_eq_true',List.any_eq_false]
 intro s hs
 rw[(h s hs).2.2]
 simp
theorem nF_ (xs:List Q5) {k:Nat} (hk:k≤9):bI_ (shs5 xs k)=true:=by
 refine qT_ (by rw[gK_];omega) (fun s hs=>?_) (hW_ xs k)
 obtain⟨i,q,hi,rfl⟩:=gJ_ hs
 refine⟨?_,(lL_ q i).1,qL_ q i⟩
 have:=gL_ q i
 unfold aN_
 rw[Bool.and_eq_true,decide_eq_true_eq,decide_eq_true_eq]
 omega
theorem nG_ (xs:List Q5) (k:Nat):Dist (shs5 xs k):=gC_ (hW_ xs k)
def inI (x:Int):Prop:=-9223372036854775808≤x∧x≤9223372036854775807
theorem aCV {x:Int} (h:inI x):inI (x.tdiv 9):=by
 have e:(x.tdiv 9).natAbs=x.natAbs/9:=by rw[Int.natAbs_tdiv];rfl
 unfold inI at *
 omega
structure X5At (a:Option Addr) (xs:List Q5) (W:World):Prop where
 row:∀(k:Nat) (x:Q5),xs[k]?=some x→∃b o:Nat,a=some ⟨b,o,none⟩∧b<W.heap.size∧W.cell? ⟨b,o+k*5,none⟩=some (.int .i64 x.a)∧W.cell? ⟨b,o+k*5+1,none⟩=some (.int .i64 x.b)∧W.cell? ⟨b,o+k*5+2,none⟩=some (.int .i64 x.c)∧W.cell? ⟨b,o+k*5+3,none⟩=some (.int .i64 x.d)∧W.cell? ⟨b,o+k*5+4,none⟩=some (.int .i64 x.e)
 lo:∀x∈xs,inI x.a∧inI x.b∧inI x.c∧inI x.d∧inI x.e
theorem X5At.below {a:Option Addr} {xs:List Q5} {W W':World} (h:X5At a xs W) (hb:Below W.heap.size W W'):X5At a xs W':=
 ⟨fun k x hx=>by
  obtain⟨b,o,e,h1,h2,h3,h4,h5,h6⟩:=h.row k x hx
  exact⟨b,o,e,Nat.lt_of_lt_of_le h1 hb.size,(hb.cell (p:=⟨b,o+k*5,none⟩) h1).trans h2,(hb.cell (p:=⟨b,o+k*5+1,none⟩) h1).trans h3,(hb.cell (p:=⟨b,o+k*5+2,none⟩) h1).trans h4,(hb.cell (p:=⟨b,o+k*5+3,none⟩) h1).trans h5,(hb.cell (p:=⟨b,o+k*5+4,none⟩) h1).trans h6⟩,h.lo⟩
theorem iV_ {c:Int} : ∀{l:List Sh} {j:Nat},posO c l=some j→j<l.length∧(∃x,l[j]?=some x∧x.code=c)∧∀i x,i<j→l[i]?=some x→x.code≠c
 | [],j,h=>by cases h
 | x::l,j,h=>by
  unfold posO at h
  by_cases e:x.code=c
  ·rw[if_pos e] at h
   cases h
   exact⟨Nat.zero_lt_succ _,⟨x,rfl,e⟩,fun i y hi=>absurd hi (Nat.not_lt_zero _)⟩
  ·rw[if_neg e] at h
   cases hp:posO c l with
   | none=>rw[hp] at h;cases h
   | some k=>
    rw[hp] at h
    cases h
    obtain⟨h1,⟨y,h2,h3⟩,h4⟩:=iV_ hp
    refine⟨Nat.succ_lt_succ h1,⟨y,h2,h3⟩,fun i z hi hz=>?_⟩
    cases i with
    | zero=>cases hz;exact e
    | succ i=>exact h4 i z (Nat.lt_of_succ_lt_succ hi) hz
theorem xM_ {l la rest:List Sh} {t:Sh} (h:chkO l la (t::rest)=true):∃d,jW_ l la t=some d∧(∀b,la[d]?=some b→befB t b=false)∧chkO l (la.take d++[t]) rest=true:=by
 unfold chkO at h
 cases hd:jW_ l la t with
 | none=>rw[hd] at h;cases h
 | some d=>
  rw[hd] at h
  simp only[Bool.and_eq_true] at h
  refine⟨d,rfl,fun b hb=>?_,h.2⟩
  have:=h.1
  rw[hb] at this
  simpa using this
theorem kV_ {l la:List Sh} {t:Sh} {d:Nat} (hp:parK l t=none) (h:jW_ l la t=some d):d=0:=by
 unfold jW_ at h
 rw[hp] at h
 cases h
 rfl
theorem kU_ {l la:List Sh} {t p:Sh} {d:Nat} (hp:parK l t=some p) (h:jW_ l la t=some d):∃j,posO p.code la=some j∧d=j+1:=by
 unfold jW_ at h
 rw[hp] at h
 simp only at h
 cases e:posO p.code la with
 | none=>rw[e] at h;cases h
 | some j=>rw[e] at h;cases h;exact⟨j,rfl,rfl⟩
theorem aBF {l la:List Sh} {t:Sh} {d:Nat} (h:jW_ l la t=some d):d≤la.length:=by
 cases hp:parK l t with
 | none=>rw[kV_ hp h];exact Nat.zero_le _
 | some p=>
  obtain⟨j,h1,rfl⟩:=kU_ hp h
  exact(iV_ h1).1
theorem pM_ {l:List Sh} (h:Dist l) {i j:Nat} {a b:Sh} (ha:l[i]?=some a) (hb:l[j]?=some b) (e:a.code=b.code):i=j:=by
 unfold Dist at h
 rw[List.pairwise_iff_getElem] at h
 obtain⟨h1,e1⟩:=List.getElem?_eq_some_iff.1 ha
 obtain⟨h2,e2⟩:=List.getElem?_eq_some_iff.1 hb
 rcases Nat.lt_trichotomy i j with hlt|he|hlt
 ·exact absurd (by rw[e1,e2,e]) (h i j h1 h2 hlt)
 ·exact he
 ·exact absurd (by rw[e1,e2,e]) (h j i h2 h1 hlt)
theorem rdx_len {l:List Sh} (H:Ld l):(rdx l 0).length=l.length:=H.rdx_perm.length_eq
theorem rdx_in {l:List Sh} (H:Ld l) {i:Nat} {t:Sh} (h:(rdx l 0)[i]?=some t):∃k:Nat,l[k]?=some t:=by
 have:=(H.rdx_perm.mem_iff).1 (List.mem_of_getElem? h)
 obtain⟨k,hk,e⟩:=List.mem_iff_getElem.1 this
 exact⟨k,by rw[List.getElem?_eq_getElem hk,e]⟩
theorem rX_ {l:List Sh} (hd:Dist l) (hl:bI_ l=true) {k:Nat} {t:Sh} (h:l[k]?=some t):eU_ l t.code=((orZ (parK l t)).code,(parK l t).isSome,0):=by
 have e:ixF (fun s=>s.code==t.code) l=(k:Int):=aCE h (fun j hj y hy=>by
  rw[beq_eq_false_iff_ne]
  intro e
  have:=pM_ hd hy h e
  omega) (by simp)
 unfold eU_
 rw[e,Int.toNat_natCast,h]
 simp only
 rw[if_pos ⟨by omega,hl⟩]
end Go.Proofs.YtdkaohphbgdkpaaGreatDoor
namespace Go.Proofs.YtdkaohphbgdkpaaGreatDoor
open Go.RowKit Go.Shelf Go.Sort
attribute [local go_sem] Oper.semAt_some
def aCP (ss:List Sh) (w:World) (e:Ending) (W':World):Prop:=∃a c,e=.returned (.slice a ss.length c)∧OsAt 30 11 (.slice a ss.length c) ss.length (ssC ss) [] w W'
theorem rS_ {a:Option Addr} {n c:Nat} {xs:List Q5} (hl:xs.length=n) (w:World) (h:X5At a xs w) :
  Calls Tryz.prog 12 #[.slice a n c] w (aCP (shs5 xs (min n 9)) w):=by
 have hmx:Tryz.prog.follows .mixedOrders=true:=by kernel_rfl
 have HP:=Lib.hid h
 have HL:=Lib.hid hl
 have KK:=Lib.hid (fun(c:Int) (k:Nat) (h0:inI c) (h1:0<k) (h2:k≤4294967296) (W:World)=>hZ_ c k h0.1 h0.2 h1 h2 W)
 clear h hl
 go_enter Tryz.func12,Tryz.ntmps12
 go_wp2
 go_loopw [3,4] (fun v3 v4 wr=>∃i:Nat,i≤n∧i≤9∧v4=.int .i64 (i:Int)∧OsAt 30 11 v3 i (ssC (shs5 xs i)) [] w wr) (fun _ v4 _=>9-(intOf v4).toNat)
 case atStart=>exact⟨0,Nat.zero_le _,Nat.zero_le _,rfl,OsAt.nil (AzAt.start w) _ _⟩
 case round=>
  obtain⟨i,hi,hi9,rfl,ho⟩:=hrel
  have HO:=Lib.hid ho
  clear ho
  by_cases hlt:i<n∧i<9
  case neg=>
   have HE:=Lib.hid (show i=(shs5 xs (min n 9)).length∧shs5 xs i=shs5 xs (min n 9) from by
    have e:i=min n 9:=by omega
    rw[e,gK_,HL.out]
    exact⟨by omega,rfl⟩)
   obtain⟨oa,oc,hoe,-⟩:=CsAt.own HO.out
   subst hoe
   have HQ:=Lib.hid (show aCP (shs5 xs (min n 9)) w (.returned (.slice oa i oc)) wr from by
    refine⟨oa,oc,by rw[←HE.out.1],?_⟩
    have h:=HO.out
    rw[HE.out.2] at h
    rw[←HE.out.1]
    exact h)
   clear HE
   by_cases hn:i<n
   ·have h9:i=9:=by omega
    subst h9
    have hn':(9:Int)<(n:Int):=by omega
    go_wp2
    go_ret
    exact HQ.out
   ·have hn':i=n:=by omega
    subst hn'
    go_wp2
    go_ret
    exact HQ.out
  obtain⟨hlt,hl9⟩:=hlt
  obtain⟨q,hq⟩:∃q,xs[i]?=some q:=⟨xs[i]'(by rw[HL.out];exact hlt),List.getElem?_eq_getElem _⟩
  obtain⟨b,o,rfl,hbl,c0',c1',c2',c3',c4'⟩:=HP.out.row i q hq
  have hlo:=HP.out.lo q (List.mem_of_getElem? hq)
  have HQ5:=Lib.hid (show shs5 xs (i+1)=shs5 xs i++[sh5 q i] from uG_ hq)
  obtain⟨qa,qb,qc,qd,qe⟩:=q
  simp only at c0' c1' c2' c3' c4' hlo
  have HBL:=Lib.hid (And.intro hbl (And.intro c0' (And.intro c1' (And.intro c2' (And.intro c3' c4')))))
  have hqd:inI (qa.tdiv 9):=aCV hlo.1
  have K1:=Lib.hid (show ∀W:World,Calls Tryz.prog 32 #[.int .i64 (qa.tdiv 9),.int .i64 2] W fun e W'=>e=.returned (.int .i64 (aI_ (qa.tdiv 9) 2:Nat))∧Below W.heap.size W W' from fun W=>KK.out (qa.tdiv 9) 2 hqd (by decide) (by decide) W)
  have K2:=Lib.hid (show ∀W:World,Calls Tryz.prog 32 #[.int .i64 qa,.int .i64 9] W fun e W'=>e=.returned (.int .i64 (aI_ qa 9:Nat))∧Below W.heap.size W W' from fun W=>KK.out qa 9 hlo.1 (by decide) (by decide) W)
  have K3:=Lib.hid (show ∀W:World,Calls Tryz.prog 32 #[.int .i64 qb,.int .i64 5] W fun e W'=>e=.returned (.int .i64 (aI_ qb 5:Nat))∧Below W.heap.size W W' from fun W=>KK.out qb 5 hlo.2.1 (by decide) (by decide) W)
  have K4:=Lib.hid (show ∀W:World,Calls Tryz.prog 32 #[.int .i64 qb,.int .i64 8] W fun e W'=>e=.returned (.int .i64 (aI_ qb 8:Nat))∧Below W.heap.size W W' from fun W=>KK.out qb 8 hlo.2.1 (by decide) (by decide) W)
  have K5:=Lib.hid (show ∀W:World,Calls Tryz.prog 32 #[.int .i64 qc,.int .i64 8] W fun e W'=>e=.returned (.int .i64 (aI_ qc 8:Nat))∧Below W.heap.size W W' from fun W=>KK.out qc 8 hlo.2.2.1 (by decide) (by decide) W)
  have K6:=Lib.hid (show ∀W:World,Calls Tryz.prog 32 #[.int .i64 qd,.int .i64 8] W fun e W'=>e=.returned (.int .i64 (aI_ qd 8:Nat))∧Below W.heap.size W W' from fun W=>KK.out qd 8 hlo.2.2.2.1 (by decide) (by decide) W)
  have K7:=Lib.hid (show ∀W:World,Calls Tryz.prog 32 #[.int .i64 qe,.int .i64 8] W fun e W'=>e=.returned (.int .i64 (aI_ qe 8:Nat))∧Below W.heap.size W W' from fun W=>KK.out qe 8 hlo.2.2.2.2 (by decide) (by decide) W)
  have hk1:=aV_ (qa.tdiv 9) (n:=2) (by decide)
  have hk2:=aV_ qa (n:=9) (by decide)
  have hk3:=aV_ qb (n:=5) (by decide)
  have hk4:=aV_ qb (n:=8) (by decide)
  have hk5:=aV_ qc (n:=8) (by decide)
  have hk6:=aV_ qd (n:=8) (by decide)
  have hk7:=aV_ qe (n:=8) (by decide)
  have HSN:=Lib.hid (show shC (sh5 ⟨qa,qb,qc,qd,qe⟩ i)=[.int .i64 (1000*(aI_ (qa.tdiv 9) 2:Nat)+2000*(i:Int)+1+(i:Int)),.int .i64 (if aI_ qa 9<5 then 1+(aI_ qa 9:Nat) else 2),.int .i64 (50*(aI_ qb 8:Nat)),.int .i64 (50*(aI_ qc 8:Nat)),.int .i64 (50*(aI_ qd 8:Nat)),.int .i64 (50*(aI_ qe 8:Nat)),.int .i64 0,.int .i64 0,.int .i64 0,.int .i64 0,.string (if (if aI_ qa 9<5 then 1+(aI_ qa 9:Int) else 2)=4 then letS (aI_ qb 5) else ⟨#[]⟩)] from rfl)
  generalize aI_ (qa.tdiv 9) 2=m1 at *
  generalize aI_ qa 9=m2 at *
  generalize aI_ qb 5=m3 at *
  generalize aI_ qb 8=m4 at *
  generalize aI_ qc 8=m5 at *
  generalize aI_ qd 8=m6 at *
  generalize aI_ qe 8=m7 at *
  have g0:IntKind.i64.wrap (qa.tdiv 9)=qa.tdiv 9:=IntWalk.i64_in _ hqd
  have i1:(0:Int)≤(i:Int):=by omega
  have i2:(i:Int)<(n:Int):=by omega
  have i3:(i:Int)<9:=by omega
  have z0:=(HO.out.az.bw.cell (p:=⟨b,o+i*5,none⟩) hbl).trans c0'
  clear c0' c1' c2' c3' c4' hbl hlo hq hqd KK HL
  have g1:IntKind.i64.wrap (1000*(m1:Int))=1000*(m1:Int):=IntWalk.i64_in _ (by omega)
  have g2:IntKind.i64.wrap (2000*(i:Int))=2000*(i:Int):=IntWalk.i64_in _ (by omega)
  have g3:IntKind.i64.wrap (1000*(m1:Int)+2000*(i:Int))=1000*(m1:Int)+2000*(i:Int):=IntWalk.i64_in _ (by omega)
  have g4:IntKind.i64.wrap (1000*(m1:Int)+2000*(i:Int)+1)=1000*(m1:Int)+2000*(i:Int)+1:=IntWalk.i64_in _ (by omega)
  have g5:IntKind.i64.wrap (1000*(m1:Int)+2000*(i:Int)+1+(i:Int))=1000*(m1:Int)+2000*(i:Int)+1+(i:Int):=IntWalk.i64_in _ (by omega)
  have g6:IntKind.i64.wrap (1+(m2:Int))=1+(m2:Int):=IntWalk.i64_in _ (by omega)
  obtain⟨ql,hql⟩:∃ql,ql=decide (m2<5):=⟨_,rfl⟩
  have t1:decide (m2<5)=ql:=hql.symm
  have HQL:=Lib.hid hql
  clear hql
  go_upto_if 37 with (first
   | (have _:=H1;go_at_call 32;(with_reducible refine(K2.out _).mono ?_);rintro e u2 ⟨rfl,hb2⟩;have H2:=Lib.hid (H1.out.below hb2);clear hb2)
   | (go_at_call 32;(with_reducible refine(K1.out _).mono ?_);rintro e u1 ⟨rfl,hb1⟩;have HS1:=Lib.hid (HO.out.below hb1).az.bw.size;have H1:=Lib.hid ((HO.out.below hb1).push [.int .i64 (1000*(m1:Int)+2000*(i:Int)+1+(i:Int)),.int .i64 2,.int .i64 0,.int .i64 0,.int .i64 0,.int .i64 0,.int .i64 0,.int .i64 0,.int .i64 0,.int .i64 0,.string ⟨#[]⟩] 30);have z1:=(H1.out.az.bw.cell (p:=⟨b,o+i*5,none⟩) HBL.out.1).trans HBL.out.2.1;clear hb1)
   | fail)
  obtain⟨B,hB⟩:∃B,B=u1.heap.size:=⟨_,rfl⟩
  rw[←hB] at H2⊢
  have HB:=Lib.hid (show w.heap.size≤B from by rw[hB];exact HS1.out)
  rw[show decide ((m2:Int)<5)=ql from(decide_eq_decide.2 (by omega)).trans t1]
  clear hB t1 H1
  go_cut [] from 38 to 45 (fun wX=>∃kd:Int,Hid (kd=if m2<5 then 1+(m2:Int) else 2)∧OsAt 30 11 u3 i (ssC (shs5 xs i)) [(B,[.int .i64 (1000*(m1:Int)+2000*(i:Int)+1+(i:Int)),.int .i64 kd,.int .i64 0,.int .i64 0,.int .i64 0,.int .i64 0,.int .i64 0,.int .i64 0,.int .i64 0,.int .i64 0,.string ⟨#[]⟩])] w wX)
  case first=>
   cases ql with
   | false=>
    go_wp2
    go_meet
    exact⟨2,Lib.hid (by rw[if_neg (of_decide_eq_false HQL.out.symm)]),H2.out⟩
   | true=>
    have x1:=H2.out.az.ce 0 1 rfl rfl
    have y1:=(H2.out.az.bw.cell (p:=⟨b,o+i*5,none⟩) HBL.out.1).trans HBL.out.2.1
    go_wp2_with (first
     | (go_at_call 32;(with_reducible refine(K2.out _).mono ?_);rintro e u4 ⟨rfl,hb4⟩;have H4:=Lib.hid (H2.out.below hb4);have x1:=H4.out.az.ce 0 1 rfl rfl;have f1:=H4.out.az.cf 0 1 rfl rfl;clear hb4)
     | fail)
    go_meet
    exact⟨1+(m2:Int),Lib.hid (by rw[if_pos (of_decide_eq_true HQL.out.symm)]),H4.out.set HB.out (fun _ hz=>by cases hz) (i:=1) rfl (.int .i64 (1+(m2:Int)))⟩
  case rest=>
  obtain⟨kd,HKD,h5⟩:=hcut
  have H5:=Lib.hid h5
  have x1:=H5.out.az.ce 0 1 rfl rfl
  obtain⟨q4,hq4⟩:∃q4,q4=(kd==4):=⟨_,rfl⟩
  have t2:(kd==4)=q4:=hq4.symm
  have HQ4:=Lib.hid hq4
  clear hq4 h5 H2
  go_upto_if 48 with fail
  clear t2 x1
  go_cut [] from 49 to 63 (fun wX=>∃wd:ByteArray,Hid (wd=if kd=4 then letS m3 else ⟨#[]⟩)∧OsAt 30 11 u3 i (ssC (shs5 xs i)) [(B,[.int .i64 (1000*(m1:Int)+2000*(i:Int)+1+(i:Int)),.int .i64 kd,.int .i64 0,.int .i64 0,.int .i64 0,.int .i64 0,.int .i64 0,.int .i64 0,.int .i64 0,.int .i64 0,.string wd])] w wX)
  case first=>
   cases q4 with
   | false=>
    go_wp2
    go_meet
    exact⟨⟨#[]⟩,Lib.hid (by rw[if_neg (by have:=HQ4.out;intro h;rw[h] at this;cases this)]),H5.out⟩
   | true=>
    go_upto_region 9 with fail
    refine bW_ (A:=?fr9) 13 hmx (by kernel_rfl) ?h9 ?ht9
    case h9=>
     intro U hU
     have hp:=H5.out.below hU
     have y1:=cell_regrown ((hp.az.bw.cell (p:=⟨b,o+i*5+1,none⟩) HBL.out.1).trans HBL.out.2.2.1)
     have cc3:=fun d os=>Calls.regrown_of (d:=d) (os:=os) (K3.out (grow (redrawn U d) os))
     clear hp
     simp only[List.take_succ_cons,List.take_zero]
     repeat (go_big_quiet_step (with_reducible first|exact cc3 _ _))
     refine wpQuiet_nil ?_
     rfl
    case ht9=>
     intro W7 hW7
     have H7:=Lib.hid (H5.out.below hW7)
     clear hW7 H5
     simp only[List.drop_succ_cons,List.drop_zero]
     have z10:=H7.out.az.ce 0 10 rfl rfl
     have f10:=H7.out.az.cf 0 10 rfl rfl
     go_wp2
     go_meet
     exact⟨letS m3,Lib.hid (by rw[if_pos (by have:=HQ4.out;exact eq_of_beq this.symm)]),by
      have e:(⟨#[76,78,86,88,90]⟩:ByteArray).extract m3 (m3+1)=letS m3:=by
       match m3,hk3 with
       | 0,_=>decide
       | 1,_=>decide
       | 2,_=>decide
       | 3,_=>decide
       | 4,_=>decide
      rw[e]
      exact H7.out.set HB.out (fun _ hz=>by cases hz) (i:=10) rfl (.string (letS m3))⟩
  case rest=>
  obtain⟨wd,HWD,h6⟩:=hcut
  have H6:=Lib.hid h6
  clear h6 H5
  have j4:IntKind.i64.wrap (50*(m4:Int))=50*(m4:Int):=IntWalk.i64_in _ (by omega)
  have j5:IntKind.i64.wrap (50*(m5:Int))=50*(m5:Int):=IntWalk.i64_in _ (by omega)
  have j6:IntKind.i64.wrap (50*(m6:Int))=50*(m6:Int):=IntWalk.i64_in _ (by omega)
  have j7:IntKind.i64.wrap (50*(m7:Int))=50*(m7:Int):=IntWalk.i64_in _ (by omega)
  go_upto_region 10 with fail
  refine bW_ (A:=?fr10) 28 hmx (by kernel_rfl) ?h10 ?ht10
  case h10=>
   intro U hU
   have hp:=H6.out.below hU
   have y1:=cell_regrown ((hp.az.bw.cell (p:=⟨b,o+i*5+1,none⟩) HBL.out.1).trans HBL.out.2.2.1)
   have y2:=cell_regrown ((hp.az.bw.cell (p:=⟨b,o+i*5+2,none⟩) HBL.out.1).trans HBL.out.2.2.2.1)
   have y3:=cell_regrown ((hp.az.bw.cell (p:=⟨b,o+i*5+3,none⟩) HBL.out.1).trans HBL.out.2.2.2.2.1)
   have y4:=cell_regrown ((hp.az.bw.cell (p:=⟨b,o+i*5+4,none⟩) HBL.out.1).trans HBL.out.2.2.2.2.2)
   have cc4:=fun d os=>Calls.regrown_of (d:=d) (os:=os) (K4.out (grow (redrawn U d) os))
   have cc5:=fun d os=>Calls.regrown_of (d:=d) (os:=os) (K5.out (grow (redrawn U d) os))
   have cc6:=fun d os=>Calls.regrown_of (d:=d) (os:=os) (K6.out (grow (redrawn U d) os))
   have cc7:=fun d os=>Calls.regrown_of (d:=d) (os:=os) (K7.out (grow (redrawn U d) os))
   clear hp
   simp only[List.take_succ_cons,List.take_zero]
   repeat (go_big_quiet_step (with_reducible first|exact cc4 _ _|exact cc5 _ _|exact cc6 _ _|exact cc7 _ _))
   refine wpQuiet_nil ?_
   rfl
  case ht10=>
   intro W8 hW8
   have H8:=Lib.hid (H6.out.below hW8)
   clear hW8 H6
   simp only[List.drop_succ_cons,List.drop_zero]
   have z2:=H8.out.az.ce 0 2 rfl rfl
   have z3:=H8.out.az.ce 0 3 rfl rfl
   have z4:=H8.out.az.ce 0 4 rfl rfl
   have z5:=H8.out.az.ce 0 5 rfl rfl
   have f2:=H8.out.az.cf 0 2 rfl rfl
   have f3:=H8.out.az.cf 0 3 rfl rfl
   have f4:=H8.out.az.cf 0 4 rfl rfl
   have f5:=H8.out.az.cf 0 5 rfl rfl
   go_upto_region 11 with fail
   have H9:=Lib.hid (show OsAt 30 11 u3 i (ssC (shs5 xs i)) [(B,[.int .i64 (1000*(m1:Int)+2000*(i:Int)+1+(i:Int)),.int .i64 kd,.int .i64 (50*(m4:Int)),.int .i64 (50*(m5:Int)),.int .i64 (50*(m6:Int)),.int .i64 (50*(m7:Int)),.int .i64 0,.int .i64 0,.int .i64 0,.int .i64 0,.string wd])] w ((((W8.setCell ⟨B,2,none⟩ (.int .i64 (50*(m4:Int)))).setCell ⟨B,3,none⟩ (.int .i64 (50*(m5:Int)))).setCell ⟨B,4,none⟩ (.int .i64 (50*(m6:Int)))).setCell ⟨B,5,none⟩ (.int .i64 (50*(m7:Int)))) from((((H8.out.set HB.out (fun _ hz=>by cases hz) (i:=2) rfl (.int .i64 (50*(m4:Int)))).set HB.out (fun _ hz=>by cases hz) (i:=3) rfl (.int .i64 (50*(m5:Int)))).set HB.out (fun _ hz=>by cases hz) (i:=4) rfl (.int .i64 (50*(m6:Int)))).set HB.out (fun _ hz=>by cases hz) (i:=5) rfl (.int .i64 (50*(m7:Int)))))
   obtain⟨W9,hW9⟩:∃V,V=((((W8.setCell ⟨B,2,none⟩ (.int .i64 (50*(m4:Int)))).setCell ⟨B,3,none⟩ (.int .i64 (50*(m5:Int)))).setCell ⟨B,4,none⟩ (.int .i64 (50*(m6:Int)))).setCell ⟨B,5,none⟩ (.int .i64 (50*(m7:Int)))):=⟨_,rfl⟩
   rw[←hW9] at H9⊢
   clear hW9 H8 z2 z3 z4 z5 f2 f3 f4 f5
   have HZ:=Lib.hid (show[.int .i64 (1000*(m1:Int)+2000*(i:Int)+1+(i:Int)),.int .i64 kd,.int .i64 (50*(m4:Int)),.int .i64 (50*(m5:Int)),.int .i64 (50*(m6:Int)),.int .i64 (50*(m7:Int)),.int .i64 0,.int .i64 0,.int .i64 0,.int .i64 0,.string wd]=shC (sh5 ⟨qa,qb,qc,qd,qe⟩ i) from by rw[HSN.out,HWD.out,HKD.out])
   have z0:=H9.out.az.ce 0 0 rfl rfl
   have z1:=H9.out.az.ce 0 1 rfl rfl
   have z2:=H9.out.az.ce 0 2 rfl rfl
   have z3:=H9.out.az.ce 0 3 rfl rfl
   have z4:=H9.out.az.ce 0 4 rfl rfl
   have z5:=H9.out.az.ce 0 5 rfl rfl
   have z6:=H9.out.az.ce 0 6 rfl rfl
   have z7:=H9.out.az.ce 0 7 rfl rfl
   have z8:=H9.out.az.ce 0 8 rfl rfl
   have z9:=H9.out.az.ce 0 9 rfl rfl
   have z10:=H9.out.az.ce 0 10 rfl rfl
   have HA:=Lib.hid (MoAt.of_os (H9.out.push [.int .i64 (1000*(m1:Int)+2000*(i:Int)+1+(i:Int)),.int .i64 kd,.int .i64 (50*(m4:Int)),.int .i64 (50*(m5:Int)),.int .i64 (50*(m6:Int)),.int .i64 (50*(m7:Int)),.int .i64 0,.int .i64 0,.int .i64 0,.int .i64 0,.string wd] 30))
   go_wp2_with (at_builtin;refine iL_ rfl _ _ rfl HA.out (sh5 ⟨qa,qb,qc,qd,qe⟩ i) W9.heap.size 1 (by rw[HZ.out];exact List.mem_cons_self) (by omega) rfl rfl ?_;intro b9 c9 w9 h9;have HJ:=Lib.hid h9;clear h9)
   exact⟨⟨i+1,by omega,by omega,by go_num,by rw[HQ5.out];exact(HJ.out.os List.mem_cons_self).sub (by simp)⟩,by simp only[intOf];omega⟩
end Go.Proofs.YtdkaohphbgdkpaaGreatDoor
