/- - -/
import Derived.Deep.QuietTactic
import Derived.BigQuiet
import Derived.Test.YtjfdefglpoancaaGreatDoorZBack
import Derived.Test.YtjfdefglpoancaaGreatDoorZRef
set_option maxHeartbeats 40000000
set_option maxRecDepth 1000000
open Go.Lib (hid)
namespace Go.Proofs.YtjfdefglpoancaaGreatDoor
open Go.RowKit Go.Shelf
attribute [local go_sem] Oper.semAt_some
abbrev Nr (w:World) (v:Value) (n:Nat) (lo hi:Nat):Prop:=Ns w v (dig 10 n) lo hi
def cF_ (n:Nat):Prop:=(dig 10 n).length≤100000
theorem Nr.form {w:World} {v:Value} {n lo hi:Nat} (h:Nr w v n lo hi):∃a cap,v=.slice a (dig 10 n).length cap:=by obtain⟨a,cap,e,_⟩:=h;exact⟨a,cap,e⟩
theorem eH_ {l:List Nat} {i:Nat} (h:i<l.length):l[i]'h=l[i]?.getD 0:=by rw[List.getElem?_eq_getElem h];rfl
theorem iL_ (v1 v2:Value) (n m:Nat) (lo1 hi1 lo2 hi2:Nat) (w:World) (h1:Nr w v1 n lo1 hi1) (h2:Nr w v2 m lo2 hi2) :
  Calls Tryz.prog 129 #[v1,v2] w fun e w'=>e=.returned (.int .i64 (cmpI n m))∧Still w w':=by
 obtain⟨a1,cap1,rfl⟩:=Nr.form h1
 obtain⟨a2,cap2,rfl⟩:=Nr.form h2
 have g1:=h1.len
 have g2:=h2.len
 unfold maxLen at g1 g2
 have H1:=hid h1
 have H2:=hid h2
 clear h1 h2
 by_cases hl:(dig 10 n).length=(dig 10 m).length
 ·have HL:=hid hl
  have hbn:(((dig 10 n).length:Int) != ((dig 10 m).length:Int))=false:=by rw[hl];simp
  obtain⟨L,hL⟩:∃L,L=(dig 10 n).length:=⟨_,rfl⟩
  rw[←hL] at hl g1 hbn
  rw[←hl] at hbn g2
  rw[←hL,←hl]
  have HLL:=hid hL
  have HL2:=hid hl
  clear hL hl
  go_enter Tryz.func129,Tryz.ntmps129
  go_wp2
  go_loopw [5] (fun i wr=>∃j q:Nat,j≤L∧i=.int .i64 ((L:Int)-1-j)∧(dig 10 n).drop (L-j)=(dig 10 m).drop (L-j)∧wr=w.drewN q) (fun i _=>(intOf i+1).toNat)
  case atStart=>exact⟨0,0,Nat.zero_le _,by go_num,by rw[List.drop_eq_nil_of_le (by rw[←HLL.out];omega),List.drop_eq_nil_of_le (by rw[←HL2.out];omega)],rfl⟩
  case round=>
   obtain⟨j,q,hj,rfl,hd,rfl⟩:=hrel
   have HD:=hid hd
   clear hd
   by_cases hjl:j=L
   ·subst hjl
    go_wp2
    go_ret
    have e:n=m:=by
     have:=HD.out
     rw[Nat.sub_self,List.drop_zero,List.drop_zero] at this
     exact tR_ (by omega) this
    exact⟨bT_ (by rw[e];simp[cmpI]),Still.drewN _ _⟩
   ·obtain⟨ix,hix⟩:∃ix,ix+j+1=L:=⟨L-1-j,by omega⟩
    have hie:(L:Int)-1-j=(ix:Int):=by omega
    rw[hie]
    have hi1:ix<(dig 10 n).length:=by rw[←HLL.out];omega
    have hi2:ix<(dig 10 m).length:=by rw[←HL2.out];omega
    obtain⟨b1,o1,rfl,_,_,hc1⟩:=H1.out.at (k:=ix) hi1
    obtain⟨b2,o2,rfl,_,_,hc2⟩:=H2.out.at (k:=ix) hi2
    rw[eH_ hi1] at hc1
    rw[eH_ hi2] at hc2
    have hof:=aFB (B:=10) (n:=n) (m:=m) (i:=ix) (by omega) HL.out hi1 (by have:=HD.out;rwa[show L-j=ix+1 from by omega] at this)
    have hds:=fun he=>aGV HL.out hi1 (by have:=HD.out;rwa[show L-j=ix+1 from by omega] at this) (he:(dig 10 n)[ix]?.getD 0=(dig 10 m)[ix]?.getD 0)
    have HOF:=hid hof
    have HDS:=hid hds
    clear hof hds hi1 hi2 hie
    generalize (dig 10 n)[ix]?.getD 0=x at hc1 HOF HDS
    generalize (dig 10 m)[ix]?.getD 0=y at hc2 HOF HDS
    have hix1:ix<L:=by omega
    rcases Nat.lt_trichotomy x y with hxy|hxy|hxy
    ·have hne:((x:Int) != (y:Int))=true:=by rw[bne_iff_ne];omega
     have hlt:decide ((x:Int)<(y:Int))=true:=decide_eq_true (by omega)
     go_wp2_with fail
     go_quiet (fail)
     go_wp2_with fail
     go_quiet (fail)
     go_wp2
     go_ret
     exact⟨bT_ (by rw[←HOF.out (by omega)];unfold cmpI;rw[if_pos (by omega)]),((Still.drewN _ _).trans (Still.drewN _ _)).trans (Still.drewN _ _)⟩
    ·subst hxy
     have HDS2:=hid (HDS.out rfl)
     clear HDS
     have hne:((x:Int) != (x:Int))=false:=by simp
     go_wp2_with fail
     go_quiet (fail)
     go_wp2
     refine⟨⟨j+1,_,by omega,?_,?_,rfl⟩,?_⟩
     ·exact congrArg _ (by omega)
     ·rw[show L-(j+1)=ix from by omega];exact HDS2.out
     ·simp only[intOf];omega
    ·have hne:((x:Int) != (y:Int))=true:=by rw[bne_iff_ne];omega
     have hlt:decide ((x:Int)<(y:Int))=false:=decide_eq_false (by omega)
     go_wp2_with fail
     go_quiet (fail)
     go_wp2_with fail
     go_quiet (fail)
     go_wp2
     go_ret
     exact⟨bT_ (by rw[←HOF.out (by omega)];unfold cmpI;rw[if_neg (by omega),if_pos (by omega)]),((Still.drewN _ _).trans (Still.drewN _ _)).trans (Still.drewN _ _)⟩
 ·rw[←rU_ (by omega) hl]
  have hb:(((dig 10 n).length:Int) != ((dig 10 m).length:Int))=true:=by rw[bne_iff_ne];omega
  rcases Nat.lt_or_gt_of_ne hl with h|h
  ·have hlt:decide (((dig 10 n).length:Nat)<(dig 10 m).length)=true:=decide_eq_true h
   go_enter Tryz.func129,Tryz.ntmps129
   go_wp2
   go_ret
   exact⟨bT_ (by unfold cmpI;rw[if_pos (by omega)]),Still.refl _⟩
  ·have hlt:decide (((dig 10 n).length:Nat)<(dig 10 m).length)=false:=decide_eq_false (by omega)
   go_enter Tryz.func129,Tryz.ntmps129
   go_wp2
   go_ret
   exact⟨bT_ (by unfold cmpI;rw[if_neg (by omega),if_pos (by omega)]),Still.refl _⟩
theorem bE_ {w:World} {B:Nat} {e:TypeId} {v:Value} {ds:List Nat} {d:Int} {x:Nat} (hx:d=(x:Int)) (h:w.ownsRow B e 1 v (ds.length+1) (ds.map (fun d:Nat=>Value.int .i64 (d:Int))++[Value.int .i64 d])) :
  w.ownsRow B e 1 v (ds++[x]).length ((ds++[x]).map fun d:Nat=>Value.int .i64 (d:Int)):=by
 subst hx
 simpa using h
theorem uR_ (v1 v2:Value) (n m:Nat) (lo1 hi1 lo2 hi2:Nat) (w:World) (h1:Nr w v1 n lo1 hi1) (h2:Nr w v2 m lo2 hi2) (b1:hi1≤w.heap.size) (b2:hi2≤w.heap.size) (l1:cF_ n) (l2:cF_ m) :
  Calls Tryz.prog 162 #[v1,v2] w fun e w'=>(∃v,e=.returned v∧Nr w' v (n+m) w.heap.size w'.heap.size)∧Below w.heap.size w w':=by
 obtain⟨i0,hi,hz0,hz1,hz2⟩:=info_parts fF_
 obtain⟨a1,cap1,rfl⟩:=Nr.form h1
 obtain⟨a2,cap2,rfl⟩:=Nr.form h2
 have H1:=hid h1
 have H2:=hid h2
 unfold cF_ at l1 l2
 clear h1 h2
 obtain⟨la,hla⟩:∃la,la=(dig 10 n).length:=⟨_,rfl⟩
 obtain⟨lb,hlb⟩:∃lb,lb=(dig 10 m).length:=⟨_,rfl⟩
 rw[←hla] at l1⊢
 rw[←hlb] at l2⊢
 have HLA:=hid hla
 have HLB:=hid hlb
 clear hla hlb
 go_enter Tryz.func162,Tryz.ntmps162
 go_wp2
 go_loopw [5,6,7] (fun out c i wr=>∃(k:Nat) (ds:List Nat) (cc:Nat),i=.int .i64 k∧c=.int .i64 (cc:Int)∧PlusAt n m k ds cc∧wr.ownsRow w.heap.size 3 1 out ds.length (ds.map fun d:Nat=>Value.int .i64 (d:Int))∧Below w.heap.size w wr)
  (fun _ _ i _=>la+lb+1-(intOf i).toNat)
 case atStart=>exact⟨0,[],0,rfl,rfl,PlusAt.start n m,World.ownsRow_nil _ _ _ _,Below.refl _ _⟩
 case round=>
  obtain⟨k,ds,cc,rfl,rfl,hf,hown,hb⟩:=hrel
  have hwr:=hb.size
  have hcc:=hf.chi
  have hkb:k≤la+lb+1:=by
   have e1:=HLA.out
   have e2:=HLB.out
   rcases hf.far with h|⟨_,h3,h4⟩
   ·omega
   ·have h5:¬la+lb+1<k:=by
     intro h5
     have g1:=(aD_ (B:=10) (by omega) n la).1 (by omega)
     have g2:=(aD_ (B:=10) (by omega) m lb).1 (by omega)
     have g3:10^la≤10^(la+lb):=Nat.pow_le_pow_right (by omega) (by omega)
     have g4:10^lb≤10^(la+lb):=Nat.pow_le_pow_right (by omega) (by omega)
     have g5:10^(la+lb+1)≤10^(k-1):=Nat.pow_le_pow_right (by omega) (by omega)
     rw[Nat.pow_succ] at g5
     omega
    omega
  have hds:ds.length=k:=hf.len
  rw[hds] at hown
  have HOW:=hid hown
  have HB:=hid hb
  have HF:=hid hf
  have hx9:=bD_ (B:=10) (by omega) n k
  have hy9:=bD_ (B:=10) (by omega) m k
  clear hown hf hds
  by_cases hka:k<la
  ·by_cases hkb2:k<lb
   ·obtain⟨bx1,o1,rfl,_,_,hc1⟩:=Ns.at (H1.out.below hb b1) (k:=k) (by rw[←HLA.out];omega)
    rw[eH_] at hc1
    have da:decide (k<la)=true:=decide_eq_true hka
    obtain⟨bx2,o2,rfl,_,_,hc2⟩:=Ns.at (H2.out.below hb b2) (k:=k) (by rw[←HLB.out];omega)
    rw[eH_] at hc2
    have db:decide (k<lb)=true:=decide_eq_true hkb2
    have hst:=fun hgo s hs=>HF.out.step hgo s hs
    obtain⟨x,hx⟩:∃x,x=(dig 10 n)[k]?.getD 0:=⟨_,rfl⟩
    obtain⟨y,hy⟩:∃y,y=(dig 10 m)[k]?.getD 0:=⟨_,rfl⟩
    rw[←hx] at hx9 hst
    rw[←hy] at hy9 hst
    rw[←hx] at hc1
    rw[←hy] at hc2
    have HST:=hid (hst (by rw[←HLA.out,←HLB.out];omega) (cc+x+y) rfl)
    have hsb:0≤(cc:Int)+(x:Int)+(y:Int)∧(cc:Int)+(x:Int)+(y:Int)≤19:=by omega
    clear hst hx hy hb
    go_wp2_with (at_builtin;refine wpList_append_own _ rfl _ _ 97 rfl w.heap.size 3 i0 (.int .i64 0) 1 8 Tryz.underlying97 hi hz0 hz1 hz2 rfl (by decide) u5 k _ rfl (HOW.out.alloc _) ⟨wr.heap.size,0,none⟩ 1 1 [.int .i64 (((cc:Int)+(x:Int)+(y:Int))%10)] rfl rfl (cell_one_new _ _ _) (by simp[Value.oneCell']) (by unfold maxLen;omega) (by omega) (by simp;omega) ?_;intro v' w3 hown' hgrow _)
    refine⟨⟨k+1,ds++[(cc+x+y)%10],(cc+x+y)/10,by go_num,congrArg _ (by omega),HST.out,bE_ (d:=((cc:Int)+(x:Int)+(y:Int))%10) (x:=(cc+x+y)%10) (by omega) (by rw[HF.out.len];exact hown'),(HB.out.alloc hwr _).grown hgrow (by simp;omega) (fun g e=>(HOW.out.lt g e).1)⟩,?_⟩
    simp only[intOf];omega
   ·obtain⟨bx1,o1,rfl,_,_,hc1⟩:=Ns.at (H1.out.below hb b1) (k:=k) (by rw[←HLA.out];omega)
    rw[eH_] at hc1
    have da:decide (k<la)=true:=decide_eq_true hka
    have db:decide (k<lb)=false:=decide_eq_false hkb2
    have hyz:(dig 10 m)[k]?.getD 0=0:=by rw[List.getElem?_eq_none (by rw[←HLB.out];omega)];rfl
    have hst:=fun hgo s hs=>HF.out.step hgo s hs
    obtain⟨x,hx⟩:∃x,x=(dig 10 n)[k]?.getD 0:=⟨_,rfl⟩
    obtain⟨y,hy⟩:∃y,y=(dig 10 m)[k]?.getD 0:=⟨_,rfl⟩
    rw[←hx] at hx9 hst
    rw[←hy] at hy9 hst
    rw[←hx] at hc1
    rw[←hy] at hyz
    subst hyz
    have HST:=hid (hst (by rw[←HLA.out,←HLB.out];omega) (cc+x+0) rfl)
    have hsb:0≤(cc:Int)+(x:Int)∧(cc:Int)+(x:Int)≤19:=by omega
    clear hst hx hy hb
    go_wp2_with (at_builtin;refine wpList_append_own _ rfl _ _ 97 rfl w.heap.size 3 i0 (.int .i64 0) 1 8 Tryz.underlying97 hi hz0 hz1 hz2 rfl (by decide) u5 k _ rfl (HOW.out.alloc _) ⟨wr.heap.size,0,none⟩ 1 1 [.int .i64 (((cc:Int)+(x:Int))%10)] rfl rfl (cell_one_new _ _ _) (by simp[Value.oneCell']) (by unfold maxLen;omega) (by omega) (by simp;omega) ?_;intro v' w3 hown' hgrow _)
    refine⟨⟨k+1,ds++[(cc+x+0)%10],(cc+x+0)/10,by go_num,congrArg _ (by omega),HST.out,bE_ (d:=((cc:Int)+(x:Int))%10) (x:=(cc+x+0)%10) (by omega) (by rw[HF.out.len];exact hown'),(HB.out.alloc hwr _).grown hgrow (by simp;omega) (fun g e=>(HOW.out.lt g e).1)⟩,?_⟩
    simp only[intOf];omega
  ·by_cases hkb2:k<lb
   ·have da:decide (k<la)=false:=decide_eq_false hka
    have hxz:(dig 10 n)[k]?.getD 0=0:=by rw[List.getElem?_eq_none (by rw[←HLA.out];omega)];rfl
    obtain⟨bx2,o2,rfl,_,_,hc2⟩:=Ns.at (H2.out.below hb b2) (k:=k) (by rw[←HLB.out];omega)
    rw[eH_] at hc2
    have db:decide (k<lb)=true:=decide_eq_true hkb2
    have hst:=fun hgo s hs=>HF.out.step hgo s hs
    obtain⟨x,hx⟩:∃x,x=(dig 10 n)[k]?.getD 0:=⟨_,rfl⟩
    obtain⟨y,hy⟩:∃y,y=(dig 10 m)[k]?.getD 0:=⟨_,rfl⟩
    rw[←hx] at hx9 hst
    rw[←hy] at hy9 hst
    rw[←hx] at hxz
    subst hxz
    rw[←hy] at hc2
    have HST:=hid (hst (by rw[←HLA.out,←HLB.out];omega) (cc+0+y) rfl)
    have hsb:0≤(cc:Int)+(y:Int)∧(cc:Int)+(y:Int)≤19:=by omega
    clear hst hx hy hb
    go_wp2_with (at_builtin;refine wpList_append_own _ rfl _ _ 97 rfl w.heap.size 3 i0 (.int .i64 0) 1 8 Tryz.underlying97 hi hz0 hz1 hz2 rfl (by decide) u5 k _ rfl (HOW.out.alloc _) ⟨wr.heap.size,0,none⟩ 1 1 [.int .i64 (((cc:Int)+(y:Int))%10)] rfl rfl (cell_one_new _ _ _) (by simp[Value.oneCell']) (by unfold maxLen;omega) (by omega) (by simp;omega) ?_;intro v' w3 hown' hgrow _)
    refine⟨⟨k+1,ds++[(cc+0+y)%10],(cc+0+y)/10,by go_num,congrArg _ (by omega),HST.out,bE_ (d:=((cc:Int)+(y:Int))%10) (x:=(cc+0+y)%10) (by omega) (by rw[HF.out.len];exact hown'),(HB.out.alloc hwr _).grown hgrow (by simp;omega) (fun g e=>(HOW.out.lt g e).1)⟩,?_⟩
    simp only[intOf];omega
   ·rcases Nat.eq_zero_or_pos cc with hc0|hc0
    ·subst hc0
     have da:decide (k<la)=false:=decide_eq_false hka
     have db:decide (k<lb)=false:=decide_eq_false hkb2
     have hdone:=HF.out.done (by rw[←HLA.out];omega) (by rw[←HLB.out];omega)
     have HD:=hid hdone
     clear hdone hx9 hy9
     go_wp2
     go_ret
     exact⟨⟨u5,rfl,by show Ns wr u5 (dig 10 (n+m)) _ _;rw[←HD.out];exact Sl.of_owns (by rw[HF.out.len];exact HOW.out)⟩,hb⟩
    ·have dc:decide (0<(cc:Int))=true:=decide_eq_true (by omega)
     have hk3:k≤la+lb:=by
      have e1:=HLA.out
      have e2:=HLB.out
      rcases HF.out.far with h|⟨h,_⟩ <;> omega
     have da:decide (k<la)=false:=decide_eq_false hka
     have hxz:(dig 10 n)[k]?.getD 0=0:=by rw[List.getElem?_eq_none (by rw[←HLA.out];omega)];rfl
     have db:decide (k<lb)=false:=decide_eq_false hkb2
     have hyz:(dig 10 m)[k]?.getD 0=0:=by rw[List.getElem?_eq_none (by rw[←HLB.out];omega)];rfl
     have hst:=fun hgo s hs=>HF.out.step hgo s hs
     obtain⟨x,hx⟩:∃x,x=(dig 10 n)[k]?.getD 0:=⟨_,rfl⟩
     obtain⟨y,hy⟩:∃y,y=(dig 10 m)[k]?.getD 0:=⟨_,rfl⟩
     rw[←hx] at hx9 hst
     rw[←hy] at hy9 hst
     rw[←hx] at hxz
     subst hxz
     rw[←hy] at hyz
     subst hyz
     have HST:=hid (hst (by rw[←HLA.out,←HLB.out];omega) (cc+0+0) rfl)
     have hsb:0≤(cc:Int)∧(cc:Int)≤19:=by omega
     clear hst hx hy hb
     go_wp2_with (at_builtin;refine wpList_append_own _ rfl _ _ 97 rfl w.heap.size 3 i0 (.int .i64 0) 1 8 Tryz.underlying97 hi hz0 hz1 hz2 rfl (by decide) u5 k _ rfl (HOW.out.alloc _) ⟨wr.heap.size,0,none⟩ 1 1 [.int .i64 (((cc:Int))%10)] rfl rfl (cell_one_new _ _ _) (by simp[Value.oneCell']) (by unfold maxLen;omega) (by omega) (by simp;omega) ?_;intro v' w3 hown' hgrow _)
     refine⟨⟨k+1,ds++[(cc+0+0)%10],(cc+0+0)/10,by go_num,congrArg _ (by omega),HST.out,bE_ (d:=((cc:Int))%10) (x:=(cc+0+0)%10) (by omega) (by rw[HF.out.len];exact hown'),(HB.out.alloc hwr _).grown hgrow (by simp;omega) (fun g e=>(HOW.out.lt g e).1)⟩,?_⟩
     simp only[intOf];omega
theorem iM_ (v1 v2:Value) (n m:Nat) (lo1 hi1 lo2 hi2:Nat) (w:World) (h1:Nr w v1 n lo1 hi1) (h2:Nr w v2 m lo2 hi2) (b1:hi1≤w.heap.size) (b2:hi2≤w.heap.size) (l1:cF_ n) (_l2:cF_ m) (hle:m≤n) :
  Calls Tryz.prog 163 #[v1,v2] w fun e w'=>(∃v,e=.returned v∧Nr w' v (n-m) w.heap.size w'.heap.size)∧Below w.heap.size w w':=by
 obtain⟨i0,hi,hz0,hz1,hz2⟩:=info_parts fF_
 obtain⟨a1,cap1,rfl⟩:=Nr.form h1
 obtain⟨a2,cap2,rfl⟩:=Nr.form h2
 have H1:=hid h1
 have H2:=hid h2
 have HLE:=hid hle
 unfold cF_ at l1
 clear h1 h2 hle
 obtain⟨la,hla⟩:∃la,la=(dig 10 n).length:=⟨_,rfl⟩
 obtain⟨lb,hlb⟩:∃lb,lb=(dig 10 m).length:=⟨_,rfl⟩
 rw[←hla] at l1⊢
 rw[←hlb]
 have HLA:=hid hla
 have HLB:=hid hlb
 clear hla hlb
 go_enter Tryz.func163,Tryz.ntmps163
 go_wp2
 go_loopw [5,6,7] (fun out c i wr=>∃(k:Nat) (ds:List Nat) (cc:Nat),k≤la∧i=.int .i64 k∧c=.int .i64 (cc:Int)∧MinusAt n m k ds cc∧wr.ownsRow w.heap.size 3 1 out ds.length (ds.map fun d:Nat=>Value.int .i64 (d:Int))∧Below w.heap.size w wr)
  (fun _ _ i _=>la-(intOf i).toNat)
 case atStart=>exact⟨0,[],0,Nat.zero_le _,rfl,rfl,MinusAt.start n m,World.ownsRow_nil _ _ _ _,Below.refl _ _⟩
 case round=>
  obtain⟨k,ds,cc,hkl,rfl,rfl,hf,hown,hb⟩:=hrel
  have hwr:=hb.size
  have hcc:=hf.chi
  have hds:ds.length=k:=hf.len
  rw[hds] at hown
  have HOW:=hid hown
  have HB:=hid hb
  have HF:=hid hf
  have hx9:=bD_ (B:=10) (by omega) n k
  have hy9:=bD_ (B:=10) (by omega) m k
  clear hown hf hds
  by_cases hka:k<la
  ·by_cases hkb2:k<lb
   ·obtain⟨bx1,o1,rfl,_,_,hc1⟩:=Ns.at (H1.out.below hb b1) (k:=k) (by rw[←HLA.out];omega)
    rw[eH_] at hc1
    have da:decide (k<la)=true:=decide_eq_true hka
    obtain⟨bx2,o2,rfl,_,_,hc2⟩:=Ns.at (H2.out.below hb b2) (k:=k) (by rw[←HLB.out];omega)
    rw[eH_] at hc2
    have db:decide (k<lb)=true:=decide_eq_true hkb2
    have hst:=fun d c' hd hc' hs=>HF.out.step d c' hd hc' hs
    obtain⟨x,hx⟩:∃x,x=(dig 10 n)[k]?.getD 0:=⟨_,rfl⟩
    obtain⟨y,hy⟩:∃y,y=(dig 10 m)[k]?.getD 0:=⟨_,rfl⟩
    rw[←hx] at hx9 hst hc1
    rw[←hy] at hy9 hst
    rw[←hy] at hc2
    have HST:=hid hst
    clear hst hx hy hb
    rcases Int.lt_or_le ((x:Int)-(cc:Int)-(y:Int)) 0 with hs|hs
    ·go_wp2_with (at_builtin;refine wpList_append_own _ rfl _ _ 97 rfl w.heap.size 3 i0 (.int .i64 0) 1 8 Tryz.underlying97 hi hz0 hz1 hz2 rfl (by decide) u5 k _ rfl (HOW.out.alloc _) ⟨wr.heap.size,0,none⟩ 1 1 [.int .i64 ((x:Int)-(cc:Int)-(y:Int)+10)] rfl rfl (cell_one_new _ _ _) (by simp[Value.oneCell']) (by unfold maxLen;omega) (by omega) (by simp;omega) ?_;intro v' w3 hown' hgrow _)
     refine⟨⟨k+1,ds++[(x+10-cc-y)],1,by omega,by go_num,rfl,HST.out _ _ (by omega) (by omega) (by omega),bE_ (d:=(x:Int)-(cc:Int)-(y:Int)+10) (x:=(x+10-cc-y)) (by omega) (by rw[HF.out.len];exact hown'),(HB.out.alloc hwr _).grown hgrow (by simp;omega) (fun g e=>(HOW.out.lt g e).1)⟩,?_⟩
     simp only[intOf];omega
    ·go_wp2_with (at_builtin;refine wpList_append_own _ rfl _ _ 97 rfl w.heap.size 3 i0 (.int .i64 0) 1 8 Tryz.underlying97 hi hz0 hz1 hz2 rfl (by decide) u5 k _ rfl (HOW.out.alloc _) ⟨wr.heap.size,0,none⟩ 1 1 [.int .i64 ((x:Int)-(cc:Int)-(y:Int))] rfl rfl (cell_one_new _ _ _) (by simp[Value.oneCell']) (by unfold maxLen;omega) (by omega) (by simp;omega) ?_;intro v' w3 hown' hgrow _)
     refine⟨⟨k+1,ds++[(x-cc-y)],0,by omega,by go_num,rfl,HST.out _ _ (by omega) (by omega) (by omega),bE_ (d:=(x:Int)-(cc:Int)-(y:Int)) (x:=(x-cc-y)) (by omega) (by rw[HF.out.len];exact hown'),(HB.out.alloc hwr _).grown hgrow (by simp;omega) (fun g e=>(HOW.out.lt g e).1)⟩,?_⟩
     simp only[intOf];omega
   ·obtain⟨bx1,o1,rfl,_,_,hc1⟩:=Ns.at (H1.out.below hb b1) (k:=k) (by rw[←HLA.out];omega)
    rw[eH_] at hc1
    have da:decide (k<la)=true:=decide_eq_true hka
    have db:decide (k<lb)=false:=decide_eq_false hkb2
    have hyz:(dig 10 m)[k]?.getD 0=0:=by rw[List.getElem?_eq_none (by rw[←HLB.out];omega)];rfl
    have hst:=fun d c' hd hc' hs=>HF.out.step d c' hd hc' hs
    obtain⟨x,hx⟩:∃x,x=(dig 10 n)[k]?.getD 0:=⟨_,rfl⟩
    obtain⟨y,hy⟩:∃y,y=(dig 10 m)[k]?.getD 0:=⟨_,rfl⟩
    rw[←hx] at hx9 hst hc1
    rw[←hy] at hy9 hst
    rw[←hy] at hyz
    subst hyz
    have HST:=hid hst
    clear hst hx hy hb
    rcases Int.lt_or_le ((x:Int)-(cc:Int)) 0 with hs|hs
    ·go_wp2_with (at_builtin;refine wpList_append_own _ rfl _ _ 97 rfl w.heap.size 3 i0 (.int .i64 0) 1 8 Tryz.underlying97 hi hz0 hz1 hz2 rfl (by decide) u5 k _ rfl (HOW.out.alloc _) ⟨wr.heap.size,0,none⟩ 1 1 [.int .i64 ((x:Int)-(cc:Int)+10)] rfl rfl (cell_one_new _ _ _) (by simp[Value.oneCell']) (by unfold maxLen;omega) (by omega) (by simp;omega) ?_;intro v' w3 hown' hgrow _)
     refine⟨⟨k+1,ds++[(x+10-cc-0)],1,by omega,by go_num,rfl,HST.out _ _ (by omega) (by omega) (by omega),bE_ (d:=(x:Int)-(cc:Int)+10) (x:=(x+10-cc-0)) (by omega) (by rw[HF.out.len];exact hown'),(HB.out.alloc hwr _).grown hgrow (by simp;omega) (fun g e=>(HOW.out.lt g e).1)⟩,?_⟩
     simp only[intOf];omega
    ·go_wp2_with (at_builtin;refine wpList_append_own _ rfl _ _ 97 rfl w.heap.size 3 i0 (.int .i64 0) 1 8 Tryz.underlying97 hi hz0 hz1 hz2 rfl (by decide) u5 k _ rfl (HOW.out.alloc _) ⟨wr.heap.size,0,none⟩ 1 1 [.int .i64 ((x:Int)-(cc:Int))] rfl rfl (cell_one_new _ _ _) (by simp[Value.oneCell']) (by unfold maxLen;omega) (by omega) (by simp;omega) ?_;intro v' w3 hown' hgrow _)
     refine⟨⟨k+1,ds++[(x-cc-0)],0,by omega,by go_num,rfl,HST.out _ _ (by omega) (by omega) (by omega),bE_ (d:=(x:Int)-(cc:Int)) (x:=(x-cc-0)) (by omega) (by rw[HF.out.len];exact hown'),(HB.out.alloc hwr _).grown hgrow (by simp;omega) (fun g e=>(HOW.out.lt g e).1)⟩,?_⟩
     simp only[intOf];omega
  ·obtain rfl:k=la:=by omega
   have da:decide (k<k)=false:=decide_eq_false hka
   have hfin:MinusAt n m (dig 10 n).length ds cc:=by rw[←HLA.out];exact HF.out
   have HD:=hid (hfin.done HLE.out)
   have hn:Ns wr u5 ds w.heap.size wr.heap.size:=Sl.of_owns (by rw[HF.out.len];exact HOW.out)
   have HN:=hid hn
   clear hn hfin hx9 hy9 hka
   go_wp2_with (go_at_call 166;with_reducible refine(kO_ _ ds w.heap.size wr.heap.size _ HN.out).mono ?_;rintro e w2 ⟨⟨v',rfl,hv⟩,rfl⟩;have HV:=hid hv;clear hv)
   go_ret
   exact⟨⟨v',rfl,by show Ns _ v' (dig 10 (n-m)) _ _;rw[←HD.out];exact HV.out⟩,hb⟩
end Go.Proofs.YtjfdefglpoancaaGreatDoor
