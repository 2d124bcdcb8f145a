/- - -/
import Derived.Lib.MinMax
import Derived.Deep.RegionHeld3
import Derived.Test.YtjfdefglpoancaaGreatDoorZPv
import Derived.Test.YtjfdefglpoancaaGreatDoorZHg
import Derived.Test.YtjfdefglpoancaaGreatDoorZAt
import Derived.Test.YtjfdefglpoancaaGreatDoorZOut
import Derived.Test.YtjfdefglpoancaaGreatDoorZBack
import Derived.Test.YtjfdefglpoancaaGreatDoorZPl15
import Derived.Test.YtjfdefglpoancaaGreatDoorZQT
import Derived.Test.YtjfdefglpoancaaGreatDoorZPlC
set_option maxHeartbeats 40000000
set_option maxRecDepth 1000000
open Go.Lib (hid)
namespace Go.Proofs.YtjfdefglpoancaaGreatDoor
open Go.RowKit Go.Shelf Go.Sort
attribute [local go_sem] Oper.semAt_some
theorem aAA (a:Pl):∀(l:List Pl) (n:Pl),l.foldl (fU_ a) n=n∨l.foldl (fU_ a) n∈l
 | [],_=>.inl rfl
 | p::l,n=>by
  rw[List.foldl_cons]
  have h:fU_ a n p=n∨fU_ a n p=p:=by unfold fU_;split <;> simp
  rcases aAA a l (fU_ a n p) with e|e
  ·rw[e]
   rcases h with h|h
   ·exact .inl h
   ·exact .inr (by rw[h];exact List.mem_cons_self ..)
  ·exact .inr (List.mem_cons_of_mem _ e)
theorem aFT (f p:Pl):hU_ f p=if befB p f=true then p else f:=by
 unfold hU_ befB
 by_cases h:p.y<f.y∨(p.y=f.y∧p.x<f.x)
 ·rw[if_pos h,if_pos (by simpa using h)]
 ·rw[if_neg h,if_neg (by simpa using h)]
structure RefHull (ps h:List Pl) (f:Pl):Prop where
 valid:∀p∈ps,vP p=true
 sub:∀q∈h,q∈ps
 head:h[0]?=some f
 least:∀p0 l,ps=p0::l→l.foldl hU_ p0=f
 next:∀(k:Nat) (a b:Pl),h[k]?=some a→h[(k+1)%h.length]?=some b→ps.foldl (fU_ a) a=b
 inj:∀(i j:Nat) (a:Pl),h[i]?=some a→h[j]?=some a→i=j
 len:1≤h.length∧h.length≤ps.length
theorem aOE {ps:List Pl} (hv:fewB ps=true):∃f,RefHull ps (aS_ ps) f:=by
 have hvv:=fD_ hv
 have hlen:=dI_ hv
 have hne:aS_ ps≠[]:=aQC hvv (by rintro rfl;simp at hlen)
 cases hh:aS_ ps with
 | nil=>exact absurd hh hne
 | cons f t=>
  rw[←hh]
  refine⟨f,hvv,fun q hq=>eK_ hvv hq,by rw[hh];rfl,fun p0 l hp=>?_,fun k a b ha hb=>?_,fun i j a hi hj=>?_,List.length_pos_iff.2 hne,nI_ hvv⟩
  ·subst hp
   exact aBV hvv hh
  ·exact aFH hvv (qD_ ha hb) (List.mem_of_getElem? ha) (List.mem_of_getElem? hb)
  ·have hn:=(kB_ hvv).nodup
   obtain⟨h1,e1⟩:=List.getElem?_eq_some_iff.1 hi
   obtain⟨h2,e2⟩:=List.getElem?_eq_some_iff.1 hj
   exact(List.getElem_inj hn).1 (e1.trans e2.symm)
end Go.Proofs.YtjfdefglpoancaaGreatDoor
namespace Go.Proofs.YtjfdefglpoancaaGreatDoor
open Go.RowKit Go.Shelf
attribute [local go_sem] Oper.semAt_some
structure PtAt (a:Option Addr) (ps:List Pl) (W:World):Prop where
 row:∀(k:Nat) (p:Pl),ps[k]?=some p→∃b o:Nat,a=some ⟨b,o,none⟩∧b<W.heap.size∧W.cell? ⟨b,o+k*2,none⟩=some (.int .i64 p.x)∧W.cell? ⟨b,o+k*2+1,none⟩=some (.int .i64 p.y)
theorem PtAt.below {a:Option Addr} {ps:List Pl} {W W':World} (h:PtAt a ps W) (hb:Below W.heap.size W W'):PtAt a ps W':=
 ⟨fun k p hp=>by
  obtain⟨b,o,e,h1,h2,h3⟩:=h.row k p hp
  exact⟨b,o,e,Nat.lt_of_lt_of_le h1 hb.size,(World.cell?_of_block (w:=W) (hb.block b h1)).trans h2,(World.cell?_of_block (w:=W) (hb.block b h1)).trans h3⟩⟩
theorem PtAt.of {B:Nat} {ps:List Pl} {W:World} (h:PsAt B ps W):PtAt (some ⟨B,0,none⟩) ps W:=
 ⟨fun k p hp=>⟨B,0,rfl,h.sz,by rw[Nat.zero_add];exact(h.row k p hp).1,by rw[Nat.zero_add];exact(h.row k p hp).2⟩⟩
theorem PtAt.nil (W:World):PtAt none [] W:=⟨fun k p hp=>by simp at hp⟩
theorem aQA {a:Option Addr} {cap:Nat} {ps:List Pl} (hn:ps.length≤1000000) (w:World) (h:PtAt a ps w) :
  Calls Tryz.prog 132 #[.slice a ps.length cap,.func (.func 97) #[] #[]] w fun e W'=>(∃i:Int,e=.returned (.int .i64 i)∧decide (0≤i) = !(ps.all vP))∧Below w.heap.size w W':=by
 obtain⟨n,en⟩:∃n,n=ps.length:=⟨_,rfl⟩
 rw[←en]
 rw[←en] at hn
 have HN:=hid en
 have HP:=hid h
 clear en h
 go_enter Tryz.func132,Tryz.ntmps132
 go_wp2
 go_loopw [8] (fun i wr=>∃k:Nat,k≤n∧i=.int .i64 (k:Int)∧Below w.heap.size w wr∧(ps.take k).all vP=true) (fun i _=>n-(intOf i).toNat)
 case atStart=>exact⟨0,Nat.zero_le _,rfl,Below.refl _ _,rfl⟩
 case round=>
  obtain⟨k,hk,rfl,hb,ha⟩:=hrel
  by_cases hlt:k<n
  ·obtain⟨p,hp⟩:∃p,ps[k]?=some p:=⟨ps[k]'(by have:=HN.out;omega),List.getElem?_eq_getElem _⟩
   obtain⟨b,o,rfl,hbk,c0,c1⟩:=((HP.out.below hb).row k p hp)
   have HB:=hid hb
   have HA:=hid ha
   have HE:=hid (show(ps.take (k+1)).all vP=((ps.take k).all vP&&vP p) by rw[List.take_add_one,hp];simp)
   have K:=hid (fun W=>yR_ p W)
   have HH:=hid hp
   clear hb ha hp
   cases hv:vP p with
   | true=>
    rw[hv] at K HE
    go_wp2_with (go_at_call 97;(with_reducible refine(K.out _).mono ?_);rintro e w1 ⟨rfl,hb⟩;have H1:=hid (HB.out.trans (hb.mono HB.out.size));clear hb)
    exact⟨⟨k+1,by omega,by go_num,H1.out,by rw[HE.out,HA.out];rfl⟩,by simp only[intOf];omega⟩
   | false=>
    rw[hv] at K
    have HF:=hid hv
    clear hv
    go_wp2_with (go_at_call 97;(with_reducible refine(K.out _).mono ?_);rintro e w1 ⟨rfl,hb⟩;have H1:=hid (HB.out.trans (hb.mono HB.out.size));clear hb)
    go_ret
    refine⟨⟨_,rfl,?_⟩,H1.out⟩
    rw[show ps.all vP=false by
     rw[Bool.eq_false_iff]
     intro hall
     have:=List.all_eq_true.1 hall p (List.mem_of_getElem? HH.out)
     rw[HF.out] at this
     cases this]
    simp
  ·obtain rfl:k=n:=by omega
   have HA:=hid ha
   have HB:=hid hb
   clear ha hb
   go_wp2
   go_ret
   refine⟨⟨_,rfl,?_⟩,HB.out⟩
   have:=HA.out
   rw[HN.out,List.take_length] at this
   rw[this]
   rfl
theorem aCP {a:Option Addr} {cap n:Nat} {ps:List Pl} (hl:ps.length=n) (hn:n≤1000000) (w:World) (h:PtAt a ps w) :
  Calls Tryz.prog 96 #[.slice a n cap,.func (.func 97) #[] #[]] w fun e W'=>e=.returned (.bool (!(ps.all vP)))∧Below w.heap.size w W':=by
 have K:=hid (aQA (cap:=cap) (by omega) w h)
 rw[hl] at K
 clear hl h
 go_enter Tryz.func96,Tryz.ntmps96
 go_wp2_with (go_at_call 132;(with_reducible refine(K.out).mono ?_);rintro e w1 ⟨⟨i,rfl,hi⟩,hb⟩;have HI:=hid hi;clear hi)
 go_ret
 exact⟨aQ_ HI.out,hb⟩
theorem aNP {a:Option Addr} {cap n:Nat} {ps:List Pl} (hl:ps.length=n) (hn:n≤1000000) (w:World) (h:PtAt a ps w) :
  Calls Tryz.prog 66 #[.slice a n cap] w fun e W'=>e=.returned (.bool (ps.all vP))∧Below w.heap.size w W':=by
 have K:=hid (aCP (cap:=cap) hl hn w h)
 clear hl h hn
 generalize ps.all vP=v at K⊢
 go_enter Tryz.func66,Tryz.ntmps66
 go_wp2_with (go_at_call 96;(with_reducible refine(K.out).mono ?_);rintro e w1 ⟨rfl,hb⟩)
 go_ret
 exact⟨aQ_ (by simp),hb⟩
theorem aCC {a:Option Addr} {cap n:Nat} {ps:List Pl} (hl:ps.length=n) (hn:n≤1000000) (w:World) (h:PtAt a ps w) :
  Calls Tryz.prog 39 #[.slice a n cap] w fun e W'=>e=.returned (.bool (fewB ps))∧Below w.heap.size w W':=by
 have KV:=hid (aNP (cap:=cap) hl hn w h)
 unfold fewB
 rw[hl]
 by_cases h1:1≤n∧n≤40
 ·have KI:=hid (fun W=>in_t (n:=(n:Int)) (lo:=1) (hi:=40) (by omega) (by omega) W)
  rw[decide_eq_true h1.1,decide_eq_true h1.2,Bool.true_and,Bool.true_and]
  clear h1 hl h
  generalize ps.all vP=v at KV⊢
  go_enter Tryz.func39,Tryz.ntmps39
  go_wp2_with (first
   | (go_at_call 35;(with_reducible refine(KI.out _).mono ?_);rintro e w' ⟨rfl,rfl⟩)
   | (go_at_call 66;(with_reducible refine(KV.out).mono ?_);rintro e w1 ⟨rfl,hb⟩)
   | fail)
  go_ret
  exact⟨rfl,hb⟩
 ·have KI:=hid (fun W=>in_f (n:=(n:Int)) (lo:=1) (hi:=40) (by omega) W)
  rw[show(decide (1≤n)&&decide (n≤40)&&ps.all vP)=false by rw[show(decide (1≤n)&&decide (n≤40))=false by simp;omega];rfl]
  clear h1 hl h KV
  go_enter Tryz.func39,Tryz.ntmps39
  go_wp2_with (go_at_call 35;(with_reducible refine(KI.out _).mono ?_);rintro e w' ⟨rfl,rfl⟩)
  go_ret
  exact⟨rfl,Below.refl _ _⟩
theorem iR_ {a:Option Addr} {cap n:Nat} {ps:List Pl} (hl:ps.length=n) (hn:n≤1000000) (w:World) (h:PtAt a ps w) :
  Calls Tryz.prog 40 #[.slice a n cap] w fun e W'=>e=.returned (.bool (fewB ps))∧Below w.heap.size w W':=by
 have HL:=hid hl
 have H:=hid h
 clear h
 go_enter Tryz.func40,Tryz.ntmps40
 go_wp2
 go_loopw [3] (fun i wr=>∃k:Nat,k≤n∧i=.int .i64 (k:Int)∧Below w.heap.size w wr∧(ps.take k).all vP=true) (fun i _=>n-(intOf i).toNat)
 case atStart=>exact⟨0,Nat.zero_le _,rfl,Below.refl _ _,by simp⟩
 case round=>
  obtain⟨k,hk,rfl,hb,ht⟩:=hrel
  have HB:=hid hb
  have HT:=hid ht
  clear hb ht
  by_cases hlt:k<n
  ·obtain⟨p,hp⟩:∃p,ps[k]?=some p:=⟨ps[k]'(by omega),List.getElem?_eq_getElem _⟩
   obtain⟨b,o,rfl,hbk,c0,c1⟩:=(H.out.below HB.out).row k p hp
   have KP:=hid (fun(W:World)=>mU_ p W)
   have HP:=hid hp
   have i1:(0:Int)≤(k:Int):=by omega
   have i2:(k:Int)<(n:Int):=by omega
   clear hp
   cases hv:vP p with
   | true=>
    rw[hv] at KP
    have HV:=hid hv
    clear hv
    go_wp2_with (first|(go_at_call 30;(with_reducible refine(KP.out _).mono ?_);rintro e w1 ⟨rfl,hb⟩;have H1:=hid (HB.out.trans (hb.mono HB.out.size));clear hb)|fail)
    exact⟨⟨k+1,by omega,by go_num,H1.out,zA_ HP.out HT.out HV.out⟩,by simp only[intOf];omega⟩
   | false=>
    rw[hv] at KP
    have hf:fewB ps=false:=by
     unfold fewB
     rw[show ps.all vP=false from by
      rw[List.all_eq_false]
      exact⟨p,List.mem_of_getElem? HP.out,by simp[hv]⟩,Bool.and_false]
    have HF:=hid hf
    clear hv hf
    go_wp2_with (first|(go_at_call 30;(with_reducible refine(KP.out _).mono ?_);rintro e w1 ⟨rfl,hb⟩;have H1:=hid (HB.out.trans (hb.mono HB.out.size));clear hb)|fail)
    go_ret
    exact⟨by rw[HF.out];rfl,H1.out⟩
  ·have hkn:k=n:=by omega
   have ha:ps.all vP=true:=by
    have:=HT.out
    rwa[hkn,List.take_of_length_le (by omega)] at this
   have i2:decide ((k:Int)<(n:Int))=false:=decide_eq_false (by omega)
   have i3:¬(k:Int)<(n:Int):=by omega
   by_cases hn2:1≤n∧n≤40
   ·have KI:=hid (fun(W:World)=>aFX (n:=(n:Int)) (lo:=1) (hi:=40) (by omega) (by omega) W)
    have HF:=hid (show fewB ps=true by unfold fewB;rw[ha];simp;omega)
    clear hn2
    go_wp2_with (first|(go_at_call 36;(with_reducible refine(KI.out _).mono ?_);rintro e w1 ⟨rfl,rfl⟩)|fail)
    go_ret
    exact⟨by rw[HF.out];rfl,HB.out⟩
   ·have KI:=hid (fun(W:World)=>aFY (n:=(n:Int)) (lo:=1) (hi:=40) (by omega) W)
    have HF:=hid (show fewB ps=false by unfold fewB;rw[ha];simp;omega)
    clear hn2
    go_wp2_with (first|(go_at_call 36;(with_reducible refine(KI.out _).mono ?_);rintro e w1 ⟨rfl,rfl⟩)|fail)
    go_ret
    exact⟨by rw[HF.out];rfl,HB.out⟩
theorem aGC {a:Option Addr} {cap n:Nat} {ps:List Pl} (hl:ps.length=n) (hn:n≤1000000) (hv:fewB ps=false) (w:World) (h:PtAt a ps w) :
  Calls Tryz.prog 16 #[.slice a n cap] w fun e W'=>e=.returned (.tuple #[.slice none 0 0,.int .i64 70])∧Below w.heap.size w W':=by
 have K:=hid (fun(W:World) (hb:Below w.heap.size w W)=>by have:=aCC (cap:=cap) hl hn W (h.below hb);rw[hv] at this;exact this)
 have HB:=hid (Below.refl w.heap.size w)
 clear hl hn hv h
 go_enter Tryz.func16,Tryz.ntmps16
 go_wp2_with (first
  | (go_at_call 39;(with_reducible refine(K.out _ (by first | exact Below.refl _ _ | exact(Below.refl _ _).alloc (Nat.le_refl _) _ | exact(Below.refl _ _).drew)).mono ?_);rintro e w1 ⟨rfl,hb⟩)
  | fail)
 refine bodyPost_ret (v:=.tuple #[.slice none 0 0,.int .i64 70]) ?_ rfl ⟨rfl,hb⟩
 simp[results,Tryz.results16,go_sem]
theorem aGD {a:Option Addr} {cap n:Nat} {ps:List Pl} (hl:ps.length=n) (hn:n≤1000000) (hv:fewB ps=false) (w:World) (h:PtAt a ps w) :
  Calls Tryz.prog 17 #[.slice a n cap] w fun e W'=>e=.returned (.tuple #[.slice none 0 0,.int .i64 70])∧Below w.heap.size w W':=by
 have K:=hid (fun(W:World) (hb:Below w.heap.size w W)=>by have:=iR_ (cap:=cap) hl hn W (h.below hb);rw[hv] at this;exact this)
 have HB:=hid (Below.refl w.heap.size w)
 clear hl hn hv h
 go_enter Tryz.func17,Tryz.ntmps17
 go_wp2_with (first
  | (go_at_call 40;(with_reducible refine(K.out _ (by first | exact Below.refl _ _ | exact(Below.refl _ _).alloc (Nat.le_refl _) _ | exact(Below.refl _ _).drew)).mono ?_);rintro e w1 ⟨rfl,hb⟩)
  | fail)
 refine bodyPost_ret (v:=.tuple #[.slice none 0 0,.int .i64 70]) ?_ rfl ⟨rfl,hb⟩
 simp[results,Tryz.results17,go_sem]
theorem aMA {a:Option Addr} {cap n:Nat} {ps:List Pl} (hl:ps.length=n) (hn:n≤1000000) (hv:fewB ps=false) (w:World) (h:PtAt a ps w) :
  Calls Tryz.prog 18 #[.slice a n cap] w fun e W'=>e=.returned (.tuple #[.int .i64 0,.int .i64 70])∧Below w.heap.size w W':=by
 have K:=hid (fun(W:World) (hb:Below w.heap.size w W)=>by have:=aCC (cap:=cap) hl hn W (h.below hb);rw[hv] at this;exact this)
 have HB:=hid (Below.refl w.heap.size w)
 clear hl hn hv h
 go_enter Tryz.func18,Tryz.ntmps18
 go_wp2_with (first
  | (go_at_call 39;(with_reducible refine(K.out _ (by first | exact Below.refl _ _ | exact(Below.refl _ _).alloc (Nat.le_refl _) _ | exact(Below.refl _ _).drew)).mono ?_);rintro e w1 ⟨rfl,hb⟩)
  | fail)
 refine bodyPost_ret (v:=.tuple #[.int .i64 0,.int .i64 70]) ?_ rfl ⟨rfl,hb⟩
 simp[results,Tryz.results18,go_sem]
theorem aMB {a:Option Addr} {cap n:Nat} {ps:List Pl} (hl:ps.length=n) (hn:n≤1000000) (hv:fewB ps=false) (w:World) (h:PtAt a ps w) :
  Calls Tryz.prog 19 #[.slice a n cap] w fun e W'=>e=.returned (.tuple #[.int .i64 0,.int .i64 70])∧Below w.heap.size w W':=by
 have K:=hid (fun(W:World) (hb:Below w.heap.size w W)=>by have:=iR_ (cap:=cap) hl hn W (h.below hb);rw[hv] at this;exact this)
 have HB:=hid (Below.refl w.heap.size w)
 clear hl hn hv h
 go_enter Tryz.func19,Tryz.ntmps19
 go_wp2_with (first
  | (go_at_call 40;(with_reducible refine(K.out _ (by first | exact Below.refl _ _ | exact(Below.refl _ _).alloc (Nat.le_refl _) _ | exact(Below.refl _ _).drew)).mono ?_);rintro e w1 ⟨rfl,hb⟩)
  | fail)
 refine bodyPost_ret (v:=.tuple #[.int .i64 0,.int .i64 70]) ?_ rfl ⟨rfl,hb⟩
 simp[results,Tryz.results19,go_sem]
theorem aID {a:Option Addr} {cap n:Nat} {ps:List Pl} (hl:ps.length=n) (hn:n≤1000000) (hv:fewB ps=false) (w:World) (h:PtAt a ps w) :
  Calls Tryz.prog 14 #[.slice a n cap] w fun e W'=>e=.returned (.tuple #[.agg #[.int .i64 0,.int .i64 0,.int .i64 0,.int .i64 0],.int .i64 70])∧Below w.heap.size w W':=by
 have K:=hid (fun(W:World) (hb:Below w.heap.size w W)=>by have:=aCC (cap:=cap) hl hn W (h.below hb);rw[hv] at this;exact this)
 have HB:=hid ((AzAt.start w).push [.int .i64 0,.int .i64 0,.int .i64 0,.int .i64 0] 29)
 clear hl hn hv h
 go_enter Tryz.func14,Tryz.ntmps14
 go_wp2_with (first
  | (go_at_call 39;(with_reducible refine(K.out _ HB.out.bw).mono ?_);rintro e w1 ⟨rfl,hb⟩;have HC:=hid (HB.out.below hb);clear hb;have h_:=HC.out.at (B:=w.heap.size) (l:=[.int .i64 0,.int .i64 0,.int .i64 0,.int .i64 0]) (by simp);have x0:=h_.row 0 _ rfl;have f0:=h_.fz 0 (by simp);have x1:=h_.row 1 _ rfl;have f1:=h_.fz 1 (by simp);have x2:=h_.row 2 _ rfl;have f2:=h_.fz 2 (by simp);have x3:=h_.row 3 _ rfl;have f3:=h_.fz 3 (by simp);clear h_)
  | fail)
 have hp:=(((HC.out.set (Nat.le_refl _) (fun x hx=>by cases hx) (i:=0) rfl (.int .i64 0)).set (Nat.le_refl _) (fun x hx=>by cases hx) (i:=1) rfl (.int .i64 0)).set (Nat.le_refl _) (fun x hx=>by cases hx) (i:=2) rfl (.int .i64 0)).set (Nat.le_refl _) (fun x hx=>by cases hx) (i:=3) rfl (.int .i64 0)
 generalize (((w1.setCell ⟨w.heap.size,0,none⟩ (.int .i64 0)).setCell ⟨w.heap.size,1,none⟩ (.int .i64 0)).setCell ⟨w.heap.size,2,none⟩ (.int .i64 0)).setCell ⟨w.heap.size,3,none⟩ (.int .i64 0)=WF at hp⊢
 have h_:=hp.at (B:=w.heap.size) (l:=[.int .i64 0,.int .i64 0,.int .i64 0,.int .i64 0]) (by simp)
 have q0:=h_.row 0 _ rfl
 have q1:=h_.row 1 _ rfl
 have q2:=h_.row 2 _ rfl
 have q3:=h_.row 3 _ rfl
 clear h_
 refine bodyPost_ret (v:=.tuple #[.agg #[.int .i64 0,.int .i64 0,.int .i64 0,.int .i64 0],.int .i64 70]) ?_ rfl ⟨rfl,hp.bw⟩
 simp[results,Tryz.results14,go_sem,Result.andThen,q0,q1,q2,q3]
theorem aIE {a:Option Addr} {cap n:Nat} {ps:List Pl} (hl:ps.length=n) (hn:n≤1000000) (hv:fewB ps=false) (w:World) (h:PtAt a ps w) :
  Calls Tryz.prog 15 #[.slice a n cap] w fun e W'=>e=.returned (.tuple #[.agg #[.int .i64 0,.int .i64 0,.int .i64 0,.int .i64 0],.int .i64 70])∧Below w.heap.size w W':=by
 have K:=hid (fun(W:World) (hb:Below w.heap.size w W)=>by have:=iR_ (cap:=cap) hl hn W (h.below hb);rw[hv] at this;exact this)
 have HB:=hid ((AzAt.start w).push [.int .i64 0,.int .i64 0,.int .i64 0,.int .i64 0] 29)
 clear hl hn hv h
 go_enter Tryz.func15,Tryz.ntmps15
 go_wp2_with (first
  | (go_at_call 40;(with_reducible refine(K.out _ HB.out.bw).mono ?_);rintro e w1 ⟨rfl,hb⟩;have HC:=hid (HB.out.below hb);clear hb;have h_:=HC.out.at (B:=w.heap.size) (l:=[.int .i64 0,.int .i64 0,.int .i64 0,.int .i64 0]) (by simp);have x0:=h_.row 0 _ rfl;have f0:=h_.fz 0 (by simp);have x1:=h_.row 1 _ rfl;have f1:=h_.fz 1 (by simp);have x2:=h_.row 2 _ rfl;have f2:=h_.fz 2 (by simp);have x3:=h_.row 3 _ rfl;have f3:=h_.fz 3 (by simp);clear h_)
  | fail)
 have hp:=(((HC.out.set (Nat.le_refl _) (fun x hx=>by cases hx) (i:=0) rfl (.int .i64 0)).set (Nat.le_refl _) (fun x hx=>by cases hx) (i:=1) rfl (.int .i64 0)).set (Nat.le_refl _) (fun x hx=>by cases hx) (i:=2) rfl (.int .i64 0)).set (Nat.le_refl _) (fun x hx=>by cases hx) (i:=3) rfl (.int .i64 0)
 generalize (((w1.setCell ⟨w.heap.size,0,none⟩ (.int .i64 0)).setCell ⟨w.heap.size,1,none⟩ (.int .i64 0)).setCell ⟨w.heap.size,2,none⟩ (.int .i64 0)).setCell ⟨w.heap.size,3,none⟩ (.int .i64 0)=WF at hp⊢
 have h_:=hp.at (B:=w.heap.size) (l:=[.int .i64 0,.int .i64 0,.int .i64 0,.int .i64 0]) (by simp)
 have q0:=h_.row 0 _ rfl
 have q1:=h_.row 1 _ rfl
 have q2:=h_.row 2 _ rfl
 have q3:=h_.row 3 _ rfl
 clear h_
 refine bodyPost_ret (v:=.tuple #[.agg #[.int .i64 0,.int .i64 0,.int .i64 0,.int .i64 0],.int .i64 70]) ?_ rfl ⟨rfl,hp.bw⟩
 simp[results,Tryz.results15,go_sem,Result.andThen,q0,q1,q2,q3]
theorem aQQ (a b c d e f:Bool):(a=false)∨(a=true∧b=false)∨(a=true∧b=true∧c=false)∨(a=true∧b=true∧c=true∧d=false)∨(a=true∧b=true∧c=true∧d=true∧e=false)∨(a=true∧b=true∧c=true∧d=true∧e=true∧f=false)∨(a=true∧b=true∧c=true∧d=true∧e=true∧f=true):=by
 cases a <;> cases b <;> cases c <;> cases d <;> cases e <;> cases f <;> simp
theorem in_r (n lo hi:Int) (w:World):Calls Tryz.prog 36 #[.int .i64 n,.int .i64 lo,.int .i64 hi] w fun e w'=>e=.returned (.bool (decide (lo≤n∧n≤hi)))∧w=w':=by
 by_cases h:lo≤n∧n≤hi
 ·rw[decide_eq_true h]
  exact aFX h.1 h.2 w
 ·rw[decide_eq_false h]
  exact aFY (by omega) w
theorem jO_ (r:Rc) (w:World) :
  Calls Tryz.prog 9 #[.agg #[.int .i64 r.x,.int .i64 r.y,.int .i64 r.w,.int .i64 r.h]] w fun e W'=>e=.returned (.bool (vRc r))∧Below w.heap.size w W':=by
 have HB:=hid ((Below.refl w.heap.size w).alloc (Nat.le_refl _) (.cells #[.int .i64 r.x,.int .i64 r.y,.int .i64 r.w,.int .i64 r.h] 29))
 have KX:=hid (fun W=>in_r r.x 0 4095 W)
 have KY:=hid (fun W=>in_r r.y 0 4095 W)
 have KW:=hid (fun W=>in_r r.w 0 4095 W)
 have KH:=hid (fun W=>in_r r.h 0 4095 W)
 have hv:vRc r=(decide (0≤r.x∧r.x≤4095)&&decide (0≤r.y∧r.y≤4095)&&decide (0≤r.w∧r.w≤4095)&&decide (0≤r.h∧r.h≤4095)&&decide (wrap64 (r.x+r.w)≤4095)&&decide (wrap64 (r.y+r.h)≤4095)):=by
  by_cases h:(0≤r.x∧r.x≤4095)∧(0≤r.y∧r.y≤4095)∧(0≤r.w∧r.w≤4095)∧(0≤r.h∧r.h≤4095)
  ·rw[show wrap64 (r.x+r.w)=r.x+r.w from IntWalk.wrap64_in _ (by omega),show wrap64 (r.y+r.h)=r.y+r.h from IntWalk.wrap64_in _ (by omega),Bool.eq_iff_iff,bO_]
   simp only[Bool.and_eq_true,decide_eq_true_eq]
   omega
  ·rw[show vRc r=false from Bool.eq_false_iff.2 fun e=>h (by have:=bO_.1 e;omega)]
   symm
   rw[Bool.eq_false_iff]
   simp only[ne_eq,Bool.and_eq_true,decide_eq_true_eq]
   exact fun e=>h ⟨e.1.1.1.1.1,e.1.1.1.1.2,e.1.1.1.2,e.1.1.2⟩
 rw[hv]
 clear hv
 generalize decide (0≤r.x∧r.x≤4095)=b0 at KX⊢
 generalize decide (0≤r.y∧r.y≤4095)=b1 at KY⊢
 generalize decide (0≤r.w∧r.w≤4095)=b2 at KW⊢
 generalize decide (0≤r.h∧r.h≤4095)=b3 at KH⊢
 generalize e4:decide (wrap64 (r.x+r.w)≤4095)=b4
 generalize e5:decide (wrap64 (r.y+r.h)≤4095)=b5
 rcases aQQ b0 b1 b2 b3 b4 b5 with rfl|⟨rfl,rfl⟩|⟨rfl,rfl,rfl⟩|⟨rfl,rfl,rfl,rfl⟩|⟨rfl,rfl,rfl,rfl,rfl⟩|⟨rfl,rfl,rfl,rfl,rfl,rfl⟩|⟨rfl,rfl,rfl,rfl,rfl,rfl⟩ <;>
 (go_enter Tryz.func9,Tryz.ntmps9
  go_wp2_with (first
  | (go_at_call 36;(with_reducible refine(KX.out _).mono ?_);rintro e w' ⟨rfl,rfl⟩)
  | (go_at_call 36;(with_reducible refine(KY.out _).mono ?_);rintro e w' ⟨rfl,rfl⟩)
  | (go_at_call 36;(with_reducible refine(KW.out _).mono ?_);rintro e w' ⟨rfl,rfl⟩)
  | (go_at_call 36;(with_reducible refine(KH.out _).mono ?_);rintro e w' ⟨rfl,rfl⟩)
  | fail)
  go_ret
  exact⟨by first|rfl|exact congrArg (fun b=>Ending.returned (Value.bool b)) e5,HB.out⟩)
theorem aMQ (n:Int) (w:World):Calls Tryz.prog 71 #[.int .i64 n] w fun e w'=>e=.returned (.int .i64 (cmpI n 0))∧w=w':=by
 unfold cmpI
 by_cases h1:0<n
 ·have e1:decide (0<n)=true:=decide_eq_true h1
  rw[if_neg (by omega),if_pos h1]
  go_enter Tryz.func71,Tryz.ntmps71
  go_wp2
  go_ret
  exact⟨rfl,rfl⟩
 ·have e1:decide (0<n)=false:=decide_eq_false h1
  by_cases h2:n<0
  ·have e2:decide (n<0)=true:=decide_eq_true h2
   rw[if_pos h2]
   go_enter Tryz.func71,Tryz.ntmps71
   go_wp2
   go_ret
   exact⟨rfl,rfl⟩
  ·have e2:decide (n<0)=false:=decide_eq_false h2
   rw[if_neg h2,if_neg (by omega)]
   go_enter Tryz.func71,Tryz.ntmps71
   go_wp2
   go_ret
   exact⟨rfl,rfl⟩
theorem aDT (a b:Rc) (w:World) :
  Calls Tryz.prog 11 #[.agg #[.int .i64 a.x,.int .i64 a.y,.int .i64 a.w,.int .i64 a.h],.agg #[.int .i64 b.x,.int .i64 b.y,.int .i64 b.w,.int .i64 b.h]] w fun e W'=>e=.returned (.bool (hM_ a b))∧Below w.heap.size w W':=by
 have KA:=hid (fun W=>jO_ a W)
 have KB:=hid (fun W=>jO_ b W)
 have H0:=hid (show AzAt [(w.heap.size+1,[.int .i64 b.x,.int .i64 b.y,.int .i64 b.w,.int .i64 b.h]),(w.heap.size,[.int .i64 a.x,.int .i64 a.y,.int .i64 a.w,.int .i64 a.h])] w _ from by have hp:=((AzAt.start w).push [.int .i64 a.x,.int .i64 a.y,.int .i64 a.w,.int .i64 a.h] 29).push [.int .i64 b.x,.int .i64 b.y,.int .i64 b.w,.int .i64 b.h] 29;simp only[World.size_alloc] at hp;exact hp)
 have hv:hM_ a b=(vRc a&&vRc b&&decide (a.x≤wrap64 (b.x+b.w))&&decide (b.x≤wrap64 (a.x+a.w))&&decide (a.y≤wrap64 (b.y+b.h))&&decide (b.y≤wrap64 (a.y+a.h))):=by
  cases ha:vRc a
  ·simp[hM_,ha]
  ·cases hb:vRc b
   ·simp[hM_,ha,hb]
   ·have va:=bO_.1 ha
    have vb:=bO_.1 hb
    rw[show wrap64 (a.x+a.w)=a.x+a.w from IntWalk.wrap64_in _ (by omega),show wrap64 (b.x+b.w)=b.x+b.w from IntWalk.wrap64_in _ (by omega),show wrap64 (a.y+a.h)=a.y+a.h from IntWalk.wrap64_in _ (by omega),show wrap64 (b.y+b.h)=b.y+b.h from IntWalk.wrap64_in _ (by omega)]
    unfold hM_ ovl
    rw[ha,hb,Bool.eq_iff_iff]
    simp only[Bool.true_and,Bool.and_eq_true,decide_eq_true_eq]
    omega
 rw[hv]
 clear hv
 generalize vRc a=va at KA⊢
 generalize vRc b=vb at KB⊢
 generalize e0:decide (a.x≤wrap64 (b.x+b.w))=d0
 generalize e1:decide (b.x≤wrap64 (a.x+a.w))=d1
 generalize e2:decide (a.y≤wrap64 (b.y+b.h))=d2
 generalize e3:decide (b.y≤wrap64 (a.y+a.h))=d3
 rcases aQQ va vb d0 d1 d2 d3 with rfl|⟨rfl,rfl⟩|⟨rfl,rfl,rfl⟩|⟨rfl,rfl,rfl,rfl⟩|⟨rfl,rfl,rfl,rfl,rfl⟩|⟨rfl,rfl,rfl,rfl,rfl,rfl⟩|⟨rfl,rfl,rfl,rfl,rfl,rfl⟩ <;>
 (go_enter Tryz.func11,Tryz.ntmps11
  go_wp2_with (first
  | (go_at_call 9;(with_reducible refine(KA.out _).mono ?_);rintro e w1 ⟨rfl,hb⟩;have H1:=hid (H0.out.below hb);clear hb;have h_:=H1.out.at (B:=w.heap.size) (l:=[.int .i64 a.x,.int .i64 a.y,.int .i64 a.w,.int .i64 a.h]) (by simp);have x0:=h_.row 0 _ rfl;have x1:=h_.row 1 _ rfl;have x2:=h_.row 2 _ rfl;have x3:=h_.row 3 _ rfl;clear h_;have h_:=H1.out.at (B:=w.heap.size+1) (l:=[.int .i64 b.x,.int .i64 b.y,.int .i64 b.w,.int .i64 b.h]) (by simp);have y0:=h_.row 0 _ rfl;have y1:=h_.row 1 _ rfl;have y2:=h_.row 2 _ rfl;have y3:=h_.row 3 _ rfl;clear h_)
  | (go_at_call 9;(with_reducible refine(KB.out _).mono ?_);rintro e w2 ⟨rfl,hb⟩;have H2:=hid (H1.out.below hb);clear hb x0 x1 x2 x3 y0 y1 y2 y3;have h_:=H2.out.at (B:=w.heap.size) (l:=[.int .i64 a.x,.int .i64 a.y,.int .i64 a.w,.int .i64 a.h]) (by simp);have x0:=h_.row 0 _ rfl;have x1:=h_.row 1 _ rfl;have x2:=h_.row 2 _ rfl;have x3:=h_.row 3 _ rfl;clear h_;have h_:=H2.out.at (B:=w.heap.size+1) (l:=[.int .i64 b.x,.int .i64 b.y,.int .i64 b.w,.int .i64 b.h]) (by simp);have y0:=h_.row 0 _ rfl;have y1:=h_.row 1 _ rfl;have y2:=h_.row 2 _ rfl;have y3:=h_.row 3 _ rfl;clear h_)
  | fail)
  go_ret
  exact⟨by first|rfl|exact congrArg (fun b=>Ending.returned (Value.bool b)) e3,by first|exact H2.out.bw|exact H1.out.bw⟩)
theorem aAF (a b:Rc) (w:World) :
  Calls Tryz.prog 13 #[.agg #[.int .i64 a.x,.int .i64 a.y,.int .i64 a.w,.int .i64 a.h],.agg #[.int .i64 b.x,.int .i64 b.y,.int .i64 b.w,.int .i64 b.h]] w fun e W'=>e=.returned (.bool (eZ_ a b))∧Below w.heap.size w W':=by
 have KA:=hid (fun W=>jO_ a W)
 have KB:=hid (fun W=>jO_ b W)
 have H0:=hid (show AzAt [(w.heap.size+1,[.int .i64 b.x,.int .i64 b.y,.int .i64 b.w,.int .i64 b.h]),(w.heap.size,[.int .i64 a.x,.int .i64 a.y,.int .i64 a.w,.int .i64 a.h])] w _ from by have hp:=((AzAt.start w).push [.int .i64 a.x,.int .i64 a.y,.int .i64 a.w,.int .i64 a.h] 29).push [.int .i64 b.x,.int .i64 b.y,.int .i64 b.w,.int .i64 b.h] 29;simp only[World.size_alloc] at hp;exact hp)
 have hv:eZ_ a b=(vRc a&&vRc b&&decide (b.x≤a.x)&&decide (b.y≤a.y)&&decide (wrap64 (a.x+a.w)≤wrap64 (b.x+b.w))&&decide (wrap64 (a.y+a.h)≤wrap64 (b.y+b.h))):=by
  cases ha:vRc a
  ·simp[eZ_,ha]
  ·cases hb:vRc b
   ·simp[eZ_,ha,hb]
   ·have va:=bO_.1 ha
    have vb:=bO_.1 hb
    rw[show wrap64 (a.x+a.w)=a.x+a.w from IntWalk.wrap64_in _ (by omega),show wrap64 (b.x+b.w)=b.x+b.w from IntWalk.wrap64_in _ (by omega),show wrap64 (a.y+a.h)=a.y+a.h from IntWalk.wrap64_in _ (by omega),show wrap64 (b.y+b.h)=b.y+b.h from IntWalk.wrap64_in _ (by omega)]
    unfold eZ_
    rw[ha,hb,Bool.eq_iff_iff]
    simp only[Bool.true_and,Bool.and_eq_true,decide_eq_true_eq]
    omega
 rw[hv]
 clear hv
 generalize vRc a=va at KA⊢
 generalize vRc b=vb at KB⊢
 generalize e0:decide (b.x≤a.x)=d0
 generalize e1:decide (b.y≤a.y)=d1
 generalize e2:decide (wrap64 (a.x+a.w)≤wrap64 (b.x+b.w))=d2
 generalize e3:decide (wrap64 (a.y+a.h)≤wrap64 (b.y+b.h))=d3
 rcases aQQ va vb d0 d1 d2 d3 with rfl|⟨rfl,rfl⟩|⟨rfl,rfl,rfl⟩|⟨rfl,rfl,rfl,rfl⟩|⟨rfl,rfl,rfl,rfl,rfl⟩|⟨rfl,rfl,rfl,rfl,rfl,rfl⟩|⟨rfl,rfl,rfl,rfl,rfl,rfl⟩ <;>
 (go_enter Tryz.func13,Tryz.ntmps13
  go_wp2_with (first
  | (go_at_call 9;(with_reducible refine(KA.out _).mono ?_);rintro e w1 ⟨rfl,hb⟩;have H1:=hid (H0.out.below hb);clear hb;have h_:=H1.out.at (B:=w.heap.size) (l:=[.int .i64 a.x,.int .i64 a.y,.int .i64 a.w,.int .i64 a.h]) (by simp);have x0:=h_.row 0 _ rfl;have x1:=h_.row 1 _ rfl;have x2:=h_.row 2 _ rfl;have x3:=h_.row 3 _ rfl;clear h_;have h_:=H1.out.at (B:=w.heap.size+1) (l:=[.int .i64 b.x,.int .i64 b.y,.int .i64 b.w,.int .i64 b.h]) (by simp);have y0:=h_.row 0 _ rfl;have y1:=h_.row 1 _ rfl;have y2:=h_.row 2 _ rfl;have y3:=h_.row 3 _ rfl;clear h_)
  | (go_at_call 9;(with_reducible refine(KB.out _).mono ?_);rintro e w2 ⟨rfl,hb⟩;have H2:=hid (H1.out.below hb);clear hb x0 x1 x2 x3 y0 y1 y2 y3;have h_:=H2.out.at (B:=w.heap.size) (l:=[.int .i64 a.x,.int .i64 a.y,.int .i64 a.w,.int .i64 a.h]) (by simp);have x0:=h_.row 0 _ rfl;have x1:=h_.row 1 _ rfl;have x2:=h_.row 2 _ rfl;have x3:=h_.row 3 _ rfl;clear h_;have h_:=H2.out.at (B:=w.heap.size+1) (l:=[.int .i64 b.x,.int .i64 b.y,.int .i64 b.w,.int .i64 b.h]) (by simp);have y0:=h_.row 0 _ rfl;have y1:=h_.row 1 _ rfl;have y2:=h_.row 2 _ rfl;have y3:=h_.row 3 _ rfl;clear h_)
  | fail)
  go_ret
  exact⟨by first|rfl|exact congrArg (fun b=>Ending.returned (Value.bool b)) e3,by first|exact H2.out.bw|exact H1.out.bw⟩)
theorem few3 (a b c:Pl):fewB [a,b,c]=(vP a&&vP b&&vP c):=by
 unfold fewB
 simp[Bool.and_assoc]
theorem side_r (a b c:Pl) (w:World) :
  Calls Tryz.prog 26 #[.agg #[.int .i64 a.x,.int .i64 a.y],.agg #[.int .i64 b.x,.int .i64 b.y],.agg #[.int .i64 c.x,.int .i64 c.y]] w fun e W'=>e=.returned (.int .i64 (dH_ a b c))∧Below w.heap.size w W':=by
 have KP:=hid (fun(cap:Nat) (B:Nat) (W:World) (h:PsAt B [a,b,c] W)=>mZ_ (cap:=cap) (n:=3) rfl (by decide) W h)
 have H0:=hid (show AzAt [(w.heap.size+3,[.int .i64 a.x,.int .i64 a.y,.int .i64 b.x,.int .i64 b.y,.int .i64 c.x,.int .i64 c.y]),(w.heap.size+2,[.int .i64 c.x,.int .i64 c.y]),(w.heap.size+1,[.int .i64 b.x,.int .i64 b.y]),(w.heap.size,[.int .i64 a.x,.int .i64 a.y])] w _ from by have hp:=((((AzAt.start w).push [.int .i64 a.x,.int .i64 a.y] 26).push [.int .i64 b.x,.int .i64 b.y] 26).push [.int .i64 c.x,.int .i64 c.y] 26).push [.int .i64 a.x,.int .i64 a.y,.int .i64 b.x,.int .i64 b.y,.int .i64 c.x,.int .i64 c.y] 26;simp only[World.size_alloc] at hp;exact hp)
 cases hv:vP a&&vP b&&vP c with
 | false=>
  have HV:=hid (show dH_ a b c=0 by unfold dH_;rw[hv];simp)
  have KP2:=hid (fun(cap:Nat) (B:Nat) (W:World) (h:PsAt B [a,b,c] W)=>by have:=KP.out cap B W h;rw[few3,hv] at this;exact this)
  clear KP hv
  go_enter Tryz.func26,Tryz.ntmps26
  go_wp2_with (first
   | (go_at_call 40;(with_reducible refine(KP2.out _ _ _ (PsAt.of (H0.out.at (B:=w.heap.size+3) (l:=plC [a,b,c]) (by simp[plC])))).mono ?_);rintro e w1 ⟨rfl,hb⟩;have H1:=hid (H0.out.below hb);clear hb)
   | fail)
  go_ret
  exact⟨by rw[HV.out];rfl,H1.out.bw⟩
 | true=>
  have KP2:=hid (fun(cap:Nat) (B:Nat) (W:World) (h:PsAt B [a,b,c] W)=>by have:=KP.out cap B W h;rw[few3,hv] at this;exact this)
  have HV:=hid (show dH_ a b c=cmpI (aA_ a b c) 0 by unfold dH_;rw[hv];simp)
  simp only[Bool.and_eq_true] at hv
  have KT:=hid (fun(W:World)=>yY_ hv.1.1 hv.1.2 hv.2 W)
  generalize aA_ a b c=τ at KT HV
  have KS:=hid (fun(W:World)=>aMQ τ W)
  generalize cmpI τ 0=σ at KS HV
  clear KP hv
  go_enter Tryz.func26,Tryz.ntmps26
  go_wp2_with (first
   | (go_at_call 40;(with_reducible refine(KP2.out _ _ _ (PsAt.of (H0.out.at (B:=w.heap.size+3) (l:=plC [a,b,c]) (by simp[plC])))).mono ?_);rintro e w1 ⟨rfl,hb⟩;have H1:=hid (H0.out.below hb);clear hb;have h_:=H1.out.at (B:=w.heap.size) (l:=[.int .i64 a.x,.int .i64 a.y]) (by simp);have x0:=h_.row 0 _ rfl;have x1:=h_.row 1 _ rfl;clear h_;have h_:=H1.out.at (B:=w.heap.size+1) (l:=[.int .i64 b.x,.int .i64 b.y]) (by simp);have y0:=h_.row 0 _ rfl;have y1:=h_.row 1 _ rfl;clear h_;have h_:=H1.out.at (B:=w.heap.size+2) (l:=[.int .i64 c.x,.int .i64 c.y]) (by simp);have z0:=h_.row 0 _ rfl;have z1:=h_.row 1 _ rfl;clear h_)
   | (go_at_call 51;(with_reducible refine(KT.out _).mono ?_);rintro e w2 ⟨rfl,hb⟩;have H2:=hid (H1.out.below hb);clear hb)
   | (go_at_call 71;(with_reducible refine(KS.out _).mono ?_);rintro e w3 ⟨rfl,rfl⟩)
   | fail)
  go_ret
  exact⟨by rw[HV.out];rfl,H2.out.bw⟩
theorem nU_ {n:Int} (n1 : -9223372036854775808≤n) (n2:n≤9223372036854775807) (w:World) :
  Calls Tryz.prog 59 #[.int .i64 n] w fun e W'=>e=.returned (.agg #[.string (qN (whO n)),.string (qD (whO n))])∧Below w.heap.size w W':=by
 have K:=hid (fun W=>Of_f n1 n2 (d:=1) (by decide) (by decide) W)
 unfold whO
 rw[show qE (aO_ n 1)=0 by unfold aO_;rw[if_neg (by decide)];rfl] at K
 generalize qN (aO_ n 1)=rn at K⊢
 generalize qD (aO_ n 1)=rd at K⊢
 clear n1 n2
 have H0:=hid ((AzAt.start w).push [.string ⟨#[]⟩,.string ⟨#[]⟩] 47)
 go_enter Tryz.func59,Tryz.ntmps59
 go_wp2_with (first
  | (go_at_call 69;(with_reducible refine(K.out _).mono ?_);rintro e w1 ⟨rfl,hb⟩;have hp:=AzAt.al (H0.out.below hb) (.cells #[.string rn,.string rd] 47);have h_:=hp.row (w.heap.size,[.string ⟨#[]⟩,.string ⟨#[]⟩]) (by simp);have q0:=h_.row 0 _ rfl;have z0:=h_.fz 0 (by simp);have q1:=h_.row 1 _ rfl;have z1:=h_.fz 1 (by simp);clear h_;have H2:=hid hp;clear hb hp)
  | fail)
 have hp:=(H2.out).set2 (by omega) (by simp <;> omega) (.string rn) (.string rd)
 generalize (((w1.alloc (.cells #[.string rn,.string rd] 47)).setCell ⟨w.heap.size,0,none⟩ (.string rn)).setCell ⟨w.heap.size,1,none⟩ (.string rd))=WF at hp⊢
 have h_:=hp.row (w.heap.size,[.string rn,.string rd]) (by simp)
 have q0:=h_.row 0 _ rfl
 have q1:=h_.row 1 _ rfl
 clear h_
 refine bodyPost_ret (v:=.agg #[.string rn,.string rd]) ?_ rfl ⟨rfl,hp.bw⟩
 simp[results,Tryz.results59,go_sem,Result.andThen,q0,q1]
theorem aII {x y:Option Rat} (fx:FO x) (fy:FO y) (w:World) :
  Calls Tryz.prog 61 #[.agg #[.string (qN x),.string (qD x)],.agg #[.string (qN y),.string (qD y)]] w fun e W'=>e=.returned (.agg #[.string (qN (plO x y)),.string (qD (plO x y))])∧Below w.heap.size w W':=by
 have K:=hid (fun(W:World)=>by have:=Add_f (eV_ _ fx) (eW_ _ fx) (eV_ _ fy) (eW_ _ fy) W;rw[vH_ fx fy] at this;exact this)
 unfold plO
 generalize cH_ addR x y=o at K⊢
 clear fx fy
 generalize qN x=xn at K⊢
 generalize qD x=xd at K⊢
 generalize qN y=yn at K⊢
 generalize qD y=yd at K⊢
 have H0:=hid (show AzAt [(w.heap.size+1+1,[.string ⟨#[]⟩,.string ⟨#[]⟩]),(w.heap.size+1,[.string yn,.string yd]),(w.heap.size,[.string xn,.string xd])] w _ from by have hp:=(((AzAt.start w).push [.string xn,.string xd] 47).push [.string yn,.string yd] 47).push [.string ⟨#[]⟩,.string ⟨#[]⟩] 47;simp only[World.size_alloc] at hp;exact hp)
 cases o with
 | none=>
  rw[show qN (none:Option Rat)=⟨#[]⟩ from rfl,show qD (none:Option Rat)=⟨#[]⟩ from rfl] at K⊢
  rw[show qE (none:Option Rat)=40 from rfl] at K
  go_enter Tryz.func61,Tryz.ntmps61
  go_wp2_with (first
   | (go_at_call 89;(with_reducible refine(K.out _).mono ?_);rintro e w1 ⟨rfl,hb⟩;have hp:=AzAt.al (H0.out.below hb) (.cells #[.string ⟨#[]⟩,.string ⟨#[]⟩] 47);have h_:=hp.row (w.heap.size+1+1,[.string ⟨#[]⟩,.string ⟨#[]⟩]) (by simp);have q3:=h_.row 0 _ rfl;have z3:=h_.fz 0 (by simp);have q4:=h_.row 1 _ rfl;have z4:=h_.fz 1 (by simp);clear h_;have H2:=hid hp;clear hb hp)
   | fail)
  have hp:=H2.out.set2 (by omega) (by simp <;> omega) (.string ⟨#[]⟩) (.string ⟨#[]⟩)
  generalize ((w1.alloc (.cells #[.string ⟨#[]⟩,.string ⟨#[]⟩] 47)).setCell ⟨w.heap.size+1+1,0,none⟩ (.string ⟨#[]⟩)).setCell ⟨w.heap.size+1+1,1,none⟩ (.string ⟨#[]⟩)=WF at hp⊢
  have h_:=hp.row (w.heap.size+1+1,[.string ⟨#[]⟩,.string ⟨#[]⟩]) (by simp)
  have q0:=h_.row 0 _ rfl
  have q1:=h_.row 1 _ rfl
  clear h_
  refine bodyPost_ret (v:=.agg #[.string ⟨#[]⟩,.string ⟨#[]⟩]) ?_ rfl ⟨rfl,hp.bw⟩
  simp[results,Tryz.results61,go_sem,Result.andThen,q0,q1]
 | some r=>
  rw[show qE (some r)=0 from rfl] at K
  generalize qN (some r)=rn at K⊢
  generalize qD (some r)=rd at K⊢
  go_enter Tryz.func61,Tryz.ntmps61
  go_wp2_with (first
   | (go_at_call 89;(with_reducible refine(K.out _).mono ?_);rintro e w1 ⟨rfl,hb⟩;have hp:=AzAt.al (H0.out.below hb) (.cells #[.string rn,.string rd] 47);have h_:=hp.row (w.heap.size+1+1,[.string ⟨#[]⟩,.string ⟨#[]⟩]) (by simp);have q3:=h_.row 0 _ rfl;have z3:=h_.fz 0 (by simp);have q4:=h_.row 1 _ rfl;have z4:=h_.fz 1 (by simp);clear h_;have H2:=hid hp;clear hb hp)
   | fail)
  have hp:=H2.out.set2 (by omega) (by simp <;> omega) (.string rn) (.string rd)
  generalize ((w1.alloc (.cells #[.string rn,.string rd] 47)).setCell ⟨w.heap.size+1+1,0,none⟩ (.string rn)).setCell ⟨w.heap.size+1+1,1,none⟩ (.string rd)=WF at hp⊢
  have h_:=hp.row (w.heap.size+1+1,[.string rn,.string rd]) (by simp)
  have q0:=h_.row 0 _ rfl
  have q1:=h_.row 1 _ rfl
  clear h_
  refine bodyPost_ret (v:=.agg #[.string rn,.string rd]) ?_ rfl ⟨rfl,hp.bw⟩
  simp[results,Tryz.results61,go_sem,Result.andThen,q0,q1]
theorem sK_ {x y:Option Rat} (fx:FO x) (fy:FO y) (w:World) :
  Calls Tryz.prog 62 #[.agg #[.string (qN x),.string (qD x)],.agg #[.string (qN y),.string (qD y)]] w fun e W'=>e=.returned (.agg #[.string (qN (miO x y)),.string (qD (miO x y))])∧Below w.heap.size w W':=by
 have K:=hid (fun(W:World)=>by have:=Sub_f (eV_ _ fx) (eW_ _ fx) (eV_ _ fy) (eW_ _ fy) W;rw[vH_ fx fy] at this;exact this)
 unfold miO
 generalize cH_ subR x y=o at K⊢
 clear fx fy
 generalize qN x=xn at K⊢
 generalize qD x=xd at K⊢
 generalize qN y=yn at K⊢
 generalize qD y=yd at K⊢
 have H0:=hid (show AzAt [(w.heap.size+1+1,[.string ⟨#[]⟩,.string ⟨#[]⟩]),(w.heap.size+1,[.string yn,.string yd]),(w.heap.size,[.string xn,.string xd])] w _ from by have hp:=(((AzAt.start w).push [.string xn,.string xd] 47).push [.string yn,.string yd] 47).push [.string ⟨#[]⟩,.string ⟨#[]⟩] 47;simp only[World.size_alloc] at hp;exact hp)
 cases o with
 | none=>
  rw[show qN (none:Option Rat)=⟨#[]⟩ from rfl,show qD (none:Option Rat)=⟨#[]⟩ from rfl] at K⊢
  rw[show qE (none:Option Rat)=40 from rfl] at K
  go_enter Tryz.func62,Tryz.ntmps62
  go_wp2_with (first
   | (go_at_call 90;(with_reducible refine(K.out _).mono ?_);rintro e w1 ⟨rfl,hb⟩;have hp:=AzAt.al (H0.out.below hb) (.cells #[.string ⟨#[]⟩,.string ⟨#[]⟩] 47);have h_:=hp.row (w.heap.size+1+1,[.string ⟨#[]⟩,.string ⟨#[]⟩]) (by simp);have q3:=h_.row 0 _ rfl;have z3:=h_.fz 0 (by simp);have q4:=h_.row 1 _ rfl;have z4:=h_.fz 1 (by simp);clear h_;have H2:=hid hp;clear hb hp)
   | fail)
  have hp:=H2.out.set2 (by omega) (by simp <;> omega) (.string ⟨#[]⟩) (.string ⟨#[]⟩)
  generalize ((w1.alloc (.cells #[.string ⟨#[]⟩,.string ⟨#[]⟩] 47)).setCell ⟨w.heap.size+1+1,0,none⟩ (.string ⟨#[]⟩)).setCell ⟨w.heap.size+1+1,1,none⟩ (.string ⟨#[]⟩)=WF at hp⊢
  have h_:=hp.row (w.heap.size+1+1,[.string ⟨#[]⟩,.string ⟨#[]⟩]) (by simp)
  have q0:=h_.row 0 _ rfl
  have q1:=h_.row 1 _ rfl
  clear h_
  refine bodyPost_ret (v:=.agg #[.string ⟨#[]⟩,.string ⟨#[]⟩]) ?_ rfl ⟨rfl,hp.bw⟩
  simp[results,Tryz.results62,go_sem,Result.andThen,q0,q1]
 | some r=>
  rw[show qE (some r)=0 from rfl] at K
  generalize qN (some r)=rn at K⊢
  generalize qD (some r)=rd at K⊢
  go_enter Tryz.func62,Tryz.ntmps62
  go_wp2_with (first
   | (go_at_call 90;(with_reducible refine(K.out _).mono ?_);rintro e w1 ⟨rfl,hb⟩;have hp:=AzAt.al (H0.out.below hb) (.cells #[.string rn,.string rd] 47);have h_:=hp.row (w.heap.size+1+1,[.string ⟨#[]⟩,.string ⟨#[]⟩]) (by simp);have q3:=h_.row 0 _ rfl;have z3:=h_.fz 0 (by simp);have q4:=h_.row 1 _ rfl;have z4:=h_.fz 1 (by simp);clear h_;have H2:=hid hp;clear hb hp)
   | fail)
  have hp:=H2.out.set2 (by omega) (by simp <;> omega) (.string rn) (.string rd)
  generalize ((w1.alloc (.cells #[.string rn,.string rd] 47)).setCell ⟨w.heap.size+1+1,0,none⟩ (.string rn)).setCell ⟨w.heap.size+1+1,1,none⟩ (.string rd)=WF at hp⊢
  have h_:=hp.row (w.heap.size+1+1,[.string rn,.string rd]) (by simp)
  have q0:=h_.row 0 _ rfl
  have q1:=h_.row 1 _ rfl
  clear h_
  refine bodyPost_ret (v:=.agg #[.string rn,.string rd]) ?_ rfl ⟨rfl,hp.bw⟩
  simp[results,Tryz.results62,go_sem,Result.andThen,q0,q1]
theorem aBT {x y:Option Rat} (fx:FO x) (fy:FO y) (w:World) :
  Calls Tryz.prog 63 #[.agg #[.string (qN x),.string (qD x)],.agg #[.string (qN y),.string (qD y)]] w fun e W'=>e=.returned (.agg #[.string (qN (tiO x y)),.string (qD (tiO x y))])∧Below w.heap.size w W':=by
 have K:=hid (fun(W:World)=>by have:=Mul_f (eV_ _ fx) (eW_ _ fx) (eV_ _ fy) (eW_ _ fy) W;rw[vH_ fx fy] at this;exact this)
 unfold tiO
 generalize cH_ mulR x y=o at K⊢
 clear fx fy
 generalize qN x=xn at K⊢
 generalize qD x=xd at K⊢
 generalize qN y=yn at K⊢
 generalize qD y=yd at K⊢
 have H0:=hid (show AzAt [(w.heap.size+1+1,[.string ⟨#[]⟩,.string ⟨#[]⟩]),(w.heap.size+1,[.string yn,.string yd]),(w.heap.size,[.string xn,.string xd])] w _ from by have hp:=(((AzAt.start w).push [.string xn,.string xd] 47).push [.string yn,.string yd] 47).push [.string ⟨#[]⟩,.string ⟨#[]⟩] 47;simp only[World.size_alloc] at hp;exact hp)
 cases o with
 | none=>
  rw[show qN (none:Option Rat)=⟨#[]⟩ from rfl,show qD (none:Option Rat)=⟨#[]⟩ from rfl] at K⊢
  rw[show qE (none:Option Rat)=40 from rfl] at K
  go_enter Tryz.func63,Tryz.ntmps63
  go_wp2_with (first
   | (go_at_call 91;(with_reducible refine(K.out _).mono ?_);rintro e w1 ⟨rfl,hb⟩;have hp:=AzAt.al (H0.out.below hb) (.cells #[.string ⟨#[]⟩,.string ⟨#[]⟩] 47);have h_:=hp.row (w.heap.size+1+1,[.string ⟨#[]⟩,.string ⟨#[]⟩]) (by simp);have q3:=h_.row 0 _ rfl;have z3:=h_.fz 0 (by simp);have q4:=h_.row 1 _ rfl;have z4:=h_.fz 1 (by simp);clear h_;have H2:=hid hp;clear hb hp)
   | fail)
  have hp:=H2.out.set2 (by omega) (by simp <;> omega) (.string ⟨#[]⟩) (.string ⟨#[]⟩)
  generalize ((w1.alloc (.cells #[.string ⟨#[]⟩,.string ⟨#[]⟩] 47)).setCell ⟨w.heap.size+1+1,0,none⟩ (.string ⟨#[]⟩)).setCell ⟨w.heap.size+1+1,1,none⟩ (.string ⟨#[]⟩)=WF at hp⊢
  have h_:=hp.row (w.heap.size+1+1,[.string ⟨#[]⟩,.string ⟨#[]⟩]) (by simp)
  have q0:=h_.row 0 _ rfl
  have q1:=h_.row 1 _ rfl
  clear h_
  refine bodyPost_ret (v:=.agg #[.string ⟨#[]⟩,.string ⟨#[]⟩]) ?_ rfl ⟨rfl,hp.bw⟩
  simp[results,Tryz.results63,go_sem,Result.andThen,q0,q1]
 | some r=>
  rw[show qE (some r)=0 from rfl] at K
  generalize qN (some r)=rn at K⊢
  generalize qD (some r)=rd at K⊢
  go_enter Tryz.func63,Tryz.ntmps63
  go_wp2_with (first
   | (go_at_call 91;(with_reducible refine(K.out _).mono ?_);rintro e w1 ⟨rfl,hb⟩;have hp:=AzAt.al (H0.out.below hb) (.cells #[.string rn,.string rd] 47);have h_:=hp.row (w.heap.size+1+1,[.string ⟨#[]⟩,.string ⟨#[]⟩]) (by simp);have q3:=h_.row 0 _ rfl;have z3:=h_.fz 0 (by simp);have q4:=h_.row 1 _ rfl;have z4:=h_.fz 1 (by simp);clear h_;have H2:=hid hp;clear hb hp)
   | fail)
  have hp:=H2.out.set2 (by omega) (by simp <;> omega) (.string rn) (.string rd)
  generalize ((w1.alloc (.cells #[.string rn,.string rd] 47)).setCell ⟨w.heap.size+1+1,0,none⟩ (.string rn)).setCell ⟨w.heap.size+1+1,1,none⟩ (.string rd)=WF at hp⊢
  have h_:=hp.row (w.heap.size+1+1,[.string rn,.string rd]) (by simp)
  have q0:=h_.row 0 _ rfl
  have q1:=h_.row 1 _ rfl
  clear h_
  refine bodyPost_ret (v:=.agg #[.string rn,.string rd]) ?_ rfl ⟨rfl,hp.bw⟩
  simp[results,Tryz.results63,go_sem,Result.andThen,q0,q1]
theorem aQK {x y:Option Rat} (fx:FO x) (fy:FO y) (w:World) :
  Calls Tryz.prog 64 #[.agg #[.string (qN x),.string (qD x)],.agg #[.string (qN y),.string (qD y)]] w fun e W'=>e=.returned (.agg #[.string (qN (ovO x y)),.string (qD (ovO x y))])∧Below w.heap.size w W':=by
 have K:=hid (fun(W:World)=>by have:=Div_f (eV_ _ fx) (eW_ _ fx) (eV_ _ fy) (eW_ _ fy) W;rw[vH_ fx fy] at this;exact this)
 unfold ovO
 generalize cH_ divR x y=o at K⊢
 clear fx fy
 generalize qN x=xn at K⊢
 generalize qD x=xd at K⊢
 generalize qN y=yn at K⊢
 generalize qD y=yd at K⊢
 have H0:=hid (show AzAt [(w.heap.size+1+1,[.string ⟨#[]⟩,.string ⟨#[]⟩]),(w.heap.size+1,[.string yn,.string yd]),(w.heap.size,[.string xn,.string xd])] w _ from by have hp:=(((AzAt.start w).push [.string xn,.string xd] 47).push [.string yn,.string yd] 47).push [.string ⟨#[]⟩,.string ⟨#[]⟩] 47;simp only[World.size_alloc] at hp;exact hp)
 cases o with
 | none=>
  rw[show qN (none:Option Rat)=⟨#[]⟩ from rfl,show qD (none:Option Rat)=⟨#[]⟩ from rfl] at K⊢
  rw[show qE (none:Option Rat)=40 from rfl] at K
  go_enter Tryz.func64,Tryz.ntmps64
  go_wp2_with (first
   | (go_at_call 92;(with_reducible refine(K.out _).mono ?_);rintro e w1 ⟨rfl,hb⟩;have hp:=AzAt.al (H0.out.below hb) (.cells #[.string ⟨#[]⟩,.string ⟨#[]⟩] 47);have h_:=hp.row (w.heap.size+1+1,[.string ⟨#[]⟩,.string ⟨#[]⟩]) (by simp);have q3:=h_.row 0 _ rfl;have z3:=h_.fz 0 (by simp);have q4:=h_.row 1 _ rfl;have z4:=h_.fz 1 (by simp);clear h_;have H2:=hid hp;clear hb hp)
   | fail)
  have hp:=H2.out.set2 (by omega) (by simp <;> omega) (.string ⟨#[]⟩) (.string ⟨#[]⟩)
  generalize ((w1.alloc (.cells #[.string ⟨#[]⟩,.string ⟨#[]⟩] 47)).setCell ⟨w.heap.size+1+1,0,none⟩ (.string ⟨#[]⟩)).setCell ⟨w.heap.size+1+1,1,none⟩ (.string ⟨#[]⟩)=WF at hp⊢
  have h_:=hp.row (w.heap.size+1+1,[.string ⟨#[]⟩,.string ⟨#[]⟩]) (by simp)
  have q0:=h_.row 0 _ rfl
  have q1:=h_.row 1 _ rfl
  clear h_
  refine bodyPost_ret (v:=.agg #[.string ⟨#[]⟩,.string ⟨#[]⟩]) ?_ rfl ⟨rfl,hp.bw⟩
  simp[results,Tryz.results64,go_sem,Result.andThen,q0,q1]
 | some r=>
  rw[show qE (some r)=0 from rfl] at K
  generalize qN (some r)=rn at K⊢
  generalize qD (some r)=rd at K⊢
  go_enter Tryz.func64,Tryz.ntmps64
  go_wp2_with (first
   | (go_at_call 92;(with_reducible refine(K.out _).mono ?_);rintro e w1 ⟨rfl,hb⟩;have hp:=AzAt.al (H0.out.below hb) (.cells #[.string rn,.string rd] 47);have h_:=hp.row (w.heap.size+1+1,[.string ⟨#[]⟩,.string ⟨#[]⟩]) (by simp);have q3:=h_.row 0 _ rfl;have z3:=h_.fz 0 (by simp);have q4:=h_.row 1 _ rfl;have z4:=h_.fz 1 (by simp);clear h_;have H2:=hid hp;clear hb hp)
   | fail)
  have hp:=H2.out.set2 (by omega) (by simp <;> omega) (.string rn) (.string rd)
  generalize ((w1.alloc (.cells #[.string rn,.string rd] 47)).setCell ⟨w.heap.size+1+1,0,none⟩ (.string rn)).setCell ⟨w.heap.size+1+1,1,none⟩ (.string rd)=WF at hp⊢
  have h_:=hp.row (w.heap.size+1+1,[.string rn,.string rd]) (by simp)
  have q0:=h_.row 0 _ rfl
  have q1:=h_.row 1 _ rfl
  clear h_
  refine bodyPost_ret (v:=.agg #[.string rn,.string rd]) ?_ rfl ⟨rfl,hp.bw⟩
  simp[results,Tryz.results64,go_sem,Result.andThen,q0,q1]
end Go.Proofs.YtjfdefglpoancaaGreatDoor
namespace Go.Proofs.YtjfdefglpoancaaGreatDoor
open Go.RowKit Go.Shelf Go.Sort
attribute [local go_sem] Oper.semAt_some
theorem cutB3 (a b c:Bool):a=false∨(a=true∧b=false)∨(a=true∧b=true∧c=false)∨(a=true∧b=true∧c=true):=by
 cases a <;> cases b <;> cases c <;> simp
theorem cutB4 (a b c d:Bool):a=true∨(a=false∧b=true)∨(a=false∧b=false∧c=true)∨(a=false∧b=false∧c=false∧d=true)∨(a=false∧b=false∧c=false∧d=false):=by
 cases a <;> cases b <;> cases c <;> cases d <;> simp
theorem on_r {p a b:Pl} (hp:vP p=true) (ha:vP a=true) (hb:vP b=true) (w:World) :
  Calls Tryz.prog 72 #[.agg #[.int .i64 p.x,.int .i64 p.y],.agg #[.int .i64 a.x,.int .i64 a.y],.agg #[.int .i64 b.x,.int .i64 b.y]] w fun e W'=>e=.returned (.bool (onP p a b))∧Below w.heap.size w W':=by
 have KT:=hid (fun(W:World)=>yY_ ha hb hp W)
 clear hp ha hb
 have H0:=hid (show AzAt [(w.heap.size+2,[.int .i64 b.x,.int .i64 b.y]),(w.heap.size+1,[.int .i64 a.x,.int .i64 a.y]),(w.heap.size,[.int .i64 p.x,.int .i64 p.y])] w _ from by have hp:=(((AzAt.start w).push [.int .i64 p.x,.int .i64 p.y] 26).push [.int .i64 a.x,.int .i64 a.y] 26).push [.int .i64 b.x,.int .i64 b.y] 26;simp only[World.size_alloc] at hp;exact hp)
 have KX:=hid (fun W=>in_r p.x (min a.x b.x) (max a.x b.x) W)
 have KY:=hid (fun W=>in_r p.y (min a.y b.y) (max a.y b.y) W)
 have hv:onP p a b=((aA_ a b p==0)&&decide (min a.x b.x≤p.x∧p.x≤max a.x b.x)&&decide (min a.y b.y≤p.y∧p.y≤max a.y b.y)):=by
  rw[Bool.eq_iff_iff,hS_]
  simp only[Bool.and_eq_true,decide_eq_true_eq,beq_iff_eq,and_assoc]
 rw[hv]
 clear hv
 generalize decide (min a.x b.x≤p.x∧p.x≤max a.x b.x)=b1 at KX⊢
 generalize decide (min a.y b.y≤p.y∧p.y≤max a.y b.y)=b2 at KY⊢
 generalize aA_ a b p=τ at KT⊢
 generalize e0:(τ==0)=b0
 rcases cutB3 b0 b1 b2 with rfl|⟨rfl,rfl⟩|⟨rfl,rfl,rfl⟩|⟨rfl,rfl,rfl⟩ <;>
 (go_enter Tryz.func72,Tryz.ntmps72
  go_wp2_with (first
  | (go_at_call 51;(with_reducible refine(KT.out _).mono ?_);rintro e w1 ⟨rfl,hb⟩;have H1:=hid (H0.out.below hb);clear hb;have h_:=H1.out.row (w.heap.size,[.int .i64 p.x,.int .i64 p.y]) (by simp);have x0:=h_.row 0 _ rfl;have x1:=h_.row 1 _ rfl;clear h_;have h_:=H1.out.row (w.heap.size+1,[.int .i64 a.x,.int .i64 a.y]) (by simp);have y0:=h_.row 0 _ rfl;have y1:=h_.row 1 _ rfl;clear h_;have h_:=H1.out.row (w.heap.size+2,[.int .i64 b.x,.int .i64 b.y]) (by simp);have z0:=h_.row 0 _ rfl;have z1:=h_.row 1 _ rfl;clear h_)
  | (go_at_call 36;(with_reducible refine(KX.out _).mono ?_);rintro e w2 ⟨rfl,rfl⟩)
  | (go_at_call 36;(with_reducible refine(KY.out _).mono ?_);rintro e w3 ⟨rfl,rfl⟩)
  | fail)
  go_ret
  exact⟨rfl,H1.out.bw⟩)
theorem tZ_ (n:Int) : -1≤cmpI n 0∧cmpI n 0≤1:=by
 rcases dC_ n with ⟨_,e⟩|⟨_,e⟩|⟨_,e⟩ <;> rw[e] <;> decide
theorem uP_ {x y:Int} (hx : -1≤x∧x≤1) (hy : -1≤y∧y≤1) : -1≤x*y∧x*y≤1:=by
 have:x = -1∨x=0∨x=1:=by omega
 rcases this with rfl|rfl|rfl <;> omega
theorem few4 (a b c d:Pl):fewB [a,b,c,d]=(vP a&&vP b&&vP c&&vP d):=by
 unfold fewB
 simp[Bool.and_assoc]
theorem nY_ {a b c:Pl} (ha:vP a=true) (hb:vP b=true) (hc:vP c=true) (w:World):Calls Tryz.prog 51 #[.agg #[.int .i64 a.x,.int .i64 a.y],.agg #[.int .i64 b.x,.int .i64 b.y],.agg #[.int .i64 c.x,.int .i64 c.y]] w fun e W'=>e=.returned (.int .i64 (aA_ a b c))∧Below w.heap.size w W':=yY_ ha hb hc w
theorem sO_ (n:Int) (w:World):Calls Tryz.prog 71 #[.int .i64 n] w fun e w'=>e=.returned (.int .i64 (cmpI n 0))∧Below w.heap.size w w':=(aMQ n w).mono fun e w' h=>⟨h.1,by rw[h.2];exact Below.refl _ _⟩
theorem aQT (a b c d:Pl) (w:World) :
  Calls Tryz.prog 28 #[.agg #[.int .i64 a.x,.int .i64 a.y],.agg #[.int .i64 b.x,.int .i64 b.y],.agg #[.int .i64 c.x,.int .i64 c.y],.agg #[.int .i64 d.x,.int .i64 d.y]] w fun e W'=>e=.returned (.bool (cX_ a b c d))∧Below w.heap.size w W':=by
 have KP:=hid (fun(cap:Nat) (B:Nat) (W:World) (h:PsAt B [a,b,c,d] W)=>by have:=mZ_ (cap:=cap) (n:=4) rfl (by decide) W h;rw[few4] at this;exact this)
 have H0:=hid (show AzAt [(w.heap.size+4,[.int .i64 a.x,.int .i64 a.y,.int .i64 b.x,.int .i64 b.y,.int .i64 c.x,.int .i64 c.y,.int .i64 d.x,.int .i64 d.y]),(w.heap.size+3,[.int .i64 d.x,.int .i64 d.y]),(w.heap.size+2,[.int .i64 c.x,.int .i64 c.y]),(w.heap.size+1,[.int .i64 b.x,.int .i64 b.y]),(w.heap.size,[.int .i64 a.x,.int .i64 a.y])] w _ from by have hp:=(((((AzAt.start w).push [.int .i64 a.x,.int .i64 a.y] 26).push [.int .i64 b.x,.int .i64 b.y] 26).push [.int .i64 c.x,.int .i64 c.y] 26).push [.int .i64 d.x,.int .i64 d.y] 26).push [.int .i64 a.x,.int .i64 a.y,.int .i64 b.x,.int .i64 b.y,.int .i64 c.x,.int .i64 c.y,.int .i64 d.x,.int .i64 d.y] 26;simp only[World.size_alloc] at hp;exact hp)
 cases hv:vP a&&vP b&&vP c&&vP d with
 | false=>
  have HV:=hid (show cX_ a b c d=false by unfold cX_;rw[hv];rfl)
  rw[hv] at KP
  clear hv
  go_enter Tryz.func28,Tryz.ntmps28
  go_wp2_with (first
   | (go_at_call 40;(with_reducible refine(KP.out _ _ _ (PsAt.of (H0.out.at (B:=w.heap.size+4) (l:=plC [a,b,c,d]) (by simp[plC])))).mono ?_);rintro e w1 ⟨rfl,hb⟩;have H1:=hid (H0.out.below hb);clear hb)
   | fail)
  go_ret
  exact⟨by rw[HV.out];rfl,H1.out.bw⟩
 | true=>
  rw[hv] at KP
  simp only[Bool.and_eq_true] at hv
  obtain⟨⟨⟨ha,hb⟩,hc⟩,hd⟩:=hv
  have HX:=hid (aLA ha hb hc hd)
  have K1:=hid (fun W=>on_r ha hc hd W)
  have K2:=hid (fun W=>on_r hb hc hd W)
  have K3:=hid (fun W=>on_r hc ha hb W)
  have K4:=hid (fun W=>on_r hd ha hb W)
  have T1:=hid (fun W=>nY_ ha hb hc W)
  have T2:=hid (fun W=>nY_ ha hb hd W)
  have T3:=hid (fun W=>nY_ hc hd ha W)
  have T4:=hid (fun W=>nY_ hc hd hb W)
  unfold strP at HX
  clear ha hb hc hd
  generalize onP a c d=o1 at K1 HX
  generalize onP b c d=o2 at K2 HX
  generalize onP c a b=o3 at K3 HX
  generalize onP d a b=o4 at K4 HX
  generalize aA_ a b c=τ1 at T1 HX
  generalize aA_ a b d=τ2 at T2 HX
  generalize aA_ c d a=τ3 at T3 HX
  generalize aA_ c d b=τ4 at T4 HX
  have S1:=hid (fun W=>sO_ τ1 W)
  have S2:=hid (fun W=>sO_ τ2 W)
  have S3:=hid (fun W=>sO_ τ3 W)
  have S4:=hid (fun W=>sO_ τ4 W)
  have b1:=tZ_ τ1
  have b2:=tZ_ τ2
  have b3:=tZ_ τ3
  have b4:=tZ_ τ4
  generalize cmpI τ1 0=σ1 at S1 HX b1
  generalize cmpI τ2 0=σ2 at S2 HX b2
  generalize cmpI τ3 0=σ3 at S3 HX b3
  generalize cmpI τ4 0=σ4 at S4 HX b4
  have w12:IntKind.i64.wrap (σ1*σ2)=σ1*σ2:=IntWalk.i64_in _ (by have:=uP_ b1 b2;omega)
  have w34:IntKind.i64.wrap (σ3*σ4)=σ3*σ4:=IntWalk.i64_in _ (by have:=uP_ b3 b4;omega)
  clear b1 b2 b3 b4
  have hmx:Tryz.prog.follows .mixedOrders=true:=by kernel_rfl
  rw[HX.out]
  clear HX
  rcases cutB4 o1 o2 o3 o4 with rfl|⟨rfl,rfl⟩|⟨rfl,rfl,rfl⟩|⟨rfl,rfl,rfl,rfl⟩|⟨rfl,rfl,rfl,rfl⟩ <;>
  (go_enter Tryz.func28,Tryz.ntmps28
   go_wp2_with (first
   | (have _:=H4;go_at_call 72;(with_reducible refine(K4.out _).mono ?_);rintro e w5 ⟨rfl,hb⟩;have H5:=hid (H4.out.below hb);clear hb x0 x1 y0 y1 z0 z1 u0 u1;have h_:=H5.out.row (w.heap.size,[.int .i64 a.x,.int .i64 a.y]) (by simp);have x0:=h_.row 0 _ rfl;have x1:=h_.row 1 _ rfl;clear h_;have h_:=H5.out.row (w.heap.size+1,[.int .i64 b.x,.int .i64 b.y]) (by simp);have y0:=h_.row 0 _ rfl;have y1:=h_.row 1 _ rfl;clear h_;have h_:=H5.out.row (w.heap.size+2,[.int .i64 c.x,.int .i64 c.y]) (by simp);have z0:=h_.row 0 _ rfl;have z1:=h_.row 1 _ rfl;clear h_;have h_:=H5.out.row (w.heap.size+3,[.int .i64 d.x,.int .i64 d.y]) (by simp);have u0:=h_.row 0 _ rfl;have u1:=h_.row 1 _ rfl;clear h_)
   | (have _:=H3;go_at_call 72;(with_reducible refine(K3.out _).mono ?_);rintro e w4 ⟨rfl,hb⟩;have H4:=hid (H3.out.below hb);clear hb x0 x1 y0 y1 z0 z1 u0 u1;have h_:=H4.out.row (w.heap.size,[.int .i64 a.x,.int .i64 a.y]) (by simp);have x0:=h_.row 0 _ rfl;have x1:=h_.row 1 _ rfl;clear h_;have h_:=H4.out.row (w.heap.size+1,[.int .i64 b.x,.int .i64 b.y]) (by simp);have y0:=h_.row 0 _ rfl;have y1:=h_.row 1 _ rfl;clear h_;have h_:=H4.out.row (w.heap.size+2,[.int .i64 c.x,.int .i64 c.y]) (by simp);have z0:=h_.row 0 _ rfl;have z1:=h_.row 1 _ rfl;clear h_;have h_:=H4.out.row (w.heap.size+3,[.int .i64 d.x,.int .i64 d.y]) (by simp);have u0:=h_.row 0 _ rfl;have u1:=h_.row 1 _ rfl;clear h_)
   | (have _:=H2;go_at_call 72;(with_reducible refine(K2.out _).mono ?_);rintro e w3 ⟨rfl,hb⟩;have H3:=hid (H2.out.below hb);clear hb x0 x1 y0 y1 z0 z1 u0 u1;have h_:=H3.out.row (w.heap.size,[.int .i64 a.x,.int .i64 a.y]) (by simp);have x0:=h_.row 0 _ rfl;have x1:=h_.row 1 _ rfl;clear h_;have h_:=H3.out.row (w.heap.size+1,[.int .i64 b.x,.int .i64 b.y]) (by simp);have y0:=h_.row 0 _ rfl;have y1:=h_.row 1 _ rfl;clear h_;have h_:=H3.out.row (w.heap.size+2,[.int .i64 c.x,.int .i64 c.y]) (by simp);have z0:=h_.row 0 _ rfl;have z1:=h_.row 1 _ rfl;clear h_;have h_:=H3.out.row (w.heap.size+3,[.int .i64 d.x,.int .i64 d.y]) (by simp);have u0:=h_.row 0 _ rfl;have u1:=h_.row 1 _ rfl;clear h_)
   | (have _:=H1;go_at_call 72;(with_reducible refine(K1.out _).mono ?_);rintro e w2 ⟨rfl,hb⟩;have H2:=hid (H1.out.below hb);clear hb x0 x1 y0 y1 z0 z1 u0 u1;have h_:=H2.out.row (w.heap.size,[.int .i64 a.x,.int .i64 a.y]) (by simp);have x0:=h_.row 0 _ rfl;have x1:=h_.row 1 _ rfl;clear h_;have h_:=H2.out.row (w.heap.size+1,[.int .i64 b.x,.int .i64 b.y]) (by simp);have y0:=h_.row 0 _ rfl;have y1:=h_.row 1 _ rfl;clear h_;have h_:=H2.out.row (w.heap.size+2,[.int .i64 c.x,.int .i64 c.y]) (by simp);have z0:=h_.row 0 _ rfl;have z1:=h_.row 1 _ rfl;clear h_;have h_:=H2.out.row (w.heap.size+3,[.int .i64 d.x,.int .i64 d.y]) (by simp);have u0:=h_.row 0 _ rfl;have u1:=h_.row 1 _ rfl;clear h_)
   | (go_at_call 40;(with_reducible refine(KP.out _ _ _ (PsAt.of (H0.out.at (B:=w.heap.size+4) (l:=plC [a,b,c,d]) (by simp[plC])))).mono ?_);rintro e w1 ⟨rfl,hb⟩;have H1:=hid (H0.out.below hb);clear hb;have h_:=H1.out.row (w.heap.size,[.int .i64 a.x,.int .i64 a.y]) (by simp);have x0:=h_.row 0 _ rfl;have x1:=h_.row 1 _ rfl;clear h_;have h_:=H1.out.row (w.heap.size+1,[.int .i64 b.x,.int .i64 b.y]) (by simp);have y0:=h_.row 0 _ rfl;have y1:=h_.row 1 _ rfl;clear h_;have h_:=H1.out.row (w.heap.size+2,[.int .i64 c.x,.int .i64 c.y]) (by simp);have z0:=h_.row 0 _ rfl;have z1:=h_.row 1 _ rfl;clear h_;have h_:=H1.out.row (w.heap.size+3,[.int .i64 d.x,.int .i64 d.y]) (by simp);have u0:=h_.row 0 _ rfl;have u1:=h_.row 1 _ rfl;clear h_)
   | fail))
  any_goals (go_ret;exact⟨rfl,by first|exact H5.out.bw|exact H4.out.bw|exact H3.out.bw|exact H2.out.bw⟩)
  clear x0 x1 y0 y1 z0 z1 u0 u1
  have h_:=H5.out.row (w.heap.size,[.int .i64 a.x,.int .i64 a.y]) (by simp)
  have x0:=cell_regrown (h_.row 0 _ rfl)
  have x1:=cell_regrown (h_.row 1 _ rfl)
  clear h_
  have h_:=H5.out.row (w.heap.size+1,[.int .i64 b.x,.int .i64 b.y]) (by simp)
  have y0:=cell_regrown (h_.row 0 _ rfl)
  have y1:=cell_regrown (h_.row 1 _ rfl)
  clear h_
  have h_:=H5.out.row (w.heap.size+2,[.int .i64 c.x,.int .i64 c.y]) (by simp)
  have z0:=cell_regrown (h_.row 0 _ rfl)
  have z1:=cell_regrown (h_.row 1 _ rfl)
  clear h_
  have h_:=H5.out.row (w.heap.size+3,[.int .i64 d.x,.int .i64 d.y]) (by simp)
  have u0:=cell_regrown (h_.row 0 _ rfl)
  have u1:=cell_regrown (h_.row 1 _ rfl)
  clear h_
  have cT1:=fun d os=>Calls.regrown_of (d:=d) (os:=os) (T1.out (grow (redrawn w5 d) os))
  have cT2:=fun d os=>Calls.regrown_of (d:=d) (os:=os) (T2.out (grow (redrawn w5 d) os))
  have cT3:=fun d os=>Calls.regrown_of (d:=d) (os:=os) (T3.out (grow (redrawn w5 d) os))
  have cT4:=fun d os=>Calls.regrown_of (d:=d) (os:=os) (T4.out (grow (redrawn w5 d) os))
  have cS1:=fun d os=>Calls.regrown_of (d:=d) (os:=os) (S1.out (grow (redrawn w5 d) os))
  have cS2:=fun d os=>Calls.regrown_of (d:=d) (os:=os) (S2.out (grow (redrawn w5 d) os))
  have cS3:=fun d os=>Calls.regrown_of (d:=d) (os:=os) (S3.out (grow (redrawn w5 d) os))
  have cS4:=fun d os=>Calls.regrown_of (d:=d) (os:=os) (S4.out (grow (redrawn w5 d) os))
  obtain⟨d1,e1⟩:∃d,decide (σ1*σ2<0)=d:=⟨_,rfl⟩
  cases d1 <;>
  (refine wp_region_quiet_below (by kernel_rfl) (by kernel_rfl) ?_
   repeat (go_big_quiet_step (with_reducible first|exact cT1 _ _|exact cT2 _ _|exact cT3 _ _|exact cT4 _ _|exact cS1 _ _|exact cS2 _ _|exact cS3 _ _|exact cS4 _ _))
   refine wpQuiet_nil ?_
   intro W6 hw6
   have hb6:Below w5.heap.size w5 W6:=by obtain⟨⟨dq,osq⟩,hw7⟩:=hw6;rw[hw7];exact below_regrown w5 dq osq
   have H6:=hid (H5.out.below hb6)
   clear hw6 hb6 cT1 cT2 cT3 cT4 cS1 cS2 cS3 cS4 x0 x1 y0 y1 z0 z1 u0 u1
   go_wp2
   go_ret
   exact⟨by first|rfl|simp[e1],H6.out.bw⟩)
theorem aKX {p a b:Pl} (hv:(vP p&&vP a&&vP b)=false) (w:World) :
  Calls Tryz.prog 24 #[.agg #[.int .i64 p.x,.int .i64 p.y],.agg #[.int .i64 a.x,.int .i64 a.y],.agg #[.int .i64 b.x,.int .i64 b.y]] w fun e W'=>e=.returned (.tuple #[.agg #[.string ⟨#[]⟩,.string ⟨#[]⟩],.int .i64 70])∧Below w.heap.size w W':=by
 have KP:=hid (fun(cap:Nat) (B:Nat) (W:World) (h:PsAt B [p,a,b] W)=>by have:=mZ_ (cap:=cap) (n:=3) rfl (by decide) W h;rw[few3] at this;exact this)
 rw[hv] at KP
 clear hv
 have H0:=hid (show AzAt [(w.heap.size+4,[.int .i64 p.x,.int .i64 p.y,.int .i64 a.x,.int .i64 a.y,.int .i64 b.x,.int .i64 b.y]),(w.heap.size+3,[.string ⟨#[]⟩,.string ⟨#[]⟩]),(w.heap.size+2,[.int .i64 b.x,.int .i64 b.y]),(w.heap.size+1,[.int .i64 a.x,.int .i64 a.y]),(w.heap.size,[.int .i64 p.x,.int .i64 p.y])] w _ from by have hp:=(((((AzAt.start w).push [.int .i64 p.x,.int .i64 p.y] 26).push [.int .i64 a.x,.int .i64 a.y] 26).push [.int .i64 b.x,.int .i64 b.y] 26).push [.string ⟨#[]⟩,.string ⟨#[]⟩] 47).push [.int .i64 p.x,.int .i64 p.y,.int .i64 a.x,.int .i64 a.y,.int .i64 b.x,.int .i64 b.y] 26;simp only[World.size_alloc] at hp;exact hp)
 go_enter Tryz.func24,Tryz.ntmps24
 go_wp2_with (first
  | (go_at_call 40;(with_reducible refine(KP.out _ _ _ (PsAt.of (H0.out.at (B:=w.heap.size+4) (l:=plC [p,a,b]) (by simp[plC])))).mono ?_);rintro e w1 ⟨rfl,hb⟩;have H1:=hid (H0.out.below hb);clear hb;have h_:=H1.out.row (w.heap.size+3,[.string ⟨#[]⟩,.string ⟨#[]⟩]) (by simp);have x0:=h_.row 0 _ rfl;have x1:=h_.row 1 _ rfl;have z0:=h_.fz 0 (by simp);have z1:=h_.fz 1 (by simp);clear h_)
  | fail)
 have hp:=(H1.out.sub (L':=[(w.heap.size+3,[.string ⟨#[]⟩,.string ⟨#[]⟩])]) (fun x hx=>by simp at hx;subst hx;simp)).set2 (by omega) (by simp <;> omega) (.string ⟨#[]⟩) (.string ⟨#[]⟩)
 generalize ((w1.setCell ⟨w.heap.size+3,0,none⟩ (.string ⟨#[]⟩)).setCell ⟨w.heap.size+3,1,none⟩ (.string ⟨#[]⟩))=WF at hp⊢
 have h_:=hp.row (w.heap.size+3,[.string ⟨#[]⟩,.string ⟨#[]⟩]) (by simp)
 have q0:=h_.row 0 _ rfl
 have q1:=h_.row 1 _ rfl
 clear h_
 refine bodyPost_ret (v:=.tuple #[.agg #[.string ⟨#[]⟩,.string ⟨#[]⟩],.int .i64 70]) ?_ rfl ⟨rfl,hp.bw⟩
 simp[results,Tryz.results24,go_sem,Result.andThen,q0,q1]
theorem aGX {p a b:Pl} (hp:vP p=true) (ha:vP a=true) (hb:vP b=true) (w:World) :
  Calls Tryz.prog 24 #[.agg #[.int .i64 p.x,.int .i64 p.y],.agg #[.int .i64 a.x,.int .i64 a.y],.agg #[.int .i64 b.x,.int .i64 b.y]] w fun e W'=>e=.returned (.tuple #[.agg #[.string (qN (some (dRat p a b))),.string (qD (some (dRat p a b)))],.int .i64 0])∧Below w.heap.size w W':=by
 have KP:=hid (fun(cap:Nat) (B:Nat) (W:World) (h:PsAt B [p,a,b] W)=>by have:=mZ_ (cap:=cap) (n:=3) rfl (by decide) W h;rw[few3] at this;exact this)
 rw[hp,ha,hb] at KP
 simp only[Bool.and_self] at KP
 have v1:=aT_.1 hp
 have v2:=aT_.1 ha
 have v3:=aT_.1 hb
 have KL:=hid (fun W=>wA_ ha hb W)
 have KA:=hid (fun W=>wA_ hp ha W)
 have KB:=hid (fun W=>wA_ hp hb W)
 have KT:=hid (fun W=>nY_ ha hb hp W)
 have s1:=aBG ha hb
 have s2:=aBG hp ha
 have s3:=aBG hp hb
 have tb:=aMK ha hb hp
 obtain⟨p1,p2⟩:=cG_ (u:=p.x-a.x) (v:=b.x-a.x) (by omega) (by omega)
 obtain⟨p3,p4⟩:=cG_ (u:=p.y-a.y) (v:=b.y-a.y) (by omega) (by omega)
 obtain⟨p5,p6⟩:=zJ_ (u:=aA_ a b p) (v:=aA_ a b p) (by omega) (by omega)
 have g1:IntKind.i64.wrap (p.x-a.x)=p.x-a.x:=IntWalk.i64_in _ (by omega)
 have g2:IntKind.i64.wrap (b.x-a.x)=b.x-a.x:=IntWalk.i64_in _ (by omega)
 have g3:IntKind.i64.wrap (p.y-a.y)=p.y-a.y:=IntWalk.i64_in _ (by omega)
 have g4:IntKind.i64.wrap (b.y-a.y)=b.y-a.y:=IntWalk.i64_in _ (by omega)
 have g5:IntKind.i64.wrap ((p.x-a.x)*(b.x-a.x))=(p.x-a.x)*(b.x-a.x):=IntWalk.i64_in _ (by omega)
 have g6:IntKind.i64.wrap ((p.y-a.y)*(b.y-a.y))=(p.y-a.y)*(b.y-a.y):=IntWalk.i64_in _ (by omega)
 have g7:IntKind.i64.wrap ((p.x-a.x)*(b.x-a.x)+(p.y-a.y)*(b.y-a.y))=alP p a b:=IntWalk.i64_in _ (by omega)
 have g8:IntKind.i64.wrap (aA_ a b p*aA_ a b p)=aA_ a b p*aA_ a b p:=IntWalk.i64_in _ (by omega)
 have hq:=qP_ a b
 have H0:=hid (show AzAt [(w.heap.size+4,[.int .i64 p.x,.int .i64 p.y,.int .i64 a.x,.int .i64 a.y,.int .i64 b.x,.int .i64 b.y]),(w.heap.size+3,[.string ⟨#[]⟩,.string ⟨#[]⟩]),(w.heap.size+2,[.int .i64 b.x,.int .i64 b.y]),(w.heap.size+1,[.int .i64 a.x,.int .i64 a.y]),(w.heap.size,[.int .i64 p.x,.int .i64 p.y])] w _ from by have hp:=(((((AzAt.start w).push [.int .i64 p.x,.int .i64 p.y] 26).push [.int .i64 a.x,.int .i64 a.y] 26).push [.int .i64 b.x,.int .i64 b.y] 26).push [.string ⟨#[]⟩,.string ⟨#[]⟩] 47).push [.int .i64 p.x,.int .i64 p.y,.int .i64 a.x,.int .i64 a.y,.int .i64 b.x,.int .i64 b.y] 26;simp only[World.size_alloc] at hp;exact hp)
 by_cases d1:alP p a b≤0
 ·have e1:decide (alP p a b≤0)=true:=decide_eq_true d1
  have eR:dRat p a b=Rat.divInt (sqP p a) 1:=by unfold dRat dNum dDen;rw[if_pos d1,if_pos d1]
  have KO:=hid (fun(W:World)=>Of_f (n:=sqP p a) (d:=1) (by omega) (by omega) (by omega) (by omega) W)
  rw[show aO_ (sqP p a) (1)=some (Rat.divInt (sqP p a) (1)) from if_neg (by omega)] at KO
  rw[eR]
  rw[show qE (some (Rat.divInt (sqP p a) (1)))=0 from rfl] at KO
  generalize qN (some (Rat.divInt (sqP p a) (1)))=rn at KO⊢
  generalize qD (some (Rat.divInt (sqP p a) (1)))=rd at KO⊢
  clear eR hp ha hb v1 v2 v3 s1 s2 s3 tb p1 p2 p3 p4 p5 p6 hq
  generalize sqP a b=sab at *
  generalize sqP p a=spa at *
  generalize sqP p b=spb at *
  generalize alP p a b=al at *
  generalize aA_ a b p=τ at *
  go_enter Tryz.func24,Tryz.ntmps24
  go_wp2_with (first
   | (go_at_call 40;(with_reducible refine(KP.out _ _ _ (PsAt.of (H0.out.at (B:=w.heap.size+4) (l:=plC [p,a,b]) (by simp[plC])))).mono ?_);rintro e w1 ⟨rfl,hb⟩;have H1:=hid (H0.out.below hb);clear hb;have h_:=H1.out.row (w.heap.size,[.int .i64 p.x,.int .i64 p.y]) (by simp);have x0:=h_.row 0 _ rfl;have x1:=h_.row 1 _ rfl;clear h_;have h_:=H1.out.row (w.heap.size+1,[.int .i64 a.x,.int .i64 a.y]) (by simp);have y0:=h_.row 0 _ rfl;have y1:=h_.row 1 _ rfl;clear h_;have h_:=H1.out.row (w.heap.size+2,[.int .i64 b.x,.int .i64 b.y]) (by simp);have z0:=h_.row 0 _ rfl;have z1:=h_.row 1 _ rfl;clear h_)
   | (go_at_call 52;(with_reducible refine(KL.out _).mono ?_);rintro e w2 ⟨rfl,hb⟩;have H2:=hid (H1.out.below hb);clear hb x0 x1 y0 y1 z0 z1)
   | fail)
  have h_:=H2.out.row (w.heap.size,[.int .i64 p.x,.int .i64 p.y]) (by simp)
  have x0:=cell_regrown (h_.row 0 _ rfl)
  have x1:=cell_regrown (h_.row 1 _ rfl)
  clear h_
  have h_:=H2.out.row (w.heap.size+1,[.int .i64 a.x,.int .i64 a.y]) (by simp)
  have y0:=cell_regrown (h_.row 0 _ rfl)
  have y1:=cell_regrown (h_.row 1 _ rfl)
  clear h_
  have h_:=H2.out.row (w.heap.size+2,[.int .i64 b.x,.int .i64 b.y]) (by simp)
  have z0:=cell_regrown (h_.row 0 _ rfl)
  have z1:=cell_regrown (h_.row 1 _ rfl)
  clear h_
  have cT:=fun d os=>Calls.regrown_of (d:=d) (os:=os) (KT.out (grow (redrawn w2 d) os))
  refine wp_region_quiet_below (by kernel_rfl) (by kernel_rfl) ?_
  repeat (go_big_quiet_step (with_reducible first|exact cT _ _))
  refine wpQuiet_nil ?_
  intro W3 hw3
  have hb3:Below w2.heap.size w2 W3:=by obtain⟨⟨dq,osq⟩,hw7⟩:=hw3;rw[hw7];exact below_regrown w2 dq osq
  have H3:=hid (H2.out.below hb3)
  clear hw3 hb3 cT x0 x1 y0 y1 z0 z1
  have h_:=H3.out.row (w.heap.size,[.int .i64 p.x,.int .i64 p.y]) (by simp)
  have x0:=h_.row 0 _ rfl
  have x1:=h_.row 1 _ rfl
  clear h_
  have h_:=H3.out.row (w.heap.size+1,[.int .i64 a.x,.int .i64 a.y]) (by simp)
  have y0:=h_.row 0 _ rfl
  have y1:=h_.row 1 _ rfl
  clear h_
  have h_:=H3.out.row (w.heap.size+2,[.int .i64 b.x,.int .i64 b.y]) (by simp)
  have z0:=h_.row 0 _ rfl
  have z1:=h_.row 1 _ rfl
  clear h_
  go_wp2_with (first
   | (go_at_call 52;(with_reducible refine(KA.out _).mono ?_);rintro e w4 ⟨rfl,hb⟩;have H4:=hid (H3.out.below hb);clear hb x0 x1 y0 y1 z0 z1)
   | (go_at_call 69;(with_reducible refine(KO.out _).mono ?_);rintro e w5 ⟨rfl,hb⟩;have hp:=AzAt.al (H4.out.below hb) (.cells #[.string rn,.string rd] 47);have h_:=hp.row (w.heap.size+3,[.string ⟨#[]⟩,.string ⟨#[]⟩]) (by simp);have q0:=h_.row 0 _ rfl;have q1:=h_.row 1 _ rfl;have z0:=h_.fz 0 (by simp);have z1:=h_.fz 1 (by simp);clear h_;have H5:=hid hp;clear hb hp)
   | fail)
  have hp:=(H5.out.sub (L':=[(w.heap.size+3,[.string ⟨#[]⟩,.string ⟨#[]⟩])]) (fun x hx=>by simp at hx;subst hx;simp)).set2 (by omega) (by simp <;> omega) (.string rn) (.string rd)
  generalize (((w5.alloc (.cells #[.string rn,.string rd] 47)).setCell ⟨w.heap.size+3,0,none⟩ (.string rn)).setCell ⟨w.heap.size+3,1,none⟩ (.string rd))=WF at hp⊢
  have h_:=hp.row (w.heap.size+3,[.string rn,.string rd]) (by simp)
  have q0:=h_.row 0 _ rfl
  have q1:=h_.row 1 _ rfl
  clear h_
  refine bodyPost_ret (v:=.tuple #[.agg #[.string rn,.string rd],.int .i64 0]) ?_ rfl ⟨rfl,hp.bw⟩
  simp[results,Tryz.results24,go_sem,Result.andThen,q0,q1]
 ·have e1:decide (alP p a b≤0)=false:=decide_eq_false d1
  by_cases d3:sqP a b≤alP p a b
  ·have e2:decide (sqP a b≤alP p a b)=true:=decide_eq_true d3
   have eR:dRat p a b=Rat.divInt (sqP p b) 1:=by unfold dRat dNum dDen;rw[if_neg d1,if_pos d3,if_neg d1,if_pos d3]
   have KO:=hid (fun(W:World)=>Of_f (n:=sqP p b) (d:=1) (by omega) (by omega) (by omega) (by omega) W)
   rw[show aO_ (sqP p b) (1)=some (Rat.divInt (sqP p b) (1)) from if_neg (by omega)] at KO
   rw[eR]
   rw[show qE (some (Rat.divInt (sqP p b) (1)))=0 from rfl] at KO
   generalize qN (some (Rat.divInt (sqP p b) (1)))=rn at KO⊢
   generalize qD (some (Rat.divInt (sqP p b) (1)))=rd at KO⊢
   clear eR hp ha hb v1 v2 v3 s1 s2 s3 tb p1 p2 p3 p4 p5 p6 hq
   generalize sqP a b=sab at *
   generalize sqP p a=spa at *
   generalize sqP p b=spb at *
   generalize alP p a b=al at *
   generalize aA_ a b p=τ at *
   go_enter Tryz.func24,Tryz.ntmps24
   go_wp2_with (first
    | (go_at_call 40;(with_reducible refine(KP.out _ _ _ (PsAt.of (H0.out.at (B:=w.heap.size+4) (l:=plC [p,a,b]) (by simp[plC])))).mono ?_);rintro e w1 ⟨rfl,hb⟩;have H1:=hid (H0.out.below hb);clear hb;have h_:=H1.out.row (w.heap.size,[.int .i64 p.x,.int .i64 p.y]) (by simp);have x0:=h_.row 0 _ rfl;have x1:=h_.row 1 _ rfl;clear h_;have h_:=H1.out.row (w.heap.size+1,[.int .i64 a.x,.int .i64 a.y]) (by simp);have y0:=h_.row 0 _ rfl;have y1:=h_.row 1 _ rfl;clear h_;have h_:=H1.out.row (w.heap.size+2,[.int .i64 b.x,.int .i64 b.y]) (by simp);have z0:=h_.row 0 _ rfl;have z1:=h_.row 1 _ rfl;clear h_)
    | (go_at_call 52;(with_reducible refine(KL.out _).mono ?_);rintro e w2 ⟨rfl,hb⟩;have H2:=hid (H1.out.below hb);clear hb x0 x1 y0 y1 z0 z1)
    | fail)
   have h_:=H2.out.row (w.heap.size,[.int .i64 p.x,.int .i64 p.y]) (by simp)
   have x0:=cell_regrown (h_.row 0 _ rfl)
   have x1:=cell_regrown (h_.row 1 _ rfl)
   clear h_
   have h_:=H2.out.row (w.heap.size+1,[.int .i64 a.x,.int .i64 a.y]) (by simp)
   have y0:=cell_regrown (h_.row 0 _ rfl)
   have y1:=cell_regrown (h_.row 1 _ rfl)
   clear h_
   have h_:=H2.out.row (w.heap.size+2,[.int .i64 b.x,.int .i64 b.y]) (by simp)
   have z0:=cell_regrown (h_.row 0 _ rfl)
   have z1:=cell_regrown (h_.row 1 _ rfl)
   clear h_
   have cT:=fun d os=>Calls.regrown_of (d:=d) (os:=os) (KT.out (grow (redrawn w2 d) os))
   refine wp_region_quiet_below (by kernel_rfl) (by kernel_rfl) ?_
   repeat (go_big_quiet_step (with_reducible first|exact cT _ _))
   refine wpQuiet_nil ?_
   intro W3 hw3
   have hb3:Below w2.heap.size w2 W3:=by obtain⟨⟨dq,osq⟩,hw7⟩:=hw3;rw[hw7];exact below_regrown w2 dq osq
   have H3:=hid (H2.out.below hb3)
   clear hw3 hb3 cT x0 x1 y0 y1 z0 z1
   have h_:=H3.out.row (w.heap.size,[.int .i64 p.x,.int .i64 p.y]) (by simp)
   have x0:=h_.row 0 _ rfl
   have x1:=h_.row 1 _ rfl
   clear h_
   have h_:=H3.out.row (w.heap.size+1,[.int .i64 a.x,.int .i64 a.y]) (by simp)
   have y0:=h_.row 0 _ rfl
   have y1:=h_.row 1 _ rfl
   clear h_
   have h_:=H3.out.row (w.heap.size+2,[.int .i64 b.x,.int .i64 b.y]) (by simp)
   have z0:=h_.row 0 _ rfl
   have z1:=h_.row 1 _ rfl
   clear h_
   go_wp2_with (first
    | (go_at_call 52;(with_reducible refine(KB.out _).mono ?_);rintro e w4 ⟨rfl,hb⟩;have H4:=hid (H3.out.below hb);clear hb x0 x1 y0 y1 z0 z1)
    | (go_at_call 69;(with_reducible refine(KO.out _).mono ?_);rintro e w5 ⟨rfl,hb⟩;have hp:=AzAt.al (H4.out.below hb) (.cells #[.string rn,.string rd] 47);have h_:=hp.row (w.heap.size+3,[.string ⟨#[]⟩,.string ⟨#[]⟩]) (by simp);have q0:=h_.row 0 _ rfl;have q1:=h_.row 1 _ rfl;have z0:=h_.fz 0 (by simp);have z1:=h_.fz 1 (by simp);clear h_;have H5:=hid hp;clear hb hp)
    | fail)
   have hp:=(H5.out.sub (L':=[(w.heap.size+3,[.string ⟨#[]⟩,.string ⟨#[]⟩])]) (fun x hx=>by simp at hx;subst hx;simp)).set2 (by omega) (by simp <;> omega) (.string rn) (.string rd)
   generalize (((w5.alloc (.cells #[.string rn,.string rd] 47)).setCell ⟨w.heap.size+3,0,none⟩ (.string rn)).setCell ⟨w.heap.size+3,1,none⟩ (.string rd))=WF at hp⊢
   have h_:=hp.row (w.heap.size+3,[.string rn,.string rd]) (by simp)
   have q0:=h_.row 0 _ rfl
   have q1:=h_.row 1 _ rfl
   clear h_
   refine bodyPost_ret (v:=.tuple #[.agg #[.string rn,.string rd],.int .i64 0]) ?_ rfl ⟨rfl,hp.bw⟩
   simp[results,Tryz.results24,go_sem,Result.andThen,q0,q1]
  ·have e2:decide (sqP a b≤alP p a b)=false:=decide_eq_false d3
   have eR:dRat p a b=Rat.divInt (aA_ a b p*aA_ a b p) (sqP a b):=by unfold dRat dNum dDen;rw[if_neg d1,if_neg d3,if_neg d1,if_neg d3]
   have KO:=hid (fun(W:World)=>Of_f (n:=aA_ a b p*aA_ a b p) (d:=sqP a b) (by omega) (by omega) (by omega) (by omega) W)
   rw[show aO_ (aA_ a b p*aA_ a b p) (sqP a b)=some (Rat.divInt (aA_ a b p*aA_ a b p) (sqP a b)) from if_neg (by omega)] at KO
   rw[eR]
   rw[show qE (some (Rat.divInt (aA_ a b p*aA_ a b p) (sqP a b)))=0 from rfl] at KO
   generalize qN (some (Rat.divInt (aA_ a b p*aA_ a b p) (sqP a b)))=rn at KO⊢
   generalize qD (some (Rat.divInt (aA_ a b p*aA_ a b p) (sqP a b)))=rd at KO⊢
   clear eR hp ha hb v1 v2 v3 s1 s2 s3 tb p1 p2 p3 p4 p5 p6 hq
   generalize sqP a b=sab at *
   generalize sqP p a=spa at *
   generalize sqP p b=spb at *
   generalize alP p a b=al at *
   generalize aA_ a b p=τ at *
   go_enter Tryz.func24,Tryz.ntmps24
   go_wp2_with (first
    | (go_at_call 40;(with_reducible refine(KP.out _ _ _ (PsAt.of (H0.out.at (B:=w.heap.size+4) (l:=plC [p,a,b]) (by simp[plC])))).mono ?_);rintro e w1 ⟨rfl,hb⟩;have H1:=hid (H0.out.below hb);clear hb;have h_:=H1.out.row (w.heap.size,[.int .i64 p.x,.int .i64 p.y]) (by simp);have x0:=h_.row 0 _ rfl;have x1:=h_.row 1 _ rfl;clear h_;have h_:=H1.out.row (w.heap.size+1,[.int .i64 a.x,.int .i64 a.y]) (by simp);have y0:=h_.row 0 _ rfl;have y1:=h_.row 1 _ rfl;clear h_;have h_:=H1.out.row (w.heap.size+2,[.int .i64 b.x,.int .i64 b.y]) (by simp);have z0:=h_.row 0 _ rfl;have z1:=h_.row 1 _ rfl;clear h_)
    | (go_at_call 52;(with_reducible refine(KL.out _).mono ?_);rintro e w2 ⟨rfl,hb⟩;have H2:=hid (H1.out.below hb);clear hb x0 x1 y0 y1 z0 z1)
    | fail)
   have h_:=H2.out.row (w.heap.size,[.int .i64 p.x,.int .i64 p.y]) (by simp)
   have x0:=cell_regrown (h_.row 0 _ rfl)
   have x1:=cell_regrown (h_.row 1 _ rfl)
   clear h_
   have h_:=H2.out.row (w.heap.size+1,[.int .i64 a.x,.int .i64 a.y]) (by simp)
   have y0:=cell_regrown (h_.row 0 _ rfl)
   have y1:=cell_regrown (h_.row 1 _ rfl)
   clear h_
   have h_:=H2.out.row (w.heap.size+2,[.int .i64 b.x,.int .i64 b.y]) (by simp)
   have z0:=cell_regrown (h_.row 0 _ rfl)
   have z1:=cell_regrown (h_.row 1 _ rfl)
   clear h_
   have cT:=fun d os=>Calls.regrown_of (d:=d) (os:=os) (KT.out (grow (redrawn w2 d) os))
   refine wp_region_quiet_below (by kernel_rfl) (by kernel_rfl) ?_
   repeat (go_big_quiet_step (with_reducible first|exact cT _ _))
   refine wpQuiet_nil ?_
   intro W3 hw3
   have hb3:Below w2.heap.size w2 W3:=by obtain⟨⟨dq,osq⟩,hw7⟩:=hw3;rw[hw7];exact below_regrown w2 dq osq
   have H3:=hid (H2.out.below hb3)
   clear hw3 hb3 cT x0 x1 y0 y1 z0 z1
   go_wp2_with (first
    | (go_at_call 69;(with_reducible refine(KO.out _).mono ?_);rintro e w5 ⟨rfl,hb⟩;have hp:=AzAt.al (H3.out.below hb) (.cells #[.string rn,.string rd] 47);have h_:=hp.row (w.heap.size+3,[.string ⟨#[]⟩,.string ⟨#[]⟩]) (by simp);have q0:=h_.row 0 _ rfl;have q1:=h_.row 1 _ rfl;have z0:=h_.fz 0 (by simp);have z1:=h_.fz 1 (by simp);clear h_;have H5:=hid hp;clear hb hp)
    | fail)
   have hp:=(H5.out.sub (L':=[(w.heap.size+3,[.string ⟨#[]⟩,.string ⟨#[]⟩])]) (fun x hx=>by simp at hx;subst hx;simp)).set2 (by omega) (by simp <;> omega) (.string rn) (.string rd)
   generalize (((w5.alloc (.cells #[.string rn,.string rd] 47)).setCell ⟨w.heap.size+3,0,none⟩ (.string rn)).setCell ⟨w.heap.size+3,1,none⟩ (.string rd))=WF at hp⊢
   have h_:=hp.row (w.heap.size+3,[.string rn,.string rd]) (by simp)
   have q0:=h_.row 0 _ rfl
   have q1:=h_.row 1 _ rfl
   clear h_
   refine bodyPost_ret (v:=.tuple #[.agg #[.string rn,.string rd],.int .i64 0]) ?_ rfl ⟨rfl,hp.bw⟩
   simp[results,Tryz.results24,go_sem,Result.andThen,q0,q1]
theorem aGU {α:Type} {h:List α} {i:Nat} {a b:α} (ha:h[i]?=some a) (hb:h[(i+1)%h.length]?=some b):(edC h)[i]?=some (a,b):=by
 obtain⟨hi,_⟩:=List.getElem?_eq_some_iff.1 ha
 unfold edC
 rw[List.getElem?_zip_eq_some]
 refine⟨ha,?_⟩
 show(h.drop 1++h.take 1)[i]?=some b
 by_cases h1:i+1<h.length
 ·rw[Nat.mod_eq_of_lt h1] at hb
  rw[List.getElem?_append_left (by simp;omega),List.getElem?_drop,Nat.add_comm]
  exact hb
 ·have h2:i+1=h.length:=by omega
  rw[h2,Nat.mod_self] at hb
  rw[List.getElem?_append_right (by simp;omega),show i-(h.drop 1).length=0 by simp;omega,List.getElem?_take,if_pos (by omega)]
  exact hb
def outI (ax:Nat) (t keep:Int) (l:List PO) (i:Nat):List PO:=((edC l).take i).flatMap fun e=>emO ax t keep e.1 e.2
theorem aFA {ax:Nat} {t keep:Int} {l:List PO} {i:Nat} {p q:PO} (hp:l[i]?=some p) (hq:l[(i+1)%l.length]?=some q):outI ax t keep l (i+1)=outI ax t keep l i++emO ax t keep p q:=by
 unfold outI
 rw[List.take_add_one,aGU hp hq]
 simp
theorem zT_ (ax:Nat) (t keep:Int) (l:List PO):outI ax t keep l l.length=cutO ax t keep l:=by
 unfold outI cutO
 rw[List.take_of_length_le (by rw[xY_];exact Nat.le_refl _)]
theorem aQI (ax:Nat) (t keep:Int) (p q:PO):(emO ax t keep p q).length≤2:=by
 unfold emO
 split <;> split <;> simp
theorem zS_ (ax:Nat) (t keep:Int) (l:List PO) (i:Nat):(outI ax t keep l i).length≤2*i:=by
 have gen:∀es:List (PO×PO),(es.flatMap fun e=>emO ax t keep e.1 e.2).length≤2*es.length:=by
  intro es
  induction es with
  | nil=>simp
  | cons e es ih=>
   rw[List.flatMap_cons,List.length_append,List.length_cons]
   have:=aQI ax t keep e.1 e.2
   omega
 have:=gen ((edC l).take i)
 have h2:((edC l).take i).length≤i:=List.length_take_le _ _
 unfold outI
 omega
theorem nP_ (ax:Nat) (t keep:Int) (l:List PO):(cutO ax t keep l).length≤2*l.length:=by
 rw[←zT_]
 exact zS_ _ _ _ _ _
theorem aQJ {α:Type} {l:List α} {e:α×α} (h:e∈edC l):e.1∈l∧e.2∈l:=by
 unfold edC at h
 have h1:=List.of_mem_zip (a:=e.1) (b:=e.2) h
 refine⟨h1.1,?_⟩
 rcases List.mem_append.1 h1.2 with h|h
 ·exact List.mem_of_mem_drop h
 ·exact List.mem_of_mem_take h
theorem tV_ {ax:Nat} {t keep:Int} {l:List PO} (h:∀p∈l,FO p.1∧FO p.2):∀p∈cutO ax t keep l,FO p.1∧FO p.2:=by
 intro p hp
 unfold cutO at hp
 obtain⟨e,he,hp⟩:=List.mem_flatMap.1 hp
 unfold emO at hp
 rcases List.mem_append.1 hp with hp|hp
 ·split at hp
  ·obtain rfl:p=e.1:=by simpa using hp
   exact h _ (aQJ he).1
  ·cases hp
 ·split at hp
  ·obtain rfl:p=midO ax t e.1 e.2:=by simpa using hp
   exact⟨FO.add _ _,FO.add _ _⟩
  ·cases hp
theorem aAS (x y:Option Rat) : -1≤gX_ x y∧gX_ x y≤1:=by
 unfold gX_
 split
 ·rename_i a b
  rcases jA_ a b with ⟨_,e⟩|⟨_,e⟩|⟨_,e⟩ <;> rw[e] <;> decide
 ·decide
def midC (m:PO) (k:Nat):List Value:=match k with
 | 0=>[.string ⟨#[]⟩,.string ⟨#[]⟩,.string ⟨#[]⟩,.string ⟨#[]⟩]
 | 1=>[.string (qN m.1),.string (qD m.1),.string ⟨#[]⟩,.string ⟨#[]⟩]
 | _=>poC m
theorem cmp_q {x y:Option Rat} (fx:FO x) (fy:FO y) (W:World):Calls Tryz.prog 88 #[.agg #[.string (qN x),.string (qD x)],.agg #[.string (qN y),.string (qD y)]] W fun e W'=>e=.returned (.int .i64 (gX_ x y))∧Below W.heap.size W W':=by
 have:=aIP (eV_ _ fx) (eW_ _ fx) (eV_ _ fy) (eW_ _ fy) W
 rw[aHR fx fy] at this
 exact this
theorem at_poC (p:PO) {ax:Nat} (hax:ax=0∨ax=1):(poC p)[ax*2]?=some (.string (qN (atO ax p)))∧(poC p)[ax*2+1]?=some (.string (qD (atO ax p))):=by
 rcases hax with rfl|rfl <;> exact⟨rfl,rfl⟩
theorem at_FO {p:PO} (h:FO p.1∧FO p.2) {ax:Nat} (hax:ax=0∨ax=1):FO (atO ax p):=by
 rcases hax with rfl|rfl
 ·exact h.1
 ·exact h.2
theorem cut_r {ax:Nat} (hax:ax=0∨ax=1) {t keep:Int} (t0 : -9223372036854775808≤t) (t1:t≤9223372036854775807) (hk : -1≤keep∧keep≤1) {l:List PO} {n cap:Nat} {a:Option Addr} (hl:l.length=n) (hn:n≤10000) (hF:∀p∈l,FO p.1∧FO p.2) (w:World) (h:PoAt a l w) :
  Calls Tryz.prog 60 #[.slice a n cap,.int .i64 (ax:Int),.int .i64 t,.int .i64 keep] w fun e W'=>(∃(a':Option Addr) (c':Nat),e=.returned (.slice a' (cutO ax t keep l).length c')∧PoAt a' (cutO ax t keep l) W')∧Below w.heap.size w W':=by
 have KW:=hid (fun W=>nU_ t0 t1 W)
 have fT:FO (whO t):=cM_ t0 t1
 have HF:=hid hF
 have HL:=hid hl
 have HP:=hid h
 have HT:=hid fT
 have HK:=hid hk
 have hmx:Tryz.prog.follows .mixedOrders=true:=by kernel_rfl
 have a1:(0:Int)≤(ax:Int):=by omega
 have a2:(ax:Int)<2:=by omega
 have a3:decide ((ax:Int)<2)=true:=decide_eq_true a2
 have a4:decide (ax<2)=true:=decide_eq_true (by omega)
 have HAT:=hid (fun p:PO=>at_poC p hax)
 have HAF:=hid (fun(p:PO) (h:FO p.1∧FO p.2)=>at_FO h hax)
 clear hax
 obtain⟨i0,hi0,hz0,hz1,hz2⟩:=info_parts rH_
 clear h hF hl fT hk t0 t1
 go_enter Tryz.func60,Tryz.ntmps60
 go_wp2
 go_loopw [9,10] (fun v9 v10 wr=>∃(i m:Nat) (a':Option Addr) (c':Nat),i≤n∧v10=.int .i64 (i:Int)∧v9=.slice a' m c'∧(outI ax t keep l i).length=m∧OyAt 82 (.slice a' m c') m (fC_ (outI ax t keep l i)) [] w wr) (fun _ v10 _=>n-(intOf v10).toNat)
 case atStart=>exact⟨0,0,none,0,Nat.zero_le _,rfl,rfl,rfl,OyAt.nil (AzAt.start w) _⟩
 case round=>
  obtain⟨i,m,a',c',hi,rfl,rfl,hm,hZ⟩:=hrel
  have HM:=hid hm
  have HZ:=hid hZ
  have hml:=zS_ ax t keep l i
  rw[hm] at hml
  clear hm hZ
  by_cases hlt:i<n
  ·obtain⟨m1,hm1⟩:∃m1,m1=(i+1)%n:=⟨_,rfl⟩
   have lt1:m1<n:=by rw[hm1];exact Nat.mod_lt _ (by omega)
   obtain⟨p,hp⟩:∃p,l[i]?=some p:=⟨l[i]'(by have:=HL.out;omega),List.getElem?_eq_getElem _⟩
   obtain⟨q,hq⟩:∃q,l[m1]?=some q:=⟨l[m1]'(by have:=HL.out;omega),List.getElem?_eq_getElem _⟩
   have HS:=hid (aFA (ax:=ax) (t:=t) (keep:=keep) hp (by rw[HL.out,←hm1];exact hq))
   obtain⟨b,hba,hbs⟩:=HP.out.addr (by have:=HL.out;omega)
   subst hba
   have HFp:=hid (HF.out p (List.mem_of_getElem? hp))
   have HFq:=hid (HF.out q (List.mem_of_getElem? hq))
   have hbw:b<wr.heap.size:=Nat.lt_of_lt_of_le hbs HZ.out.az.bw.size
   obtain⟨x0,x1,x2,x3⟩:=(HP.out.below HZ.out.az.bw).cells hp
   obtain⟨y0,y1,y2,y3⟩:=(HP.out.below HZ.out.az.bw).cells hq
   have FP:=hid (HAF.out p HFp.out)
   have FQ:=hid (HAF.out q HFq.out)
   have KC1:=hid (fun W=>cmp_q FP.out HT.out W)
   have KC2:=hid (fun W=>cmp_q FQ.out HT.out W)
   have r1:=aAS (atO ax p) (whO t)
   have r2:=aAS (atO ax q) (whO t)
   have HS:=hid (show outI ax t keep l (i+1)=outI ax t keep l i++((if 0≤gX_ (atO ax p) (whO t)*keep then [p] else [])++(if gX_ (atO ax p) (whO t)*keep*(gX_ (atO ax q) (whO t)*keep)<0 then [midO ax t p q] else [])) from HS.out)
   generalize gX_ (atO ax p) (whO t)=o1 at KC1 HS r1
   generalize gX_ (atO ax q) (whO t)=o2 at KC2 HS r2
   have q1:=uP_ r1 HK.out
   have q2:=uP_ r2 HK.out
   obtain⟨s1,hs1⟩:∃s1,s1=o1*keep:=⟨_,rfl⟩
   obtain⟨s2,hs2⟩:∃s2,s2=o2*keep:=⟨_,rfl⟩
   rw[←hs1] at q1 HS
   rw[←hs2] at q2 HS
   have g1:IntKind.i64.wrap (o1*keep)=s1:=by rw[hs1];exact IntWalk.i64_in _ (by omega)
   have g2:IntKind.i64.wrap (o2*keep)=s2:=by rw[hs2];exact IntWalk.i64_in _ (by omega)
   have g3:IntKind.i64.wrap (s1*s2)=s1*s2:=IntWalk.i64_in _ (by have:=uP_ q1 q2;omega)
   have g5:IntKind.i64.wrap ((i:Int)+1)=(i:Int)+1:=IntWalk.i64_in _ (by omega)
   have rem1:((i:Int)+1).tmod (n:Int)=(m1:Int):=by rw[hm1];rfl
   have n0:¬(n:Int)=0:=by omega
   have i1:(0:Int)≤(i:Int):=by omega
   have i2:(i:Int)<(n:Int):=by omega
   have i3:decide ((i:Int)<(n:Int))=true:=decide_eq_true i2
   have i4:decide (i<n)=true:=decide_eq_true (by omega)
   have j1:(0:Int)≤(m1:Int):=by omega
   have j2:(m1:Int)<(n:Int):=by omega
   clear hs1 hs2 r1 r2 q1 q2 hm1 hp hq
   go_wp2
   have HA:=hid ((HZ.out.push (poC p) 82).push (poC q) 82)
   rw[World.size_alloc] at HA
   obtain⟨X,hX⟩:∃X,X=wr.heap.size:=⟨_,rfl⟩
   have hwX:w.heap.size≤X:=by rw[hX];exact HZ.out.az.bw.size
   have HV:=hid (fun(c:Nat) (hc:X≤c)=>dV_ HZ.out (B:=c) (by omega))
   rw[←hX] at HA⊢
   unfold poC at HA
   generalize (wr.alloc (.cells #[.string (qN p.1),.string (qD p.1),.string (qN p.2),.string (qD p.2)] 82)).alloc (.cells #[.string (qN q.1),.string (qD q.1),.string (qN q.2),.string (qD q.2)] 82)=W1 at HA⊢
   clear x0 x1 x2 x3 y0 y1 y2 y3 hX HZ
   have x0:=cell_regrown ((HA.out.az.row (X,[.string (qN p.1),.string (qD p.1),.string (qN p.2),.string (qD p.2)]) (by simp)).row (ax*2) _ (HAT.out p).1)
   have x1:=cell_regrown ((HA.out.az.row (X,[.string (qN p.1),.string (qD p.1),.string (qN p.2),.string (qD p.2)]) (by simp)).row (ax*2+1) _ (HAT.out p).2)
   have cKW:=fun d os=>Calls.regrown_of (d:=d) (os:=os) (KW.out (grow (redrawn W1 d) os))
   have cKC1:=fun d os=>Calls.regrown_of (d:=d) (os:=os) (KC1.out (grow (redrawn W1 d) os))
   refine wp_region_quiet_below (by kernel_rfl) (by kernel_rfl) ?_
   repeat (go_big_quiet_step (with_reducible first|exact cKW _ _|exact cKC1 _ _))
   refine wpQuiet_nil ?_
   intro W2 hw2
   have hb2:Below W1.heap.size W1 W2:=by obtain⟨⟨dq,osq⟩,hw7⟩:=hw2;rw[hw7];exact below_regrown W1 dq osq
   have HB:=hid (HA.out.below hb2)
   clear hw2 hb2 cKW cKC1 x0 x1
   go_wp2
   have x0:=cell_regrown ((HB.out.az.row (X+1,[.string (qN q.1),.string (qD q.1),.string (qN q.2),.string (qD q.2)]) (by simp)).row (ax*2) _ (HAT.out q).1)
   have x1:=cell_regrown ((HB.out.az.row (X+1,[.string (qN q.1),.string (qD q.1),.string (qN q.2),.string (qD q.2)]) (by simp)).row (ax*2+1) _ (HAT.out q).2)
   have cKW:=fun d os=>Calls.regrown_of (d:=d) (os:=os) (KW.out (grow (redrawn W2 d) os))
   have cKC2:=fun d os=>Calls.regrown_of (d:=d) (os:=os) (KC2.out (grow (redrawn W2 d) os))
   refine wp_region_quiet_below (by kernel_rfl) (by kernel_rfl) ?_
   repeat (go_big_quiet_step (with_reducible first|exact cKW _ _|exact cKC2 _ _))
   refine wpQuiet_nil ?_
   intro W3 hw2
   have hb2:Below W2.heap.size W2 W3:=by obtain⟨⟨dq,osq⟩,hw7⟩:=hw2;rw[hw7];exact below_regrown W2 dq osq
   have HC:=hid (HB.out.below hb2)
   clear hw2 hb2 cKW cKC2 x0 x1
   by_cases c1:0≤s1
   ·have e1:decide (0≤s1)=true:=decide_eq_true c1
    rw[if_pos c1] at HS
    have h_:=HC.out.az.row (X,[.string (qN p.1),.string (qD p.1),.string (qN p.2),.string (qD p.2)]) (by simp)
    have z0:=h_.row 0 _ rfl
    have z1:=h_.row 1 _ rfl
    have z2:=h_.row 2 _ rfl
    have z3:=h_.row 3 _ rfl
    clear h_
    have hsq:=HC.out.az.bw.size
    by_cases c2:s1*s2<0
    ·have e2:decide (s1*s2<0)=true:=decide_eq_true c2
     rw[if_pos c2] at HS
     clear c1 c2
     go_wp2_with (at_builtin;refine wpList_append_own_at _ rfl _ _ 78 rfl w.heap.size 82 i0 (.agg #[.string ⟨#[]⟩,.string ⟨#[]⟩,.string ⟨#[]⟩,.string ⟨#[]⟩]) 4 64 Tryz.underlying78 hi0 hz0 hz1 hz2 rfl (by decide) (.slice a' m c') (m) (fC_ (outI ax t keep l i)) rfl (HC.out.own.alloc _) ⟨W3.heap.size,0,none⟩ 1 1 [.string (qN p.1),.string (qD p.1),.string (qN p.2),.string (qD p.2)] rfl rfl (nK_ _ _ _ _ _ _) (by simp[Value.oneCell']) (by unfold maxLen;omega) (by omega) (by simp;omega) ?_;intro v7 w7 hown' hgrow _ hat;have HK2:=hid (HC.out.append hown' hgrow hat);clear hown' hgrow hat)
     have hv7:∃g7 c7,v7=.slice (some ⟨g7,0,none⟩) (m+1) c7:=ownsRow_succ HK2.out.own
     obtain⟨g7,c7,rfl⟩:=hv7
     clear z0 z1 z2 z3 hsq
     have KS1:=hid (fun W=>sK_ HT.out FP.out W)
     have KS2:=hid (fun W=>sK_ FQ.out FP.out W)
     have KD:=hid (fun W=>(show Calls _ _ _ W fun e W'=>e=.returned (.agg #[.string (qN (prtO ax t p q)),.string (qD (prtO ax t p q))])∧Below W.heap.size W W' from aQK (x:=miO (whO t) (atO ax p)) (y:=miO (atO ax q) (atO ax p)) (FO.sub _ _) (FO.sub _ _) W))
     have HMid:=hid (show midO ax t p q=(plO p.1 (tiO (prtO ax t p q) (miO q.1 p.1)),plO p.2 (tiO (prtO ax t p q) (miO q.2 p.2))) from rfl)
     have HFr:=hid (show FO (prtO ax t p q) from FO.div _ _)
     generalize prtO ax t p q=pt at KD HMid HFr
     obtain⟨md,hmd⟩:∃md,md=midO ax t p q:=⟨_,rfl⟩
     rw[←hmd] at HMid HS
     clear hmd
     refine cT_ (A:=?frAaxk) 17 15 [.string ⟨#[]⟩,.string ⟨#[]⟩] 47 hmx (by kernel_rfl) ⟨_,rfl,rfl,rfl,fun b W=>?al1⟩ ?h ?ht
     case al1=>simp[go_sem]
     case h=>
      intro U hU
      have hp:=hid (HK2.out.below hU)
      have x0:=cell_regrown ((hp.out.az.row (X,[.string (qN p.1),.string (qD p.1),.string (qN p.2),.string (qD p.2)]) (by simp)).row (ax*2) _ (HAT.out p).1)
      have x1:=cell_regrown ((hp.out.az.row (X,[.string (qN p.1),.string (qD p.1),.string (qN p.2),.string (qD p.2)]) (by simp)).row (ax*2+1) _ (HAT.out p).2)
      have x2:=cell_regrown ((hp.out.az.row (X+1,[.string (qN q.1),.string (qD q.1),.string (qN q.2),.string (qD q.2)]) (by simp)).row (ax*2) _ (HAT.out q).1)
      have x3:=cell_regrown ((hp.out.az.row (X+1,[.string (qN q.1),.string (qD q.1),.string (qN q.2),.string (qD q.2)]) (by simp)).row (ax*2+1) _ (HAT.out q).2)
      clear hp
      simp only[List.take_succ_cons,List.take_zero]
      have cKW:=fun d os=>Calls.regrown_of (d:=d) (os:=os) (KW.out (grow (redrawn U d) os))
      have cKS1:=fun d os=>Calls.regrown_of (d:=d) (os:=os) (KS1.out (grow (redrawn U d) os))
      have cKS2:=fun d os=>Calls.regrown_of (d:=d) (os:=os) (KS2.out (grow (redrawn U d) os))
      have cKD:=fun d os=>Calls.regrown_of (d:=d) (os:=os) (KD.out (grow (redrawn U d) os))
      repeat (go_big_quiet_step (with_reducible first|exact cKW _ _|exact cKS1 _ _|exact cKS2 _ _|exact cKD _ _))
      refine wpQuiet_nil ?_
      rfl
     case ht=>
      intro X3 W5 hW hX3 cX3
      have H6:=hid (((HK2.out.below hW).cons cX3 (dV_ HK2.out hX3)).set (i:=0) (by have:=HK2.out.az.bw.size;omega) (fun u hu=>by have:=(HK2.out.az.row u hu).sz;omega) rfl (.string (qN pt)))
      have H7:=hid (H6.out.set (i:=1) (by have:=HK2.out.az.bw.size;omega) (fun u hu=>by have:=(HK2.out.az.row u hu).sz;omega) rfl (.string (qD pt)))
      have z0:=cX3.row 0 _ rfl
      have z1:=cX3.row 1 _ rfl
      have f0:=cX3.fz 0 (by simp)
      have f1:=cX3.fz 1 (by simp)
      clear cX3 hW H6
      simp only[List.set_cons_zero,List.set_cons_succ] at H7
      simp only[List.drop_succ_cons,List.drop_zero]
      go_wp2
      clear z0 z1 f0 f1
      have H8:=hid (H7.out.push [.string ⟨#[]⟩,.string ⟨#[]⟩,.string ⟨#[]⟩,.string ⟨#[]⟩] 82)
      obtain⟨X4,hX4⟩:∃X4,X4=((W5.setCell ⟨X3,0,none⟩ (.string (qN pt))).setCell ⟨X3,1,none⟩ (.string (qD pt))).heap.size:=⟨_,rfl⟩
      rw[←hX4] at H8
      have hX4b:w.heap.size≤X4:=by rw[hX4];exact H7.out.az.bw.size
      have HD:=hid (show ∀u∈([(X3,[.string (qN pt),.string (qD pt)]),(X+1,[.string (qN q.1),.string (qD q.1),.string (qN q.2),.string (qD q.2)]),(X,[.string (qN p.1),.string (qD p.1),.string (qN p.2),.string (qD p.2)])]:List (Nat×List Value)),X4≠u.1 from fun u hu=>by rw[hX4];have:=(H7.out.az.row u hu).sz;omega)
      simp only[World.size_setCell] at hX4
      simp only[←hX4]
      generalize ((W5.setCell ⟨X3,0,none⟩ (.string (qN pt))).setCell ⟨X3,1,none⟩ (.string (qD pt))).alloc (.cells #[.string ⟨#[]⟩,.string ⟨#[]⟩,.string ⟨#[]⟩,.string ⟨#[]⟩] 82)=W6 at H8⊢
      clear H7 hX4
      go_loopw [17] (fun v17 wq=>∃k:Nat,k≤2∧v17=.int .i64 (k:Int)∧OyAt 82 (.slice (some ⟨g7,0,none⟩) (m+1) c7) (m+1) (fC_ (outI ax t keep l i)++[.string (qN p.1),.string (qD p.1),.string (qN p.2),.string (qD p.2)]) [(X4,midC md k),(X3,[.string (qN pt),.string (qD pt)]),(X+1,[.string (qN q.1),.string (qD q.1),.string (qN q.2),.string (qD q.2)]),(X,[.string (qN p.1),.string (qD p.1),.string (qN p.2),.string (qD p.2)])] w wq) (fun v17 _=>2-(intOf v17).toNat)
      case atStart=>exact⟨0,by omega,rfl,H8.out⟩
      case round=>
       obtain⟨k,hk2,rfl,hR⟩:=hrel
       have HR:=hid hR
       clear hR H8
       obtain rfl|rfl|rfl:k=0∨k=1∨k=2:=by omega
       ·have KS:=hid (fun W=>sK_ HFq.out.1 HFp.out.1 W)
        have KM:=hid (fun W=>aBT (x:=pt) (y:=miO q.1 p.1) HFr.out (FO.sub _ _) W)
        have KA:=hid (fun W=>(show Calls Tryz.prog 61 #[.agg #[.string (qN p.1),.string (qD p.1)],.agg #[.string (qN (tiO pt (miO q.1 p.1))),.string (qD (tiO pt (miO q.1 p.1)))]] W fun e W'=>e=.returned (.agg #[.string (qN md.1),.string (qD md.1)])∧Below W.heap.size W W' from by rw[HMid.out];exact aII (x:=p.1) (y:=tiO pt (miO q.1 p.1)) HFp.out.1 (FO.mul _ _) W))
        go_wp2
        refine bP_ (A:=?frBaxk0) 19 hmx (by kernel_rfl) ?h2 ?ht2
        case h2=>
         intro U hU
         have hp:=hid (HR.out.below hU)
         have h_:=hp.out.az.row (X,[.string (qN p.1),.string (qD p.1),.string (qN p.2),.string (qD p.2)]) (by simp)
         have x0:=cell_regrown (h_.row 0 _ rfl)
         have x1:=cell_regrown (h_.row 1 _ rfl)
         clear h_
         have h_:=hp.out.az.row (X+1,[.string (qN q.1),.string (qD q.1),.string (qN q.2),.string (qD q.2)]) (by simp)
         have x2:=cell_regrown (h_.row 0 _ rfl)
         have x3:=cell_regrown (h_.row 1 _ rfl)
         clear h_
         have h_:=hp.out.az.row (X3,[.string (qN pt),.string (qD pt)]) (by simp)
         have x4:=cell_regrown (h_.row 0 _ rfl)
         have x5:=cell_regrown (h_.row 1 _ rfl)
         clear h_
         clear hp
         simp only[List.take_succ_cons,List.take_zero]
         have cKS:=fun d os=>Calls.regrown_of (d:=d) (os:=os) (KS.out (grow (redrawn U d) os))
         have cKM:=fun d os=>Calls.regrown_of (d:=d) (os:=os) (KM.out (grow (redrawn U d) os))
         have cKA:=fun d os=>Calls.regrown_of (d:=d) (os:=os) (KA.out (grow (redrawn U d) os))
         repeat (go_big_quiet_step (with_reducible first|exact cKS _ _|exact cKM _ _|exact cKA _ _))
         refine wpQuiet_nil ?_
         rfl
        case ht2=>
         intro W8 hW8
         have H9:=hid (HR.out.below hW8)
         have h_:=H9.out.az.row (X4,midC md 0) (by simp)
         have z0:=h_.row 0 _ rfl
         have z1:=h_.row 1 _ rfl
         have f0:=h_.fz 0 (by simp[midC])
         have f1:=h_.fz 1 (by simp[midC])
         clear h_
         have HE:=hid (show OyAt 82 (.slice (some ⟨g7,0,none⟩) (m+1) c7) (m+1) (fC_ (outI ax t keep l i)++[.string (qN p.1),.string (qD p.1),.string (qN p.2),.string (qD p.2)]) [(X4,midC md 1),(X3,[.string (qN pt),.string (qD pt)]),(X+1,[.string (qN q.1),.string (qD q.1),.string (qN q.2),.string (qD q.2)]),(X,[.string (qN p.1),.string (qD p.1),.string (qN p.2),.string (qD p.2)])] w _ from(H9.out.set (i:=0) hX4b HD.out rfl (.string (qN md.1))).set (i:=1) hX4b HD.out rfl (.string (qD md.1)))
         clear hW8
         simp only[List.drop_succ_cons,List.drop_zero]
         go_wp2
         exact⟨⟨1,by omega,rfl,HE.out⟩,by simp only[intOf];omega⟩
       ·have KS:=hid (fun W=>sK_ HFq.out.2 HFp.out.2 W)
        have KM:=hid (fun W=>aBT (x:=pt) (y:=miO q.2 p.2) HFr.out (FO.sub _ _) W)
        have KA:=hid (fun W=>(show Calls Tryz.prog 61 #[.agg #[.string (qN p.2),.string (qD p.2)],.agg #[.string (qN (tiO pt (miO q.2 p.2))),.string (qD (tiO pt (miO q.2 p.2)))]] W fun e W'=>e=.returned (.agg #[.string (qN md.2),.string (qD md.2)])∧Below W.heap.size W W' from by rw[HMid.out];exact aII (x:=p.2) (y:=tiO pt (miO q.2 p.2)) HFp.out.2 (FO.mul _ _) W))
        go_wp2
        refine bP_ (A:=?frBaxk1) 19 hmx (by kernel_rfl) ?h2 ?ht2
        case h2=>
         intro U hU
         have hp:=hid (HR.out.below hU)
         have h_:=hp.out.az.row (X,[.string (qN p.1),.string (qD p.1),.string (qN p.2),.string (qD p.2)]) (by simp)
         have x0:=cell_regrown (h_.row 2 _ rfl)
         have x1:=cell_regrown (h_.row 3 _ rfl)
         clear h_
         have h_:=hp.out.az.row (X+1,[.string (qN q.1),.string (qD q.1),.string (qN q.2),.string (qD q.2)]) (by simp)
         have x2:=cell_regrown (h_.row 2 _ rfl)
         have x3:=cell_regrown (h_.row 3 _ rfl)
         clear h_
         have h_:=hp.out.az.row (X3,[.string (qN pt),.string (qD pt)]) (by simp)
         have x4:=cell_regrown (h_.row 0 _ rfl)
         have x5:=cell_regrown (h_.row 1 _ rfl)
         clear h_
         clear hp
         simp only[List.take_succ_cons,List.take_zero]
         have cKS:=fun d os=>Calls.regrown_of (d:=d) (os:=os) (KS.out (grow (redrawn U d) os))
         have cKM:=fun d os=>Calls.regrown_of (d:=d) (os:=os) (KM.out (grow (redrawn U d) os))
         have cKA:=fun d os=>Calls.regrown_of (d:=d) (os:=os) (KA.out (grow (redrawn U d) os))
         repeat (go_big_quiet_step (with_reducible first|exact cKS _ _|exact cKM _ _|exact cKA _ _))
         refine wpQuiet_nil ?_
         rfl
        case ht2=>
         intro W8 hW8
         have H9:=hid (HR.out.below hW8)
         have h_:=H9.out.az.row (X4,midC md 1) (by simp)
         have z0:=h_.row 2 _ rfl
         have z1:=h_.row 3 _ rfl
         have f0:=h_.fz 2 (by simp[midC])
         have f1:=h_.fz 3 (by simp[midC])
         clear h_
         have HE:=hid (show OyAt 82 (.slice (some ⟨g7,0,none⟩) (m+1) c7) (m+1) (fC_ (outI ax t keep l i)++[.string (qN p.1),.string (qD p.1),.string (qN p.2),.string (qD p.2)]) [(X4,midC md 2),(X3,[.string (qN pt),.string (qD pt)]),(X+1,[.string (qN q.1),.string (qD q.1),.string (qN q.2),.string (qD q.2)]),(X,[.string (qN p.1),.string (qD p.1),.string (qN p.2),.string (qD p.2)])] w _ from(H9.out.set (i:=2) hX4b HD.out rfl (.string (qN md.2))).set (i:=3) hX4b HD.out rfl (.string (qD md.2)))
         clear hW8
         simp only[List.drop_succ_cons,List.drop_zero]
         go_wp2
         exact⟨⟨2,by omega,rfl,HE.out⟩,by simp only[intOf];omega⟩
       ·have z0:wr.cell? ⟨X4,0,none⟩=some (.string (qN md.1)):=(HR.out.az.row (X4,midC md 2) (by simp)).row 0 _ rfl
        have z1:wr.cell? ⟨X4,1,none⟩=some (.string (qD md.1)):=(HR.out.az.row (X4,midC md 2) (by simp)).row 1 _ rfl
        have z2:wr.cell? ⟨X4,2,none⟩=some (.string (qN md.2)):=(HR.out.az.row (X4,midC md 2) (by simp)).row 2 _ rfl
        have z3:wr.cell? ⟨X4,3,none⟩=some (.string (qD md.2)):=(HR.out.az.row (X4,midC md 2) (by simp)).row 3 _ rfl
        have hsq:=HR.out.az.bw.size
        go_wp2_with (at_builtin;refine wpList_append_own_at _ rfl _ _ 78 rfl w.heap.size 82 i0 (.agg #[.string ⟨#[]⟩,.string ⟨#[]⟩,.string ⟨#[]⟩,.string ⟨#[]⟩]) 4 64 Tryz.underlying78 hi0 hz0 hz1 hz2 rfl (by decide) (.slice (some ⟨g7,0,none⟩) (m+1) c7) (m+1) (fC_ (outI ax t keep l i)++[.string (qN p.1),.string (qD p.1),.string (qN p.2),.string (qD p.2)]) rfl (HR.out.own.alloc _) ⟨wr.heap.size,0,none⟩ 1 1 [.string (qN md.1),.string (qD md.1),.string (qN md.2),.string (qD md.2)] rfl rfl (nK_ _ _ _ _ _ _) (by simp[Value.oneCell']) (by unfold maxLen;omega) (by omega) (by simp;omega) ?_;intro v9 w9 hown' hgrow _ hat;have HN:=hid (HR.out.append hown' hgrow hat);clear hown' hgrow hat)
        obtain⟨g9,c9,rfl⟩:=ownsRow_succ HN.out.own
        have HQ:=hid (show outI ax t keep l (i+1)=outI ax t keep l i++[p]++[md] from by rw[HS.out,List.append_assoc])
        exact⟨⟨i+1,m+1+1,some ⟨g9,0,none⟩,c9,by omega,by go_num,rfl,by rw[HQ.out];rw[List.length_append,List.length_append,HM.out];rfl,by rw[HQ.out];rw[gC_,gC_];exact HN.out.sub (fun u hu=>by cases hu)⟩,by simp only[intOf];omega⟩
    ·have e2:decide (s1*s2<0)=false:=decide_eq_false c2
     rw[if_neg c2] at HS
     clear c1 c2
     go_wp2_with (at_builtin;refine wpList_append_own_at _ rfl _ _ 78 rfl w.heap.size 82 i0 (.agg #[.string ⟨#[]⟩,.string ⟨#[]⟩,.string ⟨#[]⟩,.string ⟨#[]⟩]) 4 64 Tryz.underlying78 hi0 hz0 hz1 hz2 rfl (by decide) (.slice a' m c') (m) (fC_ (outI ax t keep l i)) rfl (HC.out.own.alloc _) ⟨W3.heap.size,0,none⟩ 1 1 [.string (qN p.1),.string (qD p.1),.string (qN p.2),.string (qD p.2)] rfl rfl (nK_ _ _ _ _ _ _) (by simp[Value.oneCell']) (by unfold maxLen;omega) (by omega) (by simp;omega) ?_;intro v7 w7 hown' hgrow _ hat;have HK2:=hid (HC.out.append hown' hgrow hat);clear hown' hgrow hat)
     obtain⟨g7,c7,rfl⟩:=ownsRow_succ HK2.out.own
     have HQ:=hid (show outI ax t keep l (i+1)=outI ax t keep l i++[p] from by rw[HS.out,List.append_nil])
     exact⟨⟨i+1,m+1,some ⟨g7,0,none⟩,c7,by omega,by go_num,rfl,by rw[HQ.out];rw[List.length_append,HM.out];rfl,by rw[HQ.out];rw[gC_];exact HK2.out.sub (fun u hu=>by cases hu)⟩,by simp only[intOf];omega⟩
   ·have e1:decide (0≤s1)=false:=decide_eq_false c1
    rw[if_neg c1] at HS
    by_cases c2:s1*s2<0
    ·have e2:decide (s1*s2<0)=true:=decide_eq_true c2
     rw[if_pos c2] at HS
     clear c1 c2
     go_wp2
     have KS1:=hid (fun W=>sK_ HT.out FP.out W)
     have KS2:=hid (fun W=>sK_ FQ.out FP.out W)
     have KD:=hid (fun W=>(show Calls _ _ _ W fun e W'=>e=.returned (.agg #[.string (qN (prtO ax t p q)),.string (qD (prtO ax t p q))])∧Below W.heap.size W W' from aQK (x:=miO (whO t) (atO ax p)) (y:=miO (atO ax q) (atO ax p)) (FO.sub _ _) (FO.sub _ _) W))
     have HMid:=hid (show midO ax t p q=(plO p.1 (tiO (prtO ax t p q) (miO q.1 p.1)),plO p.2 (tiO (prtO ax t p q) (miO q.2 p.2))) from rfl)
     have HFr:=hid (show FO (prtO ax t p q) from FO.div _ _)
     generalize prtO ax t p q=pt at KD HMid HFr
     obtain⟨md,hmd⟩:∃md,md=midO ax t p q:=⟨_,rfl⟩
     rw[←hmd] at HMid HS
     clear hmd
     refine cT_ (A:=?frAaxn) 17 15 [.string ⟨#[]⟩,.string ⟨#[]⟩] 47 hmx (by kernel_rfl) ⟨_,rfl,rfl,rfl,fun b W=>?al1⟩ ?h ?ht
     case al1=>simp[go_sem]
     case h=>
      intro U hU
      have hp:=hid (HC.out.below hU)
      have x0:=cell_regrown ((hp.out.az.row (X,[.string (qN p.1),.string (qD p.1),.string (qN p.2),.string (qD p.2)]) (by simp)).row (ax*2) _ (HAT.out p).1)
      have x1:=cell_regrown ((hp.out.az.row (X,[.string (qN p.1),.string (qD p.1),.string (qN p.2),.string (qD p.2)]) (by simp)).row (ax*2+1) _ (HAT.out p).2)
      have x2:=cell_regrown ((hp.out.az.row (X+1,[.string (qN q.1),.string (qD q.1),.string (qN q.2),.string (qD q.2)]) (by simp)).row (ax*2) _ (HAT.out q).1)
      have x3:=cell_regrown ((hp.out.az.row (X+1,[.string (qN q.1),.string (qD q.1),.string (qN q.2),.string (qD q.2)]) (by simp)).row (ax*2+1) _ (HAT.out q).2)
      clear hp
      simp only[List.take_succ_cons,List.take_zero]
      have cKW:=fun d os=>Calls.regrown_of (d:=d) (os:=os) (KW.out (grow (redrawn U d) os))
      have cKS1:=fun d os=>Calls.regrown_of (d:=d) (os:=os) (KS1.out (grow (redrawn U d) os))
      have cKS2:=fun d os=>Calls.regrown_of (d:=d) (os:=os) (KS2.out (grow (redrawn U d) os))
      have cKD:=fun d os=>Calls.regrown_of (d:=d) (os:=os) (KD.out (grow (redrawn U d) os))
      repeat (go_big_quiet_step (with_reducible first|exact cKW _ _|exact cKS1 _ _|exact cKS2 _ _|exact cKD _ _))
      refine wpQuiet_nil ?_
      rfl
     case ht=>
      intro X3 W5 hW hX3 cX3
      have H6:=hid (((HC.out.below hW).cons cX3 (dV_ HC.out hX3)).set (i:=0) (by have:=HC.out.az.bw.size;omega) (fun u hu=>by have:=(HC.out.az.row u hu).sz;omega) rfl (.string (qN pt)))
      have H7:=hid (H6.out.set (i:=1) (by have:=HC.out.az.bw.size;omega) (fun u hu=>by have:=(HC.out.az.row u hu).sz;omega) rfl (.string (qD pt)))
      have z0:=cX3.row 0 _ rfl
      have z1:=cX3.row 1 _ rfl
      have f0:=cX3.fz 0 (by simp)
      have f1:=cX3.fz 1 (by simp)
      clear cX3 hW H6
      simp only[List.set_cons_zero,List.set_cons_succ] at H7
      simp only[List.drop_succ_cons,List.drop_zero]
      go_wp2
      clear z0 z1 f0 f1
      have H8:=hid (H7.out.push [.string ⟨#[]⟩,.string ⟨#[]⟩,.string ⟨#[]⟩,.string ⟨#[]⟩] 82)
      obtain⟨X4,hX4⟩:∃X4,X4=((W5.setCell ⟨X3,0,none⟩ (.string (qN pt))).setCell ⟨X3,1,none⟩ (.string (qD pt))).heap.size:=⟨_,rfl⟩
      rw[←hX4] at H8
      have hX4b:w.heap.size≤X4:=by rw[hX4];exact H7.out.az.bw.size
      have HD:=hid (show ∀u∈([(X3,[.string (qN pt),.string (qD pt)]),(X+1,[.string (qN q.1),.string (qD q.1),.string (qN q.2),.string (qD q.2)]),(X,[.string (qN p.1),.string (qD p.1),.string (qN p.2),.string (qD p.2)])]:List (Nat×List Value)),X4≠u.1 from fun u hu=>by rw[hX4];have:=(H7.out.az.row u hu).sz;omega)
      simp only[World.size_setCell] at hX4
      simp only[←hX4]
      generalize ((W5.setCell ⟨X3,0,none⟩ (.string (qN pt))).setCell ⟨X3,1,none⟩ (.string (qD pt))).alloc (.cells #[.string ⟨#[]⟩,.string ⟨#[]⟩,.string ⟨#[]⟩,.string ⟨#[]⟩] 82)=W6 at H8⊢
      clear H7 hX4
      go_loopw [17] (fun v17 wq=>∃k:Nat,k≤2∧v17=.int .i64 (k:Int)∧OyAt 82 (.slice a' m c') (m) (fC_ (outI ax t keep l i)) [(X4,midC md k),(X3,[.string (qN pt),.string (qD pt)]),(X+1,[.string (qN q.1),.string (qD q.1),.string (qN q.2),.string (qD q.2)]),(X,[.string (qN p.1),.string (qD p.1),.string (qN p.2),.string (qD p.2)])] w wq) (fun v17 _=>2-(intOf v17).toNat)
      case atStart=>exact⟨0,by omega,rfl,H8.out⟩
      case round=>
       obtain⟨k,hk2,rfl,hR⟩:=hrel
       have HR:=hid hR
       clear hR H8
       obtain rfl|rfl|rfl:k=0∨k=1∨k=2:=by omega
       ·have KS:=hid (fun W=>sK_ HFq.out.1 HFp.out.1 W)
        have KM:=hid (fun W=>aBT (x:=pt) (y:=miO q.1 p.1) HFr.out (FO.sub _ _) W)
        have KA:=hid (fun W=>(show Calls Tryz.prog 61 #[.agg #[.string (qN p.1),.string (qD p.1)],.agg #[.string (qN (tiO pt (miO q.1 p.1))),.string (qD (tiO pt (miO q.1 p.1)))]] W fun e W'=>e=.returned (.agg #[.string (qN md.1),.string (qD md.1)])∧Below W.heap.size W W' from by rw[HMid.out];exact aII (x:=p.1) (y:=tiO pt (miO q.1 p.1)) HFp.out.1 (FO.mul _ _) W))
        go_wp2
        refine bP_ (A:=?frBaxn0) 19 hmx (by kernel_rfl) ?h2 ?ht2
        case h2=>
         intro U hU
         have hp:=hid (HR.out.below hU)
         have h_:=hp.out.az.row (X,[.string (qN p.1),.string (qD p.1),.string (qN p.2),.string (qD p.2)]) (by simp)
         have x0:=cell_regrown (h_.row 0 _ rfl)
         have x1:=cell_regrown (h_.row 1 _ rfl)
         clear h_
         have h_:=hp.out.az.row (X+1,[.string (qN q.1),.string (qD q.1),.string (qN q.2),.string (qD q.2)]) (by simp)
         have x2:=cell_regrown (h_.row 0 _ rfl)
         have x3:=cell_regrown (h_.row 1 _ rfl)
         clear h_
         have h_:=hp.out.az.row (X3,[.string (qN pt),.string (qD pt)]) (by simp)
         have x4:=cell_regrown (h_.row 0 _ rfl)
         have x5:=cell_regrown (h_.row 1 _ rfl)
         clear h_
         clear hp
         simp only[List.take_succ_cons,List.take_zero]
         have cKS:=fun d os=>Calls.regrown_of (d:=d) (os:=os) (KS.out (grow (redrawn U d) os))
         have cKM:=fun d os=>Calls.regrown_of (d:=d) (os:=os) (KM.out (grow (redrawn U d) os))
         have cKA:=fun d os=>Calls.regrown_of (d:=d) (os:=os) (KA.out (grow (redrawn U d) os))
         repeat (go_big_quiet_step (with_reducible first|exact cKS _ _|exact cKM _ _|exact cKA _ _))
         refine wpQuiet_nil ?_
         rfl
        case ht2=>
         intro W8 hW8
         have H9:=hid (HR.out.below hW8)
         have h_:=H9.out.az.row (X4,midC md 0) (by simp)
         have z0:=h_.row 0 _ rfl
         have z1:=h_.row 1 _ rfl
         have f0:=h_.fz 0 (by simp[midC])
         have f1:=h_.fz 1 (by simp[midC])
         clear h_
         have HE:=hid (show OyAt 82 (.slice a' m c') (m) (fC_ (outI ax t keep l i)) [(X4,midC md 1),(X3,[.string (qN pt),.string (qD pt)]),(X+1,[.string (qN q.1),.string (qD q.1),.string (qN q.2),.string (qD q.2)]),(X,[.string (qN p.1),.string (qD p.1),.string (qN p.2),.string (qD p.2)])] w _ from(H9.out.set (i:=0) hX4b HD.out rfl (.string (qN md.1))).set (i:=1) hX4b HD.out rfl (.string (qD md.1)))
         clear hW8
         simp only[List.drop_succ_cons,List.drop_zero]
         go_wp2
         exact⟨⟨1,by omega,rfl,HE.out⟩,by simp only[intOf];omega⟩
       ·have KS:=hid (fun W=>sK_ HFq.out.2 HFp.out.2 W)
        have KM:=hid (fun W=>aBT (x:=pt) (y:=miO q.2 p.2) HFr.out (FO.sub _ _) W)
        have KA:=hid (fun W=>(show Calls Tryz.prog 61 #[.agg #[.string (qN p.2),.string (qD p.2)],.agg #[.string (qN (tiO pt (miO q.2 p.2))),.string (qD (tiO pt (miO q.2 p.2)))]] W fun e W'=>e=.returned (.agg #[.string (qN md.2),.string (qD md.2)])∧Below W.heap.size W W' from by rw[HMid.out];exact aII (x:=p.2) (y:=tiO pt (miO q.2 p.2)) HFp.out.2 (FO.mul _ _) W))
        go_wp2
        refine bP_ (A:=?frBaxn1) 19 hmx (by kernel_rfl) ?h2 ?ht2
        case h2=>
         intro U hU
         have hp:=hid (HR.out.below hU)
         have h_:=hp.out.az.row (X,[.string (qN p.1),.string (qD p.1),.string (qN p.2),.string (qD p.2)]) (by simp)
         have x0:=cell_regrown (h_.row 2 _ rfl)
         have x1:=cell_regrown (h_.row 3 _ rfl)
         clear h_
         have h_:=hp.out.az.row (X+1,[.string (qN q.1),.string (qD q.1),.string (qN q.2),.string (qD q.2)]) (by simp)
         have x2:=cell_regrown (h_.row 2 _ rfl)
         have x3:=cell_regrown (h_.row 3 _ rfl)
         clear h_
         have h_:=hp.out.az.row (X3,[.string (qN pt),.string (qD pt)]) (by simp)
         have x4:=cell_regrown (h_.row 0 _ rfl)
         have x5:=cell_regrown (h_.row 1 _ rfl)
         clear h_
         clear hp
         simp only[List.take_succ_cons,List.take_zero]
         have cKS:=fun d os=>Calls.regrown_of (d:=d) (os:=os) (KS.out (grow (redrawn U d) os))
         have cKM:=fun d os=>Calls.regrown_of (d:=d) (os:=os) (KM.out (grow (redrawn U d) os))
         have cKA:=fun d os=>Calls.regrown_of (d:=d) (os:=os) (KA.out (grow (redrawn U d) os))
         repeat (go_big_quiet_step (with_reducible first|exact cKS _ _|exact cKM _ _|exact cKA _ _))
         refine wpQuiet_nil ?_
         rfl
        case ht2=>
         intro W8 hW8
         have H9:=hid (HR.out.below hW8)
         have h_:=H9.out.az.row (X4,midC md 1) (by simp)
         have z0:=h_.row 2 _ rfl
         have z1:=h_.row 3 _ rfl
         have f0:=h_.fz 2 (by simp[midC])
         have f1:=h_.fz 3 (by simp[midC])
         clear h_
         have HE:=hid (show OyAt 82 (.slice a' m c') (m) (fC_ (outI ax t keep l i)) [(X4,midC md 2),(X3,[.string (qN pt),.string (qD pt)]),(X+1,[.string (qN q.1),.string (qD q.1),.string (qN q.2),.string (qD q.2)]),(X,[.string (qN p.1),.string (qD p.1),.string (qN p.2),.string (qD p.2)])] w _ from(H9.out.set (i:=2) hX4b HD.out rfl (.string (qN md.2))).set (i:=3) hX4b HD.out rfl (.string (qD md.2)))
         clear hW8
         simp only[List.drop_succ_cons,List.drop_zero]
         go_wp2
         exact⟨⟨2,by omega,rfl,HE.out⟩,by simp only[intOf];omega⟩
       ·have z0:wr.cell? ⟨X4,0,none⟩=some (.string (qN md.1)):=(HR.out.az.row (X4,midC md 2) (by simp)).row 0 _ rfl
        have z1:wr.cell? ⟨X4,1,none⟩=some (.string (qD md.1)):=(HR.out.az.row (X4,midC md 2) (by simp)).row 1 _ rfl
        have z2:wr.cell? ⟨X4,2,none⟩=some (.string (qN md.2)):=(HR.out.az.row (X4,midC md 2) (by simp)).row 2 _ rfl
        have z3:wr.cell? ⟨X4,3,none⟩=some (.string (qD md.2)):=(HR.out.az.row (X4,midC md 2) (by simp)).row 3 _ rfl
        have hsq:=HR.out.az.bw.size
        go_wp2_with (at_builtin;refine wpList_append_own_at _ rfl _ _ 78 rfl w.heap.size 82 i0 (.agg #[.string ⟨#[]⟩,.string ⟨#[]⟩,.string ⟨#[]⟩,.string ⟨#[]⟩]) 4 64 Tryz.underlying78 hi0 hz0 hz1 hz2 rfl (by decide) (.slice a' m c') (m) (fC_ (outI ax t keep l i)) rfl (HR.out.own.alloc _) ⟨wr.heap.size,0,none⟩ 1 1 [.string (qN md.1),.string (qD md.1),.string (qN md.2),.string (qD md.2)] rfl rfl (nK_ _ _ _ _ _ _) (by simp[Value.oneCell']) (by unfold maxLen;omega) (by omega) (by simp;omega) ?_;intro v9 w9 hown' hgrow _ hat;have HN:=hid (HR.out.append hown' hgrow hat);clear hown' hgrow hat)
        obtain⟨g9,c9,rfl⟩:=ownsRow_succ HN.out.own
        have HQ:=hid (show outI ax t keep l (i+1)=outI ax t keep l i++[md] from by rw[HS.out,List.nil_append])
        exact⟨⟨i+1,m+1,some ⟨g9,0,none⟩,c9,by omega,by go_num,rfl,by rw[HQ.out];rw[List.length_append,HM.out];rfl,by rw[HQ.out];rw[gC_];exact HN.out.sub (fun u hu=>by cases hu)⟩,by simp only[intOf];omega⟩
    ·have e2:decide (s1*s2<0)=false:=decide_eq_false c2
     rw[if_neg c2] at HS
     clear c1 c2
     go_wp2
     have HQ:=hid (show outI ax t keep l (i+1)=outI ax t keep l i from by rw[HS.out,List.nil_append,List.append_nil])
     exact⟨⟨i+1,m,a',c',by omega,by go_num,rfl,by rw[HQ.out];exact HM.out,by rw[HQ.out];exact HC.out.sub (fun u hu=>by cases hu)⟩,by simp only[intOf];omega⟩
  ·have hin:i=n:=by omega
   have HE:=hid (show outI ax t keep l i=cutO ax t keep l by rw[hin,←HL.out];exact zT_ _ _ _ _)
   have i3:decide ((i:Int)<(n:Int))=false:=decide_eq_false (by omega)
   have i4:decide (i<n)=false:=decide_eq_false (by omega)
   clear hin
   go_wp2
   go_ret
   exact⟨⟨a',c',by rw[←HE.out,HM.out];rfl,by rw[←HE.out];exact HZ.out.points HM.out⟩,HZ.out.az.bw⟩
theorem aND {t keep:Int} (t0 : -9223372036854775808≤t) (t1:t≤9223372036854775807) (hk : -1≤keep∧keep≤1) {l:List PO} {n cap:Nat} {a:Option Addr} (hl:l.length=n) (hn:n≤10000) (hF:∀p∈l,FO p.1∧FO p.2) (w:World) (h:PoAt a l w) :
  Calls Tryz.prog 60 #[.slice a n cap,.int .i64 0,.int .i64 t,.int .i64 keep] w fun e W'=>(∃(a':Option Addr) (c':Nat),e=.returned (.slice a' (cutO 0 t keep l).length c')∧PoAt a' (cutO 0 t keep l) W')∧Below w.heap.size w W':=cut_r (.inl rfl) t0 t1 hk hl hn hF w h
theorem aNC {t keep:Int} (t0 : -9223372036854775808≤t) (t1:t≤9223372036854775807) (hk : -1≤keep∧keep≤1) {l:List PO} {n cap:Nat} {a:Option Addr} (hl:l.length=n) (hn:n≤10000) (hF:∀p∈l,FO p.1∧FO p.2) (w:World) (h:PoAt a l w) :
  Calls Tryz.prog 60 #[.slice a n cap,.int .i64 1,.int .i64 t,.int .i64 keep] w fun e W'=>(∃(a':Option Addr) (c':Nat),e=.returned (.slice a' (cutO 1 t keep l).length c')∧PoAt a' (cutO 1 t keep l) W')∧Below w.heap.size w W':=cut_r (.inr rfl) t0 t1 hk hl hn hF w h
end Go.Proofs.YtjfdefglpoancaaGreatDoor
namespace Go.Proofs.YtjfdefglpoancaaGreatDoor
open Go.RowKit Go.Shelf
attribute [local go_sem] Oper.semAt_some
theorem PtAt.cells {b o:Nat} {ps:List Pl} {W:World} (h:PtAt (some ⟨b,o,none⟩) ps W) {k:Nat} {p:Pl} (hp:ps[k]?=some p):W.cell? ⟨b,o+k*2,none⟩=some (.int .i64 p.x)∧W.cell? ⟨b,o+k*2+1,none⟩=some (.int .i64 p.y):=by
 obtain⟨b',o',e,_,h2,h3⟩:=h.row k p hp
 cases e
 exact⟨h2,h3⟩
theorem PtAt.some {a:Option Addr} {ps:List Pl} {W:World} (h:PtAt a ps W) (hn:1≤ps.length):∃b o:Nat,a=some ⟨b,o,none⟩:=by
 cases ps with
 | nil=>simp at hn
 | cons p l=>
  obtain⟨b,o,e,_⟩:=h.row 0 p rfl
  exact⟨b,o,e⟩
theorem aCD {h:List Pl} {i:Nat} {a b:Pl} (ha:h[i]?=some a) (hb:h[(i+1)%h.length]?=some b):(aM_ h)[i]?=some (a,b):=by
 obtain⟨hi,_⟩:=List.getElem?_eq_some_iff.1 ha
 unfold aM_
 rw[List.getElem?_zip_eq_some]
 refine⟨ha,?_⟩
 show(h.drop 1++h.take 1)[i]?=some b
 by_cases h1:i+1<h.length
 ·rw[Nat.mod_eq_of_lt h1] at hb
  rw[List.getElem?_append_left (by simp;omega),List.getElem?_drop,Nat.add_comm]
  exact hb
 ·have h2:i+1=h.length:=by omega
  rw[h2,Nat.mod_self] at hb
  rw[List.getElem?_append_right (by simp;omega),show i-(h.drop 1).length=0 by simp;omega,List.getElem?_take,if_pos (by omega)]
  exact hb
def arI (ps:List Pl) (i:Nat):Int:=(((aM_ ps).take i).map fun e=>e.1.x*e.2.y-e.1.y*e.2.x).foldl (· + ·) 0
theorem aMC {ps:List Pl} {i:Nat} {p q:Pl} (hp:ps[i]?=some p) (hq:ps[(i+1)%ps.length]?=some q):arI ps (i+1)=arI ps i+(p.x*q.y-p.y*q.x):=by
 unfold arI
 rw[List.take_add_one,aCD hp hq]
 simp
theorem aRH (ps:List Pl):arI ps ps.length=hF_ ps:=by
 unfold arI hF_
 rw[List.take_of_length_le (by rw[gS_];exact Nat.le_refl _)]
theorem aRF {a:Option Addr} {cap n:Nat} {ps:List Pl} (hl:ps.length=n) (hv:fewB ps=true) (w:World) (h:PtAt a ps w) :
  Calls Tryz.prog 19 #[.slice a n cap] w fun e W'=>e=.returned (.tuple #[.int .i64 (hF_ ps),.int .i64 0])∧Below w.heap.size w W':=by
 have hlen:=dI_ hv
 have hall:=fD_ hv
 obtain⟨b,o,rfl⟩:=h.some hlen.1
 have KP:=hid (fun(W:World) (hb:Below w.heap.size w W)=>by have:=iR_ (cap:=cap) hl (by omega) W (h.below hb);rw[hv] at this;exact this)
 have H0:=hid h
 have HL:=hid (And.intro hl hall)
 have hn1:1≤n:=by omega
 have hn40:n≤40:=by omega
 clear h hv hall hl hlen
 go_enter Tryz.func19,Tryz.ntmps19
 go_wp2_with (first
  | (go_at_call 40;(with_reducible refine(KP.out _ (Below.refl _ _)).mono ?_);rintro e w1 ⟨rfl,hb⟩;have HB:=hid hb;clear hb)
  | fail)
 go_loopw [4,5] (fun v4 v5 wr=>∃i:Nat,i≤n∧v5=.int .i64 (i:Int)∧v4=.int .i64 (arI ps i)∧(-(16769025*(i:Int))≤arI ps i∧arI ps i≤16769025*(i:Int))∧Below w.heap.size w wr) (fun _ v5 _=>n-(intOf v5).toNat)
 case atStart=>exact⟨0,Nat.zero_le _,rfl,rfl,by simp[arI],HB.out⟩
 case round=>
  obtain⟨i,hi,rfl,rfl,hs,hb⟩:=hrel
  have HR:=hid hb
  clear hb HB
  by_cases hlt:i<n
  ·obtain⟨m1,hm1⟩:∃m1,m1=(i+1)%n:=⟨_,rfl⟩
   have lt1:m1<n:=by rw[hm1];exact Nat.mod_lt _ (by omega)
   obtain⟨p,hp⟩:∃p,ps[i]?=some p:=⟨ps[i]'(by have:=HL.out.1;omega),List.getElem?_eq_getElem _⟩
   obtain⟨q,hq⟩:∃q,ps[m1]?=some q:=⟨ps[m1]'(by have:=HL.out.1;omega),List.getElem?_eq_getElem _⟩
   have HS:=hid (aMC hp (by rw[HL.out.1,←hm1];exact hq))
   have vp:=aT_.1 (HL.out.2 p (List.mem_of_getElem? hp))
   have vq:=aT_.1 (HL.out.2 q (List.mem_of_getElem? hq))
   have b1:=mulb vp.1 vp.2.1 vq.2.2.1 vq.2.2.2
   have b2:=mulb vp.2.2.1 vp.2.2.2 vq.1 vq.2.1
   generalize arI ps i=s at hs HS
   have HBD:=hid (show -(16769025*((i:Int)+1))≤s+(p.x*q.y-p.y*q.x)∧s+(p.x*q.y-p.y*q.x)≤16769025*((i:Int)+1) by omega)
   have g1:IntKind.i64.wrap (p.x*q.y)=p.x*q.y:=IntWalk.i64_in _ (by omega)
   have g2:IntKind.i64.wrap (p.y*q.x)=p.y*q.x:=IntWalk.i64_in _ (by omega)
   have g3:IntKind.i64.wrap (s+p.x*q.y)=s+p.x*q.y:=IntWalk.i64_in _ (by omega)
   have g4:IntKind.i64.wrap (s+p.x*q.y-p.y*q.x)=s+p.x*q.y-p.y*q.x:=IntWalk.i64_in _ (by omega)
   have g5:IntKind.i64.wrap ((i:Int)+1)=(i:Int)+1:=IntWalk.i64_in _ (by omega)
   have rem1:((i:Int)+1).tmod (n:Int)=(m1:Int):=by rw[hm1];rfl
   have n0:¬(n:Int)=0:=by omega
   have i1:(0:Int)≤(i:Int):=by omega
   have i2:(i:Int)<(n:Int):=by omega
   have i3:decide ((i:Int)<(n:Int))=true:=decide_eq_true i2
   have i4:decide (i<n)=true:=decide_eq_true (by omega)
   have j1:(0:Int)≤(m1:Int):=by omega
   have j2:(m1:Int)<(n:Int):=by omega
   obtain⟨y0,y1⟩:=(H0.out.below HR.out).cells hq
   have HP:=hid hp
   clear hp hq vp vq b1 b2 hs hm1
   go_wp2
   have HQ:=hid (((AzAt.start w).below HR.out).push [.int .i64 q.x,.int .i64 q.y] 26)
   obtain⟨X,hX⟩:∃X,X=wr.heap.size:=⟨_,rfl⟩
   rw[←hX] at HQ⊢
   generalize wr.alloc (.cells #[.int .i64 q.x,.int .i64 q.y] 26)=W1 at HQ⊢
   clear y0 y1 hX
   have h_:=HQ.out.at (B:=X) (l:=[.int .i64 q.x,.int .i64 q.y]) (by simp)
   have x0:=cell_regrown (h_.row 0 _ rfl)
   have x1:=cell_regrown (h_.row 1 _ rfl)
   clear h_
   obtain⟨z0,z1⟩:=(H0.out.below HQ.out.bw).cells HP.out
   replace z0:=cell_regrown z0
   replace z1:=cell_regrown z1
   have cN:=True.intro
   refine wp_region_quiet_below (by kernel_rfl) (by kernel_rfl) ?_
   repeat (go_big_quiet_step (with_reducible first|exact cN _ _))
   refine wpQuiet_nil ?_
   intro W2 hw1
   have hb1:Below W1.heap.size W1 W2:=by obtain⟨⟨dq,osq⟩,hw2⟩:=hw1;rw[hw2];exact below_regrown W1 dq osq
   have H2:=hid (HQ.out.below hb1)
   clear hw1 hb1 x0 x1 z0 z1
   go_wp2
   refine⟨⟨i+1,by omega,by go_num,by rw[HS.out];congr 1;omega,by rw[HS.out];have:=HBD.out;omega,H2.out.bw⟩,by simp only[intOf];omega⟩
  ·have hin:i=n:=by omega
   have HE:=hid (show arI ps i=hF_ ps by rw[hin,←HL.out.1];exact aRH ps)
   have i3:decide ((i:Int)<(n:Int))=false:=decide_eq_false (by omega)
   have i4:decide (i<n)=false:=decide_eq_false (by omega)
   clear hin
   go_wp2
   refine bodyPost_ret (v:=.tuple #[.int .i64 (arI ps i),.int .i64 0]) ?_ rfl ⟨by rw[HE.out],HR.out⟩
   simp[results,Tryz.results19,go_sem]
theorem aEI {a c:Option Addr} {n m c1 c2:Nat} {ps qs:List Pl} (hp:ps.length=n) (hq:qs.length=m) (hn:n≤1000000) (hm:m≤1000000) (w:World) (h1:PtAt a ps w) (h2:PtAt c qs w) :
  Calls Tryz.prog 20 #[.slice a n c1,.slice c m c2] w fun e w'=>e=.returned (.bool (decide (ps=qs)))∧Below w.heap.size w w':=by
 have HP:=hid hp
 have HQ:=hid hq
 have H1:=hid h1
 have H2:=hid h2
 clear h1 h2
 by_cases hnm:n=m
 ·clear hp hq
  subst hnm
  go_enter Tryz.func20,Tryz.ntmps20
  go_wp2
  go_loopw [5] (fun i wr=>∃k:Nat,k≤n∧i=.int .i64 (k:Int)∧Below w.heap.size w wr∧ps.take k=qs.take k) (fun i _=>n-(intOf i).toNat)
  case atStart=>exact⟨0,Nat.zero_le _,rfl,Below.refl _ _,rfl⟩
  case round=>
   obtain⟨k,hk,rfl,hb,ht⟩:=hrel
   by_cases hlt:k<n
   ·obtain⟨p,hp⟩:∃p,ps[k]?=some p:=⟨ps[k]'(by have:=HP.out;omega),List.getElem?_eq_getElem _⟩
    obtain⟨q,hq⟩:∃q,qs[k]?=some q:=⟨qs[k]'(by have:=HQ.out;omega),List.getElem?_eq_getElem _⟩
    obtain⟨b1,o1,rfl,hbk1,c0,c1'⟩:=((H1.out.below hb).row k p hp)
    obtain⟨b2,o2,rfl,hbk2,d0,d1⟩:=((H2.out.below hb).row k q hq)
    have HB:=hid hb
    have HT:=hid ht
    have HE:=hid (And.intro hp hq)
    clear hb ht hp hq
    have i1:(0:Int)≤(k:Int):=by omega
    have i2:(k:Int)<(n:Int):=by omega
    by_cases hpq:p=q
    ·subst hpq
     go_wp2
     go_region
     all_goals
      go_wp2
      exact⟨⟨k+1,by omega,by go_num,HB.out.drew,hN_ HE.out.1 HE.out.2 HT.out rfl⟩,by simp only[intOf];omega⟩
    ·have hne:¬ps=qs:=fun e=>hpq (by have h1:=HE.out.1;rw[e,HE.out.2] at h1;exact(Option.some.inj h1).symm)
     have HN:=hid hne
     have hd:(p.x==q.x)=false∨((p.x==q.x)=true∧(p.y==q.y)=false):=by
      by_cases hx:p.x=q.x
      ·right
       refine⟨beq_iff_eq.2 hx,beq_eq_false_iff_ne.2 fun hy=>hpq ?_⟩
       cases p
       cases q
       simp_all
      ·exact .inl (beq_eq_false_iff_ne.2 hx)
     clear hpq hne
     rcases hd with hx|⟨hx,hy⟩
     all_goals
      go_wp2
      go_region
      all_goals
       go_wp2
       go_ret
       exact⟨aQ_ (decide_eq_false HN.out).symm,HB.out.drew⟩
   ·obtain rfl:k=n:=by omega
    have HB:=hid hb
    have HT:=hid ht
    clear hb ht
    go_wp2
    go_ret
    have:=HT.out
    rw[List.take_of_length_le (by rw[HP.out];exact Nat.le_refl _),List.take_of_length_le (by rw[HQ.out];exact Nat.le_refl _)] at this
    exact⟨aQ_ (decide_eq_true this).symm,HB.out⟩
 ·have hne:¬ps=qs:=fun e=>hnm (by rw[←hp,←hq,e])
  rw[decide_eq_false hne]
  clear hp hq hne
  go_enter Tryz.func20,Tryz.ntmps20
  go_wp2
  go_ret
  exact⟨rfl,Below.refl _ _⟩
end Go.Proofs.YtjfdefglpoancaaGreatDoor
namespace Go.Proofs.YtjfdefglpoancaaGreatDoor
open Go.RowKit Go.Shelf Go.Sort
attribute [local go_sem] Oper.semAt_some
theorem oJ_ {a0:Option Addr} {cap n:Nat} {ps:List Pl} (hl:ps.length=n) (hv:fewB ps=true) (w:World) (hw:PtAt a0 ps w) :
  Calls Tryz.prog 17 #[.slice a0 n cap] w fun e W'=>(∃g c,e=.returned (.tuple #[.slice (some ⟨g,0,none⟩) (aS_ ps).length c,.int .i64 0])∧ArAt g (plC (aS_ ps)) W')∧Below w.heap.size w W':=by
 have hlen:=dI_ hv
 obtain⟨B,o,rfl⟩:=hw.some hlen.1
 obtain⟨f,hR⟩:=aOE hv
 have KP:=hid (fun(W:World) (h:PtAt (some ⟨B,o,none⟩) ps W)=>by have:=iR_ (cap:=cap) hl (by omega) W h;rw[hv] at this;exact this)
 obtain⟨i0,hi0,hz0,hz1,hz2⟩:=info_parts dO_
 generalize aS_ ps=h at hR
 obtain⟨m,hm⟩:∃m,m=h.length:=⟨_,rfl⟩
 rw[←hm]
 obtain⟨p0,l,hps⟩:∃p0 l,ps=p0::l:=by
  cases ps with
  | nil=>simp at hlen
  | cons p0 l=>exact⟨p0,l,rfl⟩
 have hm1:1≤m∧m≤n:=by have:=hR.len;omega
 have hn40:n≤40:=by omega
 have H0:=hid hw
 have HR:=hid hR
 have HL:=hid (And.intro hl (And.intro hps hm))
 have hn0:(0:Int)<(n:Int):=by omega
 have hn1:0<n:=by omega
 clear hw hR hv hlen hl hps hm
 go_enter Tryz.func17,Tryz.ntmps17
 obtain⟨x0,x1⟩:=H0.out.cells (k:=0) (by rw[HL.out.2.1];rfl)
 simp only[Nat.zero_mul,Nat.add_zero] at x0 x1
 go_upto_region 4 with (first
  | (go_at_call 40;(with_reducible refine(KP.out _ H0.out).mono ?_);rintro e w1 ⟨rfl,hb⟩;have HB:=hid hb;have HP1:=hid (H0.out.below hb);obtain⟨y0,y1⟩:=HP1.out.cells (k:=0) (by rw[HL.out.2.1];rfl);simp only[Nat.zero_mul,Nat.add_zero] at y0 y1;clear hb x0 x1)
  | fail)
 have H1:=hid (((AzAt.start w).below HB.out).push [.int .i64 p0.x,.int .i64 p0.y] 26)
 obtain⟨F,hF⟩:∃F,F=w1.heap.size:=⟨_,rfl⟩
 have hFo:w.heap.size≤F:=by rw[hF];exact HB.out.size
 rw[←hF] at H1⊢
 generalize w1.alloc (.cells #[.int .i64 p0.x,.int .i64 p0.y] 26)=W1 at H1⊢
 clear hF y0 y1 HP1 HB KP
 go_wp2
 go_loopw [5] (fun v5 wr=>∃j:Nat,1≤j∧j≤n∧v5=.int .i64 (j:Int)∧AzAt [(F,[.int .i64 ((l.take (j-1)).foldl hU_ p0).x,.int .i64 ((l.take (j-1)).foldl hU_ p0).y])] w wr) (fun v5 _=>n-(intOf v5).toNat)
 case atStart=>exact⟨1,by omega,by omega,rfl,H1.out⟩
 case round=>
  obtain⟨j,hj1,hj,rfl,hA⟩:=hrel
  obtain⟨fk,hfk⟩:∃fk,fk=(l.take (j-1)).foldl hU_ p0:=⟨_,rfl⟩
  rw[←hfk] at hA
  have HA:=hid hA
  have HFK:=hid hfk
  clear hA hfk H1
  by_cases hlt:j<n
  ·obtain⟨p,hp⟩:∃p,ps[j]?=some p:=⟨ps[j]'(by have:=HL.out.1;omega),List.getElem?_eq_getElem _⟩
   have HS:=hid (show(l.take (j+1-1)).foldl hU_ p0=if befB p fk=true then p else fk from by
    obtain⟨j',rfl⟩:∃j',j=j'+1:=⟨j-1,by omega⟩
    have hp':l[j']?=some p:=by rw[HL.out.2.1] at hp;simpa using hp
    rw[show j'+1+1-1=j'+1 by omega,List.take_add_one,hp',List.foldl_append,←aFT,HFK.out]
    rfl)
   have KB:=hid (fun(W:World)=>aLQ p fk W)
   generalize befB p fk=bf at HS KB
   have HP:=hid hp
   obtain⟨y0,y1⟩:=(H0.out.below HA.out.bw).cells hp
   clear hp
   replace y0:=cell_regrown y0
   replace y1:=cell_regrown y1
   have h_:=HA.out.at (B:=F) (l:=[.int .i64 fk.x,.int .i64 fk.y]) (by simp)
   have z0:=cell_regrown (h_.row 0 _ rfl)
   have z1:=cell_regrown (h_.row 1 _ rfl)
   clear h_
   have cB:=fun d os=>Calls.regrown_of (d:=d) (os:=os) (KB.out (grow (redrawn wr d) os))
   have i1:(0:Int)≤(j:Int):=by omega
   have i2:(j:Int)<(n:Int):=by omega
   have i3:decide ((j:Int)<(n:Int))=true:=decide_eq_true i2
   go_wp2
   refine wp_region_quiet_below (by kernel_rfl) (by kernel_rfl) ?_
   repeat (go_big_quiet_step (with_reducible first|exact cB _ _))
   refine wpQuiet_nil ?_
   intro W2 hw1
   have hb1:Below wr.heap.size wr W2:=by obtain⟨⟨dq,osq⟩,hw2⟩:=hw1;rw[hw2];exact below_regrown wr dq osq
   have HA2:=hid (HA.out.below hb1)
   clear hw1 hb1 y0 y1 z0 z1 cB KB HA
   cases bf with
   | true=>
    obtain⟨y0,y1⟩:=(H0.out.below HA2.out.bw).cells HP.out
    have h_:=HA2.out.at (B:=F) (l:=[.int .i64 fk.x,.int .i64 fk.y]) (by simp)
    have z0:=h_.row 0 _ rfl
    have z1:=h_.row 1 _ rfl
    have f0:=h_.fz 0 (by simp)
    have f1:=h_.fz 1 (by simp)
    clear h_
    go_wp2
    refine⟨⟨j+1,by omega,by omega,by go_num,?_⟩,by simp only[intOf];omega⟩
    rw[HS.out,if_pos rfl]
    exact HA2.out.set2 hFo (fun x hx=>by cases hx) _ _
   | false=>
    go_wp2
    refine⟨⟨j+1,by omega,by omega,by go_num,?_⟩,by simp only[intOf];omega⟩
    rw[HS.out,if_neg (by decide)]
    exact HA2.out
  ·have hff:fk=f:=by
    rw[HFK.out,List.take_of_length_le (by have h1:=HL.out.1;rw[HL.out.2.1] at h1;simp at h1;omega)]
    exact HR.out.least p0 l HL.out.2.1
   subst hff
   have i2:¬(j:Int)<(n:Int):=by omega
   have i3:decide ((j:Int)<(n:Int))=false:=decide_eq_false i2
   have h_:=HA.out.at (B:=F) (l:=[.int .i64 fk.x,.int .i64 fk.y]) (by simp)
   have z0:=h_.row 0 _ rfl
   have z1:=h_.row 1 _ rfl
   clear h_
   clear HFK
   go_upto_region 10 with fail
   have H2:=hid (show OzAt 26 (.slice (some ⟨wr.heap.size,0,none⟩) 1 1) 1 (plC [fk]) [(F,[.int .i64 fk.x,.int .i64 fk.y])] w (wr.alloc (.cells #[.int .i64 fk.x,.int .i64 fk.y] 26)) from OzAt.lit HA.out [.int .i64 fk.x,.int .i64 fk.y] 26 1 rfl (by decide))
   have ht1:h.take 1=[fk]:=by
    have hh:=HR.out.head
    cases h with
    | nil=>simp at hh
    | cons x t=>simp at hh;simp[hh]
   rw[←ht1] at H2
   clear ht1 z0 z1 HA i2 i3
   go_wp2
   go_loopw [6] (fun v6 wr=>∃(k g c:Nat),1≤k∧k≤m∧v6=.slice (some ⟨g,0,none⟩) k c∧OzAt 26 (.slice (some ⟨g,0,none⟩) k c) k (plC (h.take k)) [(F,[.int .i64 fk.x,.int .i64 fk.y])] w wr) (fun v6 _=>m-lenV v6)
   case atStart=>exact⟨1,_,_,by omega,by omega,rfl,H2.out⟩
   case round=>
    obtain⟨k,g,c,hk0,hk,rfl,hZ⟩:=hrel
    have HZ:=hid hZ
    clear hZ H2
    obtain⟨k1,hk1⟩:∃k1,k=k1+1:=⟨k-1,by omega⟩
    obtain⟨a,ha⟩:∃a,h[k1]?=some a:=⟨h[k1]'(by have:=HL.out.2.2;omega),List.getElem?_eq_getElem _⟩
    have va:vP a=true:=HR.out.valid a (HR.out.sub a (List.mem_of_getElem? ha))
    obtain⟨y0,y1⟩:=(PsAt.of (HZ.out.ar.at (B:=g) (l:=plC (h.take k)) (by simp))).row k1 a (by rw[List.getElem?_take,if_pos (by omega)];exact ha)
    have HK:=hid (And.intro hk1 ha)
    have i4:decide ((k:Int)≤(n:Int))=true:=decide_eq_true (by omega)
    have wk:IntKind.i64.wrap ((k:Int)-1)=(k1:Int):=by rw[IntWalk.i64_in _ (by omega)];omega
    have i5:(0:Int)≤(k1:Int):=by omega
    have i6:(k1:Int)<(k:Int):=by omega
    clear hk1 ha
    have i4':decide (k≤n)=true:=decide_eq_true (by omega)
    go_upto_region 12 with fail
    have H3:=hid (HZ.out.push [.int .i64 a.x,.int .i64 a.y] 26)
    have hA0:=HZ.out.az.bw.size
    have hAF:=(HZ.out.az.at (B:=F) (l:=[.int .i64 fk.x,.int .i64 fk.y]) (by simp)).sz
    obtain⟨A,hA⟩:∃A,A=wr.heap.size:=⟨_,rfl⟩
    rw[←hA] at H3 hA0 hAF⊢
    generalize wr.alloc (.cells #[.int .i64 a.x,.int .i64 a.y] 26)=W3 at H3⊢
    have h_:=H3.out.az.at (B:=A) (l:=[.int .i64 a.x,.int .i64 a.y]) (by simp)
    have z0:=h_.row 0 _ rfl
    have z1:=h_.row 1 _ rfl
    clear h_
    clear hA y0 y1 wk i4 i4' i5 i6 HZ
    go_upto_region 13 with fail
    have H4:=hid (H3.out.push [.int .i64 a.x,.int .i64 a.y] 26)
    have hX0:=H3.out.az.bw.size
    have hXA:=(H3.out.az.at (B:=A) (l:=[.int .i64 a.x,.int .i64 a.y]) (by simp)).sz
    have hXF:=(H3.out.az.at (B:=F) (l:=[.int .i64 fk.x,.int .i64 fk.y]) (by simp)).sz
    obtain⟨X,hX⟩:∃X,X=W3.heap.size:=⟨_,rfl⟩
    rw[←hX] at H4 hX0 hXA hXF⊢
    generalize W3.alloc (.cells #[.int .i64 a.x,.int .i64 a.y] 26)=W4 at H4⊢
    have HXX:=hid (show w.heap.size≤X∧X≠A∧X≠F from⟨hX0,by omega,by omega⟩)
    clear hX z0 z1 H3 hA0 hAF hX0 hXA hXF
    go_wp2
    go_loopw [9] (fun v9 wq=>∃i:Nat,i≤n∧v9=.int .i64 (i:Int)∧OzAt 26 (.slice (some ⟨g,0,none⟩) k c) k (plC (h.take k)) [(X,[.int .i64 ((ps.take i).foldl (fU_ a) a).x,.int .i64 ((ps.take i).foldl (fU_ a) a).y]),(A,[.int .i64 a.x,.int .i64 a.y]),(F,[.int .i64 fk.x,.int .i64 fk.y])] w wq) (fun v9 _=>n-(intOf v9).toNat)
    case atStart=>exact⟨0,Nat.zero_le _,rfl,H4.out⟩
    case round=>
     obtain⟨i,hi,rfl,hN⟩:=hrel
     obtain⟨nx,hnx⟩:∃nx,nx=(ps.take i).foldl (fU_ a) a:=⟨_,rfl⟩
     rw[←hnx] at hN
     have HN:=hid hN
     have HNX:=hid hnx
     have vn:vP nx=true:=by
      rw[hnx]
      rcases aAA a (ps.take i) a with e|e
      ·rw[e];exact va
      ·exact HR.out.valid _ (List.mem_of_mem_take e)
     clear hN hnx H4
     by_cases hlt3:i<n
     ·obtain⟨p,hp⟩:∃p,ps[i]?=some p:=⟨ps[i]'(by have:=HL.out.1;omega),List.getElem?_eq_getElem _⟩
      have vp:vP p=true:=HR.out.valid p (List.mem_of_getElem? hp)
      have HS:=hid (show(ps.take (i+1)).foldl (fU_ a) a=if nx=a∨aA_ a nx p<0∨(aA_ a nx p=0∧sqP a nx<sqP a p) then p else nx from by
       rw[List.take_add_one,hp,List.foldl_append,←HNX.out]
       rfl)
      have KT:=hid (fun(W:World)=>yY_ va vn vp W)
      have KD1:=hid (fun(W:World)=>wA_ va vp W)
      have KD2:=hid (fun(W:World)=>wA_ va vn W)
      generalize aA_ a nx p=τ at KT HS
      generalize sqP a p=d1 at KD1 HS
      generalize sqP a nx=d2 at KD2 HS
      have HP:=hid hp
      clear hp
      have h_:=HN.out.az.at (B:=X) (l:=[.int .i64 nx.x,.int .i64 nx.y]) (by simp)
      have x0:=cell_regrown (h_.row 0 _ rfl)
      have x1:=cell_regrown (h_.row 1 _ rfl)
      clear h_
      have h_:=HN.out.az.at (B:=A) (l:=[.int .i64 a.x,.int .i64 a.y]) (by simp)
      have a0:=cell_regrown (h_.row 0 _ rfl)
      have a1:=cell_regrown (h_.row 1 _ rfl)
      clear h_
      obtain⟨y0,y1⟩:=(H0.out.below HN.out.az.bw).cells HP.out
      replace y0:=cell_regrown y0
      replace y1:=cell_regrown y1
      have ct:=fun d os=>Calls.regrown_of (d:=d) (os:=os) (KT.out (grow (redrawn wr d) os))
      have i1:(0:Int)≤(i:Int):=by omega
      have i2:(i:Int)<(n:Int):=by omega
      have i3:decide ((i:Int)<(n:Int))=true:=decide_eq_true i2
      have i4:decide (i<n)=true:=decide_eq_true (by omega)
      go_wp2
      refine wp_region_quiet_below (by kernel_rfl) (by kernel_rfl) ?_
      repeat (go_big_quiet_step (with_reducible first|exact ct _ _))
      refine wpQuiet_nil ?_
      intro W5 hw1
      have hb1:Below wr.heap.size wr W5:=by obtain⟨⟨dq,osq⟩,hw2⟩:=hw1;rw[hw2];exact below_regrown wr dq osq
      have HN5:=hid (HN.out.below hb1)
      clear hw1 hb1 x0 x1 a0 a1 y0 y1 ct
      go_wp2
      clear KT HN
      by_cases hq:nx=a
      ·have HQ:=hid hq
       have ex:nx.x=a.x:=by rw[hq]
       have ey:nx.y=a.y:=by rw[hq]
       clear hq
       have bx:(nx.x==a.x)=true:=beq_iff_eq.2 ex
       have by':(nx.y==a.y)=true:=beq_iff_eq.2 ey
       clear ex ey
       have h_:=HN5.out.az.at (B:=X) (l:=[.int .i64 nx.x,.int .i64 nx.y]) (by simp)
       have x0:=cell_regrown (h_.row 0 _ rfl)
       have x1:=cell_regrown (h_.row 1 _ rfl)
       clear h_
       have h_:=HN5.out.az.at (B:=A) (l:=[.int .i64 a.x,.int .i64 a.y]) (by simp)
       have a0:=cell_regrown (h_.row 0 _ rfl)
       have a1:=cell_regrown (h_.row 1 _ rfl)
       clear h_
       obtain⟨y0,y1⟩:=(H0.out.below HN5.out.az.bw).cells HP.out
       replace y0:=cell_regrown y0
       replace y1:=cell_regrown y1
       have cd1:=fun d os=>Calls.regrown_of (d:=d) (os:=os) (KD1.out (grow (redrawn W5 d) os))
       have cd2:=fun d os=>Calls.regrown_of (d:=d) (os:=os) (KD2.out (grow (redrawn W5 d) os))
       refine wp_region_quiet_below (by kernel_rfl) (by kernel_rfl) ?_
       repeat (go_big_quiet_step (with_reducible first|exact cd1 _ _|exact cd2 _ _))
       refine wpQuiet_nil ?_
       intro W6 hw1
       have hb1:Below W5.heap.size W5 W6:=by obtain⟨⟨dq,osq⟩,hw2⟩:=hw1;rw[hw2];exact below_regrown W5 dq osq
       have HN6:=hid (HN5.out.below hb1)
       clear hw1 hb1 x0 x1 a0 a1 y0 y1 cd1 cd2
       obtain⟨y0,y1⟩:=(H0.out.below HN6.out.az.bw).cells HP.out
       have h_:=HN6.out.az.at (B:=X) (l:=[.int .i64 nx.x,.int .i64 nx.y]) (by simp)
       have x0:=h_.row 0 _ rfl
       have f0:=h_.fz 0 (by simp)
       have x1:=h_.row 1 _ rfl
       have f1:=h_.fz 1 (by simp)
       clear h_
       go_wp2
       refine⟨⟨i+1,by omega,by go_num,?_⟩,by simp only[intOf];omega⟩
       rw[HS.out,if_pos (.inl HQ.out)]
       exact HN6.out.set2 HXX.out.1 (fun x hx=>by
        have hh:=HXX.out
        simp only[List.mem_cons,List.not_mem_nil,or_false] at hx
        rcases hx with rfl|rfl <;> simp only <;> omega) _ _
      ·have HQ:=hid hq
       rcases wO_ hq with hx|⟨hx,hy⟩
       ·clear hq
        by_cases t1:τ<0
        ·have d1':decide (τ<0)=true:=decide_eq_true t1
         have h_:=HN5.out.az.at (B:=X) (l:=[.int .i64 nx.x,.int .i64 nx.y]) (by simp)
         have x0:=cell_regrown (h_.row 0 _ rfl)
         have x1:=cell_regrown (h_.row 1 _ rfl)
         clear h_
         have h_:=HN5.out.az.at (B:=A) (l:=[.int .i64 a.x,.int .i64 a.y]) (by simp)
         have a0:=cell_regrown (h_.row 0 _ rfl)
         have a1:=cell_regrown (h_.row 1 _ rfl)
         clear h_
         obtain⟨y0,y1⟩:=(H0.out.below HN5.out.az.bw).cells HP.out
         replace y0:=cell_regrown y0
         replace y1:=cell_regrown y1
         have cd1:=fun d os=>Calls.regrown_of (d:=d) (os:=os) (KD1.out (grow (redrawn W5 d) os))
         have cd2:=fun d os=>Calls.regrown_of (d:=d) (os:=os) (KD2.out (grow (redrawn W5 d) os))
         refine wp_region_quiet_below (by kernel_rfl) (by kernel_rfl) ?_
         repeat (go_big_quiet_step (with_reducible first|exact cd1 _ _|exact cd2 _ _))
         refine wpQuiet_nil ?_
         intro W6 hw1
         have hb1:Below W5.heap.size W5 W6:=by obtain⟨⟨dq,osq⟩,hw2⟩:=hw1;rw[hw2];exact below_regrown W5 dq osq
         have HN6:=hid (HN5.out.below hb1)
         clear hw1 hb1 x0 x1 a0 a1 y0 y1 cd1 cd2
         obtain⟨y0,y1⟩:=(H0.out.below HN6.out.az.bw).cells HP.out
         have h_:=HN6.out.az.at (B:=X) (l:=[.int .i64 nx.x,.int .i64 nx.y]) (by simp)
         have x0:=h_.row 0 _ rfl
         have f0:=h_.fz 0 (by simp)
         have x1:=h_.row 1 _ rfl
         have f1:=h_.fz 1 (by simp)
         clear h_
         go_wp2
         refine⟨⟨i+1,by omega,by go_num,?_⟩,by simp only[intOf];omega⟩
         rw[HS.out,if_pos (.inr (.inl t1))]
         exact HN6.out.set2 HXX.out.1 (fun x hx=>by
          have hh:=HXX.out
          simp only[List.mem_cons,List.not_mem_nil,or_false] at hx
          rcases hx with rfl|rfl <;> simp only <;> omega) _ _
        ·by_cases t2:τ=0
         ·subst t2
          clear t1
          by_cases t3:d2<d1
          ·have e3:decide (d2<d1)=true:=decide_eq_true t3
           have h_:=HN5.out.az.at (B:=X) (l:=[.int .i64 nx.x,.int .i64 nx.y]) (by simp)
           have x0:=cell_regrown (h_.row 0 _ rfl)
           have x1:=cell_regrown (h_.row 1 _ rfl)
           clear h_
           have h_:=HN5.out.az.at (B:=A) (l:=[.int .i64 a.x,.int .i64 a.y]) (by simp)
           have a0:=cell_regrown (h_.row 0 _ rfl)
           have a1:=cell_regrown (h_.row 1 _ rfl)
           clear h_
           obtain⟨y0,y1⟩:=(H0.out.below HN5.out.az.bw).cells HP.out
           replace y0:=cell_regrown y0
           replace y1:=cell_regrown y1
           have cd1:=fun d os=>Calls.regrown_of (d:=d) (os:=os) (KD1.out (grow (redrawn W5 d) os))
           have cd2:=fun d os=>Calls.regrown_of (d:=d) (os:=os) (KD2.out (grow (redrawn W5 d) os))
           refine wp_region_quiet_below (by kernel_rfl) (by kernel_rfl) ?_
           repeat (go_big_quiet_step (with_reducible first|exact cd1 _ _|exact cd2 _ _))
           refine wpQuiet_nil ?_
           intro W6 hw1
           have hb1:Below W5.heap.size W5 W6:=by obtain⟨⟨dq,osq⟩,hw2⟩:=hw1;rw[hw2];exact below_regrown W5 dq osq
           have HN6:=hid (HN5.out.below hb1)
           clear hw1 hb1 x0 x1 a0 a1 y0 y1 cd1 cd2
           obtain⟨y0,y1⟩:=(H0.out.below HN6.out.az.bw).cells HP.out
           have h_:=HN6.out.az.at (B:=X) (l:=[.int .i64 nx.x,.int .i64 nx.y]) (by simp)
           have x0:=h_.row 0 _ rfl
           have f0:=h_.fz 0 (by simp)
           have x1:=h_.row 1 _ rfl
           have f1:=h_.fz 1 (by simp)
           clear h_
           go_wp2
           refine⟨⟨i+1,by omega,by go_num,?_⟩,by simp only[intOf];omega⟩
           rw[HS.out,if_pos (.inr (.inr ⟨rfl,t3⟩))]
           exact HN6.out.set2 HXX.out.1 (fun x hx=>by
            have hh:=HXX.out
            simp only[List.mem_cons,List.not_mem_nil,or_false] at hx
            rcases hx with rfl|rfl <;> simp only <;> omega) _ _
          ·have e3:decide (d2<d1)=false:=decide_eq_false t3
           have h_:=HN5.out.az.at (B:=X) (l:=[.int .i64 nx.x,.int .i64 nx.y]) (by simp)
           have x0:=cell_regrown (h_.row 0 _ rfl)
           have x1:=cell_regrown (h_.row 1 _ rfl)
           clear h_
           have h_:=HN5.out.az.at (B:=A) (l:=[.int .i64 a.x,.int .i64 a.y]) (by simp)
           have a0:=cell_regrown (h_.row 0 _ rfl)
           have a1:=cell_regrown (h_.row 1 _ rfl)
           clear h_
           obtain⟨y0,y1⟩:=(H0.out.below HN5.out.az.bw).cells HP.out
           replace y0:=cell_regrown y0
           replace y1:=cell_regrown y1
           have cd1:=fun d os=>Calls.regrown_of (d:=d) (os:=os) (KD1.out (grow (redrawn W5 d) os))
           have cd2:=fun d os=>Calls.regrown_of (d:=d) (os:=os) (KD2.out (grow (redrawn W5 d) os))
           refine wp_region_quiet_below (by kernel_rfl) (by kernel_rfl) ?_
           repeat (go_big_quiet_step (with_reducible first|exact cd1 _ _|exact cd2 _ _))
           refine wpQuiet_nil ?_
           intro W6 hw1
           have hb1:Below W5.heap.size W5 W6:=by obtain⟨⟨dq,osq⟩,hw2⟩:=hw1;rw[hw2];exact below_regrown W5 dq osq
           have HN6:=hid (HN5.out.below hb1)
           clear hw1 hb1 x0 x1 a0 a1 y0 y1 cd1 cd2
           go_wp2
           refine⟨⟨i+1,by omega,by go_num,?_⟩,by simp only[intOf];omega⟩
           rw[HS.out,if_neg (by rintro(h1|h1|⟨_,h1⟩);exact HQ.out h1;omega;exact t3 h1)]
           exact HN6.out
         ·have e1:decide (τ<0)=false:=decide_eq_false t1
          have e2:(τ==0)=false:=beq_eq_false_iff_ne.2 t2
          have h_:=HN5.out.az.at (B:=X) (l:=[.int .i64 nx.x,.int .i64 nx.y]) (by simp)
          have x0:=cell_regrown (h_.row 0 _ rfl)
          have x1:=cell_regrown (h_.row 1 _ rfl)
          clear h_
          have h_:=HN5.out.az.at (B:=A) (l:=[.int .i64 a.x,.int .i64 a.y]) (by simp)
          have a0:=cell_regrown (h_.row 0 _ rfl)
          have a1:=cell_regrown (h_.row 1 _ rfl)
          clear h_
          obtain⟨y0,y1⟩:=(H0.out.below HN5.out.az.bw).cells HP.out
          replace y0:=cell_regrown y0
          replace y1:=cell_regrown y1
          have cd1:=fun d os=>Calls.regrown_of (d:=d) (os:=os) (KD1.out (grow (redrawn W5 d) os))
          have cd2:=fun d os=>Calls.regrown_of (d:=d) (os:=os) (KD2.out (grow (redrawn W5 d) os))
          refine wp_region_quiet_below (by kernel_rfl) (by kernel_rfl) ?_
          repeat (go_big_quiet_step (with_reducible first|exact cd1 _ _|exact cd2 _ _))
          refine wpQuiet_nil ?_
          intro W6 hw1
          have hb1:Below W5.heap.size W5 W6:=by obtain⟨⟨dq,osq⟩,hw2⟩:=hw1;rw[hw2];exact below_regrown W5 dq osq
          have HN6:=hid (HN5.out.below hb1)
          clear hw1 hb1 x0 x1 a0 a1 y0 y1 cd1 cd2
          go_wp2
          refine⟨⟨i+1,by omega,by go_num,?_⟩,by simp only[intOf];omega⟩
          rw[HS.out,if_neg (by rintro(h1|h1|⟨h1,_⟩);exact HQ.out h1;exact t1 h1;exact t2 h1)]
          exact HN6.out
       ·clear hq
        by_cases t1:τ<0
        ·have d1':decide (τ<0)=true:=decide_eq_true t1
         have h_:=HN5.out.az.at (B:=X) (l:=[.int .i64 nx.x,.int .i64 nx.y]) (by simp)
         have x0:=cell_regrown (h_.row 0 _ rfl)
         have x1:=cell_regrown (h_.row 1 _ rfl)
         clear h_
         have h_:=HN5.out.az.at (B:=A) (l:=[.int .i64 a.x,.int .i64 a.y]) (by simp)
         have a0:=cell_regrown (h_.row 0 _ rfl)
         have a1:=cell_regrown (h_.row 1 _ rfl)
         clear h_
         obtain⟨y0,y1⟩:=(H0.out.below HN5.out.az.bw).cells HP.out
         replace y0:=cell_regrown y0
         replace y1:=cell_regrown y1
         have cd1:=fun d os=>Calls.regrown_of (d:=d) (os:=os) (KD1.out (grow (redrawn W5 d) os))
         have cd2:=fun d os=>Calls.regrown_of (d:=d) (os:=os) (KD2.out (grow (redrawn W5 d) os))
         refine wp_region_quiet_below (by kernel_rfl) (by kernel_rfl) ?_
         repeat (go_big_quiet_step (with_reducible first|exact cd1 _ _|exact cd2 _ _))
         refine wpQuiet_nil ?_
         intro W6 hw1
         have hb1:Below W5.heap.size W5 W6:=by obtain⟨⟨dq,osq⟩,hw2⟩:=hw1;rw[hw2];exact below_regrown W5 dq osq
         have HN6:=hid (HN5.out.below hb1)
         clear hw1 hb1 x0 x1 a0 a1 y0 y1 cd1 cd2
         obtain⟨y0,y1⟩:=(H0.out.below HN6.out.az.bw).cells HP.out
         have h_:=HN6.out.az.at (B:=X) (l:=[.int .i64 nx.x,.int .i64 nx.y]) (by simp)
         have x0:=h_.row 0 _ rfl
         have f0:=h_.fz 0 (by simp)
         have x1:=h_.row 1 _ rfl
         have f1:=h_.fz 1 (by simp)
         clear h_
         go_wp2
         refine⟨⟨i+1,by omega,by go_num,?_⟩,by simp only[intOf];omega⟩
         rw[HS.out,if_pos (.inr (.inl t1))]
         exact HN6.out.set2 HXX.out.1 (fun x hx=>by
          have hh:=HXX.out
          simp only[List.mem_cons,List.not_mem_nil,or_false] at hx
          rcases hx with rfl|rfl <;> simp only <;> omega) _ _
        ·by_cases t2:τ=0
         ·subst t2
          clear t1
          by_cases t3:d2<d1
          ·have e3:decide (d2<d1)=true:=decide_eq_true t3
           have h_:=HN5.out.az.at (B:=X) (l:=[.int .i64 nx.x,.int .i64 nx.y]) (by simp)
           have x0:=cell_regrown (h_.row 0 _ rfl)
           have x1:=cell_regrown (h_.row 1 _ rfl)
           clear h_
           have h_:=HN5.out.az.at (B:=A) (l:=[.int .i64 a.x,.int .i64 a.y]) (by simp)
           have a0:=cell_regrown (h_.row 0 _ rfl)
           have a1:=cell_regrown (h_.row 1 _ rfl)
           clear h_
           obtain⟨y0,y1⟩:=(H0.out.below HN5.out.az.bw).cells HP.out
           replace y0:=cell_regrown y0
           replace y1:=cell_regrown y1
           have cd1:=fun d os=>Calls.regrown_of (d:=d) (os:=os) (KD1.out (grow (redrawn W5 d) os))
           have cd2:=fun d os=>Calls.regrown_of (d:=d) (os:=os) (KD2.out (grow (redrawn W5 d) os))
           refine wp_region_quiet_below (by kernel_rfl) (by kernel_rfl) ?_
           repeat (go_big_quiet_step (with_reducible first|exact cd1 _ _|exact cd2 _ _))
           refine wpQuiet_nil ?_
           intro W6 hw1
           have hb1:Below W5.heap.size W5 W6:=by obtain⟨⟨dq,osq⟩,hw2⟩:=hw1;rw[hw2];exact below_regrown W5 dq osq
           have HN6:=hid (HN5.out.below hb1)
           clear hw1 hb1 x0 x1 a0 a1 y0 y1 cd1 cd2
           obtain⟨y0,y1⟩:=(H0.out.below HN6.out.az.bw).cells HP.out
           have h_:=HN6.out.az.at (B:=X) (l:=[.int .i64 nx.x,.int .i64 nx.y]) (by simp)
           have x0:=h_.row 0 _ rfl
           have f0:=h_.fz 0 (by simp)
           have x1:=h_.row 1 _ rfl
           have f1:=h_.fz 1 (by simp)
           clear h_
           go_wp2
           refine⟨⟨i+1,by omega,by go_num,?_⟩,by simp only[intOf];omega⟩
           rw[HS.out,if_pos (.inr (.inr ⟨rfl,t3⟩))]
           exact HN6.out.set2 HXX.out.1 (fun x hx=>by
            have hh:=HXX.out
            simp only[List.mem_cons,List.not_mem_nil,or_false] at hx
            rcases hx with rfl|rfl <;> simp only <;> omega) _ _
          ·have e3:decide (d2<d1)=false:=decide_eq_false t3
           have h_:=HN5.out.az.at (B:=X) (l:=[.int .i64 nx.x,.int .i64 nx.y]) (by simp)
           have x0:=cell_regrown (h_.row 0 _ rfl)
           have x1:=cell_regrown (h_.row 1 _ rfl)
           clear h_
           have h_:=HN5.out.az.at (B:=A) (l:=[.int .i64 a.x,.int .i64 a.y]) (by simp)
           have a0:=cell_regrown (h_.row 0 _ rfl)
           have a1:=cell_regrown (h_.row 1 _ rfl)
           clear h_
           obtain⟨y0,y1⟩:=(H0.out.below HN5.out.az.bw).cells HP.out
           replace y0:=cell_regrown y0
           replace y1:=cell_regrown y1
           have cd1:=fun d os=>Calls.regrown_of (d:=d) (os:=os) (KD1.out (grow (redrawn W5 d) os))
           have cd2:=fun d os=>Calls.regrown_of (d:=d) (os:=os) (KD2.out (grow (redrawn W5 d) os))
           refine wp_region_quiet_below (by kernel_rfl) (by kernel_rfl) ?_
           repeat (go_big_quiet_step (with_reducible first|exact cd1 _ _|exact cd2 _ _))
           refine wpQuiet_nil ?_
           intro W6 hw1
           have hb1:Below W5.heap.size W5 W6:=by obtain⟨⟨dq,osq⟩,hw2⟩:=hw1;rw[hw2];exact below_regrown W5 dq osq
           have HN6:=hid (HN5.out.below hb1)
           clear hw1 hb1 x0 x1 a0 a1 y0 y1 cd1 cd2
           go_wp2
           refine⟨⟨i+1,by omega,by go_num,?_⟩,by simp only[intOf];omega⟩
           rw[HS.out,if_neg (by rintro(h1|h1|⟨_,h1⟩);exact HQ.out h1;omega;exact t3 h1)]
           exact HN6.out
         ·have e1:decide (τ<0)=false:=decide_eq_false t1
          have e2:(τ==0)=false:=beq_eq_false_iff_ne.2 t2
          have h_:=HN5.out.az.at (B:=X) (l:=[.int .i64 nx.x,.int .i64 nx.y]) (by simp)
          have x0:=cell_regrown (h_.row 0 _ rfl)
          have x1:=cell_regrown (h_.row 1 _ rfl)
          clear h_
          have h_:=HN5.out.az.at (B:=A) (l:=[.int .i64 a.x,.int .i64 a.y]) (by simp)
          have a0:=cell_regrown (h_.row 0 _ rfl)
          have a1:=cell_regrown (h_.row 1 _ rfl)
          clear h_
          obtain⟨y0,y1⟩:=(H0.out.below HN5.out.az.bw).cells HP.out
          replace y0:=cell_regrown y0
          replace y1:=cell_regrown y1
          have cd1:=fun d os=>Calls.regrown_of (d:=d) (os:=os) (KD1.out (grow (redrawn W5 d) os))
          have cd2:=fun d os=>Calls.regrown_of (d:=d) (os:=os) (KD2.out (grow (redrawn W5 d) os))
          refine wp_region_quiet_below (by kernel_rfl) (by kernel_rfl) ?_
          repeat (go_big_quiet_step (with_reducible first|exact cd1 _ _|exact cd2 _ _))
          refine wpQuiet_nil ?_
          intro W6 hw1
          have hb1:Below W5.heap.size W5 W6:=by obtain⟨⟨dq,osq⟩,hw2⟩:=hw1;rw[hw2];exact below_regrown W5 dq osq
          have HN6:=hid (HN5.out.below hb1)
          clear hw1 hb1 x0 x1 a0 a1 y0 y1 cd1 cd2
          go_wp2
          refine⟨⟨i+1,by omega,by go_num,?_⟩,by simp only[intOf];omega⟩
          rw[HS.out,if_neg (by rintro(h1|h1|⟨h1,_⟩);exact HQ.out h1;exact t1 h1;exact t2 h1)]
          exact HN6.out
     ·have hmlen:=HL.out.2.2
      obtain⟨b,hb⟩:∃b,h[(k1+1)%m]?=some b:=⟨h[(k1+1)%m]'(by rw[←hmlen];exact Nat.mod_lt _ (by omega)),List.getElem?_eq_getElem _⟩
      have hnb:nx=b:=by
       rw[HNX.out,List.take_of_length_le (by have:=HL.out.1;omega)]
       exact HR.out.next k1 a b HK.out.2 (by rw[←hmlen];exact hb)
      rw[←hnb] at hb
      clear hnb
      have hs1:=HN.out.az.bw.size
      have i2:¬(i:Int)<(n:Int):=by omega
      have i3:decide ((i:Int)<(n:Int))=false:=decide_eq_false i2
      have i4:decide (i<n)=false:=decide_eq_false (by omega)
      have h_:=HN.out.az.at (B:=X) (l:=[.int .i64 nx.x,.int .i64 nx.y]) (by simp)
      have x0:=h_.row 0 _ rfl
      have x1:=h_.row 1 _ rfl
      clear h_
      have h_:=HN.out.az.at (B:=A) (l:=[.int .i64 a.x,.int .i64 a.y]) (by simp)
      have a0:=h_.row 0 _ rfl
      have a1:=h_.row 1 _ rfl
      clear h_
      have h_:=HN.out.az.at (B:=F) (l:=[.int .i64 fk.x,.int .i64 fk.y]) (by simp)
      have f0:=h_.row 0 _ rfl
      have f1:=h_.row 1 _ rfl
      clear h_
      by_cases hkm:k=m
      ·have hbf:nx=fk:=by
        have h0:=HR.out.head
        rw[←HK.out.1,hkm,Nat.mod_self,h0] at hb
        exact(Option.some.inj hb).symm
       have bx:(nx.x==fk.x)=true:=by rw[hbf];exact beq_self_eq_true _
       have by':(nx.y==fk.y)=true:=by rw[hbf];exact beq_self_eq_true _
       have HKM:=hid hkm
       clear hbf hb hkm
       go_wp2
       have hh:=HN.out.ar.at (B:=g) (l:=plC (h.take k)) (by simp)
       rw[List.take_of_length_le (by have:=HKM.out;omega)] at hh
       refine bodyPost_ret (v:=.tuple #[.slice (some ⟨g,0,none⟩) k c,.int .i64 0]) ?_ rfl ⟨⟨g,⟨c,by rw[HKM.out,HL.out.2.2]⟩,hh⟩,HN.out.az.bw⟩
       simp[results,Tryz.results17,go_sem]
      ·have hb2:h[k]?=some nx:=by
        rw[←HK.out.1,Nat.mod_eq_of_lt (by omega)] at hb
        exact hb
       have hnf:nx≠fk:=fun e=>by
        have:=HR.out.inj k 0 nx hb2 (by rw[e];exact HR.out.head)
        omega
       have hna:nx≠a:=fun e=>by
        have:=HR.out.inj k k1 nx hb2 (by rw[e];exact HK.out.2)
        have:=HK.out.1
        omega
       have HT:=hid (show plC (h.take (k+1))=plC (h.take k)++[.int .i64 nx.x,.int .i64 nx.y] by rw[List.take_add_one,hb2,eO_];rfl)
       have hkm2:k<m:=by omega
       clear hb hb2 hkm
       rcases wO_ hnf with u1|⟨u1,u2⟩
       all_goals
        rcases wO_ hna with u3|⟨u3,u4⟩
        all_goals
         clear hnf hna
         go_wp2_with (first
          | (at_builtin;refine wpList_append_own_at _ rfl _ _ 27 rfl w.heap.size 26 i0 (.agg #[.int .i64 0,.int .i64 0]) 2 16 Tryz.underlying27 hi0 hz0 hz1 hz2 rfl (by decide) (.slice (some ⟨g,0,none⟩) k c) k (plC (h.take k)) rfl (HN.out.own.alloc _) ⟨wr.heap.size,0,none⟩ 1 1 [.int .i64 nx.x,.int .i64 nx.y] rfl rfl (jP_ _ _ _ _) (by simp[Value.oneCell']) (by unfold maxLen;omega) (by omega) (by simp;omega) ?_;intro v' w7 hown' hgrow _ hat;have HZ7:=hid (HN.out.append hown' hgrow hat);clear hown' hgrow hat)
          | fail)
         obtain⟨g7,c7,rfl⟩:=ownsRow_succ HZ7.out.own
         refine⟨⟨k+1,g7,c7,by omega,by omega,rfl,?_⟩,by simp only[lenV];omega⟩
         rw[HT.out]
         exact HZ7.out.sub (fun x hx=>by
          simp only[List.mem_cons,List.not_mem_nil,or_false] at hx
          subst hx
          simp)
theorem aOQ {B o:Nat} {ps:List Pl} {W:World} (h:PtAt (some ⟨B,o,none⟩) ps W):∀(j:Nat) (u:Value),(plC ps)[j]?=some u→W.cell? ((⟨B,o,none⟩:Addr).add j)=some u:=
 oO_ (f:=fun j=>W.cell? ((⟨B,o,none⟩:Addr).add j)) fun k p hp=>by
  have h1:=h.cells hp
  refine⟨?_,by simpa[Addr.add,Nat.add_assoc] using h1.2⟩
  cases k with
  | zero=>simpa[Addr.add] using h1.1
  | succ k=>simpa[Addr.add] using h1.1
theorem aQZ {B o cap n:Nat} {ps:List Pl} (hl:ps.length=n) (hn:n≤1000000) {R:List (Nat×List Value)} {w W:World} (hA:AzAt R w W) (h:PtAt (some ⟨B,o,none⟩) ps W) :
  Calls Tryz.prog 41 #[.slice (some ⟨B,o,none⟩) n cap] W fun e W'=>∃v,e=.returned v∧OzAt 26 v n (plC ps) R w W':=by
 have H0:=hid (OzAt.lit hA [] 26 0 rfl (by omega))
 have HP:=hid h
 have HL:=hid hl
 have hsz:=hA.bw.size
 clear hA h
 obtain⟨i0,hi0,hz0,hz1,hz2⟩:=info_parts dO_
 have hnil:∀W:World,(binOp .eql 27 (.slice (some ⟨B,o,none⟩) n cap) (.slice none 0 0)).run Tryz.prog W=.ok (.bool false) W:=fun _=>rfl
 go_enter Tryz.func41,Tryz.ntmps41
 go_wp2_with (first
  | (at_builtin;refine wpList_append_own_at _ rfl _ _ 27 rfl w.heap.size 26 i0 (.agg #[.int .i64 0,.int .i64 0]) 2 16 Tryz.underlying27 hi0 hz0 hz1 hz2 rfl (by decide) (.slice (some ⟨W.heap.size,0,none⟩) 0 0) 0 [] rfl H0.out.own ⟨B,o,none⟩ n cap (plC ps) rfl (by rw[bC_,HL.out]) (aOQ (HP.out.below ((Below.refl _ _).alloc (Nat.le_refl _) _))) (oN_ ps) (by unfold maxLen;omega) (by omega) (by simp;omega) ?_;intro v' w7 hown' hgrow _ hat;have HZ7:=hid (H0.out.grown hown' hgrow hat);clear hown' hgrow hat)
  | fail)
 go_ret
 have:=HZ7.out
 rw[Nat.zero_add,List.nil_append] at this
 exact⟨_,rfl,this⟩
theorem xU_ {a0:Option Addr} {cap n:Nat} {ps:List Pl} (hl:ps.length=n) (hv:fewB ps=true) (w:World) (h:PtAt a0 ps w) :
  Calls Tryz.prog 16 #[.slice a0 n cap] w fun e W'=>(∃g c,e=.returned (.tuple #[.slice (some ⟨g,0,none⟩) (aS_ ps).length c,.int .i64 0])∧ArAt g (plC (aS_ ps)) W')∧Below w.heap.size w W':=by
 have hall:=fD_ hv
 have hlen:=dI_ hv
 obtain⟨B,o,rfl⟩:=h.some hlen.1
 have hsl:=sP_len hv
 obtain⟨Q,hQ⟩:∃Q,Q=sP ps:=⟨_,rfl⟩
 obtain⟨m,hQl⟩:∃m,Q.length=m:=⟨_,rfl⟩
 rw[←hQ,hQl] at hsl
 have hn1:1≤n:=by omega
 have hQv:∀p∈Q,vP p=true:=fun p hp=>hall p (((jI_ hall).2 p).1 (by rwa[hQ] at hp))
 have KF:=hid (aCC (cap:=cap) hl (by omega) w h)
 rw[hv] at KF
 have K1:=hid (fun(W:World) (hb:Below w.heap.size w W)=>aQZ (cap:=cap) hl (by omega) (R:=[]) (w:=w) (W:=W) ⟨hb,fun x hx=>by cases hx⟩ (h.below hb))
 have K2:=hid (fun(g c:Nat) (W:World) (hz:OzAt 26 (.slice (some ⟨g,0,none⟩) n c) n (plC ps) [] w W)=>aNZ (cap:=c) hl (by omega) hz.pz)
 have K3:=hid (fun(g c:Nat) (l':List Pl) (W:World) (hc:n≤c) (hz:l'.length=n∧(∀q,q∈l'↔q∈ps)∧l'.Pairwise (fun a b=>ltP b a=false)∧PzAt g l' [] w W)=>
  (show Calls Tryz.prog 44 #[.slice (some ⟨g,0,none⟩) n c] W fun e W'=>e=.returned (.slice (some ⟨g,0,none⟩) m c)∧PzAt g Q [] w W' from by
   have:=aCQ (cap:=c) hz.1 (by omega) hc hz.2.2.2
   rw[sP_of hall hz.2.1 hz.2.2.1,←hQ,hQl] at this
   exact this))
 by_cases h3:m<3
 ·have hH:aS_ ps=Q:=by rw[nJ_,←hQ,if_pos (by omega)]
  rw[hH,hQl]
  have hg3:decide ((m:Int)<3)=true:=decide_eq_true (by omega)
  have hg4:(m:Int)<3:=by omega
  clear hall hQ hQl hQv hH hv h hl hsl hlen
  go_enter Tryz.func16,Tryz.ntmps16
  go_wp2_with (first
   | (go_at_call 39;(with_reducible refine(KF.out).mono ?_);rintro e w1 ⟨rfl,hb⟩;have H1:=hid hb;clear hb)
   | (go_at_call 41;(with_reducible refine(K1.out _ H1.out).mono ?_);rintro e w2 ⟨v,rfl,hz⟩;obtain⟨g,c,rfl⟩:∃g c,v=.slice (some ⟨g,0,none⟩) n c:=jV_ hz (by omega);have H2:=hid hz;have hcap:=hz.cap_le.1;clear hz)
   | (go_at_call 42;(with_reducible refine(K2.out _ _ _ H2.out).mono ?_);rintro e w3 ⟨rfl,l',hz⟩;have H3:=hid hz;clear hz)
   | (go_at_call 44;(with_reducible refine(K3.out _ _ _ _ hcap H3.out).mono ?_);rintro e w4 ⟨rfl,hz⟩;have H4:=hid hz;clear hz)
   | fail)
  refine bodyPost_ret (v:=.tuple #[.slice (some ⟨g,0,none⟩) m c,.int .i64 0]) ?_ rfl ⟨⟨g,c,rfl,H4.out.ar.row (g,plC Q) (by simp)⟩,H4.out.az.bw⟩
  simp[results,Tryz.results16,go_sem]
 have hH:aS_ ps=(aW_ aI_ Q).dropLast++(aW_ aI_ Q.reverse).dropLast:=by rw[nJ_,←hQ,if_neg (by omega)]
 obtain⟨p1,hp1⟩:∃p1,(aY_ aI_ Q).length=p1+1:=⟨(aY_ aI_ Q).length-1,by have:=eR_ (ok:=aI_) (l:=Q) (by omega);omega⟩
 obtain⟨p2,hp2⟩:∃p2,(aY_ aI_ Q.reverse).length=p2+1:=⟨(aY_ aI_ Q.reverse).length-1,by have:=eR_ (ok:=aI_) (l:=Q.reverse) (by simp;omega);omega⟩
 have b1:=eR_ (ok:=aI_) (l:=Q) (by omega)
 have b2:=lD_ (ok:=aI_) (l:=Q)
 have b3:=lD_ (ok:=aI_) (l:=Q.reverse)
 rw[List.length_reverse] at b3
 have hHl:(aS_ ps).length=p1+p2:=by
  rw[hH,List.length_append,List.length_dropLast,List.length_dropLast]
  unfold aW_
  rw[List.length_reverse,List.length_reverse]
  omega
 have HH:=hid hH
 rw[hHl]
 have K4:=hid (fun(g c:Nat) (W:World) (hz:PsAt g Q W)=>uB_ (cap:=c) hQl (by omega) hQv hz)
 rw[hp1] at K4
 have K5:=hid (fun(g c:Nat) (R:List (Nat×List Value)) (W:World) (hz:PzAt g Q R w W)=>uS_ (cap:=c) hQl (by omega) (by omega) hz)
 have K6:=hid (fun(g c:Nat) (W:World) (hz:PsAt g Q.reverse W)=>uB_ (cap:=c) (n:=m) (l:=Q.reverse) (by rw[List.length_reverse,hQl]) (by omega) (fun p hp=>hQv p (List.mem_reverse.1 hp)) hz)
 rw[hp2] at K6
 have d1:(aW_ aI_ Q).dropLast.length=p1:=by unfold aW_;rw[List.length_dropLast,List.length_reverse];omega
 have d2:(aW_ aI_ Q.reverse).dropLast.length=p2:=by unfold aW_;rw[List.length_dropLast,List.length_reverse];omega
 have K7:=hid (fun(S g1 g2 c1 c2 cs:Nat) (W:World) hA=>aAR (S:=S) (g1:=g1) (g2:=g2) (c1:=c1) (c2:=c2) (cs:=cs) (w:=w) (W:=W) d1 d2 (by omega) hA)
 rw[←hH] at K7
 have hw1:IntKind.i64.wrap (p1:Int)=(p1:Int):=IntWalk.i64_in _ (by omega)
 have hw2:IntKind.i64.wrap (p2:Int)=(p2:Int):=IntWalk.i64_in _ (by omega)
 have hn3:¬(m:Int)<3:=by omega
 have hn4:¬m<3:=by omega
 clear hall hQ hQl hQv hH hv hp1 hp2 b1 b2 b3 hHl d1 d2 h hl hsl hlen h3
 go_enter Tryz.func16,Tryz.ntmps16
 go_wp2_with (first
  | (go_at_call 39;(with_reducible refine(KF.out).mono ?_);rintro e w1 ⟨rfl,hb⟩;have H1:=hid hb;clear hb)
  | (go_at_call 41;(with_reducible refine(K1.out _ H1.out).mono ?_);rintro e w2 ⟨v,rfl,hz⟩;obtain⟨g,c,rfl⟩:∃g c,v=.slice (some ⟨g,0,none⟩) n c:=jV_ hz (by omega);have H2:=hid hz;have hcap:=hz.cap_le.1;clear hz)
  | (go_at_call 42;(with_reducible refine(K2.out _ _ _ H2.out).mono ?_);rintro e w3 ⟨rfl,l',hz⟩;have H3:=hid hz;clear hz)
  | (go_at_call 44;(with_reducible refine(K3.out _ _ _ _ hcap H3.out).mono ?_);rintro e w4 ⟨rfl,hz⟩;have H4:=hid hz;clear hz)
  | (go_at_call 48;(with_reducible refine(K5.out _ _ _ _ H5.out).mono ?_);rintro e w6 ⟨rfl,hz⟩;have H6:=hid hz;clear hz)
  | (go_at_call 47;have _:=H6;(with_reducible refine(K6.out _ _ _ H6.out.ps).mono ?_);rintro e w7 ⟨v,rfl,hb,hz⟩;obtain⟨g2,c2,rfl⟩:∃g c,v=.slice (some ⟨g,0,none⟩) (p2+1) c:=jV_ hz (by omega);have H7:=hid (show AzAt [(g2,plC (aW_ aI_ Q.reverse)),(g1,plC (aW_ aI_ Q))] w _ from(H6.out.below hb).az.cons (hz.ar.row (g2,plC (aW_ aI_ Q.reverse)) (by simp)));have hq2:=hz.cap_le;clear hb hz)
  | (go_at_call 47;(with_reducible refine(K4.out _ _ _ H4.out.ps).mono ?_);rintro e w5 ⟨v,rfl,hb,hz⟩;obtain⟨g1,c1,rfl⟩:∃g c,v=.slice (some ⟨g,0,none⟩) (p1+1) c:=jV_ hz (by omega);have H5:=hid (show PzAt g Q [(g1,plC (aW_ aI_ Q))] w _ from(H4.out.below hb).cons (hz.ar.row (g1,plC (aW_ aI_ Q)) (by simp)) (by have:=(hz.blk rfl).2.1;have:=H4.out.ns.sz;omega));have hq1:=hz.cap_le;clear hb hz)
  | fail)
 have H8:=hid (show AzAt [(w7.heap.size,[.slice (some ⟨g1,0,none⟩) p1 c1,.slice (some ⟨g2,0,none⟩) p2 c2]),(g1,plC (aW_ aI_ Q).dropLast),(g2,plC (aW_ aI_ Q.reverse).dropLast)] w _ from
  ((AzAt.mk (L:=[(g1,plC (aW_ aI_ Q).dropLast),(g2,plC (aW_ aI_ Q.reverse).dropLast)]) H7.out.bw (fun x hx=>by
    rcases List.mem_cons.1 hx with rfl|hx
    ·exact(H7.out.row (g1,plC (aW_ aI_ Q)) (by simp)).dropLast
    ·rcases List.mem_cons.1 hx with rfl|hx
     ·exact(H7.out.row (g2,plC (aW_ aI_ Q.reverse)) (by simp)).dropLast
     ·cases hx)).push [.slice (some ⟨g1,0,none⟩) p1 c1,.slice (some ⟨g2,0,none⟩) p2 c2] 27).drew)
 have hc1:(p1:Int)≤(c1:Int):=by omega
 have hc2:(p2:Int)≤(c2:Int):=by omega
 clear H7 H6 H5 H4 H3 H2 H1 K1 K2 K3 K4 K5 K6
 go_region_with (first
  | (go_at_call 49;(with_reducible refine(K7.out _ _ _ _ _ _ _ H8.out).mono ?_);rintro e w8 ⟨g3,c3,rfl,hz⟩;have H9:=hid hz;clear hz)
  | fail)
 all_goals
  go_wp2
  refine bodyPost_ret (v:=.tuple #[.slice (some ⟨g3,0,none⟩) (p1+p2) c3,.int .i64 0]) ?_ rfl ⟨⟨g3,c3,rfl,H9.out.ar.row (g3,plC (aS_ ps)) (by simp)⟩,H9.out.az.bw⟩
  simp[results,Tryz.results16,go_sem]
theorem PtAt.sz {b o:Nat} {ps:List Pl} {W:World} (h:PtAt (Option.some ⟨b,o,Option.none⟩) ps W) (hn:1≤ps.length):b<W.heap.size:=by
 cases ps with
 | nil=>simp at hn
 | cons p l=>
  obtain⟨b',o',e,h1,_⟩:=h.row 0 p rfl
  cases e
  exact h1
theorem aLX {a0:Option Addr} {cap n:Nat} {p:Pl} {l:List Pl} (hl:(p::l).length=n) (hv:fewB (p::l)=true) (w:World) (h:PtAt a0 (p::l) w) :
  Calls Tryz.prog 14 #[.slice a0 n cap] w fun e W'=>e=.returned (.tuple #[.agg #[.int .i64 (bY_ p l).x,.int .i64 (bY_ p l).y,.int .i64 (bY_ p l).w,.int .i64 (bY_ p l).h],.int .i64 0])∧Below w.heap.size w W':=by
 obtain⟨B,o,rfl⟩:=h.some (by simp)
 have hn:n≤40∧1≤n:=by
  unfold fewB at hv
  simp only[Bool.and_eq_true,decide_eq_true_eq] at hv
  omega
 have hall:vP p=true∧∀q∈l,vP q=true:=by
  unfold fewB at hv
  simp only[Bool.and_eq_true] at hv
  have:=List.all_eq_true.1 hv.2
  exact⟨this p (by simp),fun q hq=>this q (by simp[hq])⟩
 have H0:=hid (show AzAt [(w.heap.size,[.int .i64 0,.int .i64 0,.int .i64 0,.int .i64 0])] w _ from(AzAt.start w).push [.int .i64 0,.int .i64 0,.int .i64 0,.int .i64 0] 29)
 have KF:=hid (fun W (hb:Below w.heap.size w W)=>aCC (cap:=cap) hl (by omega) W (h.below hb))
 rw[hv] at KF
 have HP:=hid h
 have HA:=hid hall
 have HL:=hid hl
 have hB:=h.sz (by simp)
 obtain⟨rf,hrf⟩:∃rf,rf=bY_ p l:=⟨_,rfl⟩
 rw[←hrf]
 have HRF:=hid hrf
 clear h hall hv hl hrf
 go_enter Tryz.func14,Tryz.ntmps14
 go_wp2_with (first
  | (go_at_call 39;(with_reducible refine(KF.out _ H0.out.bw).mono ?_);rintro e w1 ⟨rfl,hb⟩;have H1:=hid (H0.out.below hb);have c0:=(HP.out.below H1.out.bw).cells (k:=0) (p:=p) rfl;have q0:=c0.1;have q1:=c0.2;clear hb c0)
  | fail)
 simp only[Nat.zero_mul,Nat.add_zero] at q0 q1
 have hn2:0<n:=hn.2
 have hs1:B<w1.heap.size:=Nat.lt_of_lt_of_le hB H1.out.bw.size
 have H2:=hid (show AzAt [(w1.heap.size,[.int .i64 p.x,.int .i64 p.y,.int .i64 0,.int .i64 0]),(w.heap.size,[.int .i64 0,.int .i64 0,.int .i64 0,.int .i64 0])] w _ from(H1.out.push [.int .i64 p.x,.int .i64 p.y,.int .i64 0,.int .i64 0] 29).drew)
 have hs2:w.heap.size≤w1.heap.size:=H1.out.bw.size
 have hs3:w.heap.size<w1.heap.size:=(H1.out.row (w.heap.size,[.int .i64 0,.int .i64 0,.int .i64 0,.int .i64 0]) (by simp)).sz
 obtain⟨R,hR⟩:∃R,R=w1.heap.size:=⟨_,rfl⟩
 go_region
 rw[←hR] at H2 hs2 hs3⊢
 obtain⟨W2,hW2⟩:∃W2,W2=(w1.alloc (Obj.cells #[Value.int IntKind.i64 p.x,Value.int IntKind.i64 p.y,Value.int IntKind.i64 0,Value.int IntKind.i64 0] 29)).drew:=⟨_,rfl⟩
 rw[←hW2] at H2
 rw[←hW2]
 clear hR hW2 q0 q1 hs1 H1
 go_wp2
 go_loopw [24] (fun i wr=>∃k:Nat,k≤n∧i=.int .i64 (k:Int)∧AzAt [(R,rcC (((p::l).take k).foldl cB_ ⟨p.x,p.y,0,0⟩)),(w.heap.size,[.int .i64 0,.int .i64 0,.int .i64 0,.int .i64 0])] w wr) (fun i _=>n-(intOf i).toNat)
 case atStart=>exact⟨0,Nat.zero_le _,rfl,H2.out⟩
 case round=>
  obtain⟨k,hk,rfl,hA⟩:=hrel
  by_cases hlt:k<n
  ·obtain⟨q,hq⟩:∃q,(p::l)[k]?=some q:=⟨(p::l)[k]'(by have:=HL.out;omega),List.getElem?_eq_getElem _⟩
   obtain⟨c0,c1⟩:=((HP.out.below hA.bw).cells hq)
   obtain⟨r,hr⟩:∃r,r=((p::l).take k).foldl cB_ ⟨p.x,p.y,0,0⟩:=⟨_,rfl⟩
   rw[←hr] at hA
   have HE:=hid (show((p::l).take (k+1)).foldl cB_ ⟨p.x,p.y,0,0⟩=cB_ r q by rw[List.take_add_one,hq,hr,List.foldl_append];rfl)
   have hvr:vRc r=true:=by rw[hr];exact pX_ p l HA.out.1 HA.out.2 k
   have hvq:vP q=true:=by
    rcases List.mem_cons.1 (List.mem_of_getElem? hq) with rfl|h
    ·exact HA.out.1
    ·exact HA.out.2 q h
   have b1:=bO_.1 hvr
   have b2:=aT_.1 hvq
   have h_:=hA.row (R,rcC r) (by simp)
   have a0:=h_.row 0 _ rfl
   have a1:=h_.row 1 _ rfl
   have a2:=h_.row 2 _ rfl
   have a3:=h_.row 3 _ rfl
   have f0:=h_.fz 0 (by simp[rcC])
   have f1:=h_.fz 1 (by simp[rcC])
   have f2:=h_.fz 2 (by simp[rcC])
   have f3:=h_.fz 3 (by simp[rcC])
   clear h_
   have sR:=(hA.row (R,rcC r) (by simp)).sz
   have sB:B<wr.heap.size:=Nat.lt_of_lt_of_le hB hA.bw.size
   have HH:=hid hA
   have HR:=hid hr
   have HQ:=hid hq
   clear hA hr hq hvr hvq
   go_wp2
   go_region
   go_wp2
   refine⟨⟨k+1,by omega,by go_num,?_⟩,by simp only[intOf];omega⟩
   rw[HE.out]
   exact((((((HH.out.set hs2 (by simp <;> omega) (i:=0) rfl _).set hs2 (by simp <;> omega) (i:=1) rfl _).set hs2 (by simp <;> omega) (i:=2) rfl _).set hs2 (by simp <;> omega) (i:=3) rfl _).al _).drew)
  ·obtain rfl:k=n:=by omega
   have e:((p::l).take k).foldl cB_ ⟨p.x,p.y,0,0⟩=bY_ p l:=by
    rw[←HL.out,List.take_length,List.foldl_cons,iG_]
    rfl
   rw[e] at hA
   clear e
   rw[←HRF.out] at hA
   have h_:=hA.row (R,rcC rf) (by simp)
   have a0:=h_.row 0 _ rfl
   have a1:=h_.row 1 _ rfl
   have a2:=h_.row 2 _ rfl
   have a3:=h_.row 3 _ rfl
   clear h_
   have h_:=hA.row (w.heap.size,[.int .i64 0,.int .i64 0,.int .i64 0,.int .i64 0]) (by simp)
   have d0:=h_.row 0 _ rfl
   have d1:=h_.row 1 _ rfl
   have d2:=h_.row 2 _ rfl
   have d3:=h_.row 3 _ rfl
   have f0:=h_.fz 0 (by simp)
   have f1:=h_.fz 1 (by simp)
   have f2:=h_.fz 2 (by simp)
   have f3:=h_.fz 3 (by simp)
   clear h_
   have HH:=hid (AzAt.swap hA)
   clear hA
   go_wp2
   have hp:=(((HH.out.set (Nat.le_refl _) (by simp <;> omega) (i:=0) rfl (.int .i64 rf.x)).set (Nat.le_refl _) (by simp <;> omega) (i:=1) rfl (.int .i64 rf.y)).set (Nat.le_refl _) (by simp <;> omega) (i:=2) rfl (.int .i64 rf.w)).set (Nat.le_refl _) (by simp <;> omega) (i:=3) rfl (.int .i64 rf.h)
   generalize (((wr.setCell ⟨w.heap.size,0,none⟩ (.int .i64 rf.x)).setCell ⟨w.heap.size,1,none⟩ (.int .i64 rf.y)).setCell ⟨w.heap.size,2,none⟩ (.int .i64 rf.w)).setCell ⟨w.heap.size,3,none⟩ (.int .i64 rf.h)=WF at hp⊢
   have h_:=hp.row (w.heap.size,[.int .i64 rf.x,.int .i64 rf.y,.int .i64 rf.w,.int .i64 rf.h]) (by simp)
   have q0:=h_.row 0 _ rfl
   have q1:=h_.row 1 _ rfl
   have q2:=h_.row 2 _ rfl
   have q3:=h_.row 3 _ rfl
   clear h_
   refine bodyPost_ret (v:=.tuple #[.agg #[.int .i64 rf.x,.int .i64 rf.y,.int .i64 rf.w,.int .i64 rf.h],.int .i64 0]) ?_ rfl ⟨rfl,hp.bw⟩
   simp[results,Tryz.results14,go_sem,Result.andThen,q0,q1,q2,q3]
theorem aKU (F:Fence) (n:Nat) (h8:F.fn 77) (hro:F.round=none) (hn:1≤n) (l Bs n₀ B o cap N:Nat) (ps:List Pl) (hv:∀p∈ps,vP p=true) (hl:ps.length=N) (hN:N≤1000000) (hB:B<n₀) (J Jx:List PE→World→Prop)
  (hJ:∀(s:List PE) (A C:World),J s A→Below A.heap.size A C→J s C)
  (hY:∀pre x W,J pre W→pre.length<N→YieldAt F (n-1) Tryz.prog l (qE_ x) W fun e W'=>
   (e=.returned (.bool true)∧J (pre++[x]) W'∧aZ_ n₀ Bs W W')∨(e=.returned (.bool false)∧Jx (pre++[x]) W'))
  (W:World) (hBs:W.cell? ⟨Bs,0,none⟩=some (.slice (some ⟨B,o,none⟩) N cap)) (hb:n₀≤W.heap.size) (hb2:Bs<W.heap.size) (hP:PtAt (some ⟨B,o,none⟩) ps W) (h0:J [] W) :
  CallsIn F n Tryz.prog 77 #[.func (.yield l) #[] #[],.pointer (some ⟨Bs,0,none⟩)] W fun e W'=>(∃v,e=.returned v)∧
   (J (bF_ ps hv) W'∨(∃k,k≤N∧Jx ((bF_ ps hv).take k) W')):=by
 have HL:=hid hl
 have HP:=hid hP
 have HJ:=hid hJ
 clear hP hl hJ
 refine callsIn_of_wp Tryz.func77 rfl h8 ?_ hro
 simp only[Tryz.ntmps77,List.size_toArray,List.length_cons,List.length_nil,Nat.reduceAdd,Nat.reduceSub,Array.replicate_succ,Array.replicate_zero,List.push_toArray,List.append_toArray,List.nil_append,List.cons_append]
 gi_wp2
 gi_loopw [7] (fun i wr=>∃k:Nat,k≤N∧i=.int .i64 (k:Int)∧J ((bF_ ps hv).take k) wr∧aZ_ n₀ Bs W wr∧W.heap.size≤wr.heap.size)
  (fun i _=>N-(intOf i).toNat)
 case atStart=>exact⟨0,Nat.zero_le _,rfl,h0,aZ_.refl _ _ _,Nat.le_refl _⟩
 case round=>
  obtain⟨k,hk,rfl,hJs,hnx,hsz⟩:=hrel
  by_cases hlt:k<N
  ·obtain⟨m,hm⟩:∃m,m=(k+1)%N:=⟨_,rfl⟩
   have hmN:m<N:=by rw[hm];exact Nat.mod_lt _ (by omega)
   obtain⟨p,hp⟩:∃p,ps[k]?=some p:=⟨ps[k]'(by have:=HL.out;omega),List.getElem?_eq_getElem _⟩
   obtain⟨q,hq⟩:∃q,ps[m]?=some q:=⟨ps[m]'(by have:=HL.out;omega),List.getElem?_eq_getElem _⟩
   have hcB:=(hnx.cell 0).trans hBs
   have kc:∀u,wr.cell? ⟨B,u,none⟩=W.cell? ⟨B,u,none⟩:=fun u=>hnx.1.cell (p:=⟨B,u,none⟩) hB
   have c0:=(kc (o+k*2)).trans (HP.out.cells hp).1
   have c1:=(kc (o+k*2+1)).trans (HP.out.cells hp).2
   have d0:=(kc (o+m*2)).trans (HP.out.cells hq).1
   have d1:=(kc (o+m*2+1)).trans (HP.out.cells hq).2
   have hrem:((k:Int)+1).tmod (N:Int)=(m:Int):=by rw[hm];rfl
   have hw1:IntKind.i64.wrap ((k:Int)+1)=(k:Int)+1:=IntWalk.i64_in _ (by omega)
   have hN0:¬N=0:=by omega
   have s1:B<wr.heap.size:=by omega
   have s2:Bs<wr.heap.size:=by omega
   have HX:=hid hnx
   have HJs:=hid hJs
   have hvp:=hv p (List.mem_of_getElem? hp)
   have hvq:=hv q (List.mem_of_getElem? hq)
   have HH:=hid (show(bF_ ps hv).take (k+1)=(bF_ ps hv).take k++[⟨(p,q),hvp,hvq⟩] by rw[List.take_add_one,vV_ hp (by rw[HL.out,←hm];exact hq)];rfl)
   clear hm hp hq kc hnx hJs
   have hmx:Tryz.prog.follows .mixedOrders=true:=by kernel_rfl
   gi_wp2
   refine hJ_ (A:=?fr) 10 hro hmx (by kernel_rfl) ?h ?ht
   case h=>
    simp only[List.take_succ_cons,List.take_zero]
    repeat (gi_big_quiet_step (fail))
    refine wpQuietIn_nil ?_
    rfl
   case ht=>
    intro nq
    simp only[List.drop_succ_cons,List.drop_zero]
    have HJ2:=hid (show J ((bF_ ps hv).take k) ((wr.alloc (.cells #[.int .i64 p.x,.int .i64 p.y] 26)).drewN nq) from(HJ.out _ _ _ HJs.out (hA_ ((Below.refl _ _).alloc (Nat.le_refl _) _) nq)))
    have HK0:=hid (show aZ_ n₀ Bs W ((wr.alloc (.cells #[.int .i64 p.x,.int .i64 p.y] 26)).drewN nq) from HX.out.trans (aZ_.of_below (hA_ ((Below.refl wr.heap.size wr).alloc (Nat.le_refl _) _) nq) (by omega) s2))
    obtain⟨fn,tmps,assign,body,hy,hR⟩:=hY _ ⟨(p,q),hvp,hvq⟩ _ HJ2.out (by rw[List.length_take,eM_,HL.out];omega)
    simp only[qE_] at hy
    gi_wp2
    refine hR.mono ?_
    rintro e W3 (⟨rfl,hJ3,hk3⟩|⟨rfl,hJx3⟩)
    ·have HN:=hid (show ∃k':Nat,k'≤N∧Value.int .i64 ((k:Int)+1)=.int .i64 (k':Int)∧J ((bF_ ps hv).take k') W3∧aZ_ n₀ Bs W W3∧W.heap.size≤W3.heap.size from⟨k+1,by omega,rfl,by rw[HH.out];exact hJ3,HK0.out.trans hk3,(HK0.out.trans hk3).1.size⟩)
     clear hJ3 hk3
     gi_wp2
     go_roundw
     case rel=>exact HN.out
     case measure=>simp only[intOf];omega
    ·have HN:=hid (show Jx ((bF_ ps hv).take (k+1)) W3 from by rw[HH.out];exact hJx3)
     clear hJx3
     gi_wp2
     refine bodyPost_ret (results_none rfl _ _ _) rfl ?_
     exact⟨⟨_,rfl⟩,.inr ⟨k+1,by omega,HN.out⟩⟩
  ·obtain rfl:k=N:=by omega
   have HE:=hid (show J (bF_ ps hv) wr from by have:=hJs;rwa[show(bF_ ps hv).take k=bF_ ps hv by rw[List.take_of_length_le (by rw[eM_,HL.out];omega)]] at this)
   clear hJs
   gi_wp2
   go_end0
   exact⟨⟨_,rfl⟩,.inl HE.out⟩
theorem kY_ (F:Fence) (n:Nat) (h8:F.fn 77) (hro:F.round=none) (hn:1≤n) (Bs n₀ B o cap N:Nat) (ps:List Pl) (hv:∀p∈ps,vP p=true) (hl:ps.length=N) (hN:N≤1000000) (hB:B<n₀) (w:World) (hBs:w.cell? ⟨Bs,0,none⟩=some (.slice (some ⟨B,o,none⟩) N cap)) (hb:n₀≤w.heap.size) (hb2:Bs<w.heap.size) (hP:PtAt (some ⟨B,o,none⟩) ps w) :
  SeqStopsK F n Tryz.prog 77 #[.pointer (some ⟨Bs,0,none⟩)] qE_ (aZ_ n₀ Bs) (fun ys=>ys=bF_ ps hv) (fun pre=>∃k,k≤N∧pre=(bF_ ps hv).take k) N w:=fun l J Jx W hW hJ _ hY h0=>
 (aKU F n h8 hro hn l Bs n₀ B o cap N ps hv hl hN hB J Jx
  (fun s A C hA hb=>hJ s A C none hA ⟨hb.os,hb.tape,hb.output,hb.size,fun k hk _=>hb.block k hk⟩ (fun _ e=>by cases e)) hY W ((hW.cell (p:=⟨Bs,0,none⟩) hb2).trans hBs) (Nat.le_trans hb hW.size) (Nat.lt_of_lt_of_le hb2 hW.size) (hP.below hW) h0).mono
  fun _ _ ⟨h1,h2⟩=>⟨h1,h2.elim (fun h=>.inl ⟨_,rfl,h⟩) (fun⟨k,hk,h⟩=>.inr ⟨_,⟨k,hk,rfl⟩,h⟩)⟩
theorem aRG {a0:Option Addr} {cap n:Nat} {ps:List Pl} (hl:ps.length=n) (hv:fewB ps=true) (w:World) (h:PtAt a0 ps w) :
  Calls Tryz.prog 18 #[.slice a0 n cap] w fun e W'=>e=.returned (.tuple #[.int .i64 (hF_ ps),.int .i64 0])∧Below w.heap.size w W':=by
 have hlen1:=(dI_ hv).1
 obtain⟨B,o,rfl⟩:=h.some hlen1
 have hn:n≤40∧1≤n:=by
  unfold fewB at hv
  simp only[Bool.and_eq_true,decide_eq_true_eq] at hv
  omega
 have hall:∀q∈ps,vP q=true:=by
  unfold fewB at hv
  simp only[Bool.and_eq_true] at hv
  exact List.all_eq_true.1 hv.2
 have KF:=hid (aCC (cap:=cap) hl (by omega) w h)
 rw[hv] at KF
 have HP:=hid h
 have HA:=hid hall
 have HL:=hid hl
 have hB:=h.sz hlen1
 clear hlen1
 clear h hv
 refine(callsIn_wide (n:=3)).1 ?_
 refine callsIn_of_wp_marks Tryz.func18 rfl trivial ?_ rfl
 simp only[Tryz.ntmps18,List.size_toArray,List.length_cons,List.length_nil,Nat.reduceAdd,Nat.reduceSub,Array.replicate_succ,Array.replicate_zero,List.push_toArray,List.append_toArray,List.nil_append,List.cons_append]
 gi_wp2_with (first
  | (refine⟨trivial,?_⟩;gi_at_call 39;with_reducible refine(callsIn_wide.2 KF.out).mono ?_;rintro e w1 ⟨rfl,hb⟩;have HB:=hid hb;clear hb)
  | (refine⟨trivial,?_⟩;gi_at_call 53;refine(nL_ Fence.wide _ trivial rfl _ _ _ _).mono ?_;rintro e w' ⟨rfl,rfl⟩))
 obtain⟨W0,hW0⟩:∃W0,(w1.alloc (.cells #[.int .i64 0] 3))=W0:=⟨_,rfl⟩
 have bS:Boxed W0 w1.heap.size 3 (.int .i64 0):=by rw[←hW0];exact Boxed.new w1 3 _
 have hs0:W0.heap.size=w1.heap.size+1:=by rw[←hW0];simp
 have hB0:Below w1.heap.size w1 W0:=by rw[←hW0];exact(Below.refl _ _).alloc (Nat.le_refl _) _
 have bN:=Boxed.new W0 27 (.slice (some ⟨B,o,none⟩) n cap)
 rw[hs0] at bN
 rw[hW0]
 have hw1:=HB.out.size
 clear hW0
 have hB1:Below W0.heap.size W0 (W0.alloc (.cells #[.slice (some ⟨B,o,none⟩) n cap] 27)):=(Below.refl _ _).alloc (Nat.le_refl _) _
 refine wpIn_rangeFunc_ownH rfl (by omega) (gf:=77) (lb:=#[.pointer (some ⟨w1.heap.size+1,0,none⟩)]) rfl trivial (enters_of Tryz.func77 (by kernel_rfl) rfl)
  (kY_ Fence.wide _ trivial rfl (by omega) (w1.heap.size+1) w1.heap.size B o cap n ps HA.out HL.out (by omega) (by omega) (W0.alloc (.cells #[.slice (some ⟨B,o,none⟩) n cap] 27)) bN.cell (by simp;omega) (by simp;omega) (((HP.out.below HB.out).below hB0).below hB1))
  aZ_.trans (hV_ (by simp;omega) (by simp;omega)) (Below.refl _ _) (fun _=>rfl)
  (fun pre W=>(W.cell? ⟨w1.heap.size,0,none⟩=some (.int .i64 (lF_ pre))∧W.frozen? ⟨w1.heap.size,0,none⟩=false∧w1.heap.size+2≤W.heap.size)∧Below w1.heap.size w1 W)
  (fun _ _ _=>False)
  ?I (fun _ _ _ _ _ hs _ _=>hs) ?h0
  (fun x a' W=>∃A C:Nat,a' = { tmps:=#[.slice (some ⟨B,o,none⟩) n cap,undef,.int .i64 0,.int .i64 0,.pointer (some ⟨w1.heap.size,0,none⟩),.pointer (some ⟨A,0,none⟩),.pointer (some ⟨C,0,none⟩),.slice (some ⟨B,o,none⟩) n cap,.bool true,.bool false,.slice (some ⟨B,o,none⟩) n cap,.func (.func 77) #[] #[.pointer (some ⟨w1.heap.size+1,0,none⟩)],.agg #[.int .i64 x.1.1.x,.int .i64 x.1.1.y],.agg #[.int .i64 x.1.2.x,.int .i64 x.1.2.y],undef,undef,undef,undef,undef,undef,undef,undef,undef,undef,undef,undef,undef,undef],defers:=[] }∧(W.cell? ⟨A,0,none⟩=some (.int .i64 x.1.1.x)∧W.cell? ⟨A,1,none⟩=some (.int .i64 x.1.1.y))∧(W.cell? ⟨C,0,none⟩=some (.int .i64 x.1.2.x)∧W.cell? ⟨C,1,none⟩=some (.int .i64 x.1.2.y)))
  ?hAx ?assign ?body ?done ?stop
 case I=>
  exact OwnFrom.and (Own.from (fun s A B row hs hg hr=>⟨cell_kept hs.1 hg hr,(frozen_kept hs.1 hg hr).trans hs.2.1,Nat.le_trans hs.2.2 hg.size⟩) _) (ownFrom_below (Nat.le_refl _) (by simp;omega))
 case h0=>exact⟨⟨(bS.alloc _).cell,(bS.alloc _).frozen,by simp;omega⟩,hB0.trans (hB1.mono (by omega))⟩
 case hAx=>
  rintro x a' _ X Y row ⟨A,C,e,⟨h1,h2⟩,h3,h4⟩ hg hr
  have hr':∀r,row=some r→∃o:Obj,X.heap[r]?=some o∧o.isCells=false:=fun r e=>(hr r e).2
  exact⟨A,C,e,⟨cell_kept h1 hg hr',cell_kept h2 hg hr'⟩,cell_kept h3 hg hr',cell_kept h4 hg hr'⟩
 case assign=>
  intro l pre x W K hI hK
  simp only[qE_]
  have HI:=hid hI
  have HK:=hid hK
  clear hI hK
  gi_wp2
  have hsz:=HI.out.1.2.2
  have hb2:Below W.heap.size W ((W.alloc (.cells #[.int .i64 x.1.1.x,.int .i64 x.1.1.y] 26)).alloc (.cells #[.int .i64 x.1.2.x,.int .i64 x.1.2.y] 26)):=((Below.refl _ _).alloc (Nat.le_refl _) _).alloc (by simp) _
  refine HK.out _ _ ((aR_ hb2).from _) (aZ_.of_below hb2 (by omega) (by omega)) ⟨⟨(hb2.cell (p:=⟨w1.heap.size,0,none⟩) (by show w1.heap.size<_;omega)).trans HI.out.1.1,(hb2.frozen (p:=⟨w1.heap.size,0,none⟩) (by show w1.heap.size<_;omega)).trans HI.out.1.2.1,Nat.le_trans hsz hb2.size⟩,HI.out.2.trans (hb2.mono (by omega))⟩ ⟨W.heap.size,W.heap.size+1,rfl,?_,?_⟩
  ·constructor <;> simp[go_sem]
  ·constructor <;> simp[go_sem]
 case body=>
  rintro l pre x a' W hl hr ⟨⟨hc,hf,hsz⟩,hB⟩ ⟨A,C,rfl,⟨h1,h2⟩,h3,h4⟩ hlen
  have b1:=vP_b x.2.1
  have b2:=vP_b x.2.2
  have m1:=mulb b1.1.1 b1.1.2 b2.2.1 b2.2.2
  have m2:=mulb b1.2.1 b1.2.2 b2.1.1 b2.1.2
  have hS:=aIF pre
  have hE:=yM_ x
  have HX:=hid (rZ_ pre x)
  unfold pZ_ at hE HX
  obtain⟨⟨⟨p,q⟩,hx⟩,hxe⟩:∃y:PE,y=x:=⟨x,rfl⟩
  subst hxe
  simp only at h1 h2 h3 h4 b1 b2 m1 m2 hE HX⊢
  generalize hpq:p.x*q.y=u at *
  generalize hqp:p.y*q.x=v at *
  have w1':IntKind.i64.wrap u=u:=IntWalk.i64_in _ (by omega)
  have w2':IntKind.i64.wrap v=v:=IntWalk.i64_in _ (by omega)
  have w3':IntKind.i64.wrap (u-v)=u-v:=IntWalk.i64_in _ (by omega)
  have w4':IntKind.i64.wrap (lF_ pre+(u-v))=lF_ pre+(u-v):=IntWalk.i64_in _ (by omega)
  clear hr b1 b2 m1 m2 hS hE
  gi_wp2
  refine⟨(KeepsOthers.setCell W _ _).from _,(aZ_.refl _ _ W).setCell (p:=⟨w1.heap.size,0,none⟩) (Nat.le_refl _) (by show w1.heap.size+1≠w1.heap.size;omega) _,⟨?_,?_,?_⟩,hB.setCell (p:=⟨w1.heap.size,0,none⟩) (Nat.le_refl _) _⟩
  ·rw[HX.out]
   exact World.cell?_setCell_same _ _ _ hc
  ·simpa[go_sem] using hf
  ·simpa using hsz
 case done=>
  rintro D ys W hD rfl ⟨⟨hc,hf,hsz⟩,hB⟩ hK
  rw[wS_] at hc
  gi_wp2
  have hD':w1.heap.size≤D:=by simp at hD;omega
  have hbl:=((HB.out.trans (hB.mono hw1))).trans (belowK_b (w:=w) (Nat.le_refl _) W D _ (.deferred none) (by omega) hK rfl rfl)
  refine⟨by simp,.inl ⟨_,_,rfl,run_takeDeferred hK,?_⟩⟩
  refine⟨.tuple #[.int .i64 (hF_ ps),.int .i64 0],?_,rfl,hbl⟩
  simp[results,Tryz.f18,go_sem]
 case stop=>
  rintro D c pre W _ _ hF
  exact hF.elim
theorem aGP {a c:Option Addr} {n m c1 c2:Nat} {ps qs:List Pl} (hp:ps.length=n) (hq:qs.length=m) (hn:n≤1000000) (hm:m≤1000000) (w:World) (h1:PtAt a ps w) (h2:PtAt c qs w) :
  Calls Tryz.prog 54 #[.slice a n c1,.slice c m c2] w fun e w'=>e=.returned (.bool (decide (ps=qs)))∧Below w.heap.size w w':=by
 have HP:=hid hp
 have HQ:=hid hq
 have H1:=hid h1
 have H2:=hid h2
 clear h1 h2
 by_cases hnm:n=m
 ·clear hp hq
  subst hnm
  go_enter Tryz.func54,Tryz.ntmps54
  go_wp2
  go_loopw [13] (fun i wr=>∃k:Nat,k≤n∧i=.int .i64 (k:Int)∧Below w.heap.size w wr∧ps.take k=qs.take k) (fun i _=>n-(intOf i).toNat)
  case atStart=>exact⟨0,Nat.zero_le _,rfl,Below.refl _ _,rfl⟩
  case round=>
   obtain⟨k,hk,rfl,hb,ht⟩:=hrel
   by_cases hlt:k<n
   ·obtain⟨p,hp⟩:∃p,ps[k]?=some p:=⟨ps[k]'(by have:=HP.out;omega),List.getElem?_eq_getElem _⟩
    obtain⟨q,hq⟩:∃q,qs[k]?=some q:=⟨qs[k]'(by have:=HQ.out;omega),List.getElem?_eq_getElem _⟩
    obtain⟨b1,o1,rfl,hbk1,c0,c1'⟩:=((H1.out.below hb).row k p hp)
    obtain⟨b2,o2,rfl,hbk2,d0,d1⟩:=((H2.out.below hb).row k q hq)
    have HB:=hid hb
    have HT:=hid ht
    have HE:=hid (And.intro hp hq)
    clear hb ht hp hq
    have i1:(0:Int)≤(k:Int):=by omega
    have i2:(k:Int)<(n:Int):=by omega
    by_cases hpq:p=q
    ·subst hpq
     go_wp2
     go_region
     all_goals
      go_wp2
      exact⟨⟨k+1,by omega,by go_num,HB.out.drew,hN_ HE.out.1 HE.out.2 HT.out rfl⟩,by simp only[intOf];omega⟩
    ·have hne:¬ps=qs:=fun e=>hpq (by have h1:=HE.out.1;rw[e,HE.out.2] at h1;exact(Option.some.inj h1).symm)
     have HN:=hid hne
     have hd:(p.x==q.x)=false∨((p.x==q.x)=true∧(p.y==q.y)=false):=by
      by_cases hx:p.x=q.x
      ·right
       refine⟨beq_iff_eq.2 hx,beq_eq_false_iff_ne.2 fun hy=>hpq ?_⟩
       cases p
       cases q
       simp_all
      ·exact .inl (beq_eq_false_iff_ne.2 hx)
     clear hpq hne
     rcases hd with hx|⟨hx,hy⟩
     all_goals
      go_wp2
      go_region
      all_goals
       go_wp2
       go_ret
       exact⟨aQ_ (decide_eq_false HN.out).symm,HB.out.drew⟩
   ·obtain rfl:k=n:=by omega
    have HB:=hid hb
    have HT:=hid ht
    clear hb ht
    go_wp2
    go_ret
    have:=HT.out
    rw[List.take_of_length_le (by rw[HP.out];exact Nat.le_refl _),List.take_of_length_le (by rw[HQ.out];exact Nat.le_refl _)] at this
    exact⟨aQ_ (decide_eq_true this).symm,HB.out⟩
 ·have hne:¬ps=qs:=fun e=>hnm (by rw[←hp,←hq,e])
  rw[decide_eq_false hne]
  clear hp hq hne
  go_enter Tryz.func54,Tryz.ntmps54
  go_wp2
  go_ret
  exact⟨rfl,Below.refl _ _⟩
theorem aHH {a0:Option Addr} {cap n:Nat} {ps:List Pl} {r:Rc} (hl:ps.length=n) (hv:fewB ps=true) (hh:aS_ ps=ps) (hr:vRc r=true)
  {w:World} (hi:IOps w) (hf:FrOp w) (h:PtAt a0 ps w) :
  Calls Tryz.prog 21 #[.slice a0 n cap,.agg #[.int .i64 r.x,.int .i64 r.y,.int .i64 r.w,.int .i64 r.h]] w fun e W'=>e=.returned (.tuple #[.agg #[.string (qN (bV_ ps r)),.string (qD (bV_ ps r))],.int .i64 0])∧Below w.heap.size w W':=by
 have hlen1:=(dI_ hv).1
 obtain⟨B,o,rfl⟩:=h.some hlen1
 have hall:∀q∈ps,vP q=true:=by
  unfold fewB at hv
  simp only[Bool.and_eq_true] at hv
  exact List.all_eq_true.1 hv.2
 have hnn:=dI_ hv
 rw[hl] at hnn
 obtain⟨hn1,hn⟩:=hnn
 have K1:=hid (fun(W:World) (hb:Below w.heap.size w W)=>xU_ (cap:=cap) hl hv W (h.below hb))
 rw[hh,hl] at K1
 have K2:=hid (fun(g c:Nat) (W:World) (hb:Below w.heap.size w W) (hg:PsAt g ps W)=>(by have:=aGP (c1:=c) (c2:=cap) hl hl (by omega) (by omega) W (PtAt.of hg) (h.below hb);rw[decide_eq_true rfl] at this;exact this))
 have K3:=hid (fun(W:World)=>by have:=fR_ r W;rw[hr] at this;exact this)
 have K4:=hid (fun(W:World) (hb:Below w.heap.size w W)=>dG_ (n:=0) (by decide) (by decide) (hi.below hb) (hf.below hb))
 have HA:=hid hall
 have HP:=hid h
 have HL:=hid hl
 have HR:=hid hr
 have HI:=hid hi
 have HF:=hid hf
 have hB:=h.sz hlen1
 clear hlen1
 have H0:=hid (show AzAt [(w.heap.size+1,[.string ⟨#[]⟩,.string ⟨#[]⟩]),(w.heap.size,[.int .i64 r.x,.int .i64 r.y,.int .i64 r.w,.int .i64 r.h])] w _ from by
  have hp:=((AzAt.start w).push [.int .i64 r.x,.int .i64 r.y,.int .i64 r.w,.int .i64 r.h] 29).push [.string ⟨#[]⟩,.string ⟨#[]⟩] 47
  simp only[World.size_alloc] at hp
  exact hp)
 clear hall hv hh hr hi hf h hl
 refine(callsIn_wide (n:=3)).1 ?_
 refine callsIn_of_wp_marks Tryz.func21 rfl trivial ?_ rfl
 simp only[Tryz.ntmps21,List.size_toArray,List.length_cons,List.length_nil,Nat.reduceAdd,Nat.reduceSub,Array.replicate_succ,Array.replicate_zero,List.push_toArray,List.append_toArray,List.nil_append,List.cons_append]
 gi_wp2_with (first
  | (refine⟨trivial,?_⟩;gi_at_call 16;with_reducible refine(callsIn_wide.2 (K1.out _ H0.out.bw)).mono ?_;rintro e w1 ⟨⟨g,c,rfl,hg⟩,hb⟩;have H1:=hid (H0.out.below hb);have G1:=hid (PsAt.of hg);clear hb hg)
  | (refine⟨trivial,?_⟩;gi_at_call 54;with_reducible refine(callsIn_wide.2 (K2.out _ _ _ H1.out.bw G1.out)).mono ?_;rintro e w2 ⟨rfl,hb⟩;have H2:=hid (H1.out.below hb);clear hb;have h_:=H2.out.row (w.heap.size,[.int .i64 r.x,.int .i64 r.y,.int .i64 r.w,.int .i64 r.h]) (by simp);have x0:=h_.row 0 _ rfl;have x1:=h_.row 1 _ rfl;have x2:=h_.row 2 _ rfl;have x3:=h_.row 3 _ rfl;clear h_)
  | (refine⟨trivial,?_⟩;gi_at_call 8;with_reducible refine(callsIn_wide.2 (K3.out _)).mono ?_;rintro e w3 ⟨rfl,hb⟩;have H3:=hid (H2.out.below hb);clear hb x0 x1 x2 x3)
  | (refine⟨trivial,?_⟩;gi_at_call 55;with_reducible refine(callsIn_wide.2 (K4.out _ H3.out.bw)).mono ?_;rintro e w4 ⟨rfl,hb⟩;have H4:=hid (H3.out.below hb);clear hb)
  | (refine⟨trivial,?_⟩;gi_at_call 53;refine(nL_ Fence.wide _ trivial rfl _ _ _ _).mono ?_;rintro e w' ⟨rfl,rfl⟩))
 obtain⟨W0,hW0⟩:∃W0,(w4.alloc (.cells #[.string (qN (whO 0)),.string (qD (whO 0))] 74))=W0:=⟨_,rfl⟩
 have cS:=hid (show ArAt w4.heap.size [.string (qN (whO 0)),.string (qD (whO 0))] W0 from by rw[←hW0];exact ArAt.mk' w4 _ _)
 have hs0:W0.heap.size=w4.heap.size+1:=by rw[←hW0];simp
 have hB0:Below w4.heap.size w4 W0:=by rw[←hW0];exact(Below.refl _ _).alloc (Nat.le_refl _) _
 have bN:=Boxed.new W0 27 (.slice (some ⟨B,o,none⟩) n cap)
 rw[hs0] at bN
 rw[hW0]
 have hw4:=H4.out.bw.size
 have hRB:=(H4.out.row (w.heap.size,[.int .i64 r.x,.int .i64 r.y,.int .i64 r.w,.int .i64 r.h]) (by simp)).sz
 have hRES:=(H4.out.row (w.heap.size+1,[.string ⟨#[]⟩,.string ⟨#[]⟩]) (by simp)).sz
 simp only at hRB hRES
 clear hW0 K1 K2 K3 K4 H1 H2 H3 H0 G1
 have hB1:Below W0.heap.size W0 (W0.alloc (.cells #[.slice (some ⟨B,o,none⟩) n cap] 27)):=(Below.refl _ _).alloc (Nat.le_refl _) _
 refine wpIn_rangeFunc_ownH rfl (by omega) (gf:=77) (lb:=#[.pointer (some ⟨w4.heap.size+1,0,none⟩)]) rfl trivial (enters_of Tryz.func77 (by kernel_rfl) rfl)
  (kY_ Fence.wide _ trivial rfl (by omega) (w4.heap.size+1) w4.heap.size B o cap n ps HA.out HL.out (by omega) (by omega) (W0.alloc (.cells #[.slice (some ⟨B,o,none⟩) n cap] 27)) bN.cell (by simp;omega) (by simp;omega) (((HP.out.below H4.out.bw).below hB0).below hB1))
  aZ_.trans (hV_ (by simp;omega) (by simp;omega)) (Below.refl _ _) (fun _=>rfl)
  (fun pre W=>((W.cell? ⟨w4.heap.size,0,none⟩=some (.string (qN (accO r pre)))∧W.cell? ⟨w4.heap.size,1,none⟩=some (.string (qD (accO r pre))))∧(W.frozen? ⟨w4.heap.size,0,none⟩=false∧W.frozen? ⟨w4.heap.size,1,none⟩=false)∧w4.heap.size+2≤W.heap.size)∧Below w4.heap.size w4 W)
  (fun _ _ _=>False)
  ?I (fun _ _ _ _ _ hs _ _=>hs) ?h0
  (fun x a' W=>∃A C:Nat,a' = { tmps:=#[.slice (some ⟨B,o,none⟩) n cap,.agg #[.int .i64 r.x,.int .i64 r.y,.int .i64 r.w,.int .i64 r.h],undef,.pointer (some ⟨w.heap.size,0,none⟩),.pointer (some ⟨w.heap.size+1,0,none⟩),.int .i64 0,.slice (some ⟨g,0,none⟩) n c,.int .i64 0,.pointer (some ⟨w4.heap.size,0,none⟩),.pointer (some ⟨A,0,none⟩),.pointer (some ⟨C,0,none⟩),.tuple #[.slice (some ⟨g,0,none⟩) n c,.int .i64 0],.slice (some ⟨B,o,none⟩) n cap,.tuple #[.slice (some ⟨g,0,none⟩) n c,.int .i64 0],.slice (some ⟨g,0,none⟩) n c,.int .i64 0,.int .i64 0,.bool false,.bool false,.slice (some ⟨g,0,none⟩) n c,.slice (some ⟨B,o,none⟩) n cap,.bool true,.bool false,.bool false,.bool false,.agg #[.int .i64 r.x,.int .i64 r.y,.int .i64 r.w,.int .i64 r.h],.bool true,.bool false,.bool false,undef,.agg #[.string (qN (whO 0)),.string (qD (whO 0))],.slice (some ⟨B,o,none⟩) n cap,.func (.func 77) #[] #[.pointer (some ⟨w4.heap.size+1,0,none⟩)],.agg #[.int .i64 x.1.1.x,.int .i64 x.1.1.y],.agg #[.int .i64 x.1.2.x,.int .i64 x.1.2.y],undef,undef,undef,undef,undef,undef,undef,undef,undef,undef,undef,undef,undef,undef,undef,undef,undef,undef,undef],defers:=[] }∧(W.cell? ⟨A,0,none⟩=some (.int .i64 x.1.1.x)∧W.cell? ⟨A,1,none⟩=some (.int .i64 x.1.1.y))∧(W.cell? ⟨C,0,none⟩=some (.int .i64 x.1.2.x)∧W.cell? ⟨C,1,none⟩=some (.int .i64 x.1.2.y)))
  ?hAx ?assign ?body ?done ?stop
 case I=>
  exact OwnFrom.and (Own.from (fun s A B row hs hg hr=>⟨⟨cell_kept hs.1.1 hg hr,cell_kept hs.1.2 hg hr⟩,⟨(frozen_kept hs.1.1 hg hr).trans hs.2.1.1,(frozen_kept hs.1.2 hg hr).trans hs.2.1.2⟩,Nat.le_trans hs.2.2 hg.size⟩) _) (ownFrom_below (Nat.le_refl _) (by simp;omega))
 case h0=>exact⟨⟨⟨(cS.out.al _).row 0 _ rfl,(cS.out.al _).row 1 _ rfl⟩,⟨(cS.out.al _).fz 0 (by simp),(cS.out.al _).fz 1 (by simp)⟩,by simp;omega⟩,hB0.trans (hB1.mono (by omega))⟩
 case hAx=>
  rintro x a' _ X Y row ⟨A,C,e,⟨h1,h2⟩,h3,h4⟩ hg hr
  have hr':∀r,row=some r→∃o:Obj,X.heap[r]?=some o∧o.isCells=false:=fun r e=>(hr r e).2
  exact⟨A,C,e,⟨cell_kept h1 hg hr',cell_kept h2 hg hr'⟩,cell_kept h3 hg hr',cell_kept h4 hg hr'⟩
 case assign=>
  intro l pre x W K hI hK
  simp only[qE_]
  have HI:=hid hI
  have HK:=hid hK
  clear hI hK
  gi_wp2
  have hsz:=HI.out.1.2.2
  have hb2:Below W.heap.size W ((W.alloc (.cells #[.int .i64 x.1.1.x,.int .i64 x.1.1.y] 26)).alloc (.cells #[.int .i64 x.1.2.x,.int .i64 x.1.2.y] 26)):=((Below.refl _ _).alloc (Nat.le_refl _) _).alloc (by simp) _
  have hlt:w4.heap.size<W.heap.size:=by omega
  refine HK.out _ _ ((aR_ hb2).from _) (aZ_.of_below hb2 (by omega) (by omega)) ⟨⟨⟨(hb2.cell (p:=⟨w4.heap.size,0,none⟩) hlt).trans HI.out.1.1.1,(hb2.cell (p:=⟨w4.heap.size,1,none⟩) hlt).trans HI.out.1.1.2⟩,⟨(hb2.frozen (p:=⟨w4.heap.size,0,none⟩) hlt).trans HI.out.1.2.1.1,(hb2.frozen (p:=⟨w4.heap.size,1,none⟩) hlt).trans HI.out.1.2.1.2⟩,Nat.le_trans hsz hb2.size⟩,HI.out.2.trans (hb2.mono (by omega))⟩ ⟨W.heap.size,W.heap.size+1,rfl,?_,?_⟩
  ·constructor <;> simp[go_sem]
  ·constructor <;> simp[go_sem]
 case body=>
  rintro l pre x a' W hl hr ⟨⟨⟨c0,c1⟩,⟨f0,f1⟩,hsz⟩,hBl⟩ ⟨A,C,rfl,⟨h1,h2⟩,h3,h4⟩ hlen
  obtain⟨⟨⟨p,q⟩,hx⟩,hxe⟩:∃y:PE,y=x:=⟨x,rfl⟩
  subst hxe
  simp only at h1 h2 h3 h4 hx⊢
  have HX:=hid (wT_ r pre ⟨(p,q),hx⟩)
  have fa:=aIK r pre
  generalize accO r pre=acc at c0 c1 HX fa
  have hbD:Below w.heap.size w W.drew:=(H4.out.bw.trans (hBl.mono hw4)).drew
  have hlt:w4.heap.size<W.heap.size:=by omega
  have hmx:Tryz.prog.follows .mixedOrders=true:=by kernel_rfl
  have x0:=(hBl.cell (p:=⟨w.heap.size,0,none⟩) hRB).trans ((H4.out.row (w.heap.size,[.int .i64 r.x,.int .i64 r.y,.int .i64 r.w,.int .i64 r.h]) (by simp)).row 0 _ rfl)
  have x1:=(hBl.cell (p:=⟨w.heap.size,1,none⟩) hRB).trans ((H4.out.row (w.heap.size,[.int .i64 r.x,.int .i64 r.y,.int .i64 r.w,.int .i64 r.h]) (by simp)).row 1 _ rfl)
  have x2:=(hBl.cell (p:=⟨w.heap.size,2,none⟩) hRB).trans ((H4.out.row (w.heap.size,[.int .i64 r.x,.int .i64 r.y,.int .i64 r.w,.int .i64 r.h]) (by simp)).row 2 _ rfl)
  have x3:=(hBl.cell (p:=⟨w.heap.size,3,none⟩) hRB).trans ((H4.out.row (w.heap.size,[.int .i64 r.x,.int .i64 r.y,.int .i64 r.w,.int .i64 r.h]) (by simp)).row 3 _ rfl)
  clear hr hl
  by_cases hle:p.x≤q.x
  ·have HN:=hid (show accO r (pre++[⟨(p,q),hx⟩])=miO acc (dR_ p q r) from by rw[HX.out];unfold hE_;rw[if_pos hle])
   have KU:=hid (fun(V:World) (hb:Below w.heap.size w V)=>sF_ hx.1 hx.2 HR.out (HI.out.below hb) (HF.out.below hb))
   have KM:=hid (fun(V:World) (hb:Below w.heap.size w V)=>oW_ fa (kG_ p q r) (HI.out.below hb))
   generalize dR_ p q r=u at KU KM HN
   obtain⟨nx,hnx⟩:∃nx,nx=miO acc u:=⟨_,rfl⟩
   rw[←hnx] at KM HN
   clear hnx
   gi_wp2
   gi_region_with_o (first
    | (refine⟨trivial,?_⟩;gi_at_call 57;(with_reducible refine(CallsIn.inRound l (callsIn_wide.2 (KU.out _ hbD))).mono ?_);rintro e w5 ⟨rfl,hb5⟩;have HB5:=hid hb5;have y0:=(hb5.cell (p:=⟨w4.heap.size,0,none⟩) hlt).trans c0;have y1:=(hb5.cell (p:=⟨w4.heap.size,1,none⟩) hlt).trans c1;clear hb5)
    | (refine⟨trivial,?_⟩;gi_at_call 56;(with_reducible refine(CallsIn.inRound l (callsIn_wide.2 (KM.out _ (hbD.trans (HB5.out.mono hbD.size))))).mono ?_);rintro e w6 ⟨rfl,hb6⟩;have HB6:=hid (HB5.out.trans (hb6.mono HB5.out.size));have z0:=(HB6.out.cell (p:=⟨w4.heap.size,0,none⟩) hlt).trans c0;have z1:=(HB6.out.cell (p:=⟨w4.heap.size,1,none⟩) hlt).trans c1;have g0:=(HB6.out.frozen (p:=⟨w4.heap.size,0,none⟩) hlt).trans f0;have g1:=(HB6.out.frozen (p:=⟨w4.heap.size,1,none⟩) hlt).trans f1;clear hb6)
    | fail)
   all_goals
    gi_wp2
    have cc:=gV_ (B0:=(W0.alloc (.cells #[.slice (some ⟨B,o,none⟩) n cap] 27)).heap.size) (u:=.string (qN nx)) (v:=.string (qD nx)) hBl hsz (show Below W.heap.size W _ from((Below.refl W.heap.size W).drew).trans HB6.out) c0 c1 f0 f1
    refine⟨cc.1,cc.2.1,?_⟩
    simp only[HN.out]
    exact cc.2.2
  ·have HN:=hid (show accO r (pre++[⟨(p,q),hx⟩])=plO acc (dR_ q p r) from by rw[HX.out];unfold hE_;rw[if_neg hle])
   have KU:=hid (fun(V:World) (hb:Below w.heap.size w V)=>sF_ hx.2 hx.1 HR.out (HI.out.below hb) (HF.out.below hb))
   have KM:=hid (fun(V:World) (hb:Below w.heap.size w V)=>qX_ fa (kG_ q p r) (HI.out.below hb))
   generalize dR_ q p r=u at KU KM HN
   obtain⟨nx,hnx⟩:∃nx,nx=plO acc u:=⟨_,rfl⟩
   rw[←hnx] at KM HN
   clear hnx
   gi_wp2
   gi_region_with_o (first
    | (refine⟨trivial,?_⟩;gi_at_call 57;(with_reducible refine(CallsIn.inRound l (callsIn_wide.2 (KU.out _ hbD))).mono ?_);rintro e w5 ⟨rfl,hb5⟩;have HB5:=hid hb5;have y0:=(hb5.cell (p:=⟨w4.heap.size,0,none⟩) hlt).trans c0;have y1:=(hb5.cell (p:=⟨w4.heap.size,1,none⟩) hlt).trans c1;clear hb5)
    | (refine⟨trivial,?_⟩;gi_at_call 58;(with_reducible refine(CallsIn.inRound l (callsIn_wide.2 (KM.out _ (hbD.trans (HB5.out.mono hbD.size))))).mono ?_);rintro e w6 ⟨rfl,hb6⟩;have HB6:=hid (HB5.out.trans (hb6.mono HB5.out.size));have z0:=(HB6.out.cell (p:=⟨w4.heap.size,0,none⟩) hlt).trans c0;have z1:=(HB6.out.cell (p:=⟨w4.heap.size,1,none⟩) hlt).trans c1;have g0:=(HB6.out.frozen (p:=⟨w4.heap.size,0,none⟩) hlt).trans f0;have g1:=(HB6.out.frozen (p:=⟨w4.heap.size,1,none⟩) hlt).trans f1;clear hb6)
    | fail)
   all_goals
    gi_wp2
    have cc:=gV_ (B0:=(W0.alloc (.cells #[.slice (some ⟨B,o,none⟩) n cap] 27)).heap.size) (u:=.string (qN nx)) (v:=.string (qD nx)) hBl hsz (show Below W.heap.size W _ from((Below.refl W.heap.size W).drew).trans HB6.out) c0 c1 f0 f1
    refine⟨cc.1,cc.2.1,?_⟩
    simp only[HN.out]
    exact cc.2.2
 case done=>
  rintro D ys W hD rfl ⟨⟨⟨c0,c1⟩,⟨f0,f1⟩,hsz⟩,hBl⟩ hK
  rw[aBA] at c0 c1
  have HRES:=hid (AzAt.mk (L:=[(w.heap.size+1,[.string ⟨#[]⟩,.string ⟨#[]⟩])]) (H4.out.bw.trans (hBl.mono hw4)) (fun u hu=>by
   obtain rfl:u=(w.heap.size+1,[.string ⟨#[]⟩,.string ⟨#[]⟩]):=by simpa using hu
   exact(H4.out.row (w.heap.size+1,[.string ⟨#[]⟩,.string ⟨#[]⟩]) (by simp)).of_block (hBl.block _ hRES) hBl.size))
  have h_:=HRES.out.row (w.heap.size+1,[.string ⟨#[]⟩,.string ⟨#[]⟩]) (by simp)
  have y0:=h_.row 0 _ rfl
  have y1:=h_.row 1 _ rfl
  have g0:=h_.fz 0 (by simp)
  have g1:=h_.fz 1 (by simp)
  clear h_
  obtain⟨sn,hsn⟩:∃sn,sn=qN (bV_ ps r):=⟨_,rfl⟩
  obtain⟨sd,hsd⟩:∃sd,sd=qD (bV_ ps r):=⟨_,rfl⟩
  rw[←hsn] at c0
  rw[←hsd] at c1
  have HSN:=hid (And.intro hsn hsd)
  clear hsn hsd
  gi_wp2
  have hp:=HRES.out.set2 (by omega) (by simp <;> omega) (.string sn) (.string sd)
  generalize hWF:((W.setCell ⟨w.heap.size+1,0,none⟩ (.string sn)).setCell ⟨w.heap.size+1,1,none⟩ (.string sd))=WF at hp⊢
  have hD':w4.heap.size+2≤D:=by simp[hs0] at hD;omega
  have hKF:WF.heap[D]?=some (.deferred (some [])):=by
   rw[←hWF]
   rw[Below.heap_setCell _ _ _ _ (by show D≠w.heap.size+1;omega),Below.heap_setCell _ _ _ _ (by show D≠w.heap.size+1;omega)]
   exact hK
  have hbl:=hp.bw.trans (belowK_b (w:=w) (Nat.le_refl _) WF D _ (.deferred none) (by omega) hKF rfl rfl)
  have q0:(WF.putObj D (.deferred none)).cell? ⟨w.heap.size+1,0,none⟩=some (.string sn):=(World.cell?_of_block (w:=WF) (World.putObj_heap_other (by show w.heap.size+1≠D;omega))).trans ((hp.row (w.heap.size+1,[.string sn,.string sd]) (by simp)).row 0 _ rfl)
  have q1:(WF.putObj D (.deferred none)).cell? ⟨w.heap.size+1,1,none⟩=some (.string sd):=(World.cell?_of_block (w:=WF) (World.putObj_heap_other (by show w.heap.size+1≠D;omega))).trans ((hp.row (w.heap.size+1,[.string sn,.string sd]) (by simp)).row 1 _ rfl)
  refine⟨by simp,.inl ⟨_,_,rfl,run_takeDeferred hKF,?_⟩⟩
  refine⟨.tuple #[.agg #[.string sn,.string sd],.int .i64 0],?_,by rw[HSN.out.1,HSN.out.2],hbl⟩
  simp[results,Tryz.f21,go_sem,Result.andThen,q0,q1]
 case stop=>
  rintro D c pre W _ _ hF
  exact hF.elim
end Go.Proofs.YtjfdefglpoancaaGreatDoor
namespace Go.Proofs.YtjfdefglpoancaaGreatDoor
open Go.RowKit Go.Shelf
attribute [local go_sem] Oper.semAt_some
theorem aCI {a:Option Addr} {cap n:Nat} {ps:List Pl} (r:Rc) (hl:ps.length=n) (hn:n≤1000000) (hv:fewB ps=false) (w:World) (h:PtAt a ps w) :
  Calls Tryz.prog 21 #[.slice a n cap,.agg #[.int .i64 r.x,.int .i64 r.y,.int .i64 r.w,.int .i64 r.h]] w fun e W'=>e=.returned (.tuple #[.agg #[.string ⟨#[]⟩,.string ⟨#[]⟩],.int .i64 70])∧Below w.heap.size w W':=by
 have K:=hid (fun(W:World) (hb:Below w.heap.size w W)=>aGC (cap:=cap) hl hn hv W (h.below hb))
 have HB:=hid (show AzAt [(w.heap.size+1,[.string ⟨#[]⟩,.string ⟨#[]⟩]),(w.heap.size,[.int .i64 r.x,.int .i64 r.y,.int .i64 r.w,.int .i64 r.h])] w _ from by have hp:=((AzAt.start w).push [.int .i64 r.x,.int .i64 r.y,.int .i64 r.w,.int .i64 r.h] 29).push [.string ⟨#[]⟩,.string ⟨#[]⟩] 47;simp only[World.size_alloc] at hp;exact hp)
 clear hl hn hv h
 go_enter Tryz.func21,Tryz.ntmps21
 go_wp2_with (first
  | (go_at_call 16;(with_reducible refine(K.out _ HB.out.bw).mono ?_);rintro e w1 ⟨rfl,hb⟩;have HC:=hid (HB.out.below hb);clear hb;have h_:=HC.out.at (B:=w.heap.size+1) (l:=[.string ⟨#[]⟩,.string ⟨#[]⟩]) (by simp);have x0:=h_.row 0 _ rfl;have f0:=h_.fz 0 (by simp);have x1:=h_.row 1 _ rfl;have f1:=h_.fz 1 (by simp);clear h_)
  | fail)
 have hp:=HC.out.set2 (by omega) (fun x hx=>by simp only[List.mem_cons,List.not_mem_nil,or_false] at hx;subst hx;simp) (.string ⟨#[]⟩) (.string ⟨#[]⟩)
 generalize (w1.setCell ⟨w.heap.size+1,0,none⟩ (.string ⟨#[]⟩)).setCell ⟨w.heap.size+1,1,none⟩ (.string ⟨#[]⟩)=WF at hp⊢
 have h_:=hp.at (B:=w.heap.size+1) (l:=[.string ⟨#[]⟩,.string ⟨#[]⟩]) (by simp)
 have q0:=h_.row 0 _ rfl
 have q1:=h_.row 1 _ rfl
 clear h_
 refine bodyPost_ret (v:=.tuple #[.agg #[.string ⟨#[]⟩,.string ⟨#[]⟩],.int .i64 70]) ?_ rfl ⟨rfl,hp.bw⟩
 simp[results,Tryz.results21,go_sem,Result.andThen,q0,q1]
theorem aCJ {a:Option Addr} {cap n:Nat} {ps:List Pl} (r:Rc) (hl:ps.length=n) (hn:n≤1000000) (hv:fewB ps=false) (w:World) (h:PtAt a ps w) :
  Calls Tryz.prog 22 #[.slice a n cap,.agg #[.int .i64 r.x,.int .i64 r.y,.int .i64 r.w,.int .i64 r.h]] w fun e W'=>e=.returned (.tuple #[.agg #[.string ⟨#[]⟩,.string ⟨#[]⟩],.int .i64 70])∧Below w.heap.size w W':=by
 have K:=hid (fun(W:World) (hb:Below w.heap.size w W)=>aGD (cap:=cap) hl hn hv W (h.below hb))
 have HB:=hid (show AzAt [(w.heap.size+1,[.string ⟨#[]⟩,.string ⟨#[]⟩]),(w.heap.size,[.int .i64 r.x,.int .i64 r.y,.int .i64 r.w,.int .i64 r.h])] w _ from by have hp:=((AzAt.start w).push [.int .i64 r.x,.int .i64 r.y,.int .i64 r.w,.int .i64 r.h] 29).push [.string ⟨#[]⟩,.string ⟨#[]⟩] 47;simp only[World.size_alloc] at hp;exact hp)
 clear hl hn hv h
 go_enter Tryz.func22,Tryz.ntmps22
 go_wp2_with (first
  | (go_at_call 17;(with_reducible refine(K.out _ HB.out.bw).mono ?_);rintro e w1 ⟨rfl,hb⟩;have HC:=hid (HB.out.below hb);clear hb;have h_:=HC.out.at (B:=w.heap.size+1) (l:=[.string ⟨#[]⟩,.string ⟨#[]⟩]) (by simp);have x0:=h_.row 0 _ rfl;have f0:=h_.fz 0 (by simp);have x1:=h_.row 1 _ rfl;have f1:=h_.fz 1 (by simp);clear h_)
  | fail)
 have hp:=HC.out.set2 (by omega) (fun x hx=>by simp only[List.mem_cons,List.not_mem_nil,or_false] at hx;subst hx;simp) (.string ⟨#[]⟩) (.string ⟨#[]⟩)
 generalize (w1.setCell ⟨w.heap.size+1,0,none⟩ (.string ⟨#[]⟩)).setCell ⟨w.heap.size+1,1,none⟩ (.string ⟨#[]⟩)=WF at hp⊢
 have h_:=hp.at (B:=w.heap.size+1) (l:=[.string ⟨#[]⟩,.string ⟨#[]⟩]) (by simp)
 have q0:=h_.row 0 _ rfl
 have q1:=h_.row 1 _ rfl
 clear h_
 refine bodyPost_ret (v:=.tuple #[.agg #[.string ⟨#[]⟩,.string ⟨#[]⟩],.int .i64 70]) ?_ rfl ⟨rfl,hp.bw⟩
 simp[results,Tryz.results22,go_sem,Result.andThen,q0,q1]
theorem aKB (p q:Pl) (l:List Pl):lowL p (l++[q])=⟨min (lowL p l).x q.x,min (lowL p l).y q.y⟩:=by
 induction l generalizing p with
 | nil=>rfl
 | cons r l ih=>exact ih _
theorem aGE (p q:Pl) (l:List Pl):eL_ p (l++[q])=⟨max (eL_ p l).x q.x,max (eL_ p l).y q.y⟩:=by
 induction l generalizing p with
 | nil=>rfl
 | cons r l ih=>exact ih _
theorem aLW {a0:Option Addr} {cap n:Nat} {p:Pl} {l:List Pl} (hl:(p::l).length=n) (hv:fewB (p::l)=true) (w:World) (h:PtAt a0 (p::l) w) :
  Calls Tryz.prog 15 #[.slice a0 n cap] w fun e W'=>e=.returned (.tuple #[.agg #[.int .i64 (bY_ p l).x,.int .i64 (bY_ p l).y,.int .i64 (bY_ p l).w,.int .i64 (bY_ p l).h],.int .i64 0])∧Below w.heap.size w W':=by
 obtain⟨B,o,rfl⟩:=h.some (by simp)
 have hn:=dI_ hv
 rw[hl] at hn
 have hall:=fD_ hv
 have H0:=hid (show AzAt [(w.heap.size,[.int .i64 0,.int .i64 0,.int .i64 0,.int .i64 0])] w _ from(AzAt.start w).push [.int .i64 0,.int .i64 0,.int .i64 0,.int .i64 0] 29)
 have KF:=hid (fun W (hb:Below w.heap.size w W)=>iR_ (cap:=cap) hl (by omega) W (h.below hb))
 rw[hv] at KF
 have HP:=hid h
 have HA:=hid hall
 have HL:=hid hl
 have hB:=h.sz (by simp)
 have HRF:=hid (pY_ p l)
 obtain⟨rf,hrf⟩:∃rf,rf=bY_ p l:=⟨_,rfl⟩
 rw[←hrf] at HRF⊢
 have hvl:=vM_ p l (hall p (by simp)) (fun q hq=>hall q (by simp[hq]))
 have hvh:=rI_ p l (hall p (by simp)) (fun q hq=>hall q (by simp[hq]))
 have HVV:=hid (And.intro (aT_.1 hvl) (aT_.1 hvh))
 have hn1:1≤n:=hn.1
 have hn40:n≤40:=hn.2
 have hn2:0<n:=hn.1
 clear h hall hv hl hrf hvl hvh hn
 go_enter Tryz.func15,Tryz.ntmps15
 go_wp2_with (first
  | (go_at_call 40;(with_reducible refine(KF.out _ H0.out.bw).mono ?_);rintro e w1 ⟨rfl,hb⟩;have H1:=hid (H0.out.below hb);have c0:=(HP.out.below H1.out.bw).cells (k:=0) (p:=p) rfl;have q0:=c0.1;have q1:=c0.2;clear hb c0;have hs1:B<w1.heap.size:=Nat.lt_of_lt_of_le hB H1.out.bw.size;simp only[Nat.zero_mul,Nat.add_zero] at q0 q1)
  | fail)
 have H2:=hid ((H1.out.push [.int .i64 p.x,.int .i64 p.y] 26).push [.int .i64 p.x,.int .i64 p.y] 26)
 rw[World.size_alloc] at H2
 have hws:w.heap.size<w1.heap.size:=(H1.out.row (w.heap.size,[.int .i64 0,.int .i64 0,.int .i64 0,.int .i64 0]) (by simp)).sz
 obtain⟨X,hX⟩:∃X,X=w1.heap.size:=⟨_,rfl⟩
 rw[←hX] at H2 hws hs1⊢
 generalize (w1.alloc (.cells #[.int .i64 p.x,.int .i64 p.y] 26)).alloc (.cells #[.int .i64 p.x,.int .i64 p.y] 26)=W2 at H2⊢
 clear hX q0 q1 H1 H0 KF
 go_loopw [6] (fun v6 wr=>∃j:Nat,1≤j∧j≤n∧v6=.int .i64 (j:Int)∧AzAt [(X+1,[.int .i64 (eL_ p (l.take (j-1))).x,.int .i64 (eL_ p (l.take (j-1))).y]),(X,[.int .i64 (lowL p (l.take (j-1))).x,.int .i64 (lowL p (l.take (j-1))).y]),(w.heap.size,[.int .i64 0,.int .i64 0,.int .i64 0,.int .i64 0])] w wr) (fun v6 _=>n-(intOf v6).toNat)
 case atStart=>exact⟨1,Nat.le_refl _,hn1,rfl,H2.out⟩
 case round=>
  obtain⟨j,hj1,hj,rfl,hA⟩:=hrel
  obtain⟨k,hk⟩:∃k,k=j-1:=⟨_,rfl⟩
  rw[←hk] at hA
  have HH:=hid hA
  clear hA H2
  by_cases hlt:j<n
  ·obtain⟨q,hq⟩:∃q,l[k]?=some q:=⟨l[k]'(by have:=HL.out;simp at this;omega),List.getElem?_eq_getElem _⟩
   have HQ:=hid (show(p::l)[j]?=Option.some q by rw[show j=k+1 by omega];simpa using hq)
   obtain⟨y0,y1⟩:=((HP.out.below HH.out.bw).cells HQ.out)
   have HE1:=hid (show lowL p (l.take (k+1))=⟨min (lowL p (l.take k)).x q.x,min (lowL p (l.take k)).y q.y⟩ by rw[List.take_add_one,hq];exact aKB p q _)
   have HE2:=hid (show eL_ p (l.take (k+1))=⟨max (eL_ p (l.take k)).x q.x,max (eL_ p (l.take k)).y q.y⟩ by rw[List.take_add_one,hq];exact aGE p q _)
   generalize lowL p (l.take k)=lo at *
   generalize eL_ p (l.take k)=hi at *
   have h_:=HH.out.row (X,[.int .i64 lo.x,.int .i64 lo.y]) (by simp)
   have a0:=h_.row 0 _ rfl
   have a1:=h_.row 1 _ rfl
   clear h_
   have h_:=HH.out.row (X+1,[.int .i64 hi.x,.int .i64 hi.y]) (by simp)
   have b0:=h_.row 0 _ rfl
   have b1:=h_.row 1 _ rfl
   clear h_
   have h_:=HH.out.row (X,[.int .i64 lo.x,.int .i64 lo.y]) (by simp)
   have f0:=h_.fz 0 (by simp)
   have f1:=h_.fz 1 (by simp)
   clear h_
   have h_:=HH.out.row (X+1,[.int .i64 hi.x,.int .i64 hi.y]) (by simp)
   have g0:=h_.fz 0 (by simp)
   have g1:=h_.fz 1 (by simp)
   clear h_
   have nB:B≠X:=by omega
   have nB1:B≠X+1:=by omega
   have nX:X≠B:=by omega
   have i1:(0:Int)≤(j:Int):=by omega
   have i2:(j:Int)<(n:Int):=by omega
   have i3:decide ((j:Int)<(n:Int))=true:=decide_eq_true i2
   have i4:decide (j<n)=true:=decide_eq_true hlt
   have g5:IntKind.i64.wrap ((j:Int)+1)=(j:Int)+1:=IntWalk.i64_in _ (by omega)
   have hkj:j+1-1=k+1:=by omega
   have HK:=hid hkj
   clear hq hkj hk
   go_wp2
   go_region
   go_wp2
   have s1:=hid ((((HH.out.swap).set (by omega) (by simp <;> omega) (i:=0) rfl (.int .i64 (min lo.x q.x))).set (by omega) (by simp <;> omega) (i:=1) rfl (.int .i64 (min lo.y q.y))).swap.drew)
   generalize ((wr.setCell ⟨X,0,none⟩ (.int .i64 (min lo.x q.x))).setCell ⟨X,1,none⟩ (.int .i64 (min lo.y q.y))).drew=W5 at s1⊢
   clear y0 y1 a0 a1 b0 b1 f0 f1 g0 g1
   obtain⟨y0,y1⟩:=((HP.out.below s1.out.bw).cells HQ.out)
   have h_:=s1.out.row (X+1,[.int .i64 hi.x,.int .i64 hi.y]) (by simp)
   have b0:=h_.row 0 _ rfl
   have b1:=h_.row 1 _ rfl
   have g0:=h_.fz 0 (by simp)
   have g1:=h_.fz 1 (by simp)
   clear h_
   go_region
   go_wp2
   refine⟨⟨j+1,by omega,by omega,by go_num,?_⟩,by simp only[intOf];omega⟩
   rw[HK.out,HE1.out,HE2.out]
   exact((s1.out.set (by omega) (by simp <;> omega) (i:=0) rfl (.int .i64 (max hi.x q.x))).set (by omega) (by simp <;> omega) (i:=1) rfl (.int .i64 (max hi.y q.y))).drew
  ·have hkn:k=l.length:=by have:=HL.out;simp at this;omega
   have e:l.take k=l:=by rw[hkn,List.take_length]
   rw[e] at HH
   clear e hkn hk
   have v:=HVV.out
   generalize lowL p l=lo at *
   generalize eL_ p l=hi at *
   have h_:=HH.out.row (X,[.int .i64 lo.x,.int .i64 lo.y]) (by simp)
   have a0:=h_.row 0 _ rfl
   have a1:=h_.row 1 _ rfl
   clear h_
   have h_:=HH.out.row (X+1,[.int .i64 hi.x,.int .i64 hi.y]) (by simp)
   have b0:=h_.row 0 _ rfl
   have b1:=h_.row 1 _ rfl
   clear h_
   have h_:=HH.out.row (w.heap.size,[.int .i64 0,.int .i64 0,.int .i64 0,.int .i64 0]) (by simp)
   have d0:=h_.row 0 _ rfl
   have d1:=h_.row 1 _ rfl
   have d2:=h_.row 2 _ rfl
   have d3:=h_.row 3 _ rfl
   have f0:=h_.fz 0 (by simp)
   have f1:=h_.fz 1 (by simp)
   have f2:=h_.fz 2 (by simp)
   have f3:=h_.fz 3 (by simp)
   clear h_
   have i3:decide ((j:Int)<(n:Int))=false:=decide_eq_false (by omega)
   have i4:decide (j<n)=false:=decide_eq_false hlt
   have w1:IntKind.i64.wrap (hi.x-lo.x)=hi.x-lo.x:=IntWalk.i64_in _ (by omega)
   have w2:IntKind.i64.wrap (hi.y-lo.y)=hi.y-lo.y:=IntWalk.i64_in _ (by omega)
   clear v
   go_wp2
   have hp:=((((HH.out.sub (L':=[(w.heap.size,[.int .i64 0,.int .i64 0,.int .i64 0,.int .i64 0])]) (fun x hx=>by simp at hx;subst hx;simp)).set (Nat.le_refl _) (by simp) (i:=0) rfl (.int .i64 lo.x)).set (Nat.le_refl _) (by simp) (i:=1) rfl (.int .i64 lo.y)).set (Nat.le_refl _) (by simp) (i:=2) rfl (.int .i64 (hi.x-lo.x))).set (Nat.le_refl _) (by simp) (i:=3) rfl (.int .i64 (hi.y-lo.y))
   generalize (((wr.setCell ⟨w.heap.size,0,none⟩ (.int .i64 lo.x)).setCell ⟨w.heap.size,1,none⟩ (.int .i64 lo.y)).setCell ⟨w.heap.size,2,none⟩ (.int .i64 (hi.x-lo.x))).setCell ⟨w.heap.size,3,none⟩ (.int .i64 (hi.y-lo.y))=WF at hp⊢
   have h_:=hp.row (w.heap.size,[.int .i64 lo.x,.int .i64 lo.y,.int .i64 (hi.x-lo.x),.int .i64 (hi.y-lo.y)]) (by simp)
   have q0:=h_.row 0 _ rfl
   have q1:=h_.row 1 _ rfl
   have q2:=h_.row 2 _ rfl
   have q3:=h_.row 3 _ rfl
   clear h_
   refine bodyPost_ret (v:=.tuple #[.agg #[.int .i64 lo.x,.int .i64 lo.y,.int .i64 (hi.x-lo.x),.int .i64 (hi.y-lo.y)],.int .i64 0]) ?_ rfl ⟨by rw[HRF.out],hp.bw⟩
   simp[results,Tryz.results15,go_sem,Result.andThen,q0,q1,q2,q3]
end Go.Proofs.YtjfdefglpoancaaGreatDoor
namespace Go.Proofs.YtjfdefglpoancaaGreatDoor
open Go.RowKit Go.Shelf Go.Sort
attribute [local go_sem] Oper.semAt_some
theorem aCH {a0:Option Addr} {cap n:Nat} {ps:List Pl} {r:Rc} (hl:ps.length=n) (hv:fewB ps=true) (hno:¬(aS_ ps=ps∧vRc r=true)) (w:World) (h:PtAt a0 ps w) :
  Calls Tryz.prog 21 #[.slice a0 n cap,.agg #[.int .i64 r.x,.int .i64 r.y,.int .i64 r.w,.int .i64 r.h]] w fun e W'=>e=.returned (.tuple #[.agg #[.string ⟨#[]⟩,.string ⟨#[]⟩],.int .i64 70])∧Below w.heap.size w W':=by
 have hnn:=dI_ hv
 rw[hl] at hnn
 have K1:=hid (fun(W:World) (hb:Below w.heap.size w W)=>xU_ (cap:=cap) hl hv W (h.below hb))
 have hhl:(aS_ ps).length≤1000000:=by have:=nI_ (fD_ hv);omega
 have K2:=hid (fun(g c:Nat) (W:World) (hb:Below w.heap.size w W) (hg:PtAt (some ⟨g,0,none⟩) (aS_ ps) W)=>aGP (c1:=c) (c2:=cap) rfl hl hhl (by omega) W hg (h.below hb))
 have HB:=hid (show AzAt [(w.heap.size+1,[.string ⟨#[]⟩,.string ⟨#[]⟩]),(w.heap.size,[.int .i64 r.x,.int .i64 r.y,.int .i64 r.w,.int .i64 r.h])] w _ from by have hp:=((AzAt.start w).push [.int .i64 r.x,.int .i64 r.y,.int .i64 r.w,.int .i64 r.h] 29).push [.string ⟨#[]⟩,.string ⟨#[]⟩] 47;simp only[World.size_alloc] at hp;exact hp)
 by_cases hh:aS_ ps=ps
 ·have hr:vRc r=false:=by simpa using fun e=>hno ⟨hh,e⟩
  have K3:=hid (fun W=>fR_ r W)
  rw[hr] at K3
  rw[decide_eq_true hh] at K2
  clear hl hv h hno hh hr hnn hhl
  generalize aS_ ps=hu at K1 K2
  go_enter Tryz.func21,Tryz.ntmps21
  go_wp2_with (first
   | (go_at_call 16;(with_reducible refine(K1.out _ HB.out.bw).mono ?_);rintro e w1 ⟨⟨g,c,rfl,hg⟩,hb⟩;have HC:=hid (HB.out.below hb);have HG:=hid (PtAt.of (PsAt.of hg));clear hb hg)
   | (go_at_call 54;(with_reducible refine(K2.out g c _ HC.out.bw HG.out).mono ?_);rintro e w2 ⟨rfl,hb⟩;have HD:=hid (HC.out.below hb);clear hb;have h_:=HD.out.row (w.heap.size,[.int .i64 r.x,.int .i64 r.y,.int .i64 r.w,.int .i64 r.h]) (by simp);have x0:=h_.row 0 _ rfl;have x1:=h_.row 1 _ rfl;have x2:=h_.row 2 _ rfl;have x3:=h_.row 3 _ rfl;clear h_)
   | (go_at_call 8;(with_reducible refine(K3.out _).mono ?_);rintro e w3 ⟨rfl,hb⟩;have HE:=hid (HD.out.below hb);clear hb x0 x1 x2 x3;have h_:=HE.out.row (w.heap.size+1,[.string ⟨#[]⟩,.string ⟨#[]⟩]) (by simp);have x0:=h_.row 0 _ rfl;have x1:=h_.row 1 _ rfl;have xf0:=h_.fz 0 (by simp);have xf1:=h_.fz 1 (by simp);clear h_)
   | fail)
  have hp:=(HE.out.sub (L':=[(w.heap.size+1,[.string ⟨#[]⟩,.string ⟨#[]⟩])]) (fun x hx=>by simp at hx;subst hx;simp)).set2 (by omega) (by simp) (.string ⟨#[]⟩) (.string ⟨#[]⟩)
  generalize (w3.setCell ⟨w.heap.size+1,0,none⟩ (.string ⟨#[]⟩)).setCell ⟨w.heap.size+1,1,none⟩ (.string ⟨#[]⟩)=WF at hp⊢
  have h_:=hp.row (w.heap.size+1,[.string ⟨#[]⟩,.string ⟨#[]⟩]) (by simp)
  have q0:=h_.row 0 _ rfl
  have q1:=h_.row 1 _ rfl
  clear h_
  refine bodyPost_ret (v:=.tuple #[.agg #[.string ⟨#[]⟩,.string ⟨#[]⟩],.int .i64 70]) ?_ rfl ⟨rfl,hp.bw⟩
  simp[results,Tryz.results21,go_sem,Result.andThen,q0,q1]
 ·rw[decide_eq_false hh] at K2
  clear hl hv h hno hh hnn hhl
  generalize aS_ ps=hu at K1 K2
  go_enter Tryz.func21,Tryz.ntmps21
  go_wp2_with (first
   | (go_at_call 16;(with_reducible refine(K1.out _ HB.out.bw).mono ?_);rintro e w1 ⟨⟨g,c,rfl,hg⟩,hb⟩;have HC:=hid (HB.out.below hb);have HG:=hid (PtAt.of (PsAt.of hg));clear hb hg)
   | (go_at_call 54;(with_reducible refine(K2.out g c _ HC.out.bw HG.out).mono ?_);rintro e w2 ⟨rfl,hb⟩;have HD:=hid (HC.out.below hb);clear hb;have h_:=HD.out.row (w.heap.size+1,[.string ⟨#[]⟩,.string ⟨#[]⟩]) (by simp);have x0:=h_.row 0 _ rfl;have x1:=h_.row 1 _ rfl;have xf0:=h_.fz 0 (by simp);have xf1:=h_.fz 1 (by simp);clear h_)
   | fail)
  have hp:=(HD.out.sub (L':=[(w.heap.size+1,[.string ⟨#[]⟩,.string ⟨#[]⟩])]) (fun x hx=>by simp at hx;subst hx;simp)).set2 (by omega) (by simp) (.string ⟨#[]⟩) (.string ⟨#[]⟩)
  generalize (w2.setCell ⟨w.heap.size+1,0,none⟩ (.string ⟨#[]⟩)).setCell ⟨w.heap.size+1,1,none⟩ (.string ⟨#[]⟩)=WF at hp⊢
  have h_:=hp.row (w.heap.size+1,[.string ⟨#[]⟩,.string ⟨#[]⟩]) (by simp)
  have q0:=h_.row 0 _ rfl
  have q1:=h_.row 1 _ rfl
  clear h_
  refine bodyPost_ret (v:=.tuple #[.agg #[.string ⟨#[]⟩,.string ⟨#[]⟩],.int .i64 70]) ?_ rfl ⟨rfl,hp.bw⟩
  simp[results,Tryz.results21,go_sem,Result.andThen,q0,q1]
theorem wF_ {a0:Option Addr} {cap n:Nat} {ps:List Pl} {r:Rc} (hl:ps.length=n) (hv:fewB ps=true) (hno:¬(aS_ ps=ps∧vRc r=true)) (w:World) (h:PtAt a0 ps w) :
  Calls Tryz.prog 22 #[.slice a0 n cap,.agg #[.int .i64 r.x,.int .i64 r.y,.int .i64 r.w,.int .i64 r.h]] w fun e W'=>e=.returned (.tuple #[.agg #[.string ⟨#[]⟩,.string ⟨#[]⟩],.int .i64 70])∧Below w.heap.size w W':=by
 have hnn:=dI_ hv
 rw[hl] at hnn
 have K1:=hid (fun(W:World) (hb:Below w.heap.size w W)=>oJ_ (cap:=cap) hl hv W (h.below hb))
 have hhl:(aS_ ps).length≤1000000:=by have:=nI_ (fD_ hv);omega
 have K2:=hid (fun(g c:Nat) (W:World) (hb:Below w.heap.size w W) (hg:PtAt (some ⟨g,0,none⟩) (aS_ ps) W)=>aEI (c1:=c) (c2:=cap) rfl hl hhl (by omega) W hg (h.below hb))
 have HB:=hid (show AzAt [(w.heap.size+1,[.string ⟨#[]⟩,.string ⟨#[]⟩]),(w.heap.size,[.int .i64 r.x,.int .i64 r.y,.int .i64 r.w,.int .i64 r.h])] w _ from by have hp:=((AzAt.start w).push [.int .i64 r.x,.int .i64 r.y,.int .i64 r.w,.int .i64 r.h] 29).push [.string ⟨#[]⟩,.string ⟨#[]⟩] 47;simp only[World.size_alloc] at hp;exact hp)
 by_cases hh:aS_ ps=ps
 ·have hr:vRc r=false:=by simpa using fun e=>hno ⟨hh,e⟩
  have K3:=hid (fun W=>jO_ r W)
  rw[hr] at K3
  rw[decide_eq_true hh] at K2
  clear hl hv h hno hh hr hnn hhl
  generalize aS_ ps=hu at K1 K2
  go_enter Tryz.func22,Tryz.ntmps22
  go_wp2_with (first
   | (go_at_call 17;(with_reducible refine(K1.out _ HB.out.bw).mono ?_);rintro e w1 ⟨⟨g,c,rfl,hg⟩,hb⟩;have HC:=hid (HB.out.below hb);have HG:=hid (PtAt.of (PsAt.of hg));clear hb hg)
   | (go_at_call 20;(with_reducible refine(K2.out g c _ HC.out.bw HG.out).mono ?_);rintro e w2 ⟨rfl,hb⟩;have HD:=hid (HC.out.below hb);clear hb;have h_:=HD.out.row (w.heap.size,[.int .i64 r.x,.int .i64 r.y,.int .i64 r.w,.int .i64 r.h]) (by simp);have x0:=h_.row 0 _ rfl;have x1:=h_.row 1 _ rfl;have x2:=h_.row 2 _ rfl;have x3:=h_.row 3 _ rfl;clear h_)
   | (go_at_call 9;(with_reducible refine(K3.out _).mono ?_);rintro e w3 ⟨rfl,hb⟩;have HE:=hid (HD.out.below hb);clear hb x0 x1 x2 x3;have h_:=HE.out.row (w.heap.size+1,[.string ⟨#[]⟩,.string ⟨#[]⟩]) (by simp);have x0:=h_.row 0 _ rfl;have x1:=h_.row 1 _ rfl;have xf0:=h_.fz 0 (by simp);have xf1:=h_.fz 1 (by simp);clear h_)
   | fail)
  have hp:=(HE.out.sub (L':=[(w.heap.size+1,[.string ⟨#[]⟩,.string ⟨#[]⟩])]) (fun x hx=>by simp at hx;subst hx;simp)).set2 (by omega) (by simp) (.string ⟨#[]⟩) (.string ⟨#[]⟩)
  generalize (w3.setCell ⟨w.heap.size+1,0,none⟩ (.string ⟨#[]⟩)).setCell ⟨w.heap.size+1,1,none⟩ (.string ⟨#[]⟩)=WF at hp⊢
  have h_:=hp.row (w.heap.size+1,[.string ⟨#[]⟩,.string ⟨#[]⟩]) (by simp)
  have q0:=h_.row 0 _ rfl
  have q1:=h_.row 1 _ rfl
  clear h_
  refine bodyPost_ret (v:=.tuple #[.agg #[.string ⟨#[]⟩,.string ⟨#[]⟩],.int .i64 70]) ?_ rfl ⟨rfl,hp.bw⟩
  simp[results,Tryz.results22,go_sem,Result.andThen,q0,q1]
 ·rw[decide_eq_false hh] at K2
  clear hl hv h hno hh hnn hhl
  generalize aS_ ps=hu at K1 K2
  go_enter Tryz.func22,Tryz.ntmps22
  go_wp2_with (first
   | (go_at_call 17;(with_reducible refine(K1.out _ HB.out.bw).mono ?_);rintro e w1 ⟨⟨g,c,rfl,hg⟩,hb⟩;have HC:=hid (HB.out.below hb);have HG:=hid (PtAt.of (PsAt.of hg));clear hb hg)
   | (go_at_call 20;(with_reducible refine(K2.out g c _ HC.out.bw HG.out).mono ?_);rintro e w2 ⟨rfl,hb⟩;have HD:=hid (HC.out.below hb);clear hb;have h_:=HD.out.row (w.heap.size+1,[.string ⟨#[]⟩,.string ⟨#[]⟩]) (by simp);have x0:=h_.row 0 _ rfl;have x1:=h_.row 1 _ rfl;have xf0:=h_.fz 0 (by simp);have xf1:=h_.fz 1 (by simp);clear h_)
   | fail)
  have hp:=(HD.out.sub (L':=[(w.heap.size+1,[.string ⟨#[]⟩,.string ⟨#[]⟩])]) (fun x hx=>by simp at hx;subst hx;simp)).set2 (by omega) (by simp) (.string ⟨#[]⟩) (.string ⟨#[]⟩)
  generalize (w2.setCell ⟨w.heap.size+1,0,none⟩ (.string ⟨#[]⟩)).setCell ⟨w.heap.size+1,1,none⟩ (.string ⟨#[]⟩)=WF at hp⊢
  have h_:=hp.row (w.heap.size+1,[.string ⟨#[]⟩,.string ⟨#[]⟩]) (by simp)
  have q0:=h_.row 0 _ rfl
  have q1:=h_.row 1 _ rfl
  clear h_
  refine bodyPost_ret (v:=.tuple #[.agg #[.string ⟨#[]⟩,.string ⟨#[]⟩],.int .i64 70]) ?_ rfl ⟨rfl,hp.bw⟩
  simp[results,Tryz.results22,go_sem,Result.andThen,q0,q1]
def accA (P:List PO) (i:Nat):Option Rat:=((edC P).take i).foldl (fun acc e=>plO acc (trmO e.1 e.2)) (whO 0)
theorem aIL {P:List PO} {i:Nat} {p q:PO} (hp:P[i]?=some p) (hq:P[(i+1)%P.length]?=some q):accA P (i+1)=plO (accA P i) (trmO p q):=by
 unfold accA
 rw[List.take_add_one,aGU hp hq,List.foldl_append]
 rfl
theorem aBB (P:List PO):accA P P.length=lG_ P:=by
 unfold accA lG_
 rw[List.take_of_length_le (by rw[xY_];exact Nat.le_refl _)]
theorem aIM (P:List PO) (i:Nat):FO (accA P i):=by
 have gen:∀(es:List (PO×PO)) (a:Option Rat),FO a→FO (es.foldl (fun acc e=>plO acc (trmO e.1 e.2)) a):=by
  intro es
  induction es with
  | nil=>intro a h;exact h
  | cons e es ih=>intro a _;exact ih _ (FO.add _ _)
 exact gen _ _ (cM_ (by decide) (by decide))
theorem aNR {x:Option Rat} (fx:FO x) (h:x.isSome=true):vR (qN x) (qD x)=true:=by
 unfold vR
 rw[uU_ fx]
 exact h
theorem aHG {a0:Option Addr} {cap n:Nat} {ps:List Pl} {r:Rc} (hl:ps.length=n) (hv:fewB ps=true) (hh:aS_ ps=ps) (hr:vRc r=true) (hs:(lK_ ps r).isSome=true) (w:World) (h:PtAt a0 ps w) :
  Calls Tryz.prog 22 #[.slice a0 n cap,.agg #[.int .i64 r.x,.int .i64 r.y,.int .i64 r.w,.int .i64 r.h]] w fun e W'=>e=.returned (.tuple #[.agg #[.string (qN (lK_ ps r)),.string (qD (lK_ ps r))],.int .i64 0])∧Below w.heap.size w W':=by
 have hnn:=dI_ hv
 rw[hl] at hnn
 have hall:=fD_ hv
 obtain⟨B,o,rfl⟩:=h.some (by omega)
 have K1:=hid (fun(W:World) (hb:Below w.heap.size w W)=>by have:=oJ_ (cap:=cap) hl hv W (h.below hb);rw[hh,hl] at this;exact this)
 have K2:=hid (fun(g c:Nat) (W:World) (hb:Below w.heap.size w W) (hg:PtAt (some ⟨g,0,none⟩) ps W)=>by have:=aEI (c1:=c) (c2:=cap) hl hl (by omega) (by omega) W hg (h.below hb);rw[decide_eq_true rfl] at this;exact this)
 have K3:=hid (fun W=>jO_ r W)
 rw[hr] at K3
 have vr:=bO_.1 hr
 have HVR:=hid vr
 have HB:=hid (show AzAt [(w.heap.size+1,[.string ⟨#[]⟩,.string ⟨#[]⟩]),(w.heap.size,[.int .i64 r.x,.int .i64 r.y,.int .i64 r.w,.int .i64 r.h])] w _ from by have hp:=((AzAt.start w).push [.int .i64 r.x,.int .i64 r.y,.int .i64 r.w,.int .i64 r.h] 29).push [.string ⟨#[]⟩,.string ⟨#[]⟩] 47;simp only[World.size_alloc] at hp;exact hp)
 have HP:=hid h
 have HL:=hid hl
 have HA:=hid hall
 have hmx:Tryz.prog.follows .mixedOrders=true:=by kernel_rfl
 obtain⟨i0,hi0,hz0,hz1,hz2⟩:=info_parts rH_
 have hn1:1≤n:=hnn.1
 have hn40:n≤40:=hnn.2
 have hBs:=h.sz (by omega)
 obtain⟨rn,hrn⟩:∃rn,rn=lK_ ps r:=⟨_,rfl⟩
 rw[←hrn] at hs⊢
 have HRN:=hid hrn
 have HS:=hid hs
 clear hl hv hh hr h hnn hall vr hrn hs
 go_enter Tryz.func22,Tryz.ntmps22
 go_wp2_with (first
  | (go_at_call 17;(with_reducible refine(K1.out _ HB.out.bw).mono ?_);rintro e w1 ⟨⟨g,c,rfl,hg⟩,hb⟩;have HC:=hid (HB.out.below hb);have HG:=hid (PtAt.of (PsAt.of hg));clear hb hg)
  | (go_at_call 20;(with_reducible refine(K2.out g c _ HC.out.bw HG.out).mono ?_);rintro e w2 ⟨rfl,hb⟩;have HD:=hid (HC.out.below hb);clear hb;have h_:=HD.out.row (w.heap.size,[.int .i64 r.x,.int .i64 r.y,.int .i64 r.w,.int .i64 r.h]) (by simp);have x0:=h_.row 0 _ rfl;have x1:=h_.row 1 _ rfl;have x2:=h_.row 2 _ rfl;have x3:=h_.row 3 _ rfl;clear h_)
  | (go_at_call 9;(with_reducible refine(K3.out _).mono ?_);rintro e w3 ⟨rfl,hb⟩;have HE:=hid (HD.out.below hb);clear hb x0 x1 x2 x3)
  | fail)
 clear K1 K2 K3 HB HC HD HG
 go_loopw [8,9] (fun v8 v9 wr=>∃(i:Nat) (a':Option Addr) (c':Nat),i≤n∧v9=.int .i64 (i:Int)∧v8=.slice a' i c'∧OyAt 82 (.slice a' i c') i (fC_ ((ps.map fun p=>(whO p.x,whO p.y)).take i)) [(w.heap.size+1,[.string ⟨#[]⟩,.string ⟨#[]⟩]),(w.heap.size,[.int .i64 r.x,.int .i64 r.y,.int .i64 r.w,.int .i64 r.h])] w wr) (fun _ v9 _=>n-(intOf v9).toNat)
 case atStart=>exact⟨0,none,0,Nat.zero_le _,rfl,rfl,OyAt.nil HE.out _⟩
 case round=>
  obtain⟨i,a',c',hi,rfl,rfl,hZ⟩:=hrel
  have HZ:=hid hZ
  clear hZ
  by_cases hlt:i<n
  ·obtain⟨p,hp⟩:∃p,ps[i]?=some p:=⟨ps[i]'(by have:=HL.out;omega),List.getElem?_eq_getElem _⟩
   have hvp:=aT_.1 (HA.out p (List.mem_of_getElem? hp))
   have KX:=hid (fun W=>nU_ (n:=p.x) (by omega) (by omega) W)
   have KY:=hid (fun W=>nU_ (n:=p.y) (by omega) (by omega) W)
   have HT:=hid (show(ps.map fun p=>(whO p.x,whO p.y)).take (i+1)=(ps.map fun p=>(whO p.x,whO p.y)).take i++[(whO p.x,whO p.y)] by rw[List.take_add_one,List.getElem?_map,hp];rfl)
   have HPP:=hid hp
   obtain⟨y0,y1⟩:=(HP.out.below HZ.out.az.bw).cells hp
   have hbw:B<wr.heap.size:=Nat.lt_of_lt_of_le hBs HZ.out.az.bw.size
   have i1:(0:Int)≤(i:Int):=by omega
   have i2:(i:Int)<(n:Int):=by omega
   have i3:decide ((i:Int)<(n:Int))=true:=decide_eq_true i2
   have i4:decide (i<n)=true:=decide_eq_true (by omega)
   have g5:IntKind.i64.wrap ((i:Int)+1)=(i:Int)+1:=IntWalk.i64_in _ (by omega)
   clear hvp hp
   go_wp2
   refine kD_ (A:=?fr8) 15 54 1 [.string (qN (whO p.x)),.string (qD (whO p.x)),.string (qN (whO p.y)),.string (qD (whO p.y))] 82 hmx (by kernel_rfl) ?h ⟨_,rfl,rfl,?wa,fun W=>?al⟩ ?ht
   case h=>
    intro U hU
    obtain⟨u0,u1⟩:=(HP.out.below (HZ.out.below hU).az.bw).cells HPP.out
    have x0:=cell_regrown u0
    have x1:=cell_regrown u1
    have c0:=fun d os=>Calls.regrown_of (d:=d) (os:=os) (KX.out (grow (redrawn U d) os))
    have c1:=fun d os=>Calls.regrown_of (d:=d) (os:=os) (KY.out (grow (redrawn U d) os))
    clear u0 u1
    simp only[List.take_succ_cons,List.take_zero]
    repeat (go_big_quiet_step (with_reducible first|exact c0 _ _|exact c1 _ _))
    refine wpQuiet_nil ?_
    rfl
   case wa=>rfl
   case al=>simp[go_sem]
   case ht=>
   intro X8 W8 hW8 hX8 cX8
   have H8:=hid (HZ.out.below hW8)
   have hnew:=fun(j:Nat) (u:Value) (hj:([.string (qN (whO p.x)),.string (qD (whO p.x)),.string (qN (whO p.y)),.string (qD (whO p.y))]:List Value)[j]?=Option.some u)=>(show W8.cell? ((⟨X8,0,none⟩:Addr).add j)=Option.some u from by rw[Go.WideShapes.add_plain,Nat.zero_add];exact cX8.row j u hj)
   have HNW:=hid hnew
   have hsq:=H8.out.az.bw.size
   clear hW8 cX8 hnew y0 y1
   simp only[List.drop_succ_cons,List.drop_zero]
   refine wpList_append_own_at _ rfl _ _ 78 rfl w.heap.size 82 i0 (.agg #[.string ⟨#[]⟩,.string ⟨#[]⟩,.string ⟨#[]⟩,.string ⟨#[]⟩]) 4 64 Tryz.underlying78 hi0 hz0 hz1 hz2 rfl (by decide) (.slice a' i c') i (fC_ ((ps.map fun p=>(whO p.x,whO p.y)).take i)) rfl H8.out.own ⟨X8,0,none⟩ 1 1 [.string (qN (whO p.x)),.string (qD (whO p.x)),.string (qN (whO p.y)),.string (qD (whO p.y))] rfl rfl HNW.out (by simp[Value.oneCell']) (by unfold maxLen;omega) (by omega) (by omega) ?_;intro v7 w7 hown' hgrow _ hat;have HN:=hid (H8.out.append0 hown' hgrow hat);clear hown' hgrow hat
   go_wp2
   obtain⟨g7,c7,rfl⟩:=ownsRow_succ HN.out.own
   exact⟨⟨i+1,some ⟨g7,0,none⟩,c7,by omega,by go_num,rfl,by rw[HT.out,gC_];exact HN.out⟩,by simp only[intOf];omega⟩
  ·have hin:i=n:=by omega
   have i3:decide ((i:Int)<(n:Int))=false:=decide_eq_false (by omega)
   have i4:decide (i<n)=false:=decide_eq_false (by omega)
   have HPO:=hid (show PoAt a' (ps.map fun p=>(whO p.x,whO p.y)) wr from by
    have e:(ps.map fun p=>(whO p.x,whO p.y)).take i=(ps.map fun p=>(whO p.x,whO p.y)):=List.take_of_length_le (by rw[List.length_map,HL.out];omega)
    have h:=HZ.out
    rw[e] at h
    exact h.points (by rw[List.length_map,HL.out,hin]))
   have HZ2:=hid HZ.out.az
   have HLP:=hid (show(ps.map fun p=>(whO p.x,whO p.y)).length=i by rw[List.length_map,HL.out,hin])
   have HFP:=hid (show ∀p∈(ps.map fun p=>(whO p.x,whO p.y)),FO p.1∧FO p.2 from fun p hp=>by
    obtain⟨q,hq,rfl⟩:=List.mem_map.1 hp
    have v:=aT_.1 (HA.out q hq)
    exact⟨cM_ (by omega) (by omega),cM_ (by omega) (by omega)⟩)
   have HRN2:=hid (show rn=ovO (lG_ (cutO 1 (r.y+r.h) (-1) (cutO 1 r.y 1 (cutO 0 (r.x+r.w) (-1) (cutO 0 r.x 1 (ps.map fun p=>(whO p.x,whO p.y))))))) (whO 2) from HRN.out)
   have hvr:=HVR.out
   clear HZ HRN hin
   generalize (ps.map fun p=>(whO p.x,whO p.y))=P at *
   obtain⟨c1,hc1⟩:∃c1,c1=c':=⟨_,rfl⟩
   subst hc1
   have hlA1:=nP_ 0 r.x 1 P
   have hlP1:=HLP.out
   rw[hlP1] at hlA1
   have KA1:=hid (fun(W:World) (hb:Below wr.heap.size wr W)=>aND (t:=r.x) (keep:=1) (cap:=c1) (by omega) (by omega) (by decide) HLP.out (by omega) HFP.out W (HPO.out.below hb))
   obtain⟨A1,hA1⟩:∃A,A=cutO 0 r.x 1 P:=⟨_,rfl⟩
   have HFA1:=hid (show ∀p∈A1,FO p.1∧FO p.2 from by rw[hA1];exact tV_ HFP.out)
   have KB1:=hid (fun(a1:Option Addr) (c1:Nat) (W:World) (h1:PoAt a1 A1 W)=>aND (t:=r.x+r.w) (keep:=-1) (cap:=c1) (by omega) (by omega) (by decide) rfl (by rw[hA1];omega) HFA1.out W h1)
   have hlB1:=nP_ 0 (r.x+r.w) (-1) A1
   obtain⟨Q1,hQ1⟩:∃Q,Q=cutO 0 (r.x+r.w) (-1) A1:=⟨_,rfl⟩
   have HFQ1:=hid (show ∀p∈Q1,FO p.1∧FO p.2 from by rw[hQ1];exact tV_ HFA1.out)
   rw[←hA1] at KA1 HRN2 hlA1
   rw[←hQ1] at KB1 HRN2 hlB1
   clear hA1 hQ1
   have gw1:IntKind.i64.wrap (r.x+r.w)=r.x+r.w:=IntWalk.i64_in _ (by omega)
   go_wp2
   first|(go_region_held3 (fun W=>W.cell? ⟨w.heap.size,0,none⟩=Option.some (.int .i64 r.x)∧W.cell? ⟨w.heap.size,2,none⟩=Option.some (.int .i64 r.w)) (first|with_reducible exact⟨((HZ2.out.drew.row (w.heap.size,[.int .i64 r.x,.int .i64 r.y,.int .i64 r.w,.int .i64 r.h]) (by simp)).row 0 _ rfl),((HZ2.out.drew.row (w.heap.size,[.int .i64 r.x,.int .i64 r.y,.int .i64 r.w,.int .i64 r.h]) (by simp)).row 2 _ rfl)⟩|with_reducible exact⟨((HU1.out.2.row (w.heap.size,[.int .i64 r.x,.int .i64 r.y,.int .i64 r.w,.int .i64 r.h]) (by simp)).row 0 _ rfl),((HU1.out.2.row (w.heap.size,[.int .i64 r.x,.int .i64 r.y,.int .i64 r.w,.int .i64 r.h]) (by simp)).row 2 _ rfl)⟩|with_reducible exact⟨((HV1.out.2.row (w.heap.size,[.int .i64 r.x,.int .i64 r.y,.int .i64 r.w,.int .i64 r.h]) (by simp)).row 0 _ rfl),((HV1.out.2.row (w.heap.size,[.int .i64 r.x,.int .i64 r.y,.int .i64 r.w,.int .i64 r.h]) (by simp)).row 2 _ rfl)⟩) (first
    | (have _:=HU1;go_at_call 60;(with_reducible refine(KB1.out _ _ _ HU1.out.1).mono ?_);rintro e u2 ⟨⟨b2,d2,rfl,hP2⟩,hb⟩;have HV1:=hid (And.intro hP2 (HU1.out.2.below hb));clear hb hP2)
    | (go_at_call 60;(with_reducible refine(KA1.out _ (Below.refl wr.heap.size wr).drew).mono ?_);rintro e u1 ⟨⟨b1,d1,rfl,hP1⟩,hb⟩;have HU1:=hid (And.intro hP1 (HZ2.out.drew.below hb));clear hb hP1)
    | fail)) | fail
   all_goals
    have HPO2:=hid HV1.out.1
    have HZ3:=hid HV1.out.2
    obtain⟨c2,hc2⟩:∃c2,c2=d2:=⟨_,rfl⟩
    subst hc2
    have HLQ1:=hid (rfl:Q1.length=Q1.length)
    clear KA1 KB1 HU1 HV1 HZ2
    try clear HPO
    have hlA2:=nP_ 1 r.y 1 Q1
    have hlP2:=HLQ1.out
    rw[hlP2] at hlA2
    have KA2:=hid (fun(W:World) (hb:Below u2.heap.size u2 W)=>aNC (t:=r.y) (keep:=1) (cap:=c2) (by omega) (by omega) (by decide) HLQ1.out (by omega) HFQ1.out W (HPO2.out.below hb))
    obtain⟨A2,hA2⟩:∃A,A=cutO 1 r.y 1 Q1:=⟨_,rfl⟩
    have HFA2:=hid (show ∀p∈A2,FO p.1∧FO p.2 from by rw[hA2];exact tV_ HFQ1.out)
    have KB2:=hid (fun(a1:Option Addr) (c1:Nat) (W:World) (h1:PoAt a1 A2 W)=>aNC (t:=r.y+r.h) (keep:=-1) (cap:=c1) (by omega) (by omega) (by decide) rfl (by rw[hA2];omega) HFA2.out W h1)
    have hlB2:=nP_ 1 (r.y+r.h) (-1) A2
    obtain⟨Q2,hQ2⟩:∃Q,Q=cutO 1 (r.y+r.h) (-1) A2:=⟨_,rfl⟩
    have HFQ2:=hid (show ∀p∈Q2,FO p.1∧FO p.2 from by rw[hQ2];exact tV_ HFA2.out)
    rw[←hA2] at KA2 HRN2 hlA2
    rw[←hQ2] at KB2 HRN2 hlB2
    clear hA2 hQ2
    have gw2:IntKind.i64.wrap (r.y+r.h)=r.y+r.h:=IntWalk.i64_in _ (by omega)
    go_wp2
    first|(go_region_held3 (fun W=>W.cell? ⟨w.heap.size,1,none⟩=Option.some (.int .i64 r.y)∧W.cell? ⟨w.heap.size,3,none⟩=Option.some (.int .i64 r.h)) (first|with_reducible exact⟨((HZ3.out.drew.row (w.heap.size,[.int .i64 r.x,.int .i64 r.y,.int .i64 r.w,.int .i64 r.h]) (by simp)).row 1 _ rfl),((HZ3.out.drew.row (w.heap.size,[.int .i64 r.x,.int .i64 r.y,.int .i64 r.w,.int .i64 r.h]) (by simp)).row 3 _ rfl)⟩|with_reducible exact⟨((HU2.out.2.row (w.heap.size,[.int .i64 r.x,.int .i64 r.y,.int .i64 r.w,.int .i64 r.h]) (by simp)).row 1 _ rfl),((HU2.out.2.row (w.heap.size,[.int .i64 r.x,.int .i64 r.y,.int .i64 r.w,.int .i64 r.h]) (by simp)).row 3 _ rfl)⟩|with_reducible exact⟨((HV2.out.2.row (w.heap.size,[.int .i64 r.x,.int .i64 r.y,.int .i64 r.w,.int .i64 r.h]) (by simp)).row 1 _ rfl),((HV2.out.2.row (w.heap.size,[.int .i64 r.x,.int .i64 r.y,.int .i64 r.w,.int .i64 r.h]) (by simp)).row 3 _ rfl)⟩) (first
     | (have _:=HU2;go_at_call 60;(with_reducible refine(KB2.out _ _ _ HU2.out.1).mono ?_);rintro e u2 ⟨⟨b2,d2,rfl,hP2⟩,hb⟩;have HV2:=hid (And.intro hP2 (HU2.out.2.below hb));clear hb hP2)
     | (go_at_call 60;(with_reducible refine(KA2.out _ (Below.refl u2.heap.size u2).drew).mono ?_);rintro e u1 ⟨⟨b1,d1,rfl,hP1⟩,hb⟩;have HU2:=hid (And.intro hP1 (HZ3.out.drew.below hb));clear hb hP1)
     | fail)) | fail
    all_goals
     have HPO3:=hid HV2.out.1
     have HZ4:=hid HV2.out.2
     clear KA2 KB2 HU2 HV2 HZ3
     try clear HPO2
     have KW0:=hid (fun W=>nU_ (n:=0) (by decide) (by decide) W)
     have hN640:Q2.length≤640:=by omega
     obtain⟨N,hNe⟩:∃N,N=Q2.length:=⟨_,rfl⟩
     rw[←hNe] at hN640⊢
     have HNN:=hid hNe.symm
     clear hNe hlA1 hlA2 hlB1 hlB2 hlP1 hlP2
     go_wp2_with (first
      | (go_at_call 59;(with_reducible refine(KW0.out _).mono ?_);rintro e w5 ⟨rfl,hb⟩;have H5:=hid (And.intro (HZ4.out.below hb) (HPO3.out.below hb));clear hb)
      | fail)
     have HS0:=hid (show AzAt [(w5.heap.size,[.string (qN (accA Q2 0)),.string (qD (accA Q2 0))])] w5 (w5.alloc (.cells #[.string (qN (whO 0)),.string (qD (whO 0))] 47)) from(AzAt.start w5).push [.string (qN (whO 0)),.string (qD (whO 0))] 47)
     obtain⟨X5,hX5⟩:∃X5,X5=w5.heap.size:=⟨_,rfl⟩
     have hs1:=(H5.out.1.row (w.heap.size+1,[.string ⟨#[]⟩,.string ⟨#[]⟩]) (by simp)).sz
     simp only at hs1
     have hX5b:w5.heap.size≤X5:=by omega
     rw[←hX5] at HS0⊢
     generalize w5.alloc (.cells #[.string (qN (whO 0)),.string (qD (whO 0))] 47)=W5 at HS0⊢
     clear HZ4 HPO3 KW0 hX5
     go_loopw [11] (fun v11 wr=>∃i:Nat,i≤N∧v11=.int .i64 (i:Int)∧AzAt [(X5,[.string (qN (accA Q2 i)),.string (qD (accA Q2 i))])] w5 wr) (fun v11 _=>N-(intOf v11).toNat)
     case atStart=>exact⟨0,Nat.zero_le _,rfl,HS0.out⟩
     case round=>
      obtain⟨i,hi,rfl,hA⟩:=hrel
      have HA2:=hid hA
      clear hA HS0
      by_cases hlt:i<N
      ·obtain⟨m1,hm1⟩:∃m1,m1=(i+1)%N:=⟨_,rfl⟩
       have lt1:m1<N:=by rw[hm1];exact Nat.mod_lt _ (by omega)
       obtain⟨p,hp⟩:∃p,Q2[i]?=some p:=⟨Q2[i]'(by have:=HNN.out;omega),List.getElem?_eq_getElem _⟩
       obtain⟨q,hq⟩:∃q,Q2[m1]?=some q:=⟨Q2[m1]'(by have:=HNN.out;omega),List.getElem?_eq_getElem _⟩
       have HSC:=hid (aIL hp (by rw[HNN.out,←hm1];exact hq))
       obtain⟨bb,hba,hbs⟩:=H5.out.2.addr (by have:=HNN.out;omega)
       subst hba
       have fp:=HFQ2.out p (List.mem_of_getElem? hp)
       have fq:=HFQ2.out q (List.mem_of_getElem? hq)
       have M1:=hid (fun W=>aBT fp.1 fq.2 W)
       have M2:=hid (fun W=>aBT fp.2 fq.1 W)
       have KS:=hid (fun W=>(show Calls Tryz.prog 62 #[.agg #[.string (qN (tiO p.1 q.2)),.string (qD (tiO p.1 q.2))],.agg #[.string (qN (tiO p.2 q.1)),.string (qD (tiO p.2 q.1))]] W fun e W'=>e=.returned (.agg #[.string (qN (trmO p q)),.string (qD (trmO p q))])∧Below W.heap.size W W' from sK_ (x:=tiO p.1 q.2) (y:=tiO p.2 q.1) (FO.mul _ _) (FO.mul _ _) W))
       have KA:=hid (fun W=>(show Calls Tryz.prog 61 #[.agg #[.string (qN (accA Q2 i)),.string (qD (accA Q2 i))],.agg #[.string (qN (trmO p q)),.string (qD (trmO p q))]] W fun e W'=>e=.returned (.agg #[.string (qN (accA Q2 (i+1))),.string (qD (accA Q2 (i+1)))])∧Below W.heap.size W W' from by rw[HSC.out];exact aII (x:=accA Q2 i) (y:=trmO p q) (aIM _ _) (FO.sub _ _) W))
       have HPQ:=hid (And.intro hp hq)
       have hbw:bb<wr.heap.size:=Nat.lt_of_lt_of_le hbs HA2.out.bw.size
       obtain⟨y0,y1,y2,y3⟩:=(H5.out.2.below HA2.out.bw).cells hq
       generalize accA Q2 i=acc at HA2 KA
       obtain⟨acc',hacc⟩:∃acc',acc'=accA Q2 (i+1):=⟨_,rfl⟩
       rw[←hacc] at KA HSC
       have HAC:=hid hacc
       clear hacc
       generalize trmO p q=tm at KA KS HSC
       have g5:IntKind.i64.wrap ((i:Int)+1)=(i:Int)+1:=IntWalk.i64_in _ (by omega)
       have rem1:((i:Int)+1).tmod (N:Int)=(m1:Int):=by rw[hm1];rfl
       have n0:¬(N:Int)=0:=by omega
       have i1:(0:Int)≤(i:Int):=by omega
       have i2:(i:Int)<(N:Int):=by omega
       have i3:decide ((i:Int)<(N:Int))=true:=decide_eq_true i2
       have i4:decide (i<N)=true:=decide_eq_true (by omega)
       have j1:(0:Int)≤(m1:Int):=by omega
       have j2:(m1:Int)<(N:Int):=by omega
       clear hm1 hp hq fp fq
       go_wp2
       have HY:=hid (HA2.out.push [.string (qN q.1),.string (qD q.1),.string (qN q.2),.string (qD q.2)] 82)
       obtain⟨X,hX⟩:∃X,X=wr.heap.size:=⟨_,rfl⟩
       have hXX:X5<X:=by rw[hX];exact(HA2.out.row (X5,[.string (qN acc),.string (qD acc)]) (by simp)).sz
       rw[←hX] at HY⊢
       generalize wr.alloc (.cells #[.string (qN q.1),.string (qD q.1),.string (qN q.2),.string (qD q.2)] 82)=W1 at HY⊢
       clear y0 y1 y2 y3 hX HA2
       refine bP_ (A:=?fr16) 23 hmx (by kernel_rfl) ?h16 ?ht16
       case h16=>
        intro U hU
        have hp:=hid (HY.out.below hU)
        have h_:=hp.out.row (X5,[.string (qN acc),.string (qD acc)]) (by simp)
        have x0:=cell_regrown (h_.row 0 _ rfl)
        have x1:=cell_regrown (h_.row 1 _ rfl)
        clear h_
        have h_:=hp.out.row (X,[.string (qN q.1),.string (qD q.1),.string (qN q.2),.string (qD q.2)]) (by simp)
        have x2:=cell_regrown (h_.row 0 _ rfl)
        have x3:=cell_regrown (h_.row 1 _ rfl)
        have x4:=cell_regrown (h_.row 2 _ rfl)
        have x5:=cell_regrown (h_.row 3 _ rfl)
        clear h_
        obtain⟨u0,u1,u2',u3⟩:=(H5.out.2.below hp.out.bw).cells HPQ.out.1
        have x6:=cell_regrown u0
        have x7:=cell_regrown u1
        have x8:=cell_regrown u2'
        have x9:=cell_regrown u3
        have cM1:=fun d os=>Calls.regrown_of (d:=d) (os:=os) (M1.out (grow (redrawn U d) os))
        have cM2:=fun d os=>Calls.regrown_of (d:=d) (os:=os) (M2.out (grow (redrawn U d) os))
        have cKS:=fun d os=>Calls.regrown_of (d:=d) (os:=os) (KS.out (grow (redrawn U d) os))
        have cKA:=fun d os=>Calls.regrown_of (d:=d) (os:=os) (KA.out (grow (redrawn U d) os))
        clear hp u0 u1 u2' u3
        simp only[List.take_succ_cons,List.take_zero]
        repeat (go_big_quiet_step (with_reducible first|exact cM1 _ _|exact cM2 _ _|exact cKS _ _|exact cKA _ _))
        refine wpQuiet_nil ?_
        rfl
       case ht16=>
        intro W8 hW8
        have H9:=hid (HY.out.below hW8)
        have h_:=H9.out.row (X5,[.string (qN acc),.string (qD acc)]) (by simp)
        have z0:=h_.row 0 _ rfl
        have z1:=h_.row 1 _ rfl
        have f0:=h_.fz 0 (by simp)
        have f1:=h_.fz 1 (by simp)
        clear h_
        have HE9:=hid (show AzAt [(X5,[.string (qN acc'),.string (qD acc')])] w5 _ from(H9.out.sub (L':=[(X5,[.string (qN acc),.string (qD acc)])]) (fun x hx=>by simp at hx;subst hx;simp)).set2 hX5b (by simp) (.string (qN acc')) (.string (qD acc')))
        clear hW8
        simp only[List.drop_succ_cons,List.drop_zero]
        go_wp2
        exact⟨⟨i+1,by omega,by go_num,by rw[←HAC.out];exact HE9.out⟩,by simp only[intOf];omega⟩
      ·have hin:i=N:=by omega
       have HAA:=hid (show accA Q2 i=lG_ Q2 by rw[hin,←HNN.out];exact aBB Q2)
       have i3:decide ((i:Int)<(N:Int))=false:=decide_eq_false (by omega)
       have i4:decide (i<N)=false:=decide_eq_false (by omega)
       have KW2:=hid (fun W=>nU_ (n:=2) (by decide) (by decide) W)
       have fA:FO (lG_ Q2):=by rw[←aBB];exact aIM _ _
       have KD:=hid (fun W=>(show Calls Tryz.prog 64 #[.agg #[.string (qN (lG_ Q2)),.string (qD (lG_ Q2))],.agg #[.string (qN (whO 2)),.string (qD (whO 2))]] W fun e W'=>e=.returned (.agg #[.string (qN rn),.string (qD rn)])∧Below W.heap.size W W' from by rw[HRN2.out];exact aQK (x:=lG_ Q2) (y:=whO 2) fA (cM_ (by decide) (by decide)) W))
       have frn:FO rn:=by rw[HRN2.out];exact FO.div _ _
       have KV:=hid (fun W=>by have:=cS_ (eV_ _ frn) (eW_ _ frn) W;rw[aNR frn HS.out] at this;exact this)
       have HA3:=hid (show AzAt [(X5,[.string (qN (lG_ Q2)),.string (qD (lG_ Q2))])] w5 wr from by rw[←HAA.out];exact HA2.out)
       have hws:=HA2.out.bw.size
       clear hin fA frn HAA HA2 HRN2
       generalize lG_ Q2=ar at HA3 KD
       go_wp2
       refine cT_ (A:=?fr17) 3 13 [.string ⟨#[]⟩,.string ⟨#[]⟩] 47 hmx (by kernel_rfl) ⟨_,rfl,rfl,rfl,fun b W=>?al17⟩ ?h17 ?ht17
       case al17=>simp[go_sem]
       case h17=>
        intro U hU
        have hp:=hid (HA3.out.below hU)
        have h_:=hp.out.row (X5,[.string (qN ar),.string (qD ar)]) (by simp)
        have x0:=cell_regrown (h_.row 0 _ rfl)
        have x1:=cell_regrown (h_.row 1 _ rfl)
        clear h_
        have cKW:=fun d os=>Calls.regrown_of (d:=d) (os:=os) (KW2.out (grow (redrawn U d) os))
        have cKD:=fun d os=>Calls.regrown_of (d:=d) (os:=os) (KD.out (grow (redrawn U d) os))
        clear hp
        simp only[List.take_succ_cons,List.take_zero]
        repeat (go_big_quiet_step (with_reducible first|exact cKW _ _|exact cKD _ _))
        refine wpQuiet_nil ?_
        rfl
       case ht17=>
        intro X6 W6 hW6 hX6 cX6
        have H6:=hid ((H5.out.1.below ((HA3.out.below hW6).bw)).cons cX6)
        have H7:=hid (H6.out.set2 (by omega) (fun x hx=>by simp only[List.mem_cons,List.not_mem_nil,or_false] at hx;rcases hx with rfl|rfl <;> (simp only;omega)) (.string (qN rn)) (.string (qD rn)))
        have z0:=cX6.row 0 _ rfl
        have z1:=cX6.row 1 _ rfl
        have f0:=cX6.fz 0 (by simp)
        have f1:=cX6.fz 1 (by simp)
        have hs6:X6<W6.heap.size:=cX6.sz
        clear hW6 cX6 H6
        simp only[List.drop_succ_cons,List.drop_zero]
        go_wp2_with (first
         | (go_at_call 65;(with_reducible refine(KV.out _).mono ?_);rintro e w9 ⟨rfl,hb⟩;have H8:=hid (H7.out.below hb);clear hb z0 z1 f0 f1;have h_:=H8.out.row (X6,[.string (qN rn),.string (qD rn)]) (by simp);have z0:=h_.row 0 _ rfl;have z1:=h_.row 1 _ rfl;clear h_;have h_:=H8.out.row (w.heap.size+1,[.string ⟨#[]⟩,.string ⟨#[]⟩]) (by simp);have y0:=h_.row 0 _ rfl;have y1:=h_.row 1 _ rfl;have f0:=h_.fz 0 (by simp);have f1:=h_.fz 1 (by simp);clear h_)
         | fail)
        have hp:=(H8.out.sub (L':=[(w.heap.size+1,[.string ⟨#[]⟩,.string ⟨#[]⟩])]) (fun x hx=>by simp at hx;subst hx;simp)).set2 (by omega) (by simp) (.string (qN rn)) (.string (qD rn))
        generalize (w9.setCell ⟨w.heap.size+1,0,none⟩ (.string (qN rn))).setCell ⟨w.heap.size+1,1,none⟩ (.string (qD rn))=WF at hp⊢
        have h_:=hp.row (w.heap.size+1,[.string (qN rn),.string (qD rn)]) (by simp)
        have q0:=h_.row 0 _ rfl
        have q1:=h_.row 1 _ rfl
        clear h_
        refine bodyPost_ret (v:=.tuple #[.agg #[.string (qN rn),.string (qD rn)],.int .i64 0]) ?_ rfl ⟨rfl,hp.bw⟩
        simp[results,Tryz.results22,go_sem,Result.andThen,q0,q1]
end Go.Proofs.YtjfdefglpoancaaGreatDoor
namespace Go.Proofs.YtjfdefglpoancaaGreatDoor
end Go.Proofs.YtjfdefglpoancaaGreatDoor
namespace Go.Proofs.YtjfdefglpoancaaGreatDoor
open Go.RowKit Go.Shelf Go.Sort
attribute [local go_sem] Oper.semAt_some
def erX (ps:List Pl):Int:=if fewB ps then 0 else 70
def arX (ps:List Pl):Rc:=if fewB ps then (match ps with|p::l=>bY_ p l | []=>⟨0,0,0,0⟩) else ⟨0,0,0,0⟩
def huX (ps:List Pl):List Pl:=if fewB ps then aS_ ps else []
def aeX (ps:List Pl):Int:=if fewB ps then hF_ ps else 0
def okX (ps:List Pl) (r:Rc):Bool:=fewB ps&&decide (aS_ ps=ps)&&vRc r
def coX (ps:List Pl) (r:Rc):Option Rat:=if okX ps r then some (rR_ ps r) else none
def ecX (ps:List Pl) (r:Rc):Int:=if okX ps r then 0 else 70
def vdX (p a b:Pl):Bool:=vP p&&vP a&&vP b
def diX (p a b:Pl):Option Rat:=if vdX p a b then some (dRat p a b) else none
def edX (p a b:Pl):Int:=if vdX p a b then 0 else 70
theorem aQE (ps:List Pl) (h:ps.length≤41):(huX ps).length≤41:=by
 unfold huX
 split
 ·have:=nI_ (fD_ ‹_›);omega
 ·simp
section
variable {a0:Option Addr} {cap n:Nat} {ps:List Pl} (hl:ps.length=n) (hn:n≤41) (w:World) (h:PtAt a0 ps w)
include hl hn h
theorem aLU:Calls Tryz.prog 14 #[.slice a0 n cap] w fun e W'=>e=.returned (.tuple #[.agg #[.int .i64 (arX ps).x,.int .i64 (arX ps).y,.int .i64 (arX ps).w,.int .i64 (arX ps).h],.int .i64 (erX ps)])∧Below w.heap.size w W':=by
 unfold arX erX
 cases hv:fewB ps with
 | false=>exact aID hl (by omega) hv w h
 | true=>
  cases ps with
  | nil=>cases hv
  | cons p l=>exact aLX hl hv w h
theorem aIC:Calls Tryz.prog 15 #[.slice a0 n cap] w fun e W'=>e=.returned (.tuple #[.agg #[.int .i64 (arX ps).x,.int .i64 (arX ps).y,.int .i64 (arX ps).w,.int .i64 (arX ps).h],.int .i64 (erX ps)])∧Below w.heap.size w W':=by
 unfold arX erX
 cases hv:fewB ps with
 | false=>exact aIE hl (by omega) hv w h
 | true=>
  cases ps with
  | nil=>cases hv
  | cons p l=>exact aLW hl hv w h
theorem area_u:Calls Tryz.prog 18 #[.slice a0 n cap] w fun e W'=>e=.returned (.tuple #[.int .i64 (aeX ps),.int .i64 (erX ps)])∧Below w.heap.size w W':=by
 unfold aeX erX
 cases hv:fewB ps with
 | false=>exact aMA hl (by omega) hv w h
 | true=>exact aRG hl hv w h
theorem aRD:Calls Tryz.prog 19 #[.slice a0 n cap] w fun e W'=>e=.returned (.tuple #[.int .i64 (aeX ps),.int .i64 (erX ps)])∧Below w.heap.size w W':=by
 unfold aeX erX
 cases hv:fewB ps with
 | false=>exact aMB hl (by omega) hv w h
 | true=>exact aRF hl hv w h
theorem hull_u:Calls Tryz.prog 16 #[.slice a0 n cap] w fun e W'=>(∃g c,e=.returned (.tuple #[.slice g (huX ps).length c,.int .i64 (erX ps)])∧PtAt g (huX ps) W')∧Below w.heap.size w W':=by
 unfold huX erX
 cases hv:fewB ps with
 | false=>exact(aGC hl (by omega) hv w h).mono fun e W' ⟨h1,h2⟩=>⟨⟨none,0,h1,PtAt.nil W'⟩,h2⟩
 | true=>exact(xU_ hl hv w h).mono fun e W' ⟨⟨g,c,h1,h3⟩,h2⟩=>⟨⟨_,c,h1,PtAt.of (PsAt.of h3)⟩,h2⟩
theorem aQB:Calls Tryz.prog 17 #[.slice a0 n cap] w fun e W'=>(∃g c,e=.returned (.tuple #[.slice g (huX ps).length c,.int .i64 (erX ps)])∧PtAt g (huX ps) W')∧Below w.heap.size w W':=by
 unfold huX erX
 cases hv:fewB ps with
 | false=>exact(aGD hl (by omega) hv w h).mono fun e W' ⟨h1,h2⟩=>⟨⟨none,0,h1,PtAt.nil W'⟩,h2⟩
 | true=>exact(oJ_ hl hv w h).mono fun e W' ⟨⟨g,c,h1,h3⟩,h2⟩=>⟨⟨_,c,h1,PtAt.of (PsAt.of h3)⟩,h2⟩
end
theorem rO_ {l:List Pl} {i:Nat} {e:Pl×Pl} (h:(aM_ l)[i]?=some e):l[i]?=some e.1:=by
 unfold aM_ at h
 rw[List.getElem?_zip_eq_some] at h
 exact h.1
theorem tA_ {ps:List Pl} {r:Rc} : okX ps r=true↔fewB ps=true∧aS_ ps=ps∧vRc r=true:=by
 unfold okX
 simp only[Bool.and_eq_true,decide_eq_true_eq,and_assoc]
section
variable {a0:Option Addr} {cap n:Nat} {ps:List Pl} (r:Rc) (hl:ps.length=n) (hn:n≤41) {w:World} (h:PtAt a0 ps w)
include hl hn h
theorem cov_u (hi:IOps w) (hf:FrOp w):Calls Tryz.prog 21 #[.slice a0 n cap,.agg #[.int .i64 r.x,.int .i64 r.y,.int .i64 r.w,.int .i64 r.h]] w fun e W'=>e=.returned (.tuple #[.agg #[.string (qN (coX ps r)),.string (qD (coX ps r))],.int .i64 (ecX ps r)])∧Below w.heap.size w W':=by
 unfold coX ecX
 by_cases ho:okX ps r=true
 ·obtain⟨hv,hh,hr⟩:=tA_.1 ho
  rw[if_pos ho,if_pos ho,←yC_ (fD_ hv) hh hr (dI_ hv).2 (fun e he=>iV_ he) (fun i e he=>rO_ he) (gS_ ps)]
  exact aHH hl hv hh hr hi hf h
 ·rw[if_neg ho,if_neg ho]
  cases hv:fewB ps with
  | false=>exact aCI r hl (by omega) hv w h
  | true=>exact aCH hl hv (fun k=>ho (tA_.2 ⟨hv,k.1,k.2⟩)) w h
theorem cov_ur:Calls Tryz.prog 22 #[.slice a0 n cap,.agg #[.int .i64 r.x,.int .i64 r.y,.int .i64 r.w,.int .i64 r.h]] w fun e W'=>e=.returned (.tuple #[.agg #[.string (qN (coX ps r)),.string (qD (coX ps r))],.int .i64 (ecX ps r)])∧Below w.heap.size w W':=by
 unfold coX ecX
 by_cases ho:okX ps r=true
 ·obtain⟨hv,hh,hr⟩:=tA_.1 ho
  have hs:=xE_ (fD_ hv) hh hr (dI_ hv).2 (fun e he=>iV_ he) (fun i e he=>rO_ he)
  rw[if_pos ho,if_pos ho,←hs]
  exact aHG hl hv hh hr (by rw[hs];rfl) w h
 ·rw[if_neg ho,if_neg ho]
  cases hv:fewB ps with
  | false=>exact aCJ r hl (by omega) hv w h
  | true=>exact wF_ hl hv (fun k=>ho (tA_.2 ⟨hv,k.1,k.2⟩)) w h
end
theorem dist_u (p a b:Pl) {w:World} (hi:IOps w) (hf:FrOp w):Calls Tryz.prog 23 #[.agg #[.int .i64 p.x,.int .i64 p.y],.agg #[.int .i64 a.x,.int .i64 a.y],.agg #[.int .i64 b.x,.int .i64 b.y]] w fun e W'=>e=.returned (.tuple #[.agg #[.string (qN (diX p a b)),.string (qD (diX p a b))],.int .i64 (edX p a b)])∧Below w.heap.size w W':=by
 unfold diX edX
 cases hv:vdX p a b with
 | false=>exact aQM (by simpa[vdX,Bool.and_assoc] using hv) w
 | true=>
  unfold vdX at hv
  simp only[Bool.and_eq_true] at hv
  exact tQ_ hv.1.1 hv.1.2 hv.2 hi hf
theorem aQL (p a b:Pl) (w:World):Calls Tryz.prog 24 #[.agg #[.int .i64 p.x,.int .i64 p.y],.agg #[.int .i64 a.x,.int .i64 a.y],.agg #[.int .i64 b.x,.int .i64 b.y]] w fun e W'=>e=.returned (.tuple #[.agg #[.string (qN (diX p a b)),.string (qD (diX p a b))],.int .i64 (edX p a b)])∧Below w.heap.size w W':=by
 unfold diX edX
 cases hv:vdX p a b with
 | false=>exact aKX hv w
 | true=>
  unfold vdX at hv
  simp only[Bool.and_eq_true] at hv
  exact aGX hv.1.1 hv.1.2 hv.2 w
end Go.Proofs.YtjfdefglpoancaaGreatDoor
