/- - -/
import Derived.RangeFuncNested
import Derived.RangeFuncBound
import Derived.RangeFuncCalls
import Derived.RangeFuncLeaves
import Derived.RangeFuncBox
import Derived.Stop.RegionWithIn
import Derived.IntWalk
import Derived.Lib.MinMax
import Derived.Lib.QuietBelow
import Derived.BigQuiet
import Derived.Shelf.RegionOpen
import Derived.Deep.QuietTactic
import Derived.Test.YtlikmmpmnaaifaaGreatDoorZBack
import Derived.Test.YtlikmmpmnaaifaaGreatDoorZPl2
import Derived.Test.YtlikmmpmnaaifaaGreatDoorZQTI
import Derived.Test.YtlikmmpmnaaifaaGreatDoorZOut
import Derived.Test.YtlikmmpmnaaifaaGreatDoorZPlB
import Derived.Test.YtlikmmpmnaaifaaGreatDoorZParse
import Derived.Test.YtlikmmpmnaaifaaGreatDoorZPl15
import Derived.Test.YtlikmmpmnaaifaaGreatDoorZNum
import Derived.Test.YtlikmmpmnaaifaaGreatDoorZQT
set_option maxHeartbeats 40000000
set_option maxRecDepth 1000000
open Go.Lib (hid)
namespace Go.Proofs.YtlikmmpmnaaifaaGreatDoor
open Go.RowKit Go.Shelf
attribute [local go_sem] Oper.semAt_some
abbrev PE:={ e:Pl×Pl // vP e.1=true∧vP e.2=true }
def aLJ (x:PE):Array Value:=#[.agg #[.int .i64 x.1.1.x,.int .i64 x.1.1.y],.agg #[.int .i64 x.1.2.x,.int .i64 x.1.2.y]]
theorem jF_ (l:List Pl):(aC_ l).length=l.length:=by
 unfold aC_
 rw[List.length_zip,List.length_append,List.length_drop,List.length_take]
 omega
theorem aGT {l:List Pl} {k:Nat} {p q:Pl} (hp:l[k]?=some p) (hq:l[(k+1)%l.length]?=some q):(aC_ l)[k]?=some (p,q):=by
 have hk:k<l.length:=by
  rcases Nat.lt_or_ge k l.length with h|h
  ·exact h
  ·rw[List.getElem?_eq_none h] at hp;cases hp
 unfold aC_
 rw[List.getElem?_zip_eq_some]
 refine⟨hp,?_⟩
 by_cases h1:k+1<l.length
 ·rw[Nat.mod_eq_of_lt h1] at hq
  rw[List.getElem?_append_left (by rw[List.length_drop];omega),List.getElem?_drop,Nat.add_comm]
  exact hq
 ·have e:k+1=l.length:=by omega
  rw[e,Nat.mod_self] at hq
  rw[List.getElem?_append_right (by rw[List.length_drop];omega),List.length_drop,List.getElem?_take_of_lt (by omega)]
  rw[show k-(l.length-1)=0 by omega]
  exact hq
theorem jV_ {l:List Pl} {e:Pl×Pl} (h:e∈aC_ l):e.1∈l∧e.2∈l:=by
 have:=List.of_mem_zip h
 refine⟨this.1,?_⟩
 rcases List.mem_append.1 this.2 with h|h
 ·exact List.mem_of_mem_drop h
 ·exact List.mem_of_mem_take h
def cM_ (l:List Pl) (hv:∀p∈l,vP p=true):List PE:=(aC_ l).pmap (fun e h=>⟨e,h⟩) fun _ he=>⟨hv _ (jV_ he).1,hv _ (jV_ he).2⟩
theorem aBA (l:List Pl) (hv:∀p∈l,vP p=true):(cM_ l hv).map (·.1)=aC_ l:=by
 unfold cM_
 rw[List.map_pmap]
 simp
theorem jE_ (l:List Pl) (hv:∀p∈l,vP p=true):(cM_ l hv).length=l.length:=by
 unfold cM_
 rw[List.length_pmap,jF_]
theorem aGR {l:List Pl} {hv:∀p∈l,vP p=true} {k:Nat} {p q:Pl} (hp:l[k]?=some p) (hq:l[(k+1)%l.length]?=some q) :
  (cM_ l hv)[k]?=some ⟨(p,q),hv p (List.mem_of_getElem? hp),hv q (List.mem_of_getElem? hq)⟩:=by
 have h:=aGT hp hq
 unfold cM_
 rw[List.getElem?_pmap]
 simp[h]
theorem fT_ {B:Nat} {a w:World} (h:Below B a w) (k:Nat):Below B a (w.drewN k):=⟨h.os,h.tape,h.output,h.size,h.block⟩
theorem aGU (F:Fence) (n:Nat) (h8:F.fn 135) (hro:F.round=none) (hn:1≤n) (l Bs n₀ B cap N:Nat) (ps:List Pl) (hv:∀p∈ps,vP p=true) (hl:ps.length=N) (hN:N≤1000000) (hB:B<n₀) (J Jx:List PE→World→Prop)
  (hJ:∀(s:List PE) (A C:World),J s A→Below A.heap.size A C→J s C)
  (hY:∀pre x W,J pre W→pre.length<N→YieldAt F (n-1) Tryz.prog l (aLJ x) W fun e W'=>
   (e=.returned (.bool true)∧J (pre++[x]) W'∧aX_ n₀ Bs W W')∨(e=.returned (.bool false)∧Jx (pre++[x]) W'))
  (W:World) (hBs:W.cell? ⟨Bs,0,none⟩=some (.slice (some ⟨B,0,none⟩) N cap)) (hb:n₀≤W.heap.size) (hb2:Bs<W.heap.size) (hP:PsAt B ps W) (h0:J [] W) :
  CallsIn F n Tryz.prog 135 #[.func (.yield l) #[] #[],.pointer (some ⟨Bs,0,none⟩)] W fun e W'=>(∃v,e=.returned v)∧
   (J (cM_ ps hv) W'∨(∃k,k≤N∧Jx ((cM_ ps hv).take k) W')):=by
 have HL:=hid hl
 have HP:=hid hP
 have HJ:=hid hJ
 clear hP hl hJ
 refine callsIn_of_wp Tryz.func135 rfl h8 ?_ hro
 simp only[Tryz.ntmps135,List.size_toArray,List.length_cons,List.length_nil,Nat.reduceAdd,Nat.reduceSub,Array.replicate_succ,Array.replicate_zero,List.push_toArray,List.append_toArray,List.nil_append,List.cons_append]
 gi_wp2
 gi_loopw [7] (fun i wr=>∃k:Nat,k≤N∧i=.int .i64 (k:Int)∧J ((cM_ ps hv).take k) wr∧aX_ n₀ Bs W wr∧W.heap.size≤wr.heap.size)
  (fun i _=>N-(intOf i).toNat)
 case atStart=>exact⟨0,Nat.zero_le _,rfl,h0,aX_.refl _ _ _,Nat.le_refl _⟩
 case round=>
  obtain⟨k,hk,rfl,hJs,hnx,hsz⟩:=hrel
  by_cases hlt:k<N
  ·obtain⟨m,hm⟩:∃m,m=(k+1)%N:=⟨_,rfl⟩
   have hmN:m<N:=by rw[hm];exact Nat.mod_lt _ (by omega)
   obtain⟨p,hp⟩:∃p,ps[k]?=some p:=⟨ps[k]'(by have:=HL.out;omega),List.getElem?_eq_getElem _⟩
   obtain⟨q,hq⟩:∃q,ps[m]?=some q:=⟨ps[m]'(by have:=HL.out;omega),List.getElem?_eq_getElem _⟩
   have hcB:=(hnx.cell 0).trans hBs
   have kc:∀o,wr.cell? ⟨B,o,none⟩=W.cell? ⟨B,o,none⟩:=fun o=>hnx.1.cell (p:=⟨B,o,none⟩) hB
   have c0:=(kc (k*2)).trans (HP.out.row k p hp).1
   have c1:=(kc (k*2+1)).trans (HP.out.row k p hp).2
   have d0:=(kc (m*2)).trans (HP.out.row m q hq).1
   have d1:=(kc (m*2+1)).trans (HP.out.row m q hq).2
   have hrem:((k:Int)+1).tmod (N:Int)=(m:Int):=by rw[hm];rfl
   have hw1:IntKind.i64.wrap ((k:Int)+1)=(k:Int)+1:=IntWalk.i64_in _ (by omega)
   have hN0:¬N=0:=by omega
   have s1:B<wr.heap.size:=by omega
   have s2:Bs<wr.heap.size:=by omega
   have HX:=hid hnx
   have HJs:=hid hJs
   have hvp:=hv p (List.mem_of_getElem? hp)
   have hvq:=hv q (List.mem_of_getElem? hq)
   have HH:=hid (show(cM_ ps hv).take (k+1)=(cM_ ps hv).take k++[⟨(p,q),hvp,hvq⟩] by rw[List.take_add_one,aGR hp (by rw[HL.out,←hm];exact hq)];rfl)
   clear hm hp hq kc hnx hJs
   have hmx:Tryz.prog.follows .mixedOrders=true:=by kernel_rfl
   gi_wp2
   refine gF_ (A:=?fr) 10 hro hmx (by kernel_rfl) ?h ?ht
   case h=>
    simp only[List.take_succ_cons,List.take_zero]
    repeat (gi_big_quiet_step (fail))
    refine wpQuietIn_nil ?_
    rfl
   case ht=>
    intro nq
    simp only[List.drop_succ_cons,List.drop_zero]
    have HJ2:=hid (show J ((cM_ ps hv).take k) ((wr.alloc (.cells #[.int .i64 p.x,.int .i64 p.y] 26)).drewN nq) from(HJ.out _ _ _ HJs.out (fT_ ((Below.refl _ _).alloc (Nat.le_refl _) _) nq)))
    have HK0:=hid (show aX_ n₀ Bs W ((wr.alloc (.cells #[.int .i64 p.x,.int .i64 p.y] 26)).drewN nq) from HX.out.trans (aX_.of_below (fT_ ((Below.refl wr.heap.size wr).alloc (Nat.le_refl _) _) nq) (by omega) s2))
    obtain⟨fn,tmps,assign,body,hy,hR⟩:=hY _ ⟨(p,q),hvp,hvq⟩ _ HJ2.out (by rw[List.length_take,jE_,HL.out];omega)
    simp only[aLJ] at hy
    gi_wp2
    refine hR.mono ?_
    rintro e W3 (⟨rfl,hJ3,hk3⟩|⟨rfl,hJx3⟩)
    ·have HN:=hid (show ∃k':Nat,k'≤N∧Value.int .i64 ((k:Int)+1)=.int .i64 (k':Int)∧J ((cM_ ps hv).take k') W3∧aX_ n₀ Bs W W3∧W.heap.size≤W3.heap.size from⟨k+1,by omega,rfl,by rw[HH.out];exact hJ3,HK0.out.trans hk3,(HK0.out.trans hk3).1.size⟩)
     clear hJ3 hk3
     gi_wp2
     go_roundw
     case rel=>exact HN.out
     case measure=>simp only[intOf];omega
    ·have HN:=hid (show Jx ((cM_ ps hv).take (k+1)) W3 from by rw[HH.out];exact hJx3)
     clear hJx3
     gi_wp2
     refine bodyPost_ret (results_none rfl _ _ _) rfl ?_
     exact⟨⟨_,rfl⟩,.inr ⟨k+1,by omega,HN.out⟩⟩
  ·obtain rfl:k=N:=by omega
   have HE:=hid (show J (cM_ ps hv) wr from by have:=hJs;rwa[show(cM_ ps hv).take k=cM_ ps hv by rw[List.take_of_length_le (by rw[jE_,HL.out];omega)]] at this)
   clear hJs
   gi_wp2
   go_end0
   exact⟨⟨_,rfl⟩,.inl HE.out⟩
theorem aLI (F:Fence) (n:Nat) (h6:F.fn 82) (hro:F.round=none) (a:Option Addr) (len cap:Nat) (w:World) :
  CallsIn F n Tryz.prog 82 #[.slice a len cap] w fun e w'=>e=.returned (.func (.func 135) #[] #[.pointer (some ⟨w.heap.size,0,none⟩)])∧w.alloc (.cells #[.slice a len cap] 27)=w':=by
 refine callsIn_of_wp Tryz.func82 rfl h6 ?_ hro
 simp only[Tryz.ntmps82,List.size_toArray,List.length_cons,List.length_nil,Nat.reduceAdd,Nat.reduceSub,Array.replicate_succ,Array.replicate_zero,List.push_toArray,List.append_toArray,List.nil_append,List.cons_append]
 gi_wp2
 go_ret
 exact⟨rfl,rfl⟩
theorem vX_ (F:Fence) (n:Nat) (h8:F.fn 135) (hro:F.round=none) (hn:1≤n) (Bs n₀ B cap N:Nat) (ps:List Pl) (hv:∀p∈ps,vP p=true) (hl:ps.length=N) (hN:N≤1000000) (hB:B<n₀) (w:World) (hBs:w.cell? ⟨Bs,0,none⟩=some (.slice (some ⟨B,0,none⟩) N cap)) (hb:n₀≤w.heap.size) (hb2:Bs<w.heap.size) (hP:PsAt B ps w) :
  SeqStopsK F n Tryz.prog 135 #[.pointer (some ⟨Bs,0,none⟩)] aLJ (aX_ n₀ Bs) (fun ys=>ys=cM_ ps hv) (fun pre=>∃k,k≤N∧pre=(cM_ ps hv).take k) N w:=fun l J Jx W hW hJ _ hY h0=>
 (aGU F n h8 hro hn l Bs n₀ B cap N ps hv hl hN hB J Jx
  (fun s A C hA hb=>hJ s A C none hA ⟨hb.os,hb.tape,hb.output,hb.size,fun k hk _=>hb.block k hk⟩ (fun _ e=>by cases e)) hY W ((hW.cell (p:=⟨Bs,0,none⟩) hb2).trans hBs) (Nat.le_trans hb hW.size) (Nat.lt_of_lt_of_le hb2 hW.size) (hP.below hW) h0).mono
  fun _ _ ⟨h1,h2⟩=>⟨h1,h2.elim (fun h=>.inl ⟨_,rfl,h⟩) (fun⟨k,hk,h⟩=>.inr ⟨_,⟨k,hk,rfl⟩,h⟩)⟩
end Go.Proofs.YtlikmmpmnaaifaaGreatDoor
namespace Go.Proofs.YtlikmmpmnaaifaaGreatDoor
structure Sh where
 code:Int
 kind:Int
 rect:Rc
 a:Pl
 b:Pl
 word:ByteArray
structure Fr where
 x:Int
 y:Int
 w:Int
 h:Int
 s:Int
deriving DecidableEq
structure Ik where
 code:Int
 cells:List Int
deriving DecidableEq
def jI_ (n:Int):Bool:=decide (1≤n)&&decide (n≤39999)
def onB (n:Int):Int:=min (max n 0) 4095
def eD_ (s:Sh):Bool:=decide (s.kind=1)||decide (s.kind=3)
def dS_ (p:Pl):List Pl:=boxL (onB (p.x-2)) (onB (p.y-2)) (onB (p.x+2)) (onB (p.y+2))
def gC_ (s:Sh):List Pl:=if eD_ s then dS_ s.a++dS_ s.b else boxL s.rect.x s.rect.y (s.rect.x+s.rect.w) (s.rect.y+s.rect.h)
def okSh (s:Sh):Bool:=jI_ s.code&&vRc s.rect&&(!eD_ s||(vP s.a&&vP s.b))
def outL (s:Sh):List Pl:=aO_ (gC_ s)
theorem uL_ {x0 y0 x1 y1:Int} (h0:0≤x0∧x0≤4095) (h1:0≤y0∧y0≤4095) (h2:0≤x1∧x1≤4095) (h3:0≤y1∧y1≤4095):∀p∈boxL x0 y0 x1 y1,vP p=true:=by
 intro p hp
 simp only[boxL,List.mem_cons,List.not_mem_nil,or_false] at hp
 rcases hp with rfl|rfl|rfl|rfl <;> refine bL_.2 ?_ <;> simp only <;> omega
theorem aKF (n:Int):0≤onB n∧onB n≤4095:=by unfold onB;omega
theorem mB_ (p:Pl):∀q∈dS_ p,vP q=true:=uL_ (aKF _) (aKF _) (aKF _) (aKF _)
theorem pG_ {s:Sh} (h:okSh s=true):∀p∈gC_ s,vP p=true:=by
 unfold okSh at h
 simp only[Bool.and_eq_true] at h
 have v:=aV_.1 h.1.2
 unfold gC_
 split
 ·intro p hp
  rcases List.mem_append.1 hp with hp|hp
  ·exact mB_ _ p hp
  ·exact mB_ _ p hp
 ·exact uL_ (by omega) (by omega) (by omega) (by omega)
theorem rC_ (s:Sh):4≤(gC_ s).length∧(gC_ s).length≤8:=by
 unfold gC_
 split
 ·simp[dS_,boxL]
 ·simp[boxL]
theorem aLQ {s:Sh} (h:okSh s=true):fewB (gC_ s)=true:=by
 have:=rC_ s
 unfold fewB
 simp only[Bool.and_eq_true,decide_eq_true_eq]
 exact⟨⟨by omega,by omega⟩,List.all_eq_true.2 (pG_ h)⟩
structure Outl (l:List Pl):Prop where
 valid:∀p∈l,vP p=true
 idem:aO_ l=l
 few:fewB l=true
 ne:l≠[]
 len:l.length≤8
theorem Outl.of {l:List Pl} (hv:∀p∈l,vP p=true) (h0:l≠[]) (hl:l.length≤8):Outl (aO_ l):=by
 have hl':=aLA hv
 have hne:=aPB hv h0
 have hp:=List.length_pos_iff.2 hne
 refine⟨jT_ hv,aFV hv,?_,hne,by omega⟩
 unfold fewB
 simp only[Bool.and_eq_true,decide_eq_true_eq]
 exact⟨⟨by omega,by omega⟩,List.all_eq_true.2 (jT_ hv)⟩
theorem jQ_ {s:Sh} (h:okSh s=true):Outl (outL s):=
 Outl.of (pG_ h) (by have:=rC_ s;intro e;rw[e] at this;simp at this) (rC_ s).2
theorem Outl.edge {l:List Pl} (_h:Outl l):∀e∈aC_ l,e.1∈l∧e.2∈l:=fun _ he=>jV_ he
theorem jW_ {l:List Pl} (i:Nat) (e:Pl×Pl) (h:(aC_ l)[i]?=some e):l[i]?=some e.1:=by
 unfold aC_ at h
 exact((List.getElem?_zip_eq_some (z:=e)).1 h).1
theorem Outl.range {l:List Pl} (h:Outl l) {r:Rc} (hr:vRc r=true):0≤aL_ l r∧aL_ l r≤(r.w:Rat)*r.h:=by
 have:=aAS h.valid (by rw[h.idem];exact h.ne) (by rw[h.idem];exact h.edge) (by rw[h.idem];exact jW_) hr
 rw[h.idem] at this
 exact⟨this.1,this.2.2⟩
theorem Outl.some {l:List Pl} (h:Outl l) {r:Rc} (hr:vRc r=true):bT_ l r=Option.some (aL_ l r):=
 wC_ h.valid h.idem hr (by have:=h.len;omega) h.edge jW_ (jF_ l)
theorem aDC {r:Rc} (hr:vRc r=true) {D:Nat} : ∀l:List (Pl×Pl),(∀e∈l,2*wE r e∣D)→dI D (sumE (covK r) l)
 | [],_=>dI.int D 0
 | e::l,h=>by
  unfold sumE
  exact((aHN (a:=e.1) (b:=e.2) hr).dvd (h e (by simp))).add (aDC hr l fun x hx=>h x (by simp[hx]))
theorem Outl.bd {l:List Pl} (h:Outl l) {r:Rc} (hr:vRc r=true):bdR (4095*4095*(2*(2*4095*4095)^8)) (2*(2*4095*4095)^8) (aL_ l r):=by
 have hc:=tZ_ h.valid (by rw[h.idem];exact h.edge) (by rw[h.idem];exact jW_) r
 rw[h.idem] at hc
 have hp:=qE_ (r:=r) (l:=aC_ l) fun e he=>⟨h.valid _ (h.edge e he).1,h.valid _ (h.edge e he).2⟩
 have hq:=Nat.mul_le_mul_left 2 (Nat.le_trans hp (Nat.pow_le_pow_right (show 0<2*4095*4095 by decide) hc))
 have hd:=aDC hr (D:=2*sW_ r (aC_ l)) (aC_ l) fun e he=>Nat.mul_dvd_mul_left 2 (aCJ he)
 obtain⟨r1,r2⟩:=h.range hr
 have v:=aV_.1 hr
 have w1:=aE_ (show r.w≤4095 by omega)
 have w2:=aE_ (show r.h≤4095 by omega)
 have w3:=aE_ (show 0≤r.w by omega)
 have w4:=aE_ (show 0≤r.h by omega)
 have m1:=Rat.mul_nonneg w3 (show 0≤(4095:Int)-(r.h:Rat) by grind)
 have m2:=Rat.mul_nonneg (show(0:Rat)≤(4095:Int) by decide) (show 0≤(4095:Int)-(r.w:Rat) by grind)
 have e1:((4095*4095:Nat):Rat)=((4095:Int):Rat)*((4095:Int):Rat):=by decide +kernel
 refine(hd.bd (Nat.mul_pos (by decide) (mL_ r _)) (M:=4095*4095) ?_ ?_).mono (Nat.mul_le_mul_left _ hq) hq
 ·rw[e1]
  show -(((4095:Int):Rat)*((4095:Int):Rat))≤aL_ l r
  have:(0:Rat)≤((4095:Int):Rat)*((4095:Int):Rat):=by decide +kernel
  grind
 ·rw[e1]
  show aL_ l r≤_
  grind
def frB (f:Fr):Bool:=(decide (1≤f.s)&&decide (f.s≤256))&&(decide (1≤f.w)&&decide (f.w≤400))&&(decide (1≤f.h)&&decide (f.h≤400/f.w))&&(decide (0≤f.x)&&decide (f.x≤4095-f.w*f.s))&&(decide (0≤f.y)&&decide (f.y≤4095-f.h*f.s))
structure FrOk (f:Fr):Prop where
 s1:1≤f.s
 s2:f.s≤256
 w1:1≤f.w
 w2:f.w≤400
 h1:1≤f.h
 hh:f.w*f.h≤400
 x1:0≤f.x
 x2:f.x+f.w*f.s≤4095
 y1:0≤f.y
 y2:f.y+f.h*f.s≤4095
theorem nG_ {f:Fr} : frB f=true↔FrOk f:=by
 unfold frB
 simp only[Bool.and_eq_true,decide_eq_true_eq]
 constructor
 ·rintro⟨⟨⟨⟨⟨a1,a2⟩,b1,b2⟩,c1,c2⟩,d1,d2⟩,e1,e2⟩
  exact⟨a1,a2,b1,b2,c1,by have:=(Int.le_ediv_iff_mul_le (show 0<f.w by omega)).1 c2;rw[Int.mul_comm];exact this,d1,by omega,e1,by omega⟩
 ·rintro⟨a1,a2,b1,b2,c1,c2,d1,d2,e1,e2⟩
  exact⟨⟨⟨⟨⟨a1,a2⟩,b1,b2⟩,c1,(Int.le_ediv_iff_mul_le (show 0<f.w by omega)).2 (by rw[Int.mul_comm];exact c2)⟩,d1,by omega⟩,e1,by omega⟩
def npx (f:Fr):Nat:=f.w.toNat*f.h.toNat
def pixR (f:Fr) (n:Nat):Rc:=⟨f.x+((n%f.w.toNat:Nat):Int)*f.s,f.y+((n/f.w.toNat:Nat):Int)*f.s,f.s,f.s⟩
theorem mU_ {f:Fr} (h:FrOk f):((npx f:Nat):Int)=f.w*f.h:=by
 unfold npx
 have:=h.w1
 have:=h.h1
 rw[Int.natCast_mul,Int.toNat_of_nonneg (by omega),Int.toNat_of_nonneg (by omega)]
theorem qP_ {f:Fr} (h:FrOk f):1≤npx f∧npx f≤400:=by
 have e:=mU_ h
 have:=h.hh
 have:=Int.mul_pos (show 0<f.w by have:=h.w1;omega) (show 0<f.h by have:=h.h1;omega)
 omega
theorem aEJ {f:Fr} (h:FrOk f) {n:Nat} (hn:n<npx f):n%f.w.toNat<f.w.toNat∧n/f.w.toNat<f.h.toNat:=by
 have:=h.w1
 refine⟨Nat.mod_lt _ (by omega),?_⟩
 rw[Nat.div_lt_iff_lt_mul (by omega),Nat.mul_comm]
 exact hn
theorem gK_ {f:Fr} (h:FrOk f) {n:Nat} (hn:n<npx f):vRc (pixR f n)=true:=by
 obtain⟨c1,c2⟩:=aEJ h hn
 have w:=h.w1
 have hh:=h.h1
 have s:=h.s1
 have x1:=h.x1;have x2:=h.x2;have y1:=h.y1;have y2:=h.y2;have s2:=h.s2
 have m1:=Int.mul_le_mul_of_nonneg_right (show((n%f.w.toNat:Nat):Int)+1≤f.w by omega) (show 0≤f.s by omega)
 have m2:=Int.mul_le_mul_of_nonneg_right (show((n/f.w.toNat:Nat):Int)+1≤f.h by omega) (show 0≤f.s by omega)
 have m3:=Int.mul_nonneg (Int.natCast_nonneg (n%f.w.toNat)) (show 0≤f.s by omega)
 have m4:=Int.mul_nonneg (Int.natCast_nonneg (n/f.w.toNat)) (show 0≤f.s by omega)
 rw[Int.add_mul,Int.one_mul] at m1 m2
 refine aV_.2 ?_
 unfold pixR
 simp only
 generalize n%f.w.toNat=p at *
 generalize n/f.w.toNat=q at *
 generalize (p:Int)*f.s=ps at *
 generalize (q:Int)*f.s=qs at *
 omega
theorem aMY {n:Int} (h1:1≤n) (h2:n≤65536):bE_ 4096 n=some ((4096:Rat)/(n:Rat))∧bdR 4096 65536 ((4096:Rat)/(n:Rat)):=by
 have e:bE_ 4096 n=some ((4096:Rat)/(n:Rat)):=by
  unfold bE_
  rw[if_neg (by omega),Rat.divInt_eq_div]
  rfl
 refine⟨e,?_⟩
 have:=fC_ (n:=4096) (d:=n) (A:=4096) (P:=65536) (by omega) (by decide) (by omega)
 rw[Rat.divInt_eq_div] at this
 exact this
theorem aIA {l:List Pl} (h:Outl l) {r:Rc} (hr:vRc r=true) (hw:1≤r.w*r.h) (hw2:r.w*r.h≤65536) :
  0≤aS_ l r∧aS_ l r≤4096∧∃q:Rat,cD_ mulR (bT_ l r) (bE_ 4096 (r.w*r.h))=some q∧fN_ q∧hG_ q 0=some ((aS_ l r:Int):Rat):=by
 obtain⟨p1,p2⟩:=aMY hw hw2
 obtain⟨r1,r2⟩:=h.range hr
 have hb:=h.bd hr
 have hm:=aFA hb p2 (by decide) (by decide)
 have hn:=Rat.intCast_lt_intCast.2 (show 0<r.w*r.h by omega)
 have hn':(0:Rat)<((r.w*r.h:Int):Rat):=hn
 have hq0:0≤aL_ l r*((4096:Rat)/((r.w*r.h:Int):Rat)):=Rat.mul_nonneg r1 (iY_ hn' (by grind))
 have hq1:aL_ l r*((4096:Rat)/((r.w*r.h:Int):Rat))≤4096:=by
  have e:aL_ l r*((4096:Rat)/((r.w*r.h:Int):Rat))=(aL_ l r*4096)/((r.w*r.h:Int):Rat):=by grind
  rw[e]
  refine nK_ hn' ?_
  rw[Rat.intCast_mul]
  grind
 have f0:0≤aS_ l r:=Rat.le_floor_iff.2 (by simpa using hq0)
 have f1:aS_ l r≤4096:=by
  have h1:=Rat.floor_le (aL_ l r*((4096:Rat)/((r.w*r.h:Int):Rat)))
  have h2:((aS_ l r:Int):Rat)≤((4096:Int):Rat):=Rat.le_trans h1 hq1
  exact Rat.intCast_le_intCast.1 h2
 refine⟨f0,f1,aL_ l r*((4096:Rat)/((r.w*r.h:Int):Rat)),?_,?_,?_⟩
 ·rw[h.some hr,p1]
  exact hm.1
 ·have hb2:=hm.2
  exact⟨bC_ hb2.1 (by decide),bC_ (k:=2*(2*4095*4095)^8*65536) (by have:=hb2.2;simpa using this) (by decide)⟩
 ·have hb2:=hm.2
  have e:hG_ (aL_ l r*((4096:Rat)/((r.w*r.h:Int):Rat))) 0=bE_ ((aL_ l r*((4096:Rat)/((r.w*r.h:Int):Rat))).num/(aL_ l r*((4096:Rat)/((r.w*r.h:Int):Rat))).den) 1:=by
   unfold hG_
   rw[Int.pow_zero,Int.mul_one,if_pos (bC_ hb2.1 (by decide))]
  rw[e,←jD_]
  exact bR_ _
theorem aHZ {n:Int} (h0:0≤n) (h1:n≤4096):qN (some (n:Rat))=str n∧small n=true∧aFP n=true:=
 ⟨rfl,bC_ (k:=4096) (by omega) (by decide),decide_eq_true (by omega)⟩
def inkL (f:Fr) (l:List Pl):List Int:=(List.range (npx f)).map fun n=>aS_ l (pixR f n)
def sumL (l:List Int):Int:=l.foldl (· + ·) 0
def inkO (f:Fr) (s:Sh):Option Ik:=if 0<sumL (inkL f (outL s)) then some ⟨s.code,inkL f (outL s)⟩ else none
def aF_ (f:Fr) (ss:List Sh):List Ik:=ss.filterMap (inkO f)
theorem eG_ {f:Fr} (h:FrOk f) (n:Nat):1≤(pixR f n).w*(pixR f n).h∧(pixR f n).w*(pixR f n).h≤65536:=by
 have s1:=h.s1
 have s2:=h.s2
 have m1:=Int.mul_pos (show 0<f.s by omega) (show 0<f.s by omega)
 have m2:=Int.mul_le_mul s2 s2 (by omega) (by omega)
 show 1≤f.s*f.s∧f.s*f.s≤65536
 omega
theorem tM_ {f:Fr} (h:FrOk f) {l:List Pl} (hl:Outl l):∀c∈inkL f l,0≤c∧c≤4096:=by
 intro c hc
 obtain⟨n,hn,rfl⟩:=List.mem_map.1 hc
 have:=aIA hl (gK_ h (List.mem_range.1 hn)) (eG_ h n).1 (eG_ h n).2
 exact⟨this.1,this.2.1⟩
theorem lG_:∀(l:List Int) (c:Int),l.foldl (· + ·) c=c+sumL l
 | [],c=>by unfold sumL;simp
 | x::l,c=>by
  show l.foldl (· + ·) (c+x)=c+(l.foldl (· + ·) (0+x))
  rw[lG_ l (c+x),lG_ l (0+x)]
  omega
theorem gG_ (x:Int) (l:List Int):sumL (x::l)=x+sumL l:=by
 show l.foldl (· + ·) (0+x)=_
 rw[lG_]
 omega
theorem hS_ (l m:List Int):sumL (l++m)=sumL l+sumL m:=by
 unfold sumL
 rw[List.foldl_append,lG_ m]
 rfl
theorem aDA (l:List Int) (x:Int):sumL (l++[x])=sumL l+x:=by
 unfold sumL
 rw[List.foldl_append]
 rfl
theorem sJ_ {M:Int} : ∀l:List Int,(∀c∈l,0≤c∧c≤M)→0≤sumL l∧sumL l≤M*(l.length:Int)
 | [],_=>⟨by decide,by simp[sumL]⟩
 | x::l,h=>by
  have h1:=h x (by simp)
  have h2:=sJ_ l fun c hc=>h c (by simp[hc])
  rw[gG_,List.length_cons,Int.natCast_add,Int.mul_add]
  constructor <;> omega
theorem iI_ {l:List Int} (h:∀c∈l,0≤c):0<sumL l↔∃c∈l,0<c:=by
 induction l with
 | nil=>simp[sumL]
 | cons x l ih=>
  have h1:=h x (by simp)
  have h2:=ih fun c hc=>h c (by simp[hc])
  have h3:0≤sumL l:=by
   clear h2 ih h1
   induction l with
   | nil=>exact Int.le_refl 0
   | cons y l ih=>
    rw[gG_]
    have:=h y (by simp)
    have:=ih fun c hc=>h c (by rcases List.mem_cons.1 hc with e|e <;> simp[e])
    omega
  rw[gG_]
  constructor
  ·intro hp
   by_cases hx:0<x
   ·exact⟨x,by simp,hx⟩
   ·obtain⟨c,hc,k⟩:=h2.1 (by omega)
    exact⟨c,by simp[hc],k⟩
  ·rintro⟨c,hc,k⟩
   rcases List.mem_cons.1 hc with rfl|hc
   ·omega
   ·have:=h2.2 ⟨c,hc,k⟩
    omega
theorem iB_ (f:Fr) (l:List Pl):(inkL f l).length=npx f:=by unfold inkL;simp
theorem aFN (f:Fr) (l:List Pl) {n:Nat} (h:n<npx f):(inkL f l)[n]?=some (aS_ l (pixR f n)):=by
 unfold inkL
 rw[List.getElem?_map,List.getElem?_range h]
 rfl
theorem aJS:aF_ ⟨0,0,4,4,8⟩ [⟨1,2,⟨0,0,16,8⟩,⟨0,0⟩,⟨0,0⟩,⟨#[]⟩⟩,⟨2,2,⟨4,0,4,4⟩,⟨0,0⟩,⟨0,0⟩,⟨#[]⟩⟩,⟨3,1,⟨0,0,0,0⟩,⟨16,20⟩,⟨24,20⟩,⟨#[]⟩⟩]=[⟨1,[4096,4096,0,0,0,0,0,0,0,0,0,0,0,0,0,0]⟩,⟨2,[1024,0,0,0,0,0,0,0,0,0,0,0,0,0,0,0]⟩,⟨3,[0,0,0,0,0,0,0,0,0,512,2048,512,0,0,0,0]⟩]:=by decide +kernel
theorem aJR:aO_ (gC_ ⟨3,1,⟨0,0,0,0⟩,⟨16,20⟩,⟨24,20⟩,⟨#[]⟩⟩)=[⟨14,18⟩,⟨26,18⟩,⟨26,22⟩,⟨14,22⟩]:=by decide +kernel
end Go.Proofs.YtlikmmpmnaaifaaGreatDoor
namespace Go.Proofs.YtlikmmpmnaaifaaGreatDoor
open Go.RowKit Go.Shelf Go.Sort
attribute [local go_sem] Oper.semAt_some
theorem eV_ {n lo hi:Int} (h1:lo≤n) (h2:n≤hi) (w:World) :
  Calls Tryz.prog 119 #[.int .i64 n,.int .i64 lo,.int .i64 hi] w fun e w'=>e=.returned (.bool true)∧Below w.heap.size w w':=by
 go_enter Tryz.func119,Tryz.ntmps119
 go_wp2
 go_ret
 exact⟨rfl,Below.refl _ _⟩
theorem aAC {n lo hi:Int} (h:n<lo∨hi<n) (w:World) :
  Calls Tryz.prog 119 #[.int .i64 n,.int .i64 lo,.int .i64 hi] w fun e w'=>e=.returned (.bool false)∧Below w.heap.size w w':=by
 by_cases h1:lo≤n
 ·have h2:hi<n:=by omega
  have h3:decide (n≤hi)=false:=decide_eq_false (by omega)
  clear h
  go_enter Tryz.func119,Tryz.ntmps119
  go_wp2
  go_ret
  exact⟨rfl,Below.refl _ _⟩
 ·have h3:decide (lo≤n)=false:=decide_eq_false h1
  clear h
  go_enter Tryz.func119,Tryz.ntmps119
  go_wp2
  go_ret
  exact⟨rfl,Below.refl _ _⟩
theorem pin_s (n lo hi:Int) (w:World) :
  Calls Tryz.prog 119 #[.int .i64 n,.int .i64 lo,.int .i64 hi] w fun e w'=>e=.returned (.bool (decide (lo≤n)&&decide (n≤hi)))∧Below w.heap.size w w':=by
 by_cases h:lo≤n∧n≤hi
 ·rw[decide_eq_true h.1,decide_eq_true h.2]
  exact eV_ h.1 h.2 w
 ·rw[show(decide (lo≤n)&&decide (n≤hi))=false by simp only[Bool.and_eq_false_iff,decide_eq_false_iff_not];omega]
  exact aAC (by omega) w
theorem yN_ (n:Int) (w:World):Calls Tryz.prog 115 #[.int .i64 n] w fun e w'=>e=.returned (.bool (jI_ n))∧Below w.heap.size w w':=by
 have K:=hid (fun W=>pin_s n 1 39999 W)
 unfold jI_
 generalize (decide (1≤n)&&decide (n≤39999))=b at K⊢
 go_enter Tryz.func115,Tryz.ntmps115
 go_wp2_with (go_at_call 119;(with_reducible refine(K.out _).mono ?_);rintro e w1 ⟨rfl,hb⟩;have HB:=hid hb;clear hb)
 go_ret
 exact⟨rfl,HB.out⟩
theorem iV_ (n:Int) (w:World):Calls Tryz.prog 117 #[.int .i64 n] w fun e w'=>e=.returned (.int .i64 (onB n))∧Below w.heap.size w w':=by
 go_enter Tryz.func117,Tryz.ntmps117
 go_wp2
 go_ret
 exact⟨rfl,Below.refl _ _⟩
theorem xP_ (l t r b:Int) (w:World):Calls Tryz.prog 116 #[.int .i64 l,.int .i64 t,.int .i64 r,.int .i64 b] w fun e w'=>e=.returned (.slice (some ⟨w.heap.size,0,none⟩) 4 4)∧w'=w.alloc (.cells (plC (boxL l t r b)).toArray 26):=by
 go_enter Tryz.func116,Tryz.ntmps116
 go_wp2
 go_ret
 exact⟨rfl,rfl⟩
theorem sum1_s (a b:Int) (h : -9223372036854775808≤a+b∧a+b≤9223372036854775807) (w:World):Calls Tryz.prog 166 #[.int .i64 a,.int .i64 b] w fun e w'=>e=.returned (.int .i64 (a+b))∧Below w.heap.size w w':=by
 have hw:=IntWalk.i64_in (a+b) (by omega)
 go_enter Tryz.func166,Tryz.ntmps166
 go_wp2
 go_ret
 exact⟨rfl,Below.refl _ _⟩
theorem aCZ {l:List Int} {k:Nat} {x:Int} (h:l[k]?=some x):sumL (l.take (k+1))=sumL (l.take k)+x:=by
 rw[List.take_add_one,h]
 exact aDA _ _
theorem take_b {l:List Int} {M:Int} (h:∀c∈l,0≤c∧c≤M) (hl:l.length≤1000000) (hM:M≤1000000) (k:Nat):0≤sumL (l.take k)∧sumL (l.take k)≤1000000000000:=by
 have h1:=sJ_ (l.take k) fun c hc=>h c (List.mem_of_mem_take hc)
 have h2:(l.take k).length≤1000000:=by rw[List.length_take];omega
 have h3:=Int.mul_le_mul hM (show((l.take k).length:Int)≤1000000 by omega) (by omega) (by omega)
 omega
theorem fold_s {a:Option Addr} {cap n:Nat} {l:List Int} (hl:l.length=n) (hn:n≤1000000) (hb:∀c∈l,0≤c∧c≤4096) (w:World) (h:CsAt a (icC l) w) :
  Calls Tryz.prog 165 #[.slice a n cap,.int .i64 0,.func (.func 166) #[] #[]] w fun e w'=>e=.returned (.int .i64 (sumL l))∧Below w.heap.size w w':=by
 have HL:=hid hl
 have HP:=hid h
 have HS:=hid (take_b hb (by omega) (by decide))
 have HB:=hid hb
 clear hl h hb
 go_enter Tryz.func165,Tryz.ntmps165
 go_wp2
 go_loopw [1,11] (fun v1 v11 wr=>∃k:Nat,k≤n∧v11=.int .i64 (k:Int)∧v1=.int .i64 (sumL (l.take k))∧Below w.heap.size w wr) (fun _ v11 _=>n-(intOf v11).toNat)
 case atStart=>exact⟨0,Nat.zero_le _,rfl,rfl,Below.refl _ _⟩
 case round=>
  obtain⟨k,hk,rfl,rfl,hb⟩:=hrel
  have HK:=hid hb
  clear hb
  by_cases hlt:k<n
  ·obtain⟨x,hx⟩:∃x,l[k]?=some x:=⟨l[k]'(by have:=HL.out;omega),List.getElem?_eq_getElem _⟩
   obtain⟨b,o,rfl,hbk,c0⟩:=(HP.out.below HK.out).row k _ (fZ_ hx)
   have HT:=hid (aCZ hx)
   have h1:=HS.out (k+1)
   rw[HT.out] at h1
   have K:=hid (fun W=>sum1_s (sumL (l.take k)) x (by omega) W)
   clear hx h1
   generalize sumL (l.take k)=s at K HT
   obtain⟨s2,hs2⟩:∃s2,s2=s+x:=⟨_,rfl⟩
   rw[←hs2] at K HT
   clear hs2
   go_wp2_with (go_at_call 166;(with_reducible refine(K.out _).mono ?_);rintro e w1 ⟨rfl,hb⟩;have H1:=hid (HK.out.trans (hb.mono HK.out.size));clear hb)
   exact⟨⟨k+1,by omega,by go_num,by rw[HT.out],H1.out⟩,by simp only[intOf];omega⟩
  ·obtain rfl:k=n:=by omega
   have HE:=hid (show sumL (l.take k)=sumL l by rw[List.take_of_length_le (by have:=HL.out;omega)])
   rw[HE.out]
   go_wp2
   go_ret
   exact⟨rfl,HK.out⟩
theorem aJD {a:Option Addr} {cap n:Nat} {l:List Int} (hl:l.length=n) (hn:n≤1000000) (hb:∀c∈l,0≤c∧c≤4096) (w:World) (h:CsAt a (icC l) w) :
  Calls Tryz.prog 107 #[.slice a n cap] w fun e w'=>e=.returned (.int .i64 (sumL l))∧Below w.heap.size w w':=by
 have K:=hid (fold_s (cap:=cap) hl hn hb w h)
 clear hl hb h
 go_enter Tryz.func107,Tryz.ntmps107
 go_wp2_with (go_at_call 165;(with_reducible refine K.out.mono ?_);rintro e w1 ⟨rfl,hb⟩;have H1:=hid hb;clear hb)
 go_ret
 exact⟨rfl,H1.out⟩
theorem aGE {s w h:Int} (h0:1≤s∧s≤256) (h1:1≤w∧w≤400) (h2:1≤h∧h≤400/w):(0≤w*s∧w*s≤102400)∧(0≤h*s∧h*s≤102400):=by
 have hh:h≤400:=by have:=Int.ediv_le_self (a:=400) w (by decide);omega
 exact⟨⟨Int.mul_nonneg (by omega) (by omega),by have:=Int.mul_le_mul h1.2 h0.2 (by omega) (by omega);omega⟩,⟨Int.mul_nonneg (by omega) (by omega),by have:=Int.mul_le_mul hh h0.2 (by omega) (by omega);omega⟩⟩
theorem qW_ (f:Fr) (a:Option Addr) (n c:Nat) (w:World) :
  Calls Tryz.prog 104 #[.agg #[.int .i64 f.x,.int .i64 f.y,.int .i64 f.w,.int .i64 f.h,.int .i64 f.s,.slice a n c]] w fun e w'=>e=.returned (.bool (frB f))∧Below w.heap.size w w':=by
 by_cases h0:1≤f.s∧f.s≤256
 case neg=>
  have k0:=hid (fun W=>aAC (n:=f.s) (lo:=1) (hi:=256) (by omega) W)
  rw[show frB f=false from by rw[Bool.eq_false_iff];intro hf;unfold frB at hf;simp only[Bool.and_eq_true,decide_eq_true_eq] at hf;omega]
  clear h0
  go_enter Tryz.func104,Tryz.ntmps104
  go_wp2
  obtain⟨W0,hW0⟩:∃W0,W0=w.alloc (.cells #[.int .i64 f.x,.int .i64 f.y,.int .i64 f.w,.int .i64 f.h,.int .i64 f.s,.slice a n c] 58):=⟨_,rfl⟩
  have H1:=hid (show AzAt [(w.heap.size,[.int .i64 f.x,.int .i64 f.y,.int .i64 f.w,.int .i64 f.h,.int .i64 f.s,.slice a n c])] w W0 from by rw[hW0];exact(AzAt.start w).push [.int .i64 f.x,.int .i64 f.y,.int .i64 f.w,.int .i64 f.h,.int .i64 f.s,.slice a n c] 58)
  rw[←hW0]
  clear hW0
  have h_:=H1.out.at (B:=w.heap.size) (l:=[.int .i64 f.x,.int .i64 f.y,.int .i64 f.w,.int .i64 f.h,.int .i64 f.s,.slice a n c]) (by simp)
  have x0:=cell_regrown (h_.row 0 _ rfl)
  have x1:=cell_regrown (h_.row 1 _ rfl)
  have x2:=cell_regrown (h_.row 2 _ rfl)
  have x3:=cell_regrown (h_.row 3 _ rfl)
  have x4:=cell_regrown (h_.row 4 _ rfl)
  clear h_
  have c0:=fun d os=>Calls.regrown_of (d:=d) (os:=os) (k0.out (grow (redrawn W0 d) os))
  refine wp_region_quiet_below (by kernel_rfl) (by kernel_rfl) ?_
  repeat (go_big_quiet_step (with_reducible first|exact c0 _ _))
  refine wpQuiet_nil ?_
  intro W2 hw2
  have hb2:Below W0.heap.size W0 W2:=by obtain⟨⟨dq,osq⟩,hw7⟩:=hw2;rw[hw7];exact below_regrown W0 dq osq
  have H2:=hid (H1.out.below hb2)
  clear hw2 hb2 x0 x1 x2 x3 x4 c0
  have h_:=H2.out.at (B:=w.heap.size) (l:=[.int .i64 f.x,.int .i64 f.y,.int .i64 f.w,.int .i64 f.h,.int .i64 f.s,.slice a n c]) (by simp)
  have x0:=h_.row 0 _ rfl
  have x1:=h_.row 1 _ rfl
  have x2:=h_.row 2 _ rfl
  have x3:=h_.row 3 _ rfl
  have x4:=h_.row 4 _ rfl
  clear h_
  go_wp2
  go_ret
  exact⟨rfl,H2.out.bw⟩
 by_cases h1:1≤f.w∧f.w≤400
 case neg=>
  have k0:=hid (fun W=>eV_ (n:=f.s) (lo:=1) (hi:=256) h0.1 h0.2 W)
  have k1:=hid (fun W=>aAC (n:=f.w) (lo:=1) (hi:=400) (by omega) W)
  rw[show frB f=false from by rw[Bool.eq_false_iff];intro hf;unfold frB at hf;simp only[Bool.and_eq_true,decide_eq_true_eq] at hf;omega]
  clear h0 h1
  go_enter Tryz.func104,Tryz.ntmps104
  go_wp2
  obtain⟨W0,hW0⟩:∃W0,W0=w.alloc (.cells #[.int .i64 f.x,.int .i64 f.y,.int .i64 f.w,.int .i64 f.h,.int .i64 f.s,.slice a n c] 58):=⟨_,rfl⟩
  have H1:=hid (show AzAt [(w.heap.size,[.int .i64 f.x,.int .i64 f.y,.int .i64 f.w,.int .i64 f.h,.int .i64 f.s,.slice a n c])] w W0 from by rw[hW0];exact(AzAt.start w).push [.int .i64 f.x,.int .i64 f.y,.int .i64 f.w,.int .i64 f.h,.int .i64 f.s,.slice a n c] 58)
  rw[←hW0]
  clear hW0
  have h_:=H1.out.at (B:=w.heap.size) (l:=[.int .i64 f.x,.int .i64 f.y,.int .i64 f.w,.int .i64 f.h,.int .i64 f.s,.slice a n c]) (by simp)
  have x0:=cell_regrown (h_.row 0 _ rfl)
  have x1:=cell_regrown (h_.row 1 _ rfl)
  have x2:=cell_regrown (h_.row 2 _ rfl)
  have x3:=cell_regrown (h_.row 3 _ rfl)
  have x4:=cell_regrown (h_.row 4 _ rfl)
  clear h_
  have c0:=fun d os=>Calls.regrown_of (d:=d) (os:=os) (k0.out (grow (redrawn W0 d) os))
  have c1:=fun d os=>Calls.regrown_of (d:=d) (os:=os) (k1.out (grow (redrawn W0 d) os))
  refine wp_region_quiet_below (by kernel_rfl) (by kernel_rfl) ?_
  repeat (go_big_quiet_step (with_reducible first|exact c0 _ _|exact c1 _ _))
  refine wpQuiet_nil ?_
  intro W2 hw2
  have hb2:Below W0.heap.size W0 W2:=by obtain⟨⟨dq,osq⟩,hw7⟩:=hw2;rw[hw7];exact below_regrown W0 dq osq
  have H2:=hid (H1.out.below hb2)
  clear hw2 hb2 x0 x1 x2 x3 x4 c0 c1
  have h_:=H2.out.at (B:=w.heap.size) (l:=[.int .i64 f.x,.int .i64 f.y,.int .i64 f.w,.int .i64 f.h,.int .i64 f.s,.slice a n c]) (by simp)
  have x0:=h_.row 0 _ rfl
  have x1:=h_.row 1 _ rfl
  have x2:=h_.row 2 _ rfl
  have x3:=h_.row 3 _ rfl
  have x4:=h_.row 4 _ rfl
  clear h_
  go_wp2
  go_ret
  exact⟨rfl,H2.out.bw⟩
 by_cases h2:1≤f.h∧f.h≤400/f.w
 case neg=>
  have k0:=hid (fun W=>eV_ (n:=f.s) (lo:=1) (hi:=256) h0.1 h0.2 W)
  have k1:=hid (fun W=>eV_ (n:=f.w) (lo:=1) (hi:=400) h1.1 h1.2 W)
  have k2:=hid (fun W=>aAC (n:=f.h) (lo:=1) (hi:=400/f.w) (by omega) W)
  rw[show frB f=false from by rw[Bool.eq_false_iff];intro hf;unfold frB at hf;simp only[Bool.and_eq_true,decide_eq_true_eq] at hf;omega]
  obtain⟨q2,e2⟩:∃q2,q2=400/f.w:=⟨_,rfl⟩
  have g1:¬f.w=0:=by omega
  have g2:Int.tdiv 400 f.w=q2:=by rw[e2];exact Int.tdiv_eq_ediv_of_nonneg (by decide)
  have g3:IntKind.i64.wrap q2=q2:=IntWalk.i64_in _ (by have:=Int.ediv_nonneg (a:=400) (b:=f.w) (by decide) (by omega);have:=Int.ediv_le_self (a:=400) f.w (by decide);omega)
  rw[←e2] at k2
  clear h0 h1 h2 e2
  go_enter Tryz.func104,Tryz.ntmps104
  go_wp2
  obtain⟨W0,hW0⟩:∃W0,W0=w.alloc (.cells #[.int .i64 f.x,.int .i64 f.y,.int .i64 f.w,.int .i64 f.h,.int .i64 f.s,.slice a n c] 58):=⟨_,rfl⟩
  have H1:=hid (show AzAt [(w.heap.size,[.int .i64 f.x,.int .i64 f.y,.int .i64 f.w,.int .i64 f.h,.int .i64 f.s,.slice a n c])] w W0 from by rw[hW0];exact(AzAt.start w).push [.int .i64 f.x,.int .i64 f.y,.int .i64 f.w,.int .i64 f.h,.int .i64 f.s,.slice a n c] 58)
  rw[←hW0]
  clear hW0
  have h_:=H1.out.at (B:=w.heap.size) (l:=[.int .i64 f.x,.int .i64 f.y,.int .i64 f.w,.int .i64 f.h,.int .i64 f.s,.slice a n c]) (by simp)
  have x0:=cell_regrown (h_.row 0 _ rfl)
  have x1:=cell_regrown (h_.row 1 _ rfl)
  have x2:=cell_regrown (h_.row 2 _ rfl)
  have x3:=cell_regrown (h_.row 3 _ rfl)
  have x4:=cell_regrown (h_.row 4 _ rfl)
  clear h_
  have c0:=fun d os=>Calls.regrown_of (d:=d) (os:=os) (k0.out (grow (redrawn W0 d) os))
  have c1:=fun d os=>Calls.regrown_of (d:=d) (os:=os) (k1.out (grow (redrawn W0 d) os))
  have c2:=fun d os=>Calls.regrown_of (d:=d) (os:=os) (k2.out (grow (redrawn W0 d) os))
  refine wp_region_quiet_below (by kernel_rfl) (by kernel_rfl) ?_
  repeat (go_big_quiet_step (with_reducible first|exact c0 _ _|exact c1 _ _|exact c2 _ _))
  refine wpQuiet_nil ?_
  intro W2 hw2
  have hb2:Below W0.heap.size W0 W2:=by obtain⟨⟨dq,osq⟩,hw7⟩:=hw2;rw[hw7];exact below_regrown W0 dq osq
  have H2:=hid (H1.out.below hb2)
  clear hw2 hb2 x0 x1 x2 x3 x4 c0 c1 c2
  have h_:=H2.out.at (B:=w.heap.size) (l:=[.int .i64 f.x,.int .i64 f.y,.int .i64 f.w,.int .i64 f.h,.int .i64 f.s,.slice a n c]) (by simp)
  have x0:=h_.row 0 _ rfl
  have x1:=h_.row 1 _ rfl
  have x2:=h_.row 2 _ rfl
  have x3:=h_.row 3 _ rfl
  have x4:=h_.row 4 _ rfl
  clear h_
  go_wp2
  go_ret
  exact⟨rfl,H2.out.bw⟩
 by_cases h3:0≤f.x∧f.x≤4095-f.w*f.s
 case neg=>
  have k0:=hid (fun W=>eV_ (n:=f.s) (lo:=1) (hi:=256) h0.1 h0.2 W)
  have k1:=hid (fun W=>eV_ (n:=f.w) (lo:=1) (hi:=400) h1.1 h1.2 W)
  have k2:=hid (fun W=>eV_ (n:=f.h) (lo:=1) (hi:=400/f.w) h2.1 h2.2 W)
  have k3:=hid (fun W=>aAC (n:=f.x) (lo:=0) (hi:=4095-f.w*f.s) (by omega) W)
  rw[show frB f=false from by rw[Bool.eq_false_iff];intro hf;unfold frB at hf;simp only[Bool.and_eq_true,decide_eq_true_eq] at hf;omega]
  obtain⟨q2,e2⟩:∃q2,q2=400/f.w:=⟨_,rfl⟩
  have g1:¬f.w=0:=by omega
  have g2:Int.tdiv 400 f.w=q2:=by rw[e2];exact Int.tdiv_eq_ediv_of_nonneg (by decide)
  have g3:IntKind.i64.wrap q2=q2:=IntWalk.i64_in _ (by have:=Int.ediv_nonneg (a:=400) (b:=f.w) (by decide) (by omega);have:=Int.ediv_le_self (a:=400) f.w (by decide);omega)
  rw[←e2] at k2
  have m1:=aGE h0 h1 h2
  obtain⟨q3,e3⟩:∃q3,q3=f.w*f.s:=⟨_,rfl⟩
  have g4:IntKind.i64.wrap (f.w*f.s)=q3:=by rw[e3];exact IntWalk.i64_in _ (by omega)
  have g5:IntKind.i64.wrap (4095-q3)=4095-q3:=IntWalk.i64_in _ (by omega)
  rw[←e3] at k3
  clear h0 h1 h2 h3 m1 e3 e2
  go_enter Tryz.func104,Tryz.ntmps104
  go_wp2
  obtain⟨W0,hW0⟩:∃W0,W0=w.alloc (.cells #[.int .i64 f.x,.int .i64 f.y,.int .i64 f.w,.int .i64 f.h,.int .i64 f.s,.slice a n c] 58):=⟨_,rfl⟩
  have H1:=hid (show AzAt [(w.heap.size,[.int .i64 f.x,.int .i64 f.y,.int .i64 f.w,.int .i64 f.h,.int .i64 f.s,.slice a n c])] w W0 from by rw[hW0];exact(AzAt.start w).push [.int .i64 f.x,.int .i64 f.y,.int .i64 f.w,.int .i64 f.h,.int .i64 f.s,.slice a n c] 58)
  rw[←hW0]
  clear hW0
  have h_:=H1.out.at (B:=w.heap.size) (l:=[.int .i64 f.x,.int .i64 f.y,.int .i64 f.w,.int .i64 f.h,.int .i64 f.s,.slice a n c]) (by simp)
  have x0:=cell_regrown (h_.row 0 _ rfl)
  have x1:=cell_regrown (h_.row 1 _ rfl)
  have x2:=cell_regrown (h_.row 2 _ rfl)
  have x3:=cell_regrown (h_.row 3 _ rfl)
  have x4:=cell_regrown (h_.row 4 _ rfl)
  clear h_
  have c0:=fun d os=>Calls.regrown_of (d:=d) (os:=os) (k0.out (grow (redrawn W0 d) os))
  have c1:=fun d os=>Calls.regrown_of (d:=d) (os:=os) (k1.out (grow (redrawn W0 d) os))
  have c2:=fun d os=>Calls.regrown_of (d:=d) (os:=os) (k2.out (grow (redrawn W0 d) os))
  refine wp_region_quiet_below (by kernel_rfl) (by kernel_rfl) ?_
  repeat (go_big_quiet_step (with_reducible first|exact c0 _ _|exact c1 _ _|exact c2 _ _))
  refine wpQuiet_nil ?_
  intro W2 hw2
  have hb2:Below W0.heap.size W0 W2:=by obtain⟨⟨dq,osq⟩,hw7⟩:=hw2;rw[hw7];exact below_regrown W0 dq osq
  have H2:=hid (H1.out.below hb2)
  clear hw2 hb2 x0 x1 x2 x3 x4 c0 c1 c2
  have h_:=H2.out.at (B:=w.heap.size) (l:=[.int .i64 f.x,.int .i64 f.y,.int .i64 f.w,.int .i64 f.h,.int .i64 f.s,.slice a n c]) (by simp)
  have x0:=h_.row 0 _ rfl
  have x1:=h_.row 1 _ rfl
  have x2:=h_.row 2 _ rfl
  have x3:=h_.row 3 _ rfl
  have x4:=h_.row 4 _ rfl
  clear h_
  go_wp2_with (first
   | (go_at_call 119;(with_reducible refine(k3.out _).mono ?_);rintro e w3 ⟨rfl,hb⟩;have H3:=hid (H2.out.below hb);clear hb x0 x1 x2 x3 x4;have h_:=H3.out.at (B:=w.heap.size) (l:=[.int .i64 f.x,.int .i64 f.y,.int .i64 f.w,.int .i64 f.h,.int .i64 f.s,.slice a n c]) (by simp);have x1:=h_.row 1 _ rfl;have x3:=h_.row 3 _ rfl;have x4:=h_.row 4 _ rfl;clear h_)
   | fail)
  go_ret
  exact⟨rfl,H3.out.bw⟩
 by_cases h4:0≤f.y∧f.y≤4095-f.h*f.s
 case neg=>
  have k0:=hid (fun W=>eV_ (n:=f.s) (lo:=1) (hi:=256) h0.1 h0.2 W)
  have k1:=hid (fun W=>eV_ (n:=f.w) (lo:=1) (hi:=400) h1.1 h1.2 W)
  have k2:=hid (fun W=>eV_ (n:=f.h) (lo:=1) (hi:=400/f.w) h2.1 h2.2 W)
  have k3:=hid (fun W=>eV_ (n:=f.x) (lo:=0) (hi:=4095-f.w*f.s) h3.1 h3.2 W)
  have k4:=hid (fun W=>aAC (n:=f.y) (lo:=0) (hi:=4095-f.h*f.s) (by omega) W)
  rw[show frB f=false from by rw[Bool.eq_false_iff];intro hf;unfold frB at hf;simp only[Bool.and_eq_true,decide_eq_true_eq] at hf;omega]
  obtain⟨q2,e2⟩:∃q2,q2=400/f.w:=⟨_,rfl⟩
  have g1:¬f.w=0:=by omega
  have g2:Int.tdiv 400 f.w=q2:=by rw[e2];exact Int.tdiv_eq_ediv_of_nonneg (by decide)
  have g3:IntKind.i64.wrap q2=q2:=IntWalk.i64_in _ (by have:=Int.ediv_nonneg (a:=400) (b:=f.w) (by decide) (by omega);have:=Int.ediv_le_self (a:=400) f.w (by decide);omega)
  rw[←e2] at k2
  have m1:=aGE h0 h1 h2
  obtain⟨q3,e3⟩:∃q3,q3=f.w*f.s:=⟨_,rfl⟩
  have g4:IntKind.i64.wrap (f.w*f.s)=q3:=by rw[e3];exact IntWalk.i64_in _ (by omega)
  have g5:IntKind.i64.wrap (4095-q3)=4095-q3:=IntWalk.i64_in _ (by omega)
  rw[←e3] at k3
  obtain⟨q4,e4⟩:∃q4,q4=f.h*f.s:=⟨_,rfl⟩
  have g6:IntKind.i64.wrap (f.h*f.s)=q4:=by rw[e4];exact IntWalk.i64_in _ (by omega)
  have g7:IntKind.i64.wrap (4095-q4)=4095-q4:=IntWalk.i64_in _ (by omega)
  rw[←e4] at k4
  clear h0 h1 h2 h3 h4 m1 e3 e2 e4
  go_enter Tryz.func104,Tryz.ntmps104
  go_wp2
  obtain⟨W0,hW0⟩:∃W0,W0=w.alloc (.cells #[.int .i64 f.x,.int .i64 f.y,.int .i64 f.w,.int .i64 f.h,.int .i64 f.s,.slice a n c] 58):=⟨_,rfl⟩
  have H1:=hid (show AzAt [(w.heap.size,[.int .i64 f.x,.int .i64 f.y,.int .i64 f.w,.int .i64 f.h,.int .i64 f.s,.slice a n c])] w W0 from by rw[hW0];exact(AzAt.start w).push [.int .i64 f.x,.int .i64 f.y,.int .i64 f.w,.int .i64 f.h,.int .i64 f.s,.slice a n c] 58)
  rw[←hW0]
  clear hW0
  have h_:=H1.out.at (B:=w.heap.size) (l:=[.int .i64 f.x,.int .i64 f.y,.int .i64 f.w,.int .i64 f.h,.int .i64 f.s,.slice a n c]) (by simp)
  have x0:=cell_regrown (h_.row 0 _ rfl)
  have x1:=cell_regrown (h_.row 1 _ rfl)
  have x2:=cell_regrown (h_.row 2 _ rfl)
  have x3:=cell_regrown (h_.row 3 _ rfl)
  have x4:=cell_regrown (h_.row 4 _ rfl)
  clear h_
  have c0:=fun d os=>Calls.regrown_of (d:=d) (os:=os) (k0.out (grow (redrawn W0 d) os))
  have c1:=fun d os=>Calls.regrown_of (d:=d) (os:=os) (k1.out (grow (redrawn W0 d) os))
  have c2:=fun d os=>Calls.regrown_of (d:=d) (os:=os) (k2.out (grow (redrawn W0 d) os))
  refine wp_region_quiet_below (by kernel_rfl) (by kernel_rfl) ?_
  repeat (go_big_quiet_step (with_reducible first|exact c0 _ _|exact c1 _ _|exact c2 _ _))
  refine wpQuiet_nil ?_
  intro W2 hw2
  have hb2:Below W0.heap.size W0 W2:=by obtain⟨⟨dq,osq⟩,hw7⟩:=hw2;rw[hw7];exact below_regrown W0 dq osq
  have H2:=hid (H1.out.below hb2)
  clear hw2 hb2 x0 x1 x2 x3 x4 c0 c1 c2
  have h_:=H2.out.at (B:=w.heap.size) (l:=[.int .i64 f.x,.int .i64 f.y,.int .i64 f.w,.int .i64 f.h,.int .i64 f.s,.slice a n c]) (by simp)
  have x0:=h_.row 0 _ rfl
  have x1:=h_.row 1 _ rfl
  have x2:=h_.row 2 _ rfl
  have x3:=h_.row 3 _ rfl
  have x4:=h_.row 4 _ rfl
  clear h_
  go_wp2_with (first
   | (go_at_call 119;(with_reducible refine(k3.out _).mono ?_);rintro e w3 ⟨rfl,hb⟩;have H3:=hid (H2.out.below hb);clear hb x0 x1 x2 x3 x4;have h_:=H3.out.at (B:=w.heap.size) (l:=[.int .i64 f.x,.int .i64 f.y,.int .i64 f.w,.int .i64 f.h,.int .i64 f.s,.slice a n c]) (by simp);have x1:=h_.row 1 _ rfl;have x3:=h_.row 3 _ rfl;have x4:=h_.row 4 _ rfl;clear h_)
   | (go_at_call 119;(with_reducible refine(k4.out _).mono ?_);rintro e w4 ⟨rfl,hb⟩;have H4:=hid (H3.out.below hb);clear hb)
   | fail)
  go_ret
  exact⟨rfl,H4.out.bw⟩
 have k0:=hid (fun W=>eV_ (n:=f.s) (lo:=1) (hi:=256) h0.1 h0.2 W)
 have k1:=hid (fun W=>eV_ (n:=f.w) (lo:=1) (hi:=400) h1.1 h1.2 W)
 have k2:=hid (fun W=>eV_ (n:=f.h) (lo:=1) (hi:=400/f.w) h2.1 h2.2 W)
 have k3:=hid (fun W=>eV_ (n:=f.x) (lo:=0) (hi:=4095-f.w*f.s) h3.1 h3.2 W)
 have k4:=hid (fun W=>eV_ (n:=f.y) (lo:=0) (hi:=4095-f.h*f.s) h4.1 h4.2 W)
 rw[show frB f=true from by unfold frB;rw[decide_eq_true h0.1,decide_eq_true h0.2,decide_eq_true h1.1,decide_eq_true h1.2,decide_eq_true h2.1,decide_eq_true h2.2,decide_eq_true h3.1,decide_eq_true h3.2,decide_eq_true h4.1,decide_eq_true h4.2];rfl]
 obtain⟨q2,e2⟩:∃q2,q2=400/f.w:=⟨_,rfl⟩
 have g1:¬f.w=0:=by omega
 have g2:Int.tdiv 400 f.w=q2:=by rw[e2];exact Int.tdiv_eq_ediv_of_nonneg (by decide)
 have g3:IntKind.i64.wrap q2=q2:=IntWalk.i64_in _ (by have:=Int.ediv_nonneg (a:=400) (b:=f.w) (by decide) (by omega);have:=Int.ediv_le_self (a:=400) f.w (by decide);omega)
 rw[←e2] at k2
 have m1:=aGE h0 h1 h2
 obtain⟨q3,e3⟩:∃q3,q3=f.w*f.s:=⟨_,rfl⟩
 have g4:IntKind.i64.wrap (f.w*f.s)=q3:=by rw[e3];exact IntWalk.i64_in _ (by omega)
 have g5:IntKind.i64.wrap (4095-q3)=4095-q3:=IntWalk.i64_in _ (by omega)
 rw[←e3] at k3
 obtain⟨q4,e4⟩:∃q4,q4=f.h*f.s:=⟨_,rfl⟩
 have g6:IntKind.i64.wrap (f.h*f.s)=q4:=by rw[e4];exact IntWalk.i64_in _ (by omega)
 have g7:IntKind.i64.wrap (4095-q4)=4095-q4:=IntWalk.i64_in _ (by omega)
 rw[←e4] at k4
 clear h0 h1 h2 h3 h4 m1 e3 e2 e4
 go_enter Tryz.func104,Tryz.ntmps104
 go_wp2
 obtain⟨W0,hW0⟩:∃W0,W0=w.alloc (.cells #[.int .i64 f.x,.int .i64 f.y,.int .i64 f.w,.int .i64 f.h,.int .i64 f.s,.slice a n c] 58):=⟨_,rfl⟩
 have H1:=hid (show AzAt [(w.heap.size,[.int .i64 f.x,.int .i64 f.y,.int .i64 f.w,.int .i64 f.h,.int .i64 f.s,.slice a n c])] w W0 from by rw[hW0];exact(AzAt.start w).push [.int .i64 f.x,.int .i64 f.y,.int .i64 f.w,.int .i64 f.h,.int .i64 f.s,.slice a n c] 58)
 rw[←hW0]
 clear hW0
 have h_:=H1.out.at (B:=w.heap.size) (l:=[.int .i64 f.x,.int .i64 f.y,.int .i64 f.w,.int .i64 f.h,.int .i64 f.s,.slice a n c]) (by simp)
 have x0:=cell_regrown (h_.row 0 _ rfl)
 have x1:=cell_regrown (h_.row 1 _ rfl)
 have x2:=cell_regrown (h_.row 2 _ rfl)
 have x3:=cell_regrown (h_.row 3 _ rfl)
 have x4:=cell_regrown (h_.row 4 _ rfl)
 clear h_
 have c0:=fun d os=>Calls.regrown_of (d:=d) (os:=os) (k0.out (grow (redrawn W0 d) os))
 have c1:=fun d os=>Calls.regrown_of (d:=d) (os:=os) (k1.out (grow (redrawn W0 d) os))
 have c2:=fun d os=>Calls.regrown_of (d:=d) (os:=os) (k2.out (grow (redrawn W0 d) os))
 refine wp_region_quiet_below (by kernel_rfl) (by kernel_rfl) ?_
 repeat (go_big_quiet_step (with_reducible first|exact c0 _ _|exact c1 _ _|exact c2 _ _))
 refine wpQuiet_nil ?_
 intro W2 hw2
 have hb2:Below W0.heap.size W0 W2:=by obtain⟨⟨dq,osq⟩,hw7⟩:=hw2;rw[hw7];exact below_regrown W0 dq osq
 have H2:=hid (H1.out.below hb2)
 clear hw2 hb2 x0 x1 x2 x3 x4 c0 c1 c2
 have h_:=H2.out.at (B:=w.heap.size) (l:=[.int .i64 f.x,.int .i64 f.y,.int .i64 f.w,.int .i64 f.h,.int .i64 f.s,.slice a n c]) (by simp)
 have x0:=h_.row 0 _ rfl
 have x1:=h_.row 1 _ rfl
 have x2:=h_.row 2 _ rfl
 have x3:=h_.row 3 _ rfl
 have x4:=h_.row 4 _ rfl
 clear h_
 go_wp2_with (first
  | (go_at_call 119;(with_reducible refine(k3.out _).mono ?_);rintro e w3 ⟨rfl,hb⟩;have H3:=hid (H2.out.below hb);clear hb x0 x1 x2 x3 x4;have h_:=H3.out.at (B:=w.heap.size) (l:=[.int .i64 f.x,.int .i64 f.y,.int .i64 f.w,.int .i64 f.h,.int .i64 f.s,.slice a n c]) (by simp);have x1:=h_.row 1 _ rfl;have x3:=h_.row 3 _ rfl;have x4:=h_.row 4 _ rfl;clear h_)
  | (go_at_call 119;(with_reducible refine(k4.out _).mono ?_);rintro e w4 ⟨rfl,hb⟩;have H4:=hid (H3.out.below hb);clear hb)
  | fail)
 go_ret
 exact⟨rfl,H4.out.bw⟩
end Go.Proofs.YtlikmmpmnaaifaaGreatDoor
namespace Go.Proofs.YtlikmmpmnaaifaaGreatDoor
open Go.RowKit Go.Shelf
attribute [local go_sem] Oper.semAt_some
def frC (f:Fr) (v:Value):List Value:=[.int .i64 f.x,.int .i64 f.y,.int .i64 f.w,.int .i64 f.h,.int .i64 f.s,v]
abbrev PX:={ r:Rc // vRc r=true∧1≤r.w*r.h∧r.w*r.h≤65536 }
def aJT (r:PX):Array Value:=#[.agg #[.int .i64 r.1.x,.int .i64 r.1.y,.int .i64 r.1.w,.int .i64 r.1.h]]
def pixL (f:Fr):List Rc:=(List.range (npx f)).map (pixR f)
def pixP {f:Fr} (hf:FrOk f):List PX:=(List.range (npx f)).pmap (fun n h=>⟨pixR f n,gK_ hf h,(eG_ hf n).1,(eG_ hf n).2⟩) fun _ hn=>List.mem_range.1 hn
theorem dV_ {f:Fr} (hf:FrOk f):(pixP hf).length=npx f:=by unfold pixP;simp
theorem aJY {f:Fr} (hf:FrOk f):(pixP hf).map (·.1)=pixL f:=by
 unfold pixP pixL
 rw[List.map_pmap]
 simp
theorem aEK {f:Fr} (hf:FrOk f) {k:Nat} (h:k<npx f):(pixP hf).take (k+1)=(pixP hf).take k++[⟨pixR f k,gK_ hf h,(eG_ hf k).1,(eG_ hf k).2⟩]:=by
 rw[List.take_add_one]
 congr 1
 unfold pixP
 rw[List.getElem?_pmap]
 simp[List.getElem?_range h]
theorem aAB (F:Fence) (n:Nat) (h8:F.fn 161) (hro:F.round=none) (hn:1≤n) (l Bs n₀:Nat) {f:Fr} (hf:FrOk f) (sv:Value) (J Jx:List PX→World→Prop)
  (hJ:∀(s:List PX) (A C:World),J s A→Below A.heap.size A C→J s C)
  (hY:∀pre x W,J pre W→pre.length<npx f→YieldAt F (n-1) Tryz.prog l (aJT x) W fun e W'=>
   (e=.returned (.bool true)∧J (pre++[x]) W'∧aX_ n₀ Bs W W')∨(e=.returned (.bool false)∧Jx (pre++[x]) W'))
  (W:World) (hBs:∀(i:Nat) (v:Value),(frC f sv)[i]?=some v→W.cell? ⟨Bs,i,none⟩=some v) (hb:n₀≤W.heap.size) (hb2:Bs<W.heap.size) (h0:J [] W) :
  CallsIn F n Tryz.prog 161 #[.func (.yield l) #[] #[],.pointer (some ⟨Bs,0,none⟩)] W fun e W'=>(∃v,e=.returned v)∧
   (J (pixP hf) W'∨(∃k,k≤npx f∧Jx ((pixP hf).take k) W')):=by
 have HC:=hid hBs
 have HJ:=hid hJ
 have x0:=hBs 0 _ rfl
 have x1:=hBs 1 _ rfl
 have x2:=hBs 2 _ rfl
 have x3:=hBs 3 _ rfl
 have x4:=hBs 4 _ rfl
 obtain⟨N,hN⟩:∃N,N=npx f:=⟨_,rfl⟩
 have hNb:1≤N∧N≤400:=by rw[hN];exact qP_ hf
 have hwh:IntKind.i64.wrap (f.w*f.h)=(N:Int):=by rw[IntWalk.i64_in _ (by rw[←mU_ hf];omega),←mU_ hf,hN]
 have HN:=hid hN
 rw[←hN] at hY⊢
 clear hJ hBs hN
 refine callsIn_of_wp Tryz.func161 rfl h8 ?_ hro
 simp only[Tryz.ntmps161,List.size_toArray,List.length_cons,List.length_nil,Nat.reduceAdd,Nat.reduceSub,Array.replicate_succ,Array.replicate_zero,List.push_toArray,List.append_toArray,List.nil_append,List.cons_append]
 gi_wp2
 clear x0 x1 x2 x3 x4
 gi_loopw [9] (fun i wr=>∃k:Nat,k≤N∧i=.int .i64 (k:Int)∧J ((pixP hf).take k) wr∧aX_ n₀ Bs W wr∧W.heap.size≤wr.heap.size)
  (fun i _=>N-(intOf i).toNat)
 case atStart=>exact⟨0,Nat.zero_le _,rfl,h0,aX_.refl _ _ _,Nat.le_refl _⟩
 case round=>
  obtain⟨k,hk,rfl,hJs,hnx,hsz⟩:=hrel
  by_cases hlt:k<N
  ·have hkf:k<npx f:=by rw[←HN.out];exact hlt
   obtain⟨m1,m2⟩:=aEJ hf hkf
   have fw:=hf.w1;have fs:=hf.s1;have fs2:=hf.s2;have fh:=hf.h1;have fx1:=hf.x1;have fx2:=hf.x2;have fy1:=hf.y1;have fy2:=hf.y2
   obtain⟨p,hp⟩:∃p,p=k%f.w.toNat:=⟨_,rfl⟩
   obtain⟨q,hq⟩:∃q,q=k/f.w.toNat:=⟨_,rfl⟩
   have hR:=hid (show pixR f k=⟨f.x+(p:Int)*f.s,f.y+(q:Int)*f.s,f.s,f.s⟩ by unfold pixR;rw[←hp,←hq])
   obtain⟨px,hpx⟩:∃px:PX,px=⟨pixR f k,gK_ hf hkf,(eG_ hf k).1,(eG_ hf k).2⟩:=⟨_,rfl⟩
   have hwn:((f.w.toNat:Nat):Int)=f.w:=Int.toNat_of_nonneg (by omega)
   have hrem:Int.tmod (k:Int) f.w=(p:Int):=by rw[hp,←hwn];rfl
   have hquo:Int.tdiv (k:Int) f.w=(q:Int):=by rw[hq,←hwn];rfl
   have hw0:¬f.w=0:=by omega
   have q1:=Int.mul_le_mul_of_nonneg_right (show(p:Int)+1≤f.w by omega) (show 0≤f.s by omega)
   have q2:=Int.mul_le_mul_of_nonneg_right (show(q:Int)+1≤f.h by omega) (show 0≤f.s by omega)
   have q3:=Int.mul_nonneg (show 0≤(p:Int) by omega) (show 0≤f.s by omega)
   have q4:=Int.mul_nonneg (show 0≤(q:Int) by omega) (show 0≤f.s by omega)
   rw[Int.add_mul,Int.one_mul] at q1 q2
   obtain⟨a,ha⟩:∃a,a=f.x+(p:Int)*f.s:=⟨_,rfl⟩
   obtain⟨b,hb'⟩:∃b,b=f.y+(q:Int)*f.s:=⟨_,rfl⟩
   have g1:IntKind.i64.wrap ((p:Int)*f.s)=(p:Int)*f.s:=IntWalk.i64_in _ (by omega)
   have g2:IntKind.i64.wrap (f.x+(p:Int)*f.s)=a:=by rw[IntWalk.i64_in _ (by omega),ha]
   have g3:IntKind.i64.wrap ((q:Int)*f.s)=(q:Int)*f.s:=IntWalk.i64_in _ (by omega)
   have g4:IntKind.i64.wrap (f.y+(q:Int)*f.s)=b:=by rw[IntWalk.i64_in _ (by omega),hb']
   have g5:IntKind.i64.wrap (p:Int)=(p:Int):=IntWalk.i64_in _ (by have hpk:p≤k:=hp▸Nat.mod_le _ _;omega)
   have g6:IntKind.i64.wrap (q:Int)=(q:Int):=IntWalk.i64_in _ (by have hqk:q≤k:=hq▸Nat.div_le_self _ _;omega)
   rw[←ha,←hb'] at hR
   have kc:∀(i:Nat) (v:Value),(frC f sv)[i]?=some v→wr.cell? ⟨Bs,i,none⟩=some v:=fun i v hv=>(hnx.cell i).trans (HC.out i v hv)
   have x0:=kc 0 _ rfl
   have x1:=kc 1 _ rfl
   have x2:=kc 2 _ rfl
   have x4:=kc 4 _ rfl
   have s2:Bs<wr.heap.size:=by omega
   have HX:=hid hnx
   have HJs:=hid hJs
   have HH:=hid (show(pixP hf).take (k+1)=(pixP hf).take k++[px] by rw[aEK hf hkf,hpx])
   have HPX:=hid (show px.1=⟨a,b,f.s,f.s⟩ by rw[hpx];exact hR.out)
   have HW:=hid (show ∀o,wr.cell? ⟨Bs,o,none⟩=W.cell? ⟨Bs,o,none⟩ from fun o=>hnx.cell o)
   clear hpx hp hq kc hnx hJs m1 m2 q1 q2 q3 q4 ha hb' hR hkf fs fs2 fh fx1 fx2 fy1 fy2 hwn
   have hmx:Tryz.prog.follows .mixedOrders=true:=by kernel_rfl
   gi_wp2
   refine gF_ (A:=?fr) 26 hro hmx (by kernel_rfl) ?h ?ht
   case h=>
    simp only[List.take_succ_cons,List.take_zero]
    repeat (gi_big_quiet_step (fail))
    refine wpQuietIn_nil ?_
    rfl
   case ht=>
    intro nq
    simp only[List.drop_succ_cons,List.drop_zero]
    have HJ2:=hid (show J ((pixP hf).take k) (wr.drewN nq) from HJ.out _ _ _ HJs.out (fT_ (Below.refl _ _) nq))
    have HK0:=hid (show aX_ n₀ Bs W (wr.drewN nq) from HX.out.trans (aX_.of_below (fT_ (Below.refl wr.heap.size wr) nq) (by omega) s2))
    obtain⟨fn,tmps,assign,body,hy,hR⟩:=hY _ px _ HJ2.out (by rw[List.length_take,dV_,←HN.out];omega)
    simp only[aJT,HPX.out] at hy
    gi_wp2
    refine hR.mono ?_
    rintro e W3 (⟨rfl,hJ3,hk3⟩|⟨rfl,hJx3⟩)
    ·have HNX:=hid (show ∃k':Nat,k'≤N∧Value.int .i64 ((k:Int)+1)=.int .i64 (k':Int)∧J ((pixP hf).take k') W3∧aX_ n₀ Bs W W3∧W.heap.size≤W3.heap.size from⟨k+1,by omega,rfl,by rw[HH.out];exact hJ3,HK0.out.trans hk3,(HK0.out.trans hk3).1.size⟩)
     clear hJ3 hk3
     gi_wp2
     go_roundw
     case rel=>exact HNX.out
     case measure=>simp only[intOf];omega
    ·have HNX:=hid (show Jx ((pixP hf).take (k+1)) W3 from by rw[HH.out];exact hJx3)
     clear hJx3
     gi_wp2
     refine bodyPost_ret (results_none rfl _ _ _) rfl ?_
     exact⟨⟨_,rfl⟩,.inr ⟨k+1,by omega,HNX.out⟩⟩
  ·obtain rfl:k=N:=by omega
   have HE:=hid (show J (pixP hf) wr from by have:=hJs;rwa[show(pixP hf).take k=pixP hf by rw[List.take_of_length_le (by rw[dV_,←HN.out];omega)]] at this)
   clear hJs
   gi_wp2
   go_end0
   exact⟨⟨_,rfl⟩,.inl HE.out⟩
theorem aEI (F:Fence) (n:Nat) (h6:F.fn 105) (hro:F.round=none) (f:Fr) (a:Option Addr) (m c:Nat) (w:World) :
  CallsIn F n Tryz.prog 105 #[.agg #[.int .i64 f.x,.int .i64 f.y,.int .i64 f.w,.int .i64 f.h,.int .i64 f.s,.slice a m c]] w fun e w'=>e=.returned (.func (.func 161) #[] #[.pointer (some ⟨w.heap.size,0,none⟩)])∧w.alloc (.cells (frC f (.slice a m c)).toArray 58)=w':=by
 refine callsIn_of_wp Tryz.func105 rfl h6 ?_ hro
 simp only[Tryz.ntmps105,List.size_toArray,List.length_cons,List.length_nil,Nat.reduceAdd,Nat.reduceSub,Array.replicate_succ,Array.replicate_zero,List.push_toArray,List.append_toArray,List.nil_append,List.cons_append]
 gi_wp2
 go_ret
 exact⟨rfl,rfl⟩
theorem sZ_ (F:Fence) (n:Nat) (h8:F.fn 161) (hro:F.round=none) (hn:1≤n) (Bs n₀:Nat) {f:Fr} (hf:FrOk f) (sv:Value) (w:World) (hBs:∀(i:Nat) (v:Value),(frC f sv)[i]?=some v→w.cell? ⟨Bs,i,none⟩=some v) (hb:n₀≤w.heap.size) (hb2:Bs<w.heap.size) :
  SeqStopsK F n Tryz.prog 161 #[.pointer (some ⟨Bs,0,none⟩)] aJT (aX_ n₀ Bs) (fun ys=>ys=pixP hf) (fun pre=>∃k,k≤npx f∧pre=(pixP hf).take k) (npx f) w:=fun l J Jx W hW hJ _ hY h0=>
 (aAB F n h8 hro hn l Bs n₀ hf sv J Jx
  (fun s A C hA hb=>hJ s A C none hA ⟨hb.os,hb.tape,hb.output,hb.size,fun k hk _=>hb.block k hk⟩ (fun _ e=>by cases e)) hY W (fun i v hv=>(hW.cell (p:=⟨Bs,i,none⟩) hb2).trans (hBs i v hv)) (Nat.le_trans hb hW.size) (Nat.lt_of_lt_of_le hb2 hW.size) h0).mono
  fun _ _ ⟨h1,h2⟩=>⟨h1,h2.elim (fun h=>.inl ⟨_,rfl,h⟩) (fun⟨k,hk,h⟩=>.inr ⟨_,⟨k,hk,rfl⟩,h⟩)⟩
end Go.Proofs.YtlikmmpmnaaifaaGreatDoor
namespace Go.Proofs.YtlikmmpmnaaifaaGreatDoor
theorem sI_ (W:Nat) (g:Nat→Nat→Int) (hW:0<W):∀H:Nat,sumL ((List.range (W*H)).map fun n=>g (n%W) (n/W))=sumL ((List.range H).map fun j=>sumL ((List.range W).map fun i=>g i j))
 | 0=>rfl
 | H+1=>by
  rw[Nat.mul_add,Nat.mul_one,List.range_add,List.map_append,hS_,sI_ W g hW H,List.range_succ,List.map_append,hS_]
  congr 1
  rw[List.map_map]
  show _=sumL [_]
  have e:∀z:Int,sumL [z]=z:=fun z=>by simp[sumL]
  rw[e]
  congr 1
  refine List.map_congr_left fun i hi=>?_
  have hi:=List.mem_range.1 hi
  show g ((W*H+i)%W) ((W*H+i)/W)=g i H
  rw[Nat.mul_add_mod,Nat.mod_eq_of_lt hi,Nat.mul_add_div hW,Nat.div_eq_of_lt hi,Nat.add_zero]
theorem lF_ (k:Int) (f:Nat→Int):∀l:List Nat,sumL (l.map fun n=>k*f n)=k*sumL (l.map f)
 | []=>by simp[sumL]
 | x::l=>by rw[List.map_cons,List.map_cons,gG_,gG_,lF_ k f l,Int.mul_add]
theorem aDB (k:Int) (f:Nat→Int) (l:List Nat):sumL (l.map fun n=>f n*k)=sumL (l.map f)*k:=by
 have:=lF_ k f l
 rw[Int.mul_comm,←this]
 congr 1
 exact List.map_congr_left fun n _=>Int.mul_comm _ _
theorem oL_ {f g:Nat→Int} {l:List Nat} (h:∀n∈l,f n=g n):sumL (l.map f)=sumL (l.map g):=by rw[List.map_congr_left h]
theorem aHT {X s:Int} (hs:0≤s) (a b:Int):∀W:Nat,sumL ((List.range W).map fun i:Nat=>clI (X+(i:Int)*s) s b-clI (X+(i:Int)*s) s a)=clI X ((W:Int)*s) b-clI X ((W:Int)*s) a
 | 0=>by simp[sumL,clI];omega
 | W+1=>by
  rw[List.range_succ,List.map_append,hS_,aHT hs a b W]
  have e:∀z:Int,sumL [z]=z:=fun z=>by simp[sumL]
  show _+sumL [_]=_
  rw[e]
  have m:=Int.mul_nonneg (show 0≤(W:Int) by omega) hs
  have e2:((W+1:Nat):Int)*s=(W:Int)*s+s:=by rw[Int.natCast_add,Int.add_mul];simp
  rw[e2]
  dsimp only
  generalize (W:Int)*s=m0 at m⊢
  clear e2 e
  unfold clI
  omega
theorem zB_ {x0 y0 x1 y1:Int} {r:Rc} (h0:0≤x0) (h1:0≤y0) (hx:x0≤x1) (hy:y0≤y1) (h2:x1≤4095) (h3:y1≤4095) (hw:0<r.w) (hh:0<r.h) :
  aS_ (aO_ (boxL x0 y0 x1 y1)) r=4096*((clI r.x r.w x1-clI r.x r.w x0)*(clI r.y r.h y1-clI r.y r.h y0))/(r.w*r.h):=
 aMA (aHG h0 h1 hx hy h2 h3 (by omega)) hw hh
theorem aID {f:Fr} (hf:FrOk f) {K:Int} (hK:K*(f.s*f.s)=4096) {x0 y0 x1 y1:Int} (h0:f.x≤x0) (h1:f.y≤y0) (hx:x0≤x1) (hy:y0≤y1) (h2:x1≤f.x+f.w*f.s) (h3:y1≤f.y+f.h*f.s) :
  sumL (inkL f (aO_ (boxL x0 y0 x1 y1)))=K*((x1-x0)*(y1-y0)):=by
 have s1:=hf.s1;have w1:=hf.w1;have hh1:=hf.h1;have fx1:=hf.x1;have fx2:=hf.x2;have fy1:=hf.y1;have fy2:=hf.y2
 have ss:0<f.s*f.s:=Int.mul_pos (by omega) (by omega)
 have e:∀n∈List.range (npx f),aS_ (aO_ (boxL x0 y0 x1 y1)) (pixR f n)=(fun i j:Nat=>K*((clI (f.x+(i:Int)*f.s) f.s x1-clI (f.x+(i:Int)*f.s) f.s x0)*(clI (f.y+(j:Int)*f.s) f.s y1-clI (f.y+(j:Int)*f.s) f.s y0))) (n%f.w.toNat) (n/f.w.toNat):=fun n _=>by
  rw[zB_ (r:=pixR f n) (by omega) (by omega) hx hy (by omega) (by omega) (by show 0<f.s;omega) (by show 0<f.s;omega)]
  show 4096*(_*_)/(f.s*f.s)=_
  simp only[pixR]
  generalize (clI _ _ x1-clI _ _ x0)*(clI _ _ y1-clI _ _ y0)=z
  rw[←hK,show K*(f.s*f.s)*z=K*z*(f.s*f.s) by grind,Int.mul_ediv_cancel _ (by omega)]
 have hwn:((f.w.toNat:Nat):Int)=f.w:=Int.toNat_of_nonneg (by omega)
 have hhn:((f.h.toNat:Nat):Int)=f.h:=Int.toNat_of_nonneg (by omega)
 have cx:=aHT (X:=f.x) (s:=f.s) (by omega) x0 x1 f.w.toNat
 have cy:=aHT (X:=f.y) (s:=f.s) (by omega) y0 y1 f.h.toNat
 rw[hwn,aLV (by omega) (by omega),aLV (by omega) (by omega)] at cx
 rw[hhn,aLV (by omega) (by omega),aLV (by omega) (by omega)] at cy
 have eg:=sI_ f.w.toNat (fun i j:Nat=>K*((clI (f.x+(i:Int)*f.s) f.s x1-clI (f.x+(i:Int)*f.s) f.s x0)*(clI (f.y+(j:Int)*f.s) f.s y1-clI (f.y+(j:Int)*f.s) f.s y0))) (by omega) f.h.toNat
 refine((oL_ e).trans eg).trans ?_
 have e2:∀j:Nat,sumL ((List.range f.w.toNat).map fun i:Nat=>K*((clI (f.x+(i:Int)*f.s) f.s x1-clI (f.x+(i:Int)*f.s) f.s x0)*(clI (f.y+(j:Int)*f.s) f.s y1-clI (f.y+(j:Int)*f.s) f.s y0)))=K*(x1-x0)*(clI (f.y+(j:Int)*f.s) f.s y1-clI (f.y+(j:Int)*f.s) f.s y0):=fun j=>by
  rw[lF_,aDB,cx]
  grind
 rw[oL_ (fun j _=>e2 j),lF_,cy]
 grind
theorem aNE (u v x0 y0 x1 y1:Int):boxL (x0+u) (y0+v) (x1+u) (y1+v)=(boxL x0 y0 x1 y1).map (shP u v):=rfl
def shS (u v:Int) (s:Sh):Sh:=⟨s.code,s.kind,shR u v s.rect,shP u v s.a,shP u v s.b,s.word⟩
def shF (u v:Int) (f:Fr):Fr:=⟨f.x+u,f.y+v,f.w,f.h,f.s⟩
theorem xK_ {u v:Int} {p:Pl} (h1:2≤p.x∧p.x≤4093) (h2:2≤p.y∧p.y≤4093) (h3:2≤p.x+u∧p.x+u≤4093) (h4:2≤p.y+v∧p.y+v≤4093):dS_ (shP u v p)=(dS_ p).map (shP u v):=by
 unfold dS_
 rw[←aNE]
 simp only[shP]
 have o:∀n:Int,0≤n→n≤4095→onB n=n:=fun n a b=>by unfold onB;omega
 rw[o (p.x+u-2) (by omega) (by omega),o (p.y+v-2) (by omega) (by omega),o (p.x+u+2) (by omega) (by omega),o (p.y+v+2) (by omega) (by omega),o (p.x-2) (by omega) (by omega),o (p.y-2) (by omega) (by omega),o (p.x+2) (by omega) (by omega),o (p.y+2) (by omega) (by omega)]
 rw[show p.x+u-2=p.x-2+u by omega,show p.y+v-2=p.y-2+v by omega,show p.x+u+2=p.x+2+u by omega,show p.y+v+2=p.y+2+v by omega]
def midP (u v:Int) (p:Pl):Prop:=(2≤p.x∧p.x≤4093)∧(2≤p.y∧p.y≤4093)∧(2≤p.x+u∧p.x+u≤4093)∧(2≤p.y+v∧p.y+v≤4093)
theorem aPV {u v:Int} {s:Sh} (ha:midP u v s.a) (hb:midP u v s.b):gC_ (shS u v s)=(gC_ s).map (shP u v):=by
 unfold gC_
 have e:eD_ (shS u v s)=eD_ s:=rfl
 rw[e]
 split
 ·show dS_ (shP u v s.a)++dS_ (shP u v s.b)=_
  rw[xK_ ha.1 ha.2.1 ha.2.2.1 ha.2.2.2,xK_ hb.1 hb.2.1 hb.2.2.1 hb.2.2.2,List.map_append]
 ·show boxL (s.rect.x+u) (s.rect.y+v) (s.rect.x+u+s.rect.w) (s.rect.y+v+s.rect.h)=_
  rw[←aNE,show s.rect.x+u+s.rect.w=s.rect.x+s.rect.w+u by omega,show s.rect.y+v+s.rect.h=s.rect.y+s.rect.h+v by omega]
theorem aOJ (u v:Int) (f:Fr) (n:Nat):pixR (shF u v f) n=shR u v (pixR f n):=by
 unfold pixR shF shR
 simp only[Rc.mk.injEq,and_true]
 omega
theorem ink_sh {u v:Int} {f:Fr} {s:Sh} (ha:midP u v s.a) (hb:midP u v s.b):inkO (shF u v f) (shS u v s)=inkO f s:=by
 have e:inkL (shF u v f) (outL (shS u v s))=inkL f (outL s):=by
  unfold inkL outL
  rw[aPV ha hb,aLB]
  have e2:npx (shF u v f)=npx f:=rfl
  rw[e2]
  refine List.map_congr_left fun n _=>?_
  rw[aOJ,aMC]
 unfold inkO
 rw[e]
 rfl
theorem filter_congr {α β:Type} {f g:α→Option β} : ∀{l:List α},(∀x∈l,f x=g x)→l.filterMap f=l.filterMap g
 | [],_=>rfl
 | x::l,h=>by
  rw[List.filterMap_cons,List.filterMap_cons,h x (by simp),filter_congr fun y hy=>h y (by simp[hy])]
theorem aKB {u v:Int} {f:Fr} {ss:List Sh} (h:∀s∈ss,midP u v s.a∧midP u v s.b):aF_ (shF u v f) (ss.map (shS u v))=aF_ f ss:=by
 unfold aF_
 rw[List.filterMap_map]
 refine filter_congr fun s hs=>?_
 exact ink_sh (h s hs).1 (h s hs).2
theorem aIB {l:List Pl} {x y s t:Int} (hs:0<s) (et:t=aS_ l ⟨x,y,s,s⟩+aS_ l ⟨x+s,y,s,s⟩+aS_ l ⟨x,y+s,s,s⟩+aS_ l ⟨x+s,y+s,s,s⟩) :
  aS_ l ⟨x,y,2*s,2*s⟩=t/4∨aS_ l ⟨x,y,2*s,2*s⟩=t/4+1:=by
 have c1:=aPS l ⟨x,y,2*s,2*s⟩ s (by omega) (by show s≤2*s;omega)
 have c2:=aHE l ⟨x,y,s,2*s⟩ s
 have c3:=aHE l ⟨x+s,y,s,2*s⟩ s
 simp only[show 2*s-s=s by omega] at c1 c2 c3
 have hp:=Rat.intCast_lt_intCast.2 (Int.mul_pos hs hs)
 have hp':(0:Rat)<((s*s:Int):Rat):=hp
 have hq:((2*s*(2*s):Int):Rat)=4*((s*s:Int):Rat):=by
  rw[show 2*s*(2*s)=4*(s*s) by grind,Rat.intCast_mul]
  rfl
 have cell:∀a b:Int,((aS_ l ⟨a,b,s,s⟩:Int):Rat)≤aL_ l ⟨a,b,s,s⟩*(4096/((s*s:Int):Rat))∧aL_ l ⟨a,b,s,s⟩*(4096/((s*s:Int):Rat))<(aS_ l ⟨a,b,s,s⟩:Int)+1:=fun a b=>by
  unfold aS_
  refine⟨Rat.floor_le _,?_⟩
  have:=Rat.lt_floor_add_one (aL_ l ⟨a,b,s,s⟩*(4096/((s*s:Int):Rat)))
  simpa using this
 have a1:=cell x y
 have a2:=cell (x+s) y
 have a3:=cell x (y+s)
 have a4:=cell (x+s) (y+s)
 have big:aL_ l ⟨x,y,2*s,2*s⟩*(4096/((2*s*(2*s):Int):Rat))=(aL_ l ⟨x,y,s,s⟩*(4096/((s*s:Int):Rat))+aL_ l ⟨x+s,y,s,s⟩*(4096/((s*s:Int):Rat))+aL_ l ⟨x,y+s,s,s⟩*(4096/((s*s:Int):Rat))+aL_ l ⟨x+s,y+s,s,s⟩*(4096/((s*s:Int):Rat)))/4:=by
  rw[hq,c1,c2,c3]
  generalize ((s*s:Int):Rat)=d at *
  grind
 have ht:((t:Int):Rat)=((aS_ l ⟨x,y,s,s⟩:Int):Rat)+((aS_ l ⟨x+s,y,s,s⟩:Int):Rat)+((aS_ l ⟨x,y+s,s,s⟩:Int):Rat)+((aS_ l ⟨x+s,y+s,s,s⟩:Int):Rat):=by
  rw[et,Rat.intCast_add,Rat.intCast_add,Rat.intCast_add]
 have b1:=Rat.floor_le (aL_ l ⟨x,y,2*s,2*s⟩*(4096/((2*s*(2*s):Int):Rat)))
 have b2:=Rat.lt_floor_add_one (aL_ l ⟨x,y,2*s,2*s⟩*(4096/((2*s*(2*s):Int):Rat)))
 have eC:aS_ l ⟨x,y,2*s,2*s⟩=(aL_ l ⟨x,y,2*s,2*s⟩*(4096/((2*s*(2*s):Int):Rat))).floor:=rfl
 rw[←eC] at b1 b2
 rw[big] at b1 b2
 clear eC
 generalize aS_ l ⟨x,y,2*s,2*s⟩=C at *
 have k1:((t:Int):Rat)<4*((C:Int):Rat)+4:=by rw[ht];grind
 have k2:4*((C:Int):Rat)<((t:Int):Rat)+4:=by rw[ht];grind
 have k1':t<4*C+4:=by
  have h:((t:Int):Rat)<((4*C+4:Int):Rat):=by rw[Rat.intCast_add,Rat.intCast_mul];exact k1
  exact Rat.intCast_lt_intCast.1 h
 have k2':4*C<t+4:=by
  have h:((4*C:Int):Rat)<((t+4:Int):Rat):=by rw[Rat.intCast_add,Rat.intCast_mul];exact k2
  exact Rat.intCast_lt_intCast.1 h
 omega
theorem yK_ {α:Type} (W:Nat) (g:Nat→Nat→α) (hW:0<W):∀H:Nat,((List.range (W*H)).map fun n=>g (n%W) (n/W))=(List.range H).flatMap fun j=>(List.range W).map fun i=>g i j
 | 0=>rfl
 | H+1=>by
  rw[Nat.mul_add,Nat.mul_one,List.range_add,List.map_append,yK_ W g hW H,List.range_succ,List.flatMap_append,List.map_map]
  congr 1
  rw[List.flatMap_singleton]
  refine List.map_congr_left fun i hi=>?_
  have hi:=List.mem_range.1 hi
  show g ((W*H+i)%W) ((W*H+i)/W)=g i H
  rw[Nat.mul_add_mod,Nat.mod_eq_of_lt hi,Nat.mul_add_div hW,Nat.div_eq_of_lt hi,Nat.add_zero]
def regC (W x y w h:Nat) (cs:List Int):List Int:=(List.range h).flatMap fun j=>(cs.drop ((y+j)*W+x)).take w
def regF (f:Fr) (x y w h:Nat):Fr:=⟨f.x+x*f.s,f.y+y*f.s,w,h,f.s⟩
theorem aBB (n k:Nat):∀w:Nat,k+w≤n→((List.range n).drop k).take w=(List.range w).map (k + ·):=by
 intro w h
 apply List.ext_getElem?
 intro i
 rw[List.getElem?_take,List.getElem?_map]
 by_cases hi:i<w
 ·rw[if_pos hi,List.getElem?_drop,List.getElem?_range (by omega),List.getElem?_range hi]
  rfl
 ·rw[if_neg hi,List.getElem?_eq_none (by simp;omega)]
  rfl
theorem aDR {H W x y w h j:Nat} (hx:x+w≤W) (hy:y+h≤H) (hj:j<h):(y+j)*W+x+w≤W*H:=by
 have:(y+j+1)*W≤H*W:=Nat.mul_le_mul_right _ (by omega)
 rw[Nat.mul_comm W H]
 rw[Nat.add_mul (y+j) 1 W] at this
 omega
theorem aOE {f:Fr} (hf:FrOk f) {x y w h:Nat} (hw:1≤w) (hx:x+w≤f.w.toNat) (hy:y+h≤f.h.toNat) (l:List Pl):regC f.w.toNat x y w h (inkL f l)=inkL (regF f x y w h) l:=by
 have hW:=hf.w1
 have e1:inkL (regF f x y w h) l=(List.range h).flatMap fun j=>(List.range w).map fun i=>aS_ l (pixR f ((y+j)*f.w.toNat+x+i)):=by
  unfold inkL
  have en:npx (regF f x y w h)=w*h:=by unfold npx regF;simp
  rw[en,←yK_ w (fun i j=>aS_ l (pixR f ((y+j)*f.w.toNat+x+i))) (by omega) h]
  refine List.map_congr_left fun n hn=>?_
  congr 1
  have hm:n%w<w:=Nat.mod_lt _ (by omega)
  unfold pixR regF
  simp only[Int.toNat_natCast]
  generalize n%w=p at hm⊢
  generalize n/w=q
  have q1:((y+q)*f.w.toNat+x+p)%f.w.toNat=x+p:=by
   rw[Nat.add_assoc,Nat.mul_comm,Nat.mul_add_mod,Nat.mod_eq_of_lt (by omega)]
  have q2:((y+q)*f.w.toNat+x+p)/f.w.toNat=y+q:=by
   rw[Nat.add_assoc,Nat.mul_comm,Nat.mul_add_div (by omega),Nat.div_eq_of_lt (by omega),Nat.add_zero]
  rw[q1,q2,Int.natCast_add,Int.natCast_add,Int.add_mul,Int.add_mul,Int.add_assoc,Int.add_assoc]
 rw[e1]
 unfold regC
 have hh:∀j∈List.range h,((inkL f l).drop ((y+j)*f.w.toNat+x)).take w=(List.range w).map fun i=>aS_ l (pixR f ((y+j)*f.w.toNat+x+i)):=fun j hj=>by
  unfold inkL
  rw[←List.map_drop,←List.map_take,aBB _ _ _ (by unfold npx;exact aDR hx hy (List.mem_range.1 hj)),List.map_map]
  rfl
 induction h with
 | zero=>rfl
 | succ h ih=>
  rw[List.range_succ,List.flatMap_append,List.flatMap_append]
  have ih':∀j∈List.range h,((inkL f l).drop ((y+j)*f.w.toNat+x)).take w=(List.range w).map fun i=>aS_ l (pixR f ((y+j)*f.w.toNat+x+i)):=fun j hj=>hh j (List.mem_range.2 (by have:=List.mem_range.1 hj;omega))
  congr 1
  ·have:∀(L:List Nat) (A B:Nat→List Int),(∀j∈L,A j=B j)→L.flatMap A=L.flatMap B:=fun L A B hAB=>by
    induction L with
    | nil=>rfl
    | cons a L ihL=>rw[List.flatMap_cons,List.flatMap_cons,hAB a (by simp),ihL fun j hj=>hAB j (by simp[hj])]
   exact this _ _ _ ih'
  ·rw[List.flatMap_singleton,List.flatMap_singleton]
   exact hh h (by simp)
theorem vB_ (W x y w h:Nat) (cs:List Int):∀c∈regC W x y w h cs,c∈cs:=by
 intro c hc
 obtain⟨j,_,hj⟩:=List.mem_flatMap.1 hc
 exact List.mem_of_mem_drop (List.mem_of_mem_take hj)
def regK (W x y w h:Nat) (k:Ik):Option Ik:=if 0<sumL (regC W x y w h k.cells) then some ⟨k.code,regC W x y w h k.cells⟩ else none
theorem aDT {f:Fr} (hf:FrOk f) {x y w h:Nat} (hw:1≤w) (hx:x+w≤f.w.toNat) (hy:y+h≤f.h.toNat) (ss:List Sh) (hs:∀s∈ss,okSh s=true) :
  (aF_ f ss).filterMap (regK f.w.toNat x y w h)=aF_ (regF f x y w h) ss:=by
 unfold aF_
 rw[List.filterMap_filterMap]
 refine filter_congr fun s hm=>?_
 have hl:=jQ_ (hs s hm)
 have e:=aOE hf hw hx hy (outL s)
 have hb:=tM_ hf hl
 unfold inkO
 rw[←e]
 by_cases hp:0<sumL (inkL f (outL s))
 ·rw[if_pos hp]
  rfl
 ·rw[if_neg hp]
  have:¬0<sumL (regC f.w.toNat x y w h (inkL f (outL s))):=fun k=>by
   obtain⟨c,hc,c0⟩:=(iI_ fun c hc=>(hb c (vB_ _ _ _ _ _ _ c hc)).1).1 k
   exact hp ((iI_ fun c hc=>(hb c hc).1).2 ⟨c,vB_ _ _ _ _ _ _ c hc,c0⟩)
  rw[if_neg this]
  rfl
structure Sn where
 kind:Int
 a:Int
 b:Int
 sure:Bool
deriving DecidableEq
def aAI (a b:List Int):Bool:=(a.zip b).any fun e=>decide (0<e.1)&&decide (0<e.2)
def sH_ (a b:List Int):Bool:=(a.zip b).any fun e=>decide (4096<e.1+e.2)
def zP_ (a b:List Int):Bool:=(a.zip b).all fun e=>decide (e.2≤e.1+1)
def rV_ (a b:List Int):Bool:=(a.zip b).all fun e=>decide (e.2=0)||decide (e.1=4096)
def kV_ (i k:Nat) (a b:Ik):List Sn:=
 (if aAI a.cells b.cells=true∧i<k then [⟨1,a.code,b.code,sH_ a.cells b.cells⟩] else [])++(if zP_ a.cells b.cells=true then [⟨2,a.code,b.code,rV_ a.cells b.cells⟩] else [])
def rowL (i:Nat) (a:Ik) (l:List (Ik×Nat)):List Sn:=l.flatMap fun e=>if i=e.2 then [] else kV_ i e.2 a e.1
def eT_ (ks:List Ik):List Sn:=ks.zipIdx.flatMap fun e=>rowL e.2 e.1 ks.zipIdx
theorem eL_ {X W x w:Int} (hW:0≤W) (hw:0≤w):0≤clI X W (x+w)-clI X W x∧clI X W (x+w)-clI X W x≤W:=by unfold clI;omega
theorem lU_ {X W x y:Int} (h:x≤y):clI X W x≤clI X W y:=by unfold clI;omega
theorem aLW {X W x:Int} (hW:0≤W):X≤clI X W x∧clI X W x≤X+W:=by unfold clI;omega
theorem aFH {X W a w b v:Int} (hW:0≤W) (h:W<(clI X W (a+w)-clI X W a)+(clI X W (b+v)-clI X W b)):0<min (a+w) (b+v)-max a b:=by
 have p1:=aLW (X:=X) (x:=a) hW
 have p2:=aLW (X:=X) (x:=b) hW
 have p3:=aLW (X:=X) (x:=a+w) hW
 have p4:=aLW (X:=X) (x:=b+v) hW
 refine Int.not_le.1 fun k=>?_
 have k':a+w≤b∨b+v≤a∨a+w≤a∨b+v≤b:=by omega
 rcases k' with k'|k'|k'|k'
 ·have:=lU_ (X:=X) (W:=W) k'
  omega
 ·have:=lU_ (X:=X) (W:=W) k'
  omega
 ·have:=lU_ (X:=X) (W:=W) k'
  omega
 ·have:=lU_ (X:=X) (W:=W) k'
  omega
theorem kA_ {X W a w y z:Int} (hW:0≤W) (h1:z≤a+w) (h2:z≤X+W) (h3:a≤y) (h4:X≤y) (h:y≤z):z-y≤clI X W (a+w)-clI X W a:=by
 unfold clI
 omega
def ovA (b r:Rc):Int:=(clI r.x r.w (b.x+b.w)-clI r.x r.w b.x)*(clI r.y r.h (b.y+b.h)-clI r.y r.h b.y)
theorem ov_le {b r:Rc} (hb:vRc b=true) (hr:0<r.w∧0<r.h):0≤ovA b r∧ovA b r≤r.w*r.h:=by
 have v:=aV_.1 hb
 have h1:=eL_ (X:=r.x) (W:=r.w) (x:=b.x) (w:=b.w) (by omega) (by omega)
 have h2:=eL_ (X:=r.y) (W:=r.h) (x:=b.y) (w:=b.h) (by omega) (by omega)
 unfold ovA
 exact⟨Int.mul_nonneg h1.1 h2.1,Int.mul_le_mul h1.2 h2.2 h2.1 (by omega)⟩
theorem aPP {z d:Int} (hd:0<d) (h:4096*z/d=4096) (hz:z≤d):z=d:=by
 have h1:=Int.mul_ediv_self_le (x:=4096*z) (k:=d) (by omega)
 rw[h] at h1
 omega
theorem aEQ {a b r:Rc} (ha:vRc a=true) (hb:vRc b=true) (hr:0<r.w∧0<r.h) (h:4096<4096*ovA a r/(r.w*r.h)+4096*ovA b r/(r.w*r.h)) :
  0<min (a.x+a.w) (b.x+b.w)-max a.x b.x∧0<min (a.y+a.h) (b.y+b.h)-max a.y b.y:=by
 have va:=aV_.1 ha
 have vb:=aV_.1 hb
 have hd:=Int.mul_pos hr.1 hr.2
 have d1:=Int.mul_ediv_self_le (x:=4096*ovA a r) (k:=r.w*r.h) (by omega)
 have d2:=Int.mul_ediv_self_le (x:=4096*ovA b r) (k:=r.w*r.h) (by omega)
 have hs:r.w*r.h<ovA a r+ovA b r:=by
  have m:=Int.mul_le_mul_of_nonneg_left (show 4097≤4096*ovA a r/(r.w*r.h)+4096*ovA b r/(r.w*r.h) by omega) (show 0≤r.w*r.h by omega)
  rw[Int.mul_add] at m
  omega
 have a1:=eL_ (X:=r.x) (W:=r.w) (x:=a.x) (w:=a.w) (by omega) (by omega)
 have a2:=eL_ (X:=r.y) (W:=r.h) (x:=a.y) (w:=a.h) (by omega) (by omega)
 have b1:=eL_ (X:=r.x) (W:=r.w) (x:=b.x) (w:=b.w) (by omega) (by omega)
 have b2:=eL_ (X:=r.y) (W:=r.h) (x:=b.y) (w:=b.h) (by omega) (by omega)
 have key1:r.w<(clI r.x r.w (a.x+a.w)-clI r.x r.w a.x)+(clI r.x r.w (b.x+b.w)-clI r.x r.w b.x):=by
  refine Int.not_le.1 fun k=>?_
  have m1:=Int.mul_le_mul_of_nonneg_left a2.2 a1.1
  have m2:=Int.mul_le_mul_of_nonneg_left b2.2 b1.1
  have m3:=Int.mul_le_mul_of_nonneg_right k (show 0≤r.h by omega)
  rw[Int.add_mul] at m3
  unfold ovA at hs
  omega
 have key2:r.h<(clI r.y r.h (a.y+a.h)-clI r.y r.h a.y)+(clI r.y r.h (b.y+b.h)-clI r.y r.h b.y):=by
  refine Int.not_le.1 fun k=>?_
  have m1:=Int.mul_le_mul_of_nonneg_right a1.2 a2.1
  have m2:=Int.mul_le_mul_of_nonneg_right b1.2 b2.1
  have m3:=Int.mul_le_mul_of_nonneg_left k (show 0≤r.w by omega)
  rw[Int.mul_add] at m3
  unfold ovA at hs
  omega
 exact⟨aFH (by omega) key1,aFH (by omega) key2⟩
theorem mR_ {a r:Rc} {w h:Int} (hr:0<r.w∧0<r.h) (hw:0<w) (hh:0<h) (k:r.w*r.h≤w*h*4096) (e1:w≤clI r.x r.w (a.x+a.w)-clI r.x r.w a.x) (e2:h≤clI r.y r.h (a.y+a.h)-clI r.y r.h a.y):1≤4096*ovA a r/(r.w*r.h):=by
 have m:=Int.mul_le_mul e1 e2 (by omega) (by omega)
 refine(Int.le_ediv_iff_mul_le (Int.mul_pos hr.1 hr.2)).2 ?_
 unfold ovA
 omega
theorem aPW {a b r:Rc} (h:dX_ b a=true) (hr:0<r.w∧0<r.h):4096*ovA b r/(r.w*r.h)≤4096*ovA a r/(r.w*r.h):=by
 unfold dX_ at h
 simp only[Bool.and_eq_true,decide_eq_true_eq] at h
 have vb:=aV_.1 h.1.1.1
 have b1:=eL_ (X:=r.x) (W:=r.w) (x:=b.x) (w:=b.w) (by omega) (by omega)
 have b2:=eL_ (X:=r.y) (W:=r.h) (x:=b.y) (w:=b.h) (by omega) (by omega)
 have m1:clI r.x r.w (b.x+b.w)-clI r.x r.w b.x≤clI r.x r.w (a.x+a.w)-clI r.x r.w a.x:=by unfold clI;omega
 have m2:clI r.y r.h (b.y+b.h)-clI r.y r.h b.y≤clI r.y r.h (a.y+a.h)-clI r.y r.h a.y:=by unfold clI;omega
 refine Int.ediv_le_ediv (Int.mul_pos hr.1 hr.2) ?_
 unfold ovA
 have:=Int.mul_le_mul m1 m2 b2.1 (by omega)
 omega
theorem aBJ {a r:Rc} (ha:vRc a=true) (hr:vRc r=true) (hr0:0<r.w∧0<r.h) (h:4096*ovA a r/(r.w*r.h)=4096):dX_ r a=true:=by
 have va:=aV_.1 ha
 have a1:=eL_ (X:=r.x) (W:=r.w) (x:=a.x) (w:=a.w) (by omega) (by omega)
 have a2:=eL_ (X:=r.y) (W:=r.h) (x:=a.y) (w:=a.h) (by omega) (by omega)
 have e:=aPP (Int.mul_pos hr0.1 hr0.2) h (ov_le ha hr0).2
 unfold ovA at e
 have k1:r.w≤clI r.x r.w (a.x+a.w)-clI r.x r.w a.x:=by
  refine Int.not_lt.1 fun k=>?_
  have m1:=Int.mul_le_mul_of_nonneg_left a2.2 a1.1
  have m2:=Int.mul_lt_mul_of_pos_right k hr0.2
  omega
 have k2:r.h≤clI r.y r.h (a.y+a.h)-clI r.y r.h a.y:=by
  refine Int.not_lt.1 fun k=>?_
  have m1:=Int.mul_le_mul_of_nonneg_right a1.2 a2.1
  have m2:=Int.mul_lt_mul_of_pos_left k hr0.1
  omega
 unfold clI at k1 k2
 unfold dX_
 rw[hr,ha]
 simp only[Bool.true_and,Bool.and_eq_true,decide_eq_true_eq]
 omega
theorem gR_ {b r:Rc} (hb:vRc b=true) (hr:0<r.w∧0<r.h):aS_ (aO_ (boxL b.x b.y (b.x+b.w) (b.y+b.h))) r=4096*ovA b r/(r.w*r.h):=by
 have v:=aV_.1 hb
 exact zB_ (by omega) (by omega) (by omega) (by omega) (by omega) (by omega) hr.1 hr.2
theorem fK_ {s:Sh} (h:eD_ s=false):outL s=aO_ (boxL s.rect.x s.rect.y (s.rect.x+s.rect.w) (s.rect.y+s.rect.h)):=by
 unfold outL gC_
 rw[h]
 rfl
theorem aFD {ks:List Ik} {s:Sn} (h:s∈eT_ ks):∃(i k:Nat) (a b:Ik),ks[i]?=some a∧ks[k]?=some b∧i≠k∧s∈kV_ i k a b:=by
 unfold eT_ at h
 obtain⟨e,he,h⟩:=List.mem_flatMap.1 h
 unfold rowL at h
 obtain⟨g,hg,h⟩:=List.mem_flatMap.1 h
 by_cases hi:e.2=g.2
 ·rw[if_pos hi] at h
  cases h
 ·rw[if_neg hi] at h
  exact⟨e.2,g.2,e.1,g.1,List.mem_zipIdx_iff_getElem?.1 he,List.mem_zipIdx_iff_getElem?.1 hg,hi,h⟩
theorem sT_ {ks:List Ik} {s:Sn} {i k:Nat} {a b:Ik} (ha:ks[i]?=some a) (hb:ks[k]?=some b) (hne:i≠k) (h:s∈kV_ i k a b):s∈eT_ ks:=by
 unfold eT_
 refine List.mem_flatMap.2 ⟨(a,i),List.mem_zipIdx_iff_getElem?.2 ha,?_⟩
 unfold rowL
 refine List.mem_flatMap.2 ⟨(b,k),List.mem_zipIdx_iff_getElem?.2 hb,?_⟩
 rw[if_neg hne]
 exact h
theorem eW_ {f:Fr} {ss:List Sh} {k:Ik} (h:k∈aF_ f ss):∃s∈ss,inkO f s=some k:=by
 unfold aF_ at h
 exact List.mem_filterMap.1 h
theorem dI_ {f:Fr} {s:Sh} {k:Ik} (h:inkO f s=some k):k=⟨s.code,inkL f (outL s)⟩∧0<sumL (inkL f (outL s)):=by
 unfold inkO at h
 split at h
 ·next hp=>cases h;exact⟨rfl,hp⟩
 ·cases h
theorem aAX {α β:Type} {g:α→Option β} {x:α} {y:β} : ∀{l:List α} {i:Nat},l[i]?=some x→g x=some y→(l.filterMap g)[((l.take i).filterMap g).length]?=some y
 | [],i,h,_=>by simp at h
 | z::l,0,h,hg=>by
  obtain rfl:z=x:=by simpa using h
  simp[hg]
 | z::l,i+1,h,hg=>by
  have ih:=aAX (l:=l) (i:=i) (by simpa using h) hg
  rw[List.take_succ_cons,List.filterMap_cons,List.filterMap_cons]
  cases hz:g z with
  | none=>exact ih
  | some u=>simpa using ih
theorem aPG {α β:Type} {g:α→Option β} {x:α} {y:β} {l:List α} {i k:Nat} (hi:l[i]?=some x) (hg:g x=some y) (h:i<k):((l.take i).filterMap g).length<((l.take k).filterMap g).length:=by
 have e:(l.take k)[i]?=some x:=by rw[List.getElem?_take,if_pos h];exact hi
 have:=aAX (l:=l.take k) e hg
 rw[List.take_take,Nat.min_eq_left (Nat.le_of_lt h)] at this
 exact(List.getElem?_eq_some_iff.1 this).1
def ascS (ss:List Sh):Prop:=∀(i:Nat) (a b:Sh),ss[i]?=some a→ss[i+1]?=some b→a.code<b.code
theorem aNG {ss:List Sh} (h:ascS ss):∀(d i:Nat) (a b:Sh),ss[i]?=some a→ss[i+d+1]?=some b→a.code<b.code
 | 0,i,a,b,ha,hb=>h i a b ha hb
 | d+1,i,a,b,ha,hb=>by
  obtain⟨c,hc⟩:∃c,ss[i+d+1]?=some c:=⟨ss[i+d+1]'(by have:=(List.getElem?_eq_some_iff.1 hb).1;omega),List.getElem?_eq_getElem _⟩
  have h1:=aNG h d i a c ha hc
  have h2:=h (i+d+1) c b hc (by rw[show i+d+1+1=i+(d+1)+1 by omega];exact hb)
  omega
theorem wS_ {ss:List Sh} (h:ascS ss) {i k:Nat} {a b:Sh} (ha:ss[i]?=some a) (hb:ss[k]?=some b) (hk:i<k):a.code<b.code:=by
 obtain⟨d,rfl⟩:∃d,k=i+d+1:=⟨k-i-1,by omega⟩
 exact aNG h d i a b ha hb
theorem uO_ {ss:List Sh} (h:ascS ss) {i:Nat} {a s:Sh} (ha:ss[i]?=some a) (hs:s∈ss) (e:s.code=a.code):s=a:=by
 obtain⟨k,hk,e2⟩:=List.getElem_of_mem hs
 have hk':ss[k]?=some s:=by rw[List.getElem?_eq_getElem hk,e2]
 rcases Nat.lt_trichotomy i k with q|q|q
 ·have:=wS_ h ha hk' q;omega
 ·subst q
  rw[ha] at hk'
  exact(Option.some.inj hk').symm
 ·have:=wS_ h hk' ha q;omega
theorem aDP {f:Fr} {ss:List Sh} (h:ascS ss) {i k:Nat} {a b:Sh} (ha:ss[i]?=some a) (hb:ss[k]?=some b) {s:Sn} (hs:s∈eT_ (aF_ f ss)) (ea:s.a=a.code) (eb:s.b=b.code) :
  (s.kind=1→s.sure=sH_ (inkL f (outL a)) (inkL f (outL b)))∧(s.kind=2→s.sure=rV_ (inkL f (outL a)) (inkL f (outL b))):=by
 obtain⟨i',k',x,y,hx,hy,_,hm⟩:=aFD hs
 obtain⟨sx,hsx,ex⟩:=eW_ (List.mem_of_getElem? hx)
 obtain⟨sy,hsy,ey⟩:=eW_ (List.mem_of_getElem? hy)
 obtain⟨rfl,_⟩:=dI_ ex
 obtain⟨rfl,_⟩:=dI_ ey
 unfold kV_ at hm
 have mm:s=⟨1,sx.code,sy.code,sH_ (inkL f (outL sx)) (inkL f (outL sy))⟩∨s=⟨2,sx.code,sy.code,rV_ (inkL f (outL sx)) (inkL f (outL sy))⟩:=by
  rcases List.mem_append.1 hm with hm|hm
  ·split at hm
   ·exact .inl (List.mem_singleton.1 hm)
   ·cases hm
  ·split at hm
   ·exact .inr (List.mem_singleton.1 hm)
   ·cases hm
 rcases mm with rfl|rfl
 ·obtain rfl:=uO_ h ha hsx ea
  obtain rfl:=uO_ h hb hsy eb
  exact⟨fun _=>rfl,fun e=>absurd e (show ¬(1:Int)=2 by decide)⟩
 ·obtain rfl:=uO_ h ha hsx ea
  obtain rfl:=uO_ h hb hsy eb
  exact⟨fun e=>absurd e (show ¬(2:Int)=1 by decide),fun _=>rfl⟩
theorem aDO {f:Fr} {ss:List Sh} {i k:Nat} {a b:Sh} (ha:ss[i]?=some a) (hb:ss[k]?=some b) (hik:i<k) (pa:0<sumL (inkL f (outL a))) (pb:0<sumL (inkL f (outL b))) (ho:aAI (inkL f (outL a)) (inkL f (outL b))=true) :
  ⟨1,a.code,b.code,sH_ (inkL f (outL a)) (inkL f (outL b))⟩∈eT_ (aF_ f ss):=by
 have ea:inkO f a=some ⟨a.code,inkL f (outL a)⟩:=by unfold inkO;rw[if_pos pa]
 have eb:inkO f b=some ⟨b.code,inkL f (outL b)⟩:=by unfold inkO;rw[if_pos pb]
 have h1:=aAX ha ea
 have h2:=aAX hb eb
 have h3:=aPG ha ea hik
 refine sT_ h1 h2 (by omega) ?_
 unfold kV_
 refine List.mem_append.2 (.inl ?_)
 rw[if_pos ⟨ho,h3⟩]
 exact List.mem_singleton.2 rfl
theorem aDN {f:Fr} {ss:List Sh} {i k:Nat} {a b:Sh} (ha:ss[i]?=some a) (hb:ss[k]?=some b) (hik:i≠k) (pa:0<sumL (inkL f (outL a))) (pb:0<sumL (inkL f (outL b))) (ho:zP_ (inkL f (outL a)) (inkL f (outL b))=true) :
  ⟨2,a.code,b.code,rV_ (inkL f (outL a)) (inkL f (outL b))⟩∈eT_ (aF_ f ss):=by
 have ea:inkO f a=some ⟨a.code,inkL f (outL a)⟩:=by unfold inkO;rw[if_pos pa]
 have eb:inkO f b=some ⟨b.code,inkL f (outL b)⟩:=by unfold inkO;rw[if_pos pb]
 have h1:=aAX ha ea
 have h2:=aAX hb eb
 have h3:((ss.take i).filterMap (inkO f)).length≠((ss.take k).filterMap (inkO f)).length:=by
  rcases Nat.lt_or_gt_of_ne hik with q|q
  ·have:=aPG ha ea q;omega
  ·have:=aPG hb eb q;omega
 refine sT_ h1 h2 h3 ?_
 unfold kV_
 refine List.mem_append.2 (.inr ?_)
 rw[if_pos ho]
 exact List.mem_singleton.2 rfl
theorem pT_ (f:Fr) (l m:List Pl):(inkL f l).zip (inkL f m)=(List.range (npx f)).map fun n=>(aS_ l (pixR f n),aS_ m (pixR f n)):=by
 unfold inkL
 rw[List.zip_map']
theorem aCV {f:Fr} {l m:List Pl} : sH_ (inkL f l) (inkL f m)=true↔∃n,n<npx f∧4096<aS_ l (pixR f n)+aS_ m (pixR f n):=by
 unfold sH_
 rw[pT_,List.any_map,List.any_eq_true]
 simp only[List.mem_range,Function.comp,decide_eq_true_eq]
theorem aES {f:Fr} {l m:List Pl} : aAI (inkL f l) (inkL f m)=true↔∃n,n<npx f∧0<aS_ l (pixR f n)∧0<aS_ m (pixR f n):=by
 unfold aAI
 rw[pT_,List.any_map,List.any_eq_true]
 simp only[List.mem_range,Function.comp,decide_eq_true_eq,Bool.and_eq_true]
theorem aCH {f:Fr} {l m:List Pl} : zP_ (inkL f l) (inkL f m)=true↔∀n,n<npx f→aS_ m (pixR f n)≤aS_ l (pixR f n)+1:=by
 unfold zP_
 rw[pT_,List.all_map,List.all_eq_true]
 simp only[List.mem_range,Function.comp,decide_eq_true_eq]
theorem aCI {f:Fr} {l m:List Pl} : rV_ (inkL f l) (inkL f m)=true↔∀n,n<npx f→aS_ m (pixR f n)=0∨aS_ l (pixR f n)=4096:=by
 unfold rV_
 rw[pT_,List.all_map,List.all_eq_true]
 simp only[List.mem_range,Function.comp,decide_eq_true_eq,Bool.or_eq_true]
theorem qG_ {f:Fr} (hf:FrOk f) (n:Nat):0<(pixR f n).w∧0<(pixR f n).h:=by
 have:=hf.s1
 exact⟨by show 0<f.s;omega,by show 0<f.s;omega⟩
theorem aFM {f:Fr} (hf:FrOk f) {s:Sh} (hs:okSh s=true) {n:Nat} (hn:n<npx f) (h:0<aS_ (outL s) (pixR f n)):0<sumL (inkL f (outL s)):=
 (iI_ fun c hc=>(tM_ hf (jQ_ hs) c hc).1).2 ⟨_,List.mem_map.2 ⟨n,List.mem_range.2 hn,rfl⟩,h⟩
theorem aKM {f:Fr} (hf:FrOk f) {ss:List Sh} (h:ascS ss) {i k:Nat} {a b:Sh} (ha:ss[i]?=some a) (hb:ss[k]?=some b) (va:vRc a.rect=true) (vb:vRc b.rect=true) (la:eD_ a=false) (lb:eD_ b=false) {s:Sn} (hs:s∈eT_ (aF_ f ss)) (e0:s.kind=1) (ea:s.a=a.code) (eb:s.b=b.code) (e:s.sure=true) :
  0<min (a.rect.x+a.rect.w) (b.rect.x+b.rect.w)-max a.rect.x b.rect.x∧0<min (a.rect.y+a.rect.h) (b.rect.y+b.rect.h)-max a.rect.y b.rect.y:=by
 rw[(aDP h ha hb hs ea eb).1 e0] at e
 obtain⟨n,_,hn2⟩:=aCV.1 e
 have hp:=qG_ hf n
 rw[fK_ la,fK_ lb,gR_ va hp,gR_ vb hp] at hn2
 exact aEQ va vb hp hn2
theorem aKN {f:Fr} (hf:FrOk f) {ss:List Sh} {i k:Nat} {a b:Sh} (ha:ss[i]?=some a) (hb:ss[k]?=some b) (hik:i<k) (oa:okSh a=true) (ob:okSh b=true) (la:eD_ a=false) (lb:eD_ b=false) {n:Nat} (hn:n<npx f)
  (hw:0<min (min (a.rect.x+a.rect.w) (b.rect.x+b.rect.w)) ((pixR f n).x+f.s)-max (max a.rect.x b.rect.x) (pixR f n).x) (hh:0<min (min (a.rect.y+a.rect.h) (b.rect.y+b.rect.h)) ((pixR f n).y+f.s)-max (max a.rect.y b.rect.y) (pixR f n).y)
  (hk:f.s*f.s≤(min (min (a.rect.x+a.rect.w) (b.rect.x+b.rect.w)) ((pixR f n).x+f.s)-max (max a.rect.x b.rect.x) (pixR f n).x)*(min (min (a.rect.y+a.rect.h) (b.rect.y+b.rect.h)) ((pixR f n).y+f.s)-max (max a.rect.y b.rect.y) (pixR f n).y)*4096) :
  ∃q,(⟨1,a.code,b.code,q⟩:Sn)∈eT_ (aF_ f ss):=by
 have hp:=qG_ hf n
 have va:vRc a.rect=true:=by unfold okSh at oa;simp only[Bool.and_eq_true] at oa;exact oa.1.2
 have vb:vRc b.rect=true:=by unfold okSh at ob;simp only[Bool.and_eq_true] at ob;exact ob.1.2
 have c1:1≤aS_ (outL a) (pixR f n):=by
  rw[fK_ la,gR_ va hp]
  exact mR_ hp hw hh hk (kA_ (by omega) (by omega) (by show _≤_+f.s;omega) (by omega) (by omega) (by omega)) (kA_ (by omega) (by omega) (by show _≤_+f.s;omega) (by omega) (by omega) (by omega))
 have c2:1≤aS_ (outL b) (pixR f n):=by
  rw[fK_ lb,gR_ vb hp]
  exact mR_ hp hw hh hk (kA_ (by omega) (by omega) (by show _≤_+f.s;omega) (by omega) (by omega) (by omega)) (kA_ (by omega) (by omega) (by show _≤_+f.s;omega) (by omega) (by omega) (by omega))
 exact⟨_,aDO ha hb hik (aFM hf oa hn (by omega)) (aFM hf ob hn (by omega)) (aES.2 ⟨n,hn,by omega,by omega⟩)⟩
theorem law_in {f:Fr} (hf:FrOk f) {ss:List Sh} {i k:Nat} {a b:Sh} (ha:ss[i]?=some a) (hb:ss[k]?=some b) (hik:i≠k) (la:eD_ a=false) (lb:eD_ b=false) (pa:0<sumL (inkL f (outL a))) (pb:0<sumL (inkL f (outL b))) (hi:dX_ b.rect a.rect=true) :
  ∃q,(⟨2,a.code,b.code,q⟩:Sn)∈eT_ (aF_ f ss):=by
 have hi':=hi
 unfold dX_ at hi'
 simp only[Bool.and_eq_true] at hi'
 refine⟨_,aDN ha hb hik pa pb (aCH.2 fun n _=>?_)⟩
 have hp:=qG_ hf n
 rw[fK_ la,fK_ lb,gR_ hi'.1.1.2 hp,gR_ hi'.1.1.1 hp]
 have:=aPW hi hp
 omega
theorem aFJ {f:Fr} (hf:FrOk f) {ss:List Sh} (h:ascS ss) {i k:Nat} {a b:Sh} (ha:ss[i]?=some a) (hb:ss[k]?=some b) (va:vRc a.rect=true) (vb:vRc b.rect=true) (la:eD_ a=false) (lb:eD_ b=false) {s:Sn} (hs:s∈eT_ (aF_ f ss)) (e0:s.kind=2) (ea:s.a=a.code) (eb:s.b=b.code) (e:s.sure=true)
  {n:Nat} (hn:n<npx f) (hw:0<min (b.rect.x+b.rect.w) ((pixR f n).x+f.s)-max b.rect.x (pixR f n).x) (hh:0<min (b.rect.y+b.rect.h) ((pixR f n).y+f.s)-max b.rect.y (pixR f n).y)
  (hk:f.s*f.s≤(min (b.rect.x+b.rect.w) ((pixR f n).x+f.s)-max b.rect.x (pixR f n).x)*(min (b.rect.y+b.rect.h) ((pixR f n).y+f.s)-max b.rect.y (pixR f n).y)*4096):dX_ (pixR f n) a.rect=true:=by
 rw[(aDP h ha hb hs ea eb).2 e0] at e
 have hp:=qG_ hf n
 have c2:1≤aS_ (outL b) (pixR f n):=by
  rw[fK_ lb,gR_ vb hp]
  exact mR_ hp hw hh hk (kA_ (by omega) (by omega) (by show _≤_+f.s;omega) (by omega) (by omega) (by omega)) (kA_ (by omega) (by omega) (by show _≤_+f.s;omega) (by omega) (by omega) (by omega))
 rcases aCI.1 e n hn with q|q
 ·omega
 ·rw[fK_ la,gR_ va hp] at q
  exact aBJ va (gK_ hf hn) hp q
def inkB (f:Fr) (k:Ik):Bool:=jI_ k.code&&decide ((k.cells.length:Int)=f.w*f.h)&&k.cells.all (fun c=>decide (0≤c)&&decide (c≤4096)) && !decide (sumL k.cells=0)
def zT_ (ks:List Ik):Nat→Bool
 | 0=>true
 | j+1=>match ks[j]?,ks[j+1]? with
  | some p,some k=>decide (p.code<k.code)
  | _,_=>true
def tstB (f:Fr) (ks:List Ik) (i:Nat):Bool:=(match ks[i]? with|some k=>inkB f k|none=>true)&&zT_ ks i
def bK_ (f:Fr) (ks:List Ik):Bool:=frB f&&decide (ks.length≤20)&&(List.range ks.length).all (tstB f ks)
theorem pX_ {f:Fr} {ks:List Ik} {i:Nat} {k:Ik} (h:ks[i]?=some k):tstB f ks i=(inkB f k&&zT_ ks i):=by
 unfold tstB
 rw[h]
theorem pY_ {ks:List Ik} {j:Nat} {p k:Ik} (hp:ks[j]?=some p) (hk:ks[j+1]?=some k):zT_ ks (j+1)=decide (p.code<k.code):=by
 unfold zT_
 simp only[hp,hk]
theorem aIR {f:Fr} {ks:List Ik} {i:Nat} (hi:i<ks.length) (h:tstB f ks i=false):bK_ f ks=false:=by
 unfold bK_
 rw[Bool.and_eq_false_iff]
 right
 rw[List.all_eq_false]
 exact⟨i,List.mem_range.2 hi,by rw[h];decide⟩
theorem wZ_ {f:Fr} {ks:List Ik} (h0:frB f=true) (h1:ks.length≤20) (h:∀i,i<ks.length→tstB f ks i=true):bK_ f ks=true:=by
 unfold bK_
 rw[h0,decide_eq_true h1,Bool.true_and,Bool.true_and,List.all_eq_true]
 exact fun i hi=>h i (List.mem_range.1 hi)
structure PicOk (f:Fr) (ks:List Ik):Prop where
 fr:FrOk f
 len:ks.length≤20
 code:∀k∈ks,1≤k.code∧k.code≤39999
 many:∀k∈ks,k.cells.length=npx f
 cell:∀k∈ks,∀c∈k.cells,0≤c∧c≤4096
 pos:∀k∈ks,0<sumL k.cells
 asc:∀(j:Nat) (p k:Ik),ks[j]?=some p→ks[j+1]?=some k→p.code<k.code
theorem uB_ {n:Int} : jI_ n=true↔1≤n∧n≤39999:=by unfold jI_;simp only[Bool.and_eq_true,decide_eq_true_eq]
theorem iZ_ {f:Fr} (hf:FrOk f) {k:Ik} : inkB f k=true↔(1≤k.code∧k.code≤39999)∧k.cells.length=npx f∧(∀c∈k.cells,0≤c∧c≤4096)∧0<sumL k.cells:=by
 unfold inkB
 simp only[Bool.and_eq_true,decide_eq_true_eq,Bool.not_eq_true',decide_eq_false_iff_not,uB_,List.all_eq_true]
 have e:=mU_ hf
 constructor
 ·rintro⟨⟨⟨h1,h2⟩,h3⟩,h4⟩
  refine⟨h1,by omega,h3,?_⟩
  have:=(sJ_ k.cells h3).1
  omega
 ·rintro⟨h1,h2,h3,h4⟩
  exact⟨⟨⟨h1,by omega⟩,h3⟩,by omega⟩
theorem bO_ {f:Fr} {ks:List Ik} : bK_ f ks=true↔PicOk f ks:=by
 constructor
 ·intro h
  unfold bK_ at h
  simp only[Bool.and_eq_true,decide_eq_true_eq,List.all_eq_true,List.mem_range] at h
  obtain⟨⟨h0,h1⟩,h2⟩:=h
  have hf:=nG_.1 h0
  have key:∀k∈ks,inkB f k=true:=fun k hk=>by
   obtain⟨i,hi,e⟩:=List.getElem_of_mem hk
   have:=h2 i hi
   rw[pX_ (k:=k) (by rw[List.getElem?_eq_getElem hi,e]),Bool.and_eq_true] at this
   exact this.1
  refine⟨hf,h1,fun k hk=>((iZ_ hf).1 (key k hk)).1,fun k hk=>((iZ_ hf).1 (key k hk)).2.1,fun k hk=>((iZ_ hf).1 (key k hk)).2.2.1,fun k hk=>((iZ_ hf).1 (key k hk)).2.2.2,fun j p k hp hk=>?_⟩
  have:=h2 (j+1) (List.getElem?_eq_some_iff.1 hk).1
  rw[pX_ hk,pY_ hp hk,Bool.and_eq_true] at this
  exact of_decide_eq_true this.2
 ·intro h
  refine wZ_ (nG_.2 h.fr) h.len fun i hi=>?_
  obtain⟨k,hk⟩:∃k,ks[i]?=some k:=⟨_,List.getElem?_eq_getElem hi⟩
  have hm:=List.mem_of_getElem? hk
  rw[pX_ hk,(iZ_ h.fr).2 ⟨h.code k hm,h.many k hm,h.cell k hm,h.pos k hm⟩,Bool.true_and]
  cases i with
  | zero=>rfl
  | succ j=>
   obtain⟨p,hp⟩:∃p,ks[j]?=some p:=⟨ks[j]'(by omega),List.getElem?_eq_getElem _⟩
   rw[pY_ hp hk]
   exact decide_eq_true (h.asc j p k hp hk)
theorem PicOk.lt {f:Fr} {ks:List Ik} (h:PicOk f ks):∀(d i:Nat) (a b:Ik),ks[i]?=some a→ks[i+d+1]?=some b→a.code<b.code
 | 0,i,a,b,ha,hb=>h.asc i a b ha hb
 | d+1,i,a,b,ha,hb=>by
  obtain⟨c,hc⟩:∃c,ks[i+d+1]?=some c:=⟨ks[i+d+1]'(by have:=(List.getElem?_eq_some_iff.1 hb).1;omega),List.getElem?_eq_getElem _⟩
  have h1:=PicOk.lt h d i a c ha hc
  have h2:=h.asc (i+d+1) c b hc (by rw[show i+d+1+1=i+(d+1)+1 by omega];exact hb)
  omega
theorem PicOk.pw {f:Fr} {ks:List Ik} (h:PicOk f ks):ks.Pairwise fun a b=>a.code<b.code:=by
 rw[List.pairwise_iff_getElem]
 intro i j hi hj hij
 obtain⟨d,rfl⟩:∃d,j=i+d+1:=⟨j-i-1,by omega⟩
 exact h.lt d i _ _ (List.getElem?_eq_getElem hi) (List.getElem?_eq_getElem hj)
theorem asc_fm {f:Fr} : ∀{ss:List Sh},ss.Pairwise (fun a b=>a.code<b.code)→(aF_ f ss).Pairwise fun a b=>a.code<b.code:=by
 intro ss h
 unfold aF_
 refine List.Pairwise.filterMap _ (fun a b hab x hx y hy=>?_) h
 obtain⟨rfl,_⟩:=dI_ hx
 obtain⟨rfl,_⟩:=dI_ hy
 exact hab
theorem aQA {ss:List Sh} (h:ascS ss):ss.Pairwise fun a b=>a.code<b.code:=by
 rw[List.pairwise_iff_getElem]
 intro i j hi hj hij
 exact wS_ h (List.getElem?_eq_getElem hi) (List.getElem?_eq_getElem hj) hij
theorem aMV {ks:List Ik} (h:ks.Pairwise fun a b=>a.code<b.code):∀(j:Nat) (p k:Ik),ks[j]?=some p→ks[j+1]?=some k→p.code<k.code:=by
 intro j p k hp hk
 obtain⟨h1,e1⟩:=List.getElem?_eq_some_iff.1 hp
 obtain⟨h2,e2⟩:=List.getElem?_eq_some_iff.1 hk
 have:=(List.pairwise_iff_getElem.1 h) j (j+1) h1 h2 (by omega)
 rw[e1,e2] at this
 exact this
theorem gZ_ {f:Fr} (hf:FrOk f) {ss:List Sh} (hn:ss.length≤20) (ho:∀s∈ss,okSh s=true) (ha:ascS ss):PicOk f (aF_ f ss):=by
 have key:∀k∈aF_ f ss,∃s∈ss,k=⟨s.code,inkL f (outL s)⟩∧0<sumL (inkL f (outL s)):=fun k hk=>by
  obtain⟨s,hs,e⟩:=eW_ hk
  exact⟨s,hs,dI_ e⟩
 refine⟨hf,Nat.le_trans (List.length_filterMap_le _ _) hn,?_,?_,?_,?_,aMV (asc_fm (aQA ha))⟩
 ·intro k hk
  obtain⟨s,hs,rfl,_⟩:=key k hk
  have:=ho s hs
  unfold okSh at this
  simp only[Bool.and_eq_true] at this
  exact uB_.1 this.1.1
 ·intro k hk
  obtain⟨s,hs,rfl,_⟩:=key k hk
  exact iB_ _ _
 ·intro k hk
  obtain⟨s,hs,rfl,_⟩:=key k hk
  exact tM_ hf (jQ_ (ho s hs))
 ·intro k hk
  obtain⟨s,hs,rfl,h⟩:=key k hk
  exact h
def aGN (ks:List Ik) (code:Int):Option Ik:=ks.find? fun k=>k.code==code
def oI_ (ks:List Ik) (code:Int):Int:=match aGN ks code with
 | some k=>sumL k.cells
 | none=>0
def fW_ (f:Fr) (ks:List Ik) (code:Int):Int:=if bK_ f ks then oI_ ks code else 0
theorem vU_ {f:Fr} {ss:List Sh} (h:ascS ss) {s:Sh} (hs:s∈ss):aGN (aF_ f ss) s.code=inkO f s:=by
 unfold aGN
 cases e:(aF_ f ss).find? fun k=>k.code==s.code with
 | none=>
  cases e2:inkO f s with
  | none=>rfl
  | some k=>
   have hk:k∈aF_ f ss:=List.mem_filterMap.2 ⟨s,hs,e2⟩
   have:=List.find?_eq_none.1 e k hk
   rw[(dI_ e2).1] at this
   simp at this
 | some k=>
  have h1:=List.find?_some e
  obtain⟨s',hs',e'⟩:=eW_ (List.mem_of_find?_eq_some e)
  obtain⟨i,hi,ei⟩:=List.getElem_of_mem hs
  have:s'=s:=uO_ h (by rw[List.getElem?_eq_getElem hi,ei]) hs' (by rw[(dI_ e').1] at h1;simpa using h1)
  rw[←this]
  exact e'.symm
theorem lZ_ {f:Fr} (hf:FrOk f) {ss:List Sh} (h:ascS ss) {s:Sh} (hs:s∈ss) (ho:okSh s=true):oI_ (aF_ f ss) s.code=sumL (inkL f (outL s)):=by
 unfold oI_
 rw[vU_ h hs]
 unfold inkO
 by_cases hp:0<sumL (inkL f (outL s))
 ·rw[if_pos hp]
 ·rw[if_neg hp]
  have:=(sJ_ (inkL f (outL s)) (tM_ hf (jQ_ ho))).1
  show 0=_
  omega
def sQ_ (f g:Fr) (ks ls:List Ik):Bool:=decide (f=g)&&decide (ks=ls)
def insK (k:Ik):List Ik→List Ik
 | []=>[k]
 | p::l=>if p.code<k.code then p::insK k l else k::p::l
def srtK (l:List Ik):List Ik:=l.foldl (fun m k=>insK k m) []
theorem nB_ (k:Ik):∀l,(insK k l).Perm (k::l)
 | []=>.refl _
 | p::l=>by
  unfold insK
  split
  ·exact((nB_ k l).cons p).trans (.swap _ _ _)
  ·exact .refl _
theorem aFL {k:Ik} : ∀{l:List Ik},l.Pairwise (fun a b=>a.code≤b.code)→(insK k l).Pairwise fun a b=>a.code≤b.code
 | [],_=>by unfold insK;exact List.pairwise_singleton _ _
 | p::l,h=>by
  unfold insK
  obtain⟨h1,h2⟩:=List.pairwise_cons.1 h
  split
  ·next hp=>
   refine List.pairwise_cons.2 ⟨fun b hb=>?_,aFL h2⟩
   rcases List.mem_cons.1 ((nB_ k l).mem_iff.1 hb) with rfl|hb
   ·omega
   ·exact h1 b hb
  ·next hp=>
   refine List.pairwise_cons.2 ⟨fun b hb=>?_,h⟩
   rcases List.mem_cons.1 hb with rfl|hb
   ·omega
   ·have:=h1 b hb
    omega
theorem pB_:∀(l m:List Ik),(l.foldl (fun m k=>insK k m) m).Perm (m++l)
 | [],m=>by simp
 | k::l,m=>by
  refine(pB_ l (insK k m)).trans ?_
  refine((nB_ k m).append_right l).trans ?_
  exact(List.perm_middle (l₁:=m) (l₂:=l) (a:=k)).symm
theorem yT_:∀(l m:List Ik),m.Pairwise (fun a b=>a.code≤b.code)→(l.foldl (fun m k=>insK k m) m).Pairwise fun a b=>a.code≤b.code
 | [],_,h=>h
 | k::l,m,h=>yT_ l (insK k m) (aFL h)
theorem aDF (l:List Ik):(srtK l).Perm l:=pB_ l []
theorem aNT (l:List Ik):(srtK l).Pairwise fun a b=>a.code≤b.code:=yT_ l [] .nil
theorem mK_:∀{l m:List Ik},l.Perm m→l.Pairwise (fun a b=>a.code<b.code)→m.Pairwise (fun a b=>a.code≤b.code)→l=m
 | [],m,h,_,_=>(List.nil_perm.1 h).symm▸rfl
 | a::l,[],h,_,_=>by have:=h.length_eq;simp at this
 | a::l,b::m,h,h1,h2=>by
  obtain⟨p1,p2⟩:=List.pairwise_cons.1 h1
  obtain⟨q1,q2⟩:=List.pairwise_cons.1 h2
  have e:a=b:=by
   rcases List.mem_cons.1 (h.mem_iff.2 (List.mem_cons_self (a:=b) (l:=m))) with e|hb
   ·exact e.symm
   ·rcases List.mem_cons.1 (h.mem_iff.1 (List.mem_cons_self (a:=a) (l:=l))) with e|ha
    ·exact e
    ·have:=p1 b hb
     have:=q1 a ha
     omega
  subst e
  rw[mK_ (List.perm_cons a |>.1 h) p2 q2]
theorem aOR {f:Fr} {l m n:List Ik} (h1:m.Perm l) (h2:m.Pairwise fun a b=>a.code≤b.code) (h3:n.Perm l) (h4:n.Pairwise fun a b=>a.code≤b.code):bK_ f m=bK_ f n∧(bK_ f m=true→m=n):=by
 have key:∀{m n:List Ik},m.Perm l→m.Pairwise (fun a b=>a.code≤b.code)→n.Perm l→n.Pairwise (fun a b=>a.code≤b.code)→bK_ f m=true→m=n:=fun h1 _ h3 h4 hv=>mK_ (h1.trans h3.symm) (bO_.1 hv).pw h4
 refine⟨?_,key h1 h2 h3 h4⟩
 cases hm:bK_ f m with
 | true=>rw[←key h1 h2 h3 h4 hm,hm]
 | false=>
  cases hn:bK_ f n with
  | true=>rw[key h3 h4 h1 h2 hn,hm] at hn;cases hn
  | false=>rfl
def aFC (f:Fr) (ks ls:List Ik):Option (List Ik):=if bK_ f ks&&bK_ f ls&&bK_ f (srtK (ks++ls)) then some (srtK (ks++ls)) else none
theorem vM_ {f:Fr} (hf:FrOk f) {ss:List Sh} (hn:ss.length≤20) (ho:∀s∈ss,okSh s=true) (ha:ascS ss) (k:Nat):aFC f (aF_ f (ss.drop k)) (aF_ f (ss.take k))=some (aF_ f ss):=by
 have hs:∀{us:List Sh},us.Sublist ss→PicOk f (aF_ f us):=fun {us} hu=>by
  refine⟨hf,?_,?_,?_,?_,?_,?_⟩
  ·exact Nat.le_trans (List.length_filterMap_le _ _) (Nat.le_trans hu.length_le hn)
  all_goals have P:=gZ_ hf hn ho ha
  all_goals have S:(aF_ f us).Sublist (aF_ f ss):=by unfold aF_;exact hu.filterMap _
  ·exact fun k hk=>P.code k (S.mem hk)
  ·exact fun k hk=>P.many k (S.mem hk)
  ·exact fun k hk=>P.cell k (S.mem hk)
  ·exact fun k hk=>P.pos k (S.mem hk)
  ·exact aMV (P.pw.sublist S)
 have e:aF_ f ss=aF_ f (ss.take k)++aF_ f (ss.drop k):=by
  unfold aF_
  rw[←List.filterMap_append,List.take_append_drop]
 have P:=gZ_ hf hn ho ha
 have u:aF_ f ss=srtK (aF_ f (ss.drop k)++aF_ f (ss.take k)):=mK_ (by rw[e];exact List.perm_append_comm.trans (aDF _).symm) P.pw (aNT _)
 unfold aFC
 rw[←u,bO_.2 P,bO_.2 (hs (List.drop_sublist k ss)),bO_.2 (hs (List.take_sublist k ss))]
 rfl
end Go.Proofs.YtlikmmpmnaaifaaGreatDoor
namespace Go.Proofs.YtlikmmpmnaaifaaGreatDoor
open Go.RowKit Go.Shelf Go.Sort
attribute [local go_sem] Oper.semAt_some
theorem AzAt.ce {L:List (Nat×List Value)} {w W:World} (h:AzAt L w W) (k i:Nat) {B:Nat} {l:List Value} {v:Value} (h1:L[k]?=some (B,l)) (h2:l[i]?=some v):W.cell? ⟨B,i,none⟩=some v:=(h.row (B,l) (List.mem_of_getElem? h1)).row i v h2
theorem AzAt.cf {L:List (Nat×List Value)} {w W:World} (h:AzAt L w W) (k i:Nat) {B:Nat} {l:List Value} {v:Value} (h1:L[k]?=some (B,l)) (h2:l[i]?=some v):W.frozen? ⟨B,i,none⟩=false:=(h.row (B,l) (List.mem_of_getElem? h1)).fz i (List.getElem?_eq_some_iff.1 h2).1
def offB (c:Int):Bool:=!(decide (0≤c)&&decide (c≤4096))
theorem uP_ {α:Type} {p:α→Bool} : ∀{l:List α},l.any p=true→∃(i:Nat) (x:α),l[i]?=some x∧p x=true∧∀j,j<i→∀c,l[j]?=some c→p c=false
 | [],h=>by simp at h
 | y::l,h=>by
  cases hy:p y with
  | true=>exact⟨0,y,rfl,hy,fun j hj=>absurd hj (by omega)⟩
  | false=>
   obtain⟨i,x,h1,h2,h3⟩:=uP_ (l:=l) (by simpa[hy] using h)
   refine⟨i+1,x,by simpa using h1,h2,fun j hj c hc=>?_⟩
   cases j with
   | zero => obtain rfl:y=c:=by simpa using hc
             exact hy
   | succ j=>exact h3 j (by omega) c (by simpa using hc)
theorem uU_ (c:Int) (w:World):Calls Tryz.prog 121 #[.int .i64 c] w fun e w'=>e=.returned (.bool (offB c))∧Below w.heap.size w w':=by
 have K:=hid (fun W=>pin_s c 0 4096 W)
 unfold offB
 generalize (decide (0≤c)&&decide (c≤4096))=b at K⊢
 go_enter Tryz.func121,Tryz.ntmps121
 go_wp2_with (go_at_call 119;(with_reducible refine(K.out _).mono ?_);rintro e w1 ⟨rfl,hb⟩;have HB:=hid hb;clear hb)
 go_ret
 exact⟨rfl,HB.out⟩
theorem aFT {a:Option Addr} {cap n:Nat} {l:List Int} (hl:l.length=n) (hn:n≤1000000) (hb:∀c∈l,offB c=false) (w:World) (h:CsAt a (icC l) w) :
  Calls Tryz.prog 167 #[.slice a n cap,.func (.func 121) #[] #[]] w fun e w'=>e=.returned (.int .i64 (-1))∧Below w.heap.size w w':=by
 have HL:=hid hl
 have HP:=hid h
 have HB:=hid hb
 clear hl h hb
 go_enter Tryz.func167,Tryz.ntmps167
 go_wp2
 go_loopw [8] (fun v8 wr=>∃k:Nat,k≤n∧v8=.int .i64 (k:Int)∧Below w.heap.size w wr) (fun v8 _=>n-(intOf v8).toNat)
 case atStart=>exact⟨0,Nat.zero_le _,rfl,Below.refl _ _⟩
 case round=>
  obtain⟨k,hk,rfl,hb⟩:=hrel
  have HK:=hid hb
  clear hb
  by_cases hlt:k<n
  ·obtain⟨x,hx⟩:∃x,l[k]?=some x:=⟨l[k]'(by have:=HL.out;omega),List.getElem?_eq_getElem _⟩
   obtain⟨b,o,rfl,hbk,c0⟩:=(HP.out.below HK.out).row k _ (fZ_ hx)
   have K:=hid (fun W=>by have:=uU_ x W;rw[HB.out x (List.mem_of_getElem? hx)] at this;exact this)
   clear hx
   go_wp2_with (go_at_call 121;(with_reducible refine(K.out _).mono ?_);rintro e w1 ⟨rfl,hb⟩;have H1:=hid (HK.out.trans (hb.mono HK.out.size));clear hb)
   exact⟨⟨k+1,by omega,by go_num,H1.out⟩,by simp only[intOf];omega⟩
  ·obtain rfl:k=n:=by omega
   go_wp2
   go_ret
   exact⟨rfl,HK.out⟩
theorem aFS {a:Option Addr} {cap n i:Nat} {x:Int} {l:List Int} (hl:l.length=n) (hn:n≤1000000) (hx:l[i]?=some x) (hB:offB x=true) (hb:∀j,j<i→∀c,l[j]?=some c→offB c=false) (w:World) (h:CsAt a (icC l) w) :
  Calls Tryz.prog 167 #[.slice a n cap,.func (.func 121) #[] #[]] w fun e w'=>e=.returned (.int .i64 (i:Int))∧Below w.heap.size w w':=by
 have hi:i<n:=by rw[←hl];exact(List.getElem?_eq_some_iff.1 hx).1
 have HL:=hid hl
 have HP:=hid h
 have HB:=hid hb
 have HX:=hid (And.intro hx hB)
 clear hl h hb hx hB
 go_enter Tryz.func167,Tryz.ntmps167
 go_wp2
 go_loopw [8] (fun v8 wr=>∃k:Nat,k≤i∧v8=.int .i64 (k:Int)∧Below w.heap.size w wr) (fun v8 _=>n-(intOf v8).toNat)
 case atStart=>exact⟨0,Nat.zero_le _,rfl,Below.refl _ _⟩
 case round=>
  obtain⟨k,hk,rfl,hb⟩:=hrel
  have HK:=hid hb
  clear hb
  have hlt:k<n:=by omega
  by_cases hki:k<i
  ·obtain⟨y,hy⟩:∃x,l[k]?=some x:=⟨l[k]'(by have:=HL.out;omega),List.getElem?_eq_getElem _⟩
   obtain⟨b,o,rfl,hbk,c0⟩:=(HP.out.below HK.out).row k _ (fZ_ hy)
   have K:=hid (fun W=>by have:=uU_ y W;rw[HB.out k hki y hy] at this;exact this)
   clear hy
   go_wp2_with (go_at_call 121;(with_reducible refine(K.out _).mono ?_);rintro e w1 ⟨rfl,hb⟩;have H1:=hid (HK.out.trans (hb.mono HK.out.size));clear hb)
   exact⟨⟨k+1,by omega,by go_num,H1.out⟩,by simp only[intOf];omega⟩
  ·obtain rfl:k=i:=by omega
   obtain⟨b,o,rfl,hbk,c0⟩:=(HP.out.below HK.out).row k _ (fZ_ HX.out.1)
   have K:=hid (fun W=>by have:=uU_ x W;rw[HX.out.2] at this;exact this)
   go_wp2_with (go_at_call 121;(with_reducible refine(K.out _).mono ?_);rintro e w1 ⟨rfl,hb⟩;have H1:=hid (HK.out.trans (hb.mono HK.out.size));clear hb)
   go_ret
   exact⟨rfl,H1.out⟩
theorem wJ_ {a:Option Addr} {cap n:Nat} {l:List Int} (hl:l.length=n) (hn:n≤1000000) (w:World) (h:CsAt a (icC l) w) :
  Calls Tryz.prog 122 #[.slice a n cap,.func (.func 121) #[] #[]] w fun e w'=>e=.returned (.bool (l.any offB))∧Below w.heap.size w w':=by
 cases hA:l.any offB with
 | false=>
  have K:=hid (aFT (cap:=cap) hl hn (fun c hc=>by have:=List.any_eq_false.1 hA c hc;simpa using this) w h)
  clear hA hl h
  go_enter Tryz.func122,Tryz.ntmps122
  go_wp2_with (go_at_call 167;(with_reducible refine K.out.mono ?_);rintro e w1 ⟨rfl,hb⟩;have HB:=hid hb;clear hb)
  go_ret
  exact⟨rfl,HB.out⟩
 | true=>
  obtain⟨i,x,h1,h2,h3⟩:=uP_ hA
  have K:=hid (aFS (cap:=cap) hl hn h1 h2 h3 w h)
  clear hA hl h h1 h2 h3
  go_enter Tryz.func122,Tryz.ntmps122
  go_wp2_with (go_at_call 167;(with_reducible refine K.out.mono ?_);rintro e w1 ⟨rfl,hb⟩;have HB:=hid hb;clear hb)
  go_ret
  exact⟨rfl,HB.out⟩
theorem eqI_s {a a':Option Addr} {c c' n m:Nat} {l l':List Int} (hl:l.length=n) (hl':l'.length=m) (hn:n≤1000000) (hm:m≤1000000) (w:World) (h:CsAt a (icC l) w) (h':CsAt a' (icC l') w) :
  Calls Tryz.prog 129 #[.slice a n c,.slice a' m c'] w fun e w'=>e=.returned (.bool (decide (l=l')))∧Below w.heap.size w w':=by
 by_cases hnm:n=m
 case neg=>
  have hd:decide (l=l')=false:=decide_eq_false (fun e=>hnm (by rw[←hl,←hl',e]))
  rw[hd]
  have k1:((n:Int) != (m:Int))=true:=by simpa using fun e=>hnm (by omega)
  have k2:¬(n:Int)=(m:Int):=by omega
  clear hd hl hl' h h'
  go_enter Tryz.func129,Tryz.ntmps129
  go_wp2
  go_ret
  exact⟨rfl,Below.refl _ _⟩
 subst hnm
 have HL:=hid hl
 have HL':=hid hl'
 have HP:=hid h
 have HP':=hid h'
 clear hl hl' h h'
 go_enter Tryz.func129,Tryz.ntmps129
 go_wp2
 go_loopw [13] (fun v13 wr=>∃k:Nat,k≤n∧v13=.int .i64 (k:Int)∧l.take k=l'.take k∧Below w.heap.size w wr) (fun v13 _=>n-(intOf v13).toNat)
 case atStart=>exact⟨0,Nat.zero_le _,rfl,rfl,Below.refl _ _⟩
 case round=>
  obtain⟨k,hk,rfl,ht,hb⟩:=hrel
  have HK:=hid hb
  have HT:=hid ht
  clear hb ht
  by_cases hlt:k<n
  ·obtain⟨x,hx⟩:∃x,l[k]?=some x:=⟨l[k]'(by have:=HL.out;omega),List.getElem?_eq_getElem _⟩
   obtain⟨y,hy⟩:∃y,l'[k]?=some y:=⟨l'[k]'(by have:=HL'.out;omega),List.getElem?_eq_getElem _⟩
   obtain⟨b,o,rfl,hbk,c0⟩:=(HP.out.below HK.out).row k _ (fZ_ hx)
   obtain⟨b',o',rfl,hbk',c1⟩:=(HP'.out.below HK.out).row k _ (fZ_ hy)
   have i1:(0:Int)≤(k:Int):=by omega
   have i2:(k:Int)<(n:Int):=by omega
   have HX:=hid (And.intro hx hy)
   clear hx hy
   by_cases hxy:x=y
   ·subst hxy
    go_wp2
    go_region
    all_goals
     go_wp2
     refine⟨⟨k+1,by omega,by go_num,?_,HK.out.drew⟩,by simp only[intOf];omega⟩
     rw[List.take_add_one,List.take_add_one,HX.out.1,HX.out.2,HT.out]
   ·have e2:(x==y)=false:=by simpa using hxy
    have HE:=hid (show decide (l=l')=false from decide_eq_false fun e=>hxy (by have h1:=HX.out.1;rw[e,HX.out.2] at h1;exact(Option.some.inj h1).symm))
    clear hxy
    go_wp2
    go_region
    all_goals
     go_wp2
     go_ret
     exact⟨aN_ HE.out.symm,HK.out.drew⟩
  ·obtain rfl:k=n:=by omega
   have HE:=hid (show decide (l=l')=true from decide_eq_true (by have:=HT.out;rwa[List.take_of_length_le (by have:=HL.out;omega),List.take_of_length_le (by have:=HL'.out;omega)] at this))
   go_wp2
   go_ret
   exact⟨aN_ HE.out.symm,HK.out⟩
theorem vR_ (f:Fr) (a:Option Addr) (n c:Nat) (w:World) :
  Calls Tryz.prog 123 #[.agg #[.int .i64 f.x,.int .i64 f.y,.int .i64 f.w,.int .i64 f.h,.int .i64 f.s,.slice a n c]] w fun e w'=>e=.returned (.agg #[.int .i64 f.x,.int .i64 f.y,.int .i64 f.w,.int .i64 f.h,.int .i64 f.s])∧Below w.heap.size w w':=by
 go_enter Tryz.func123,Tryz.ntmps123
 go_wp2
 refine bodyPost_ret (v:=.agg #[.int .i64 f.x,.int .i64 f.y,.int .i64 f.w,.int .i64 f.h,.int .i64 f.s]) ?_ rfl ⟨rfl,((Below.refl _ _).alloc (Nat.le_refl _) _).alloc (by simp) _⟩
 simp[results,Tryz.results123,go_sem,Result.andThen]
theorem aGQ (a b c d e a' b' c' d' e':Int) (w:World):(Op.equalIn 10000 55 (.agg #[.int .i64 a,.int .i64 b,.int .i64 c,.int .i64 d,.int .i64 e]) (.agg #[.int .i64 a',.int .i64 b',.int .i64 c',.int .i64 d',.int .i64 e'])).run Tryz.prog w=.ok (decide (a=a'∧b=b'∧c=c'∧d=d'∧e=e')) w:=by
 have u3:=Tryz.underlying3
 have a3:=Tryz.isAgg3
 have z3:=Tryz.sizeOf3
 rw[show(10000:Nat)=9999+1 from rfl,Op.equalIn]
 simp only[Sem.run_bind,run_underlying Tryz.underlying55,Result.andThen_ok]
 simp only[Std.Legacy.Range.forIn_eq_forIn_range',Std.Legacy.Range.size,Nat.sub_zero,Nat.add_sub_cancel,Nat.div_one,List.range'_succ,List.range'_zero,List.forIn_cons,List.forIn_nil]
 by_cases h1:a=a'
 ·subst h1
  by_cases h2:b=b'
  ·subst h2
   by_cases h3:c=c'
   ·subst h3
    by_cases h4:d=d'
    ·subst h4
     by_cases h5:e=e'
     ·subst h5
      go_simp
     ·go_simp
    ·go_simp
   ·go_simp
  ·go_simp
 ·go_simp
end Go.Proofs.YtlikmmpmnaaifaaGreatDoor
namespace Go.Proofs.YtlikmmpmnaaifaaGreatDoor
open Go.RowKit Go.Shelf
attribute [local go_sem] Oper.semAt_some
theorem aJN {l M:List Pl} {n i j:Nat} {p q:Pl} (hM:M.length=n) (hj:j=n-1-i) (hij:i<j) (hjn:j<n) (hp:l[i]?=some p) (hq:l[j]?=some q)
  (h:∀k,k<n→M[k]?=if k<i∨n-1-k<i then l[n-1-k]? else l[k]?) :
  ∀k,k<n→((M.set i q).set j p)[k]?=if k<i+1∨n-1-k<i+1 then l[n-1-k]? else l[k]?:=by
 intro k hk
 by_cases h1:k=j
 ·subst h1
  rw[List.getElem?_set_self (by rw[List.length_set,hM];exact hk),if_pos (by omega),show n-1-k=i by omega,hp]
 ·rw[List.getElem?_set_ne (Ne.symm h1)]
  by_cases h2:k=i
  ·subst h2
   rw[List.getElem?_set_self (by rw[hM];exact hk),if_pos (by omega),show n-1-k=j by omega,hq]
  ·rw[List.getElem?_set_ne (Ne.symm h2),h k hk]
   by_cases h3:k<i∨n-1-k<i
   ·rw[if_pos h3,if_pos (by omega)]
   ·rw[if_neg h3,if_neg (by omega)]
theorem aJO {l M:List Pl} {n i:Nat} (hl:l.length=n) (hM:M.length=n) (hi:n≤i+i+1) (h:∀k,k<n→M[k]?=if k<i∨n-1-k<i then l[n-1-k]? else l[k]?):M=l.reverse:=by
 apply List.ext_getElem?
 intro k
 by_cases hk:k<n
 ·rw[h k hk,List.getElem?_reverse (by omega),hl]
  split
  ·rfl
  ·rename_i h1
   rw[show n-1-k=k by omega]
 ·rw[List.getElem?_eq_none (by omega),List.getElem?_eq_none (by simp;omega)]
theorem aDS {B cap n:Nat} {l:List Pl} (hl:l.length=n) (hn1:1≤n) (hn:n≤1000000) {R:List (Nat×List Value)} {w W:World} (h:PzAt B l R w W) :
  Calls Tryz.prog 77 #[.slice (some ⟨B,0,none⟩) n cap] W fun e W'=>e=.returned (.tuple #[])∧PzAt B l.reverse R w W':=by
 have HL:=hid hl
 have H0:=hid h
 clear h hl
 go_enter Tryz.func77,Tryz.ntmps77
 go_wp2
 go_loopw [2,3] (fun v2 v3 wr=>∃(i:Nat) (M:List Pl),i≤n∧v2=.int .i64 (i:Int)∧v3=.int .i64 ((n:Int)-1-(i:Int))∧M.length=n∧PzAt B M R w wr∧∀k,k<n→M[k]?=if k<i∨n-1-k<i then l[n-1-k]? else l[k]?) (fun v2 _ _=>n-(intOf v2).toNat)
 case atStart=>exact⟨0,l,by omega,rfl,by go_num,HL.out,H0.out,fun k hk=>by simp⟩
 case round=>
  obtain⟨i,M,hi,rfl,rfl,hMl,hM,hR⟩:=hrel
  have HMl:=hid hMl
  have HM:=hid hM
  have HR:=hid hR
  clear hMl hM hR
  by_cases hlt:i+i+1<n
  ·obtain⟨j,hj⟩:∃j,j=n-1-i:=⟨_,rfl⟩
   rw[show(n:Int)-1-(i:Int)=(j:Int) by omega]
   have hij:i<j:=by omega
   have hjn:j<n:=by omega
   obtain⟨p,hp⟩:∃p,l[i]?=some p:=⟨l[i]'(by have:=HL.out;omega),List.getElem?_eq_getElem _⟩
   obtain⟨q,hq⟩:∃q,l[j]?=some q:=⟨l[j]'(by have:=HL.out;omega),List.getElem?_eq_getElem _⟩
   have hMi:M[i]?=some p:=by rw[HR.out i (by omega),if_neg (by omega),hp]
   have hMj:M[j]?=some q:=by rw[HR.out j (by omega),if_neg (by omega),hq]
   have HS:=hid (aJN HMl.out hj hij hjn hp hq HR.out)
   obtain⟨c0,c1⟩:=HM.out.ns.row i p hMi
   obtain⟨d0,d1⟩:=HM.out.ns.row j q hMj
   have f0:=HM.out.ns.fz (i*2) (by rw[HMl.out];omega)
   have f1:=HM.out.ns.fz (i*2+1) (by rw[HMl.out];omega)
   have f2:=HM.out.ns.fz (j*2) (by rw[HMl.out];omega)
   have f3:=HM.out.ns.fz (j*2+1) (by rw[HMl.out];omega)
   have hj2:=hid hj
   clear hp hq hMi hMj hj
   have i1:(0:Int)≤(i:Int):=by omega
   have i2:(i:Int)<(n:Int):=by omega
   have j1:(0:Int)≤(j:Int):=by omega
   have j2:(j:Int)<(n:Int):=by omega
   have ij:(i:Int)<(j:Int):=by omega
   have hw1:IntKind.i64.wrap ((i:Int)+1)=(i:Int)+1:=IntWalk.i64_in _ (by omega)
   have hw2:IntKind.i64.wrap ((j:Int)-1)=(j:Int)-1:=IntWalk.i64_in _ (by omega)
   go_wp2
   go_region
   all_goals
    go_wp2
    have H2:=((HM.out.set (k:=i) (by rw[HMl.out];omega) q).set (k:=j) (by rw[List.length_set,HMl.out];omega) p).drew
    refine⟨⟨i+1,(M.set i q).set j p,by omega,by go_num,?_,by rw[List.length_set,List.length_set,HMl.out],H2,HS.out⟩,by simp only[intOf];omega⟩
    have:=hj2.out
    congr 1
    omega
  ·have HE:=hid (aJO HL.out HMl.out (by omega) HR.out)
   have hlt2:decide ((i:Int)<(n:Int)-1-(i:Int))=false:=decide_eq_false (by omega)
   go_wp2
   go_end0
   rw[←HE.out]
   exact⟨rfl,HM.out⟩
end Go.Proofs.YtlikmmpmnaaifaaGreatDoor
namespace Go.Proofs.YtlikmmpmnaaifaaGreatDoor
open Go.RowKit Go.Shelf Go.Sort
attribute [local go_sem] Oper.semAt_some
def lenV:Value→Nat
 | .slice _ m _=>m
 | _=>0
theorem yF_ (ok:Pl→Pl→Pl→Bool) (x:Pl):∀r:List Pl,(popL ok x r).length≤r.length
 | []=>Nat.le_refl _
 | [_]=>Nat.le_refl _
 | b::a::l=>by
  unfold popL
  split
  ·exact Nat.le_refl _
  ·have:=yF_ ok x (a::l)
   simp only[List.length_cons] at this⊢
   omega
theorem yE_ (ok:Pl→Pl→Pl→Bool) (x:Pl):∀(r:List Pl) (q:Pl),q∈popL ok x r→q∈r
 | [],_,h=>h
 | [_],_,h=>h
 | b::a::l,q,h=>by
  unfold popL at h
  split at h
  ·exact h
  ·exact List.mem_cons_of_mem _ (yE_ ok x (a::l) q h)
theorem eB_ {ok:Pl→Pl→Pl→Bool} {l:List Pl} {k:Nat} {x:Pl} (hx:l[k]?=some x):aU_ ok (l.take (k+1))=x::popL ok x (aU_ ok (l.take k)):=by
 unfold aU_
 rw[List.take_add_one,hx,List.foldl_append]
 rfl
theorem pM_ (ok:Pl→Pl→Pl→Bool) (l:List Pl) (k:Nat) (hk:k≤l.length):(aU_ ok (l.take k)).length≤k:=by
 induction k with
 | zero=>simp[aU_]
 | succ k ih=>
  rw[eB_ (List.getElem?_eq_getElem (by omega))]
  have h1:=yF_ ok l[k] (aU_ ok (l.take k))
  have h2:=ih (by omega)
  simp only[List.length_cons]
  omega
theorem aBN (ok:Pl→Pl→Pl→Bool) (l:List Pl) (k:Nat) (hk:k≤l.length):∀q∈aU_ ok (l.take k),q∈l:=by
 induction k with
 | zero=>intro q hq;simp[aU_] at hq
 | succ k ih=>
  intro q hq
  rw[eB_ (List.getElem?_eq_getElem (by omega))] at hq
  rcases List.mem_cons.1 hq with rfl|hq
  ·exact List.getElem_mem _
  ·exact ih (by omega) q (yE_ ok _ _ q hq)
theorem OzAt.pop {e:TypeId} {g c n:Nat} {b a:Pl} {r:List Pl} {R:List (Nat×List Value)} {w W:World} (h:OzAt e (.slice (some ⟨g,0,none⟩) (n+2) c) (n+2) (plC (b::a::r).reverse) R w W) :
  OzAt e (.slice (some ⟨g,0,none⟩) (n+1) c) (n+1) (plC (a::r).reverse) R w W:=by
 refine⟨h.az,?_,h.ne⟩
 have e1:plC (b::a::r).reverse=plC (a::r).reverse++plC [b]:=by rw[List.reverse_cons,eU_]
 have h1:=h.own.1
 rw[e1,List.length_append,bJ_,bJ_,List.length_reverse] at h1
 simp only[List.length_cons,List.length_nil] at h1
 refine⟨by rw[bJ_,List.length_reverse];simp only[List.length_cons];omega,?_⟩
 rcases h.own.2 with ⟨hv,_⟩|⟨g',cap,cur,hv,hb,hc,hn,hm,hs,ht⟩
 ·cases hv
 ·injection hv with hv1 hv2 hv3
  injection hv1 with hv1
  injection hv1 with hv1
  subst hv1
  subst hv3
  refine .inr ⟨g,c,cur,rfl,hb,hc,by omega,hm,hs,?_⟩
  rw[e1] at ht
  have h2:(n+1)*2=(plC (a::r).reverse).length:=by rw[bJ_,List.length_reverse];simp only[List.length_cons];omega
  have h3:(cur.toList.take ((n+2)*2)).take ((n+1)*2)=cur.toList.take ((n+1)*2):=by rw[List.take_take];congr 1;omega
  rw[←h3,ht,h2,List.take_left]
theorem OzAt.cap_le {e:TypeId} {g c n:Nat} {xs:List Value} {R:List (Nat×List Value)} {w W:World} (h:OzAt e (.slice (some ⟨g,0,none⟩) n c) n xs R w W):n≤c∧c≤9223372036854775807:=by
 rcases h.own.2 with ⟨hv,_⟩|⟨g',cap,cur,hv,hb,hc,hn,hm,hs,ht⟩
 ·cases hv
 ·injection hv with hv1 hv2 hv3
  subst hv3
  unfold maxLen at hm
  omega
theorem kD_ {ok:Pl→Pl→Pl→Bool} {e:TypeId} {v:Value} {l r:List Pl} {k n:Nat} {x:Pl} {X:Nat} {xs:List Value} {R:List (Nat×List Value)} {w W:World} (hx:l[k]?=some x) (hn:r.length=n)
  (hp:r=popL ok x (aU_ ok (l.take k))) (h:OzAt e v (n+1) (plC r.reverse++[.int .i64 x.x,.int .i64 x.y]) ((X,xs)::R) w W) :
  (aU_ ok (l.take (k+1))).length=n+1∧OzAt e v (n+1) (plC (aU_ ok (l.take (k+1))).reverse) R w W:=by
 rw[eB_ hx,←hp]
 refine⟨by rw[List.length_cons,hn],?_⟩
 rw[List.reverse_cons,eU_]
 exact h.sub (fun u hu=>List.mem_cons_of_mem _ hu)
theorem aHX {B cap n:Nat} {l:List Pl} (hl:l.length=n) (hn:n≤1000) (hv:∀p∈l,vP p=true) {W:World} (h:PsAt B l W) :
  Calls Tryz.prog 76 #[.slice (some ⟨B,0,none⟩) n cap,.func (.func 74) #[] #[]] W fun e W'=>∃v,e=.returned v∧Below W.heap.size W W'∧OzAt 26 v (aU_ aI_ l).length (plC (bF_ aI_ l)) [] W W':=by
 have HL:=hid hl
 have HV:=hid hv
 have HP:=hid h
 have H0:=hid (show OzAt 26 (.slice none 0 0) 0 (plC (aU_ aI_ (l.take 0)).reverse) [] W W from OzAt.nil (AzAt.start W) _)
 clear h hl hv
 obtain⟨i0,hi0,hz0,hz1,hz2⟩:=info_parts dP_
 have hB:B<W.heap.size:=HP.out.sz
 go_enter Tryz.func76,Tryz.ntmps76
 go_wp2
 go_loopw [5,10] (fun v5 v10 wr=>∃(k:Nat) (v:Value),k≤n∧v10=.int .i64 (k:Int)∧v=v5∧((v=.slice none 0 0∧k=0)∨∃g c m,v=.slice (some ⟨g,0,none⟩) m c)∧OzAt 26 v (aU_ aI_ (l.take k)).length (plC (aU_ aI_ (l.take k)).reverse) [] W wr) (fun _ v10 _=>n-(intOf v10).toNat)
 case atStart=>exact⟨0,_,by omega,rfl,rfl,.inl ⟨rfl,rfl⟩,H0.out⟩
 case round=>
  obtain⟨k,v,hk,rfl,rfl,hvk,hZ⟩:=hrel
  have HZ:=hid hZ
  clear hZ
  by_cases hlt:k<n
  ·obtain⟨x,hx⟩:∃x,l[k]?=some x:=⟨l[k]'(by have:=HL.out;omega),List.getElem?_eq_getElem _⟩
   obtain⟨c0,c1⟩:=(HP.out.below HZ.out.az.bw).row k x hx
   have sB:B<wr.heap.size:=Nat.lt_of_lt_of_le hB HZ.out.az.bw.size
   have vx:=HV.out x (List.mem_of_getElem? hx)
   have HX:=hid (And.intro hx vx)
   have hlen:=pM_ aI_ l k (by have:=HL.out;omega)
   have HMEM:=hid (aBN aI_ l k (by have:=HL.out;omega))
   have HZ1:=hid (HZ.out.push [.int .i64 x.x,.int .i64 x.y] 26)
   obtain⟨r0,hr0⟩:∃r0,r0=aU_ aI_ (l.take k):=⟨_,rfl⟩
   rw[←hr0] at hlen HMEM HZ1
   have HR0:=hid hr0
   clear hx vx hr0
   have hX:∃X,X=wr.heap.size:=⟨_,rfl⟩
   obtain⟨X,hX⟩:=hX
   rw[←hX] at HZ1
   rcases hvk with ⟨rfl,rfl⟩|⟨g,c,m,rfl⟩
   ·obtain rfl:r0=[]:=by rw[HR0.out];rfl
    go_wp2
    rw[←hX]
    generalize wr.alloc (.cells #[.int .i64 x.x,.int .i64 x.y] 26)=wA at HZ1⊢
    clear hX HZ c0 c1
    go_loopw [5] (fun v5 wq=>v5=.slice none 0 0∧OzAt 26 (.slice none 0 0) 0 (plC ([]:List Pl).reverse) [(X,[.int .i64 x.x,.int .i64 x.y])] W wq) (fun _ _=>0)
    case atStart=>exact⟨rfl,HZ1.out⟩
    case round=>
     obtain⟨rfl,hq⟩:=hrel
     have HQ:=hid hq
     clear hq
     have cl:=True.intro
     go_wp2
     refine wp_region_quiet_below (by kernel_rfl) (by kernel_rfl) ?_
     repeat (go_big_quiet_step (with_reducible first|exact cl _ _))
     refine wpQuiet_nil ?_
     intro W1 hw'
     have hb1:Below wr.heap.size wr W1:=by obtain⟨⟨dq,osq⟩,hw''⟩:=hw';rw[hw''];exact below_regrown wr dq osq
     have H1:=hid (HQ.out.below hb1)
     have hs1:=H1.out.az.bw.size
     clear hw' hb1
     have h_:=H1.out.az.row (X,[.int .i64 x.x,.int .i64 x.y]) (by simp)
     have y0:=h_.row 0 _ rfl
     have y1:=h_.row 1 _ rfl
     clear h_
     go_wp2_with (first
      | (at_builtin;refine wpList_append_own_at _ rfl _ _ 27 rfl W.heap.size 26 i0 (.agg #[.int .i64 0,.int .i64 0]) 2 16 Tryz.underlying27 hi0 hz0 hz1 hz2 rfl (by decide) (.slice none 0 0) 0 (plC ([]:List Pl).reverse) rfl (H1.out.own.alloc _) ⟨W1.heap.size,0,none⟩ 1 1 [.int .i64 x.x,.int .i64 x.y] rfl rfl (jK_ _ _ _ _) (by simp[Value.oneCell']) (by unfold maxLen;omega) (by omega) (by simp;omega) ?_;intro v' w7 hown' hgrow _ hat;have HZ7:=hid (H1.out.append hown' hgrow hat);clear hown' hgrow hat)
      | fail)
     obtain⟨g7,c7,rfl⟩:=ownsRow_succ HZ7.out.own
     have he:=kD_ HX.out.1 (r:=[]) rfl (by rw[←HR0.out];rfl) HZ7.out
     refine⟨⟨1,.slice (some ⟨g7,0,none⟩) (0+1) c7,by omega,by go_num,rfl,.inr ⟨g7,c7,0+1,rfl⟩,?_⟩,by simp only[intOf];omega⟩
     have h1:=he.1
     have h2:=he.2
     rw[Nat.zero_add] at h1 h2
     rw[h1]
     exact h2
   ·obtain rfl:r0.length=m:=(HZ1.out.blk rfl).2.2.1
    go_wp2
    rw[←hX]
    generalize wr.alloc (.cells #[.int .i64 x.x,.int .i64 x.y] 26)=wA at HZ1⊢
    clear hX HZ c0 c1
    go_loopw [5] (fun v5 wq=>∃(r:List Pl) (m:Nat),v5=.slice (some ⟨g,0,none⟩) m c∧r.length=m∧OzAt 26 (.slice (some ⟨g,0,none⟩) m c) m (plC r.reverse) [(X,[.int .i64 x.x,.int .i64 x.y])] W wq∧popL aI_ x r=popL aI_ x r0∧(∀q∈r,q∈l)∧m≤k) (fun v5 _=>lenV v5)
    case atStart=>exact⟨r0,r0.length,rfl,rfl,HZ1.out,rfl,HMEM.out,hlen⟩
    case round=>
     obtain⟨r,m,rfl,hrm,hq,hpop,hmem,hmk⟩:=hrel
     have HRM:=hid hrm
     have HQ:=hid hq
     have HPOP:=hid hpop
     have HME:=hid hmem
     clear hrm hq hpop hmem
     by_cases hm1:m≤1
     ·have HP2:=hid (show r=popL aI_ x (aU_ aI_ (l.take k)) from by
       rw[←HR0.out,←HPOP.out]
       have:=HRM.out
       match r,this with
       | [],_=>rfl
       | [_],_=>rfl
       | _::_::_,h=>simp at h;omega)
      have cl:=True.intro
      have hg1:decide ((1:Int)<(m:Int))=false:=decide_eq_false (by omega)
      have hg2:decide (1<m)=false:=decide_eq_false (by omega)
      go_wp2
      refine wp_region_quiet_below (by kernel_rfl) (by kernel_rfl) ?_
      repeat (go_big_quiet_step (with_reducible first|exact cl _ _))
      refine wpQuiet_nil ?_
      intro W1 hw'
      have hb1:Below wr.heap.size wr W1:=by obtain⟨⟨dq,osq⟩,hw''⟩:=hw';rw[hw''];exact below_regrown wr dq osq
      have H1:=hid (HQ.out.below hb1)
      have hs1:=H1.out.az.bw.size
      clear hw' hb1
      have h_:=H1.out.az.row (X,[.int .i64 x.x,.int .i64 x.y]) (by simp)
      have y0:=h_.row 0 _ rfl
      have y1:=h_.row 1 _ rfl
      clear h_
      go_wp2_with (first
       | (at_builtin;refine wpList_append_own_at _ rfl _ _ 27 rfl W.heap.size 26 i0 (.agg #[.int .i64 0,.int .i64 0]) 2 16 Tryz.underlying27 hi0 hz0 hz1 hz2 rfl (by decide) (.slice (some ⟨g,0,none⟩) m c) m (plC r.reverse) rfl (H1.out.own.alloc _) ⟨W1.heap.size,0,none⟩ 1 1 [.int .i64 x.x,.int .i64 x.y] rfl rfl (jK_ _ _ _ _) (by simp[Value.oneCell']) (by unfold maxLen;omega) (by omega) (by simp;omega) ?_;intro v' w7 hown' hgrow _ hat;have HZ7:=hid (H1.out.append hown' hgrow hat);clear hown' hgrow hat)
       | fail)
      obtain⟨g7,c7,rfl⟩:=ownsRow_succ HZ7.out.own
      have he:=kD_ HX.out.1 HRM.out HP2.out HZ7.out
      refine⟨⟨k+1,.slice (some ⟨g7,0,none⟩) (m+1) c7,by omega,by go_num,rfl,.inr ⟨g7,c7,m+1,rfl⟩,?_⟩,by simp only[intOf];omega⟩
      rw[he.1]
      exact he.2
     ·obtain⟨mp,rfl⟩:∃mp,m=mp+2:=⟨m-2,by omega⟩
      obtain⟨b,a,t,rfl⟩:∃b a t,r=b::a::t:=by
       have:=HRM.out
       match r,this with
       | [],h=>simp at h
       | [_],h=>simp at h
       | b::a::t,_=>exact⟨b,a,t,rfl⟩
      have ht:t.length=mp:=by have:=HRM.out;simp only[List.length_cons] at this;omega
      have hra:(b::a::t).reverse[mp]?=some a:=by simp[←ht]
      have hrb:(b::a::t).reverse[mp+1]?=some b:=by simp[←ht]
      have va:=HV.out a (HME.out a (by simp))
      have vb:=HV.out b (HME.out b (by simp))
      have vx:=HX.out.2
      have hrow:=HQ.out.pz.ns.row
      have a0:=cell_regrown (hrow mp a hra).1
      have a1:=cell_regrown (hrow mp a hra).2
      have b0:=cell_regrown (hrow (mp+1) b hrb).1
      have b1:=cell_regrown (hrow (mp+1) b hrb).2
      have h_:=HQ.out.az.row (X,[.int .i64 x.x,.int .i64 x.y]) (by simp)
      have x0:=cell_regrown (h_.row 0 _ rfl)
      have x1:=cell_regrown (h_.row 1 _ rfl)
      clear h_
      have hw1:IntKind.i64.wrap (mp:Int)=(mp:Int):=IntWalk.i64_in _ (by omega)
      have hw2:IntKind.i64.wrap ((mp:Int)+1)=(mp:Int)+1:=IntWalk.i64_in _ (by omega)
      have hw3:IntKind.i64.wrap ((mp:Int)+2-1)=(mp:Int)+1:=by rw[show(mp:Int)+2-1=(mp:Int)+1 by omega];exact hw2
      have hw4:IntKind.i64.wrap ((mp:Int)+2-2)=(mp:Int):=by rw[show(mp:Int)+2-2=(mp:Int) by omega];exact hw1
      have jz:(mp:Int)+1<(mp:Int)+2:=by omega
      have hcap:=HQ.out.cap_le
      have hc1:(mp:Int)+1≤(c:Int):=by omega
      have hc2:(mp:Int)+2≤(c:Int):=by omega
      have jz2:decide ((1:Int)<(mp:Int)+2)=true:=decide_eq_true (by omega)
      have jz1:(mp:Int)<(mp:Int)+2:=by omega
      have p0:(0:Int)≤(mp:Int)+1:=by omega
      have e0:((mp:Int)+1).toNat=mp+1:=by omega
      have KL:=hid (fun(U:World)=>left_s va vb vx U)
      clear hra hrb va vb vx hrow
      cases hlf:aI_ a b x with
      | true=>
       rw[hlf] at KL
       have HP2:=hid (show b::a::t=popL aI_ x (aU_ aI_ (l.take k)) from by
        rw[←HR0.out,←HPOP.out]
        unfold popL
        rw[hlf]
        rfl)
       have cl:=fun d os=>Calls.regrown_of (d:=d) (os:=os) (KL.out (grow (redrawn wr d) os))
       go_wp2
       refine wp_region_quiet_below (by kernel_rfl) (by kernel_rfl) ?_
       repeat (go_big_quiet_step (with_reducible first|exact cl _ _))
       refine wpQuiet_nil ?_
       intro W1 hw'
       have hb1:Below wr.heap.size wr W1:=by obtain⟨⟨dq,osq⟩,hw''⟩:=hw';rw[hw''];exact below_regrown wr dq osq
       have H1:=hid (HQ.out.below hb1)
       have hs1:=H1.out.az.bw.size
       clear hw' hb1 a0 a1 b0 b1 x0 x1 cl KL
       have h_:=H1.out.az.row (X,[.int .i64 x.x,.int .i64 x.y]) (by simp)
       have y0:=h_.row 0 _ rfl
       have y1:=h_.row 1 _ rfl
       clear h_
       go_wp2_with (first
        | (at_builtin;refine wpList_append_own_at _ rfl _ _ 27 rfl W.heap.size 26 i0 (.agg #[.int .i64 0,.int .i64 0]) 2 16 Tryz.underlying27 hi0 hz0 hz1 hz2 rfl (by decide) (.slice (some ⟨g,0,none⟩) (mp+2) c) (mp+2) (plC (b::a::t).reverse) rfl (H1.out.own.alloc _) ⟨W1.heap.size,0,none⟩ 1 1 [.int .i64 x.x,.int .i64 x.y] rfl rfl (jK_ _ _ _ _) (by simp[Value.oneCell']) (by unfold maxLen;omega) (by omega) (by simp;omega) ?_;intro v' w7 hown' hgrow _ hat;have HZ7:=hid (H1.out.append hown' hgrow hat);clear hown' hgrow hat)
        | fail)
       obtain⟨g7,c7,rfl⟩:=ownsRow_succ HZ7.out.own
       have he:=kD_ HX.out.1 HRM.out HP2.out HZ7.out
       refine⟨⟨k+1,.slice (some ⟨g7,0,none⟩) (mp+2+1) c7,by omega,by go_num,rfl,.inr ⟨g7,c7,mp+2+1,rfl⟩,?_⟩,by simp only[intOf];omega⟩
       rw[he.1]
       exact he.2
      | false=>
       rw[hlf] at KL
       have HP2:=hid (show popL aI_ x (a::t)=popL aI_ x r0 from by
        rw[←HPOP.out]
        show _=popL aI_ x (b::a::t)
        conv=>rhs;unfold popL
        rw[hlf]
        rfl)
       have cl:=fun d os=>Calls.regrown_of (d:=d) (os:=os) (KL.out (grow (redrawn wr d) os))
       go_wp2
       refine wp_region_quiet_below (by kernel_rfl) (by kernel_rfl) ?_
       repeat (go_big_quiet_step (with_reducible first|exact cl _ _))
       refine wpQuiet_nil ?_
       intro W1 hw'
       have hb1:Below wr.heap.size wr W1:=by obtain⟨⟨dq,osq⟩,hw''⟩:=hw';rw[hw''];exact below_regrown wr dq osq
       have H1:=hid (HQ.out.below hb1)
       have hs1:=H1.out.az.bw.size
       clear hw' hb1 a0 a1 b0 b1 x0 x1 cl KL
       go_wp2
       exact⟨⟨a::t,mp+1,rfl,by simp only[List.length_cons];omega,H1.out.pop,HP2.out,fun q hq=>HME.out q (List.mem_cons_of_mem _ hq),by omega⟩,by simp only[lenV];omega⟩
  ·obtain rfl:k=n:=by omega
   have HE:=hid (show OzAt 26 v (aU_ aI_ l).length (plC (bF_ aI_ l)) [] W wr from by
    have:=HZ.out
    rw[List.take_of_length_le (by rw[HL.out];exact Nat.le_refl _)] at this
    exact this)
   clear HZ
   go_wp2
   go_ret
   exact⟨v,rfl,HE.out.az.bw,HE.out⟩
def snC (s:Sn):List Value:=[.int .i64 s.kind,.int .i64 s.a,.int .i64 s.b,.bool s.sure]
def seC (l:List Sn):List Value:=l.flatMap snC
theorem xS_ {l:List Sn} {k:Nat} {s:Sn} (h:l[k]?=some s) (j:Nat) (v:Value) (hv:(snC s)[j]?=some v):(seC l)[k*4+j]?=some v:=by
 induction l generalizing k with
 | nil=>cases h
 | cons y l ih=>
  show(snC y++seC l)[k*4+j]?=some v
  have hy:(snC y).length=4:=rfl
  cases k with
  | zero=>
   cases h
   have:j<4:=by
    rcases Nat.lt_or_ge j 4 with h|h
    ·exact h
    ·rw[List.getElem?_eq_none (by rw[hy];exact h)] at hv;cases hv
   rw[Nat.zero_mul,Nat.zero_add,List.getElem?_append_left (by rw[hy];exact this)]
   exact hv
  | succ k=>
   rw[List.getElem?_append_right (by rw[hy];omega),hy,show(k+1)*4+j-4=k*4+j by omega]
   exact ih (k:=k) (by simpa using h)
theorem CsAt.sn {a:Option Addr} {l:List Sn} {W:World} (h:CsAt a (seC l) W) {k:Nat} {s:Sn} (hk:l[k]?=Option.some s):∃b o:Nat,a=Option.some ⟨b,o,none⟩∧b<W.heap.size∧W.cell? ⟨b,o+k*4,none⟩=Option.some (.int .i64 s.kind)∧W.cell? ⟨b,o+k*4+1,none⟩=Option.some (.int .i64 s.a)∧W.cell? ⟨b,o+k*4+2,none⟩=Option.some (.int .i64 s.b)∧W.cell? ⟨b,o+k*4+3,none⟩=Option.some (.bool s.sure):=by
 obtain⟨b,o,rfl,h1,h2⟩:=h.row _ _ (xS_ hk 0 _ rfl)
 refine⟨b,o,rfl,h1,h2,?_,?_,?_⟩
 ·obtain⟨b',o',e,_,h3⟩:=h.row _ _ (xS_ hk 1 _ rfl)
  injection e with e
  injection e with e1 e2
  subst e1 e2
  exact h3
 ·obtain⟨b',o',e,_,h3⟩:=h.row _ _ (xS_ hk 2 _ rfl)
  injection e with e
  injection e with e1 e2
  subst e1 e2
  exact h3
 ·obtain⟨b',o',e,_,h3⟩:=h.row _ _ (xS_ hk 3 _ rfl)
  injection e with e
  injection e with e1 e2
  subst e1 e2
  exact h3
theorem zY_ {a a':Option Addr} {c c' n m:Nat} {l l':List Sn} (hl:l.length=n) (hl':l'.length=m) (hn:n≤1000000) (hm:m≤1000000) (w:World) (h:CsAt a (seC l) w) (h':CsAt a' (seC l') w) :
  Calls Tryz.prog 55 #[.slice a n c,.slice a' m c'] w fun e w'=>e=.returned (.bool (decide (l=l')))∧Below w.heap.size w w':=by
 by_cases hnm:n=m
 case neg=>
  have hd:decide (l=l')=false:=decide_eq_false (fun e=>hnm (by rw[←hl,←hl',e]))
  rw[hd]
  clear hd hl hl' h h'
  go_enter Tryz.func55,Tryz.ntmps55
  go_wp2
  go_ret
  exact⟨rfl,Below.refl _ _⟩
 subst hnm
 have HL:=hid hl
 have HL':=hid hl'
 have HP:=hid h
 have HP':=hid h'
 clear hl hl' h h'
 go_enter Tryz.func55,Tryz.ntmps55
 go_wp2
 go_loopw [5] (fun v5 wr=>∃k:Nat,k≤n∧v5=.int .i64 (k:Int)∧l.take k=l'.take k∧Below w.heap.size w wr) (fun v5 _=>n-(intOf v5).toNat)
 case atStart=>exact⟨0,Nat.zero_le _,rfl,rfl,Below.refl _ _⟩
 case round=>
  obtain⟨k,hk,rfl,ht,hb⟩:=hrel
  have HK:=hid hb
  have HT:=hid ht
  clear hb ht
  by_cases hlt:k<n
  ·obtain⟨x,hx⟩:∃x,l[k]?=some x:=⟨l[k]'(by have:=HL.out;omega),List.getElem?_eq_getElem _⟩
   obtain⟨y,hy⟩:∃y,l'[k]?=some y:=⟨l'[k]'(by have:=HL'.out;omega),List.getElem?_eq_getElem _⟩
   obtain⟨b,o,rfl,hbk,c0,c1,c2,c3⟩:=(HP.out.below HK.out).sn hx
   obtain⟨b',o',rfl,hbk',d0,d1,d2,d3⟩:=(HP'.out.below HK.out).sn hy
   have i1:(0:Int)≤(k:Int):=by omega
   have i2:(k:Int)<(n:Int):=by omega
   have HX:=hid (And.intro hx hy)
   clear hx hy
   obtain⟨xk,xa,xb,xs⟩:=x
   obtain⟨yk,ya,yb,ys⟩:=y
   simp only at c0 c1 c2 c3 d0 d1 d2 d3
   have hd:(xk=yk∧xa=ya∧xb=yb∧xs=ys)∨(xk==yk)=false∨((xk==yk)=true∧(xa==ya)=false)∨((xk==yk)=true∧(xa==ya)=true∧(xb==yb)=false)∨((xk==yk)=true∧(xa==ya)=true∧(xb==yb)=true∧(xs==ys)=false):=by
    simp only[beq_iff_eq,beq_eq_false_iff_ne,ne_eq]
    by_cases h1:xk=yk <;> by_cases h2:xa=ya <;> by_cases h3:xb=yb <;> by_cases h4:xs=ys <;> simp[h1,h2,h3,h4]
   rcases hd with ⟨rfl,rfl,rfl,rfl⟩|hd
   ·go_wp2
    go_region
    all_goals
     go_wp2
     refine⟨⟨k+1,by omega,by go_num,?_,HK.out.drew⟩,by simp only[intOf];omega⟩
     rw[List.take_add_one,List.take_add_one,HX.out.1,HX.out.2,HT.out]
   ·have HE:=hid (show decide (l=l')=false from decide_eq_false fun e=>by
     have h1:=HX.out.1
     rw[e,HX.out.2] at h1
     have h1:=Option.some.inj h1
     injection h1 with e1 e2 e3 e4
     subst e1 e2 e3 e4
     simp at hd)
    rcases hd with hd|⟨hd1,hd⟩|⟨hd1,hd2,hd⟩|⟨hd1,hd2,hd3,hd⟩
    all_goals
     go_wp2
     go_region
     all_goals
      go_wp2
      go_ret
      exact⟨aN_ HE.out.symm,HK.out.drew⟩
  ·obtain rfl:k=n:=by omega
   have HE:=hid (show decide (l=l')=true from decide_eq_true (by have:=HT.out;rwa[List.take_of_length_le (by have:=HL.out;omega),List.take_of_length_le (by have:=HL'.out;omega)] at this))
   go_wp2
   go_ret
   exact⟨aN_ HE.out.symm,HK.out⟩
theorem fH_ (c:Int) (k:Nat) (h0 : -9223372036854775808≤c) (h1:c≤9223372036854775807) (hk:0<k) (hk2:k≤4294967296) (w:World) :
  Calls Tryz.prog 40 #[.int .i64 c,.int .i64 (k:Int)] w fun e w'=>e=.returned (.int .i64 (aK_ c k:Nat))∧Below w.heap.size w w':=by
 unfold aK_
 have hk0:¬(k:Int)=0:=by omega
 by_cases hc:c<0
 ·rw[if_pos hc,←lK_ k (x:=-(c+1)) (by omega)]
  go_enter Tryz.func40,Tryz.ntmps40
  go_wp2
  go_ret
  exact⟨dA_ (by rw[Int.neg_tmod]),Below.refl _ _⟩
 ·rw[if_neg hc,←lK_ k (x:=c) (by omega)]
  go_enter Tryz.func40,Tryz.ntmps40
  go_wp2
  go_ret
  exact⟨dA_ (Int.tmod_eq_emod_of_nonneg (by omega)).symm,Below.refl _ _⟩
theorem gY_ (c:Int) (k:Nat) (h0 : -9223372036854775808≤c) (h1:c≤9223372036854775807) (hk:0<k) (hk2:k≤4294967296) (w:World) :
  Calls Tryz.prog 103 #[.int .i64 c,.int .i64 (k:Int)] w fun e w'=>e=.returned (.int .i64 (aK_ c k:Nat))∧Below w.heap.size w w':=by
 unfold aK_
 have hk0:¬(k:Int)=0:=by omega
 by_cases hc:c<0
 ·rw[if_pos hc,←lK_ k (x:=-(c+1)) (by omega)]
  go_enter Tryz.func103,Tryz.ntmps103
  go_wp2
  go_ret
  exact⟨dA_ (by rw[Int.neg_tmod]),Below.refl _ _⟩
 ·rw[if_neg hc,←lK_ k (x:=c) (by omega)]
  go_enter Tryz.func103,Tryz.ntmps103
  go_wp2
  go_ret
  exact⟨dA_ (Int.tmod_eq_emod_of_nonneg (by omega)).symm,Below.refl _ _⟩
def inI (x:Int):Prop:=-9223372036854775808≤x∧x≤9223372036854775807
def frN (y:Nat→Int):Fr:=⟨90+(aK_ (y 0) 40:Nat),90+(aK_ (y 1) 40:Nat),1+(aK_ (y 2) 6:Nat),1+(aK_ (y 3) 6:Nat),1+(aK_ (y 4) 20:Nat)⟩
theorem aGF (y:Nat→Int):FrOk (frN y):=by
 have h0:=aJ_ (y 0) (n:=40) (by decide)
 have h1:=aJ_ (y 1) (n:=40) (by decide)
 have h2:=aJ_ (y 2) (n:=6) (by decide)
 have h3:=aJ_ (y 3) (n:=6) (by decide)
 have h4:=aJ_ (y 4) (n:=20) (by decide)
 unfold frN
 generalize aK_ (y 0) 40=a at *
 generalize aK_ (y 1) 40=b at *
 generalize aK_ (y 2) 6=c at *
 generalize aK_ (y 3) 6=d at *
 generalize aK_ (y 4) 20=e at *
 have m1:=Int.mul_le_mul (show(1:Int)+(c:Int)≤6 by omega) (show(1:Int)+(d:Int)≤6 by omega) (by omega) (by omega)
 have m2:=Int.mul_le_mul (show(1:Int)+(c:Int)≤6 by omega) (show(1:Int)+(e:Int)≤20 by omega) (by omega) (by omega)
 have m3:=Int.mul_le_mul (show(1:Int)+(d:Int)≤6 by omega) (show(1:Int)+(e:Int)≤20 by omega) (by omega) (by omega)
 constructor <;> simp only <;> omega
theorem tT_ {y:Nat→Int} (hy:∀i,inI (y i)) (w:World) :
  Calls Tryz.prog 39 #[.agg #[.int .i64 (y 0),.int .i64 (y 1),.int .i64 (y 2),.int .i64 (y 3),.int .i64 (y 4)]] w fun e W'=>e=.returned (.agg #[.int .i64 (frN y).x,.int .i64 (frN y).y,.int .i64 (frN y).w,.int .i64 (frN y).h,.int .i64 (frN y).s,.slice none 0 0])∧Below w.heap.size w W':=by
 have hmx:Tryz.prog.follows .mixedOrders=true:=by kernel_rfl
 have K0:=hid (show ∀W:World,Calls Tryz.prog 103 #[.int .i64 (y 0),.int .i64 40] W fun e W'=>e=.returned (.int .i64 (aK_ (y 0) 40:Nat))∧Below W.heap.size W W' from fun W=>gY_ _ 40 (hy 0).1 (hy 0).2 (by decide) (by decide) W)
 have K1:=hid (show ∀W:World,Calls Tryz.prog 103 #[.int .i64 (y 1),.int .i64 40] W fun e W'=>e=.returned (.int .i64 (aK_ (y 1) 40:Nat))∧Below W.heap.size W W' from fun W=>gY_ _ 40 (hy 1).1 (hy 1).2 (by decide) (by decide) W)
 have K2:=hid (show ∀W:World,Calls Tryz.prog 103 #[.int .i64 (y 2),.int .i64 6] W fun e W'=>e=.returned (.int .i64 (aK_ (y 2) 6:Nat))∧Below W.heap.size W W' from fun W=>gY_ _ 6 (hy 2).1 (hy 2).2 (by decide) (by decide) W)
 have K3:=hid (show ∀W:World,Calls Tryz.prog 103 #[.int .i64 (y 3),.int .i64 6] W fun e W'=>e=.returned (.int .i64 (aK_ (y 3) 6:Nat))∧Below W.heap.size W W' from fun W=>gY_ _ 6 (hy 3).1 (hy 3).2 (by decide) (by decide) W)
 have K4:=hid (show ∀W:World,Calls Tryz.prog 103 #[.int .i64 (y 4),.int .i64 20] W fun e W'=>e=.returned (.int .i64 (aK_ (y 4) 20:Nat))∧Below W.heap.size W W' from fun W=>gY_ _ 20 (hy 4).1 (hy 4).2 (by decide) (by decide) W)
 have b0:=aJ_ (y 0) (n:=40) (by decide)
 have b1:=aJ_ (y 1) (n:=40) (by decide)
 have b2:=aJ_ (y 2) (n:=6) (by decide)
 have b3:=aJ_ (y 3) (n:=6) (by decide)
 have b4:=aJ_ (y 4) (n:=20) (by decide)
 unfold frN
 generalize aK_ (y 0) 40=n0 at K0 b0⊢
 generalize aK_ (y 1) 40=n1 at K1 b1⊢
 generalize aK_ (y 2) 6=n2 at K2 b2⊢
 generalize aK_ (y 3) 6=n3 at K3 b3⊢
 generalize aK_ (y 4) 20=n4 at K4 b4⊢
 generalize y 0=y0 at *
 generalize y 1=y1 at *
 generalize y 2=y2 at *
 generalize y 3=y3 at *
 generalize y 4=y4 at *
 have H0:=hid (show AzAt [(w.heap.size+1,frC ⟨0,0,0,0,0⟩ (.slice none 0 0)),(w.heap.size,[.int .i64 y0,.int .i64 y1,.int .i64 y2,.int .i64 y3,.int .i64 y4])] w ((w.alloc (.cells #[.int .i64 y0,.int .i64 y1,.int .i64 y2,.int .i64 y3,.int .i64 y4] 55)).alloc (.cells #[.int .i64 0,.int .i64 0,.int .i64 0,.int .i64 0,.int .i64 0,.slice none 0 0] 58)) from by
  have hp:=((AzAt.start w).push [.int .i64 y0,.int .i64 y1,.int .i64 y2,.int .i64 y3,.int .i64 y4] 55).push (frC ⟨0,0,0,0,0⟩ (.slice none 0 0)) 58
  simp only[World.size_alloc] at hp
  exact hp)
 have g0:IntKind.i64.wrap (90+(n0:Int))=90+(n0:Int):=IntWalk.i64_in _ (by omega)
 have g1:IntKind.i64.wrap (90+(n1:Int))=90+(n1:Int):=IntWalk.i64_in _ (by omega)
 have g2:IntKind.i64.wrap (1+(n2:Int))=1+(n2:Int):=IntWalk.i64_in _ (by omega)
 have g3:IntKind.i64.wrap (1+(n3:Int))=1+(n3:Int):=IntWalk.i64_in _ (by omega)
 have g4:IntKind.i64.wrap (1+(n4:Int))=1+(n4:Int):=IntWalk.i64_in _ (by omega)
 clear hy
 go_enter Tryz.func39,Tryz.ntmps39
 go_wp2
 obtain⟨W0,hW0⟩:∃W0,W0=(w.alloc (.cells #[.int .i64 y0,.int .i64 y1,.int .i64 y2,.int .i64 y3,.int .i64 y4] 55)).alloc (.cells #[.int .i64 0,.int .i64 0,.int .i64 0,.int .i64 0,.int .i64 0,.slice none 0 0] 58):=⟨_,rfl⟩
 have H1:=hid H0.out
 rw[←hW0] at H1⊢
 clear hW0 H0
 refine cN_ (A:=?fr) 21 hmx (by kernel_rfl) ?h ?ht
 case h=>
  intro U hU
  have hp:=H1.out.below hU
  have z0:=cell_regrown (hp.ce 1 0 rfl rfl)
  have z1:=cell_regrown (hp.ce 1 1 rfl rfl)
  have z2:=cell_regrown (hp.ce 1 2 rfl rfl)
  have z3:=cell_regrown (hp.ce 1 3 rfl rfl)
  have z4:=cell_regrown (hp.ce 1 4 rfl rfl)
  have c0:=fun d os=>Calls.regrown_of (d:=d) (os:=os) (K0.out (grow (redrawn U d) os))
  have c1:=fun d os=>Calls.regrown_of (d:=d) (os:=os) (K1.out (grow (redrawn U d) os))
  have c2:=fun d os=>Calls.regrown_of (d:=d) (os:=os) (K2.out (grow (redrawn U d) os))
  have c3:=fun d os=>Calls.regrown_of (d:=d) (os:=os) (K3.out (grow (redrawn U d) os))
  have c4:=fun d os=>Calls.regrown_of (d:=d) (os:=os) (K4.out (grow (redrawn U d) os))
  clear hp
  simp only[List.take_succ_cons,List.take_zero]
  repeat (go_big_quiet_step (with_reducible first|exact c0 _ _|exact c1 _ _|exact c2 _ _|exact c3 _ _|exact c4 _ _))
  refine wpQuiet_nil ?_
  rfl
 case ht=>
  intro WM hW
  have H2:=hid (H1.out.below hW)
  clear hW H1
  have z0:=H2.out.ce 0 0 rfl rfl
  have z1:=H2.out.ce 0 1 rfl rfl
  have z2:=H2.out.ce 0 2 rfl rfl
  have z3:=H2.out.ce 0 3 rfl rfl
  have z4:=H2.out.ce 0 4 rfl rfl
  have z5:=H2.out.ce 0 5 rfl rfl
  have f0:=H2.out.cf 0 0 rfl rfl
  have f1:=H2.out.cf 0 1 rfl rfl
  have f2:=H2.out.cf 0 2 rfl rfl
  have f3:=H2.out.cf 0 3 rfl rfl
  have f4:=H2.out.cf 0 4 rfl rfl
  have f5:=H2.out.cf 0 5 rfl rfl
  simp only[List.drop_succ_cons,List.drop_zero]
  go_wp2
  refine bodyPost_ret (v:=.agg #[.int .i64 (90+(n0:Int)),.int .i64 (90+(n1:Int)),.int .i64 (1+(n2:Int)),.int .i64 (1+(n3:Int)),.int .i64 (1+(n4:Int)),.slice none 0 0]) ?_ rfl ⟨rfl,?_⟩
  ·simp[results,Tryz.results39,go_sem,Result.andThen,z0,z1,z2,z3,z4,z5]
  ·iterate 6 refine Below.setCell ?_ (show w.heap.size≤w.heap.size+1 by omega) _
   exact H2.out.bw
end Go.Proofs.YtlikmmpmnaaifaaGreatDoor
