/- - -/
import Derived.RangeFuncNested
import Derived.RangeFuncBound
import Derived.RangeFuncCalls
import Derived.RangeFuncLeaves
import Derived.RangeFuncBox
import Derived.Stop.RegionWithIn
import Derived.IntWalk
import Derived.Shelf.RegionOpen
import Derived.Test.YtjfdefglpoancaaGreatDoorZBack
import Derived.Test.YtjfdefglpoancaaGreatDoorZPl2
import Derived.Test.YtjfdefglpoancaaGreatDoorZQTI
import Derived.Test.YtjfdefglpoancaaGreatDoorZOut
import Derived.Test.YtjfdefglpoancaaGreatDoorZPl15
import Derived.Test.YtjfdefglpoancaaGreatDoorZQT
set_option maxHeartbeats 40000000
set_option maxRecDepth 1000000
open Go.Lib (hid)
namespace Go.Proofs.YtjfdefglpoancaaGreatDoor
open Go.RowKit Go.Shelf
attribute [local go_sem] Oper.semAt_some
abbrev PE:={ e:Pl×Pl // vP e.1=true∧vP e.2=true }
def qE_ (x:PE):Array Value:=#[.agg #[.int .i64 x.1.1.x,.int .i64 x.1.1.y],.agg #[.int .i64 x.1.2.x,.int .i64 x.1.2.y]]
theorem gS_ (l:List Pl):(aM_ l).length=l.length:=by
 unfold aM_
 rw[List.length_zip,List.length_append,List.length_drop,List.length_take]
 omega
theorem aGQ {l:List Pl} {k:Nat} {p q:Pl} (hp:l[k]?=some p) (hq:l[(k+1)%l.length]?=some q):(aM_ l)[k]?=some (p,q):=by
 have hk:k<l.length:=by
  rcases Nat.lt_or_ge k l.length with h|h
  ·exact h
  ·rw[List.getElem?_eq_none h] at hp;cases hp
 unfold aM_
 rw[List.getElem?_zip_eq_some]
 refine⟨hp,?_⟩
 by_cases h1:k+1<l.length
 ·rw[Nat.mod_eq_of_lt h1] at hq
  rw[List.getElem?_append_left (by rw[List.length_drop];omega),List.getElem?_drop,Nat.add_comm]
  exact hq
 ·have e:k+1=l.length:=by omega
  rw[e,Nat.mod_self] at hq
  rw[List.getElem?_append_right (by rw[List.length_drop];omega),List.length_drop,List.getElem?_take_of_lt (by omega)]
  rw[show k-(l.length-1)=0 by omega]
  exact hq
theorem iV_ {l:List Pl} {e:Pl×Pl} (h:e∈aM_ l):e.1∈l∧e.2∈l:=by
 have:=List.of_mem_zip h
 refine⟨this.1,?_⟩
 rcases List.mem_append.1 this.2 with h|h
 ·exact List.mem_of_mem_drop h
 ·exact List.mem_of_mem_take h
def bF_ (l:List Pl) (hv:∀p∈l,vP p=true):List PE:=(aM_ l).pmap (fun e h=>⟨e,h⟩) fun _ he=>⟨hv _ (iV_ he).1,hv _ (iV_ he).2⟩
theorem rM_ (l:List Pl) (hv:∀p∈l,vP p=true):(bF_ l hv).map (·.1)=aM_ l:=by
 unfold bF_
 rw[List.map_pmap]
 simp
theorem eM_ (l:List Pl) (hv:∀p∈l,vP p=true):(bF_ l hv).length=l.length:=by
 unfold bF_
 rw[List.length_pmap,gS_]
theorem vV_ {l:List Pl} {hv:∀p∈l,vP p=true} {k:Nat} {p q:Pl} (hp:l[k]?=some p) (hq:l[(k+1)%l.length]?=some q) :
  (bF_ l hv)[k]?=some ⟨(p,q),hv p (List.mem_of_getElem? hp),hv q (List.mem_of_getElem? hq)⟩:=by
 have h:=aGQ hp hq
 unfold bF_
 rw[List.getElem?_pmap]
 simp[h]
theorem hA_ {B:Nat} {a w:World} (h:Below B a w) (k:Nat):Below B a (w.drewN k):=⟨h.os,h.tape,h.output,h.size,h.block⟩
theorem aGR (F:Fence) (n:Nat) (h8:F.fn 77) (hro:F.round=none) (hn:1≤n) (l Bs n₀ B cap N:Nat) (ps:List Pl) (hv:∀p∈ps,vP p=true) (hl:ps.length=N) (hN:N≤1000000) (hB:B<n₀) (J Jx:List PE→World→Prop)
  (hJ:∀(s:List PE) (A C:World),J s A→Below A.heap.size A C→J s C)
  (hY:∀pre x W,J pre W→pre.length<N→YieldAt F (n-1) Tryz.prog l (qE_ x) W fun e W'=>
   (e=.returned (.bool true)∧J (pre++[x]) W'∧aZ_ n₀ Bs W W')∨(e=.returned (.bool false)∧Jx (pre++[x]) W'))
  (W:World) (hBs:W.cell? ⟨Bs,0,none⟩=some (.slice (some ⟨B,0,none⟩) N cap)) (hb:n₀≤W.heap.size) (hb2:Bs<W.heap.size) (hP:PsAt B ps W) (h0:J [] W) :
  CallsIn F n Tryz.prog 77 #[.func (.yield l) #[] #[],.pointer (some ⟨Bs,0,none⟩)] W fun e W'=>(∃v,e=.returned v)∧
   (J (bF_ ps hv) W'∨(∃k,k≤N∧Jx ((bF_ ps hv).take k) W')):=by
 have HL:=hid hl
 have HP:=hid hP
 have HJ:=hid hJ
 clear hP hl hJ
 refine callsIn_of_wp Tryz.func77 rfl h8 ?_ hro
 simp only[Tryz.ntmps77,List.size_toArray,List.length_cons,List.length_nil,Nat.reduceAdd,Nat.reduceSub,Array.replicate_succ,Array.replicate_zero,List.push_toArray,List.append_toArray,List.nil_append,List.cons_append]
 gi_wp2
 gi_loopw [7] (fun i wr=>∃k:Nat,k≤N∧i=.int .i64 (k:Int)∧J ((bF_ ps hv).take k) wr∧aZ_ n₀ Bs W wr∧W.heap.size≤wr.heap.size)
  (fun i _=>N-(intOf i).toNat)
 case atStart=>exact⟨0,Nat.zero_le _,rfl,h0,aZ_.refl _ _ _,Nat.le_refl _⟩
 case round=>
  obtain⟨k,hk,rfl,hJs,hnx,hsz⟩:=hrel
  by_cases hlt:k<N
  ·obtain⟨m,hm⟩:∃m,m=(k+1)%N:=⟨_,rfl⟩
   have hmN:m<N:=by rw[hm];exact Nat.mod_lt _ (by omega)
   obtain⟨p,hp⟩:∃p,ps[k]?=some p:=⟨ps[k]'(by have:=HL.out;omega),List.getElem?_eq_getElem _⟩
   obtain⟨q,hq⟩:∃q,ps[m]?=some q:=⟨ps[m]'(by have:=HL.out;omega),List.getElem?_eq_getElem _⟩
   have hcB:=(hnx.cell 0).trans hBs
   have kc:∀o,wr.cell? ⟨B,o,none⟩=W.cell? ⟨B,o,none⟩:=fun o=>hnx.1.cell (p:=⟨B,o,none⟩) hB
   have c0:=(kc (k*2)).trans (HP.out.row k p hp).1
   have c1:=(kc (k*2+1)).trans (HP.out.row k p hp).2
   have d0:=(kc (m*2)).trans (HP.out.row m q hq).1
   have d1:=(kc (m*2+1)).trans (HP.out.row m q hq).2
   have hrem:((k:Int)+1).tmod (N:Int)=(m:Int):=by rw[hm];rfl
   have hw1:IntKind.i64.wrap ((k:Int)+1)=(k:Int)+1:=IntWalk.i64_in _ (by omega)
   have hN0:¬N=0:=by omega
   have s1:B<wr.heap.size:=by omega
   have s2:Bs<wr.heap.size:=by omega
   have HX:=hid hnx
   have HJs:=hid hJs
   have hvp:=hv p (List.mem_of_getElem? hp)
   have hvq:=hv q (List.mem_of_getElem? hq)
   have HH:=hid (show(bF_ ps hv).take (k+1)=(bF_ ps hv).take k++[⟨(p,q),hvp,hvq⟩] by rw[List.take_add_one,vV_ hp (by rw[HL.out,←hm];exact hq)];rfl)
   clear hm hp hq kc hnx hJs
   have hmx:Tryz.prog.follows .mixedOrders=true:=by kernel_rfl
   gi_wp2
   refine hJ_ (A:=?fr) 10 hro hmx (by kernel_rfl) ?h ?ht
   case h=>
    simp only[List.take_succ_cons,List.take_zero]
    repeat (gi_big_quiet_step (fail))
    refine wpQuietIn_nil ?_
    rfl
   case ht=>
    intro nq
    simp only[List.drop_succ_cons,List.drop_zero]
    have HJ2:=hid (show J ((bF_ ps hv).take k) ((wr.alloc (.cells #[.int .i64 p.x,.int .i64 p.y] 26)).drewN nq) from(HJ.out _ _ _ HJs.out (hA_ ((Below.refl _ _).alloc (Nat.le_refl _) _) nq)))
    have HK0:=hid (show aZ_ n₀ Bs W ((wr.alloc (.cells #[.int .i64 p.x,.int .i64 p.y] 26)).drewN nq) from HX.out.trans (aZ_.of_below (hA_ ((Below.refl wr.heap.size wr).alloc (Nat.le_refl _) _) nq) (by omega) s2))
    obtain⟨fn,tmps,assign,body,hy,hR⟩:=hY _ ⟨(p,q),hvp,hvq⟩ _ HJ2.out (by rw[List.length_take,eM_,HL.out];omega)
    simp only[qE_] at hy
    gi_wp2
    refine hR.mono ?_
    rintro e W3 (⟨rfl,hJ3,hk3⟩|⟨rfl,hJx3⟩)
    ·have HN:=hid (show ∃k':Nat,k'≤N∧Value.int .i64 ((k:Int)+1)=.int .i64 (k':Int)∧J ((bF_ ps hv).take k') W3∧aZ_ n₀ Bs W W3∧W.heap.size≤W3.heap.size from⟨k+1,by omega,rfl,by rw[HH.out];exact hJ3,HK0.out.trans hk3,(HK0.out.trans hk3).1.size⟩)
     clear hJ3 hk3
     gi_wp2
     go_roundw
     case rel=>exact HN.out
     case measure=>simp only[intOf];omega
    ·have HN:=hid (show Jx ((bF_ ps hv).take (k+1)) W3 from by rw[HH.out];exact hJx3)
     clear hJx3
     gi_wp2
     refine bodyPost_ret (results_none rfl _ _ _) rfl ?_
     exact⟨⟨_,rfl⟩,.inr ⟨k+1,by omega,HN.out⟩⟩
  ·obtain rfl:k=N:=by omega
   have HE:=hid (show J (bF_ ps hv) wr from by have:=hJs;rwa[show(bF_ ps hv).take k=bF_ ps hv by rw[List.take_of_length_le (by rw[eM_,HL.out];omega)]] at this)
   clear hJs
   gi_wp2
   go_end0
   exact⟨⟨_,rfl⟩,.inl HE.out⟩
theorem nL_ (F:Fence) (n:Nat) (h6:F.fn 53) (hro:F.round=none) (a:Option Addr) (len cap:Nat) (w:World) :
  CallsIn F n Tryz.prog 53 #[.slice a len cap] w fun e w'=>e=.returned (.func (.func 77) #[] #[.pointer (some ⟨w.heap.size,0,none⟩)])∧w.alloc (.cells #[.slice a len cap] 27)=w':=by
 refine callsIn_of_wp Tryz.func53 rfl h6 ?_ hro
 simp only[Tryz.ntmps53,List.size_toArray,List.length_cons,List.length_nil,Nat.reduceAdd,Nat.reduceSub,Array.replicate_succ,Array.replicate_zero,List.push_toArray,List.append_toArray,List.nil_append,List.cons_append]
 gi_wp2
 go_ret
 exact⟨rfl,rfl⟩
theorem pH_ (F:Fence) (n:Nat) (h8:F.fn 77) (hro:F.round=none) (hn:1≤n) (Bs n₀ B cap N:Nat) (ps:List Pl) (hv:∀p∈ps,vP p=true) (hl:ps.length=N) (hN:N≤1000000) (hB:B<n₀) (w:World) (hBs:w.cell? ⟨Bs,0,none⟩=some (.slice (some ⟨B,0,none⟩) N cap)) (hb:n₀≤w.heap.size) (hb2:Bs<w.heap.size) (hP:PsAt B ps w) :
  SeqStopsK F n Tryz.prog 77 #[.pointer (some ⟨Bs,0,none⟩)] qE_ (aZ_ n₀ Bs) (fun ys=>ys=bF_ ps hv) (fun pre=>∃k,k≤N∧pre=(bF_ ps hv).take k) N w:=fun l J Jx W hW hJ _ hY h0=>
 (aGR F n h8 hro hn l Bs n₀ B cap N ps hv hl hN hB J Jx
  (fun s A C hA hb=>hJ s A C none hA ⟨hb.os,hb.tape,hb.output,hb.size,fun k hk _=>hb.block k hk⟩ (fun _ e=>by cases e)) hY W ((hW.cell (p:=⟨Bs,0,none⟩) hb2).trans hBs) (Nat.le_trans hb hW.size) (Nat.lt_of_lt_of_le hb2 hW.size) (hP.below hW) h0).mono
  fun _ _ ⟨h1,h2⟩=>⟨h1,h2.elim (fun h=>.inl ⟨_,rfl,h⟩) (fun⟨k,hk,h⟩=>.inr ⟨_,⟨k,hk,rfl⟩,h⟩)⟩
def pZ_ (x:PE):Int:=x.1.1.x*x.1.2.y-x.1.1.y*x.1.2.x
def lF_ (l:List PE):Int:=(l.map pZ_).foldl (· + ·) 0
theorem rZ_ (l:List PE) (x:PE):lF_ (l++[x])=lF_ l+pZ_ x:=by simp[lF_]
theorem mulb {a b:Int} (a1:0≤a) (a2:a≤4095) (b1:0≤b) (b2:b≤4095):0≤a*b∧a*b≤16769025:=
 ⟨Int.mul_nonneg a1 b1,by have:=Int.mul_le_mul a2 b2 b1 (by omega);omega⟩
theorem yM_ (x:PE) : -16769025≤pZ_ x∧pZ_ x≤16769025:=by
 have b1:=vP_b x.2.1
 have b2:=vP_b x.2.2
 have m1:=mulb b1.1.1 b1.1.2 b2.2.1 b2.2.2
 have m2:=mulb b1.2.1 b1.2.2 b2.1.1 b2.1.2
 unfold pZ_
 omega
theorem aIG (l:List PE) (c:Int):c-16769025*(l.length:Int)≤(l.map pZ_).foldl (· + ·) c∧(l.map pZ_).foldl (· + ·) c≤c+16769025*(l.length:Int):=by
 induction l generalizing c with
 | nil=>simp
 | cons x l ih=>
  have h1:=ih (c+pZ_ x)
  have h2:=yM_ x
  simp only[List.map_cons,List.foldl_cons,List.length_cons]
  omega
theorem aIF (l:List PE) : -(16769025*(l.length:Int))≤lF_ l∧lF_ l≤16769025*(l.length:Int):=by
 have:=aIG l 0
 unfold lF_
 omega
theorem wS_ (ps:List Pl) (hv:∀p∈ps,vP p=true):lF_ (bF_ ps hv)=hF_ ps:=by
 unfold lF_ hF_
 rw[show(bF_ ps hv).map pZ_=(aM_ ps).map fun e=>e.1.x*e.2.y-e.1.y*e.2.x by rw[←rM_ ps hv,List.map_map];rfl]
theorem aRE {B cap n:Nat} {ps:List Pl} (hl:ps.length=n) (hv:fewB ps=true) (w:World) (h:PsAt B ps w) :
  Calls Tryz.prog 18 #[.slice (some ⟨B,0,none⟩) n cap] w fun e W'=>e=.returned (.tuple #[.int .i64 (hF_ ps),.int .i64 0])∧Below w.heap.size w W':=by
 have hn:n≤40∧1≤n:=by
  unfold fewB at hv
  simp only[Bool.and_eq_true,decide_eq_true_eq] at hv
  omega
 have hall:∀q∈ps,vP q=true:=by
  unfold fewB at hv
  simp only[Bool.and_eq_true] at hv
  exact List.all_eq_true.1 hv.2
 have KF:=hid (aQG (cap:=cap) hl (by omega) w h)
 rw[hv] at KF
 have HP:=hid h
 have HA:=hid hall
 have HL:=hid hl
 have hB:=h.sz
 clear h hv
 refine(callsIn_wide (n:=3)).1 ?_
 refine callsIn_of_wp_marks Tryz.func18 rfl trivial ?_ rfl
 simp only[Tryz.ntmps18,List.size_toArray,List.length_cons,List.length_nil,Nat.reduceAdd,Nat.reduceSub,Array.replicate_succ,Array.replicate_zero,List.push_toArray,List.append_toArray,List.nil_append,List.cons_append]
 gi_wp2_with (first
  | (refine⟨trivial,?_⟩;gi_at_call 39;with_reducible refine(callsIn_wide.2 KF.out).mono ?_;rintro e w1 ⟨rfl,hb⟩;have HB:=hid hb;clear hb)
  | (refine⟨trivial,?_⟩;gi_at_call 53;refine(nL_ Fence.wide _ trivial rfl _ _ _ _).mono ?_;rintro e w' ⟨rfl,rfl⟩))
 obtain⟨W0,hW0⟩:∃W0,(w1.alloc (.cells #[.int .i64 0] 3))=W0:=⟨_,rfl⟩
 have bS:Boxed W0 w1.heap.size 3 (.int .i64 0):=by rw[←hW0];exact Boxed.new w1 3 _
 have hs0:W0.heap.size=w1.heap.size+1:=by rw[←hW0];simp
 have hB0:Below w1.heap.size w1 W0:=by rw[←hW0];exact(Below.refl _ _).alloc (Nat.le_refl _) _
 have bN:=Boxed.new W0 27 (.slice (some ⟨B,0,none⟩) n cap)
 rw[hs0] at bN
 rw[hW0]
 have hw1:=HB.out.size
 clear hW0
 have hB1:Below W0.heap.size W0 (W0.alloc (.cells #[.slice (some ⟨B,0,none⟩) n cap] 27)):=(Below.refl _ _).alloc (Nat.le_refl _) _
 refine wpIn_rangeFunc_ownH rfl (by omega) (gf:=77) (lb:=#[.pointer (some ⟨w1.heap.size+1,0,none⟩)]) rfl trivial (enters_of Tryz.func77 (by kernel_rfl) rfl)
  (pH_ Fence.wide _ trivial rfl (by omega) (w1.heap.size+1) w1.heap.size B cap n ps HA.out HL.out (by omega) (by omega) (W0.alloc (.cells #[.slice (some ⟨B,0,none⟩) n cap] 27)) bN.cell (by simp;omega) (by simp;omega) (((HP.out.below HB.out).below hB0).below hB1))
  aZ_.trans (hV_ (by simp;omega) (by simp;omega)) (Below.refl _ _) (fun _=>rfl)
  (fun pre W=>(W.cell? ⟨w1.heap.size,0,none⟩=some (.int .i64 (lF_ pre))∧W.frozen? ⟨w1.heap.size,0,none⟩=false∧w1.heap.size+2≤W.heap.size)∧Below w1.heap.size w1 W)
  (fun _ _ _=>False)
  ?I (fun _ _ _ _ _ hs _ _=>hs) ?h0
  (fun x a' W=>∃A C:Nat,a' = { tmps:=#[.slice (some ⟨B,0,none⟩) n cap,undef,.int .i64 0,.int .i64 0,.pointer (some ⟨w1.heap.size,0,none⟩),.pointer (some ⟨A,0,none⟩),.pointer (some ⟨C,0,none⟩),.slice (some ⟨B,0,none⟩) n cap,.bool true,.bool false,.slice (some ⟨B,0,none⟩) n cap,.func (.func 77) #[] #[.pointer (some ⟨w1.heap.size+1,0,none⟩)],.agg #[.int .i64 x.1.1.x,.int .i64 x.1.1.y],.agg #[.int .i64 x.1.2.x,.int .i64 x.1.2.y],undef,undef,undef,undef,undef,undef,undef,undef,undef,undef,undef,undef,undef,undef],defers:=[] }∧(W.cell? ⟨A,0,none⟩=some (.int .i64 x.1.1.x)∧W.cell? ⟨A,1,none⟩=some (.int .i64 x.1.1.y))∧(W.cell? ⟨C,0,none⟩=some (.int .i64 x.1.2.x)∧W.cell? ⟨C,1,none⟩=some (.int .i64 x.1.2.y)))
  ?hAx ?assign ?body ?done ?stop
 case I=>
  exact OwnFrom.and (Own.from (fun s A B row hs hg hr=>⟨cell_kept hs.1 hg hr,(frozen_kept hs.1 hg hr).trans hs.2.1,Nat.le_trans hs.2.2 hg.size⟩) _) (ownFrom_below (Nat.le_refl _) (by simp;omega))
 case h0=>exact⟨⟨(bS.alloc _).cell,(bS.alloc _).frozen,by simp;omega⟩,hB0.trans (hB1.mono (by omega))⟩
 case hAx=>
  rintro x a' _ X Y row ⟨A,C,e,⟨h1,h2⟩,h3,h4⟩ hg hr
  have hr':∀r,row=some r→∃o:Obj,X.heap[r]?=some o∧o.isCells=false:=fun r e=>(hr r e).2
  exact⟨A,C,e,⟨cell_kept h1 hg hr',cell_kept h2 hg hr'⟩,cell_kept h3 hg hr',cell_kept h4 hg hr'⟩
 case assign=>
  intro l pre x W K hI hK
  simp only[qE_]
  have HI:=hid hI
  have HK:=hid hK
  clear hI hK
  gi_wp2
  have hsz:=HI.out.1.2.2
  have hb2:Below W.heap.size W ((W.alloc (.cells #[.int .i64 x.1.1.x,.int .i64 x.1.1.y] 26)).alloc (.cells #[.int .i64 x.1.2.x,.int .i64 x.1.2.y] 26)):=((Below.refl _ _).alloc (Nat.le_refl _) _).alloc (by simp) _
  refine HK.out _ _ ((aR_ hb2).from _) (aZ_.of_below hb2 (by omega) (by omega)) ⟨⟨(hb2.cell (p:=⟨w1.heap.size,0,none⟩) (by show w1.heap.size<_;omega)).trans HI.out.1.1,(hb2.frozen (p:=⟨w1.heap.size,0,none⟩) (by show w1.heap.size<_;omega)).trans HI.out.1.2.1,Nat.le_trans hsz hb2.size⟩,HI.out.2.trans (hb2.mono (by omega))⟩ ⟨W.heap.size,W.heap.size+1,rfl,?_,?_⟩
  ·constructor <;> simp[go_sem]
  ·constructor <;> simp[go_sem]
 case body=>
  rintro l pre x a' W hl hr ⟨⟨hc,hf,hsz⟩,hB⟩ ⟨A,C,rfl,⟨h1,h2⟩,h3,h4⟩ hlen
  have b1:=vP_b x.2.1
  have b2:=vP_b x.2.2
  have m1:=mulb b1.1.1 b1.1.2 b2.2.1 b2.2.2
  have m2:=mulb b1.2.1 b1.2.2 b2.1.1 b2.1.2
  have hS:=aIF pre
  have hE:=yM_ x
  have HX:=hid (rZ_ pre x)
  unfold pZ_ at hE HX
  obtain⟨⟨⟨p,q⟩,hx⟩,hxe⟩:∃y:PE,y=x:=⟨x,rfl⟩
  subst hxe
  simp only at h1 h2 h3 h4 b1 b2 m1 m2 hE HX⊢
  generalize hpq:p.x*q.y=u at *
  generalize hqp:p.y*q.x=v at *
  have w1':IntKind.i64.wrap u=u:=IntWalk.i64_in _ (by omega)
  have w2':IntKind.i64.wrap v=v:=IntWalk.i64_in _ (by omega)
  have w3':IntKind.i64.wrap (u-v)=u-v:=IntWalk.i64_in _ (by omega)
  have w4':IntKind.i64.wrap (lF_ pre+(u-v))=lF_ pre+(u-v):=IntWalk.i64_in _ (by omega)
  clear hr b1 b2 m1 m2 hS hE
  gi_wp2
  refine⟨(KeepsOthers.setCell W _ _).from _,(aZ_.refl _ _ W).setCell (p:=⟨w1.heap.size,0,none⟩) (Nat.le_refl _) (by show w1.heap.size+1≠w1.heap.size;omega) _,⟨?_,?_,?_⟩,hB.setCell (p:=⟨w1.heap.size,0,none⟩) (Nat.le_refl _) _⟩
  ·rw[HX.out]
   exact World.cell?_setCell_same _ _ _ hc
  ·simpa[go_sem] using hf
  ·simpa using hsz
 case done=>
  rintro D ys W hD rfl ⟨⟨hc,hf,hsz⟩,hB⟩ hK
  rw[wS_] at hc
  gi_wp2
  have hD':w1.heap.size≤D:=by simp at hD;omega
  have hbl:=((HB.out.trans (hB.mono hw1))).trans (belowK_b (w:=w) (Nat.le_refl _) W D _ (.deferred none) (by omega) hK rfl rfl)
  refine⟨by simp,.inl ⟨_,_,rfl,run_takeDeferred hK,?_⟩⟩
  refine⟨.tuple #[.int .i64 (hF_ ps),.int .i64 0],?_,rfl,hbl⟩
  simp[results,Tryz.f18,go_sem]
 case stop=>
  rintro D c pre W _ _ hF
  exact hF.elim
theorem aJH {l M:List Pl} {n i j:Nat} {p q:Pl} (hM:M.length=n) (hj:j=n-1-i) (hij:i<j) (hjn:j<n) (hp:l[i]?=some p) (hq:l[j]?=some q)
  (h:∀k,k<n→M[k]?=if k<i∨n-1-k<i then l[n-1-k]? else l[k]?) :
  ∀k,k<n→((M.set i q).set j p)[k]?=if k<i+1∨n-1-k<i+1 then l[n-1-k]? else l[k]?:=by
 intro k hk
 by_cases h1:k=j
 ·subst h1
  rw[List.getElem?_set_self (by rw[List.length_set,hM];exact hk),if_pos (by omega),show n-1-k=i by omega,hp]
 ·rw[List.getElem?_set_ne (Ne.symm h1)]
  by_cases h2:k=i
  ·subst h2
   rw[List.getElem?_set_self (by rw[hM];exact hk),if_pos (by omega),show n-1-k=j by omega,hq]
  ·rw[List.getElem?_set_ne (Ne.symm h2),h k hk]
   by_cases h3:k<i∨n-1-k<i
   ·rw[if_pos h3,if_pos (by omega)]
   ·rw[if_neg h3,if_neg (by omega)]
theorem aJI {l M:List Pl} {n i:Nat} (hl:l.length=n) (hM:M.length=n) (hi:n≤i+i+1) (h:∀k,k<n→M[k]?=if k<i∨n-1-k<i then l[n-1-k]? else l[k]?):M=l.reverse:=by
 apply List.ext_getElem?
 intro k
 by_cases hk:k<n
 ·rw[h k hk,List.getElem?_reverse (by omega),hl]
  split
  ·rfl
  ·rename_i h1
   rw[show n-1-k=k by omega]
 ·rw[List.getElem?_eq_none (by omega),List.getElem?_eq_none (by simp;omega)]
theorem uS_ {B cap n:Nat} {l:List Pl} (hl:l.length=n) (hn1:1≤n) (hn:n≤1000000) {R:List (Nat×List Value)} {w W:World} (h:PzAt B l R w W) :
  Calls Tryz.prog 48 #[.slice (some ⟨B,0,none⟩) n cap] W fun e W'=>e=.returned (.tuple #[])∧PzAt B l.reverse R w W':=by
 have HL:=hid hl
 have H0:=hid h
 clear h hl
 go_enter Tryz.func48,Tryz.ntmps48
 go_wp2
 go_loopw [2,3] (fun v2 v3 wr=>∃(i:Nat) (M:List Pl),i≤n∧v2=.int .i64 (i:Int)∧v3=.int .i64 ((n:Int)-1-(i:Int))∧M.length=n∧PzAt B M R w wr∧∀k,k<n→M[k]?=if k<i∨n-1-k<i then l[n-1-k]? else l[k]?) (fun v2 _ _=>n-(intOf v2).toNat)
 case atStart=>exact⟨0,l,by omega,rfl,by go_num,HL.out,H0.out,fun k hk=>by simp⟩
 case round=>
  obtain⟨i,M,hi,rfl,rfl,hMl,hM,hR⟩:=hrel
  have HMl:=hid hMl
  have HM:=hid hM
  have HR:=hid hR
  clear hMl hM hR
  by_cases hlt:i+i+1<n
  ·obtain⟨j,hj⟩:∃j,j=n-1-i:=⟨_,rfl⟩
   rw[show(n:Int)-1-(i:Int)=(j:Int) by omega]
   have hij:i<j:=by omega
   have hjn:j<n:=by omega
   obtain⟨p,hp⟩:∃p,l[i]?=some p:=⟨l[i]'(by have:=HL.out;omega),List.getElem?_eq_getElem _⟩
   obtain⟨q,hq⟩:∃q,l[j]?=some q:=⟨l[j]'(by have:=HL.out;omega),List.getElem?_eq_getElem _⟩
   have hMi:M[i]?=some p:=by rw[HR.out i (by omega),if_neg (by omega),hp]
   have hMj:M[j]?=some q:=by rw[HR.out j (by omega),if_neg (by omega),hq]
   have HS:=hid (aJH HMl.out hj hij hjn hp hq HR.out)
   obtain⟨c0,c1⟩:=HM.out.ns.row i p hMi
   obtain⟨d0,d1⟩:=HM.out.ns.row j q hMj
   have f0:=HM.out.ns.fz (i*2) (by rw[HMl.out];omega)
   have f1:=HM.out.ns.fz (i*2+1) (by rw[HMl.out];omega)
   have f2:=HM.out.ns.fz (j*2) (by rw[HMl.out];omega)
   have f3:=HM.out.ns.fz (j*2+1) (by rw[HMl.out];omega)
   have hj2:=hid hj
   clear hp hq hMi hMj hj
   have i1:(0:Int)≤(i:Int):=by omega
   have i2:(i:Int)<(n:Int):=by omega
   have j1:(0:Int)≤(j:Int):=by omega
   have j2:(j:Int)<(n:Int):=by omega
   have ij:(i:Int)<(j:Int):=by omega
   have hw1:IntKind.i64.wrap ((i:Int)+1)=(i:Int)+1:=IntWalk.i64_in _ (by omega)
   have hw2:IntKind.i64.wrap ((j:Int)-1)=(j:Int)-1:=IntWalk.i64_in _ (by omega)
   go_wp2
   go_region
   all_goals
    go_wp2
    have H2:=((HM.out.set (k:=i) (by rw[HMl.out];omega) q).set (k:=j) (by rw[List.length_set,HMl.out];omega) p).drew
    refine⟨⟨i+1,(M.set i q).set j p,by omega,by go_num,?_,by rw[List.length_set,List.length_set,HMl.out],H2,HS.out⟩,by simp only[intOf];omega⟩
    have:=hj2.out
    congr 1
    omega
  ·have HE:=hid (aJI HL.out HMl.out (by omega) HR.out)
   have hlt2:decide ((i:Int)<(n:Int)-1-(i:Int))=false:=decide_eq_false (by omega)
   go_wp2
   go_end0
   rw[←HE.out]
   exact⟨rfl,HM.out⟩
end Go.Proofs.YtjfdefglpoancaaGreatDoor
namespace Go.Proofs.YtjfdefglpoancaaGreatDoor
open Go.RowKit Go.Shelf Go.Sort
attribute [local go_sem] Oper.semAt_some
def lenV:Value→Nat
 | .slice _ m _=>m
 | _=>0
theorem zM_ (ok:Pl→Pl→Pl→Bool) (x:Pl):∀r:List Pl,(popL ok x r).length≤r.length
 | []=>Nat.le_refl _
 | [_]=>Nat.le_refl _
 | b::a::l=>by
  unfold popL
  split
  ·exact Nat.le_refl _
  ·have:=zM_ ok x (a::l)
   simp only[List.length_cons] at this⊢
   omega
theorem zL_ (ok:Pl→Pl→Pl→Bool) (x:Pl):∀(r:List Pl) (q:Pl),q∈popL ok x r→q∈r
 | [],_,h=>h
 | [_],_,h=>h
 | b::a::l,q,h=>by
  unfold popL at h
  split at h
  ·exact h
  ·exact List.mem_cons_of_mem _ (zL_ ok x (a::l) q h)
theorem fE_ {ok:Pl→Pl→Pl→Bool} {l:List Pl} {k:Nat} {x:Pl} (hx:l[k]?=some x):aY_ ok (l.take (k+1))=x::popL ok x (aY_ ok (l.take k)):=by
 unfold aY_
 rw[List.take_add_one,hx,List.foldl_append]
 rfl
theorem rV_ (ok:Pl→Pl→Pl→Bool) (l:List Pl) (k:Nat) (hk:k≤l.length):(aY_ ok (l.take k)).length≤k:=by
 induction k with
 | zero=>simp[aY_]
 | succ k ih=>
  rw[fE_ (List.getElem?_eq_getElem (by omega))]
  have h1:=zM_ ok l[k] (aY_ ok (l.take k))
  have h2:=ih (by omega)
  simp only[List.length_cons]
  omega
theorem aCS (ok:Pl→Pl→Pl→Bool) (l:List Pl) (k:Nat) (hk:k≤l.length):∀q∈aY_ ok (l.take k),q∈l:=by
 induction k with
 | zero=>intro q hq;simp[aY_] at hq
 | succ k ih=>
  intro q hq
  rw[fE_ (List.getElem?_eq_getElem (by omega))] at hq
  rcases List.mem_cons.1 hq with rfl|hq
  ·exact List.getElem_mem _
  ·exact ih (by omega) q (zL_ ok _ _ q hq)
theorem OzAt.pop {e:TypeId} {g c n:Nat} {b a:Pl} {r:List Pl} {R:List (Nat×List Value)} {w W:World} (h:OzAt e (.slice (some ⟨g,0,none⟩) (n+2) c) (n+2) (plC (b::a::r).reverse) R w W) :
  OzAt e (.slice (some ⟨g,0,none⟩) (n+1) c) (n+1) (plC (a::r).reverse) R w W:=by
 refine⟨h.az,?_,h.ne⟩
 have e1:plC (b::a::r).reverse=plC (a::r).reverse++plC [b]:=by rw[List.reverse_cons,eO_]
 have h1:=h.own.1
 rw[e1,List.length_append,bC_,bC_,List.length_reverse] at h1
 simp only[List.length_cons,List.length_nil] at h1
 refine⟨by rw[bC_,List.length_reverse];simp only[List.length_cons];omega,?_⟩
 rcases h.own.2 with ⟨hv,_⟩|⟨g',cap,cur,hv,hb,hc,hn,hm,hs,ht⟩
 ·cases hv
 ·injection hv with hv1 hv2 hv3
  injection hv1 with hv1
  injection hv1 with hv1
  subst hv1
  subst hv3
  refine .inr ⟨g,c,cur,rfl,hb,hc,by omega,hm,hs,?_⟩
  rw[e1] at ht
  have h2:(n+1)*2=(plC (a::r).reverse).length:=by rw[bC_,List.length_reverse];simp only[List.length_cons];omega
  have h3:(cur.toList.take ((n+2)*2)).take ((n+1)*2)=cur.toList.take ((n+1)*2):=by rw[List.take_take];congr 1;omega
  rw[←h3,ht,h2,List.take_left]
theorem OzAt.cap_le {e:TypeId} {g c n:Nat} {xs:List Value} {R:List (Nat×List Value)} {w W:World} (h:OzAt e (.slice (some ⟨g,0,none⟩) n c) n xs R w W):n≤c∧c≤9223372036854775807:=by
 rcases h.own.2 with ⟨hv,_⟩|⟨g',cap,cur,hv,hb,hc,hn,hm,hs,ht⟩
 ·cases hv
 ·injection hv with hv1 hv2 hv3
  subst hv3
  unfold maxLen at hm
  omega
theorem lX_ {ok:Pl→Pl→Pl→Bool} {e:TypeId} {v:Value} {l r:List Pl} {k n:Nat} {x:Pl} {X:Nat} {xs:List Value} {R:List (Nat×List Value)} {w W:World} (hx:l[k]?=some x) (hn:r.length=n)
  (hp:r=popL ok x (aY_ ok (l.take k))) (h:OzAt e v (n+1) (plC r.reverse++[.int .i64 x.x,.int .i64 x.y]) ((X,xs)::R) w W) :
  (aY_ ok (l.take (k+1))).length=n+1∧OzAt e v (n+1) (plC (aY_ ok (l.take (k+1))).reverse) R w W:=by
 rw[fE_ hx,←hp]
 refine⟨by rw[List.length_cons,hn],?_⟩
 rw[List.reverse_cons,eO_]
 exact h.sub (fun u hu=>List.mem_cons_of_mem _ hu)
theorem uB_ {B cap n:Nat} {l:List Pl} (hl:l.length=n) (hn:n≤1000) (hv:∀p∈l,vP p=true) {W:World} (h:PsAt B l W) :
  Calls Tryz.prog 47 #[.slice (some ⟨B,0,none⟩) n cap,.func (.func 45) #[] #[]] W fun e W'=>∃v,e=.returned v∧Below W.heap.size W W'∧OzAt 26 v (aY_ aI_ l).length (plC (aW_ aI_ l)) [] W W':=by
 have HL:=hid hl
 have HV:=hid hv
 have HP:=hid h
 have H0:=hid (show OzAt 26 (.slice none 0 0) 0 (plC (aY_ aI_ (l.take 0)).reverse) [] W W from OzAt.nil (AzAt.start W) _)
 clear h hl hv
 obtain⟨i0,hi0,hz0,hz1,hz2⟩:=info_parts dO_
 have hB:B<W.heap.size:=HP.out.sz
 go_enter Tryz.func47,Tryz.ntmps47
 go_wp2
 go_loopw [5,10] (fun v5 v10 wr=>∃(k:Nat) (v:Value),k≤n∧v10=.int .i64 (k:Int)∧v=v5∧((v=.slice none 0 0∧k=0)∨∃g c m,v=.slice (some ⟨g,0,none⟩) m c)∧OzAt 26 v (aY_ aI_ (l.take k)).length (plC (aY_ aI_ (l.take k)).reverse) [] W wr) (fun _ v10 _=>n-(intOf v10).toNat)
 case atStart=>exact⟨0,_,by omega,rfl,rfl,.inl ⟨rfl,rfl⟩,H0.out⟩
 case round=>
  obtain⟨k,v,hk,rfl,rfl,hvk,hZ⟩:=hrel
  have HZ:=hid hZ
  clear hZ
  by_cases hlt:k<n
  ·obtain⟨x,hx⟩:∃x,l[k]?=some x:=⟨l[k]'(by have:=HL.out;omega),List.getElem?_eq_getElem _⟩
   obtain⟨c0,c1⟩:=(HP.out.below HZ.out.az.bw).row k x hx
   have sB:B<wr.heap.size:=Nat.lt_of_lt_of_le hB HZ.out.az.bw.size
   have vx:=HV.out x (List.mem_of_getElem? hx)
   have HX:=hid (And.intro hx vx)
   have hlen:=rV_ aI_ l k (by have:=HL.out;omega)
   have HMEM:=hid (aCS aI_ l k (by have:=HL.out;omega))
   have HZ1:=hid (HZ.out.push [.int .i64 x.x,.int .i64 x.y] 26)
   obtain⟨r0,hr0⟩:∃r0,r0=aY_ aI_ (l.take k):=⟨_,rfl⟩
   rw[←hr0] at hlen HMEM HZ1
   have HR0:=hid hr0
   clear hx vx hr0
   have hX:∃X,X=wr.heap.size:=⟨_,rfl⟩
   obtain⟨X,hX⟩:=hX
   rw[←hX] at HZ1
   rcases hvk with ⟨rfl,rfl⟩|⟨g,c,m,rfl⟩
   ·obtain rfl:r0=[]:=by rw[HR0.out];rfl
    go_wp2
    rw[←hX]
    generalize wr.alloc (.cells #[.int .i64 x.x,.int .i64 x.y] 26)=wA at HZ1⊢
    clear hX HZ c0 c1
    go_loopw [5] (fun v5 wq=>v5=.slice none 0 0∧OzAt 26 (.slice none 0 0) 0 (plC ([]:List Pl).reverse) [(X,[.int .i64 x.x,.int .i64 x.y])] W wq) (fun _ _=>0)
    case atStart=>exact⟨rfl,HZ1.out⟩
    case round=>
     obtain⟨rfl,hq⟩:=hrel
     have HQ:=hid hq
     clear hq
     have cl:=True.intro
     go_wp2
     refine wp_region_quiet_below (by kernel_rfl) (by kernel_rfl) ?_
     repeat (go_big_quiet_step (with_reducible first|exact cl _ _))
     refine wpQuiet_nil ?_
     intro W1 hw'
     have hb1:Below wr.heap.size wr W1:=by obtain⟨⟨dq,osq⟩,hw''⟩:=hw';rw[hw''];exact below_regrown wr dq osq
     have H1:=hid (HQ.out.below hb1)
     have hs1:=H1.out.az.bw.size
     clear hw' hb1
     have h_:=H1.out.az.row (X,[.int .i64 x.x,.int .i64 x.y]) (by simp)
     have y0:=h_.row 0 _ rfl
     have y1:=h_.row 1 _ rfl
     clear h_
     go_wp2_with (first
      | (at_builtin;refine wpList_append_own_at _ rfl _ _ 27 rfl W.heap.size 26 i0 (.agg #[.int .i64 0,.int .i64 0]) 2 16 Tryz.underlying27 hi0 hz0 hz1 hz2 rfl (by decide) (.slice none 0 0) 0 (plC ([]:List Pl).reverse) rfl (H1.out.own.alloc _) ⟨W1.heap.size,0,none⟩ 1 1 [.int .i64 x.x,.int .i64 x.y] rfl rfl (jP_ _ _ _ _) (by simp[Value.oneCell']) (by unfold maxLen;omega) (by omega) (by simp;omega) ?_;intro v' w7 hown' hgrow _ hat;have HZ7:=hid (H1.out.append hown' hgrow hat);clear hown' hgrow hat)
      | fail)
     obtain⟨g7,c7,rfl⟩:=ownsRow_succ HZ7.out.own
     have he:=lX_ HX.out.1 (r:=[]) rfl (by rw[←HR0.out];rfl) HZ7.out
     refine⟨⟨1,.slice (some ⟨g7,0,none⟩) (0+1) c7,by omega,by go_num,rfl,.inr ⟨g7,c7,0+1,rfl⟩,?_⟩,by simp only[intOf];omega⟩
     have h1:=he.1
     have h2:=he.2
     rw[Nat.zero_add] at h1 h2
     rw[h1]
     exact h2
   ·obtain rfl:r0.length=m:=(HZ1.out.blk rfl).2.2.1
    go_wp2
    rw[←hX]
    generalize wr.alloc (.cells #[.int .i64 x.x,.int .i64 x.y] 26)=wA at HZ1⊢
    clear hX HZ c0 c1
    go_loopw [5] (fun v5 wq=>∃(r:List Pl) (m:Nat),v5=.slice (some ⟨g,0,none⟩) m c∧r.length=m∧OzAt 26 (.slice (some ⟨g,0,none⟩) m c) m (plC r.reverse) [(X,[.int .i64 x.x,.int .i64 x.y])] W wq∧popL aI_ x r=popL aI_ x r0∧(∀q∈r,q∈l)∧m≤k) (fun v5 _=>lenV v5)
    case atStart=>exact⟨r0,r0.length,rfl,rfl,HZ1.out,rfl,HMEM.out,hlen⟩
    case round=>
     obtain⟨r,m,rfl,hrm,hq,hpop,hmem,hmk⟩:=hrel
     have HRM:=hid hrm
     have HQ:=hid hq
     have HPOP:=hid hpop
     have HME:=hid hmem
     clear hrm hq hpop hmem
     by_cases hm1:m≤1
     ·have HP2:=hid (show r=popL aI_ x (aY_ aI_ (l.take k)) from by
       rw[←HR0.out,←HPOP.out]
       have:=HRM.out
       match r,this with
       | [],_=>rfl
       | [_],_=>rfl
       | _::_::_,h=>simp at h;omega)
      have cl:=True.intro
      have hg1:decide ((1:Int)<(m:Int))=false:=decide_eq_false (by omega)
      have hg2:decide (1<m)=false:=decide_eq_false (by omega)
      go_wp2
      refine wp_region_quiet_below (by kernel_rfl) (by kernel_rfl) ?_
      repeat (go_big_quiet_step (with_reducible first|exact cl _ _))
      refine wpQuiet_nil ?_
      intro W1 hw'
      have hb1:Below wr.heap.size wr W1:=by obtain⟨⟨dq,osq⟩,hw''⟩:=hw';rw[hw''];exact below_regrown wr dq osq
      have H1:=hid (HQ.out.below hb1)
      have hs1:=H1.out.az.bw.size
      clear hw' hb1
      have h_:=H1.out.az.row (X,[.int .i64 x.x,.int .i64 x.y]) (by simp)
      have y0:=h_.row 0 _ rfl
      have y1:=h_.row 1 _ rfl
      clear h_
      go_wp2_with (first
       | (at_builtin;refine wpList_append_own_at _ rfl _ _ 27 rfl W.heap.size 26 i0 (.agg #[.int .i64 0,.int .i64 0]) 2 16 Tryz.underlying27 hi0 hz0 hz1 hz2 rfl (by decide) (.slice (some ⟨g,0,none⟩) m c) m (plC r.reverse) rfl (H1.out.own.alloc _) ⟨W1.heap.size,0,none⟩ 1 1 [.int .i64 x.x,.int .i64 x.y] rfl rfl (jP_ _ _ _ _) (by simp[Value.oneCell']) (by unfold maxLen;omega) (by omega) (by simp;omega) ?_;intro v' w7 hown' hgrow _ hat;have HZ7:=hid (H1.out.append hown' hgrow hat);clear hown' hgrow hat)
       | fail)
      obtain⟨g7,c7,rfl⟩:=ownsRow_succ HZ7.out.own
      have he:=lX_ HX.out.1 HRM.out HP2.out HZ7.out
      refine⟨⟨k+1,.slice (some ⟨g7,0,none⟩) (m+1) c7,by omega,by go_num,rfl,.inr ⟨g7,c7,m+1,rfl⟩,?_⟩,by simp only[intOf];omega⟩
      rw[he.1]
      exact he.2
     ·obtain⟨mp,rfl⟩:∃mp,m=mp+2:=⟨m-2,by omega⟩
      obtain⟨b,a,t,rfl⟩:∃b a t,r=b::a::t:=by
       have:=HRM.out
       match r,this with
       | [],h=>simp at h
       | [_],h=>simp at h
       | b::a::t,_=>exact⟨b,a,t,rfl⟩
      have ht:t.length=mp:=by have:=HRM.out;simp only[List.length_cons] at this;omega
      have hra:(b::a::t).reverse[mp]?=some a:=by simp[←ht]
      have hrb:(b::a::t).reverse[mp+1]?=some b:=by simp[←ht]
      have va:=HV.out a (HME.out a (by simp))
      have vb:=HV.out b (HME.out b (by simp))
      have vx:=HX.out.2
      have hrow:=HQ.out.pz.ns.row
      have a0:=cell_regrown (hrow mp a hra).1
      have a1:=cell_regrown (hrow mp a hra).2
      have b0:=cell_regrown (hrow (mp+1) b hrb).1
      have b1:=cell_regrown (hrow (mp+1) b hrb).2
      have h_:=HQ.out.az.row (X,[.int .i64 x.x,.int .i64 x.y]) (by simp)
      have x0:=cell_regrown (h_.row 0 _ rfl)
      have x1:=cell_regrown (h_.row 1 _ rfl)
      clear h_
      have hw1:IntKind.i64.wrap (mp:Int)=(mp:Int):=IntWalk.i64_in _ (by omega)
      have hw2:IntKind.i64.wrap ((mp:Int)+1)=(mp:Int)+1:=IntWalk.i64_in _ (by omega)
      have hw3:IntKind.i64.wrap ((mp:Int)+2-1)=(mp:Int)+1:=by rw[show(mp:Int)+2-1=(mp:Int)+1 by omega];exact hw2
      have hw4:IntKind.i64.wrap ((mp:Int)+2-2)=(mp:Int):=by rw[show(mp:Int)+2-2=(mp:Int) by omega];exact hw1
      have jz:(mp:Int)+1<(mp:Int)+2:=by omega
      have hcap:=HQ.out.cap_le
      have hc1:(mp:Int)+1≤(c:Int):=by omega
      have hc2:(mp:Int)+2≤(c:Int):=by omega
      have jz2:decide ((1:Int)<(mp:Int)+2)=true:=decide_eq_true (by omega)
      have jz1:(mp:Int)<(mp:Int)+2:=by omega
      have p0:(0:Int)≤(mp:Int)+1:=by omega
      have e0:((mp:Int)+1).toNat=mp+1:=by omega
      have KL:=hid (fun(U:World)=>left_s va vb vx U)
      clear hra hrb va vb vx hrow
      cases hlf:aI_ a b x with
      | true=>
       rw[hlf] at KL
       have HP2:=hid (show b::a::t=popL aI_ x (aY_ aI_ (l.take k)) from by
        rw[←HR0.out,←HPOP.out]
        unfold popL
        rw[hlf]
        rfl)
       have cl:=fun d os=>Calls.regrown_of (d:=d) (os:=os) (KL.out (grow (redrawn wr d) os))
       go_wp2
       refine wp_region_quiet_below (by kernel_rfl) (by kernel_rfl) ?_
       repeat (go_big_quiet_step (with_reducible first|exact cl _ _))
       refine wpQuiet_nil ?_
       intro W1 hw'
       have hb1:Below wr.heap.size wr W1:=by obtain⟨⟨dq,osq⟩,hw''⟩:=hw';rw[hw''];exact below_regrown wr dq osq
       have H1:=hid (HQ.out.below hb1)
       have hs1:=H1.out.az.bw.size
       clear hw' hb1 a0 a1 b0 b1 x0 x1 cl KL
       have h_:=H1.out.az.row (X,[.int .i64 x.x,.int .i64 x.y]) (by simp)
       have y0:=h_.row 0 _ rfl
       have y1:=h_.row 1 _ rfl
       clear h_
       go_wp2_with (first
        | (at_builtin;refine wpList_append_own_at _ rfl _ _ 27 rfl W.heap.size 26 i0 (.agg #[.int .i64 0,.int .i64 0]) 2 16 Tryz.underlying27 hi0 hz0 hz1 hz2 rfl (by decide) (.slice (some ⟨g,0,none⟩) (mp+2) c) (mp+2) (plC (b::a::t).reverse) rfl (H1.out.own.alloc _) ⟨W1.heap.size,0,none⟩ 1 1 [.int .i64 x.x,.int .i64 x.y] rfl rfl (jP_ _ _ _ _) (by simp[Value.oneCell']) (by unfold maxLen;omega) (by omega) (by simp;omega) ?_;intro v' w7 hown' hgrow _ hat;have HZ7:=hid (H1.out.append hown' hgrow hat);clear hown' hgrow hat)
        | fail)
       obtain⟨g7,c7,rfl⟩:=ownsRow_succ HZ7.out.own
       have he:=lX_ HX.out.1 HRM.out HP2.out HZ7.out
       refine⟨⟨k+1,.slice (some ⟨g7,0,none⟩) (mp+2+1) c7,by omega,by go_num,rfl,.inr ⟨g7,c7,mp+2+1,rfl⟩,?_⟩,by simp only[intOf];omega⟩
       rw[he.1]
       exact he.2
      | false=>
       rw[hlf] at KL
       have HP2:=hid (show popL aI_ x (a::t)=popL aI_ x r0 from by
        rw[←HPOP.out]
        show _=popL aI_ x (b::a::t)
        conv=>rhs;unfold popL
        rw[hlf]
        rfl)
       have cl:=fun d os=>Calls.regrown_of (d:=d) (os:=os) (KL.out (grow (redrawn wr d) os))
       go_wp2
       refine wp_region_quiet_below (by kernel_rfl) (by kernel_rfl) ?_
       repeat (go_big_quiet_step (with_reducible first|exact cl _ _))
       refine wpQuiet_nil ?_
       intro W1 hw'
       have hb1:Below wr.heap.size wr W1:=by obtain⟨⟨dq,osq⟩,hw''⟩:=hw';rw[hw''];exact below_regrown wr dq osq
       have H1:=hid (HQ.out.below hb1)
       have hs1:=H1.out.az.bw.size
       clear hw' hb1 a0 a1 b0 b1 x0 x1 cl KL
       go_wp2
       exact⟨⟨a::t,mp+1,rfl,by simp only[List.length_cons];omega,H1.out.pop,HP2.out,fun q hq=>HME.out q (List.mem_cons_of_mem _ hq),by omega⟩,by simp only[lenV];omega⟩
  ·obtain rfl:k=n:=by omega
   have HE:=hid (show OzAt 26 v (aY_ aI_ l).length (plC (aW_ aI_ l)) [] W wr from by
    have:=HZ.out
    rw[List.take_of_length_le (by rw[HL.out];exact Nat.le_refl _)] at this
    exact this)
   clear HZ
   go_wp2
   go_ret
   exact⟨v,rfl,HE.out.az.bw,HE.out⟩
end Go.Proofs.YtjfdefglpoancaaGreatDoor
