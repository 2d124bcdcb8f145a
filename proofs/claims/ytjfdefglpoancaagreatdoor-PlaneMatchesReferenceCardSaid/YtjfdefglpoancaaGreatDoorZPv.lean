/- - -/
import Derived.Shelf.RegionOpen
import Derived.Test.YtjfdefglpoancaaGreatDoorZPl14
import Derived.Test.YtjfdefglpoancaaGreatDoorZPl19
import Derived.Test.YtjfdefglpoancaaGreatDoorZPt
import Derived.Test.YtjfdefglpoancaaGreatDoorZPl2
import Derived.Test.YtjfdefglpoancaaGreatDoorZPl4
import Derived.Test.YtjfdefglpoancaaGreatDoorZOut
import Derived.Test.YtjfdefglpoancaaGreatDoorZAt
import Derived.Test.YtjfdefglpoancaaGreatDoorZBack
set_option maxHeartbeats 40000000
set_option maxRecDepth 1000000
open Go.Lib (hid)
namespace Go.Proofs.YtjfdefglpoancaaGreatDoor
open Go.RowKit Go.Shelf Go.Sort
attribute [local go_sem] Oper.semAt_some
def accO (r:Rc) (l:List PE):Option Rat:=(l.map (·.1)).foldl (hE_ r) (whO 0)
theorem wT_ (r:Rc) (l:List PE) (x:PE):accO r (l++[x])=hE_ r (accO r l) x.1:=by simp[accO]
theorem aIK (r:Rc) (l:List PE):FO (accO r l):=by
 unfold accO
 generalize hk:l.map (·.1)=k
 clear hk
 have key:∀(k:List (Pl×Pl)) (c:Option Rat),FO c→FO (k.foldl (hE_ r) c):=by
  intro k
  induction k with
  | nil=>intro c hc;exact hc
  | cons x k ih=>
   intro c _
   refine ih _ ?_
   unfold hE_
   split
   ·exact FO.sub _ _
   ·exact FO.add _ _
 exact key k _ (cM_ (by decide) (by decide))
theorem aBA (r:Rc) (ps:List Pl) (hv:∀p∈ps,vP p=true):accO r (bF_ ps hv)=bV_ ps r:=by
 unfold accO bV_
 rw[rM_]
theorem kG_ (a b:Pl) (r:Rc):FO (dR_ a b r):=by
 have key:∀(l:List (Option Rat)) (c:Option Rat),FO c→FO (sumO a b r l c):=by
  intro l
  induction l with
  | nil=>intro c hc;exact hc
  | cons s l ih=>
   intro c hc
   cases l with
   | nil=>exact hc
   | cons t l=>exact ih _ (FO.add _ _)
 unfold dR_
 split
 ·exact key _ _ (cM_ (by decide) (by decide))
 ·exact cM_ (by decide) (by decide)
theorem gV_ {S B0:Nat} {w4 W w6:World} {x y u v:Value} (hB:Below S w4 W) (hs:S+2≤W.heap.size) (h6:Below W.heap.size W w6) (c0:W.cell? ⟨S,0,none⟩=some x) (c1:W.cell? ⟨S,1,none⟩=some y)
  (f0:W.frozen? ⟨S,0,none⟩=false) (f1:W.frozen? ⟨S,1,none⟩=false) :
  KeepsFrom B0 W ((w6.setCell ⟨S,0,none⟩ u).setCell ⟨S,1,none⟩ v)∧aZ_ S (S+1) W ((w6.setCell ⟨S,0,none⟩ u).setCell ⟨S,1,none⟩ v)∧
   ((((w6.setCell ⟨S,0,none⟩ u).setCell ⟨S,1,none⟩ v).cell? ⟨S,0,none⟩=some u∧((w6.setCell ⟨S,0,none⟩ u).setCell ⟨S,1,none⟩ v).cell? ⟨S,1,none⟩=some v)∧
     (((w6.setCell ⟨S,0,none⟩ u).setCell ⟨S,1,none⟩ v).frozen? ⟨S,0,none⟩=false∧((w6.setCell ⟨S,0,none⟩ u).setCell ⟨S,1,none⟩ v).frozen? ⟨S,1,none⟩=false)∧
     S+2≤((w6.setCell ⟨S,0,none⟩ u).setCell ⟨S,1,none⟩ v).heap.size)∧Below S w4 ((w6.setCell ⟨S,0,none⟩ u).setCell ⟨S,1,none⟩ v):=by
 have hlt:S<W.heap.size:=by omega
 have d0:=(h6.cell (p:=⟨S,0,none⟩) hlt).trans c0
 have d1:=(h6.cell (p:=⟨S,1,none⟩) hlt).trans c1
 have g0:=(h6.frozen (p:=⟨S,0,none⟩) hlt).trans f0
 have g1:=(h6.frozen (p:=⟨S,1,none⟩) hlt).trans f1
 have n1:(⟨S,0,none⟩:Addr)≠⟨S,1,none⟩:=fun e=>by have:=congrArg Addr.off e;simp at this
 refine⟨((aR_ h6).trans ((KeepsOthers.setCell _ _ _).trans (KeepsOthers.setCell _ _ _))).from _,?_,⟨⟨?_,?_⟩,⟨?_,?_⟩,?_⟩,?_⟩
 ·exact((aZ_.of_below (n₀:=S) (Bs:=S+1) h6 (Nat.le_of_lt hlt) hs).setCell (p:=⟨S,0,none⟩) (Nat.le_refl _) (by show S+1≠S;omega) _).setCell (p:=⟨S,1,none⟩) (Nat.le_refl _) (by show S+1≠S;omega) _
 ·rw[World.cell?_setCell_other _ _ _ _ n1.symm]
  exact World.cell?_setCell_same _ _ _ d0
 ·exact World.cell?_setCell_same _ _ _ ((World.cell?_setCell_other _ _ _ _ n1).trans d1)
 ·simpa[go_sem] using g0
 ·simpa[go_sem] using g1
 ·have:=h6.size
  simp
  omega
 ·exact((hB.trans (h6.mono (by omega))).setCell (p:=⟨S,0,none⟩) (Nat.le_refl _) _).setCell (p:=⟨S,1,none⟩) (Nat.le_refl _) _
theorem wE_ {B cap n:Nat} {ps:List Pl} {r:Rc} (hl:ps.length=n) (hv:fewB ps=true) (hn:n≤12) (h3:3≤n) (hd:∀k p q,(cD_ ltP ps)[k]?=some p→(cD_ ltP ps)[k+1]?=some q→p≠q) (hh:aS_ ps=ps) (hr:vRc r=true)
  {w:World} (hi:IOps w) (hf:FrOp w) (h:PsAt B ps w) :
  Calls Tryz.prog 21 #[.slice (some ⟨B,0,none⟩) n cap,.agg #[.int .i64 r.x,.int .i64 r.y,.int .i64 r.w,.int .i64 r.h]] w fun e W'=>e=.returned (.tuple #[.agg #[.string (qN (bV_ ps r)),.string (qD (bV_ ps r))],.int .i64 0])∧Below w.heap.size w W':=by
 have hall:∀q∈ps,vP q=true:=by
  unfold fewB at hv
  simp only[Bool.and_eq_true] at hv
  exact List.all_eq_true.1 hv.2
 have K1:=hid (fun(W:World) (hb:Below w.heap.size w W)=>aMZ (cap:=cap) hl hv hn h3 hd W (h.below hb))
 rw[hh,hl] at K1
 have K2:=hid (fun(g c:Nat) (W:World) (hb:Below w.heap.size w W) (hg:PsAt g ps W)=>aQH (c1:=c) (c2:=cap) hl (by omega) W hg (h.below hb))
 have K3:=hid (fun(W:World)=>by have:=fR_ r W;rw[hr] at this;exact this)
 have K4:=hid (fun(W:World) (hb:Below w.heap.size w W)=>dG_ (n:=0) (by decide) (by decide) (hi.below hb) (hf.below hb))
 have HA:=hid hall
 have HP:=hid h
 have HL:=hid hl
 have HR:=hid hr
 have HI:=hid hi
 have HF:=hid hf
 have hB:=h.sz
 have H0:=hid (show AzAt [(w.heap.size+1,[.string ⟨#[]⟩,.string ⟨#[]⟩]),(w.heap.size,[.int .i64 r.x,.int .i64 r.y,.int .i64 r.w,.int .i64 r.h])] w _ from by
  have hp:=((AzAt.start w).push [.int .i64 r.x,.int .i64 r.y,.int .i64 r.w,.int .i64 r.h] 29).push [.string ⟨#[]⟩,.string ⟨#[]⟩] 47
  simp only[World.size_alloc] at hp
  exact hp)
 clear hall hv hh hr hi hf h hl hd
 refine(callsIn_wide (n:=3)).1 ?_
 refine callsIn_of_wp_marks Tryz.func21 rfl trivial ?_ rfl
 simp only[Tryz.ntmps21,List.size_toArray,List.length_cons,List.length_nil,Nat.reduceAdd,Nat.reduceSub,Array.replicate_succ,Array.replicate_zero,List.push_toArray,List.append_toArray,List.nil_append,List.cons_append]
 gi_wp2_with (first
  | (refine⟨trivial,?_⟩;gi_at_call 16;with_reducible refine(callsIn_wide.2 (K1.out _ H0.out.bw)).mono ?_;rintro e w1 ⟨⟨g,c,rfl,hg⟩,hb⟩;have H1:=hid (H0.out.below hb);have G1:=hid (PsAt.of hg);clear hb hg)
  | (refine⟨trivial,?_⟩;gi_at_call 54;with_reducible refine(callsIn_wide.2 (K2.out _ _ _ H1.out.bw G1.out)).mono ?_;rintro e w2 ⟨rfl,hb⟩;have H2:=hid (H1.out.below hb);clear hb;have h_:=H2.out.row (w.heap.size,[.int .i64 r.x,.int .i64 r.y,.int .i64 r.w,.int .i64 r.h]) (by simp);have x0:=h_.row 0 _ rfl;have x1:=h_.row 1 _ rfl;have x2:=h_.row 2 _ rfl;have x3:=h_.row 3 _ rfl;clear h_)
  | (refine⟨trivial,?_⟩;gi_at_call 8;with_reducible refine(callsIn_wide.2 (K3.out _)).mono ?_;rintro e w3 ⟨rfl,hb⟩;have H3:=hid (H2.out.below hb);clear hb x0 x1 x2 x3)
  | (refine⟨trivial,?_⟩;gi_at_call 55;with_reducible refine(callsIn_wide.2 (K4.out _ H3.out.bw)).mono ?_;rintro e w4 ⟨rfl,hb⟩;have H4:=hid (H3.out.below hb);clear hb)
  | (refine⟨trivial,?_⟩;gi_at_call 53;refine(nL_ Fence.wide _ trivial rfl _ _ _ _).mono ?_;rintro e w' ⟨rfl,rfl⟩))
 obtain⟨W0,hW0⟩:∃W0,(w4.alloc (.cells #[.string (qN (whO 0)),.string (qD (whO 0))] 74))=W0:=⟨_,rfl⟩
 have cS:=hid (show ArAt w4.heap.size [.string (qN (whO 0)),.string (qD (whO 0))] W0 from by rw[←hW0];exact ArAt.mk' w4 _ _)
 have hs0:W0.heap.size=w4.heap.size+1:=by rw[←hW0];simp
 have hB0:Below w4.heap.size w4 W0:=by rw[←hW0];exact(Below.refl _ _).alloc (Nat.le_refl _) _
 have bN:=Boxed.new W0 27 (.slice (some ⟨B,0,none⟩) n cap)
 rw[hs0] at bN
 rw[hW0]
 have hw4:=H4.out.bw.size
 have hRB:=(H4.out.row (w.heap.size,[.int .i64 r.x,.int .i64 r.y,.int .i64 r.w,.int .i64 r.h]) (by simp)).sz
 have hRES:=(H4.out.row (w.heap.size+1,[.string ⟨#[]⟩,.string ⟨#[]⟩]) (by simp)).sz
 simp only at hRB hRES
 clear hW0 K1 K2 K3 K4 H1 H2 H3 H0 G1
 have hB1:Below W0.heap.size W0 (W0.alloc (.cells #[.slice (some ⟨B,0,none⟩) n cap] 27)):=(Below.refl _ _).alloc (Nat.le_refl _) _
 refine wpIn_rangeFunc_ownH rfl (by omega) (gf:=77) (lb:=#[.pointer (some ⟨w4.heap.size+1,0,none⟩)]) rfl trivial (enters_of Tryz.func77 (by kernel_rfl) rfl)
  (pH_ Fence.wide _ trivial rfl (by omega) (w4.heap.size+1) w4.heap.size B cap n ps HA.out HL.out (by omega) (by omega) (W0.alloc (.cells #[.slice (some ⟨B,0,none⟩) n cap] 27)) bN.cell (by simp;omega) (by simp;omega) (((HP.out.below H4.out.bw).below hB0).below hB1))
  aZ_.trans (hV_ (by simp;omega) (by simp;omega)) (Below.refl _ _) (fun _=>rfl)
  (fun pre W=>((W.cell? ⟨w4.heap.size,0,none⟩=some (.string (qN (accO r pre)))∧W.cell? ⟨w4.heap.size,1,none⟩=some (.string (qD (accO r pre))))∧(W.frozen? ⟨w4.heap.size,0,none⟩=false∧W.frozen? ⟨w4.heap.size,1,none⟩=false)∧w4.heap.size+2≤W.heap.size)∧Below w4.heap.size w4 W)
  (fun _ _ _=>False)
  ?I (fun _ _ _ _ _ hs _ _=>hs) ?h0
  (fun x a' W=>∃A C:Nat,a' = { tmps:=#[.slice (some ⟨B,0,none⟩) n cap,.agg #[.int .i64 r.x,.int .i64 r.y,.int .i64 r.w,.int .i64 r.h],undef,.pointer (some ⟨w.heap.size,0,none⟩),.pointer (some ⟨w.heap.size+1,0,none⟩),.int .i64 0,.slice (some ⟨g,0,none⟩) n c,.int .i64 0,.pointer (some ⟨w4.heap.size,0,none⟩),.pointer (some ⟨A,0,none⟩),.pointer (some ⟨C,0,none⟩),.tuple #[.slice (some ⟨g,0,none⟩) n c,.int .i64 0],.slice (some ⟨B,0,none⟩) n cap,.tuple #[.slice (some ⟨g,0,none⟩) n c,.int .i64 0],.slice (some ⟨g,0,none⟩) n c,.int .i64 0,.int .i64 0,.bool false,.bool false,.slice (some ⟨g,0,none⟩) n c,.slice (some ⟨B,0,none⟩) n cap,.bool true,.bool false,.bool false,.bool false,.agg #[.int .i64 r.x,.int .i64 r.y,.int .i64 r.w,.int .i64 r.h],.bool true,.bool false,.bool false,undef,.agg #[.string (qN (whO 0)),.string (qD (whO 0))],.slice (some ⟨B,0,none⟩) n cap,.func (.func 77) #[] #[.pointer (some ⟨w4.heap.size+1,0,none⟩)],.agg #[.int .i64 x.1.1.x,.int .i64 x.1.1.y],.agg #[.int .i64 x.1.2.x,.int .i64 x.1.2.y],undef,undef,undef,undef,undef,undef,undef,undef,undef,undef,undef,undef,undef,undef,undef,undef,undef,undef,undef],defers:=[] }∧(W.cell? ⟨A,0,none⟩=some (.int .i64 x.1.1.x)∧W.cell? ⟨A,1,none⟩=some (.int .i64 x.1.1.y))∧(W.cell? ⟨C,0,none⟩=some (.int .i64 x.1.2.x)∧W.cell? ⟨C,1,none⟩=some (.int .i64 x.1.2.y)))
  ?hAx ?assign ?body ?done ?stop
 case I=>
  exact OwnFrom.and (Own.from (fun s A B row hs hg hr=>⟨⟨cell_kept hs.1.1 hg hr,cell_kept hs.1.2 hg hr⟩,⟨(frozen_kept hs.1.1 hg hr).trans hs.2.1.1,(frozen_kept hs.1.2 hg hr).trans hs.2.1.2⟩,Nat.le_trans hs.2.2 hg.size⟩) _) (ownFrom_below (Nat.le_refl _) (by simp;omega))
 case h0=>exact⟨⟨⟨(cS.out.al _).row 0 _ rfl,(cS.out.al _).row 1 _ rfl⟩,⟨(cS.out.al _).fz 0 (by simp),(cS.out.al _).fz 1 (by simp)⟩,by simp;omega⟩,hB0.trans (hB1.mono (by omega))⟩
 case hAx=>
  rintro x a' _ X Y row ⟨A,C,e,⟨h1,h2⟩,h3,h4⟩ hg hr
  have hr':∀r,row=some r→∃o:Obj,X.heap[r]?=some o∧o.isCells=false:=fun r e=>(hr r e).2
  exact⟨A,C,e,⟨cell_kept h1 hg hr',cell_kept h2 hg hr'⟩,cell_kept h3 hg hr',cell_kept h4 hg hr'⟩
 case assign=>
  intro l pre x W K hI hK
  simp only[qE_]
  have HI:=hid hI
  have HK:=hid hK
  clear hI hK
  gi_wp2
  have hsz:=HI.out.1.2.2
  have hb2:Below W.heap.size W ((W.alloc (.cells #[.int .i64 x.1.1.x,.int .i64 x.1.1.y] 26)).alloc (.cells #[.int .i64 x.1.2.x,.int .i64 x.1.2.y] 26)):=((Below.refl _ _).alloc (Nat.le_refl _) _).alloc (by simp) _
  have hlt:w4.heap.size<W.heap.size:=by omega
  refine HK.out _ _ ((aR_ hb2).from _) (aZ_.of_below hb2 (by omega) (by omega)) ⟨⟨⟨(hb2.cell (p:=⟨w4.heap.size,0,none⟩) hlt).trans HI.out.1.1.1,(hb2.cell (p:=⟨w4.heap.size,1,none⟩) hlt).trans HI.out.1.1.2⟩,⟨(hb2.frozen (p:=⟨w4.heap.size,0,none⟩) hlt).trans HI.out.1.2.1.1,(hb2.frozen (p:=⟨w4.heap.size,1,none⟩) hlt).trans HI.out.1.2.1.2⟩,Nat.le_trans hsz hb2.size⟩,HI.out.2.trans (hb2.mono (by omega))⟩ ⟨W.heap.size,W.heap.size+1,rfl,?_,?_⟩
  ·constructor <;> simp[go_sem]
  ·constructor <;> simp[go_sem]
 case body=>
  rintro l pre x a' W hl hr ⟨⟨⟨c0,c1⟩,⟨f0,f1⟩,hsz⟩,hBl⟩ ⟨A,C,rfl,⟨h1,h2⟩,h3,h4⟩ hlen
  obtain⟨⟨⟨p,q⟩,hx⟩,hxe⟩:∃y:PE,y=x:=⟨x,rfl⟩
  subst hxe
  simp only at h1 h2 h3 h4 hx⊢
  have HX:=hid (wT_ r pre ⟨(p,q),hx⟩)
  have fa:=aIK r pre
  generalize accO r pre=acc at c0 c1 HX fa
  have hbD:Below w.heap.size w W.drew:=(H4.out.bw.trans (hBl.mono hw4)).drew
  have hlt:w4.heap.size<W.heap.size:=by omega
  have hmx:Tryz.prog.follows .mixedOrders=true:=by kernel_rfl
  have x0:=(hBl.cell (p:=⟨w.heap.size,0,none⟩) hRB).trans ((H4.out.row (w.heap.size,[.int .i64 r.x,.int .i64 r.y,.int .i64 r.w,.int .i64 r.h]) (by simp)).row 0 _ rfl)
  have x1:=(hBl.cell (p:=⟨w.heap.size,1,none⟩) hRB).trans ((H4.out.row (w.heap.size,[.int .i64 r.x,.int .i64 r.y,.int .i64 r.w,.int .i64 r.h]) (by simp)).row 1 _ rfl)
  have x2:=(hBl.cell (p:=⟨w.heap.size,2,none⟩) hRB).trans ((H4.out.row (w.heap.size,[.int .i64 r.x,.int .i64 r.y,.int .i64 r.w,.int .i64 r.h]) (by simp)).row 2 _ rfl)
  have x3:=(hBl.cell (p:=⟨w.heap.size,3,none⟩) hRB).trans ((H4.out.row (w.heap.size,[.int .i64 r.x,.int .i64 r.y,.int .i64 r.w,.int .i64 r.h]) (by simp)).row 3 _ rfl)
  clear hr hl
  by_cases hle:p.x≤q.x
  ·have HN:=hid (show accO r (pre++[⟨(p,q),hx⟩])=miO acc (dR_ p q r) from by rw[HX.out];unfold hE_;rw[if_pos hle])
   have KU:=hid (fun(V:World) (hb:Below w.heap.size w V)=>sF_ hx.1 hx.2 HR.out (HI.out.below hb) (HF.out.below hb))
   have KM:=hid (fun(V:World) (hb:Below w.heap.size w V)=>oW_ fa (kG_ p q r) (HI.out.below hb))
   generalize dR_ p q r=u at KU KM HN
   obtain⟨nx,hnx⟩:∃nx,nx=miO acc u:=⟨_,rfl⟩
   rw[←hnx] at KM HN
   clear hnx
   gi_wp2
   gi_region_with_o (first
    | (refine⟨trivial,?_⟩;gi_at_call 57;(with_reducible refine(CallsIn.inRound l (callsIn_wide.2 (KU.out _ hbD))).mono ?_);rintro e w5 ⟨rfl,hb5⟩;have HB5:=hid hb5;have y0:=(hb5.cell (p:=⟨w4.heap.size,0,none⟩) hlt).trans c0;have y1:=(hb5.cell (p:=⟨w4.heap.size,1,none⟩) hlt).trans c1;clear hb5)
    | (refine⟨trivial,?_⟩;gi_at_call 56;(with_reducible refine(CallsIn.inRound l (callsIn_wide.2 (KM.out _ (hbD.trans (HB5.out.mono hbD.size))))).mono ?_);rintro e w6 ⟨rfl,hb6⟩;have HB6:=hid (HB5.out.trans (hb6.mono HB5.out.size));have z0:=(HB6.out.cell (p:=⟨w4.heap.size,0,none⟩) hlt).trans c0;have z1:=(HB6.out.cell (p:=⟨w4.heap.size,1,none⟩) hlt).trans c1;have g0:=(HB6.out.frozen (p:=⟨w4.heap.size,0,none⟩) hlt).trans f0;have g1:=(HB6.out.frozen (p:=⟨w4.heap.size,1,none⟩) hlt).trans f1;clear hb6)
    | fail)
   all_goals
    gi_wp2
    have cc:=gV_ (B0:=(W0.alloc (.cells #[.slice (some ⟨B,0,none⟩) n cap] 27)).heap.size) (u:=.string (qN nx)) (v:=.string (qD nx)) hBl hsz (show Below W.heap.size W _ from((Below.refl W.heap.size W).drew).trans HB6.out) c0 c1 f0 f1
    refine⟨cc.1,cc.2.1,?_⟩
    simp only[HN.out]
    exact cc.2.2
  ·have HN:=hid (show accO r (pre++[⟨(p,q),hx⟩])=plO acc (dR_ q p r) from by rw[HX.out];unfold hE_;rw[if_neg hle])
   have KU:=hid (fun(V:World) (hb:Below w.heap.size w V)=>sF_ hx.2 hx.1 HR.out (HI.out.below hb) (HF.out.below hb))
   have KM:=hid (fun(V:World) (hb:Below w.heap.size w V)=>qX_ fa (kG_ q p r) (HI.out.below hb))
   generalize dR_ q p r=u at KU KM HN
   obtain⟨nx,hnx⟩:∃nx,nx=plO acc u:=⟨_,rfl⟩
   rw[←hnx] at KM HN
   clear hnx
   gi_wp2
   gi_region_with_o (first
    | (refine⟨trivial,?_⟩;gi_at_call 57;(with_reducible refine(CallsIn.inRound l (callsIn_wide.2 (KU.out _ hbD))).mono ?_);rintro e w5 ⟨rfl,hb5⟩;have HB5:=hid hb5;have y0:=(hb5.cell (p:=⟨w4.heap.size,0,none⟩) hlt).trans c0;have y1:=(hb5.cell (p:=⟨w4.heap.size,1,none⟩) hlt).trans c1;clear hb5)
    | (refine⟨trivial,?_⟩;gi_at_call 58;(with_reducible refine(CallsIn.inRound l (callsIn_wide.2 (KM.out _ (hbD.trans (HB5.out.mono hbD.size))))).mono ?_);rintro e w6 ⟨rfl,hb6⟩;have HB6:=hid (HB5.out.trans (hb6.mono HB5.out.size));have z0:=(HB6.out.cell (p:=⟨w4.heap.size,0,none⟩) hlt).trans c0;have z1:=(HB6.out.cell (p:=⟨w4.heap.size,1,none⟩) hlt).trans c1;have g0:=(HB6.out.frozen (p:=⟨w4.heap.size,0,none⟩) hlt).trans f0;have g1:=(HB6.out.frozen (p:=⟨w4.heap.size,1,none⟩) hlt).trans f1;clear hb6)
    | fail)
   all_goals
    gi_wp2
    have cc:=gV_ (B0:=(W0.alloc (.cells #[.slice (some ⟨B,0,none⟩) n cap] 27)).heap.size) (u:=.string (qN nx)) (v:=.string (qD nx)) hBl hsz (show Below W.heap.size W _ from((Below.refl W.heap.size W).drew).trans HB6.out) c0 c1 f0 f1
    refine⟨cc.1,cc.2.1,?_⟩
    simp only[HN.out]
    exact cc.2.2
 case done=>
  rintro D ys W hD rfl ⟨⟨⟨c0,c1⟩,⟨f0,f1⟩,hsz⟩,hBl⟩ hK
  rw[aBA] at c0 c1
  have HRES:=hid (AzAt.mk (L:=[(w.heap.size+1,[.string ⟨#[]⟩,.string ⟨#[]⟩])]) (H4.out.bw.trans (hBl.mono hw4)) (fun u hu=>by
   obtain rfl:u=(w.heap.size+1,[.string ⟨#[]⟩,.string ⟨#[]⟩]):=by simpa using hu
   exact(H4.out.row (w.heap.size+1,[.string ⟨#[]⟩,.string ⟨#[]⟩]) (by simp)).of_block (hBl.block _ hRES) hBl.size))
  have h_:=HRES.out.row (w.heap.size+1,[.string ⟨#[]⟩,.string ⟨#[]⟩]) (by simp)
  have y0:=h_.row 0 _ rfl
  have y1:=h_.row 1 _ rfl
  have g0:=h_.fz 0 (by simp)
  have g1:=h_.fz 1 (by simp)
  clear h_
  obtain⟨sn,hsn⟩:∃sn,sn=qN (bV_ ps r):=⟨_,rfl⟩
  obtain⟨sd,hsd⟩:∃sd,sd=qD (bV_ ps r):=⟨_,rfl⟩
  rw[←hsn] at c0
  rw[←hsd] at c1
  have HSN:=hid (And.intro hsn hsd)
  clear hsn hsd
  gi_wp2
  have hp:=HRES.out.set2 (by omega) (by simp <;> omega) (.string sn) (.string sd)
  generalize hWF:((W.setCell ⟨w.heap.size+1,0,none⟩ (.string sn)).setCell ⟨w.heap.size+1,1,none⟩ (.string sd))=WF at hp⊢
  have hD':w4.heap.size+2≤D:=by simp[hs0] at hD;omega
  have hKF:WF.heap[D]?=some (.deferred (some [])):=by
   rw[←hWF]
   rw[Below.heap_setCell _ _ _ _ (by show D≠w.heap.size+1;omega),Below.heap_setCell _ _ _ _ (by show D≠w.heap.size+1;omega)]
   exact hK
  have hbl:=hp.bw.trans (belowK_b (w:=w) (Nat.le_refl _) WF D _ (.deferred none) (by omega) hKF rfl rfl)
  have q0:(WF.putObj D (.deferred none)).cell? ⟨w.heap.size+1,0,none⟩=some (.string sn):=(World.cell?_of_block (w:=WF) (World.putObj_heap_other (by show w.heap.size+1≠D;omega))).trans ((hp.row (w.heap.size+1,[.string sn,.string sd]) (by simp)).row 0 _ rfl)
  have q1:(WF.putObj D (.deferred none)).cell? ⟨w.heap.size+1,1,none⟩=some (.string sd):=(World.cell?_of_block (w:=WF) (World.putObj_heap_other (by show w.heap.size+1≠D;omega))).trans ((hp.row (w.heap.size+1,[.string sn,.string sd]) (by simp)).row 1 _ rfl)
  refine⟨by simp,.inl ⟨_,_,rfl,run_takeDeferred hKF,?_⟩⟩
  refine⟨.tuple #[.agg #[.string sn,.string sd],.int .i64 0],?_,by rw[HSN.out.1,HSN.out.2],hbl⟩
  simp[results,Tryz.f21,go_sem,Result.andThen,q0,q1]
 case stop=>
  rintro D c pre W _ _ hF
  exact hF.elim
def noEq:List Pl→Bool
 | x::y::l=>!(x==y)&&noEq (y::l)
 | _=>true
theorem kV_:∀{l:List Pl},noEq l=true→∀k p q,l[k]?=some p→l[k+1]?=some q→p≠q
 | [],_,k,p,q,h,_=>by simp at h
 | [x],_,k,p,q,_,h=>by simp at h
 | x::y::l,hn,k,p,q,h1,h2=>by
  simp only[noEq,Bool.and_eq_true,Bool.not_eq_true'] at hn
  cases k with
  | zero=>
   cases h1
   cases h2
   intro e
   rw[e] at hn
   simp at hn
  | succ k=>exact kV_ (l:=y::l) hn.2 k p q (by simpa using h1) (by simpa using h2)
theorem aKO (w:World) :
  Calls Tryz.prog 16 #[.slice none 0 0] w fun e W'=>e=.returned (.tuple #[.slice none 0 0,.int .i64 70])∧Below w.heap.size w W':=by
 have KI:=hid (fun W=>in_f (n:=0) (lo:=1) (hi:=40) (by omega) W)
 have KF:=hid (show Calls Tryz.prog 39 #[.slice none 0 0] w fun e W'=>e=.returned (.bool false)∧Below w.heap.size w W' from by
  go_enter Tryz.func39,Tryz.ntmps39
  go_wp2_with (go_at_call 35;(with_reducible refine(KI.out _).mono ?_);rintro e w' ⟨rfl,rfl⟩)
  go_ret
  exact⟨rfl,Below.refl _ _⟩)
 clear KI
 go_enter Tryz.func16,Tryz.ntmps16
 go_wp2_with (go_at_call 39;(with_reducible refine(KF.out).mono ?_);rintro e w' ⟨rfl,hb⟩)
 refine bodyPost_ret (v:=.tuple #[.slice none 0 0,.int .i64 70]) ?_ rfl ⟨rfl,hb⟩
 simp[results,Tryz.results16,go_sem]
theorem aQD (W:World) :
  Calls Tryz.prog 16 #[.slice (some ⟨W.heap.size,0,none⟩) 5 5] (W.alloc (.cells #[.int .i64 0,.int .i64 0,.int .i64 2,.int .i64 0,.int .i64 1,.int .i64 1,.int .i64 2,.int .i64 2,.int .i64 0,.int .i64 2] 26)) fun e W'=>(∃g c,e=.returned (.tuple #[.slice (some ⟨g,0,none⟩) 4 c,.int .i64 0])∧ArAt g [.int .i64 0,.int .i64 0,.int .i64 2,.int .i64 0,.int .i64 2,.int .i64 2,.int .i64 0,.int .i64 2] W')∧Below (W.alloc (.cells #[.int .i64 0,.int .i64 0,.int .i64 2,.int .i64 0,.int .i64 1,.int .i64 1,.int .i64 2,.int .i64 2,.int .i64 0,.int .i64 2] 26)).heap.size (W.alloc (.cells #[.int .i64 0,.int .i64 0,.int .i64 2,.int .i64 0,.int .i64 1,.int .i64 1,.int .i64 2,.int .i64 2,.int .i64 0,.int .i64 2] 26)) W':=by
 have h:=aMZ (cap:=5) (n:=5) (B:=W.heap.size) (ps:=[⟨0,0⟩,⟨2,0⟩,⟨1,1⟩,⟨2,2⟩,⟨0,2⟩]) rfl (by decide) (by decide) (by decide) (kV_ (by decide +kernel)) _ (PsAt.of (ArAt.mk' W [.int .i64 0,.int .i64 0,.int .i64 2,.int .i64 0,.int .i64 1,.int .i64 1,.int .i64 2,.int .i64 2,.int .i64 0,.int .i64 2] 26))
 rw[aJU] at h
 exact h
theorem cov1_s {T:Nat} {W:World} (hi:IOps W) (hf:FrOp W) (h:PsAt T [⟨0,0⟩,⟨2,0⟩,⟨0,2⟩] W) :
  Calls Tryz.prog 21 #[.slice (some ⟨T,0,none⟩) 3 3,.agg #[.int .i64 0,.int .i64 0,.int .i64 1,.int .i64 1]] W fun e W'=>e=.returned (.tuple #[.agg #[.string (qN (aO_ 1 1)),.string (qD (aO_ 1 1))],.int .i64 0])∧Below W.heap.size W W':=by
 have h:=wE_ (cap:=3) (n:=3) (B:=T) (ps:=[⟨0,0⟩,⟨2,0⟩,⟨0,2⟩]) (r:=⟨0,0,1,1⟩) rfl (by decide) (by decide) (by decide) (kV_ (by decide +kernel)) zP_ (by decide) hi hf h
 rw[show bV_ [⟨0,0⟩,⟨2,0⟩,⟨0,2⟩] ⟨0,0,1,1⟩=aO_ 1 1 by rw[aJT];decide +kernel] at h
 exact h
theorem cov2_s {T:Nat} {W:World} (hi:IOps W) (hf:FrOp W) (h:PsAt T [⟨0,0⟩,⟨2,0⟩,⟨0,2⟩] W) :
  Calls Tryz.prog 21 #[.slice (some ⟨T,0,none⟩) 3 3,.agg #[.int .i64 0,.int .i64 0,.int .i64 2,.int .i64 1]] W fun e W'=>e=.returned (.tuple #[.agg #[.string (qN (aO_ 3 2)),.string (qD (aO_ 3 2))],.int .i64 0])∧Below W.heap.size W W':=by
 have h:=wE_ (cap:=3) (n:=3) (B:=T) (ps:=[⟨0,0⟩,⟨2,0⟩,⟨0,2⟩]) (r:=⟨0,0,2,1⟩) rfl (by decide) (by decide) (by decide) (kV_ (by decide +kernel)) zP_ (by decide) hi hf h
 rw[show bV_ [⟨0,0⟩,⟨2,0⟩,⟨0,2⟩] ⟨0,0,2,1⟩=aO_ 3 2 by rw[aJS];decide +kernel] at h
 exact h
theorem aLY {T:Nat} {W:World} (h:PsAt T [⟨0,0⟩,⟨2,0⟩,⟨0,2⟩] W) :
  Calls Tryz.prog 18 #[.slice (some ⟨T,0,none⟩) 3 3] W fun e W'=>e=.returned (.tuple #[.int .i64 4,.int .i64 0])∧Below W.heap.size W W':=by
 have h:=aRE (cap:=3) (n:=3) (B:=T) (ps:=[⟨0,0⟩,⟨2,0⟩,⟨0,2⟩]) rfl (by decide) W h
 rw[aJR] at h
 exact h
theorem aCZ {T:Nat} {W:World} (h:PsAt T [⟨0,0⟩,⟨2,0⟩,⟨0,2⟩] W) :
  Calls Tryz.prog 14 #[.slice (some ⟨T,0,none⟩) 3 3] W fun e W'=>e=.returned (.tuple #[.agg #[.int .i64 0,.int .i64 0,.int .i64 2,.int .i64 2],.int .i64 0])∧Below W.heap.size W W':=
 aLV (cap:=3) (n:=3) (B:=T) (p:=⟨0,0⟩) (l:=[⟨2,0⟩,⟨0,2⟩]) rfl (by decide) W h
theorem aQO {W:World} (hi:IOps W) (hf:FrOp W) :
  Calls Tryz.prog 23 #[.agg #[.int .i64 0,.int .i64 2],.agg #[.int .i64 0,.int .i64 0],.agg #[.int .i64 2,.int .i64 2]] W fun e W'=>e=.returned (.tuple #[.agg #[.string (qN (aO_ 2 1)),.string (qD (aO_ 2 1))],.int .i64 0])∧Below W.heap.size W W':=by
 have h:=tQ_ (p:=⟨0,2⟩) (a:=⟨0,0⟩) (b:=⟨2,2⟩) (by decide) (by decide) (by decide) hi hf
 rw[show some (dRat ⟨0,2⟩ ⟨0,0⟩ ⟨2,2⟩)=aO_ 2 1 by decide +kernel] at h
 exact h
theorem aQN {W:World} (hi:IOps W) (hf:FrOp W) :
  Calls Tryz.prog 23 #[.agg #[.int .i64 0,.int .i64 2],.agg #[.int .i64 2,.int .i64 0],.agg #[.int .i64 4,.int .i64 0]] W fun e W'=>e=.returned (.tuple #[.agg #[.string (qN (aO_ 8 1)),.string (qD (aO_ 8 1))],.int .i64 0])∧Below W.heap.size W W':=by
 have h:=tQ_ (p:=⟨0,2⟩) (a:=⟨2,0⟩) (b:=⟨4,0⟩) (by decide) (by decide) (by decide) hi hf
 rw[show some (dRat ⟨0,2⟩ ⟨2,0⟩ ⟨4,0⟩)=aO_ 8 1 by decide +kernel] at h
 exact h
theorem aOB (W:World) :
  Calls Tryz.prog 25 #[.agg #[.int .i64 0,.int .i64 0],.agg #[.int .i64 2,.int .i64 0],.agg #[.int .i64 1,.int .i64 1]] W fun e W'=>e=.returned (.int .i64 1)∧Below W.heap.size W W':=by
 have h:=qQ_ ⟨0,0⟩ ⟨2,0⟩ ⟨1,1⟩ W
 rw[show dH_ ⟨0,0⟩ ⟨2,0⟩ ⟨1,1⟩=1 by decide] at h
 exact h
theorem aLD (W:World) :
  Calls Tryz.prog 27 #[.agg #[.int .i64 0,.int .i64 0],.agg #[.int .i64 2,.int .i64 2],.agg #[.int .i64 0,.int .i64 2],.agg #[.int .i64 2,.int .i64 0]] W fun e W'=>e=.returned (.bool true)∧Below W.heap.size W W':=by
 have h:=yB_ ⟨0,0⟩ ⟨2,2⟩ ⟨0,2⟩ ⟨2,0⟩ W
 rw[show cX_ ⟨0,0⟩ ⟨2,2⟩ ⟨0,2⟩ ⟨2,0⟩=true by decide] at h
 exact h
theorem aLC (W:World) :
  Calls Tryz.prog 27 #[.agg #[.int .i64 0,.int .i64 0],.agg #[.int .i64 1,.int .i64 1],.agg #[.int .i64 2,.int .i64 2],.agg #[.int .i64 3,.int .i64 3]] W fun e W'=>e=.returned (.bool false)∧Below W.heap.size W W':=by
 have h:=yB_ ⟨0,0⟩ ⟨1,1⟩ ⟨2,2⟩ ⟨3,3⟩ W
 rw[show cX_ ⟨0,0⟩ ⟨1,1⟩ ⟨2,2⟩ ⟨3,3⟩=false by decide] at h
 exact h
theorem vr1_s (W:World) :
  Calls Tryz.prog 8 #[.agg #[.int .i64 0,.int .i64 0,.int .i64 2,.int .i64 2]] W fun e W'=>e=.returned (.bool true)∧Below W.heap.size W W':=by
 have h:=fR_ ⟨0,0,2,2⟩ W
 rw[show vRc ⟨0,0,2,2⟩=true by decide] at h
 exact h
theorem vr2_s (W:World) :
  Calls Tryz.prog 8 #[.agg #[.int .i64 4095,.int .i64 0,.int .i64 1,.int .i64 0]] W fun e W'=>e=.returned (.bool false)∧Below W.heap.size W W':=by
 have h:=fR_ ⟨4095,0,1,0⟩ W
 rw[show vRc ⟨4095,0,1,0⟩=false by decide] at h
 exact h
theorem aIX (W:World) :
  Calls Tryz.prog 10 #[.agg #[.int .i64 0,.int .i64 0,.int .i64 2,.int .i64 2],.agg #[.int .i64 2,.int .i64 0,.int .i64 3,.int .i64 1]] W fun e W'=>e=.returned (.bool true)∧Below W.heap.size W W':=by
 have h:=sI_ ⟨0,0,2,2⟩ ⟨2,0,3,1⟩ W
 rw[show hM_ ⟨0,0,2,2⟩ ⟨2,0,3,1⟩=true by decide] at h
 exact h
theorem aIW (W:World) :
  Calls Tryz.prog 10 #[.agg #[.int .i64 0,.int .i64 0,.int .i64 2,.int .i64 2],.agg #[.int .i64 3,.int .i64 0,.int .i64 0,.int .i64 0]] W fun e W'=>e=.returned (.bool false)∧Below W.heap.size W W':=by
 have h:=sI_ ⟨0,0,2,2⟩ ⟨3,0,0,0⟩ W
 rw[show hM_ ⟨0,0,2,2⟩ ⟨3,0,0,0⟩=false by decide] at h
 exact h
theorem aFW (W:World) :
  Calls Tryz.prog 12 #[.agg #[.int .i64 1,.int .i64 0,.int .i64 1,.int .i64 0],.agg #[.int .i64 0,.int .i64 0,.int .i64 2,.int .i64 2]] W fun e W'=>e=.returned (.bool true)∧Below W.heap.size W W':=by
 have h:=nH_ ⟨1,0,1,0⟩ ⟨0,0,2,2⟩ W
 rw[show eZ_ ⟨1,0,1,0⟩ ⟨0,0,2,2⟩=true by decide] at h
 exact h
theorem aFV (W:World) :
  Calls Tryz.prog 12 #[.agg #[.int .i64 0,.int .i64 0,.int .i64 2,.int .i64 2],.agg #[.int .i64 1,.int .i64 0,.int .i64 1,.int .i64 0]] W fun e W'=>e=.returned (.bool false)∧Below W.heap.size W W':=by
 have h:=nH_ ⟨0,0,2,2⟩ ⟨1,0,1,0⟩ W
 rw[show eZ_ ⟨0,0,2,2⟩ ⟨1,0,1,0⟩=false by decide] at h
 exact h
theorem vp1_s (W:World) :
  Calls Tryz.prog 29 #[.agg #[.int .i64 0,.int .i64 4095]] W fun e W'=>e=.returned (.bool true)∧Below W.heap.size W W':=by
 have h:=iI_ ⟨0,4095⟩ W
 rw[show vP ⟨0,4095⟩=true by decide] at h
 exact h
theorem vp2_s (W:World) :
  Calls Tryz.prog 29 #[.agg #[.int .i64 0,.int .i64 4096]] W fun e W'=>e=.returned (.bool false)∧Below W.heap.size W W':=by
 have h:=iI_ ⟨0,4096⟩ W
 rw[show vP ⟨0,4096⟩=false by decide] at h
 exact h
theorem aOD {B C c1 c2:Nat} {W:World} (h1:PsAt B [⟨0,0⟩,⟨2,0⟩,⟨2,2⟩,⟨0,2⟩] W) (h2:PsAt C [⟨0,0⟩,⟨2,0⟩,⟨2,2⟩,⟨0,2⟩] W) :
  Calls Tryz.prog 20 #[.slice (some ⟨B,0,none⟩) 4 c1,.slice (some ⟨C,0,none⟩) 4 c2] W fun e W'=>e=.returned (.bool true)∧Below W.heap.size W W':=by
 have h:=same_s (c1:=c1) (c2:=c2) (n:=4) (m:=4) (ps:=[⟨0,0⟩,⟨2,0⟩,⟨2,2⟩,⟨0,2⟩]) (qs:=[⟨0,0⟩,⟨2,0⟩,⟨2,2⟩,⟨0,2⟩]) rfl rfl (by decide) (by decide) W h1 h2
 rw[decide_eq_true rfl] at h
 exact h
theorem yZ_ {B:Nat} {W:World} (h:ArAt B [.int .i64 0,.int .i64 0,.int .i64 2,.int .i64 0,.int .i64 0,.int .i64 2] W):PsAt B [⟨0,0⟩,⟨2,0⟩,⟨0,2⟩] W:=PsAt.of h
theorem aGI {B:Nat} {W:World} (h:ArAt B [.int .i64 0,.int .i64 0,.int .i64 2,.int .i64 0,.int .i64 2,.int .i64 2,.int .i64 0,.int .i64 2] W):PsAt B [⟨0,0⟩,⟨2,0⟩,⟨2,2⟩,⟨0,2⟩] W:=PsAt.of h
theorem aOC {w:World} (hi:IOps w) (hf:FrOp w):Calls Tryz.prog 4 #[] w fun e W'=>e=.returned (.bool true)∧Below w.heap.size w W':=by
 have hmx:Tryz.prog.follows .mixedOrders=true:=by kernel_rfl
 have D1:=hid (fun(W:World) (hb:Below w.heap.size w W)=>aQO (hi.below hb) (hf.below hb))
 have D2:=hid (fun(W:World) (hb:Below w.heap.size w W)=>aQN (hi.below hb) (hf.below hb))
 have C1:=hid (fun(W:World) (T:Nat) (hp:PsAt T [⟨0,0⟩,⟨2,0⟩,⟨0,2⟩] W) (hb:Below w.heap.size w W)=>cov1_s (hi.below hb) (hf.below hb) hp)
 have C2:=hid (fun(W:World) (T:Nat) (hp:PsAt T [⟨0,0⟩,⟨2,0⟩,⟨0,2⟩] W) (hb:Below w.heap.size w W)=>cov2_s (hi.below hb) (hf.below hb) hp)
 have R1:=hid (fun(W:World)=>sQ_ (n:=2) (d:=1) (by decide) (by decide) (by decide) (by decide) (by decide) W)
 have R2:=hid (fun(W:World)=>sQ_ (n:=8) (d:=1) (by decide) (by decide) (by decide) (by decide) (by decide) W)
 have R3:=hid (fun(W:World)=>sQ_ (n:=1) (d:=1) (by decide) (by decide) (by decide) (by decide) (by decide) W)
 have R4:=hid (fun(W:World)=>sQ_ (n:=3) (d:=2) (by decide) (by decide) (by decide) (by decide) (by decide) W)
 clear hi hf
 generalize qN (aO_ 2 1)=n1 at D1 R1
 generalize qD (aO_ 2 1)=d1 at D1 R1
 generalize qN (aO_ 8 1)=n2 at D2 R2
 generalize qD (aO_ 8 1)=d2 at D2 R2
 generalize qN (aO_ 1 1)=n3 at C1 R3
 generalize qD (aO_ 1 1)=d3 at C1 R3
 generalize qN (aO_ 3 2)=n4 at C2 R4
 generalize qD (aO_ 3 2)=d4 at C2 R4
 have HC:=hid (AzAt.start w)
 go_enter Tryz.func4,Tryz.ntmps4
 go_wp2_with (first
  | (go_at_call 31;(with_reducible refine(at_s _ _ _).mono ?_);rintro e w' ⟨rfl,hb⟩;replace HC:=hid (HC.out.below hb);clear hb)
  | (go_at_call 23;(with_reducible refine(D1.out _ HC.out.bw).mono ?_);rintro e wA ⟨rfl,hb⟩;replace HC:=hid ((HC.out.below hb).push [.string n1,.string d1] 47);clear hb)
  | (go_at_call 23;(with_reducible refine(D2.out _ HC.out.bw).mono ?_);rintro e wB ⟨rfl,hb⟩;replace HC:=hid ((HC.out.below hb).push [.string n2,.string d2] 47);clear hb)
  | (go_at_call 16;(with_reducible refine(aQD _).mono ?_);rintro e wH ⟨⟨g,c,rfl,hg⟩,hb⟩;replace HC:=hid (((HC.out.al _).below hb).cons hg);clear hb hg)
  | fail)
 obtain⟨T,hT⟩:∃T,T=w'.heap.size:=⟨_,rfl⟩
 have HD:=hid (HC.out.push [.int .i64 0,.int .i64 0,.int .i64 2,.int .i64 0,.int .i64 0,.int .i64 2] 26)
 rw[←hT] at HD⊢
 generalize w'.alloc (.cells #[.int .i64 0,.int .i64 0,.int .i64 2,.int .i64 0,.int .i64 0,.int .i64 2] 26)=wT at HD⊢
 clear HC hT D1 D2
 go_wp2_with (first
  | (go_at_call 21;(with_reducible refine(C1.out _ T (yZ_ (HD.out.at (B:=T) (l:=[.int .i64 0,.int .i64 0,.int .i64 2,.int .i64 0,.int .i64 0,.int .i64 2]) (by simp))) HD.out.bw).mono ?_);rintro e wC ⟨rfl,hb⟩;replace HD:=hid ((HD.out.below hb).push [.string n3,.string d3] 47);clear hb)
  | (go_at_call 21;(with_reducible refine(C2.out _ T (yZ_ (HD.out.at (B:=T) (l:=[.int .i64 0,.int .i64 0,.int .i64 2,.int .i64 0,.int .i64 0,.int .i64 2]) (by simp))) HD.out.bw).mono ?_);rintro e wD ⟨rfl,hb⟩;replace HD:=hid ((HD.out.below hb).push [.string n4,.string d4] 47);clear hb)
  | (go_at_call 18;(with_reducible refine(aLY (yZ_ (HD.out.at (B:=T) (l:=[.int .i64 0,.int .i64 0,.int .i64 2,.int .i64 0,.int .i64 0,.int .i64 2]) (by simp)))).mono ?_);rintro e wE ⟨rfl,hb⟩;replace HD:=hid (HD.out.below hb);clear hb)
  | (go_at_call 14;(with_reducible refine(aCZ (yZ_ (HD.out.at (B:=T) (l:=[.int .i64 0,.int .i64 0,.int .i64 2,.int .i64 0,.int .i64 0,.int .i64 2]) (by simp)))).mono ?_);rintro e wR ⟨rfl,hb⟩;replace HD:=hid ((HD.out.below hb).push [.int .i64 0,.int .i64 0,.int .i64 2,.int .i64 2] 29);clear hb)
  | (go_at_call 16;(with_reducible refine(aKO _).mono ?_);rintro e wN ⟨rfl,hb⟩;replace HD:=hid (HD.out.below hb);clear hb)
  | (go_at_call 31;(with_reducible refine(at_s _ _ _).mono ?_);rintro e w' ⟨rfl,hb⟩;replace HD:=hid (HD.out.below hb);clear hb)
  | (go_at_call 25;(with_reducible refine(aOB _).mono ?_);rintro e w' ⟨rfl,hb⟩;replace HD:=hid (HD.out.below hb);clear hb)
  | (go_at_call 27;(with_reducible refine(aLD _).mono ?_);rintro e w' ⟨rfl,hb⟩;replace HD:=hid (HD.out.below hb);clear hb)
  | (go_at_call 27;(with_reducible refine(aLC _).mono ?_);rintro e w' ⟨rfl,hb⟩;replace HD:=hid (HD.out.below hb);have h_:=HD.out.at (B:=wR.heap.size) (l:=[.int .i64 0,.int .i64 0,.int .i64 2,.int .i64 2]) (by simp);have r0:=h_.row 0 _ rfl;have r1:=h_.row 1 _ rfl;have r2:=h_.row 2 _ rfl;have r3:=h_.row 3 _ rfl;clear h_;clear hb)
  | (go_at_call 8;(with_reducible refine(vr1_s _).mono ?_);rintro e w' ⟨rfl,hb⟩;replace HD:=hid (HD.out.below hb);clear r0 r1 r2 r3;have h_:=HD.out.at (B:=wR.heap.size) (l:=[.int .i64 0,.int .i64 0,.int .i64 2,.int .i64 2]) (by simp);have r0:=h_.row 0 _ rfl;have r1:=h_.row 1 _ rfl;have r2:=h_.row 2 _ rfl;have r3:=h_.row 3 _ rfl;clear h_;clear hb)
  | (go_at_call 8;(with_reducible refine(vr2_s _).mono ?_);rintro e w' ⟨rfl,hb⟩;replace HD:=hid (HD.out.below hb);clear r0 r1 r2 r3;have h_:=HD.out.at (B:=wR.heap.size) (l:=[.int .i64 0,.int .i64 0,.int .i64 2,.int .i64 2]) (by simp);have r0:=h_.row 0 _ rfl;have r1:=h_.row 1 _ rfl;have r2:=h_.row 2 _ rfl;have r3:=h_.row 3 _ rfl;clear h_;clear hb)
  | (go_at_call 10;(with_reducible refine(aIX _).mono ?_);rintro e w' ⟨rfl,hb⟩;replace HD:=hid (HD.out.below hb);clear r0 r1 r2 r3;have h_:=HD.out.at (B:=wR.heap.size) (l:=[.int .i64 0,.int .i64 0,.int .i64 2,.int .i64 2]) (by simp);have r0:=h_.row 0 _ rfl;have r1:=h_.row 1 _ rfl;have r2:=h_.row 2 _ rfl;have r3:=h_.row 3 _ rfl;clear h_;clear hb)
  | (go_at_call 10;(with_reducible refine(aIW _).mono ?_);rintro e w' ⟨rfl,hb⟩;replace HD:=hid (HD.out.below hb);clear r0 r1 r2 r3;have h_:=HD.out.at (B:=wR.heap.size) (l:=[.int .i64 0,.int .i64 0,.int .i64 2,.int .i64 2]) (by simp);have r0:=h_.row 0 _ rfl;have r1:=h_.row 1 _ rfl;have r2:=h_.row 2 _ rfl;have r3:=h_.row 3 _ rfl;clear h_;clear hb)
  | (go_at_call 12;(with_reducible refine(aFW _).mono ?_);rintro e w' ⟨rfl,hb⟩;replace HD:=hid (HD.out.below hb);clear r0 r1 r2 r3;have h_:=HD.out.at (B:=wR.heap.size) (l:=[.int .i64 0,.int .i64 0,.int .i64 2,.int .i64 2]) (by simp);have r0:=h_.row 0 _ rfl;have r1:=h_.row 1 _ rfl;have r2:=h_.row 2 _ rfl;have r3:=h_.row 3 _ rfl;clear h_;clear hb)
  | (go_at_call 12;(with_reducible refine(aFV _).mono ?_);rintro e w' ⟨rfl,hb⟩;replace HD:=hid (HD.out.below hb);clear r0 r1 r2 r3;have h_:=HD.out.at (B:=wR.heap.size) (l:=[.int .i64 0,.int .i64 0,.int .i64 2,.int .i64 2]) (by simp);have r0:=h_.row 0 _ rfl;have r1:=h_.row 1 _ rfl;have r2:=h_.row 2 _ rfl;have r3:=h_.row 3 _ rfl;clear h_;clear hb)
  | fail)
 clear r0 r1 r2 r3 C1 C2
 refine kD_ (A:=?fr14) 34 192 4 [.int .i64 0,.int .i64 0,.int .i64 2,.int .i64 0,.int .i64 2,.int .i64 2,.int .i64 0,.int .i64 2] 26 hmx (by kernel_rfl) ?h ⟨_,rfl,rfl,?wa,fun W=>?al⟩ ?ht
 case h=>
  intro U hU
  have hp:=HD.out.below hU
  have h_:=hp.at (B:=wA.heap.size) (l:=[.string n1,.string d1]) (by simp)
  have x0:=cell_regrown (h_.row 0 _ rfl)
  have x1:=cell_regrown (h_.row 1 _ rfl)
  clear h_
  have h_:=hp.at (B:=wB.heap.size) (l:=[.string n2,.string d2]) (by simp)
  have x2:=cell_regrown (h_.row 0 _ rfl)
  have x3:=cell_regrown (h_.row 1 _ rfl)
  clear h_
  have h_:=hp.at (B:=wC.heap.size) (l:=[.string n3,.string d3]) (by simp)
  have x4:=cell_regrown (h_.row 0 _ rfl)
  have x5:=cell_regrown (h_.row 1 _ rfl)
  clear h_
  have h_:=hp.at (B:=wD.heap.size) (l:=[.string n4,.string d4]) (by simp)
  have x6:=cell_regrown (h_.row 0 _ rfl)
  have x7:=cell_regrown (h_.row 1 _ rfl)
  clear h_
  have c1:=fun d os=>Calls.regrown_of (d:=d) (os:=os) (R1.out (grow (redrawn U d) os))
  have c2:=fun d os=>Calls.regrown_of (d:=d) (os:=os) (R2.out (grow (redrawn U d) os))
  have c3:=fun d os=>Calls.regrown_of (d:=d) (os:=os) (R3.out (grow (redrawn U d) os))
  have c4:=fun d os=>Calls.regrown_of (d:=d) (os:=os) (R4.out (grow (redrawn U d) os))
  have ca:=fun x y d os=>Calls.regrown_of (d:=d) (os:=os) (at_s x y (grow (redrawn U d) os))
  clear hp
  simp only[List.take_succ_cons,List.take_zero]
  repeat (go_big_quiet_step (with_reducible first|exact c1 _ _|exact c2 _ _|exact c3 _ _|exact c4 _ _|exact ca _ _ _ _))
  refine wpQuiet_nil ?_
  rfl
 case wa=>rfl
 case al=>simp[go_sem]
 case ht=>
  intro B W hW hB cB
  have HG:=hid (aGI ((HD.out.below hW).at (B:=g) (l:=[.int .i64 0,.int .i64 0,.int .i64 2,.int .i64 0,.int .i64 2,.int .i64 2,.int .i64 0,.int .i64 2]) (by simp)))
  have HB:=hid (aGI cB)
  have HW:=hid (HD.out.bw.trans (hW.mono HD.out.bw.size))
  clear hW cB HD R1 R2 R3 R4
  simp only[List.drop_succ_cons,List.drop_zero]
  go_wp2_with (first
   | (go_at_call 20;(with_reducible refine(aOD HG.out HB.out).mono ?_);rintro e w' ⟨rfl,hb⟩;replace HW:=hid (HW.out.trans (hb.mono HW.out.size));clear hb)
   | (go_at_call 31;(with_reducible refine(at_s _ _ _).mono ?_);rintro e w' ⟨rfl,hb⟩;replace HW:=hid (HW.out.trans (hb.mono HW.out.size));clear hb)
   | (go_at_call 29;(with_reducible refine(vp1_s _).mono ?_);rintro e w' ⟨rfl,hb⟩;replace HW:=hid (HW.out.trans (hb.mono HW.out.size));clear hb)
   | (go_at_call 29;(with_reducible refine(vp2_s _).mono ?_);rintro e w' ⟨rfl,hb⟩;replace HW:=hid (HW.out.trans (hb.mono HW.out.size));clear hb)
   | fail)
  go_ret
  exact⟨rfl,HW.out⟩
def plN (x y:Int):Pl:=⟨(dQ_ x 40:Nat),(dQ_ y 40:Nat)⟩
theorem plN_b (x y:Int):(0≤(plN x y).x∧(plN x y).x≤39)∧(0≤(plN x y).y∧(plN x y).y≤39):=by
 have h1:=sW_ x (n:=40) (by decide)
 have h2:=sW_ y (n:=40) (by decide)
 unfold plN
 simp only
 omega
theorem vP_of {p:Pl} (h:(0≤p.x∧p.x≤4095)∧(0≤p.y∧p.y≤4095)):vP p=true:=by
 unfold vP
 simp only[Bool.and_eq_true,decide_eq_true_eq]
 omega
theorem plN_v (x y:Int):vP (plN x y)=true:=vP_of (by have:=plN_b x y;omega)
theorem plN_s {x y:Int} (hx : -9223372036854775808≤x∧x≤9223372036854775807) (hy : -9223372036854775808≤y∧y≤9223372036854775807) (w:World) :
  Calls Tryz.prog 33 #[.agg #[.int .i64 x,.int .i64 y]] w fun e W'=>e=.returned (.agg #[.int .i64 (plN x y).x,.int .i64 (plN x y).y])∧Below w.heap.size w W':=aOS hx.1 hx.2 hy.1 hy.2 w
def rcN (x y u v:Int):Rc:=⟨(dQ_ x 40:Nat),(dQ_ y 40:Nat),(dQ_ u 30:Nat),(dQ_ v 30:Nat)⟩
theorem aMR {x y u v:Int} (hx : -9223372036854775808≤x∧x≤9223372036854775807) (hy : -9223372036854775808≤y∧y≤9223372036854775807) (hu : -9223372036854775808≤u∧u≤9223372036854775807) (hv : -9223372036854775808≤v∧v≤9223372036854775807) (w:World) :
  Calls Tryz.prog 7 #[.agg #[.int .i64 x,.int .i64 y,.int .i64 u,.int .i64 v]] w fun e W'=>e=.returned (.agg #[.int .i64 (rcN x y u v).x,.int .i64 (rcN x y u v).y,.int .i64 (rcN x y u v).w,.int .i64 (rcN x y u v).h])∧Below w.heap.size w W':=by
 have hmx:Tryz.prog.follows .mixedOrders=true:=by kernel_rfl
 have K0:=hid (show ∀W:World,Calls Tryz.prog 34 #[.int .i64 x,.int .i64 40] W fun e W'=>e=.returned (.int .i64 (dQ_ x 40:Nat))∧Below W.heap.size W W' from fun W=>(qY_ x 40 hx.1 hx.2 (by decide) (by decide) W).mono fun e W' h=>⟨h.1,h.2▸Below.refl _ _⟩)
 have K1:=hid (show ∀W:World,Calls Tryz.prog 34 #[.int .i64 y,.int .i64 40] W fun e W'=>e=.returned (.int .i64 (dQ_ y 40:Nat))∧Below W.heap.size W W' from fun W=>(qY_ y 40 hy.1 hy.2 (by decide) (by decide) W).mono fun e W' h=>⟨h.1,h.2▸Below.refl _ _⟩)
 have K2:=hid (show ∀W:World,Calls Tryz.prog 34 #[.int .i64 u,.int .i64 30] W fun e W'=>e=.returned (.int .i64 (dQ_ u 30:Nat))∧Below W.heap.size W W' from fun W=>(qY_ u 30 hu.1 hu.2 (by decide) (by decide) W).mono fun e W' h=>⟨h.1,h.2▸Below.refl _ _⟩)
 have K3:=hid (show ∀W:World,Calls Tryz.prog 34 #[.int .i64 v,.int .i64 30] W fun e W'=>e=.returned (.int .i64 (dQ_ v 30:Nat))∧Below W.heap.size W W' from fun W=>(qY_ v 30 hv.1 hv.2 (by decide) (by decide) W).mono fun e W' h=>⟨h.1,h.2▸Below.refl _ _⟩)
 show Calls _ _ _ _ fun e W'=>e=.returned (.agg #[.int .i64 (dQ_ x 40:Nat),.int .i64 (dQ_ y 40:Nat),.int .i64 (dQ_ u 30:Nat),.int .i64 (dQ_ v 30:Nat)])∧_
 generalize dQ_ x 40=n0 at K0⊢
 generalize dQ_ y 40=n1 at K1⊢
 generalize dQ_ u 30=n2 at K2⊢
 generalize dQ_ v 30=n3 at K3⊢
 have H0:=hid (show AzAt [(w.heap.size+1,[.int .i64 0,.int .i64 0,.int .i64 0,.int .i64 0]),(w.heap.size,[.int .i64 x,.int .i64 y,.int .i64 u,.int .i64 v])] w _ from by
  have hp:=((AzAt.start w).push [.int .i64 x,.int .i64 y,.int .i64 u,.int .i64 v] 23).push [.int .i64 0,.int .i64 0,.int .i64 0,.int .i64 0] 29
  simp only[World.size_alloc] at hp
  exact hp)
 clear hx hy hu hv
 go_enter Tryz.func7,Tryz.ntmps7
 go_wp2
 obtain⟨W0,hW0⟩:∃W0,W0=(w.alloc (.cells #[.int .i64 x,.int .i64 y,.int .i64 u,.int .i64 v] 23)).alloc (.cells #[.int .i64 0,.int .i64 0,.int .i64 0,.int .i64 0] 29):=⟨_,rfl⟩
 have H1:=hid H0.out
 rw[←hW0] at H1⊢
 clear hW0 H0
 refine bP_ (A:=?fr) 13 hmx (by kernel_rfl) ?h ?ht
 case h=>
  intro U hU
  have hp:=H1.out.below hU
  have h_:=hp.at (B:=w.heap.size) (l:=[.int .i64 x,.int .i64 y,.int .i64 u,.int .i64 v]) (by simp)
  have z0:=cell_regrown (h_.row 0 _ rfl)
  have z1:=cell_regrown (h_.row 1 _ rfl)
  have z2:=cell_regrown (h_.row 2 _ rfl)
  have z3:=cell_regrown (h_.row 3 _ rfl)
  clear h_
  have c0:=fun d os=>Calls.regrown_of (d:=d) (os:=os) (K0.out (grow (redrawn U d) os))
  have c1:=fun d os=>Calls.regrown_of (d:=d) (os:=os) (K1.out (grow (redrawn U d) os))
  have c2:=fun d os=>Calls.regrown_of (d:=d) (os:=os) (K2.out (grow (redrawn U d) os))
  have c3:=fun d os=>Calls.regrown_of (d:=d) (os:=os) (K3.out (grow (redrawn U d) os))
  clear hp
  simp only[List.take_succ_cons,List.take_zero]
  repeat (go_big_quiet_step (with_reducible first|exact c0 _ _|exact c1 _ _|exact c2 _ _|exact c3 _ _))
  refine wpQuiet_nil ?_
  rfl
 case ht=>
  intro WM hW
  have H2:=hid (H1.out.below hW)
  clear hW H1
  have h_:=H2.out.at (B:=w.heap.size+1) (l:=[.int .i64 0,.int .i64 0,.int .i64 0,.int .i64 0]) (by simp)
  have z0:=h_.row 0 _ rfl
  have z1:=h_.row 1 _ rfl
  have z2:=h_.row 2 _ rfl
  have z3:=h_.row 3 _ rfl
  have f0:=h_.fz 0 (by simp)
  have f1:=h_.fz 1 (by simp)
  have f2:=h_.fz 2 (by simp)
  have f3:=h_.fz 3 (by simp)
  clear h_
  simp only[List.drop_succ_cons,List.drop_zero]
  go_wp2
  refine bodyPost_ret (v:=.agg #[.int .i64 (n0:Int),.int .i64 (n1:Int),.int .i64 (n2:Int),.int .i64 (n3:Int)]) ?_ rfl ⟨rfl,?_⟩
  ·simp[results,Tryz.results7,go_sem,Result.andThen,z0,z1,z2,z3]
  ·exact(((H2.out.bw.setCell (show w.heap.size≤w.heap.size+1 by omega) _).setCell (show w.heap.size≤w.heap.size+1 by omega) _).setCell (show w.heap.size≤w.heap.size+1 by omega) _).setCell (show w.heap.size≤w.heap.size+1 by omega) _
structure XsAt (a:Option Addr) (xs:List (Int×Int)) (W:World):Prop where
 row:∀(k:Nat) (x:Int×Int),xs[k]?=some x→∃b o:Nat,a=some ⟨b,o,none⟩∧b<W.heap.size∧W.cell? ⟨b,o+k*2,none⟩=some (.int .i64 x.1)∧W.cell? ⟨b,o+k*2+1,none⟩=some (.int .i64 x.2)
 lo:∀x∈xs,(-9223372036854775808≤x.1∧x.1≤9223372036854775807)∧(-9223372036854775808≤x.2∧x.2≤9223372036854775807)
theorem XsAt.below {a:Option Addr} {xs:List (Int×Int)} {W W':World} (h:XsAt a xs W) (hb:Below W.heap.size W W'):XsAt a xs W':=
 ⟨fun k x hx=>by
  obtain⟨b,o,e,h1,h2,h3⟩:=h.row k x hx
  exact⟨b,o,e,Nat.lt_of_lt_of_le h1 hb.size,(World.cell?_of_block (w:=W) (hb.block b h1)).trans h2,(World.cell?_of_block (w:=W) (hb.block b h1)).trans h3⟩,h.lo⟩
def plsK (xs:List (Int×Int)) (k:Nat):List Pl:=if k=0 then [⟨3,4⟩] else (xs.take k).map fun x=>plN x.1 x.2
def plsN (xs:List (Int×Int)):List Pl:=plsK xs (min xs.length 12)
theorem zO_ {xs:List (Int×Int)} {k:Nat} (h:k≤xs.length):(plsK xs k).length=max k 1:=by
 unfold plsK
 split
 ·rename_i h0;subst h0;rfl
 ·rw[List.length_map,List.length_take];omega
theorem aEW {xs:List (Int×Int)} {k:Nat} {x:Int×Int} (h:xs[k]?=some x):plsK xs (k+1)=(if k=0 then [] else plsK xs k)++[plN x.1 x.2]:=by
 unfold plsK
 rw[if_neg (by omega),List.take_add_one,h]
 by_cases h0:k=0
 ·subst h0;rfl
 ·rw[if_neg h0,if_neg h0];simp
theorem zN_ (xs:List (Int×Int)):(plsN xs).length=max (min xs.length 12) 1:=zO_ (by omega)
theorem plsN_v (xs:List (Int×Int)):∀q∈plsN xs,vP q=true:=by
 intro q hq
 unfold plsN plsK at hq
 split at hq
 ·simp only[List.mem_singleton] at hq
  subst hq
  decide
 ·obtain⟨x,_,rfl⟩:=List.mem_map.1 hq
  exact plN_v _ _
theorem aJP (xs:List (Int×Int)):fewB (plsN xs)=true:=by
 unfold fewB
 simp only[Bool.and_eq_true,decide_eq_true_eq]
 have:=zN_ xs
 exact⟨by omega,List.all_eq_true.2 (plsN_v xs)⟩
theorem aJQ {a:Option Addr} {n cap:Nat} {xs:List (Int×Int)} (hn:xs.length=n) {W:World} (h:XsAt a xs W) :
  Calls Tryz.prog 5 #[.slice a n cap] W fun e W'=>∃g m c,e=.returned (.slice (some ⟨g,0,none⟩) m c)∧m=(plsN xs).length∧OzAt 26 (.slice (some ⟨g,0,none⟩) m c) m (plC (plsN xs)) [] W W':=by
 have HN:=hid hn
 have HX:=hid h
 clear h hn
 obtain⟨i0,hi0,hz0,hz1,hz2⟩:=info_parts dO_
 have H0:=hid (OzAt.lit (AzAt.start W) [.int .i64 3,.int .i64 4] 26 1 rfl (by decide))
 go_enter Tryz.func5,Tryz.ntmps5
 go_wp2
 go_loopw [3,4] (fun v3 v4 wr=>∃(k m g c:Nat),k≤n∧k≤12∧v4=.int .i64 (k:Int)∧v3=.slice (some ⟨g,0,none⟩) m c∧m=(plsK xs k).length∧OzAt 26 (.slice (some ⟨g,0,none⟩) m c) m (plC (plsK xs k)) [] W wr) (fun _ v4 _=>12-(intOf v4).toNat)
 case atStart=>exact⟨0,1,_,_,by omega,by omega,rfl,rfl,rfl,H0.out⟩
 case round=>
  obtain⟨k,m,g,c,hk,hk2,rfl,rfl,hm,hZ⟩:=hrel
  have HZ:=hid hZ
  have HM:=hid hm
  clear hZ hm
  by_cases hlt:k<n∧k<12
  ·obtain⟨hlt1,hlt2⟩:=hlt
   obtain⟨x,hx⟩:∃x,xs[k]?=some x:=⟨xs[k]'(by have:=HN.out;omega),List.getElem?_eq_getElem _⟩
   obtain⟨b,o,rfl,hb,c0,c1⟩:=HX.out.row k x hx
   have hlo:=HX.out.lo x (List.mem_of_getElem? hx)
   have KX:=hid (fun(W:World)=>plN_s hlo.1 hlo.2 W)
   have HS:=hid (aEW hx)
   generalize plN x.1 x.2=p at KX HS
   have d0:=(World.cell?_of_block (w:=W) (HZ.out.az.bw.block b hb)).trans c0
   have d1:=(World.cell?_of_block (w:=W) (HZ.out.az.bw.block b hb)).trans c1
   obtain⟨x1,x2⟩:=x
   simp only at d0 d1 KX
   clear c0 c1 hlo hx hb
   have hg1:decide ((k:Int)<(n:Int))=true:=decide_eq_true (by omega)
   have hg2:decide ((k:Int)<12)=true:=decide_eq_true (by omega)
   by_cases hk0:k=0
   ·subst hk0
    simp only[Nat.zero_mul,Nat.add_zero] at d0 d1
    have H1':=hid (OzAt.nil HZ.out.az 26)
    go_wp2_with (first
     | (go_at_call 33;(with_reducible refine(KX.out _).mono ?_);rintro e w1 ⟨rfl,hb1⟩;have H1:=hid (H1'.out.below hb1);have hs1:=H1.out.az.bw.size;clear hb1)
     | (at_builtin;refine wpList_append_own_at _ rfl _ _ 27 rfl W.heap.size 26 i0 (.agg #[.int .i64 0,.int .i64 0]) 2 16 Tryz.underlying27 hi0 hz0 hz1 hz2 rfl (by decide) (.slice none 0 0) 0 []  rfl (H1.out.own.alloc _) ⟨w1.heap.size,0,none⟩ 1 1 [.int .i64 p.x,.int .i64 p.y] rfl rfl (jP_ _ _ _ _) (by simp[Value.oneCell']) (by unfold maxLen;omega) (by omega) (by simp;omega) ?_;intro v' w7 hown' hgrow _ hat;have HZ7:=hid (H1.out.append hown' hgrow hat);clear hown' hgrow hat)
     | fail)
    obtain⟨g7,c7,rfl⟩:=ownsRow_succ HZ7.out.own
    have e:=HS.out
    simp only[if_true,List.nil_append,Nat.zero_add] at e
    refine⟨⟨1,1,g7,c7,by omega,by omega,rfl,rfl,by rw[e];rfl,?_⟩,by simp only[intOf];omega⟩
    rw[e]
    exact HZ7.out
   ·have hm12:m≤12:=by rw[HM.out,zO_ (by have:=HN.out;omega)];omega
    have hk1:((k:Int)==0)=false:=by simpa using hk0
    have hk2:¬(k:Int)=0:=by omega
    go_wp2_with (first
     | (go_at_call 33;(with_reducible refine(KX.out _).mono ?_);rintro e w1 ⟨rfl,hb1⟩;have H1:=hid (HZ.out.below hb1);have hs1:=H1.out.az.bw.size;clear hb1)
     | (at_builtin;refine wpList_append_own_at _ rfl _ _ 27 rfl W.heap.size 26 i0 (.agg #[.int .i64 0,.int .i64 0]) 2 16 Tryz.underlying27 hi0 hz0 hz1 hz2 rfl (by decide) (.slice (some ⟨g,0,none⟩) m c) m (plC (plsK xs k)) rfl (H1.out.own.alloc _) ⟨w1.heap.size,0,none⟩ 1 1 [.int .i64 p.x,.int .i64 p.y] rfl rfl (jP_ _ _ _ _) (by simp[Value.oneCell']) (by unfold maxLen;omega) (by omega) (by simp;omega) ?_;intro v' w7 hown' hgrow _ hat;have HZ7:=hid (H1.out.append hown' hgrow hat);clear hown' hgrow hat)
     | fail)
    obtain⟨g7,c7,rfl⟩:=ownsRow_succ HZ7.out.own
    have e:=HS.out
    rw[if_neg hk0] at e
    refine⟨⟨k+1,m+1,g7,c7,by omega,by omega,by go_num,rfl,by rw[e,HM.out];simp,?_⟩,by simp only[intOf];omega⟩
    rw[e,eO_]
    exact HZ7.out
  ·have hk':k=min n 12:=by omega
   have HR:=hid (show plsN xs=plsK xs k by unfold plsN;rw[HN.out,←hk'])
   clear hk'
   by_cases hlt1:k<n
   ·have hg1:decide ((k:Int)<(n:Int))=true:=decide_eq_true (by omega)
    have hg2:decide ((k:Int)<12)=false:=decide_eq_false (by omega)
    go_wp2
    go_ret
    refine⟨g,m,c,rfl,by rw[HR.out];exact HM.out,by rw[HR.out];exact HZ.out⟩
   ·have hg1:decide ((k:Int)<(n:Int))=false:=decide_eq_false (by omega)
    go_wp2
    go_ret
    refine⟨g,m,c,rfl,by rw[HR.out];exact HM.out,by rw[HR.out];exact HZ.out⟩
end Go.Proofs.YtjfdefglpoancaaGreatDoor
namespace Go.Proofs.YtjfdefglpoancaaGreatDoor
open Go.RowKit Go.Shelf
attribute [local go_sem] Oper.semAt_some
theorem aFX {n lo hi:Int} (h1:lo≤n) (h2:n≤hi) (w:World) :
  Calls Tryz.prog 36 #[.int .i64 n,.int .i64 lo,.int .i64 hi] w fun e w'=>e=.returned (.bool true)∧w=w':=by
 go_enter Tryz.func36,Tryz.ntmps36
 go_wp2
 go_ret
 exact⟨rfl,rfl⟩
theorem aFY {n lo hi:Int} (h:n<lo∨hi<n) (w:World) :
  Calls Tryz.prog 36 #[.int .i64 n,.int .i64 lo,.int .i64 hi] w fun e w'=>e=.returned (.bool false)∧w=w':=by
 by_cases h1:lo≤n
 ·have h2:hi<n:=by omega
  have h3:decide (n≤hi)=false:=decide_eq_false (by omega)
  clear h
  go_enter Tryz.func36,Tryz.ntmps36
  go_wp2
  go_ret
  exact⟨rfl,rfl⟩
 ·have h3:decide (lo≤n)=false:=decide_eq_false h1
  clear h
  go_enter Tryz.func36,Tryz.ntmps36
  go_wp2
  go_ret
  exact⟨rfl,rfl⟩
theorem mU_ (p:Pl) (w:World) :
  Calls Tryz.prog 30 #[.agg #[.int .i64 p.x,.int .i64 p.y]] w fun e W'=>e=.returned (.bool (vP p))∧Below w.heap.size w W':=by
 obtain⟨x,y⟩:=p
 by_cases hx:0≤x∧x≤4095
 ·have kx:=hid (fun W=>aFX hx.1 hx.2 W)
  by_cases hy:0≤y∧y≤4095
  ·have ky:=hid (fun W=>aFX hy.1 hy.2 W)
   rw[show vP ⟨x,y⟩=true by simp[vP,hx.1,hx.2,hy.1,hy.2]]
   clear hx hy
   go_enter Tryz.func30,Tryz.ntmps30
   go_wp2_with (first
    | (go_at_call 36;(with_reducible refine(kx.out _).mono ?_);rintro e w' ⟨rfl,rfl⟩)
    | (go_at_call 36;(with_reducible refine(ky.out _).mono ?_);rintro e w' ⟨rfl,rfl⟩)
    | fail)
   go_ret
   exact⟨rfl,(Below.refl _ _).alloc (Nat.le_refl _) _⟩
  ·have ky:=hid (fun W=>aFY (n:=y) (lo:=0) (hi:=4095) (by omega) W)
   rw[show vP ⟨x,y⟩=false by simp[vP];omega]
   clear hx hy
   go_enter Tryz.func30,Tryz.ntmps30
   go_wp2_with (first
    | (go_at_call 36;(with_reducible refine(kx.out _).mono ?_);rintro e w' ⟨rfl,rfl⟩)
    | (go_at_call 36;(with_reducible refine(ky.out _).mono ?_);rintro e w' ⟨rfl,rfl⟩)
    | fail)
   go_ret
   exact⟨rfl,(Below.refl _ _).alloc (Nat.le_refl _) _⟩
 ·have kx:=hid (fun W=>aFY (n:=x) (lo:=0) (hi:=4095) (by omega) W)
  rw[show vP ⟨x,y⟩=false by simp[vP];omega]
  clear hx
  go_enter Tryz.func30,Tryz.ntmps30
  go_wp2_with (go_at_call 36;(with_reducible refine(kx.out _).mono ?_);rintro e w' ⟨rfl,rfl⟩)
  go_ret
  exact⟨rfl,(Below.refl _ _).alloc (Nat.le_refl _) _⟩
theorem yY_ {a b c:Pl} (ha:vP a=true) (hb:vP b=true) (hc:vP c=true) (w:World) :
  Calls Tryz.prog 51 #[.agg #[.int .i64 a.x,.int .i64 a.y],.agg #[.int .i64 b.x,.int .i64 b.y],.agg #[.int .i64 c.x,.int .i64 c.y]] w fun e W'=>e=.returned (.int .i64 (aA_ a b c))∧Below w.heap.size w W':=by
 obtain⟨⟨a1,a2⟩,a3,a4⟩:=vP_b ha
 obtain⟨⟨b1,b2⟩,b3,b4⟩:=vP_b hb
 obtain⟨⟨c1,c2⟩,c3,c4⟩:=vP_b hc
 clear ha hb hc
 unfold aA_
 obtain⟨ax,ay⟩:=a
 obtain⟨bx,by'⟩:=b
 obtain⟨cx,cy⟩:=c
 simp only at *
 have p1:=cG_ (u:=bx-ax) (v:=cy-ay) (by omega) (by omega)
 have p2:=cG_ (u:=by'-ay) (v:=cx-ax) (by omega) (by omega)
 obtain⟨p3,p4⟩:=p1
 obtain⟨p5,p6⟩:=p2
 have w1:IntKind.i64.wrap ((bx-ax)*(cy-ay))=(bx-ax)*(cy-ay):=IntWalk.i64_in _ (by omega)
 have w2:IntKind.i64.wrap ((by'-ay)*(cx-ax))=(by'-ay)*(cx-ax):=IntWalk.i64_in _ (by omega)
 have w3:IntKind.i64.wrap ((bx-ax)*(cy-ay)-(by'-ay)*(cx-ax))=(bx-ax)*(cy-ay)-(by'-ay)*(cx-ax):=IntWalk.i64_in _ (by omega)
 go_enter Tryz.func51,Tryz.ntmps51
 go_wp2
 go_ret
 exact⟨rfl,(((Below.refl _ _).alloc (Nat.le_refl _) _).alloc (by simp) _).alloc (by simp;omega) _⟩
theorem wA_ {a b:Pl} (ha:vP a=true) (hb:vP b=true) (w:World) :
  Calls Tryz.prog 52 #[.agg #[.int .i64 a.x,.int .i64 a.y],.agg #[.int .i64 b.x,.int .i64 b.y]] w fun e W'=>e=.returned (.int .i64 (sqP a b))∧Below w.heap.size w W':=by
 obtain⟨⟨a1,a2⟩,a3,a4⟩:=vP_b ha
 obtain⟨⟨b1,b2⟩,b3,b4⟩:=vP_b hb
 clear ha hb
 unfold sqP
 obtain⟨ax,ay⟩:=a
 obtain⟨bx,by'⟩:=b
 simp only at *
 obtain⟨p3,p4⟩:=cG_ (u:=ax-bx) (v:=ax-bx) (by omega) (by omega)
 obtain⟨p5,p6⟩:=cG_ (u:=ay-by') (v:=ay-by') (by omega) (by omega)
 have w1:IntKind.i64.wrap ((ax-bx)*(ax-bx))=(ax-bx)*(ax-bx):=IntWalk.i64_in _ (by omega)
 have w2:IntKind.i64.wrap ((ay-by')*(ay-by'))=(ay-by')*(ay-by'):=IntWalk.i64_in _ (by omega)
 have w3:IntKind.i64.wrap ((ax-bx)*(ax-bx)+(ay-by')*(ay-by'))=(ax-bx)*(ax-bx)+(ay-by')*(ay-by'):=IntWalk.i64_in _ (by omega)
 go_enter Tryz.func52,Tryz.ntmps52
 go_wp2
 go_ret
 exact⟨rfl,((Below.refl _ _).alloc (Nat.le_refl _) _).alloc (by simp) _⟩
def befB (a b:Pl):Bool:=decide (a.y<b.y)||(decide (a.y=b.y)&&decide (a.x<b.x))
theorem aLQ (a b:Pl) (w:World) :
  Calls Tryz.prog 50 #[.agg #[.int .i64 a.x,.int .i64 a.y],.agg #[.int .i64 b.x,.int .i64 b.y]] w fun e W'=>e=.returned (.bool (befB a b))∧Below w.heap.size w W':=by
 obtain⟨ax,ay⟩:=a
 obtain⟨bx,by'⟩:=b
 unfold befB
 simp only
 by_cases h1:ay<by'
 ·rw[decide_eq_true h1,Bool.true_or]
  go_enter Tryz.func50,Tryz.ntmps50
  go_wp2
  go_ret
  exact⟨rfl,((Below.refl _ _).alloc (Nat.le_refl _) _).alloc (by simp only[World.size_alloc];omega) _⟩
 ·have d1:decide (ay<by')=false:=decide_eq_false h1
  rw[d1,Bool.false_or]
  by_cases h2:ay=by'
  ·subst h2
   rw[decide_eq_true rfl,Bool.true_and]
   clear h1
   go_enter Tryz.func50,Tryz.ntmps50
   go_wp2
   go_ret
   exact⟨rfl,((Below.refl _ _).alloc (Nat.le_refl _) _).alloc (by simp only[World.size_alloc];omega) _⟩
  ·have d2:(ay==by')=false:=beq_eq_false_iff_ne.2 h2
   rw[decide_eq_false h2,Bool.false_and]
   clear h2
   go_enter Tryz.func50,Tryz.ntmps50
   go_wp2
   go_ret
   exact⟨rfl,((Below.refl _ _).alloc (Nat.le_refl _) _).alloc (by simp only[World.size_alloc];omega) _⟩
theorem zA_ {ps:List Pl} {k:Nat} {p:Pl} (hp:ps[k]?=some p) (h:(ps.take k).all vP=true) (hv:vP p=true):(ps.take (k+1)).all vP=true:=by
 rw[List.take_add_one,hp,List.all_append,h]
 simp[hv]
theorem mZ_ {B cap n:Nat} {ps:List Pl} (hl:ps.length=n) (hn:n≤1000000) (w:World) (h:PsAt B ps w) :
  Calls Tryz.prog 40 #[.slice (some ⟨B,0,none⟩) n cap] w fun e W'=>e=.returned (.bool (fewB ps))∧Below w.heap.size w W':=by
 have HL:=hid hl
 have H:=hid h
 clear h
 go_enter Tryz.func40,Tryz.ntmps40
 go_wp2
 go_loopw [3] (fun i wr=>∃k:Nat,k≤n∧i=.int .i64 (k:Int)∧Below w.heap.size w wr∧(ps.take k).all vP=true) (fun i _=>n-(intOf i).toNat)
 case atStart=>exact⟨0,Nat.zero_le _,rfl,Below.refl _ _,by simp⟩
 case round=>
  obtain⟨k,hk,rfl,hb,ht⟩:=hrel
  have HB:=hid hb
  have HT:=hid ht
  clear hb ht
  by_cases hlt:k<n
  ·obtain⟨p,hp⟩:∃p,ps[k]?=some p:=⟨ps[k]'(by omega),List.getElem?_eq_getElem _⟩
   obtain⟨c0,c1⟩:=(H.out.below HB.out).row k p hp
   have KP:=hid (fun(W:World)=>mU_ p W)
   have HP:=hid hp
   have i1:(0:Int)≤(k:Int):=by omega
   have i2:(k:Int)<(n:Int):=by omega
   clear hp
   cases hv:vP p with
   | true=>
    rw[hv] at KP
    have HV:=hid hv
    clear hv
    go_wp2_with (first|(go_at_call 30;(with_reducible refine(KP.out _).mono ?_);rintro e w1 ⟨rfl,hb⟩;have H1:=hid (HB.out.trans (hb.mono HB.out.size));clear hb)|fail)
    exact⟨⟨k+1,by omega,by go_num,H1.out,zA_ HP.out HT.out HV.out⟩,by simp only[intOf];omega⟩
   | false=>
    rw[hv] at KP
    have hf:fewB ps=false:=by
     unfold fewB
     rw[show ps.all vP=false from by
      rw[List.all_eq_false]
      exact⟨p,List.mem_of_getElem? HP.out,by simp[hv]⟩,Bool.and_false]
    have HF:=hid hf
    clear hv hf
    go_wp2_with (first|(go_at_call 30;(with_reducible refine(KP.out _).mono ?_);rintro e w1 ⟨rfl,hb⟩;have H1:=hid (HB.out.trans (hb.mono HB.out.size));clear hb)|fail)
    go_ret
    exact⟨by rw[HF.out];rfl,H1.out⟩
  ·have hkn:k=n:=by omega
   have ha:ps.all vP=true:=by
    have:=HT.out
    rwa[hkn,List.take_of_length_le (by omega)] at this
   have i2:decide ((k:Int)<(n:Int))=false:=decide_eq_false (by omega)
   have i3:¬(k:Int)<(n:Int):=by omega
   by_cases hn2:1≤n∧n≤40
   ·have KI:=hid (fun(W:World)=>aFX (n:=(n:Int)) (lo:=1) (hi:=40) (by omega) (by omega) W)
    have HF:=hid (show fewB ps=true by unfold fewB;rw[ha];simp;omega)
    clear hn2
    go_wp2_with (first|(go_at_call 36;(with_reducible refine(KI.out _).mono ?_);rintro e w1 ⟨rfl,rfl⟩)|fail)
    go_ret
    exact⟨by rw[HF.out];rfl,HB.out⟩
   ·have KI:=hid (fun(W:World)=>aFY (n:=(n:Int)) (lo:=1) (hi:=40) (by omega) W)
    have HF:=hid (show fewB ps=false by unfold fewB;rw[ha];simp;omega)
    clear hn2
    go_wp2_with (first|(go_at_call 36;(with_reducible refine(KI.out _).mono ?_);rintro e w1 ⟨rfl,rfl⟩)|fail)
    go_ret
    exact⟨by rw[HF.out];rfl,HB.out⟩
end Go.Proofs.YtjfdefglpoancaaGreatDoor
