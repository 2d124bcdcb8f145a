/- - -/
import Derived.Deep.RegionHeld3
import Derived.Test.YtlikmmpmnaaifaaGreatDoorZPv
import Derived.Test.YtlikmmpmnaaifaaGreatDoorZHg
import Derived.Test.YtlikmmpmnaaifaaGreatDoorZPlB
import Derived.Test.YtlikmmpmnaaifaaGreatDoorZAt
import Derived.Test.YtlikmmpmnaaifaaGreatDoorZPl14
import Derived.Test.YtlikmmpmnaaifaaGreatDoorZPl2
set_option maxHeartbeats 40000000
set_option maxRecDepth 1000000
open Go.Lib (hid)
namespace Go.Proofs.YtlikmmpmnaaifaaGreatDoor
open Go.RowKit Go.Shelf Go.Sort
attribute [local go_sem] Oper.semAt_some
theorem aBD {B cap n:Nat} {ps:List Pl} {r:Rc} (hl:ps.length=n) (hv:fewB ps=true) (hh:aO_ ps=ps) (hr:vRc r=true)
  {w:World} (hi:IOps w) (hf:FrOp w) (h:PsAt B ps w) :
  Calls Tryz.prog 28 #[.slice (some ⟨B,0,none⟩) n cap,.agg #[.int .i64 r.x,.int .i64 r.y,.int .i64 r.w,.int .i64 r.h]] w fun e W'=>e=.returned (.tuple #[.agg #[.string (qN (bT_ ps r)),.string (qD (bT_ ps r))],.int .i64 0])∧Below w.heap.size w W':=by
 have hall:∀q∈ps,vP q=true:=by
  unfold fewB at hv
  simp only[Bool.and_eq_true] at hv
  exact List.all_eq_true.1 hv.2
 have hnn:=vV_ hv
 rw[hl] at hnn
 obtain⟨hn1,hn⟩:=hnn
 have K1:=hid (fun(W:World) (hb:Below w.heap.size w W)=>vQ_ (cap:=cap) hl hv W (h.below hb))
 rw[hh,hl] at K1
 have K2:=hid (fun(g c:Nat) (W:World) (hb:Below w.heap.size w W) (hg:PsAt g ps W)=>aPN (c1:=c) (c2:=cap) hl (by omega) W hg (h.below hb))
 have K3:=hid (fun(W:World)=>by have:=hQ_ r W;rw[hr] at this;exact this)
 have K4:=hid (fun(W:World) (hb:Below w.heap.size w W)=>cO_ (n:=0) (by decide) (by decide) (hi.below hb) (hf.below hb))
 have HA:=hid hall
 have HP:=hid h
 have HL:=hid hl
 have HR:=hid hr
 have HI:=hid hi
 have HF:=hid hf
 have hB:=h.sz
 have H0:=hid (show AzAt [(w.heap.size+1,[.string ⟨#[]⟩,.string ⟨#[]⟩]),(w.heap.size,[.int .i64 r.x,.int .i64 r.y,.int .i64 r.w,.int .i64 r.h])] w _ from by
  have hp:=((AzAt.start w).push [.int .i64 r.x,.int .i64 r.y,.int .i64 r.w,.int .i64 r.h] 29).push [.string ⟨#[]⟩,.string ⟨#[]⟩] 47
  simp only[World.size_alloc] at hp
  exact hp)
 clear hall hv hh hr hi hf h hl
 refine(callsIn_wide (n:=3)).1 ?_
 refine callsIn_of_wp_marks Tryz.func28 rfl trivial ?_ rfl
 simp only[Tryz.ntmps28,List.size_toArray,List.length_cons,List.length_nil,Nat.reduceAdd,Nat.reduceSub,Array.replicate_succ,Array.replicate_zero,List.push_toArray,List.append_toArray,List.nil_append,List.cons_append]
 gi_wp2_with (first
  | (refine⟨trivial,?_⟩;gi_at_call 23;with_reducible refine(callsIn_wide.2 (K1.out _ H0.out.bw)).mono ?_;rintro e w1 ⟨⟨g,c,rfl,hg⟩,hb⟩;have H1:=hid (H0.out.below hb);have G1:=hid (PsAt.of hg);clear hb hg)
  | (refine⟨trivial,?_⟩;gi_at_call 83;with_reducible refine(callsIn_wide.2 (K2.out _ _ _ H1.out.bw G1.out)).mono ?_;rintro e w2 ⟨rfl,hb⟩;have H2:=hid (H1.out.below hb);clear hb;have h_:=H2.out.row (w.heap.size,[.int .i64 r.x,.int .i64 r.y,.int .i64 r.w,.int .i64 r.h]) (by simp);have x0:=h_.row 0 _ rfl;have x1:=h_.row 1 _ rfl;have x2:=h_.row 2 _ rfl;have x3:=h_.row 3 _ rfl;clear h_)
  | (refine⟨trivial,?_⟩;gi_at_call 15;with_reducible refine(callsIn_wide.2 (K3.out _)).mono ?_;rintro e w3 ⟨rfl,hb⟩;have H3:=hid (H2.out.below hb);clear hb x0 x1 x2 x3)
  | (refine⟨trivial,?_⟩;gi_at_call 84;with_reducible refine(callsIn_wide.2 (K4.out _ H3.out.bw)).mono ?_;rintro e w4 ⟨rfl,hb⟩;have H4:=hid (H3.out.below hb);clear hb)
  | (refine⟨trivial,?_⟩;gi_at_call 82;refine(aLI Fence.wide _ trivial rfl _ _ _ _).mono ?_;rintro e w' ⟨rfl,rfl⟩))
 obtain⟨W0,hW0⟩:∃W0,(w4.alloc (.cells #[.string (qN (whO 0)),.string (qD (whO 0))] 109))=W0:=⟨_,rfl⟩
 have cS:=hid (show ArAt w4.heap.size [.string (qN (whO 0)),.string (qD (whO 0))] W0 from by rw[←hW0];exact ArAt.mk' w4 _ _)
 have hs0:W0.heap.size=w4.heap.size+1:=by rw[←hW0];simp
 have hB0:Below w4.heap.size w4 W0:=by rw[←hW0];exact(Below.refl _ _).alloc (Nat.le_refl _) _
 have bN:=Boxed.new W0 27 (.slice (some ⟨B,0,none⟩) n cap)
 rw[hs0] at bN
 rw[hW0]
 have hw4:=H4.out.bw.size
 have hRB:=(H4.out.row (w.heap.size,[.int .i64 r.x,.int .i64 r.y,.int .i64 r.w,.int .i64 r.h]) (by simp)).sz
 have hRES:=(H4.out.row (w.heap.size+1,[.string ⟨#[]⟩,.string ⟨#[]⟩]) (by simp)).sz
 simp only at hRB hRES
 clear hW0 K1 K2 K3 K4 H1 H2 H3 H0 G1
 have hB1:Below W0.heap.size W0 (W0.alloc (.cells #[.slice (some ⟨B,0,none⟩) n cap] 27)):=(Below.refl _ _).alloc (Nat.le_refl _) _
 refine wpIn_rangeFunc_ownH rfl (by omega) (gf:=135) (lb:=#[.pointer (some ⟨w4.heap.size+1,0,none⟩)]) rfl trivial (enters_of Tryz.func135 (by kernel_rfl) rfl)
  (vX_ Fence.wide _ trivial rfl (by omega) (w4.heap.size+1) w4.heap.size B cap n ps HA.out HL.out (by omega) (by omega) (W0.alloc (.cells #[.slice (some ⟨B,0,none⟩) n cap] 27)) bN.cell (by simp;omega) (by simp;omega) (((HP.out.below H4.out.bw).below hB0).below hB1))
  aX_.trans (jS_ (by simp;omega) (by simp;omega)) (Below.refl _ _) (fun _=>rfl)
  (fun pre W=>((W.cell? ⟨w4.heap.size,0,none⟩=some (.string (qN (accO r pre)))∧W.cell? ⟨w4.heap.size,1,none⟩=some (.string (qD (accO r pre))))∧(W.frozen? ⟨w4.heap.size,0,none⟩=false∧W.frozen? ⟨w4.heap.size,1,none⟩=false)∧w4.heap.size+2≤W.heap.size)∧Below w4.heap.size w4 W)
  (fun _ _ _=>False)
  ?I (fun _ _ _ _ _ hs _ _=>hs) ?h0
  (fun x a' W=>∃A C:Nat,a' = { tmps:=#[.slice (some ⟨B,0,none⟩) n cap,.agg #[.int .i64 r.x,.int .i64 r.y,.int .i64 r.w,.int .i64 r.h],undef,.pointer (some ⟨w.heap.size,0,none⟩),.pointer (some ⟨w.heap.size+1,0,none⟩),.int .i64 0,.slice (some ⟨g,0,none⟩) n c,.int .i64 0,.pointer (some ⟨w4.heap.size,0,none⟩),.pointer (some ⟨A,0,none⟩),.pointer (some ⟨C,0,none⟩),.tuple #[.slice (some ⟨g,0,none⟩) n c,.int .i64 0],.slice (some ⟨B,0,none⟩) n cap,.tuple #[.slice (some ⟨g,0,none⟩) n c,.int .i64 0],.slice (some ⟨g,0,none⟩) n c,.int .i64 0,.int .i64 0,.bool false,.bool false,.slice (some ⟨g,0,none⟩) n c,.slice (some ⟨B,0,none⟩) n cap,.bool true,.bool false,.bool false,.bool false,.agg #[.int .i64 r.x,.int .i64 r.y,.int .i64 r.w,.int .i64 r.h],.bool true,.bool false,.bool false,undef,.agg #[.string (qN (whO 0)),.string (qD (whO 0))],.slice (some ⟨B,0,none⟩) n cap,.func (.func 135) #[] #[.pointer (some ⟨w4.heap.size+1,0,none⟩)],.agg #[.int .i64 x.1.1.x,.int .i64 x.1.1.y],.agg #[.int .i64 x.1.2.x,.int .i64 x.1.2.y],undef,undef,undef,undef,undef,undef,undef,undef,undef,undef,undef,undef,undef,undef,undef,undef,undef,undef,undef],defers:=[] }∧(W.cell? ⟨A,0,none⟩=some (.int .i64 x.1.1.x)∧W.cell? ⟨A,1,none⟩=some (.int .i64 x.1.1.y))∧(W.cell? ⟨C,0,none⟩=some (.int .i64 x.1.2.x)∧W.cell? ⟨C,1,none⟩=some (.int .i64 x.1.2.y)))
  ?hAx ?assign ?body ?done ?stop
 case I=>
  exact OwnFrom.and (Own.from (fun s A B row hs hg hr=>⟨⟨cell_kept hs.1.1 hg hr,cell_kept hs.1.2 hg hr⟩,⟨(frozen_kept hs.1.1 hg hr).trans hs.2.1.1,(frozen_kept hs.1.2 hg hr).trans hs.2.1.2⟩,Nat.le_trans hs.2.2 hg.size⟩) _) (ownFrom_below (Nat.le_refl _) (by simp;omega))
 case h0=>exact⟨⟨⟨(cS.out.al _).row 0 _ rfl,(cS.out.al _).row 1 _ rfl⟩,⟨(cS.out.al _).fz 0 (by simp),(cS.out.al _).fz 1 (by simp)⟩,by simp;omega⟩,hB0.trans (hB1.mono (by omega))⟩
 case hAx=>
  rintro x a' _ X Y row ⟨A,C,e,⟨h1,h2⟩,h3,h4⟩ hg hr
  have hr':∀r,row=some r→∃o:Obj,X.heap[r]?=some o∧o.isCells=false:=fun r e=>(hr r e).2
  exact⟨A,C,e,⟨cell_kept h1 hg hr',cell_kept h2 hg hr'⟩,cell_kept h3 hg hr',cell_kept h4 hg hr'⟩
 case assign=>
  intro l pre x W K hI hK
  simp only[aLJ]
  have HI:=hid hI
  have HK:=hid hK
  clear hI hK
  gi_wp2
  have hsz:=HI.out.1.2.2
  have hb2:Below W.heap.size W ((W.alloc (.cells #[.int .i64 x.1.1.x,.int .i64 x.1.1.y] 26)).alloc (.cells #[.int .i64 x.1.2.x,.int .i64 x.1.2.y] 26)):=((Below.refl _ _).alloc (Nat.le_refl _) _).alloc (by simp) _
  have hlt:w4.heap.size<W.heap.size:=by omega
  refine HK.out _ _ ((aM_ hb2).from _) (aX_.of_below hb2 (by omega) (by omega)) ⟨⟨⟨(hb2.cell (p:=⟨w4.heap.size,0,none⟩) hlt).trans HI.out.1.1.1,(hb2.cell (p:=⟨w4.heap.size,1,none⟩) hlt).trans HI.out.1.1.2⟩,⟨(hb2.frozen (p:=⟨w4.heap.size,0,none⟩) hlt).trans HI.out.1.2.1.1,(hb2.frozen (p:=⟨w4.heap.size,1,none⟩) hlt).trans HI.out.1.2.1.2⟩,Nat.le_trans hsz hb2.size⟩,HI.out.2.trans (hb2.mono (by omega))⟩ ⟨W.heap.size,W.heap.size+1,rfl,?_,?_⟩
  ·constructor <;> simp[go_sem]
  ·constructor <;> simp[go_sem]
 case body=>
  rintro l pre x a' W hl hr ⟨⟨⟨c0,c1⟩,⟨f0,f1⟩,hsz⟩,hBl⟩ ⟨A,C,rfl,⟨h1,h2⟩,h3,h4⟩ hlen
  obtain⟨⟨⟨p,q⟩,hx⟩,hxe⟩:∃y:PE,y=x:=⟨x,rfl⟩
  subst hxe
  simp only at h1 h2 h3 h4 hx⊢
  have HX:=hid (aIL r pre ⟨(p,q),hx⟩)
  have fa:=aIM r pre
  generalize accO r pre=acc at c0 c1 HX fa
  have hbD:Below w.heap.size w W.drew:=(H4.out.bw.trans (hBl.mono hw4)).drew
  have hlt:w4.heap.size<W.heap.size:=by omega
  have hmx:Tryz.prog.follows .mixedOrders=true:=by kernel_rfl
  have x0:=(hBl.cell (p:=⟨w.heap.size,0,none⟩) hRB).trans ((H4.out.row (w.heap.size,[.int .i64 r.x,.int .i64 r.y,.int .i64 r.w,.int .i64 r.h]) (by simp)).row 0 _ rfl)
  have x1:=(hBl.cell (p:=⟨w.heap.size,1,none⟩) hRB).trans ((H4.out.row (w.heap.size,[.int .i64 r.x,.int .i64 r.y,.int .i64 r.w,.int .i64 r.h]) (by simp)).row 1 _ rfl)
  have x2:=(hBl.cell (p:=⟨w.heap.size,2,none⟩) hRB).trans ((H4.out.row (w.heap.size,[.int .i64 r.x,.int .i64 r.y,.int .i64 r.w,.int .i64 r.h]) (by simp)).row 2 _ rfl)
  have x3:=(hBl.cell (p:=⟨w.heap.size,3,none⟩) hRB).trans ((H4.out.row (w.heap.size,[.int .i64 r.x,.int .i64 r.y,.int .i64 r.w,.int .i64 r.h]) (by simp)).row 3 _ rfl)
  clear hr hl
  by_cases hle:p.x≤q.x
  ·have HN:=hid (show accO r (pre++[⟨(p,q),hx⟩])=miO acc (dR_ p q r) from by rw[HX.out];unfold hN_;rw[if_pos hle])
   have KU:=hid (fun(V:World) (hb:Below w.heap.size w V)=>aCN hx.1 hx.2 HR.out (HI.out.below hb) (HF.out.below hb))
   have KM:=hid (fun(V:World) (hb:Below w.heap.size w V)=>qQ_ fa (rX_ p q r) (HI.out.below hb))
   generalize dR_ p q r=u at KU KM HN
   obtain⟨nx,hnx⟩:∃nx,nx=miO acc u:=⟨_,rfl⟩
   rw[←hnx] at KM HN
   clear hnx
   gi_wp2
   gi_region_with_o (first
    | (refine⟨trivial,?_⟩;gi_at_call 86;(with_reducible refine(CallsIn.inRound l (callsIn_wide.2 (KU.out _ hbD))).mono ?_);rintro e w5 ⟨rfl,hb5⟩;have HB5:=hid hb5;have y0:=(hb5.cell (p:=⟨w4.heap.size,0,none⟩) hlt).trans c0;have y1:=(hb5.cell (p:=⟨w4.heap.size,1,none⟩) hlt).trans c1;clear hb5)
    | (refine⟨trivial,?_⟩;gi_at_call 85;(with_reducible refine(CallsIn.inRound l (callsIn_wide.2 (KM.out _ (hbD.trans (HB5.out.mono hbD.size))))).mono ?_);rintro e w6 ⟨rfl,hb6⟩;have HB6:=hid (HB5.out.trans (hb6.mono HB5.out.size));have z0:=(HB6.out.cell (p:=⟨w4.heap.size,0,none⟩) hlt).trans c0;have z1:=(HB6.out.cell (p:=⟨w4.heap.size,1,none⟩) hlt).trans c1;have g0:=(HB6.out.frozen (p:=⟨w4.heap.size,0,none⟩) hlt).trans f0;have g1:=(HB6.out.frozen (p:=⟨w4.heap.size,1,none⟩) hlt).trans f1;clear hb6)
    | fail)
   all_goals
    gi_wp2
    have cc:=nO_ (B0:=(W0.alloc (.cells #[.slice (some ⟨B,0,none⟩) n cap] 27)).heap.size) (u:=.string (qN nx)) (v:=.string (qD nx)) hBl hsz (show Below W.heap.size W _ from((Below.refl W.heap.size W).drew).trans HB6.out) c0 c1 f0 f1
    refine⟨cc.1,cc.2.1,?_⟩
    simp only[HN.out]
    exact cc.2.2
  ·have HN:=hid (show accO r (pre++[⟨(p,q),hx⟩])=plO acc (dR_ q p r) from by rw[HX.out];unfold hN_;rw[if_neg hle])
   have KU:=hid (fun(V:World) (hb:Below w.heap.size w V)=>aCN hx.2 hx.1 HR.out (HI.out.below hb) (HF.out.below hb))
   have KM:=hid (fun(V:World) (hb:Below w.heap.size w V)=>sX_ fa (rX_ q p r) (HI.out.below hb))
   generalize dR_ q p r=u at KU KM HN
   obtain⟨nx,hnx⟩:∃nx,nx=plO acc u:=⟨_,rfl⟩
   rw[←hnx] at KM HN
   clear hnx
   gi_wp2
   gi_region_with_o (first
    | (refine⟨trivial,?_⟩;gi_at_call 86;(with_reducible refine(CallsIn.inRound l (callsIn_wide.2 (KU.out _ hbD))).mono ?_);rintro e w5 ⟨rfl,hb5⟩;have HB5:=hid hb5;have y0:=(hb5.cell (p:=⟨w4.heap.size,0,none⟩) hlt).trans c0;have y1:=(hb5.cell (p:=⟨w4.heap.size,1,none⟩) hlt).trans c1;clear hb5)
    | (refine⟨trivial,?_⟩;gi_at_call 87;(with_reducible refine(CallsIn.inRound l (callsIn_wide.2 (KM.out _ (hbD.trans (HB5.out.mono hbD.size))))).mono ?_);rintro e w6 ⟨rfl,hb6⟩;have HB6:=hid (HB5.out.trans (hb6.mono HB5.out.size));have z0:=(HB6.out.cell (p:=⟨w4.heap.size,0,none⟩) hlt).trans c0;have z1:=(HB6.out.cell (p:=⟨w4.heap.size,1,none⟩) hlt).trans c1;have g0:=(HB6.out.frozen (p:=⟨w4.heap.size,0,none⟩) hlt).trans f0;have g1:=(HB6.out.frozen (p:=⟨w4.heap.size,1,none⟩) hlt).trans f1;clear hb6)
    | fail)
   all_goals
    gi_wp2
    have cc:=nO_ (B0:=(W0.alloc (.cells #[.slice (some ⟨B,0,none⟩) n cap] 27)).heap.size) (u:=.string (qN nx)) (v:=.string (qD nx)) hBl hsz (show Below W.heap.size W _ from((Below.refl W.heap.size W).drew).trans HB6.out) c0 c1 f0 f1
    refine⟨cc.1,cc.2.1,?_⟩
    simp only[HN.out]
    exact cc.2.2
 case done=>
  rintro D ys W hD rfl ⟨⟨⟨c0,c1⟩,⟨f0,f1⟩,hsz⟩,hBl⟩ hK
  rw[zK_] at c0 c1
  have HRES:=hid (AzAt.mk (L:=[(w.heap.size+1,[.string ⟨#[]⟩,.string ⟨#[]⟩])]) (H4.out.bw.trans (hBl.mono hw4)) (fun u hu=>by
   obtain rfl:u=(w.heap.size+1,[.string ⟨#[]⟩,.string ⟨#[]⟩]):=by simpa using hu
   exact(H4.out.row (w.heap.size+1,[.string ⟨#[]⟩,.string ⟨#[]⟩]) (by simp)).of_block (hBl.block _ hRES) hBl.size))
  have h_:=HRES.out.row (w.heap.size+1,[.string ⟨#[]⟩,.string ⟨#[]⟩]) (by simp)
  have y0:=h_.row 0 _ rfl
  have y1:=h_.row 1 _ rfl
  have g0:=h_.fz 0 (by simp)
  have g1:=h_.fz 1 (by simp)
  clear h_
  obtain⟨sn,hsn⟩:∃sn,sn=qN (bT_ ps r):=⟨_,rfl⟩
  obtain⟨sd,hsd⟩:∃sd,sd=qD (bT_ ps r):=⟨_,rfl⟩
  rw[←hsn] at c0
  rw[←hsd] at c1
  have HSN:=hid (And.intro hsn hsd)
  clear hsn hsd
  gi_wp2
  have hp:=HRES.out.set2 (by omega) (by simp <;> omega) (.string sn) (.string sd)
  generalize hWF:((W.setCell ⟨w.heap.size+1,0,none⟩ (.string sn)).setCell ⟨w.heap.size+1,1,none⟩ (.string sd))=WF at hp⊢
  have hD':w4.heap.size+2≤D:=by simp[hs0] at hD;omega
  have hKF:WF.heap[D]?=some (.deferred (some [])):=by
   rw[←hWF]
   rw[Below.heap_setCell _ _ _ _ (by show D≠w.heap.size+1;omega),Below.heap_setCell _ _ _ _ (by show D≠w.heap.size+1;omega)]
   exact hK
  have hbl:=hp.bw.trans (belowK_b (w:=w) (Nat.le_refl _) WF D _ (.deferred none) (by omega) hKF rfl rfl)
  have q0:(WF.putObj D (.deferred none)).cell? ⟨w.heap.size+1,0,none⟩=some (.string sn):=(World.cell?_of_block (w:=WF) (World.putObj_heap_other (by show w.heap.size+1≠D;omega))).trans ((hp.row (w.heap.size+1,[.string sn,.string sd]) (by simp)).row 0 _ rfl)
  have q1:(WF.putObj D (.deferred none)).cell? ⟨w.heap.size+1,1,none⟩=some (.string sd):=(World.cell?_of_block (w:=WF) (World.putObj_heap_other (by show w.heap.size+1≠D;omega))).trans ((hp.row (w.heap.size+1,[.string sn,.string sd]) (by simp)).row 1 _ rfl)
  refine⟨by simp,.inl ⟨_,_,rfl,run_takeDeferred hKF,?_⟩⟩
  refine⟨.tuple #[.agg #[.string sn,.string sd],.int .i64 0],?_,by rw[HSN.out.1,HSN.out.2],hbl⟩
  simp[results,Tryz.f28,go_sem,Result.andThen,q0,q1]
 case stop=>
  rintro D c pre W _ _ hF
  exact hF.elim
end Go.Proofs.YtlikmmpmnaaifaaGreatDoor
namespace Go.Proofs.YtlikmmpmnaaifaaGreatDoor
theorem wD_ {l:List Pl} (hv:∀p∈l,vP p=true) (r:Rc):FO (bT_ l r):=by
 rw[←zK_ r l hv]
 exact aIM r _
theorem aBY {p q:Pl} {t:List Pl} (hq:q∈p::t):(aA_ p t).x≤q.x∧q.x≤(aA_ p t).x+(aA_ p t).w∧(aA_ p t).y≤q.y∧q.y≤(aA_ p t).y+(aA_ p t).h:=by
 have h1:=aNA p t
 have h2:=aFY p t
 rw[nZ_]
 simp only
 rcases List.mem_cons.1 hq with rfl|hq
 ·omega
 ·have:=h1.2.2 q hq
  have:=h2.2.2 q hq
  omega
end Go.Proofs.YtlikmmpmnaaifaaGreatDoor
namespace Go.Proofs.YtlikmmpmnaaifaaGreatDoor
open Go.RowKit Go.Shelf
attribute [local go_sem] Oper.semAt_some
theorem aFZ {q:Rat} (hq:fN_ q) (f:Rat→Nat→Option Rat):jU_ f (qN (some q)) (qD (some q)) 0=f q 0:=by
 have h:ratO (qN (some q)) (qD (some q))=some q:=qB_ hq
 unfold jU_
 rw[h]
 simp
theorem aBP {l t:List Pl} {p:Pl} {r:Rc} (ho:Outl l) (hp:l=p::t) (hr:vRc r=true) (ht:oH_ (aA_ p t) r=false):aS_ l r=0:=by
 have hv:=ho.valid
 rw[hp] at hv
 have e:aL_ l r=0:=wH_ (o:=aA_ p t) ho.edge hr (kT_ p t (hv p (by simp)) (fun q hq=>hv q (by simp[hq]))) (fun q hq=>aBY (by rw[←hp];exact hq)) ht
 unfold aS_
 rw[e,Rat.zero_mul]
 rfl
theorem aLO {B cap n:Nat} {l t:List Pl} {p:Pl} {r:Rc} (hl:l.length=n) (ho:Outl l) (hp:l=p::t) (hr:vRc r=true) (h1:1≤r.w*r.h) (h2:r.w*r.h≤65536) {w:World} (hi:IOps w) (hf:FrOp w) (h:PsAt B l w) :
  Calls Tryz.prog 106 #[.slice (some ⟨B,0,none⟩) n cap,.agg #[.int .i64 (aA_ p t).x,.int .i64 (aA_ p t).y,.int .i64 (aA_ p t).w,.int .i64 (aA_ p t).h],.agg #[.int .i64 r.x,.int .i64 r.y,.int .i64 r.w,.int .i64 r.h]] w fun e W'=>e=.returned (.int .i64 (aS_ l r))∧Below w.heap.size w W':=by
 have K1:=hid (fun W=>aNN (aA_ p t) r W)
 have H0:=hid (show AzAt [(w.heap.size+1,rcC r),(w.heap.size,rcC (aA_ p t))] w _ from by
  have hp:=((AzAt.start w).push (rcC (aA_ p t)) 29).push (rcC r) 29
  simp only[World.size_alloc] at hp
  exact hp)
 cases ht:oH_ (aA_ p t) r with
 | false=>
  have HE:=hid (aBP ho hp hr ht)
  rw[ht] at K1
  rw[HE.out]
  clear ht hl ho hp hr h1 h2 hi hf h
  generalize aA_ p t=o at *
  go_enter Tryz.func106,Tryz.ntmps106
  go_wp2_with (first
   | (go_at_call 17;(with_reducible refine(K1.out _).mono ?_);rintro e w1 ⟨rfl,hb⟩;have H1:=hid (H0.out.below hb);clear hb)
   | fail)
  go_ret
  exact⟨rfl,H1.out.bw⟩
 | true=>
  rw[ht] at K1
  obtain⟨c0,c1,q,hq,fq,hd⟩:=aIA ho hr h1 h2
  obtain⟨pq,_⟩:=aMY h1 h2
  obtain⟨tx,sm,iin⟩:=aHZ c0 c1
  have K2:=hid (fun(W:World) (hb:Below w.heap.size w W)=>aBD (cap:=cap) hl ho.few ho.idem hr (hi.below hb) (hf.below hb) (h.below hb))
  have K3:=hid (fun(W:World) (hb:Below w.heap.size w W)=>by
   have:=Of_q (n:=4096) (d:=r.w*r.h) (hi.below hb) (hf.below hb) (by decide) (by decide) (by omega) (by omega)
   rw[show qE (bE_ 4096 (r.w*r.h))=0 by rw[pq];rfl] at this
   exact this)
  have fa:FO (bT_ l r):=wD_ ho.valid r
  have fb:FO (bE_ 4096 (r.w*r.h)):=fun _ hr'=>eX_ (mE_ (by decide) (by decide)) (mE_ (by omega) (by omega)) hr'
  have K4:=hid (fun(W:World) (hb:Below w.heap.size w W)=>by
   have:=Mul_q (hi.below hb) (hV_ _ fa) (hW_ _ fa) (hV_ _ fb) (hW_ _ fb)
   rw[aEW fa fb,hq,show qE (some q)=0 from rfl] at this
   exact this)
  have K5:=hid (fun(W:World) (hb:Below w.heap.size w W)=>by
   have:=Down_q (k:=0) (hi.below hb) (hV_ _ (FO.of fq)) (hW_ _ (FO.of fq)) (by decide) (by decide)
   rw[aFZ fq,hd,tx,show qE (some ((aS_ l r:Int):Rat))=0 from rfl] at this
   exact this)
  have K6:=hid (fun(W:World)=>aMI (str (aS_ l r)) (aS_ l r) W rfl sm iin)
  obtain⟨d,hd'⟩:∃d,d=r.w*r.h:=⟨_,rfl⟩
  have wd:IntKind.i64.wrap (r.w*r.h)=d:=by rw[IntWalk.i64_in _ (by omega),hd']
  rw[←hd'] at K3 K4
  clear ht hl ho hp hr h1 h2 hi hf h c0 c1 hq fq hd pq tx sm iin fa fb hd'
  generalize aS_ l r=c at *
  generalize qN (bT_ l r)=an at *
  generalize qD (bT_ l r)=ad at *
  generalize qN (bE_ 4096 d)=pn at *
  generalize qD (bE_ 4096 d)=pd at *
  generalize qN (some q)=mn at *
  generalize qD (some q)=md at *
  generalize qD (some ((c:Int):Rat))=dd at *
  generalize str c=sc at *
  generalize aA_ p t=o at *
  go_enter Tryz.func106,Tryz.ntmps106
  go_wp2_with (first
   | (go_at_call 17;(with_reducible refine(K1.out _).mono ?_);rintro e w1 ⟨rfl,hb⟩;have H1:=hid (H0.out.below hb);clear hb;have h_:=H1.out.at (B:=w.heap.size+1) (l:=rcC r) (by simp);have r0:=h_.row 0 _ rfl;have r1:=h_.row 1 _ rfl;have r2:=h_.row 2 _ rfl;have r3:=h_.row 3 _ rfl;clear h_)
   | (go_at_call 28;(with_reducible refine(K2.out _ H1.out.bw).mono ?_);rintro e w2 ⟨rfl,hb⟩;have H2:=hid ((H1.out.below hb).push [.string an,.string ad] 47);clear hb r0 r1 r2 r3;have h_:=H2.out.at (B:=w.heap.size+1) (l:=rcC r) (by simp);have r2:=h_.row 2 _ rfl;have r3:=h_.row 3 _ rfl;clear h_)
   | (go_at_call 97;(with_reducible refine(K3.out _ H2.out.bw).mono ?_);rintro e w3 ⟨rfl,hb⟩;have H3:=hid ((H2.out.below hb).push [.string pn,.string pd] 47);clear hb r2 r3;have h_:=H3.out.at (B:=w2.heap.size) (l:=[.string an,.string ad]) (by simp);have r0:=h_.row 0 _ rfl;have r1:=h_.row 1 _ rfl;clear h_)
   | (go_at_call 162;(with_reducible refine(K4.out _ H3.out.bw).mono ?_);rintro e w4 ⟨rfl,hb⟩;have H4:=hid ((H3.out.below hb).push [.string mn,.string md] 47);clear hb r0 r1)
   | (go_at_call 163;(with_reducible refine(K5.out _ H4.out.bw).mono ?_);rintro e w5 ⟨rfl,hb⟩;have H5:=hid ((H4.out.below hb).push [.string sc,.string dd] 47);clear hb)
   | (go_at_call 164;(with_reducible refine(K6.out _).mono ?_);rintro e w6 ⟨rfl,hb⟩;have H6:=hid (H5.out.below hb);clear hb)
   | fail)
  go_ret
  exact⟨rfl,H6.out.bw⟩
end Go.Proofs.YtlikmmpmnaaifaaGreatDoor
namespace Go.Proofs.YtlikmmpmnaaifaaGreatDoor
open Go.RowKit Go.Shelf Go.Sort
attribute [local go_sem] Oper.semAt_some
def shC (s:Sh):List Value:=[.int .i64 s.code,.int .i64 s.kind,.int .i64 s.rect.x,.int .i64 s.rect.y,.int .i64 s.rect.w,.int .i64 s.rect.h,.int .i64 s.a.x,.int .i64 s.a.y,.int .i64 s.b.x,.int .i64 s.b.y,.string s.word]
def thkL (a b:Pl) (k:Nat):List Pl:=if k=0 then [] else if k=1 then dS_ a else dS_ a++dS_ b
theorem aAG {e:TypeId} {v:Value} {n:Nat} {xs:List Value} {R:List (Nat×List Value)} {w W:World} (h:OzAt e v n xs R w W) (hn:0<n):∃g c,v=.slice (some ⟨g,0,none⟩) n c:=by
 rcases h.own.2 with ⟨_,e,_⟩|⟨g,c,cur,rfl,_⟩
 ·omega
 ·exact⟨g,c,rfl⟩
theorem eN_ {Y:Nat} {x y:Int} {R:List (Nat×List Value)} {w W:World} (h:AzAt ((Y,[.int .i64 x,.int .i64 y])::R) w W):W.cell? ⟨Y,0,none⟩=some (.int .i64 x)∧W.cell? ⟨Y,1,none⟩=some (.int .i64 y):=
 ⟨(h.at (B:=Y) (l:=[.int .i64 x,.int .i64 y]) (by simp)).row 0 _ rfl,(h.at (B:=Y) (l:=[.int .i64 x,.int .i64 y]) (by simp)).row 1 _ rfl⟩
theorem oG_ {Y:Nat} {x y:Int} {z:Nat×List Value} {R:List (Nat×List Value)} {w W:World} (h:AzAt (z::(Y,[.int .i64 x,.int .i64 y])::R) w W):W.cell? ⟨Y,0,none⟩=some (.int .i64 x)∧W.cell? ⟨Y,1,none⟩=some (.int .i64 y):=
 eN_ (h.sub fun _ hx=>List.mem_cons_of_mem _ hx)
theorem tD_ {s:Sh} (hs:okSh s=true) (w:World) :
  Calls Tryz.prog 48 #[.agg #[.int .i64 s.code,.int .i64 s.kind,.int .i64 s.rect.x,.int .i64 s.rect.y,.int .i64 s.rect.w,.int .i64 s.rect.h,.int .i64 s.a.x,.int .i64 s.a.y,.int .i64 s.b.x,.int .i64 s.b.y,.string s.word]] w fun e W'=>∃g c,e=.returned (.tuple #[.slice (some ⟨g,0,none⟩) (outL s).length c,.int .i64 0])∧PsAt g (outL s) W'∧Below w.heap.size w W':=by
 have hmx:Tryz.prog.follows .mixedOrders=true:=by kernel_rfl
 have hs':=hs
 unfold okSh at hs'
 simp only[Bool.and_eq_true] at hs'
 obtain⟨⟨hc,hr⟩,hl⟩:=hs'
 have hrb:=rW_ hr
 have K1:=hid (fun W=>by have:=yN_ s.code W;rw[hc] at this;exact this)
 have K2:=hid (fun W=>by have:=hQ_ s.rect W;rw[hr] at this;exact this)
 have K3:=hid (fun W=>xP_ s.rect.x s.rect.y (s.rect.x+s.rect.w) (s.rect.y+s.rect.h) W)
 have H0:=hid (show AzAt [(w.heap.size,shC s)] w _ from(AzAt.start w).push (shC s) 63)
 have HF:=hid (aLQ hs)
 cases hk:eD_ s with
 | false=>
  have e:gC_ s=boxL s.rect.x s.rect.y (s.rect.x+s.rect.w) (s.rect.y+s.rect.h):=by unfold gC_;rw[hk];rfl
  have hk0:¬s.kind=1∧¬s.kind=3:=by unfold eD_ at hk;simp only[Bool.or_eq_false_iff,decide_eq_false_iff_not] at hk;exact hk
  have hk1:=hk0.1
  have hk2:=hk0.2
  have hk3:(s.kind==1)=false:=by simpa using hk1
  have hk4:(s.kind==3)=false:=by simpa using hk2
  clear hk0
  have K4:=hid (fun(g:Nat) (W:World) (h:PsAt g (gC_ s) W)=>vQ_ (cap:=4) (n:=4) (by rw[e];rfl) HF.out W h)
  rw[e] at K4
  unfold outL
  rw[e]
  obtain⟨x1,hx1⟩:∃x1,x1=s.rect.x+s.rect.w:=⟨_,rfl⟩
  obtain⟨y1,hy1⟩:∃y1,y1=s.rect.y+s.rect.h:=⟨_,rfl⟩
  have w1:IntKind.i64.wrap (s.rect.x+s.rect.w)=x1:=by rw[hx1];exact IntWalk.i64_in _ (by omega)
  have w2:IntKind.i64.wrap (s.rect.y+s.rect.h)=y1:=by rw[hy1];exact IntWalk.i64_in _ (by omega)
  clear hs hc hr hl hrb HF e
  rw[←hx1] at K3 K4⊢
  rw[←hy1] at K3 K4⊢
  clear hx1 hy1
  generalize hH:aO_ (boxL s.rect.x s.rect.y x1 y1)=hu at K4⊢
  clear hH
  go_enter Tryz.func48,Tryz.ntmps48
  go_wp2_with (first
   | (go_at_call 115;(with_reducible refine(K1.out _).mono ?_);rintro e u1 ⟨rfl,hb⟩;have H1:=hid (H0.out.below hb);clear hb;have h_:=H1.out.at (B:=w.heap.size) (l:=shC s) (by simp);have x2:=h_.row 2 _ rfl;have x3:=h_.row 3 _ rfl;have x4:=h_.row 4 _ rfl;have x5:=h_.row 5 _ rfl;clear h_)
   | (go_at_call 15;(with_reducible refine(K2.out _).mono ?_);rintro e u2 ⟨rfl,hb⟩;have H2:=hid (H1.out.below hb);clear hb x2 x3 x4 x5;have h_:=H2.out.at (B:=w.heap.size) (l:=shC s) (by simp);have x2:=h_.row 2 _ rfl;have x3:=h_.row 3 _ rfl;have x4:=h_.row 4 _ rfl;have x5:=h_.row 5 _ rfl;clear h_)
   | (go_at_call 116;(with_reducible refine(K3.out _).mono ?_);rintro e u3 ⟨rfl,hu3⟩;have H3:=hid (show AzAt [(u2.heap.size,plC (boxL s.rect.x s.rect.y x1 y1)),(w.heap.size,shC s)] w u3 from by rw[hu3];exact H2.out.push _ _);clear hu3 x2 x3 x4 x5;have x1':=(H3.out.at (B:=w.heap.size) (l:=shC s) (by simp)).row 1 _ rfl)
   | (go_at_call 23;(with_reducible refine(K4.out _ _ (PsAt.of (H3.out.at (B:=u2.heap.size) (l:=plC (boxL s.rect.x s.rect.y x1 y1)) (by simp)))).mono ?_);rintro e u4 ⟨⟨g,c,rfl,hg⟩,hb⟩;have H4:=hid (H3.out.below hb);have G4:=hid (PsAt.of hg);clear hb hg x1')
   | fail)
  go_ret2
  exact⟨g,c,rfl,G4.out,H4.out.bw⟩
 | true=>
  have e:gC_ s=thkL s.a s.b 2:=by unfold gC_;rw[hk];rfl
  have hk0:(((s.kind==1)=true∧(s.kind=1)=True))∨(((s.kind==1)=false∧¬s.kind=1)∧((s.kind==3)=true∧(s.kind=3)=True)):=by
   unfold eD_ at hk
   simp only[Bool.or_eq_true,decide_eq_true_eq] at hk
   by_cases h1:s.kind=1
   ·exact .inl ⟨by simpa using h1,eq_true h1⟩
   ·exact .inr ⟨⟨by simpa using h1,h1⟩,by simpa using hk.resolve_left h1,eq_true (hk.resolve_left h1)⟩
  rw[hk] at hl
  simp only[Bool.not_true,Bool.false_or,Bool.and_eq_true] at hl
  have K4:=hid (fun(g c:Nat) (W:World) (h:PsAt g (gC_ s) W)=>vQ_ (cap:=c) (n:=8) (by rw[e];rfl) HF.out W h)
  rw[e] at K4
  have K5:=hid (fun W=>by have:=lC_ s.a W;rw[hl.1] at this;exact this)
  have K6:=hid (fun W=>by have:=lC_ s.b W;rw[hl.2] at this;exact this)
  unfold outL
  rw[e]
  have HV:=hid hl
  obtain⟨x1,hx1⟩:∃x1,x1=s.rect.x+s.rect.w:=⟨_,rfl⟩
  obtain⟨y1,hy1⟩:∃y1,y1=s.rect.y+s.rect.h:=⟨_,rfl⟩
  have w1:IntKind.i64.wrap (s.rect.x+s.rect.w)=x1:=by rw[hx1];exact IntWalk.i64_in _ (by omega)
  have w2:IntKind.i64.wrap (s.rect.y+s.rect.h)=y1:=by rw[hy1];exact IntWalk.i64_in _ (by omega)
  clear hs hc hr hl hrb HF e
  rw[←hx1] at K3
  rw[←hy1] at K3
  clear hx1 hy1
  obtain⟨i0,hi0,hz0,hz1,hz2⟩:=info_parts dP_
  rcases hk0 with hk0|hk0
  all_goals
   clear hk
   obtain⟨hk1,hk2⟩:=hk0
   try obtain⟨hk3,hk4⟩:=hk1
   try obtain⟨hk5,hk6⟩:=hk2
   go_enter Tryz.func48,Tryz.ntmps48
   go_wp2_with (first
    | (go_at_call 115;(with_reducible refine(K1.out _).mono ?_);rintro e u1 ⟨rfl,hb⟩;have H1:=hid (H0.out.below hb);clear hb;have h_:=H1.out.at (B:=w.heap.size) (l:=shC s) (by simp);have x2:=h_.row 2 _ rfl;have x3:=h_.row 3 _ rfl;have x4:=h_.row 4 _ rfl;have x5:=h_.row 5 _ rfl;clear h_)
    | (go_at_call 15;(with_reducible refine(K2.out _).mono ?_);rintro e u2 ⟨rfl,hb⟩;have H2:=hid (H1.out.below hb);clear hb x2 x3 x4 x5;have h_:=H2.out.at (B:=w.heap.size) (l:=shC s) (by simp);have x2:=h_.row 2 _ rfl;have x3:=h_.row 3 _ rfl;have x4:=h_.row 4 _ rfl;have x5:=h_.row 5 _ rfl;clear h_)
    | (go_at_call 116;(with_reducible refine(K3.out _).mono ?_);rintro e u3 ⟨rfl,hu3⟩;have H3:=hid (show AzAt [(w.heap.size,shC s)] w u3 from by rw[hu3];exact H2.out.al _);clear hu3 x2 x3 x4 x5;have x1':=(H3.out.at (B:=w.heap.size) (l:=shC s) (by simp)).row 1 _ rfl;have h_:=H3.out.at (B:=w.heap.size) (l:=shC s) (by simp);have x6:=h_.row 6 _ rfl;have x7:=h_.row 7 _ rfl;clear h_)
    | (go_at_call 36;(with_reducible refine(K5.out _).mono ?_);rintro e u4 ⟨rfl,hb⟩;have H4:=hid (H3.out.below hb);clear hb x1' x6 x7;have h_:=H4.out.at (B:=w.heap.size) (l:=shC s) (by simp);have x8:=h_.row 8 _ rfl;have x9:=h_.row 9 _ rfl;clear h_)
    | (go_at_call 36;(with_reducible refine(K6.out _).mono ?_);rintro e u5 ⟨rfl,hb⟩;have H5:=hid (H4.out.below hb);clear hb x8 x9;have h_:=H5.out.at (B:=w.heap.size) (l:=shC s) (by simp);have x6:=h_.row 6 _ rfl;have x7:=h_.row 7 _ rfl;have x8:=h_.row 8 _ rfl;have x9:=h_.row 9 _ rfl;clear h_)
    | fail)
   obtain⟨X,hX⟩:∃X,X=u5.heap.size:=⟨_,rfl⟩
   obtain⟨W5,hW5⟩:∃W5,W5=u5.alloc (.cells #[.int .i64 s.a.x,.int .i64 s.a.y,.int .i64 s.b.x,.int .i64 s.b.y] 26):=⟨_,rfl⟩
   have H7:=hid (show OzAt 26 (.slice none 0 0) 0 [] [(X,plC [s.a,s.b]),(w.heap.size,shC s)] w W5 from by rw[hX,hW5];exact OzAt.nil (H5.out.push (plC [s.a,s.b]) 26) _)
   rw[←hX,←hW5]
   clear hX hW5 H0 H1 H2 H3 H4 H5 K1 K2 K3 K5 K6 x6 x7 x8 x9 w1 w2
   go_loopw [4,64] (fun v4 v64 wr=>∃k:Nat,k≤2∧v64=.int .i64 (k:Int)∧OzAt 26 v4 (4*k) (plC (thkL s.a s.b k)) [(X,plC [s.a,s.b]),(w.heap.size,shC s)] w wr) (fun _ v64 _=>2-(intOf v64).toNat)
   case atStart=>exact⟨0,by omega,rfl,H7.out⟩
   case round=>
    obtain⟨k,hk,rfl,hZ⟩:=hrel
    have HZ:=hid hZ
    clear hZ H7
    by_cases hlt:k<2
    ·obtain⟨p,hp,hs⟩:∃p:Pl,[s.a,s.b][k]?=some p∧thkL s.a s.b (k+1)=thkL s.a s.b k++dS_ p:=by
      obtain rfl|rfl:k=0∨k=1:=by omega
      ·exact⟨s.a,rfl,rfl⟩
      ·exact⟨s.b,rfl,rfl⟩
     have hpv:vP p=true:=by
      obtain rfl|rfl:k=0∨k=1:=by omega
      ·cases hp;exact HV.out.1
      ·cases hp;exact HV.out.2
     have hpb:=vP_b hpv
     obtain⟨c0,c1⟩:=(PsAt.of (HZ.out.az.row (X,plC [s.a,s.b]) (by simp))).row k p hp
     have HS:=hid hs
     have i1:(0:Int)≤(k:Int):=by omega
     have i2:(k:Int)<2:=by omega
     have i3:decide ((k:Int)<2)=true:=decide_eq_true i2
     have i4:decide (k<2)=true:=decide_eq_true hlt
     have g5:IntKind.i64.wrap ((k:Int)+1)=(k:Int)+1:=IntWalk.i64_in _ (by omega)
     obtain⟨x0,ex0⟩:∃x,x=p.x-2:=⟨_,rfl⟩
     obtain⟨y0,ey0⟩:∃y,y=p.y-2:=⟨_,rfl⟩
     obtain⟨x9,ex9⟩:∃x,x=p.x+2:=⟨_,rfl⟩
     obtain⟨y9,ey9⟩:∃y,y=p.y+2:=⟨_,rfl⟩
     have g1:IntKind.i64.wrap (p.x-2)=x0:=by rw[ex0];exact IntWalk.i64_in _ (by omega)
     have g2:IntKind.i64.wrap (p.y-2)=y0:=by rw[ey0];exact IntWalk.i64_in _ (by omega)
     have g3:IntKind.i64.wrap (p.x+2)=x9:=by rw[ex9];exact IntWalk.i64_in _ (by omega)
     have g4:IntKind.i64.wrap (p.y+2)=y9:=by rw[ey9];exact IntWalk.i64_in _ (by omega)
     have HT:=hid (show dS_ p=boxL (onB x0) (onB y0) (onB x9) (onB y9) by unfold dS_;rw[ex0,ey0,ex9,ey9])
     have k1:=fun W=>iV_ x0 W
     have k2:=fun W=>iV_ y0 W
     have k3:=fun W=>iV_ x9 W
     have k4:=fun W=>iV_ y9 W
     generalize onB x0=bx0 at k1 HT
     generalize onB y0=by0 at k2 HT
     generalize onB x9=bx9 at k3 HT
     generalize onB y9=by9 at k4 HT
     have K7:=hid (fun W=>xP_ bx0 by0 bx9 by9 W)
     clear ex0 ey0 ex9 ey9 hpv hpb hp hs
     go_wp2
     obtain⟨W6,hW6⟩:∃W6,W6=wr.alloc (.cells #[.int .i64 p.x,.int .i64 p.y] 26):=⟨_,rfl⟩
     obtain⟨Y,hY⟩:∃Y,Y=wr.heap.size:=⟨_,rfl⟩
     have HW:=hid (show OzAt 26 u4 (4*k) (plC (thkL s.a s.b k)) [(Y,[.int .i64 p.x,.int .i64 p.y]),(X,plC [s.a,s.b]),(w.heap.size,shC s)] w W6 from by rw[hY,hW6];exact HZ.out.push [.int .i64 p.x,.int .i64 p.y] 26)
     rw[←hY,←hW6]
     clear hY hW6 c0 c1 HZ
     first|(go_region_held3 (fun W=>W.cell? ⟨Y,0,none⟩=Option.some (.int .i64 p.x)∧W.cell? ⟨Y,1,none⟩=Option.some (.int .i64 p.y)) (first|with_reducible exact eN_ HW.out.az.drew|with_reducible exact eN_ H1.out.az|with_reducible exact eN_ H2.out.az|with_reducible exact eN_ H3.out.az|with_reducible exact eN_ H4.out.az|with_reducible exact oG_ H8.out.az|with_reducible exact oG_ HZ9.out.az) (first
      | (have _:=H8;refine oC_ rfl (.tmp 68) (.tmp 85) rfl u4 (4*k) (thkL s.a s.b k) _ (by simp[Act.eval]) H8.out u10.heap.size 0 4 4 (boxL bx0 by0 bx9 by9) (boxL bx0 by0 bx9 by9) (by simp[Act.eval]) rfl (by simp) (fun j q h=>by rwa[Nat.zero_add]) (by omega) ?_;intro v9 w9 hz;have HZ9:=hid hz;clear hz)
      | (have _:=H4;go_at_call 116;(with_reducible refine(K7.out _).mono ?_);rintro e w8 ⟨rfl,hw8⟩;have H8:=hid (show OzAt 26 u4 (4*k) (plC (thkL s.a s.b k)) [(u10.heap.size,plC (boxL bx0 by0 bx9 by9)),(Y,[.int .i64 p.x,.int .i64 p.y]),(X,plC [s.a,s.b]),(w.heap.size,shC s)] w w8 from by rw[hw8];exact H4.out.push _ _);clear hw8)
      | (have _:=H3;go_at_call 117;(with_reducible refine(k4 _).mono ?_);rintro e u10 ⟨rfl,hb⟩;have H4:=hid (H3.out.below hb);clear hb)
      | (have _:=H2;go_at_call 117;(with_reducible refine(k3 _).mono ?_);rintro e u9 ⟨rfl,hb⟩;have H3:=hid (H2.out.below hb);clear hb)
      | (have _:=H1;go_at_call 117;(with_reducible refine(k2 _).mono ?_);rintro e u8 ⟨rfl,hb⟩;have H2:=hid (H1.out.below hb);clear hb)
      | (go_at_call 117;(with_reducible refine(k1 _).mono ?_);rintro e u7 ⟨rfl,hb⟩;have H1:=hid (HW.out.drew.below hb);clear hb)
      | fail)) | fail
     go_wp2
     refine⟨⟨k+1,by omega,by go_num,?_⟩,by simp only[intOf];omega⟩
     rw[HS.out,HT.out]
     rw[show 4*(k+1)=4*k+4 by omega]
     exact HZ9.out.sub (fun x hx=>List.mem_cons_of_mem _ (List.mem_cons_of_mem _ hx))
    ·obtain rfl:k=2:=by omega
     obtain⟨g8,c8,rfl⟩:=aAG HZ.out (by omega)
     have K8:=hid (K4.out g8 c8 wr (⟨fun i q hq=>⟨HZ.out.cell rfl (iR_ hq).1,HZ.out.cell rfl (iR_ hq).2⟩,(HZ.out.blk rfl).1⟩))
     go_wp2_with (first
      | (go_at_call 23;(with_reducible refine K8.out.mono ?_);rintro e u9 ⟨⟨g,c,rfl,hg⟩,hb⟩;have H9:=hid (HZ.out.az.bw.trans (hb.mono HZ.out.az.bw.size));have G9:=hid (PsAt.of hg);clear hb hg)
      | fail)
     go_ret2
     exact⟨g,c,rfl,G9.out,H9.out⟩
end Go.Proofs.YtlikmmpmnaaifaaGreatDoor
