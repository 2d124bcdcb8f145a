/- - -/
import Derived.Lib.QuietBelow
import Derived.BigQuiet
import Derived.Test.YtlikmmpmnaaifaaGreatDoorZAt
set_option maxHeartbeats 40000000
set_option maxRecDepth 1000000
open Go.Lib (hid)
namespace Go.Proofs.YtlikmmpmnaaifaaGreatDoor
open Go.RowKit Go.Shelf
attribute [local go_sem] Oper.semAt_some
theorem rU_ {r:Rc} {y:Option Rat} {R:Nat} (hr:vRc r=true) (fy:FO y) {w:World} (hi:IOps w) (hf:FrOp w) (cR:ArAt R [.int .i64 r.x,.int .i64 r.y,.int .i64 r.w,.int .i64 r.h] w) :
  Calls Tryz.prog 144 #[.agg #[.string (qN y),.string (qD y)],.pointer (some ⟨R,0,none⟩)] w fun e W'=>e=.returned (.agg #[.string (qN (bU_ r y)),.string (qD (bU_ r y))])∧Below w.heap.size w W':=by
 obtain⟨⟨r1,r2⟩,⟨r3,r4⟩,⟨r5,r6⟩,⟨r7,r8⟩,r9,r10⟩:=rW_ hr
 have f1:FO (whO r.y):=cX_ (by omega) (by omega)
 have f2:FO (miO y (whO r.y)):=FO.sub _ _
 have f3:FO (whO 0):=cX_ (by decide) (by decide)
 have f4:FO (whO r.h):=cX_ (by omega) (by omega)
 have K1:=hid (fun(W:World) (h:Below w.heap.size w W)=>cO_ (n:=r.y) (by omega) (by omega) (hi.below h) (hf.below h))
 have K2:=hid (fun(W:World) (h:Below w.heap.size w W)=>qQ_ fy f1 (hi.below h))
 have K3:=hid (fun(W:World) (h:Below w.heap.size w W)=>cO_ (n:=0) (by decide) (by decide) (hi.below h) (hf.below h))
 have K4:=hid (fun(W:World) (h:Below w.heap.size w W)=>tJ_ f2 f3 (hi.below h))
 have K5:=hid (fun(W:World) (h:Below w.heap.size w W)=>cO_ (n:=r.h) (by omega) (by omega) (hi.below h) (hf.below h))
 have K6:=hid (fun(W:World) (h:Below w.heap.size w W)=>tJ_ f4 f2 (hi.below h))
 have H0:=hid (show AzAt [(w.heap.size,[.string (qN y),.string (qD y)]),(w.heap.size+1,[.string ⟨#[]⟩,.string ⟨#[]⟩]),(R,[.int .i64 r.x,.int .i64 r.y,.int .i64 r.w,.int .i64 r.h])] w _ from by have hp:=((AzAt.mk (L:=[(R,[.int .i64 r.x,.int .i64 r.y,.int .i64 r.w,.int .i64 r.h])]) (Below.refl _ w) (fun u hu=>by rcases List.mem_cons.1 hu with rfl|hu;exact cR;cases hu)).push [.string (qN y),.string (qD y)] 109).push [.string ⟨#[]⟩,.string ⟨#[]⟩] 109;simp only[World.size_alloc] at hp;exact hp.swap)
 have sR:=cR.sz
 clear hr fy f1 f2 f3 f4 hi hf cR
 unfold bU_
 simp only
 generalize hz:miO y (whO r.y)=z at *
 clear hz
 generalize leO z (whO 0)=b1 at K4⊢
 generalize leO (whO r.h) z=b2 at K6⊢
 cases b1
 ·cases b2
  ·simp only[Bool.false_eq_true,if_false]
   generalize qN z=zn at *
   generalize qD z=zd at *
   generalize qN (whO 0)=on at *
   generalize qD (whO 0)=od at *
   generalize qN (whO r.h)=hn at *
   generalize qD (whO r.h)=hd at *
   generalize qN (whO r.y)=vn at *
   generalize qD (whO r.y)=vd at *
   generalize qN y=yn at *
   generalize qD y=yd at *
   clear z y
   go_enter Tryz.func144,Tryz.ntmps144
   go_wp2
   go_cut [2] from 4 to 8 (fun v2 wX=>v2=.pointer (some ⟨w.heap.size,0,none⟩)∧AzAt [(w.heap.size,[.string zn,.string zd]),(w.heap.size+1,[.string ⟨#[]⟩,.string ⟨#[]⟩]),(R,[.int .i64 r.x,.int .i64 r.y,.int .i64 r.w,.int .i64 r.h])] w wX)
   case first=>
    have hp:=H0.out
    have h_:=hp.row (w.heap.size,[.string yn,.string yd]) (by simp)
    have x0:=h_.row 0 _ rfl
    have x1:=h_.row 1 _ rfl
    clear h_
    have x2:=(hp.row (R,[.int .i64 r.x,.int .i64 r.y,.int .i64 r.w,.int .i64 r.h]) (by simp)).row 1 _ rfl
    clear hp
    go_region_with (first
     | (go_at_call 84;(with_reducible refine(K1.out _ (by first | with_reducible exact H0.out.drew.bw)).mono ?_);rintro e u1 ⟨rfl,hb⟩;have H1:=hid (show AzAt [(w.heap.size,[.string yn,.string yd]),(w.heap.size+1,[.string ⟨#[]⟩,.string ⟨#[]⟩]),(R,[.int .i64 r.x,.int .i64 r.y,.int .i64 r.w,.int .i64 r.h])] w _ from by with_reducible exact AzAt.below H0.out.drew hb);have h_:=H1.out.row (w.heap.size,[.string yn,.string yd]) (by simp);have x3:=h_.row 0 _ rfl;have x4:=h_.row 1 _ rfl;clear h_;clear hb)
     | (go_at_call 85;(with_reducible refine(K2.out _ H1.out.bw).mono ?_);rintro e u2 ⟨rfl,hb⟩;have H2:=hid (AzAt.below H1.out hb);have h_:=H2.out.row (w.heap.size,[.string yn,.string yd]) (by simp);have zx0:=h_.row 0 _ rfl;have zy0:=h_.fz 0 (by simp);have zx1:=h_.row 1 _ rfl;have zy1:=h_.fz 1 (by simp);clear h_;clear hb)
     | fail)
    all_goals
     go_wp2
     go_meet
     exact⟨rfl,H2.out.set2 (by omega) (by simp <;> omega) (.string zn) (.string zd)⟩
   case rest=>
    obtain⟨rfl,hX⟩:=hcut
    have HX:=hid hX
    clear hX H0 K1 K2
    go_wp2
    have h_:=HX.out.row (w.heap.size,[.string zn,.string zd]) (by simp)
    have k10:=cell_regrown (h_.row 0 _ rfl)
    have k11:=cell_regrown (h_.row 1 _ rfl)
    clear h_
    have c10:=fun d os=>Calls.regrown_of (d:=d) (os:=os) (K3.out _ (HX.out.bw.trans ((below_regrown wc d os).mono HX.out.bw.size)))
    have c11:=fun d os=>Calls.regrown_of (d:=d) (os:=os) (K4.out _ (HX.out.bw.trans ((below_regrown wc d os).mono HX.out.bw.size)))
    refine wp_region_quiet_below (by kernel_rfl) (by kernel_rfl) ?_
    repeat (go_big_quiet_step ((with_reducible first|exact c10 _ _|exact c11 _ _)))
    refine wpQuiet_nil ?_
    intro W1 hw'
    have hb1:Below wc.heap.size wc W1:=by obtain⟨⟨dq,osq⟩,hw''⟩:=hw';rw[hw''];exact below_regrown wc dq osq
    clear hw' k10 k11 c10 c11
    have hp:=HX.out.below hb1
    have h_:=hp.row (w.heap.size,[.string zn,.string zd]) (by simp)
    have y0:=h_.row 0 _ rfl
    have y1:=h_.row 1 _ rfl
    clear h_
    have y2:=(hp.row (R,[.int .i64 r.x,.int .i64 r.y,.int .i64 r.w,.int .i64 r.h]) (by simp)).row 3 _ rfl
    have H3:=hid hp
    clear hp hb1
    go_wp2
    have h_:=H3.out.row (w.heap.size,[.string zn,.string zd]) (by simp)
    have k20:=cell_regrown (h_.row 0 _ rfl)
    have k21:=cell_regrown (h_.row 1 _ rfl)
    clear h_
    have k22:=cell_regrown ((H3.out.row (R,[.int .i64 r.x,.int .i64 r.y,.int .i64 r.w,.int .i64 r.h]) (by simp)).row 3 _ rfl)
    have c20:=fun d os=>Calls.regrown_of (d:=d) (os:=os) (K5.out _ (H3.out.bw.trans ((below_regrown W1 d os).mono H3.out.bw.size)))
    have c21:=fun d os=>Calls.regrown_of (d:=d) (os:=os) (K6.out _ (H3.out.bw.trans ((below_regrown W1 d os).mono H3.out.bw.size)))
    refine wp_region_quiet_below (by kernel_rfl) (by kernel_rfl) ?_
    repeat (go_big_quiet_step ((with_reducible first|exact c20 _ _|exact c21 _ _)))
    refine wpQuiet_nil ?_
    intro W2 hw'
    have hb2:Below W1.heap.size W1 W2:=by obtain⟨⟨dq,osq⟩,hw''⟩:=hw';rw[hw''];exact below_regrown W1 dq osq
    clear hw' k20 k21 k22 c20 c21
    have hp:=H3.out.below hb2
    have h_:=hp.row (w.heap.size,[.string zn,.string zd]) (by simp)
    have e0:=h_.row 0 _ rfl
    have e1:=h_.row 1 _ rfl
    clear h_
    have e2:=(hp.row (R,[.int .i64 r.x,.int .i64 r.y,.int .i64 r.w,.int .i64 r.h]) (by simp)).row 3 _ rfl
    have h_:=hp.row (w.heap.size+1,[.string ⟨#[]⟩,.string ⟨#[]⟩]) (by simp)
    have zq0:=h_.row 0 _ rfl
    have zf0:=h_.fz 0 (by simp)
    have zq1:=h_.row 1 _ rfl
    have zf1:=h_.fz 1 (by simp)
    clear h_
    have H4:=hid hp
    clear hp hb2
    go_wp2
    have hp:=(AzAt.swap H4.out).set2 (by omega) (by simp <;> omega) (.string zn) (.string zd)
    generalize ((W2.setCell ⟨w.heap.size+1,0,none⟩ (.string zn)).setCell ⟨w.heap.size+1,1,none⟩ (.string zd))=WF at hp⊢
    have h_:=hp.row (w.heap.size+1,[.string zn,.string zd]) (by simp)
    have q0:=h_.row 0 _ rfl
    have q1:=h_.row 1 _ rfl
    clear h_
    refine bodyPost_ret (v:=.agg #[.string zn,.string zd]) ?_ rfl ⟨rfl,hp.bw⟩
    simp[results,Tryz.results144,go_sem,Result.andThen,q0,q1]
  ·simp only[Bool.false_eq_true,if_false,if_true]
   generalize qN z=zn at *
   generalize qD z=zd at *
   generalize qN (whO 0)=on at *
   generalize qD (whO 0)=od at *
   generalize qN (whO r.h)=hn at *
   generalize qD (whO r.h)=hd at *
   generalize qN (whO r.y)=vn at *
   generalize qD (whO r.y)=vd at *
   generalize qN y=yn at *
   generalize qD y=yd at *
   clear z y
   go_enter Tryz.func144,Tryz.ntmps144
   go_wp2
   go_cut [2] from 4 to 8 (fun v2 wX=>v2=.pointer (some ⟨w.heap.size,0,none⟩)∧AzAt [(w.heap.size,[.string zn,.string zd]),(w.heap.size+1,[.string ⟨#[]⟩,.string ⟨#[]⟩]),(R,[.int .i64 r.x,.int .i64 r.y,.int .i64 r.w,.int .i64 r.h])] w wX)
   case first=>
    have hp:=H0.out
    have h_:=hp.row (w.heap.size,[.string yn,.string yd]) (by simp)
    have x0:=h_.row 0 _ rfl
    have x1:=h_.row 1 _ rfl
    clear h_
    have x2:=(hp.row (R,[.int .i64 r.x,.int .i64 r.y,.int .i64 r.w,.int .i64 r.h]) (by simp)).row 1 _ rfl
    clear hp
    go_region_with (first
     | (go_at_call 84;(with_reducible refine(K1.out _ (by first | with_reducible exact H0.out.drew.bw)).mono ?_);rintro e u1 ⟨rfl,hb⟩;have H1:=hid (show AzAt [(w.heap.size,[.string yn,.string yd]),(w.heap.size+1,[.string ⟨#[]⟩,.string ⟨#[]⟩]),(R,[.int .i64 r.x,.int .i64 r.y,.int .i64 r.w,.int .i64 r.h])] w _ from by with_reducible exact AzAt.below H0.out.drew hb);have h_:=H1.out.row (w.heap.size,[.string yn,.string yd]) (by simp);have x3:=h_.row 0 _ rfl;have x4:=h_.row 1 _ rfl;clear h_;clear hb)
     | (go_at_call 85;(with_reducible refine(K2.out _ H1.out.bw).mono ?_);rintro e u2 ⟨rfl,hb⟩;have H2:=hid (AzAt.below H1.out hb);have h_:=H2.out.row (w.heap.size,[.string yn,.string yd]) (by simp);have zx0:=h_.row 0 _ rfl;have zy0:=h_.fz 0 (by simp);have zx1:=h_.row 1 _ rfl;have zy1:=h_.fz 1 (by simp);clear h_;clear hb)
     | fail)
    all_goals
     go_wp2
     go_meet
     exact⟨rfl,H2.out.set2 (by omega) (by simp <;> omega) (.string zn) (.string zd)⟩
   case rest=>
    obtain⟨rfl,hX⟩:=hcut
    have HX:=hid hX
    clear hX H0 K1 K2
    go_wp2
    have h_:=HX.out.row (w.heap.size,[.string zn,.string zd]) (by simp)
    have k10:=cell_regrown (h_.row 0 _ rfl)
    have k11:=cell_regrown (h_.row 1 _ rfl)
    clear h_
    have c10:=fun d os=>Calls.regrown_of (d:=d) (os:=os) (K3.out _ (HX.out.bw.trans ((below_regrown wc d os).mono HX.out.bw.size)))
    have c11:=fun d os=>Calls.regrown_of (d:=d) (os:=os) (K4.out _ (HX.out.bw.trans ((below_regrown wc d os).mono HX.out.bw.size)))
    refine wp_region_quiet_below (by kernel_rfl) (by kernel_rfl) ?_
    repeat (go_big_quiet_step ((with_reducible first|exact c10 _ _|exact c11 _ _)))
    refine wpQuiet_nil ?_
    intro W1 hw'
    have hb1:Below wc.heap.size wc W1:=by obtain⟨⟨dq,osq⟩,hw''⟩:=hw';rw[hw''];exact below_regrown wc dq osq
    clear hw' k10 k11 c10 c11
    have hp:=HX.out.below hb1
    have h_:=hp.row (w.heap.size,[.string zn,.string zd]) (by simp)
    have y0:=h_.row 0 _ rfl
    have y1:=h_.row 1 _ rfl
    clear h_
    have y2:=(hp.row (R,[.int .i64 r.x,.int .i64 r.y,.int .i64 r.w,.int .i64 r.h]) (by simp)).row 3 _ rfl
    have H3:=hid hp
    clear hp hb1
    go_wp2
    have h_:=H3.out.row (w.heap.size,[.string zn,.string zd]) (by simp)
    have k20:=cell_regrown (h_.row 0 _ rfl)
    have k21:=cell_regrown (h_.row 1 _ rfl)
    clear h_
    have k22:=cell_regrown ((H3.out.row (R,[.int .i64 r.x,.int .i64 r.y,.int .i64 r.w,.int .i64 r.h]) (by simp)).row 3 _ rfl)
    have c20:=fun d os=>Calls.regrown_of (d:=d) (os:=os) (K5.out _ (H3.out.bw.trans ((below_regrown W1 d os).mono H3.out.bw.size)))
    have c21:=fun d os=>Calls.regrown_of (d:=d) (os:=os) (K6.out _ (H3.out.bw.trans ((below_regrown W1 d os).mono H3.out.bw.size)))
    refine wp_region_quiet_below (by kernel_rfl) (by kernel_rfl) ?_
    repeat (go_big_quiet_step ((with_reducible first|exact c20 _ _|exact c21 _ _)))
    refine wpQuiet_nil ?_
    intro W2 hw'
    have hb2:Below W1.heap.size W1 W2:=by obtain⟨⟨dq,osq⟩,hw''⟩:=hw';rw[hw''];exact below_regrown W1 dq osq
    clear hw' k20 k21 k22 c20 c21
    have hp:=H3.out.below hb2
    have h_:=hp.row (w.heap.size,[.string zn,.string zd]) (by simp)
    have e0:=h_.row 0 _ rfl
    have e1:=h_.row 1 _ rfl
    clear h_
    have e2:=(hp.row (R,[.int .i64 r.x,.int .i64 r.y,.int .i64 r.w,.int .i64 r.h]) (by simp)).row 3 _ rfl
    have h_:=hp.row (w.heap.size+1,[.string ⟨#[]⟩,.string ⟨#[]⟩]) (by simp)
    have zq0:=h_.row 0 _ rfl
    have zf0:=h_.fz 0 (by simp)
    have zq1:=h_.row 1 _ rfl
    have zf1:=h_.fz 1 (by simp)
    clear h_
    have H4:=hid hp
    clear hp hb2
    go_wp2_with (first
     | (go_at_call 84;(with_reducible refine(K5.out _ H4.out.bw).mono ?_);rintro e u5 ⟨rfl,hb⟩;have hp:=H4.out.below hb;have h_:=hp.row (w.heap.size+1,[.string ⟨#[]⟩,.string ⟨#[]⟩]) (by simp);have zq0:=h_.row 0 _ rfl;have zf0:=h_.fz 0 (by simp);have zq1:=h_.row 1 _ rfl;have zf1:=h_.fz 1 (by simp);clear h_;have H5:=hid hp;clear hb hp)
     | fail)
    have hp:=(AzAt.swap H5.out).set2 (by omega) (by simp <;> omega) (.string hn) (.string hd)
    generalize ((u5.setCell ⟨w.heap.size+1,0,none⟩ (.string hn)).setCell ⟨w.heap.size+1,1,none⟩ (.string hd))=WF at hp⊢
    have h_:=hp.row (w.heap.size+1,[.string hn,.string hd]) (by simp)
    have q0:=h_.row 0 _ rfl
    have q1:=h_.row 1 _ rfl
    clear h_
    refine bodyPost_ret (v:=.agg #[.string hn,.string hd]) ?_ rfl ⟨rfl,hp.bw⟩
    simp[results,Tryz.results144,go_sem,Result.andThen,q0,q1]
 ·simp only[if_true]
  generalize qN z=zn at *
  generalize qD z=zd at *
  generalize qN (whO 0)=on at *
  generalize qD (whO 0)=od at *
  generalize qN (whO r.h)=hn at *
  generalize qD (whO r.h)=hd at *
  generalize qN (whO r.y)=vn at *
  generalize qD (whO r.y)=vd at *
  generalize qN y=yn at *
  generalize qD y=yd at *
  clear z y
  go_enter Tryz.func144,Tryz.ntmps144
  go_wp2
  go_cut [2] from 4 to 8 (fun v2 wX=>v2=.pointer (some ⟨w.heap.size,0,none⟩)∧AzAt [(w.heap.size,[.string zn,.string zd]),(w.heap.size+1,[.string ⟨#[]⟩,.string ⟨#[]⟩]),(R,[.int .i64 r.x,.int .i64 r.y,.int .i64 r.w,.int .i64 r.h])] w wX)
  case first=>
   have hp:=H0.out
   have h_:=hp.row (w.heap.size,[.string yn,.string yd]) (by simp)
   have x0:=h_.row 0 _ rfl
   have x1:=h_.row 1 _ rfl
   clear h_
   have x2:=(hp.row (R,[.int .i64 r.x,.int .i64 r.y,.int .i64 r.w,.int .i64 r.h]) (by simp)).row 1 _ rfl
   clear hp
   go_region_with (first
    | (go_at_call 84;(with_reducible refine(K1.out _ (by first | with_reducible exact H0.out.drew.bw)).mono ?_);rintro e u1 ⟨rfl,hb⟩;have H1:=hid (show AzAt [(w.heap.size,[.string yn,.string yd]),(w.heap.size+1,[.string ⟨#[]⟩,.string ⟨#[]⟩]),(R,[.int .i64 r.x,.int .i64 r.y,.int .i64 r.w,.int .i64 r.h])] w _ from by with_reducible exact AzAt.below H0.out.drew hb);have h_:=H1.out.row (w.heap.size,[.string yn,.string yd]) (by simp);have x3:=h_.row 0 _ rfl;have x4:=h_.row 1 _ rfl;clear h_;clear hb)
    | (go_at_call 85;(with_reducible refine(K2.out _ H1.out.bw).mono ?_);rintro e u2 ⟨rfl,hb⟩;have H2:=hid (AzAt.below H1.out hb);have h_:=H2.out.row (w.heap.size,[.string yn,.string yd]) (by simp);have zx0:=h_.row 0 _ rfl;have zy0:=h_.fz 0 (by simp);have zx1:=h_.row 1 _ rfl;have zy1:=h_.fz 1 (by simp);clear h_;clear hb)
    | fail)
   all_goals
    go_wp2
    go_meet
    exact⟨rfl,H2.out.set2 (by omega) (by simp <;> omega) (.string zn) (.string zd)⟩
  case rest=>
   obtain⟨rfl,hX⟩:=hcut
   have HX:=hid hX
   clear hX H0 K1 K2
   go_wp2
   have h_:=HX.out.row (w.heap.size,[.string zn,.string zd]) (by simp)
   have k10:=cell_regrown (h_.row 0 _ rfl)
   have k11:=cell_regrown (h_.row 1 _ rfl)
   clear h_
   have c10:=fun d os=>Calls.regrown_of (d:=d) (os:=os) (K3.out _ (HX.out.bw.trans ((below_regrown wc d os).mono HX.out.bw.size)))
   have c11:=fun d os=>Calls.regrown_of (d:=d) (os:=os) (K4.out _ (HX.out.bw.trans ((below_regrown wc d os).mono HX.out.bw.size)))
   refine wp_region_quiet_below (by kernel_rfl) (by kernel_rfl) ?_
   repeat (go_big_quiet_step ((with_reducible first|exact c10 _ _|exact c11 _ _)))
   refine wpQuiet_nil ?_
   intro W1 hw'
   have hb1:Below wc.heap.size wc W1:=by obtain⟨⟨dq,osq⟩,hw''⟩:=hw';rw[hw''];exact below_regrown wc dq osq
   clear hw' k10 k11 c10 c11
   have hp:=HX.out.below hb1
   have h_:=hp.row (w.heap.size,[.string zn,.string zd]) (by simp)
   have y0:=h_.row 0 _ rfl
   have y1:=h_.row 1 _ rfl
   clear h_
   have y2:=(hp.row (R,[.int .i64 r.x,.int .i64 r.y,.int .i64 r.w,.int .i64 r.h]) (by simp)).row 3 _ rfl
   have H3:=hid hp
   clear hp hb1
   go_wp2_with (first
    | (go_at_call 84;(with_reducible refine(K3.out _ H3.out.bw).mono ?_);rintro e u3 ⟨rfl,hb⟩;have hp:=H3.out.below hb;have h_:=hp.row (w.heap.size+1,[.string ⟨#[]⟩,.string ⟨#[]⟩]) (by simp);have zq0:=h_.row 0 _ rfl;have zf0:=h_.fz 0 (by simp);have zq1:=h_.row 1 _ rfl;have zf1:=h_.fz 1 (by simp);clear h_;have H4:=hid hp;clear hb hp)
    | fail)
   have hp:=(AzAt.swap H4.out).set2 (by omega) (by simp <;> omega) (.string on) (.string od)
   generalize ((u3.setCell ⟨w.heap.size+1,0,none⟩ (.string on)).setCell ⟨w.heap.size+1,1,none⟩ (.string od))=WF at hp⊢
   have h_:=hp.row (w.heap.size+1,[.string on,.string od]) (by simp)
   have q0:=h_.row 0 _ rfl
   have q1:=h_.row 1 _ rfl
   clear h_
   refine bodyPost_ret (v:=.agg #[.string on,.string od]) ?_ rfl ⟨rfl,hp.bw⟩
   simp[results,Tryz.results144,go_sem,Result.andThen,q0,q1]
end Go.Proofs.YtlikmmpmnaaifaaGreatDoor
