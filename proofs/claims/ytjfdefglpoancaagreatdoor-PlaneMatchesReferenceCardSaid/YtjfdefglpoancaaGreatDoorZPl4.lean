/- - -/
import Derived.Lib.QuietBelow
import Derived.BigQuiet
import Derived.Test.YtjfdefglpoancaaGreatDoorZPl2
import Derived.Test.YtjfdefglpoancaaGreatDoorZBack
set_option maxHeartbeats 40000000
set_option maxRecDepth 1000000
open Go.Lib (hid)
namespace Go.Proofs.YtjfdefglpoancaaGreatDoor
open Go.RowKit Go.Shelf
attribute [local go_sem] Oper.semAt_some
theorem yB_ (a b c d:Pl) (w:World) :
  Calls Tryz.prog 27 #[.agg #[.int .i64 a.x,.int .i64 a.y],.agg #[.int .i64 b.x,.int .i64 b.y],.agg #[.int .i64 c.x,.int .i64 c.y],.agg #[.int .i64 d.x,.int .i64 d.y]] w fun e W'=>e=.returned (.bool (cX_ a b c d))∧Below w.heap.size w W':=by
 have H0:=hid (show AzAt ((w.heap.size+1+1+1+1,[.int .i64 a.x,.int .i64 a.y,.int .i64 b.x,.int .i64 b.y,.int .i64 c.x,.int .i64 c.y,.int .i64 d.x,.int .i64 d.y])::[(w.heap.size+1+1+1,[.int .i64 d.x,.int .i64 d.y]),(w.heap.size+1+1,[.int .i64 c.x,.int .i64 c.y]),(w.heap.size+1,[.int .i64 b.x,.int .i64 b.y]),(w.heap.size,[.int .i64 a.x,.int .i64 a.y])]) w _ from by have hp:=((((((AzAt.start w).push [.int .i64 a.x,.int .i64 a.y] 26).push [.int .i64 b.x,.int .i64 b.y] 26).push [.int .i64 c.x,.int .i64 c.y] 26).push [.int .i64 d.x,.int .i64 d.y] 26).push [.int .i64 a.x,.int .i64 a.y,.int .i64 b.x,.int .i64 b.y,.int .i64 c.x,.int .i64 c.y,.int .i64 d.x,.int .i64 d.y] 26);simp only[World.size_alloc] at hp;exact hp)
 have K:=hid (fun W (h:PsAt (w.heap.size+1+1+1+1) [a,b,c,d] W)=>nV_ (n:=4) (cap:=4) rfl (by decide) W h)
 have HS:=hid (PsAt.of (ps:=[a,b,c,d]) (H0.out.at (B:=w.heap.size+1+1+1+1) (l:=[.int .i64 a.x,.int .i64 a.y,.int .i64 b.x,.int .i64 b.y,.int .i64 c.x,.int .i64 c.y,.int .i64 d.x,.int .i64 d.y]) (by simp)))
 unfold cX_
 cases hv:([a,b,c,d].all vP) with
 | false=>
  rw[hv] at K
  simp only[List.all_cons,List.all_nil,Bool.and_true] at hv
  rw[show(vP a&&vP b&&vP c&&vP d)=false by rw[Bool.and_assoc,Bool.and_assoc];exact hv,Bool.false_and]
  clear hv
  go_enter Tryz.func27,Tryz.ntmps27
  go_wp2_with (first
   | (go_at_call 66;(with_reducible refine(K.out _ HS.out).mono ?_);rintro e w1 ⟨rfl,hb⟩;have hp:=H0.out.below hb;have H1:=hid hp;clear hb hp)
   | fail)
  go_ret
  exact⟨rfl,H1.out.bw⟩
 | true=>
  rw[hv] at K
  simp only[List.all_cons,List.all_nil,Bool.and_true] at hv
  rw[show(vP a&&vP b&&vP c&&vP d)=true by rw[Bool.and_assoc,Bool.and_assoc];exact hv,Bool.true_and]
  clear hv
  have O1:=hid (fun W=>kT_ a.x b.x c.x d.x W)
  have O2:=hid (fun W=>kT_ a.y b.y c.y d.y W)
  have S1:=hid (fun W=>qQ_ a b c W)
  have g1:=iK_ a b c
  have S2:=hid (fun W=>qQ_ a b d W)
  have g2:=iK_ a b d
  have S3:=hid (fun W=>qQ_ c d a W)
  have g3:=iK_ c d a
  have S4:=hid (fun W=>qQ_ c d b W)
  have g4:=iK_ c d b
  generalize ovl a.x b.x c.x d.x=o1 at O1⊢
  generalize ovl a.y b.y c.y d.y=o2 at O2⊢
  generalize dH_ a b c=s1 at S1 g1⊢
  generalize dH_ a b d=s2 at S2 g2⊢
  generalize dH_ c d a=s3 at S3 g3⊢
  generalize dH_ c d b=s4 at S4 g4⊢
  have w1:IntKind.i64.wrap (s1*s2)=s1*s2:=IntWalk.i64_in _ (by have:=cG_ (u:=s1) (v:=s2) (by omega) (by omega);omega)
  have w2:IntKind.i64.wrap (s3*s4)=s3*s4:=IntWalk.i64_in _ (by have:=cG_ (u:=s3) (v:=s4) (by omega) (by omega);omega)
  clear g1 g2 g3 g4
  cases o1
  ·clear O2 S1 S2 S3 S4 w1 w2
   simp only[Bool.false_and]
   go_enter Tryz.func27,Tryz.ntmps27
   go_wp2_with (first
    | (go_at_call 66;(with_reducible refine(K.out _ HS.out).mono ?_);rintro e w1 ⟨rfl,hb⟩;have hp:=H0.out.below hb;have h_:=hp.row (w.heap.size,[.int .i64 a.x,.int .i64 a.y]) (by simp);have q1:=h_.row 0 _ rfl;have q2:=h_.row 1 _ rfl;clear h_;have h_:=hp.row (w.heap.size+1,[.int .i64 b.x,.int .i64 b.y]) (by simp);have q3:=h_.row 0 _ rfl;have q4:=h_.row 1 _ rfl;clear h_;have h_:=hp.row (w.heap.size+1+1,[.int .i64 c.x,.int .i64 c.y]) (by simp);have q5:=h_.row 0 _ rfl;have q6:=h_.row 1 _ rfl;clear h_;have h_:=hp.row (w.heap.size+1+1+1,[.int .i64 d.x,.int .i64 d.y]) (by simp);have q7:=h_.row 0 _ rfl;have q8:=h_.row 1 _ rfl;clear h_;have H1:=hid hp;clear hb hp)
    | (go_at_call 37;(with_reducible refine(O1.out _).mono ?_);rintro e w' ⟨rfl,rfl⟩)
    | fail)
   go_region
   all_goals
    go_wp2
    go_ret
    exact⟨rfl,H1.out.bw.drew⟩
  ·cases o2
   ·clear S1 S2 S3 S4 w1 w2
    simp only[Bool.false_and,Bool.and_false]
    go_enter Tryz.func27,Tryz.ntmps27
    go_wp2_with (first
     | (go_at_call 66;(with_reducible refine(K.out _ HS.out).mono ?_);rintro e w1 ⟨rfl,hb⟩;have hp:=H0.out.below hb;have h_:=hp.row (w.heap.size,[.int .i64 a.x,.int .i64 a.y]) (by simp);have q9:=h_.row 0 _ rfl;have q10:=h_.row 1 _ rfl;clear h_;have h_:=hp.row (w.heap.size+1,[.int .i64 b.x,.int .i64 b.y]) (by simp);have q11:=h_.row 0 _ rfl;have q12:=h_.row 1 _ rfl;clear h_;have h_:=hp.row (w.heap.size+1+1,[.int .i64 c.x,.int .i64 c.y]) (by simp);have q13:=h_.row 0 _ rfl;have q14:=h_.row 1 _ rfl;clear h_;have h_:=hp.row (w.heap.size+1+1+1,[.int .i64 d.x,.int .i64 d.y]) (by simp);have q15:=h_.row 0 _ rfl;have q16:=h_.row 1 _ rfl;clear h_;have H1:=hid hp;clear hb hp)
     | (go_at_call 37;(with_reducible refine(O1.out _).mono ?_);rintro e w' ⟨rfl,rfl⟩)
     | (go_at_call 37;(with_reducible refine(O2.out _).mono ?_);rintro e w' ⟨rfl,rfl⟩)
     | fail)
    go_region
    all_goals
     go_wp2
     go_ret
     exact⟨rfl,H1.out.bw.drew⟩
   ·simp only[Bool.true_and]
    by_cases p:s1*s2≤0
    ·rw[decide_eq_true p,Bool.true_and]
     go_enter Tryz.func27,Tryz.ntmps27
     go_wp2_with (first
      | (go_at_call 66;(with_reducible refine(K.out _ HS.out).mono ?_);rintro e w1 ⟨rfl,hb⟩;have hp:=H0.out.below hb;have h_:=hp.row (w.heap.size,[.int .i64 a.x,.int .i64 a.y]) (by simp);have q17:=h_.row 0 _ rfl;have q18:=h_.row 1 _ rfl;clear h_;have h_:=hp.row (w.heap.size+1,[.int .i64 b.x,.int .i64 b.y]) (by simp);have q19:=h_.row 0 _ rfl;have q20:=h_.row 1 _ rfl;clear h_;have h_:=hp.row (w.heap.size+1+1,[.int .i64 c.x,.int .i64 c.y]) (by simp);have q21:=h_.row 0 _ rfl;have q22:=h_.row 1 _ rfl;clear h_;have h_:=hp.row (w.heap.size+1+1+1,[.int .i64 d.x,.int .i64 d.y]) (by simp);have q23:=h_.row 0 _ rfl;have q24:=h_.row 1 _ rfl;clear h_;have H1:=hid hp;clear hb hp)
      | (go_at_call 37;(with_reducible refine(O1.out _).mono ?_);rintro e w' ⟨rfl,rfl⟩)
      | (go_at_call 37;(with_reducible refine(O2.out _).mono ?_);rintro e w' ⟨rfl,rfl⟩)
      | fail)
     have hp:=H1.out
     have h_:=hp.row (w.heap.size,[.int .i64 a.x,.int .i64 a.y]) (by simp)
     have k00:=cell_regrown (h_.row 0 _ rfl)
     have k01:=cell_regrown (h_.row 1 _ rfl)
     clear h_
     have h_:=hp.row (w.heap.size+1,[.int .i64 b.x,.int .i64 b.y]) (by simp)
     have k10:=cell_regrown (h_.row 0 _ rfl)
     have k11:=cell_regrown (h_.row 1 _ rfl)
     clear h_
     have h_:=hp.row (w.heap.size+1+1,[.int .i64 c.x,.int .i64 c.y]) (by simp)
     have k20:=cell_regrown (h_.row 0 _ rfl)
     have k21:=cell_regrown (h_.row 1 _ rfl)
     clear h_
     have h_:=hp.row (w.heap.size+1+1+1,[.int .i64 d.x,.int .i64 d.y]) (by simp)
     have k30:=cell_regrown (h_.row 0 _ rfl)
     have k31:=cell_regrown (h_.row 1 _ rfl)
     clear h_
     have c1:=fun d os=>Calls.regrown_of (w:=w1) (d:=d) (os:=os) (S1.out _)
     have c2:=fun d os=>Calls.regrown_of (w:=w1) (d:=d) (os:=os) (S2.out _)
     have c3:=fun d os=>Calls.regrown_of (w:=w1) (d:=d) (os:=os) (S3.out _)
     have c4:=fun d os=>Calls.regrown_of (w:=w1) (d:=d) (os:=os) (S4.out _)
     clear hp
     refine wp_region_quiet_below (by kernel_rfl) (by kernel_rfl) ?_
     repeat (go_big_quiet_step ((with_reducible first|exact c1 _ _|exact c2 _ _|exact c3 _ _|exact c4 _ _)))
     refine wpQuiet_nil ?_
     intro _ hw'
     obtain⟨⟨dq,osq⟩,hw''⟩:=hw'
     subst hw''
     have HR:=hid (H1.out.bw.trans ((below_regrown w1 dq osq).mono H1.out.bw.size))
     all_goals
      go_wp2
      go_ret
      exact⟨rfl,HR.out⟩
    ·have p2:=decide_eq_false p
     rw[p2,Bool.false_and]
     go_enter Tryz.func27,Tryz.ntmps27
     go_wp2_with (first
      | (go_at_call 66;(with_reducible refine(K.out _ HS.out).mono ?_);rintro e w1 ⟨rfl,hb⟩;have hp:=H0.out.below hb;have h_:=hp.row (w.heap.size,[.int .i64 a.x,.int .i64 a.y]) (by simp);have q25:=h_.row 0 _ rfl;have q26:=h_.row 1 _ rfl;clear h_;have h_:=hp.row (w.heap.size+1,[.int .i64 b.x,.int .i64 b.y]) (by simp);have q27:=h_.row 0 _ rfl;have q28:=h_.row 1 _ rfl;clear h_;have h_:=hp.row (w.heap.size+1+1,[.int .i64 c.x,.int .i64 c.y]) (by simp);have q29:=h_.row 0 _ rfl;have q30:=h_.row 1 _ rfl;clear h_;have h_:=hp.row (w.heap.size+1+1+1,[.int .i64 d.x,.int .i64 d.y]) (by simp);have q31:=h_.row 0 _ rfl;have q32:=h_.row 1 _ rfl;clear h_;have H1:=hid hp;clear hb hp)
      | (go_at_call 37;(with_reducible refine(O1.out _).mono ?_);rintro e w' ⟨rfl,rfl⟩)
      | (go_at_call 37;(with_reducible refine(O2.out _).mono ?_);rintro e w' ⟨rfl,rfl⟩)
      | fail)
     have hp:=H1.out
     have h_:=hp.row (w.heap.size,[.int .i64 a.x,.int .i64 a.y]) (by simp)
     have k00:=cell_regrown (h_.row 0 _ rfl)
     have k01:=cell_regrown (h_.row 1 _ rfl)
     clear h_
     have h_:=hp.row (w.heap.size+1,[.int .i64 b.x,.int .i64 b.y]) (by simp)
     have k10:=cell_regrown (h_.row 0 _ rfl)
     have k11:=cell_regrown (h_.row 1 _ rfl)
     clear h_
     have h_:=hp.row (w.heap.size+1+1,[.int .i64 c.x,.int .i64 c.y]) (by simp)
     have k20:=cell_regrown (h_.row 0 _ rfl)
     have k21:=cell_regrown (h_.row 1 _ rfl)
     clear h_
     have h_:=hp.row (w.heap.size+1+1+1,[.int .i64 d.x,.int .i64 d.y]) (by simp)
     have k30:=cell_regrown (h_.row 0 _ rfl)
     have k31:=cell_regrown (h_.row 1 _ rfl)
     clear h_
     have c1:=fun d os=>Calls.regrown_of (w:=w1) (d:=d) (os:=os) (S1.out _)
     have c2:=fun d os=>Calls.regrown_of (w:=w1) (d:=d) (os:=os) (S2.out _)
     have c3:=fun d os=>Calls.regrown_of (w:=w1) (d:=d) (os:=os) (S3.out _)
     have c4:=fun d os=>Calls.regrown_of (w:=w1) (d:=d) (os:=os) (S4.out _)
     clear hp
     refine wp_region_quiet_below (by kernel_rfl) (by kernel_rfl) ?_
     repeat (go_big_quiet_step ((with_reducible first|exact c1 _ _|exact c2 _ _|exact c3 _ _|exact c4 _ _)))
     refine wpQuiet_nil ?_
     intro _ hw'
     obtain⟨⟨dq,osq⟩,hw''⟩:=hw'
     subst hw''
     have HR:=hid (H1.out.bw.trans ((below_regrown w1 dq osq).mono H1.out.bw.size))
     all_goals
      go_wp2
      go_ret
      exact⟨rfl,HR.out⟩
end Go.Proofs.YtjfdefglpoancaaGreatDoor
