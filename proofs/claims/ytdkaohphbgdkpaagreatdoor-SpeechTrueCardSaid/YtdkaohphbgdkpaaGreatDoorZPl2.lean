/- - -/
import Derived.Deep.RegionHeld3
import Derived.Deep.CutBlock
import Derived.Test.YtdkaohphbgdkpaaGreatDoorZBack
set_option maxHeartbeats 40000000
set_option maxRecDepth 1000000
namespace Go.Proofs.YtdkaohphbgdkpaaGreatDoor
open Go.RowKit Go.Shelf
attribute [local go_sem] Oper.semAt_some
theorem vP_b {p:Pl} (h:vP p=true):(0≤p.x∧p.x≤4095)∧(0≤p.y∧p.y≤4095):=by
 unfold vP at h
 simp only[Bool.and_eq_true,decide_eq_true_eq] at h
 omega
theorem aDU (x:Int) (w:World):Calls Tryz.prog 112 #[.int .i64 x] w fun e w'=>e=.returned (.bool false)∧w=w':=by
 go_enter Tryz.func112,Tryz.ntmps112
 go_wp2
 go_ret
 exact⟨qN_ (by simp),rfl⟩
theorem aEN (x y:Int) (w:World):Calls Tryz.prog 68 #[.int .i64 x,.int .i64 y] w fun e w'=>e=.returned (.int .i64 (cmpI x y))∧w=w':=by
 unfold cmpI
 by_cases h1:x<y
 ·rw[if_pos h1]
  go_enter Tryz.func68,Tryz.ntmps68
  go_wp2_with (go_at_call 112;(with_reducible refine(aDU _ _).mono ?_);rintro e w' ⟨rfl,rfl⟩)
  go_ret
  exact⟨rfl,rfl⟩
 ·rw[if_neg h1]
  by_cases h2:y<x
  ·rw[if_pos h2]
   go_enter Tryz.func68,Tryz.ntmps68
   go_wp2_with (go_at_call 112;(with_reducible refine(aDU _ _).mono ?_);rintro e w' ⟨rfl,rfl⟩)
   go_ret
   exact⟨rfl,rfl⟩
  ·rw[if_neg h2]
   go_enter Tryz.func68,Tryz.ntmps68
   go_wp2_with (go_at_call 112;(with_reducible refine(aDU _ _).mono ?_);rintro e w' ⟨rfl,rfl⟩)
   go_ret
   exact⟨rfl,rfl⟩
theorem oR_ (r:Rc) (w:World) :
  Calls Tryz.prog 59 #[.agg #[.int .i64 r.x,.int .i64 r.y,.int .i64 r.w,.int .i64 r.h]] w fun e W'=>e=.returned (.bool (vRc r))∧Below w.heap.size w W':=by
 have KP:=Lib.hid (show ∀W,Calls Tryz.prog 104 #[.agg #[.int .i64 r.x,.int .i64 r.y]] W fun e W'=>e=.returned (.bool (vP ⟨r.x,r.y⟩))∧Below W.heap.size W W' from fun W=>yP_ ⟨r.x,r.y⟩ W)
 have H0:=Lib.hid (show AzAt [(w.heap.size,[.int .i64 r.x,.int .i64 r.y,.int .i64 r.w,.int .i64 r.h])] w _ from by have hp:=(AzAt.start w).push [.int .i64 r.x,.int .i64 r.y,.int .i64 r.w,.int .i64 r.h] 26;(try simp only[World.size_alloc] at hp);exact hp)
 unfold vRc
 cases hv:vP ⟨r.x,r.y⟩ with
 | false=>
  rw[hv] at KP
  clear hv
  simp only[Bool.false_and]
  go_enter Tryz.func59,Tryz.ntmps59
  go_wp2_with (first
   | (go_at_call 104;(with_reducible refine(KP.out _).mono ?_);rintro e w1 ⟨rfl,hb⟩;have hp:=H0.out.below hb;have h_:=hp.row (w.heap.size,[.int .i64 r.x,.int .i64 r.y,.int .i64 r.w,.int .i64 r.h]) (by simp);have q1:=h_.row 0 _ rfl;have q2:=h_.row 1 _ rfl;have q3:=h_.row 2 _ rfl;have q4:=h_.row 3 _ rfl;clear h_;have H1:=Lib.hid hp;clear hb hp)
   | fail)
  go_ret
  exact⟨rfl,H1.out.bw⟩
 | true=>
  rw[hv] at KP
  obtain⟨⟨b1,b2⟩,b3,b4⟩:=vP_b hv
  simp only at b1 b2 b3 b4
  clear hv
  by_cases hw:0≤r.w∧r.w≤4095-r.x
  ·have KW:=Lib.hid (fun W=>in_t hw.1 hw.2 W)
   rw[decide_eq_true hw.1,decide_eq_true hw.2]
   clear hw
   by_cases hh:0≤r.h∧r.h≤4095-r.y
   ·have KH:=Lib.hid (fun W=>in_t hh.1 hh.2 W)
    rw[decide_eq_true hh.1,decide_eq_true hh.2]
    clear hh
    go_enter Tryz.func59,Tryz.ntmps59
    go_wp2_with (first
     | (go_at_call 104;(with_reducible refine(KP.out _).mono ?_);rintro e w1 ⟨rfl,hb⟩;have hp:=H0.out.below hb;have h_:=hp.row (w.heap.size,[.int .i64 r.x,.int .i64 r.y,.int .i64 r.w,.int .i64 r.h]) (by simp);have q5:=h_.row 0 _ rfl;have q6:=h_.row 1 _ rfl;have q7:=h_.row 2 _ rfl;have q8:=h_.row 3 _ rfl;clear h_;have H1:=Lib.hid hp;clear hb hp)
     | (go_at_call 105;(with_reducible refine(KW.out _).mono ?_);rintro e w' ⟨rfl,rfl⟩)
     | (go_at_call 105;(with_reducible refine(KH.out _).mono ?_);rintro e w' ⟨rfl,rfl⟩)
     | fail)
    go_ret
    exact⟨rfl,H1.out.bw⟩
   ·have KH:=Lib.hid (fun W=>in_f (n:=r.h) (lo:=0) (hi:=4095-r.y) (by omega) W)
    rw[show(true&&true&&true&&decide (0≤r.h)&&decide (r.h≤4095-r.y))=false by simp;omega]
    clear hh
    go_enter Tryz.func59,Tryz.ntmps59
    go_wp2_with (first
     | (go_at_call 104;(with_reducible refine(KP.out _).mono ?_);rintro e w1 ⟨rfl,hb⟩;have hp:=H0.out.below hb;have h_:=hp.row (w.heap.size,[.int .i64 r.x,.int .i64 r.y,.int .i64 r.w,.int .i64 r.h]) (by simp);have q9:=h_.row 0 _ rfl;have q10:=h_.row 1 _ rfl;have q11:=h_.row 2 _ rfl;have q12:=h_.row 3 _ rfl;clear h_;have H1:=Lib.hid hp;clear hb hp)
     | (go_at_call 105;(with_reducible refine(KW.out _).mono ?_);rintro e w' ⟨rfl,rfl⟩)
     | (go_at_call 105;(with_reducible refine(KH.out _).mono ?_);rintro e w' ⟨rfl,rfl⟩)
     | fail)
    go_ret
    exact⟨rfl,H1.out.bw⟩
  ·have KW:=Lib.hid (fun W=>in_f (n:=r.w) (lo:=0) (hi:=4095-r.x) (by omega) W)
   rw[show(true&&decide (0≤r.w)&&decide (r.w≤4095-r.x)&&decide (0≤r.h)&&decide (r.h≤4095-r.y))=false by simp;omega]
   clear hw
   go_enter Tryz.func59,Tryz.ntmps59
   go_wp2_with (first
    | (go_at_call 104;(with_reducible refine(KP.out _).mono ?_);rintro e w1 ⟨rfl,hb⟩;have hp:=H0.out.below hb;have h_:=hp.row (w.heap.size,[.int .i64 r.x,.int .i64 r.y,.int .i64 r.w,.int .i64 r.h]) (by simp);have q13:=h_.row 0 _ rfl;have q14:=h_.row 1 _ rfl;have q15:=h_.row 2 _ rfl;have q16:=h_.row 3 _ rfl;clear h_;have H1:=Lib.hid hp;clear hb hp)
    | (go_at_call 105;(with_reducible refine(KW.out _).mono ?_);rintro e w' ⟨rfl,rfl⟩)
    | fail)
   go_ret
   exact⟨rfl,H1.out.bw⟩
theorem pZ_ (a l b m:Int) (ha:0≤a∧a≤4095) (hl:0≤l∧l≤4095) (hb:0≤b∧b≤4095) (hm:0≤m∧m≤4095) (w:World) :
  Calls Tryz.prog 58 #[.int .i64 a,.int .i64 l,.int .i64 b,.int .i64 m] w fun e w'=>e=.returned (.bool (decide (b≤a)&&decide (a+l≤b+m)))∧w=w':=by
 obtain⟨a1,a2⟩:=ha
 obtain⟨l1,l2⟩:=hl
 obtain⟨b1,b2⟩:=hb
 obtain⟨m1,m2⟩:=hm
 by_cases h:b≤a
 ·rw[decide_eq_true h]
  go_enter Tryz.func58,Tryz.ntmps58
  go_wp2
  go_ret
  exact⟨rfl,rfl⟩
 ·have h2:=decide_eq_false h
  rw[h2]
  go_enter Tryz.func58,Tryz.ntmps58
  go_wp2
  go_ret
  exact⟨rfl,rfl⟩
theorem vRc_b {r:Rc} (h:vRc r=true):(0≤r.x∧r.x≤4095)∧(0≤r.y∧r.y≤4095)∧(0≤r.w∧r.w≤4095)∧(0≤r.h∧r.h≤4095)∧r.x+r.w≤4095∧r.y+r.h≤4095:=by
 have:=aCT.1 h
 omega
theorem aAJ (a b:Rc) (w:World) :
  Calls Tryz.prog 30 #[.agg #[.int .i64 a.x,.int .i64 a.y,.int .i64 a.w,.int .i64 a.h],.agg #[.int .i64 b.x,.int .i64 b.y,.int .i64 b.w,.int .i64 b.h]] w fun e W'=>e=.returned (.bool (jG_ a b))∧Below w.heap.size w W':=by
 have KA:=Lib.hid (fun W=>oR_ a W)
 have KB:=Lib.hid (fun W=>oR_ b W)
 have H0:=Lib.hid (show AzAt [(w.heap.size+1,[.int .i64 b.x,.int .i64 b.y,.int .i64 b.w,.int .i64 b.h]),(w.heap.size,[.int .i64 a.x,.int .i64 a.y,.int .i64 a.w,.int .i64 a.h])] w _ from by have hp:=((AzAt.start w).push [.int .i64 a.x,.int .i64 a.y,.int .i64 a.w,.int .i64 a.h] 26).push [.int .i64 b.x,.int .i64 b.y,.int .i64 b.w,.int .i64 b.h] 26;(try simp only[World.size_alloc] at hp);exact hp)
 unfold jG_
 cases hva:vRc a with
 | false=>
  rw[hva] at KA
  clear hva
  simp only[Bool.false_and]
  go_enter Tryz.func30,Tryz.ntmps30
  go_wp2_with (first
   | (go_at_call 59;(with_reducible refine(KA.out _).mono ?_);rintro e w1 ⟨rfl,hb⟩;have hp:=H0.out.below hb;have h_:=hp.row (w.heap.size,[.int .i64 a.x,.int .i64 a.y,.int .i64 a.w,.int .i64 a.h]) (by simp);have q57:=h_.row 0 _ rfl;have q58:=h_.row 1 _ rfl;have q59:=h_.row 2 _ rfl;have q60:=h_.row 3 _ rfl;clear h_;have h_:=hp.row (w.heap.size+1,[.int .i64 b.x,.int .i64 b.y,.int .i64 b.w,.int .i64 b.h]) (by simp);have q61:=h_.row 0 _ rfl;have q62:=h_.row 1 _ rfl;have q63:=h_.row 2 _ rfl;have q64:=h_.row 3 _ rfl;clear h_;have H1:=Lib.hid hp;clear hb hp)
   | fail)
  go_ret
  exact⟨rfl,H1.out.bw⟩
 | true=>
  rw[hva] at KA
  cases hvb:vRc b with
  | false=>
   rw[hvb] at KB
   clear hva hvb
   simp only[Bool.and_false,Bool.false_and]
   go_enter Tryz.func30,Tryz.ntmps30
   go_wp2_with (first
    | (go_at_call 59;(with_reducible refine(KA.out _).mono ?_);rintro e w1 ⟨rfl,hb⟩;have hp:=H0.out.below hb;have h_:=hp.row (w.heap.size,[.int .i64 a.x,.int .i64 a.y,.int .i64 a.w,.int .i64 a.h]) (by simp);have q65:=h_.row 0 _ rfl;have q66:=h_.row 1 _ rfl;have q67:=h_.row 2 _ rfl;have q68:=h_.row 3 _ rfl;clear h_;have h_:=hp.row (w.heap.size+1,[.int .i64 b.x,.int .i64 b.y,.int .i64 b.w,.int .i64 b.h]) (by simp);have q69:=h_.row 0 _ rfl;have q70:=h_.row 1 _ rfl;have q71:=h_.row 2 _ rfl;have q72:=h_.row 3 _ rfl;clear h_;have H1:=Lib.hid hp;clear hb hp)
    | (go_at_call 59;(with_reducible refine(KB.out _).mono ?_);rintro e w2 ⟨rfl,hb⟩;have hp:=H1.out.below hb;have h_:=hp.row (w.heap.size,[.int .i64 a.x,.int .i64 a.y,.int .i64 a.w,.int .i64 a.h]) (by simp);have q73:=h_.row 0 _ rfl;have q74:=h_.row 1 _ rfl;have q75:=h_.row 2 _ rfl;have q76:=h_.row 3 _ rfl;clear h_;have h_:=hp.row (w.heap.size+1,[.int .i64 b.x,.int .i64 b.y,.int .i64 b.w,.int .i64 b.h]) (by simp);have q77:=h_.row 0 _ rfl;have q78:=h_.row 1 _ rfl;have q79:=h_.row 2 _ rfl;have q80:=h_.row 3 _ rfl;clear h_;have H2:=Lib.hid hp;clear hb hp)
    | fail)
   go_ret
   exact⟨rfl,H2.out.bw⟩
  | true=>
   rw[hvb] at KB
   obtain⟨⟨a1,a2⟩,⟨a3,a4⟩,⟨a5,a6⟩,⟨a7,a8⟩,a9,a10⟩:=vRc_b hva
   obtain⟨⟨b1,b2⟩,⟨b3,b4⟩,⟨b5,b6⟩,⟨b7,b8⟩,b9,b10⟩:=vRc_b hvb
   have K1:=Lib.hid (fun W=>pZ_ a.x a.w b.x b.w ⟨a1,a2⟩ ⟨a5,a6⟩ ⟨b1,b2⟩ ⟨b5,b6⟩ W)
   have K2:=Lib.hid (fun W=>pZ_ a.y a.h b.y b.h ⟨a3,a4⟩ ⟨a7,a8⟩ ⟨b3,b4⟩ ⟨b7,b8⟩ W)
   clear hva hvb
   simp only[Bool.true_and]
   generalize (decide (b.x≤a.x)&&decide (a.x+a.w≤b.x+b.w))=o1 at K1⊢
   generalize (decide (b.y≤a.y)&&decide (a.y+a.h≤b.y+b.h))=o2 at K2⊢
   cases o1 <;> cases o2
   all_goals
    go_enter Tryz.func30,Tryz.ntmps30
    go_wp2_with (first
     | (go_at_call 59;(with_reducible refine(KA.out _).mono ?_);rintro e w1 ⟨rfl,hb⟩;have hp:=H0.out.below hb;have h_:=hp.row (w.heap.size,[.int .i64 a.x,.int .i64 a.y,.int .i64 a.w,.int .i64 a.h]) (by simp);have q81:=h_.row 0 _ rfl;have q82:=h_.row 1 _ rfl;have q83:=h_.row 2 _ rfl;have q84:=h_.row 3 _ rfl;clear h_;have h_:=hp.row (w.heap.size+1,[.int .i64 b.x,.int .i64 b.y,.int .i64 b.w,.int .i64 b.h]) (by simp);have q85:=h_.row 0 _ rfl;have q86:=h_.row 1 _ rfl;have q87:=h_.row 2 _ rfl;have q88:=h_.row 3 _ rfl;clear h_;have H1:=Lib.hid hp;clear hb hp)
     | (go_at_call 59;(with_reducible refine(KB.out _).mono ?_);rintro e w2 ⟨rfl,hb⟩;have hp:=H1.out.below hb;have h_:=hp.row (w.heap.size,[.int .i64 a.x,.int .i64 a.y,.int .i64 a.w,.int .i64 a.h]) (by simp);have q89:=h_.row 0 _ rfl;have q90:=h_.row 1 _ rfl;have q91:=h_.row 2 _ rfl;have q92:=h_.row 3 _ rfl;clear h_;have h_:=hp.row (w.heap.size+1,[.int .i64 b.x,.int .i64 b.y,.int .i64 b.w,.int .i64 b.h]) (by simp);have q93:=h_.row 0 _ rfl;have q94:=h_.row 1 _ rfl;have q95:=h_.row 2 _ rfl;have q96:=h_.row 3 _ rfl;clear h_;have H2:=Lib.hid hp;clear hb hp)
     | (go_at_call 58;(with_reducible refine(K1.out _).mono ?_);rintro e w' ⟨rfl,rfl⟩)
     | (go_at_call 58;(with_reducible refine(K2.out _).mono ?_);rintro e w' ⟨rfl,rfl⟩)
     | fail)
   all_goals
    go_ret
    exact⟨rfl,H2.out.bw⟩
end Go.Proofs.YtdkaohphbgdkpaaGreatDoor
