/- - -/
import Derived.Deep.RegionHeld3
import Derived.Deep.CutBlock
import Derived.Test.YtlikmmpmnaaifaaGreatDoorZBack
set_option maxHeartbeats 40000000
set_option maxRecDepth 1000000
open Go.Lib (hid)
namespace Go.Proofs.YtlikmmpmnaaifaaGreatDoor
open Go.RowKit Go.Shelf
attribute [local go_sem] Oper.semAt_some
theorem aBI {B cap n:Nat} {ps:List Pl} (hl:ps.length=n) (hn:n≤1000000) (w:World) (h:PsAt B ps w) :
  Calls Tryz.prog 154 #[.slice (some ⟨B,0,none⟩) n cap,.func (.func 155) #[] #[]] w fun e W'=>e=.returned (.bool (!(ps.all vP)))∧Below w.heap.size w W':=by
 have K:=hid (aOZ (cap:=cap) (by omega) w h)
 rw[hl] at K
 clear hl h
 go_enter Tryz.func154,Tryz.ntmps154
 go_wp2_with (go_at_call 198;(with_reducible refine(K.out).mono ?_);rintro e w1 ⟨⟨i,rfl,hi⟩,hb⟩;have HI:=hid hi;clear hi)
 go_ret
 exact⟨aN_ HI.out,hb⟩
theorem aNJ {B cap n:Nat} {ps:List Pl} (hl:ps.length=n) (hn:n≤1000000) (w:World) (h:PsAt B ps w) :
  Calls Tryz.prog 95 #[.slice (some ⟨B,0,none⟩) n cap] w fun e W'=>e=.returned (.bool (ps.all vP))∧Below w.heap.size w W':=by
 have K:=hid (aBI (cap:=cap) hl hn w h)
 clear hl h hn
 generalize ps.all vP=v at K⊢
 go_enter Tryz.func95,Tryz.ntmps95
 go_wp2_with (go_at_call 154;(with_reducible refine(K.out).mono ?_);rintro e w1 ⟨rfl,hb⟩)
 go_ret
 exact⟨aN_ (by simp),hb⟩
theorem aDZ {u v:Int} (hu : -4095≤u∧u≤4095) (hv : -4095≤v∧v≤4095) : -16769025≤u*v∧u*v≤16769025:=by
 have h:(u*v).natAbs≤4095*4095:=by
  rw[Int.natAbs_mul]
  exact Nat.mul_le_mul (by omega) (by omega)
 omega
theorem vP_b {p:Pl} (h:vP p=true):(0≤p.x∧p.x≤4095)∧(0≤p.y∧p.y≤4095):=by
 unfold vP at h
 simp only[Bool.and_eq_true,decide_eq_true_eq] at h
 omega
theorem turn_s {a b c:Pl} (ha:vP a=true) (hb:vP b=true) (hc:vP c=true) (w:World) :
  Calls Tryz.prog 75 #[.agg #[.int .i64 a.x,.int .i64 a.y],.agg #[.int .i64 b.x,.int .i64 b.y],.agg #[.int .i64 c.x,.int .i64 c.y]] w fun e W'=>e=.returned (.int .i64 (aB_ a b c))∧Below w.heap.size w W':=by
 obtain⟨⟨a1,a2⟩,a3,a4⟩:=vP_b ha
 obtain⟨⟨b1,b2⟩,b3,b4⟩:=vP_b hb
 obtain⟨⟨c1,c2⟩,c3,c4⟩:=vP_b hc
 clear ha hb hc
 unfold aB_
 obtain⟨ax,ay⟩:=a
 obtain⟨bx,by'⟩:=b
 obtain⟨cx,cy⟩:=c
 simp only at *
 have p1:=aDZ (u:=bx-ax) (v:=cy-ay) (by omega) (by omega)
 have p2:=aDZ (u:=by'-ay) (v:=cx-ax) (by omega) (by omega)
 obtain⟨p3,p4⟩:=p1
 obtain⟨p5,p6⟩:=p2
 have w1:IntKind.i64.wrap ((bx-ax)*(cy-ay))=(bx-ax)*(cy-ay):=IntWalk.i64_in _ (by omega)
 have w2:IntKind.i64.wrap ((by'-ay)*(cx-ax))=(by'-ay)*(cx-ax):=IntWalk.i64_in _ (by omega)
 have w3:IntKind.i64.wrap ((bx-ax)*(cy-ay)-(by'-ay)*(cx-ax))=(bx-ax)*(cy-ay)-(by'-ay)*(cx-ax):=IntWalk.i64_in _ (by omega)
 go_enter Tryz.func75,Tryz.ntmps75
 go_wp2
 go_ret
 exact⟨rfl,(((Below.refl _ _).alloc (Nat.le_refl _) _).alloc (by simp) _).alloc (by simp;omega) _⟩
theorem aOQ (x:Int) (w:World):Calls Tryz.prog 160 #[.int .i64 x] w fun e w'=>e=.returned (.bool false)∧w=w':=by
 go_enter Tryz.func160,Tryz.ntmps160
 go_wp2
 go_ret
 exact⟨aN_ (by simp),rfl⟩
theorem aPX (x y:Int) (w:World):Calls Tryz.prog 99 #[.int .i64 x,.int .i64 y] w fun e w'=>e=.returned (.int .i64 (cmpI x y))∧w=w':=by
 unfold cmpI
 by_cases h1:x<y
 ·rw[if_pos h1]
  go_enter Tryz.func99,Tryz.ntmps99
  go_wp2_with (go_at_call 160;(with_reducible refine(aOQ _ _).mono ?_);rintro e w' ⟨rfl,rfl⟩)
  go_ret
  exact⟨rfl,rfl⟩
 ·rw[if_neg h1]
  by_cases h2:y<x
  ·rw[if_pos h2]
   go_enter Tryz.func99,Tryz.ntmps99
   go_wp2_with (go_at_call 160;(with_reducible refine(aOQ _ _).mono ?_);rintro e w' ⟨rfl,rfl⟩)
   go_ret
   exact⟨rfl,rfl⟩
  ·rw[if_neg h2]
   go_enter Tryz.func99,Tryz.ntmps99
   go_wp2_with (go_at_call 160;(with_reducible refine(aOQ _ _).mono ?_);rintro e w' ⟨rfl,rfl⟩)
   go_ret
   exact⟨rfl,rfl⟩
theorem tC_ (a b c d:Int) (w:World):Calls Tryz.prog 66 #[.int .i64 a,.int .i64 b,.int .i64 c,.int .i64 d] w fun e w'=>e=.returned (.bool (ovl a b c d))∧w=w':=by
 unfold ovl
 rcases Int.lt_trichotomy a b with h1|rfl|h1 <;> rcases Int.lt_trichotomy c d with h2|rfl|h2
 all_goals
  go_enter Tryz.func66,Tryz.ntmps66
  go_wp2
 all_goals
  go_ret
  exact⟨aN_ (by first|exact(decide_eq_true (by omega)).symm|exact(decide_eq_false (by omega)).symm|exact decide_eq_decide.2 (by omega)),rfl⟩
theorem hQ_ (r:Rc) (w:World) :
  Calls Tryz.prog 15 #[.agg #[.int .i64 r.x,.int .i64 r.y,.int .i64 r.w,.int .i64 r.h]] w fun e W'=>e=.returned (.bool (vRc r))∧Below w.heap.size w W':=by
 have KP:=hid (show ∀W,Calls Tryz.prog 36 #[.agg #[.int .i64 r.x,.int .i64 r.y]] W fun e W'=>e=.returned (.bool (vP ⟨r.x,r.y⟩))∧Below W.heap.size W W' from fun W=>lC_ ⟨r.x,r.y⟩ W)
 have H0:=hid (show AzAt [(w.heap.size,[.int .i64 r.x,.int .i64 r.y,.int .i64 r.w,.int .i64 r.h])] w _ from by have hp:=(AzAt.start w).push [.int .i64 r.x,.int .i64 r.y,.int .i64 r.w,.int .i64 r.h] 29;(try simp only[World.size_alloc] at hp);exact hp)
 unfold vRc
 cases hv:vP ⟨r.x,r.y⟩ with
 | false=>
  rw[hv] at KP
  clear hv
  simp only[Bool.false_and]
  go_enter Tryz.func15,Tryz.ntmps15
  go_wp2_with (first
   | (go_at_call 36;(with_reducible refine(KP.out _).mono ?_);rintro e w1 ⟨rfl,hb⟩;have hp:=H0.out.below hb;have h_:=hp.row (w.heap.size,[.int .i64 r.x,.int .i64 r.y,.int .i64 r.w,.int .i64 r.h]) (by simp);have q1:=h_.row 0 _ rfl;have q2:=h_.row 1 _ rfl;have q3:=h_.row 2 _ rfl;have q4:=h_.row 3 _ rfl;clear h_;have H1:=hid hp;clear hb hp)
   | fail)
  go_ret
  exact⟨rfl,H1.out.bw⟩
 | true=>
  rw[hv] at KP
  obtain⟨⟨b1,b2⟩,b3,b4⟩:=vP_b hv
  simp only at b1 b2 b3 b4
  clear hv
  by_cases hw:0≤r.w∧r.w≤4095-r.x
  ·have KW:=hid (fun W=>in_t hw.1 hw.2 W)
   rw[decide_eq_true hw.1,decide_eq_true hw.2]
   clear hw
   by_cases hh:0≤r.h∧r.h≤4095-r.y
   ·have KH:=hid (fun W=>in_t hh.1 hh.2 W)
    rw[decide_eq_true hh.1,decide_eq_true hh.2]
    clear hh
    go_enter Tryz.func15,Tryz.ntmps15
    go_wp2_with (first
     | (go_at_call 36;(with_reducible refine(KP.out _).mono ?_);rintro e w1 ⟨rfl,hb⟩;have hp:=H0.out.below hb;have h_:=hp.row (w.heap.size,[.int .i64 r.x,.int .i64 r.y,.int .i64 r.w,.int .i64 r.h]) (by simp);have q5:=h_.row 0 _ rfl;have q6:=h_.row 1 _ rfl;have q7:=h_.row 2 _ rfl;have q8:=h_.row 3 _ rfl;clear h_;have H1:=hid hp;clear hb hp)
     | (go_at_call 64;(with_reducible refine(KW.out _).mono ?_);rintro e w' ⟨rfl,rfl⟩)
     | (go_at_call 64;(with_reducible refine(KH.out _).mono ?_);rintro e w' ⟨rfl,rfl⟩)
     | fail)
    go_ret
    exact⟨rfl,H1.out.bw⟩
   ·have KH:=hid (fun W=>in_f (n:=r.h) (lo:=0) (hi:=4095-r.y) (by omega) W)
    rw[show(true&&true&&true&&decide (0≤r.h)&&decide (r.h≤4095-r.y))=false by simp;omega]
    clear hh
    go_enter Tryz.func15,Tryz.ntmps15
    go_wp2_with (first
     | (go_at_call 36;(with_reducible refine(KP.out _).mono ?_);rintro e w1 ⟨rfl,hb⟩;have hp:=H0.out.below hb;have h_:=hp.row (w.heap.size,[.int .i64 r.x,.int .i64 r.y,.int .i64 r.w,.int .i64 r.h]) (by simp);have q9:=h_.row 0 _ rfl;have q10:=h_.row 1 _ rfl;have q11:=h_.row 2 _ rfl;have q12:=h_.row 3 _ rfl;clear h_;have H1:=hid hp;clear hb hp)
     | (go_at_call 64;(with_reducible refine(KW.out _).mono ?_);rintro e w' ⟨rfl,rfl⟩)
     | (go_at_call 64;(with_reducible refine(KH.out _).mono ?_);rintro e w' ⟨rfl,rfl⟩)
     | fail)
    go_ret
    exact⟨rfl,H1.out.bw⟩
  ·have KW:=hid (fun W=>in_f (n:=r.w) (lo:=0) (hi:=4095-r.x) (by omega) W)
   rw[show(true&&decide (0≤r.w)&&decide (r.w≤4095-r.x)&&decide (0≤r.h)&&decide (r.h≤4095-r.y))=false by simp;omega]
   clear hw
   go_enter Tryz.func15,Tryz.ntmps15
   go_wp2_with (first
    | (go_at_call 36;(with_reducible refine(KP.out _).mono ?_);rintro e w1 ⟨rfl,hb⟩;have hp:=H0.out.below hb;have h_:=hp.row (w.heap.size,[.int .i64 r.x,.int .i64 r.y,.int .i64 r.w,.int .i64 r.h]) (by simp);have q13:=h_.row 0 _ rfl;have q14:=h_.row 1 _ rfl;have q15:=h_.row 2 _ rfl;have q16:=h_.row 3 _ rfl;clear h_;have H1:=hid hp;clear hb hp)
    | (go_at_call 64;(with_reducible refine(KW.out _).mono ?_);rintro e w' ⟨rfl,rfl⟩)
    | fail)
   go_ret
   exact⟨rfl,H1.out.bw⟩
theorem wY_ (a l b m:Int) (ha:0≤a∧a≤4095) (hl:0≤l∧l≤4095) (hb:0≤b∧b≤4095) (hm:0≤m∧m≤4095) (w:World) :
  Calls Tryz.prog 67 #[.int .i64 a,.int .i64 l,.int .i64 b,.int .i64 m] w fun e w'=>e=.returned (.bool (decide (b≤a)&&decide (a+l≤b+m)))∧w=w':=by
 obtain⟨a1,a2⟩:=ha
 obtain⟨l1,l2⟩:=hl
 obtain⟨b1,b2⟩:=hb
 obtain⟨m1,m2⟩:=hm
 by_cases h:b≤a
 ·rw[decide_eq_true h]
  go_enter Tryz.func67,Tryz.ntmps67
  go_wp2
  go_ret
  exact⟨rfl,rfl⟩
 ·have h2:=decide_eq_false h
  rw[h2]
  go_enter Tryz.func67,Tryz.ntmps67
  go_wp2
  go_ret
  exact⟨rfl,rfl⟩
theorem rW_ {r:Rc} (h:vRc r=true):(0≤r.x∧r.x≤4095)∧(0≤r.y∧r.y≤4095)∧(0≤r.w∧r.w≤4095)∧(0≤r.h∧r.h≤4095)∧r.x+r.w≤4095∧r.y+r.h≤4095:=by
 have:=aV_.1 h
 omega
theorem aNN (a b:Rc) (w:World) :
  Calls Tryz.prog 17 #[.agg #[.int .i64 a.x,.int .i64 a.y,.int .i64 a.w,.int .i64 a.h],.agg #[.int .i64 b.x,.int .i64 b.y,.int .i64 b.w,.int .i64 b.h]] w fun e W'=>e=.returned (.bool (oH_ a b))∧Below w.heap.size w W':=by
 have KA:=hid (fun W=>hQ_ a W)
 have KB:=hid (fun W=>hQ_ b W)
 have H0:=hid (show AzAt [(w.heap.size+1,[.int .i64 b.x,.int .i64 b.y,.int .i64 b.w,.int .i64 b.h]),(w.heap.size,[.int .i64 a.x,.int .i64 a.y,.int .i64 a.w,.int .i64 a.h])] w _ from by have hp:=((AzAt.start w).push [.int .i64 a.x,.int .i64 a.y,.int .i64 a.w,.int .i64 a.h] 29).push [.int .i64 b.x,.int .i64 b.y,.int .i64 b.w,.int .i64 b.h] 29;(try simp only[World.size_alloc] at hp);exact hp)
 unfold oH_
 cases hva:vRc a with
 | false=>
  rw[hva] at KA
  clear hva
  simp only[Bool.false_and]
  go_enter Tryz.func17,Tryz.ntmps17
  go_wp2_with (first
   | (go_at_call 15;(with_reducible refine(KA.out _).mono ?_);rintro e w1 ⟨rfl,hb⟩;have hp:=H0.out.below hb;have h_:=hp.row (w.heap.size,[.int .i64 a.x,.int .i64 a.y,.int .i64 a.w,.int .i64 a.h]) (by simp);have q17:=h_.row 0 _ rfl;have q18:=h_.row 1 _ rfl;have q19:=h_.row 2 _ rfl;have q20:=h_.row 3 _ rfl;clear h_;have h_:=hp.row (w.heap.size+1,[.int .i64 b.x,.int .i64 b.y,.int .i64 b.w,.int .i64 b.h]) (by simp);have q21:=h_.row 0 _ rfl;have q22:=h_.row 1 _ rfl;have q23:=h_.row 2 _ rfl;have q24:=h_.row 3 _ rfl;clear h_;have H1:=hid hp;clear hb hp)
   | fail)
  go_ret
  exact⟨rfl,H1.out.bw⟩
 | true=>
  rw[hva] at KA
  cases hvb:vRc b with
  | false=>
   rw[hvb] at KB
   clear hva hvb
   simp only[Bool.and_false,Bool.false_and]
   go_enter Tryz.func17,Tryz.ntmps17
   go_wp2_with (first
    | (go_at_call 15;(with_reducible refine(KA.out _).mono ?_);rintro e w1 ⟨rfl,hb⟩;have hp:=H0.out.below hb;have h_:=hp.row (w.heap.size,[.int .i64 a.x,.int .i64 a.y,.int .i64 a.w,.int .i64 a.h]) (by simp);have q25:=h_.row 0 _ rfl;have q26:=h_.row 1 _ rfl;have q27:=h_.row 2 _ rfl;have q28:=h_.row 3 _ rfl;clear h_;have h_:=hp.row (w.heap.size+1,[.int .i64 b.x,.int .i64 b.y,.int .i64 b.w,.int .i64 b.h]) (by simp);have q29:=h_.row 0 _ rfl;have q30:=h_.row 1 _ rfl;have q31:=h_.row 2 _ rfl;have q32:=h_.row 3 _ rfl;clear h_;have H1:=hid hp;clear hb hp)
    | (go_at_call 15;(with_reducible refine(KB.out _).mono ?_);rintro e w2 ⟨rfl,hb⟩;have hp:=H1.out.below hb;have h_:=hp.row (w.heap.size,[.int .i64 a.x,.int .i64 a.y,.int .i64 a.w,.int .i64 a.h]) (by simp);have q33:=h_.row 0 _ rfl;have q34:=h_.row 1 _ rfl;have q35:=h_.row 2 _ rfl;have q36:=h_.row 3 _ rfl;clear h_;have h_:=hp.row (w.heap.size+1,[.int .i64 b.x,.int .i64 b.y,.int .i64 b.w,.int .i64 b.h]) (by simp);have q37:=h_.row 0 _ rfl;have q38:=h_.row 1 _ rfl;have q39:=h_.row 2 _ rfl;have q40:=h_.row 3 _ rfl;clear h_;have H2:=hid hp;clear hb hp)
    | fail)
   go_ret
   exact⟨rfl,H2.out.bw⟩
  | true=>
   rw[hvb] at KB
   obtain⟨⟨a1,a2⟩,⟨a3,a4⟩,⟨a5,a6⟩,⟨a7,a8⟩,a9,a10⟩:=rW_ hva
   obtain⟨⟨b1,b2⟩,⟨b3,b4⟩,⟨b5,b6⟩,⟨b7,b8⟩,b9,b10⟩:=rW_ hvb
   have K1:=hid (fun W=>tC_ a.x (a.x+a.w) b.x (b.x+b.w) W)
   have K2:=hid (fun W=>tC_ a.y (a.y+a.h) b.y (b.y+b.h) W)
   clear hva hvb
   simp only[Bool.true_and]
   generalize ovl a.x (a.x+a.w) b.x (b.x+b.w)=o1 at K1⊢
   generalize ovl a.y (a.y+a.h) b.y (b.y+b.h)=o2 at K2⊢
   cases o1 <;> cases o2
   all_goals
    go_enter Tryz.func17,Tryz.ntmps17
    go_wp2_with (first
     | (go_at_call 15;(with_reducible refine(KA.out _).mono ?_);rintro e w1 ⟨rfl,hb⟩;have hp:=H0.out.below hb;have h_:=hp.row (w.heap.size,[.int .i64 a.x,.int .i64 a.y,.int .i64 a.w,.int .i64 a.h]) (by simp);have q41:=h_.row 0 _ rfl;have q42:=h_.row 1 _ rfl;have q43:=h_.row 2 _ rfl;have q44:=h_.row 3 _ rfl;clear h_;have h_:=hp.row (w.heap.size+1,[.int .i64 b.x,.int .i64 b.y,.int .i64 b.w,.int .i64 b.h]) (by simp);have q45:=h_.row 0 _ rfl;have q46:=h_.row 1 _ rfl;have q47:=h_.row 2 _ rfl;have q48:=h_.row 3 _ rfl;clear h_;have H1:=hid hp;clear hb hp)
     | (go_at_call 15;(with_reducible refine(KB.out _).mono ?_);rintro e w2 ⟨rfl,hb⟩;have hp:=H1.out.below hb;have h_:=hp.row (w.heap.size,[.int .i64 a.x,.int .i64 a.y,.int .i64 a.w,.int .i64 a.h]) (by simp);have q49:=h_.row 0 _ rfl;have q50:=h_.row 1 _ rfl;have q51:=h_.row 2 _ rfl;have q52:=h_.row 3 _ rfl;clear h_;have h_:=hp.row (w.heap.size+1,[.int .i64 b.x,.int .i64 b.y,.int .i64 b.w,.int .i64 b.h]) (by simp);have q53:=h_.row 0 _ rfl;have q54:=h_.row 1 _ rfl;have q55:=h_.row 2 _ rfl;have q56:=h_.row 3 _ rfl;clear h_;have H2:=hid hp;clear hb hp)
     | (go_at_call 66;(with_reducible refine(K1.out _).mono ?_);rintro e w' ⟨rfl,rfl⟩)
     | (go_at_call 66;(with_reducible refine(K2.out _).mono ?_);rintro e w' ⟨rfl,rfl⟩)
     | fail)
   all_goals
    go_ret
    exact⟨rfl,H2.out.bw⟩
theorem aKR (a b:Rc) (w:World) :
  Calls Tryz.prog 19 #[.agg #[.int .i64 a.x,.int .i64 a.y,.int .i64 a.w,.int .i64 a.h],.agg #[.int .i64 b.x,.int .i64 b.y,.int .i64 b.w,.int .i64 b.h]] w fun e W'=>e=.returned (.bool (dX_ a b))∧Below w.heap.size w W':=by
 have KA:=hid (fun W=>hQ_ a W)
 have KB:=hid (fun W=>hQ_ b W)
 have H0:=hid (show AzAt [(w.heap.size+1,[.int .i64 b.x,.int .i64 b.y,.int .i64 b.w,.int .i64 b.h]),(w.heap.size,[.int .i64 a.x,.int .i64 a.y,.int .i64 a.w,.int .i64 a.h])] w _ from by have hp:=((AzAt.start w).push [.int .i64 a.x,.int .i64 a.y,.int .i64 a.w,.int .i64 a.h] 29).push [.int .i64 b.x,.int .i64 b.y,.int .i64 b.w,.int .i64 b.h] 29;(try simp only[World.size_alloc] at hp);exact hp)
 unfold dX_
 cases hva:vRc a with
 | false=>
  rw[hva] at KA
  clear hva
  simp only[Bool.false_and]
  go_enter Tryz.func19,Tryz.ntmps19
  go_wp2_with (first
   | (go_at_call 15;(with_reducible refine(KA.out _).mono ?_);rintro e w1 ⟨rfl,hb⟩;have hp:=H0.out.below hb;have h_:=hp.row (w.heap.size,[.int .i64 a.x,.int .i64 a.y,.int .i64 a.w,.int .i64 a.h]) (by simp);have q57:=h_.row 0 _ rfl;have q58:=h_.row 1 _ rfl;have q59:=h_.row 2 _ rfl;have q60:=h_.row 3 _ rfl;clear h_;have h_:=hp.row (w.heap.size+1,[.int .i64 b.x,.int .i64 b.y,.int .i64 b.w,.int .i64 b.h]) (by simp);have q61:=h_.row 0 _ rfl;have q62:=h_.row 1 _ rfl;have q63:=h_.row 2 _ rfl;have q64:=h_.row 3 _ rfl;clear h_;have H1:=hid hp;clear hb hp)
   | fail)
  go_ret
  exact⟨rfl,H1.out.bw⟩
 | true=>
  rw[hva] at KA
  cases hvb:vRc b with
  | false=>
   rw[hvb] at KB
   clear hva hvb
   simp only[Bool.and_false,Bool.false_and]
   go_enter Tryz.func19,Tryz.ntmps19
   go_wp2_with (first
    | (go_at_call 15;(with_reducible refine(KA.out _).mono ?_);rintro e w1 ⟨rfl,hb⟩;have hp:=H0.out.below hb;have h_:=hp.row (w.heap.size,[.int .i64 a.x,.int .i64 a.y,.int .i64 a.w,.int .i64 a.h]) (by simp);have q65:=h_.row 0 _ rfl;have q66:=h_.row 1 _ rfl;have q67:=h_.row 2 _ rfl;have q68:=h_.row 3 _ rfl;clear h_;have h_:=hp.row (w.heap.size+1,[.int .i64 b.x,.int .i64 b.y,.int .i64 b.w,.int .i64 b.h]) (by simp);have q69:=h_.row 0 _ rfl;have q70:=h_.row 1 _ rfl;have q71:=h_.row 2 _ rfl;have q72:=h_.row 3 _ rfl;clear h_;have H1:=hid hp;clear hb hp)
    | (go_at_call 15;(with_reducible refine(KB.out _).mono ?_);rintro e w2 ⟨rfl,hb⟩;have hp:=H1.out.below hb;have h_:=hp.row (w.heap.size,[.int .i64 a.x,.int .i64 a.y,.int .i64 a.w,.int .i64 a.h]) (by simp);have q73:=h_.row 0 _ rfl;have q74:=h_.row 1 _ rfl;have q75:=h_.row 2 _ rfl;have q76:=h_.row 3 _ rfl;clear h_;have h_:=hp.row (w.heap.size+1,[.int .i64 b.x,.int .i64 b.y,.int .i64 b.w,.int .i64 b.h]) (by simp);have q77:=h_.row 0 _ rfl;have q78:=h_.row 1 _ rfl;have q79:=h_.row 2 _ rfl;have q80:=h_.row 3 _ rfl;clear h_;have H2:=hid hp;clear hb hp)
    | fail)
   go_ret
   exact⟨rfl,H2.out.bw⟩
  | true=>
   rw[hvb] at KB
   obtain⟨⟨a1,a2⟩,⟨a3,a4⟩,⟨a5,a6⟩,⟨a7,a8⟩,a9,a10⟩:=rW_ hva
   obtain⟨⟨b1,b2⟩,⟨b3,b4⟩,⟨b5,b6⟩,⟨b7,b8⟩,b9,b10⟩:=rW_ hvb
   have K1:=hid (fun W=>wY_ a.x a.w b.x b.w ⟨a1,a2⟩ ⟨a5,a6⟩ ⟨b1,b2⟩ ⟨b5,b6⟩ W)
   have K2:=hid (fun W=>wY_ a.y a.h b.y b.h ⟨a3,a4⟩ ⟨a7,a8⟩ ⟨b3,b4⟩ ⟨b7,b8⟩ W)
   clear hva hvb
   simp only[Bool.true_and]
   generalize (decide (b.x≤a.x)&&decide (a.x+a.w≤b.x+b.w))=o1 at K1⊢
   generalize (decide (b.y≤a.y)&&decide (a.y+a.h≤b.y+b.h))=o2 at K2⊢
   cases o1 <;> cases o2
   all_goals
    go_enter Tryz.func19,Tryz.ntmps19
    go_wp2_with (first
     | (go_at_call 15;(with_reducible refine(KA.out _).mono ?_);rintro e w1 ⟨rfl,hb⟩;have hp:=H0.out.below hb;have h_:=hp.row (w.heap.size,[.int .i64 a.x,.int .i64 a.y,.int .i64 a.w,.int .i64 a.h]) (by simp);have q81:=h_.row 0 _ rfl;have q82:=h_.row 1 _ rfl;have q83:=h_.row 2 _ rfl;have q84:=h_.row 3 _ rfl;clear h_;have h_:=hp.row (w.heap.size+1,[.int .i64 b.x,.int .i64 b.y,.int .i64 b.w,.int .i64 b.h]) (by simp);have q85:=h_.row 0 _ rfl;have q86:=h_.row 1 _ rfl;have q87:=h_.row 2 _ rfl;have q88:=h_.row 3 _ rfl;clear h_;have H1:=hid hp;clear hb hp)
     | (go_at_call 15;(with_reducible refine(KB.out _).mono ?_);rintro e w2 ⟨rfl,hb⟩;have hp:=H1.out.below hb;have h_:=hp.row (w.heap.size,[.int .i64 a.x,.int .i64 a.y,.int .i64 a.w,.int .i64 a.h]) (by simp);have q89:=h_.row 0 _ rfl;have q90:=h_.row 1 _ rfl;have q91:=h_.row 2 _ rfl;have q92:=h_.row 3 _ rfl;clear h_;have h_:=hp.row (w.heap.size+1,[.int .i64 b.x,.int .i64 b.y,.int .i64 b.w,.int .i64 b.h]) (by simp);have q93:=h_.row 0 _ rfl;have q94:=h_.row 1 _ rfl;have q95:=h_.row 2 _ rfl;have q96:=h_.row 3 _ rfl;clear h_;have H2:=hid hp;clear hb hp)
     | (go_at_call 67;(with_reducible refine(K1.out _).mono ?_);rintro e w' ⟨rfl,rfl⟩)
     | (go_at_call 67;(with_reducible refine(K2.out _).mono ?_);rintro e w' ⟨rfl,rfl⟩)
     | fail)
   all_goals
    go_ret
    exact⟨rfl,H2.out.bw⟩
def fewB (ps:List Pl):Bool:=decide (1≤ps.length)&&decide (ps.length≤40)&&ps.all vP
theorem few_s {B cap n:Nat} {ps:List Pl} (hl:ps.length=n) (hn:n≤1000000) (w:World) (h:PsAt B ps w) :
  Calls Tryz.prog 68 #[.slice (some ⟨B,0,none⟩) n cap] w fun e W'=>e=.returned (.bool (fewB ps))∧Below w.heap.size w W':=by
 have KV:=hid (aNJ (cap:=cap) hl hn w h)
 unfold fewB
 rw[hl]
 by_cases h1:1≤n∧n≤40
 ·have KI:=hid (fun W=>in_t (n:=(n:Int)) (lo:=1) (hi:=40) (by omega) (by omega) W)
  rw[decide_eq_true h1.1,decide_eq_true h1.2,Bool.true_and,Bool.true_and]
  clear h1 hl h
  generalize ps.all vP=v at KV⊢
  go_enter Tryz.func68,Tryz.ntmps68
  go_wp2_with (first
   | (go_at_call 64;(with_reducible refine(KI.out _).mono ?_);rintro e w' ⟨rfl,rfl⟩)
   | (go_at_call 95;(with_reducible refine(KV.out).mono ?_);rintro e w1 ⟨rfl,hb⟩)
   | fail)
  go_ret
  exact⟨rfl,hb⟩
 ·have KI:=hid (fun W=>in_f (n:=(n:Int)) (lo:=1) (hi:=40) (by omega) W)
  rw[show(decide (1≤n)&&decide (n≤40)&&ps.all vP)=false by rw[show(decide (1≤n)&&decide (n≤40))=false by simp;omega];rfl]
  clear h1 hl h KV
  go_enter Tryz.func68,Tryz.ntmps68
  go_wp2_with (go_at_call 64;(with_reducible refine(KI.out _).mono ?_);rintro e w' ⟨rfl,rfl⟩)
  go_ret
  exact⟨rfl,Below.refl _ _⟩
def aAL (x y:Int):Int:=if x=0 then y else x
theorem or_s {B:Nat} {x y:Int} (w:World) (c0:w.cell? ⟨B,0,none⟩=some (.int .i64 x)) (c1:w.cell? ⟨B,1,none⟩=some (.int .i64 y)) :
  Calls Tryz.prog 133 #[.slice (some ⟨B,0,none⟩) 2 2] w fun e w'=>e=.returned (.int .i64 (aAL x y))∧w=w':=by
 have C:=hid (And.intro c0 c1)
 clear c0 c1
 go_enter Tryz.func133,Tryz.ntmps133
 go_wp2
 go_loop [8] (fun i=>∃k:Nat,k≤2∧i=.int .i64 (k:Int)∧(1≤k→x=0)∧(2≤k→y=0)) (fun i=>2-(intOf i).toNat)
 case atStart=>exact⟨0,by omega,rfl,by omega,by omega⟩
 case round=>
  obtain⟨k,hk,rfl,h1,h2⟩:=hrel
  obtain rfl|rfl|rfl:k=0∨k=1∨k=2:=by omega
  ·have c0:=C.out.1
   clear h1 h2
   by_cases hx:x=0
   ·subst hx
    go_wp2
    go_round
    case rel=>exact⟨1,by omega,by go_num,by simp,fun h=>by omega⟩
    case measure=>simp[intOf]
   ·have hx2:(x==0)=false:=beq_eq_false_iff_ne.2 hx
    have HX:=hid hx
    clear hx
    go_wp2
    go_ret
    exact⟨dA_ (by unfold aAL;rw[if_neg HX.out]),rfl⟩
  ·have c1:=C.out.2
   have HX:=hid (h1 (by omega))
   clear h1 h2
   by_cases hy:y=0
   ·subst hy
    go_wp2
    go_round
    case rel=>exact⟨2,by omega,by go_num,fun _=>HX.out,by simp⟩
    case measure=>simp[intOf]
   ·have hy2:(y==0)=false:=beq_eq_false_iff_ne.2 hy
    clear hy
    go_wp2
    go_ret
    exact⟨dA_ (by unfold aAL;rw[if_pos HX.out]),rfl⟩
  ·have HX:=hid (h1 (by omega))
   have HY:=hid (h2 (by omega))
   clear h1 h2
   go_wp2
   go_ret
   exact⟨dA_ (by unfold aAL;rw[if_pos HX.out,HY.out]),rfl⟩
def ordP (a b:Pl):Int:=aAL (cmpI a.y b.y) (cmpI a.x b.x)
def rcC (r:Rc):List Value:=[.int .i64 r.x,.int .i64 r.y,.int .i64 r.w,.int .i64 r.h]
theorem kU_ (p:Pl):cW_ ⟨p.x,p.y,0,0⟩ p=⟨p.x,p.y,0,0⟩:=by
 unfold cW_
 simp only[Rc.mk.injEq]
 refine⟨?_,?_,?_,?_⟩ <;> omega
theorem wU_ (p:Pl) (l:List Pl) (hp:vP p=true) (hl:∀q∈l,vP q=true) (k:Nat):vRc (((p::l).take k).foldl cW_ ⟨p.x,p.y,0,0⟩)=true:=by
 cases k with
 | zero=>exact aJU hp
 | succ k=>
  rw[List.take_succ_cons,List.foldl_cons,kU_]
  exact kT_ p (l.take k) hp (fun q hq=>hl q (List.mem_of_mem_take hq))
theorem aMF {B cap n:Nat} {p:Pl} {l:List Pl} (hl:(p::l).length=n) (hv:fewB (p::l)=true) (w:World) (h:PsAt B (p::l) w) :
  Calls Tryz.prog 21 #[.slice (some ⟨B,0,none⟩) n cap] w fun e W'=>e=.returned (.tuple #[.agg #[.int .i64 (aA_ p l).x,.int .i64 (aA_ p l).y,.int .i64 (aA_ p l).w,.int .i64 (aA_ p l).h],.int .i64 0])∧Below w.heap.size w W':=by
 have hn:n≤40∧1≤n:=by
  unfold fewB at hv
  simp only[Bool.and_eq_true,decide_eq_true_eq] at hv
  omega
 have hall:vP p=true∧∀q∈l,vP q=true:=by
  unfold fewB at hv
  simp only[Bool.and_eq_true] at hv
  have:=List.all_eq_true.1 hv.2
  exact⟨this p (by simp),fun q hq=>this q (by simp[hq])⟩
 have H0:=hid (show AzAt [(w.heap.size,[.int .i64 0,.int .i64 0,.int .i64 0,.int .i64 0])] w _ from(AzAt.start w).push [.int .i64 0,.int .i64 0,.int .i64 0,.int .i64 0] 29)
 have KF:=hid (fun W (hb:Below w.heap.size w W)=>few_s (cap:=cap) hl (by omega) W (h.below hb))
 rw[hv] at KF
 have HP:=hid h
 have HA:=hid hall
 have HL:=hid hl
 have hB:=h.sz
 obtain⟨rf,hrf⟩:∃rf,rf=aA_ p l:=⟨_,rfl⟩
 rw[←hrf]
 have HRF:=hid hrf
 clear h hall hv hl hrf
 go_enter Tryz.func21,Tryz.ntmps21
 go_wp2_with (first
  | (go_at_call 68;(with_reducible refine(KF.out _ H0.out.bw).mono ?_);rintro e w1 ⟨rfl,hb⟩;have H1:=hid (H0.out.below hb);have c0:=(HP.out.below H1.out.bw).row 0 p rfl;have q0:=c0.1;have q1:=c0.2;clear hb c0)
  | fail)
 simp only[Nat.zero_mul,Nat.zero_add] at q0 q1
 have hn2:0<n:=hn.2
 have hs1:B<w1.heap.size:=Nat.lt_of_lt_of_le hB H1.out.bw.size
 have H2:=hid (show AzAt [(w1.heap.size,[.int .i64 p.x,.int .i64 p.y,.int .i64 0,.int .i64 0]),(w.heap.size,[.int .i64 0,.int .i64 0,.int .i64 0,.int .i64 0])] w _ from(H1.out.push [.int .i64 p.x,.int .i64 p.y,.int .i64 0,.int .i64 0] 29).drew)
 have hs2:w.heap.size≤w1.heap.size:=H1.out.bw.size
 have hs3:w.heap.size<w1.heap.size:=(H1.out.row (w.heap.size,[.int .i64 0,.int .i64 0,.int .i64 0,.int .i64 0]) (by simp)).sz
 obtain⟨R,hR⟩:∃R,R=w1.heap.size:=⟨_,rfl⟩
 go_region
 rw[←hR] at H2 hs2 hs3⊢
 obtain⟨W2,hW2⟩:∃W2,W2=(w1.alloc (Obj.cells #[Value.int IntKind.i64 p.x,Value.int IntKind.i64 p.y,Value.int IntKind.i64 0,Value.int IntKind.i64 0] 29)).drew:=⟨_,rfl⟩
 rw[←hW2] at H2
 rw[←hW2]
 clear hR hW2 q0 q1 hs1 H1
 go_wp2
 go_loopw [24] (fun i wr=>∃k:Nat,k≤n∧i=.int .i64 (k:Int)∧AzAt [(R,rcC (((p::l).take k).foldl cW_ ⟨p.x,p.y,0,0⟩)),(w.heap.size,[.int .i64 0,.int .i64 0,.int .i64 0,.int .i64 0])] w wr) (fun i _=>n-(intOf i).toNat)
 case atStart=>exact⟨0,Nat.zero_le _,rfl,H2.out⟩
 case round=>
  obtain⟨k,hk,rfl,hA⟩:=hrel
  by_cases hlt:k<n
  ·obtain⟨q,hq⟩:∃q,(p::l)[k]?=some q:=⟨(p::l)[k]'(by have:=HL.out;omega),List.getElem?_eq_getElem _⟩
   obtain⟨c0,c1⟩:=((HP.out.below hA.bw).row k q hq)
   obtain⟨r,hr⟩:∃r,r=((p::l).take k).foldl cW_ ⟨p.x,p.y,0,0⟩:=⟨_,rfl⟩
   rw[←hr] at hA
   have HE:=hid (show((p::l).take (k+1)).foldl cW_ ⟨p.x,p.y,0,0⟩=cW_ r q by rw[List.take_add_one,hq,hr,List.foldl_append];rfl)
   have hvr:vRc r=true:=by rw[hr];exact wU_ p l HA.out.1 HA.out.2 k
   have hvq:vP q=true:=by
    rcases List.mem_cons.1 (List.mem_of_getElem? hq) with rfl|h
    ·exact HA.out.1
    ·exact HA.out.2 q h
   have b1:=aV_.1 hvr
   have b2:=bL_.1 hvq
   have h_:=hA.row (R,rcC r) (by simp)
   have a0:=h_.row 0 _ rfl
   have a1:=h_.row 1 _ rfl
   have a2:=h_.row 2 _ rfl
   have a3:=h_.row 3 _ rfl
   have f0:=h_.fz 0 (by simp[rcC])
   have f1:=h_.fz 1 (by simp[rcC])
   have f2:=h_.fz 2 (by simp[rcC])
   have f3:=h_.fz 3 (by simp[rcC])
   clear h_
   have sR:=(hA.row (R,rcC r) (by simp)).sz
   have sB:B<wr.heap.size:=Nat.lt_of_lt_of_le hB hA.bw.size
   have HH:=hid hA
   have HR:=hid hr
   have HQ:=hid hq
   clear hA hr hq hvr hvq
   go_wp2
   go_region
   go_wp2
   refine⟨⟨k+1,by omega,by go_num,?_⟩,by simp only[intOf];omega⟩
   rw[HE.out]
   rw[show rcC (cW_ r q)=[.int .i64 (if q.x<r.x then q.x else r.x),.int .i64 (if q.y<r.y then q.y else r.y),.int .i64 ((if r.x+r.w<q.x then q.x else r.x+r.w)-if q.x<r.x then q.x else r.x),.int .i64 ((if r.y+r.h<q.y then q.y else r.y+r.h)-if q.y<r.y then q.y else r.y)] by
    unfold rcC cW_
    simp only[List.cons.injEq,Value.int.injEq,true_and,and_true]
    refine⟨?_,?_,?_,?_⟩ <;> (repeat' split) <;> omega]
   exact((((((HH.out.set hs2 (by simp <;> omega) (i:=0) rfl _).set hs2 (by simp <;> omega) (i:=1) rfl _).set hs2 (by simp <;> omega) (i:=2) rfl _).set hs2 (by simp <;> omega) (i:=3) rfl _).al _).drew)
  ·obtain rfl:k=n:=by omega
   have e:((p::l).take k).foldl cW_ ⟨p.x,p.y,0,0⟩=aA_ p l:=by
    rw[←HL.out,List.take_length,List.foldl_cons,kU_]
    rfl
   rw[e] at hA
   clear e
   rw[←HRF.out] at hA
   have h_:=hA.row (R,rcC rf) (by simp)
   have a0:=h_.row 0 _ rfl
   have a1:=h_.row 1 _ rfl
   have a2:=h_.row 2 _ rfl
   have a3:=h_.row 3 _ rfl
   clear h_
   have h_:=hA.row (w.heap.size,[.int .i64 0,.int .i64 0,.int .i64 0,.int .i64 0]) (by simp)
   have d0:=h_.row 0 _ rfl
   have d1:=h_.row 1 _ rfl
   have d2:=h_.row 2 _ rfl
   have d3:=h_.row 3 _ rfl
   have f0:=h_.fz 0 (by simp)
   have f1:=h_.fz 1 (by simp)
   have f2:=h_.fz 2 (by simp)
   have f3:=h_.fz 3 (by simp)
   clear h_
   have HH:=hid (AzAt.swap hA)
   clear hA
   go_wp2
   have hp:=(((HH.out.set (Nat.le_refl _) (by simp <;> omega) (i:=0) rfl (.int .i64 rf.x)).set (Nat.le_refl _) (by simp <;> omega) (i:=1) rfl (.int .i64 rf.y)).set (Nat.le_refl _) (by simp <;> omega) (i:=2) rfl (.int .i64 rf.w)).set (Nat.le_refl _) (by simp <;> omega) (i:=3) rfl (.int .i64 rf.h)
   generalize (((wr.setCell ⟨w.heap.size,0,none⟩ (.int .i64 rf.x)).setCell ⟨w.heap.size,1,none⟩ (.int .i64 rf.y)).setCell ⟨w.heap.size,2,none⟩ (.int .i64 rf.w)).setCell ⟨w.heap.size,3,none⟩ (.int .i64 rf.h)=WF at hp⊢
   have h_:=hp.row (w.heap.size,[.int .i64 rf.x,.int .i64 rf.y,.int .i64 rf.w,.int .i64 rf.h]) (by simp)
   have q0:=h_.row 0 _ rfl
   have q1:=h_.row 1 _ rfl
   have q2:=h_.row 2 _ rfl
   have q3:=h_.row 3 _ rfl
   clear h_
   refine bodyPost_ret (v:=.tuple #[.agg #[.int .i64 rf.x,.int .i64 rf.y,.int .i64 rf.w,.int .i64 rf.h],.int .i64 0]) ?_ rfl ⟨rfl,hp.bw⟩
   simp[results,Tryz.results21,go_sem,Result.andThen,q0,q1,q2,q3]
end Go.Proofs.YtlikmmpmnaaifaaGreatDoor
