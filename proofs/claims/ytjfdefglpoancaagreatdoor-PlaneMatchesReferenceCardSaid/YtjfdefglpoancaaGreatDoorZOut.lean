/- - -/
import Derived.Deep.RegionHeld3
import Derived.ScopeJumps
import Derived.WalkMore
import Derived.Test.YtjfdefglpoancaaGreatDoorZSig
import Derived.Test.YtjfdefglpoancaaGreatDoorZOver2
import Derived.Test.YtjfdefglpoancaaGreatDoorZBack
import Derived.Test.YtjfdefglpoancaaGreatDoorZNum
import Derived.Test.YtjfdefglpoancaaGreatDoorZShelf
import Derived.Test.YtjfdefglpoancaaGreatDoorZPl2
set_option maxHeartbeats 40000000
set_option maxRecDepth 1000000
open Go.Lib (hid)
namespace Go.Proofs.YtjfdefglpoancaaGreatDoor
open Go.RowKit Go.Shelf
attribute [local go_sem] Oper.semAt_some
def valZ (l:List UInt8):Int:=if l.head?=some 45 then -(valB l.tail:Int) else valB l
def aC_ (s:ByteArray):Option Int:=if aH_ s.data.toList=true then some (valZ s.data.toList) else none
def small (z:Int):Bool:=decide (nDig z.natAbs≤200)
theorem yS_ (z:Int):valZ (txt z)=z:=by
 have h:=lH_ z
 unfold valZ
 unfold bZ_ at h
 by_cases hh:(txt z).head?=some 45
 ·rw[if_pos hh] at h⊢
  rw[h,eS_]
  unfold txt at hh
  by_cases hz:z<0
  ·omega
  ·rw[if_neg hz] at hh
   have:=cN_ z.natAbs 45 (List.mem_of_head? hh)
   exact absurd this (by decide)
 ·rw[if_neg hh] at h⊢
  rw[h,eS_]
  unfold txt at hh
  by_cases hz:z<0
  ·rw[if_pos hz] at hh;simp at hh
  ·omega
theorem bA_ (z:Int):aC_ (str z)=if small z=true then some z else none:=by
 unfold aC_ small
 rw[cV_,fW_,yS_]
theorem bH_ {s:ByteArray} {z:Int} (h:aC_ s=some z):s=str z∧small z=true:=by
 unfold aC_ at h
 split at h
 case isTrue hv=>
  obtain⟨y,hy,hd⟩:=aDK hv
  rw[hy,yS_] at h
  cases h
  refine⟨?_,by simpa[small] using hd⟩
  apply ByteArray.ext
  apply Array.toList_inj.1
  rw[hy,cV_]
 case isFalse=>cases h
theorem bI_ (s:ByteArray):(aC_ s).isSome=aH_ s.data.toList:=by
 unfold aC_
 cases aH_ s.data.toList <;> rfl
theorem dT_ {z:Int} (h:small z=true):(dig 10000 z.natAbs).length≤50:=by
 rw[aD_ (by omega)]
 have:=(jZ_ (n:=z.natAbs) (k:=200) (by omega)).1 (by simpa[small] using h)
 rw[show(10000:Nat)=10^4 from rfl,←Nat.pow_mul]
 exact this
def outZ (z:Int):Array Value:=if small z=true then #[.string (str z),.int .i64 0] else #[.string ⟨#[]⟩,.int .i64 30]
theorem kJ_ (v:Value) (z:Int) (lo hi:Nat) (w:World) (hG:Glob w) (h:Zg w v z lo hi) (b:hi≤w.heap.size) (hf:Few z.natAbs) :
  Calls Tryz.prog 147 #[v] w fun e w'=>(∃s n,outZ z=#[.string s,.int .i64 n]∧e=.returned (.tuple #[.string s,.int .i64 n]))∧Below w.heap.size w w':=by
 obtain⟨neg,n,a,c,rfl,hn,rfl⟩:=h.form
 have e1:(if neg=true then -(n:Int) else n).natAbs=n:=by split <;> omega
 rw[e1] at hf
 rcases Nat.eq_zero_or_pos n with h0|h0
 ·subst h0
  refine(aDW neg a c w).mono ?_
  rintro e w' ⟨rfl,hb⟩
  refine⟨⟨⟨#[48]⟩,0,?_,rfl⟩,hb⟩
  have:(if neg=true then -((0:Nat):Int) else (0:Nat))=0:=by split <;> simp
  rw[this]
  have:small 0=true:=by decide
  unfold outZ
  rw[if_pos this]
  rfl
 ·refine(aIY neg a c n lo hi w hG hn b hf h0).mono ?_
  rintro e w' ⟨rfl,hb⟩
  refine⟨?_,hb⟩
  unfold outZ small
  rw[e1]
  by_cases hd:nDig n≤200
  ·rw[if_pos hd,if_pos (by simpa using hd)]
   refine⟨_,_,rfl,?_⟩
   have:str (if neg=true then -(n:Int) else n)=⟨((if neg then [45] else [])++txtN n).toArray⟩:=by
    unfold str txt
    rw[e1]
    cases neg
    ·simp
    ·simp;omega
   rw[this]
  ·rw[if_neg hd,if_neg (by simpa using hd)]
   exact⟨_,_,rfl,rfl⟩
theorem Zg.neg {w:World} {n:Bool} {s:Value} {y:Int} {lo hi:Nat} (h:Zg w (.agg #[.bool n,s]) y lo hi):Zg w (.agg #[.bool !n,s]) (-y) lo hi:=by
 obtain⟨neg,k,s',e,h1,h2⟩:=h
 simp only[Value.agg.injEq,Array.mk.injEq,List.cons.injEq,Value.bool.injEq,and_true] at e
 obtain⟨rfl,rfl⟩:=e
 refine⟨!n,k,s,rfl,h1,?_⟩
 cases n <;> simp at h2⊢<;> omega
theorem Zg.of {w:World} {neg:Bool} {n:Nat} {s:Value} {z:Int} {lo hi:Nat} (h:Nm w s n lo hi) (hz:z=if neg=true then -(n:Int) else n):Zg w (.agg #[.bool neg,s]) z lo hi:=⟨neg,n,s,rfl,h,hz⟩
theorem aJZ {x y:Int} {n1 n2:Bool} {m1 m2:Nat} (h1:x=if n1=true then -(m1:Int) else m1) (h2:y=if n2=true then -(m2:Int) else m2):x*y=if (n1 != n2)=true then -((m1*m2:Nat):Int) else ((m1*m2:Nat):Int):=by
 subst h1 h2
 cases n1 <;> cases n2 <;> simp[Int.neg_mul,Int.mul_neg]
structure PairAt (N:Nat) (n1:Bool) (s1:Value) (n2:Bool) (s2:Value) (W:World):Prop where
 x0:W.cell? ⟨N,0,none⟩=some (.bool n1)
 x1:W.cell? ⟨N,1,none⟩=some s1
 y0:W.cell? ⟨N+1,0,none⟩=some (.bool n2)
 y1:W.cell? ⟨N+1,1,none⟩=some s2
 sz:N+2≤W.heap.size
theorem PairAt.start (w:World) (n1 n2:Bool) (s1 s2:Value):PairAt w.heap.size n1 s1 n2 s2 ((w.alloc (.cells #[.bool n1,s1] 151)).alloc (.cells #[.bool n2,s2] 151)):=by
 refine⟨?_,?_,?_,?_,by simp⟩ <;> simp[go_sem]
theorem PairAt.below {N:Nat} {n1 n2:Bool} {s1 s2:Value} {W W':World} (h:PairAt N n1 s1 n2 s2 W) (hb:Below W.heap.size W W'):PairAt N n1 s1 n2 s2 W':=by
 have hs:=h.sz
 obtain⟨c,_⟩:=pW_ hb
 exact⟨(c _ _ (by omega)).trans h.x0,(c _ _ (by omega)).trans h.x1,(c _ _ (by omega)).trans h.y0,(c _ _ (by omega)).trans h.y1,Nat.le_trans hs hb.size⟩
theorem PairAt.drew {N:Nat} {n1 n2:Bool} {s1 s2:Value} {W:World} (h:PairAt N n1 s1 n2 s2 W):PairAt N n1 s1 n2 s2 W.drew:=⟨h.x0,h.x1,h.y0,h.y1,h.sz⟩
theorem B2d (w:World) (o1 o2:Obj):Below w.heap.size w ((w.alloc o1).alloc o2).drew:=(((Below.refl _ _).alloc (Nat.le_refl _) _).alloc (by simp) _).drew
theorem B2 (w:World) (o1 o2:Obj):Below w.heap.size w ((w.alloc o1).alloc o2):=((Below.refl _ _).alloc (Nat.le_refl _) _).alloc (by simp) _
theorem aGO {n k:Nat} (h:n<10000^k) (hk:k≤1000000):Few n:=by
 have:=(aD_ (B:=10000) (by omega) n k).2 h
 unfold Few
 omega
theorem gJ_ {z:Int} (h:small z=true):z.natAbs<10000^50:=(aD_ (by omega) _ _).1 (dT_ h)
theorem lJ_ {z:Int} (h:small z=true):Few z.natAbs:=aGO (gJ_ h) (by omega)
theorem add_F {x y:Int} (hx:small x=true) (hy:small y=true):Few (x+y).natAbs:=by
 have h1:=gJ_ hx
 have h2:=gJ_ hy
 refine aGO (k:=51) ?_ (by omega)
 rw[Nat.pow_succ]
 omega
theorem mul_F {x y:Int} (hx:small x=true) (hy:small y=true):Few (x*y).natAbs:=by
 have h1:=gJ_ hx
 have h2:=gJ_ hy
 refine aGO (k:=50+50) ?_ (by omega)
 rw[Nat.pow_add,Int.natAbs_mul]
 exact Nat.mul_lt_mul'' h1 h2
theorem cZ_ {y:Int} (h:small y=true):small (-y)=true:=by unfold small at h⊢;rw[Int.natAbs_neg];exact h
theorem Add_ok (x y:Int) (w:World) (hG:Glob w) (hx:small x=true) (hy:small y=true) :
  Calls Tryz.prog 121 #[.string (str x),.string (str y)] w fun e w'=>(∃s n,outZ (x+y)=#[.string s,.int .i64 n]∧e=.returned (.tuple #[.string s,.int .i64 n]))∧Below w.heap.size w w':=by
 have hB:=fun W=>gZ_ x y W (by simpa[small] using hx) (by simpa[small] using hy)
 generalize str x=sx at hB⊢
 generalize str y=sy at hB⊢
 go_enter Tryz.func121,Tryz.ntmps121
 go_wp2_with (first
  | (go_at_call 145;with_reducible refine(hB _).mono ?_;rintro e w1 ⟨⟨va,vb,rfl,ha,hb⟩,hb1⟩;obtain⟨n1,m1,a1,c1,rfl,hna,hza⟩:=ha.form;obtain⟨n2,m2,a2,c2,rfl,hnb,hzb⟩:=hb.form;have HA:=hid ha.zg;have HB:=hid hb.zg;have HNA:=hid hna;have HNB:=hid hnb;have HZA:=hid (hI_ hza);have HZB:=hid (hI_ hzb);have HSA:=hid hza;have HSB:=hid hzb;have HG1:=hid (hG.below hb1);clear ha hb hna hnb hza hzb)
  | (go_at_call 146;refine(oE_ _ _ x y _ _ _ _ _ (by exact HA.out.below (B2 w1 _ _) (Nat.le_refl _)) (by exact HB.out.below (B2 w1 _ _) (Nat.le_refl _)) (by exact(B2 w1 _ _).size) (by exact(B2 w1 _ _).size) (by exact lJ_ hx) (by exact lJ_ hy)).mono ?_;rintro e w2 ⟨⟨v,rfl,hv⟩,hb2⟩;have HV:=hid hv;clear hv;have hbw:Below w1.heap.size w1 w2:=(B2 w1 _ _).trans (hb2.mono (B2 w1 _ _).size);have HG2:=hid (HG1.out.below hbw))
  | (go_at_call 147;refine(kJ_ _ (x+y) _ _ _ (by exact HG2.out) (by exact HV.out) (Nat.le_refl _) (by exact add_F hx hy)).mono ?_;rintro e w3 ⟨⟨s,n,hs,rfl⟩,hb3⟩))
 refine bodyPost_ret (v:=.tuple #[.string s,.int .i64 n]) ?_ rfl ⟨⟨s,n,hs,rfl⟩,(hb1.trans (hbw.mono hb1.size)).trans (hb3.mono (Nat.le_trans hb1.size hbw.size))⟩
 simp[results,Tryz.results121,go_sem]
theorem Sub_ok (x y:Int) (w:World) (hG:Glob w) (hx:small x=true) (hy:small y=true) :
  Calls Tryz.prog 114 #[.string (str x),.string (str y)] w fun e w'=>(∃s n,outZ (x-y)=#[.string s,.int .i64 n]∧e=.returned (.tuple #[.string s,.int .i64 n]))∧Below w.heap.size w w':=by
 rw[Int.sub_eq_add_neg]
 have hB:=fun W=>gZ_ x y W (by simpa[small] using hx) (by simpa[small] using hy)
 generalize str x=sx at hB⊢
 generalize str y=sy at hB⊢
 go_enter Tryz.func114,Tryz.ntmps114
 go_wp2_with (first
  | (go_at_call 145;with_reducible refine(hB _).mono ?_;rintro e w1 ⟨⟨va,vb,rfl,ha,hb⟩,hb1⟩;obtain⟨n1,m1,a1,c1,rfl,hna,hza⟩:=ha.form;obtain⟨n2,m2,a2,c2,rfl,hnb,hzb⟩:=hb.form;have HA:=hid ha.zg;have HB:=hid hb.zg;have HNA:=hid hna;have HNB:=hid hnb;have HZA:=hid (hI_ hza);have HZB:=hid (hI_ hzb);have HSA:=hid hza;have HSB:=hid hzb;have HG1:=hid (hG.below hb1);clear ha hb hna hnb hza hzb)
  | (go_at_call 146;refine(oE_ _ _ x (-y) _ _ _ _ _ (by exact HA.out.below (B2 w1 _ _) (Nat.le_refl _)) (by exact HB.out.neg.below (B2 w1 _ _) (Nat.le_refl _)) (by exact(B2 w1 _ _).size) (by exact(B2 w1 _ _).size) (by exact lJ_ hx) (by exact lJ_ (cZ_ hy))).mono ?_;rintro e w2 ⟨⟨v,rfl,hv⟩,hb2⟩;have HV:=hid hv;clear hv;have hbw:Below w1.heap.size w1 w2:=(B2 w1 _ _).trans (hb2.mono (B2 w1 _ _).size);have HG2:=hid (HG1.out.below hbw))
  | (go_at_call 147;refine(kJ_ _ (x + -y) _ _ _ (by exact HG2.out) (by exact HV.out) (Nat.le_refl _) (by exact add_F hx (cZ_ hy))).mono ?_;rintro e w3 ⟨⟨s,n,hs,rfl⟩,hb3⟩))
 refine bodyPost_ret (v:=.tuple #[.string s,.int .i64 n]) ?_ rfl ⟨⟨s,n,hs,rfl⟩,(hb1.trans (hbw.mono hb1.size)).trans (hb3.mono (Nat.le_trans hb1.size hbw.size))⟩
 simp[results,Tryz.results114,go_sem]
theorem Mul_ok (x y:Int) (w:World) (hG:Glob w) (hx:small x=true) (hy:small y=true) :
  Calls Tryz.prog 171 #[.string (str x),.string (str y)] w fun e w'=>(∃s n,outZ (x*y)=#[.string s,.int .i64 n]∧e=.returned (.tuple #[.string s,.int .i64 n]))∧Below w.heap.size w w':=by
 have hB:=fun W=>gZ_ x y W (by simpa[small] using hx) (by simpa[small] using hy)
 generalize str x=sx at hB⊢
 generalize str y=sy at hB⊢
 go_enter Tryz.func171,Tryz.ntmps171
 go_wp2_with (first
  | (go_at_call 145;with_reducible refine(hB _).mono ?_;rintro e w1 ⟨⟨va,vb,rfl,ha,hb⟩,hb1⟩;obtain⟨n1,m1,a1,c1,rfl,hna,hza⟩:=ha.form;obtain⟨n2,m2,a2,c2,rfl,hnb,hzb⟩:=hb.form;have HA:=hid ha.zg;have HB:=hid hb.zg;have HNA:=hid hna;have HNB:=hid hnb;have HZA:=hid (hI_ hza);have HZB:=hid (hI_ hzb);have HSA:=hid hza;have HSB:=hid hzb;have HG1:=hid (hG.below hb1);clear ha hb hna hnb hza hzb)
  | fail)
 have HF:Hid ((dig 10000 m1).length+(dig 10000 m2).length≤1000000):=by
  have e1:=dT_ hx
  have e2:=dT_ hy
  have e3:=HZA.out
  have e4:=HZB.out
  have e5:x.natAbs=m1:=by rw[e3];split <;> omega
  have e6:y.natAbs=m2:=by rw[e4];split <;> omega
  rw[e5] at e1
  rw[e6] at e2
  show _≤_
  omega
 have HP:=hid (PairAt.start w1 n1 n2 (.slice a1 (dig 10000 m1).length c1) (.slice a2 (dig 10000 m2).length c2)).drew
 have hxf:=lJ_ hx
 go_region_held3 (fun W=>W.cell? ⟨w1.heap.size,0,none⟩=some (.bool n1)∧W.cell? ⟨w1.heap.size,1,none⟩=some (.slice a1 (dig 10000 m1).length c1)∧W.cell? ⟨w1.heap.size+1,0,none⟩=some (.bool n2)∧W.cell? ⟨w1.heap.size+1,1,none⟩=some (.slice a2 (dig 10000 m2).length c2)) (first|exact⟨HP3.out.x0,HP3.out.x1,HP3.out.y0,HP3.out.y1⟩|exact⟨HP2.out.x0,HP2.out.x1,HP2.out.y0,HP2.out.y1⟩|exact⟨HP.out.x0,HP.out.x1,HP.out.y0,HP.out.y1⟩) (first
  | (go_at_call 192;refine(aDV _ _ m1 m2 _ _ _ _ _ (by exact HNA.out.below (B2d w1 _ _) (Nat.le_refl _)) (by exact HNB.out.below (B2d w1 _ _) (Nat.le_refl _)) (by exact(B2d w1 _ _).size) (by exact(B2d w1 _ _).size) (by exact HF.out)).mono ?_;rintro e w2 ⟨⟨v,rfl,hv⟩,hb2⟩;obtain⟨a3,c3,rfl⟩:∃a cap,v=.slice a (dig 10000 (m1*m2)).length cap:=(by obtain⟨a,cap,e,_⟩:=hv;exact⟨a,cap,e⟩);have HV:=hid (Zg.of hv (aJZ HZA.out HZB.out));clear hv;have hbw:Below w1.heap.size w1 w2:=(B2d w1 _ _).trans (hb2.mono (B2d w1 _ _).size);have HG2:=hid (HG1.out.below hbw);have HP2:=hid (HP.out.below hb2))
  | (go_at_call 147;refine(kJ_ _ (x*y) _ _ _ (by exact HG2.out) (by exact HV.out) (Nat.le_refl _) (by exact mul_F hx hy)).mono ?_;rintro e w3 ⟨⟨s,n,hs,rfl⟩,hb3⟩;have HP3:=hid (HP2.out.below hb3)))
 all_goals go_wp2
 all_goals
  refine bodyPost_ret (v:=.tuple #[.string s,.int .i64 n]) ?_ rfl ⟨⟨s,n,hs,rfl⟩,(hb1.trans (hbw.mono hb1.size)).trans (hb3.mono (Nat.le_trans hb1.size hbw.size))⟩
  simp[results,Tryz.results171,go_sem]
theorem nT_ {x y:Int} {n1 n2 b1 b2:Bool} {m1 m2:Nat} (h1:n1=decide (x<0)∧m1=x.natAbs) (h2:n2=decide (y<0)∧m2=y.natAbs) (k1:n1=b1) (k2:n2=b2) :
  (if b1=true then (if b2=true then cmpI m2 m1 else -1) else if b2=true then 1 else cmpI m1 m2)=cmpI x y:=by
 obtain⟨h1,rfl⟩:=h1
 obtain⟨h2,rfl⟩:=h2
 subst k1 k2
 unfold cmpI
 by_cases e1:x<0 <;> by_cases e2:y<0
 ·have f1:n1=true:=by rw[h1];exact decide_eq_true e1
  have f2:n2=true:=by rw[h2];exact decide_eq_true e2
  rw[if_pos f1,if_pos f2]
  rcases Int.lt_trichotomy x y with h|h|h
  ·rw[if_pos h,if_pos (by omega)]
  ·rw[if_neg (by omega),if_neg (by omega),if_neg (by omega),if_neg (by omega)]
  ·rw[if_neg (by omega),if_pos (by omega),if_neg (by omega),if_pos (by omega)]
 ·have f1:n1=true:=by rw[h1];exact decide_eq_true e1
  have f2:n2=false:=by rw[h2];exact decide_eq_false e2
  rw[if_pos f1,if_neg (by rw[f2];simp),if_pos (by omega)]
 ·have f1:n1=false:=by rw[h1];exact decide_eq_false e1
  have f2:n2=true:=by rw[h2];exact decide_eq_true e2
  rw[if_neg (by rw[f1];simp),if_pos f2,if_neg (by omega),if_pos (by omega)]
 ·have f1:n1=false:=by rw[h1];exact decide_eq_false e1
  have f2:n2=false:=by rw[h2];exact decide_eq_false e2
  rw[if_neg (by rw[f1];simp),if_neg (by rw[f2];simp)]
  rcases Int.lt_trichotomy x y with h|h|h
  ·rw[if_pos h,if_pos (by omega)]
  ·rw[if_neg (by omega),if_neg (by omega),if_neg (by omega),if_neg (by omega)]
  ·rw[if_neg (by omega),if_pos (by omega),if_neg (by omega),if_pos (by omega)]
theorem Add_no (a b:ByteArray) (w:World) (ha:a.size≤9223372036854775807) (hb:b.size≤9223372036854775807) (hn:(aH_ a.data.toList&&aH_ b.data.toList)=false) :
  Calls Tryz.prog 121 #[.string a,.string b] w fun e w'=>e=.returned (.tuple #[.string ⟨#[]⟩,.int .i64 30])∧Below w.heap.size w w':=by
 have hB:=fun W=>lY_ a b W ha hb hn
 go_enter Tryz.func121,Tryz.ntmps121
 go_wp2_with (go_at_call 145;with_reducible refine(hB _).mono ?_;rintro e w1 ⟨rfl,hb1⟩)
 refine bodyPost_ret (v:=.tuple #[.string ⟨#[]⟩,.int .i64 30]) ?_ rfl ⟨rfl,hb1.trans ((B2 w1 _ _).mono hb1.size)⟩
 simp[results,Tryz.results121,go_sem]
theorem Sub_no (a b:ByteArray) (w:World) (ha:a.size≤9223372036854775807) (hb:b.size≤9223372036854775807) (hn:(aH_ a.data.toList&&aH_ b.data.toList)=false) :
  Calls Tryz.prog 114 #[.string a,.string b] w fun e w'=>e=.returned (.tuple #[.string ⟨#[]⟩,.int .i64 30])∧Below w.heap.size w w':=by
 have hB:=fun W=>lY_ a b W ha hb hn
 go_enter Tryz.func114,Tryz.ntmps114
 go_wp2_with (go_at_call 145;with_reducible refine(hB _).mono ?_;rintro e w1 ⟨rfl,hb1⟩)
 refine bodyPost_ret (v:=.tuple #[.string ⟨#[]⟩,.int .i64 30]) ?_ rfl ⟨rfl,hb1.trans ((B2 w1 _ _).mono hb1.size)⟩
 simp[results,Tryz.results114,go_sem]
theorem Mul_no (a b:ByteArray) (w:World) (ha:a.size≤9223372036854775807) (hb:b.size≤9223372036854775807) (hn:(aH_ a.data.toList&&aH_ b.data.toList)=false) :
  Calls Tryz.prog 171 #[.string a,.string b] w fun e w'=>e=.returned (.tuple #[.string ⟨#[]⟩,.int .i64 30])∧Below w.heap.size w w':=by
 have hB:=fun W=>lY_ a b W ha hb hn
 go_enter Tryz.func171,Tryz.ntmps171
 go_wp2_with (go_at_call 145;with_reducible refine(hB _).mono ?_;rintro e w1 ⟨rfl,hb1⟩)
 refine bodyPost_ret (v:=.tuple #[.string ⟨#[]⟩,.int .i64 30]) ?_ rfl ⟨rfl,hb1.trans ((B2 w1 _ _).mono hb1.size)⟩
 simp[results,Tryz.results171,go_sem]
theorem Gcd_no (a b:ByteArray) (w:World) (ha:a.size≤9223372036854775807) (hb:b.size≤9223372036854775807) (hn:(aH_ a.data.toList&&aH_ b.data.toList)=false) :
  Calls Tryz.prog 156 #[.string a,.string b] w fun e w'=>e=.returned (.tuple #[.string ⟨#[]⟩,.int .i64 30])∧Below w.heap.size w w':=by
 have hB:=fun W=>lY_ a b W ha hb hn
 go_enter Tryz.func156,Tryz.ntmps156
 go_wp2_with (go_at_call 145;with_reducible refine(hB _).mono ?_;rintro e w1 ⟨rfl,hb1⟩)
 refine bodyPost_ret (v:=.tuple #[.string ⟨#[]⟩,.int .i64 30]) ?_ rfl ⟨rfl,hb1.trans ((B2 w1 _ _).mono hb1.size)⟩
 simp[results,Tryz.results156,go_sem]
theorem Div_no (a b:ByteArray) (w:World) (ha:a.size≤9223372036854775807) (hb:b.size≤9223372036854775807) (hn:(aH_ a.data.toList&&aH_ b.data.toList)=false) :
  Calls Tryz.prog 119 #[.string a,.string b] w fun e w'=>e=.returned (.tuple #[.string ⟨#[]⟩,.string ⟨#[]⟩,.int .i64 30])∧Below w.heap.size w w':=by
 have hB:=fun W=>lY_ a b W ha hb hn
 go_enter Tryz.func119,Tryz.ntmps119
 go_wp2_with (go_at_call 145;with_reducible refine(hB _).mono ?_;rintro e w1 ⟨rfl,hb1⟩)
 refine bodyPost_ret (v:=.tuple #[.string ⟨#[]⟩,.string ⟨#[]⟩,.int .i64 30]) ?_ rfl ⟨rfl,hb1.trans ((B2 w1 _ _).mono hb1.size)⟩
 simp[results,Tryz.results119,go_sem]
theorem aDG (a b:ByteArray) (w:World) (ha:a.size≤9223372036854775807) (hb:b.size≤9223372036854775807) (hn:(aH_ a.data.toList&&aH_ b.data.toList)=false) :
  Calls Tryz.prog 120 #[.string a,.string b] w fun e w'=>e=.returned (.int .i64 0)∧Below w.heap.size w w':=by
 have hB:=fun W=>lY_ a b W ha hb hn
 go_enter Tryz.func120,Tryz.ntmps120
 go_wp2_with (go_at_call 145;with_reducible refine(hB _).mono ?_;rintro e w1 ⟨rfl,hb1⟩)
 refine bodyPost_ret (v:=.int .i64 0) ?_ rfl ⟨rfl,hb1.trans ((B2 w1 _ _).mono hb1.size)⟩
 simp[results,Tryz.results120,go_sem]
theorem aDF (x y:Int) (w:World) (hx:small x=true) (hy:small y=true) :
  Calls Tryz.prog 120 #[.string (str x),.string (str y)] w fun e w'=>e=.returned (.int .i64 (cmpI x y))∧Below w.heap.size w w':=by
 have hB:=fun W=>gZ_ x y W (by simpa[small] using hx) (by simpa[small] using hy)
 generalize str x=sx at hB⊢
 generalize str y=sy at hB⊢
 go_enter Tryz.func120,Tryz.ntmps120
 go_wp2_with (first
  | (go_at_call 145;with_reducible refine(hB _).mono ?_;rintro e w1 ⟨⟨va,vb,rfl,ha,hb⟩,hb1⟩;obtain⟨n1,m1,a1,c1,rfl,hna,hza⟩:=ha.form;obtain⟨n2,m2,a2,c2,rfl,hnb,hzb⟩:=hb.form;have HA:=hid ha.zg;have HB:=hid hb.zg;have HNA:=hid hna;have HNB:=hid hnb;have HZA:=hid (hI_ hza);have HZB:=hid (hI_ hzb);have HSA:=hid hza;have HSB:=hid hzb;clear ha hb hna hnb hza hzb)
  | (go_at_call 161;refine(gW_ _ _ m1 m2 _ _ _ _ _ (by exact HNA.out.below (B2 w1 _ _) (Nat.le_refl _)) (by exact HNB.out.below (B2 w1 _ _) (Nat.le_refl _)) (by exact(B2 w1 _ _).size) (by exact(B2 w1 _ _).size)).mono ?_;rintro e w2 ⟨rfl,hb2⟩)
  | (go_at_call 161;refine(gW_ _ _ m2 m1 _ _ _ _ _ (by exact HNB.out.below (B2 w1 _ _) (Nat.le_refl _)) (by exact HNA.out.below (B2 w1 _ _) (Nat.le_refl _)) (by exact(B2 w1 _ _).size) (by exact(B2 w1 _ _).size)).mono ?_;rintro e w2 ⟨rfl,hb2⟩))
 all_goals
  have hc:=nT_ (b1:=true) (b2:=true) HSA.out HSB.out
  have hc2:=nT_ (b1:=true) (b2:=false) HSA.out HSB.out
  have hc3:=nT_ (b1:=false) (b2:=true) HSA.out HSB.out
  have hc4:=nT_ (b1:=false) (b2:=false) HSA.out HSB.out
 ·refine bodyPost_ret (v:=.int .i64 (cmpI m2 m1)) (by simp[results,Tryz.results120,go_sem]) rfl ⟨bT_ (by simpa using hc (by first|assumption|(cases n1 <;> simp_all;done)) (by assumption)),hb1.trans (((B2 w1 _ _).trans (hb2.mono (B2 w1 _ _).size)).mono hb1.size)⟩
 ·refine bodyPost_ret (v:=.int .i64 (-1)) (by simp[results,Tryz.results120,go_sem]) rfl ⟨bT_ (by simpa using hc2 (by first|assumption|(cases n1 <;> simp_all;done)) (by assumption)),hb1.trans ((B2 w1 _ _).mono hb1.size)⟩
 ·refine bodyPost_ret (v:=.int .i64 1) (by simp[results,Tryz.results120,go_sem]) rfl ⟨bT_ (by simpa using hc3 (by first|assumption|(cases n1 <;> simp_all;done)) (by assumption)),hb1.trans ((B2 w1 _ _).mono hb1.size)⟩
 ·refine bodyPost_ret (v:=.int .i64 (cmpI m1 m2)) (by simp[results,Tryz.results120,go_sem]) rfl ⟨bT_ (by simpa using hc4 (by first|assumption|(cases n1 <;> simp_all;done)) (by assumption)),hb1.trans (((B2 w1 _ _).trans (hb2.mono (B2 w1 _ _).size)).mono hb1.size)⟩
theorem aIN (s:ByteArray) (w:World) (hs:s.size≤9223372036854775807) :
  Calls Tryz.prog 133 #[.string s] w fun e w'=>e=.returned (.bool (aC_ s).isSome)∧Below w.heap.size w w':=by
 rw[bI_]
 have hV:=fun W=>eY_ s W hs
 go_enter Tryz.func133,Tryz.ntmps133
 go_wp2_with (go_at_call 167;with_reducible refine(hV _).mono ?_;rintro e w1 ⟨rfl,hb1⟩)
 go_ret
 exact⟨rfl,hb1⟩
theorem yO_ (z:Int) (w:World) (hG:Glob w) (h0 : -9223372036854775808≤z) (h1:z≤9223372036854775807) :
  Calls Tryz.prog 99 #[.int .i64 z] w fun e w'=>e=.returned (.string (str z))∧Below w.heap.size w w':=by
 have hI:=fun W hG=>aBC z W hG h0 h1
 generalize str z=s at hI⊢
 go_enter Tryz.func99,Tryz.ntmps99
 go_wp2_with (go_at_call 135;with_reducible refine(hI _ hG).mono ?_;rintro e w1 ⟨rfl,hb1⟩)
 go_ret
 exact⟨rfl,hb1⟩
theorem ns_inj {w:World} {v:Value} {xs ys:List Nat} {lo hi lo' hi':Nat} (h:Ns w v xs lo hi) (k:Ns w v ys lo' hi'):xs=ys:=by
 obtain⟨a,cap,rfl,_⟩:=id h
 have hl:xs.length=ys.length:=by
  obtain⟨a',cap',e,_⟩:=id k
  simp only[Value.slice.injEq] at e
  omega
 apply List.ext_getElem hl
 intro i h1 h2
 obtain⟨b,off,rfl,_,_,e1⟩:=h.at (k:=i) h1
 obtain⟨b',off',e,_,_,e2⟩:=k.at (k:=i) h2
 simp only[Option.some.injEq,Addr.mk.injEq,and_true] at e
 obtain⟨rfl,rfl⟩:=e
 rw[e1] at e2
 simp only[Option.some.injEq,Value.int.injEq,true_and] at e2
 omega
theorem aBS:∃μ:World→Value→Nat,∀w v n lo hi,Nm w v n lo hi→μ w v=n:=by
 refine⟨fun w v=>Classical.epsilon (fun n=>∃lo hi,Nm w v n lo hi),?_⟩
 intro w v n lo hi h
 obtain⟨lo',hi',h'⟩:=Classical.epsilon_spec (p:=fun n=>∃lo hi,Nm w v n lo hi) ⟨n,lo,hi,h⟩
 exact tR_ (B:=10000) (by omega) (ns_inj h' h)
theorem oU_ {w:World} {v:Value} {n lo hi:Nat} (_h:Nm w v n lo hi):(dig 10000 n).length=0↔n=0:=by
 rw[List.length_eq_zero_iff,lQ_ (by omega)]
theorem Gcd_ok (x y:Int) (w:World) (hG:Glob w) (hx:small x=true) (hy:small y=true) :
  Calls Tryz.prog 156 #[.string (str x),.string (str y)] w fun e w'=>(∃s n,outZ ((Nat.gcd x.natAbs y.natAbs:Nat):Int)=#[.string s,.int .i64 n]∧e=.returned (.tuple #[.string s,.int .i64 n]))∧Below w.heap.size w w':=by
 have hB:=fun W=>gZ_ x y W (by simpa[small] using hx) (by simpa[small] using hy)
 obtain⟨μ,hμ⟩:=aBS
 have hMU:=hid hμ
 have hX:=gJ_ hx
 have hY:=gJ_ hy
 clear hμ
 generalize str x=sx at hB⊢
 generalize str y=sy at hB⊢
 go_enter Tryz.func156,Tryz.ntmps156
 go_wp2_with (go_at_call 145;with_reducible refine(hB _).mono ?_;rintro e w1 ⟨⟨va,vb,rfl,ha,hb⟩,hb1⟩;obtain⟨n1,m1,a1,c1,rfl,hna,hza⟩:=ha.form;obtain⟨n2,m2,a2,c2,rfl,hnb,hzb⟩:=hb.form;have HA:=hid ha.zg;have HB:=hid hb.zg;have HNA:=hid hna;have HNB:=hid hnb;have HZA:=hid (hI_ hza);have HZB:=hid (hI_ hzb);have HSA:=hid hza;have HSB:=hid hzb;have HG1:=hid (hG.below hb1);clear ha hb hna hnb hza hzb)
 have HP:=hid (PairAt.start w1 n1 n2 (.slice a1 (dig 10000 m1).length c1) (.slice a2 (dig 10000 m2).length c2)).drew
 go_region_held3 (fun W=>W.cell? ⟨w1.heap.size,1,none⟩=some (.slice a1 (dig 10000 m1).length c1)∧W.cell? ⟨w1.heap.size+1,1,none⟩=some (.slice a2 (dig 10000 m2).length c2)) (first|exact⟨HP.out.x1,HP.out.y1⟩) (first|fail)
 go_wp2
 obtain⟨W0,hW0⟩:∃W0,((w1.alloc (Obj.cells #[Value.bool n1,Value.slice a1 (dig 10000 m1).length c1] 151)).alloc (Obj.cells #[Value.bool n2,Value.slice a2 (dig 10000 m2).length c2] 151)).drew=W0:=⟨_,rfl⟩
 have hbW:Below w1.heap.size w1 W0:=by rw[←hW0];exact B2d w1 _ _
 have hw1:=hb1.size
 rw[hW0]
 clear hW0
 go_loopw [9,10,11,12] (fun k l _ _ wr=>∃(K L:Nat) (ka la:Option Addr) (kc lc:Nat),k=.slice ka (dig 10000 K).length kc∧l=.slice la (dig 10000 L).length lc∧Nm wr k K w.heap.size wr.heap.size∧Nm wr l L w.heap.size wr.heap.size∧K<10000^50∧L<10000^50∧Nat.gcd K L=Nat.gcd x.natAbs y.natAbs∧Below w.heap.size w wr)
  (fun _ l _ _ wr=>μ wr l)
 case atStart=>
  refine⟨m1,m2,a1,a2,c1,c2,rfl,rfl,(HNA.out.below hbW (Nat.le_refl _)).mono (Nat.le_refl _) hbW.size,(HNB.out.below hbW (Nat.le_refl _)).mono (Nat.le_refl _) hbW.size,?_,?_,?_,hb1.trans (hbW.mono hw1)⟩
  ·rw[HSA.out.2];exact hX
  ·rw[HSB.out.2];exact hY
  ·rw[HSA.out.2,HSB.out.2]
 case round=>
  obtain⟨K,L,ka,la,kc,lc,rfl,rfl,hk,hl,hK,hL,hgcd,hb⟩:=hrel
  have hfK:(dig 10000 K).length≤50:=(aD_ (by omega) _ _).2 hK
  have hfL:(dig 10000 L).length≤50:=(aD_ (by omega) _ _).2 hL
  have hpos:=oU_ hl
  have HK:=hid hk
  have HL:=hid hl
  have HGC:=hid hgcd
  have HKb:=hid hK
  have HLb:=hid hL
  have HGw:=hid (hG.below hb)
  have hwr:=hb.size
  clear hk hl hgcd hK hL
  rcases Nat.eq_zero_or_pos L with h0|h0
  ·have hz:=hpos.2 h0
   clear hpos
   rw[hz]
   go_wp2_with (go_at_call 147;refine(kJ_ _ (K:Int) _ _ _ (by exact HGw.out) (by exact Zg.of (neg:=false) HK.out rfl) (Nat.le_refl _) (by show(dig 10000 K).length≤1000000;omega)).mono ?_;rintro e w3 ⟨⟨s,n,hs,rfl⟩,hb3⟩)
   have e:Nat.gcd x.natAbs y.natAbs=K:=by rw[←HGC.out,h0,Nat.gcd_zero_right]
   refine bodyPost_ret (v:=.tuple #[.string s,.int .i64 n]) ?_ rfl ⟨⟨s,n,by rw[e];exact hs,rfl⟩,hb.trans (hb3.mono hwr)⟩
   simp[results,Tryz.results156,go_sem]
  ·have hz:0<(dig 10000 L).length:=by omega
   clear hpos
   go_wp2_with (go_at_call 157;refine(nE_ _ _ K L _ _ _ _ _ (by exact HK.out) (by exact HL.out) (Nat.le_refl _) (Nat.le_refl _) (by omega) (by omega) h0).mono ?_;rintro e w3 ⟨⟨q,r,rfl,hq,hr⟩,hb3⟩;obtain⟨qa,qc,rfl⟩:∃a cap,q=.slice a (dig 10000 (K/L)).length cap:=(by obtain⟨a,cap,e,_⟩:=hq;exact⟨a,cap,e⟩);obtain⟨ra,rc,rfl⟩:∃a cap,r=.slice a (dig 10000 (K%L)).length cap:=(by obtain⟨a,cap,e,_⟩:=hr;exact⟨a,cap,e⟩);have HR:=hid hr;clear hq hr)
   have hlt:K%L<L:=Nat.mod_lt _ h0
   refine⟨⟨L,K%L,la,ra,lc,rc,rfl,rfl,(HL.out.below hb3 (Nat.le_refl _)).mono (Nat.le_refl _) hb3.size,HR.out.mono hwr (Nat.le_refl _),HLb.out,Nat.lt_trans hlt HLb.out,?_,hb.trans (hb3.mono hwr)⟩,?_⟩
   ·rw[←HGC.out,Nat.gcd_comm K L,Nat.gcd_rec L K,Nat.gcd_comm]
   ·rw[hMU.out _ _ _ _ _ HR.out,hMU.out _ _ _ _ _ HL.out];exact hlt
theorem aIQ {m:Nat} (h:m=(0:Int).natAbs):(dig 10000 m).length=0:=by
 rw[h];rfl
theorem mK_ {x b q r:Int} (h:x=b*q+r) (h0:0≤r) (h1:r<b):x/b=q∧x%b=r:=
 (Int.ediv_emod_unique (by omega)).2 ⟨by omega,h0,h1⟩
theorem hZ_ {x y q r:Int} (h:x=(y.natAbs:Int)*q+r) (h0:0≤r) (h1:r<y.natAbs):x/y=(if y<0 then -q else q)∧x%y=r:=by
 by_cases hy:y<0
 ·have hb:((y.natAbs:Nat):Int) = -y:=by omega
  rw[hb] at h h1
  have:=mK_ h h0 h1
  rw[Int.ediv_neg,Int.emod_neg] at this
  rw[if_pos hy]
  exact⟨by omega,this.2⟩
 ·have hb:((y.natAbs:Nat):Int)=y:=by omega
  rw[hb] at h h1
  rw[if_neg hy]
  exact mK_ h h0 h1
theorem vW_ {x y:Int} {n1 n2:Bool} {K L:Nat} (hx:n1=decide (x<0)∧K=x.natAbs) (hy:n2=decide (y<0)∧L=y.natAbs) (h0:0<L) (hc:n1=false∨K%L=0) :
  x/y=(if (n1 != n2)=true then -((K/L:Nat):Int) else ((K/L:Nat):Int))∧x%y=((K%L:Nat):Int):=by
 obtain⟨rfl,rfl⟩:=hx
 obtain⟨rfl,rfl⟩:=hy
 have hK:=Nat.div_add_mod x.natAbs y.natAbs
 have hr:=Nat.mod_lt x.natAbs h0
 generalize x.natAbs/y.natAbs=q at *
 generalize x.natAbs%y.natAbs=r at *
 have hKi:((y.natAbs:Nat):Int)*(q:Int)+r=x.natAbs:=by exact_mod_cast hK
 by_cases hx0:x<0
 ·have hr0:r=0:=by
   rcases hc with h|h
   ·simp at h;omega
   ·exact h
  subst hr0
  have:=hZ_ (x:=x) (y:=y) (q:=-(q:Int)) (r:=0) (by rw[Int.mul_neg];omega) (by omega) (by omega)
  refine⟨?_,by simpa using this.2⟩
  rw[this.1]
  by_cases hy0:y<0 <;> simp[hx0,hy0]
 ·have:=hZ_ (x:=x) (y:=y) (q:=(q:Int)) (r:=r) (by omega) (by omega) (by omega)
  refine⟨?_,this.2⟩
  rw[this.1]
  by_cases hy0:y<0 <;> simp[hx0,hy0]
theorem div_up {x y:Int} {n1 n2:Bool} {K L:Nat} (hx:n1=decide (x<0)∧K=x.natAbs) (hy:n2=decide (y<0)∧L=y.natAbs) (h0:0<L) (hc:n1=true) (hr1:K%L≠0) :
  x/y=(if (n1 != n2)=true then -((K/L+1:Nat):Int) else ((K/L+1:Nat):Int))∧x%y=((L-K%L:Nat):Int):=by
 obtain⟨rfl,rfl⟩:=hx
 obtain⟨rfl,rfl⟩:=hy
 have hK:=Nat.div_add_mod x.natAbs y.natAbs
 have hr:=Nat.mod_lt x.natAbs h0
 generalize x.natAbs/y.natAbs=q at *
 generalize x.natAbs%y.natAbs=r at *
 have hKi:((y.natAbs:Nat):Int)*(q:Int)+r=x.natAbs:=by exact_mod_cast hK
 have hx0:x<0:=by simpa using hc
 have:=hZ_ (x:=x) (y:=y) (q:=-((q+1:Nat):Int)) (r:=((y.natAbs-r:Nat):Int)) (by
  rw[Int.mul_neg,show((q+1:Nat):Int)=(q:Int)+1 from by omega,Int.mul_add,Int.mul_one];omega) (by omega) (by omega)
 refine⟨?_,this.2⟩
 rw[this.1]
 by_cases hy0:y<0 <;> simp[hx0,hy0]
theorem aOZ (w:World):Calls Tryz.prog 159 #[] w fun e w'=>(∃v,e=.returned v∧Nm w' v 1 w.heap.size w'.heap.size)∧Below w.heap.size w w':=by
 go_enter Tryz.func159,Tryz.ntmps159
 go_wp2
 go_ret
 refine⟨⟨_,rfl,?_⟩,(Below.refl _ _).alloc (Nat.le_refl _) _⟩
 have h1:dig 10000 1=[1]:=by decide
 show Ns _ _ (dig 10000 1) _ _
 rw[h1]
 refine⟨_,1,rfl,by decide,by decide,by decide,fun h=>by simp at h,fun ad ha=>?_⟩
 simp only[Option.some.injEq] at ha
 subst ha
 refine⟨w.heap.size,0,rfl,Nat.le_refl _,by simp,?_⟩
 intro i u hu
 cases i with
 | zero=>simp at hu;subst hu;simp[go_sem]
 | succ i=>simp at hu
theorem eN_ (v:Value) (z:Int) (lo hi:Nat) (w:World) (hG:Glob w) (h:Zg w v z lo hi) (b:hi≤w.heap.size) (hs:small z=true) :
  Calls Tryz.prog 147 #[v] w fun e w'=>(∃s,s=str z∧e=.returned (.tuple #[.string s,.int .i64 0]))∧Below w.heap.size w w':=by
 refine(kJ_ v z lo hi w hG h b (lJ_ hs)).mono ?_
 rintro e w' ⟨⟨s,n,h1,rfl⟩,hb⟩
 unfold outZ at h1
 rw[if_pos hs] at h1
 simp only[Array.mk.injEq,List.cons.injEq,Value.string.injEq,Value.int.injEq,true_and,and_true] at h1
 obtain⟨rfl,rfl⟩:=h1
 exact⟨⟨_,rfl,rfl⟩,hb⟩
theorem sN_ {z y:Int} (h:small y=true) (hl:z.natAbs≤y.natAbs):small z=true:=by
 unfold small at h⊢
 simp only[decide_eq_true_eq] at h⊢
 rw[jZ_ (by omega)] at h⊢
 omega
theorem aL_ {x:Int} (y:Int) (h:small x=true):small (x/y)=true:=sN_ h (Int.natAbs_ediv_le_natAbs x y)
theorem fZ_ {x y:Int} (hy:y≠0) (h:small y=true):small (x%y)=true:=by
 refine sN_ h ?_
 have h1:=Int.emod_nonneg x hy
 have h2:=Int.emod_lt x hy
 omega
theorem div_A {x y:Int} {n2:Bool} {K L:Nat} (hx:false=decide (x<0)∧K=x.natAbs) (hy:n2=decide (y<0)∧L=y.natAbs) (h0:0<L) :
  x/y=(if n2=true then -((K/L:Nat):Int) else ((K/L:Nat):Int))∧x%y=if false=true then -((K%L:Nat):Int) else ((K%L:Nat):Int):=by
 have:=vW_ hx hy h0 (.inl rfl)
 cases n2 <;> simpa using this
theorem div_B {x y:Int} {n2:Bool} {K L:Nat} (hx:true=decide (x<0)∧K=x.natAbs) (hy:n2=decide (y<0)∧L=y.natAbs) (h0:0<L) (hm:K%L=0) :
  x/y=(if (!n2)=true then -((K/L:Nat):Int) else ((K/L:Nat):Int))∧x%y=if false=true then -((K%L:Nat):Int) else ((K%L:Nat):Int):=by
 have:=vW_ hx hy h0 (.inr hm)
 cases n2 <;> simpa using this
theorem div_C {x y:Int} {n2:Bool} {K L:Nat} (hx:true=decide (x<0)∧K=x.natAbs) (hy:n2=decide (y<0)∧L=y.natAbs) (h0:0<L) (hm:K%L≠0) :
  x/y=(if (!n2)=true then -((K/L+1:Nat):Int) else ((K/L+1:Nat):Int))∧x%y=if false=true then -((L-K%L:Nat):Int) else ((L-K%L:Nat):Int):=by
 have:=div_up hx hy h0 rfl hm
 cases n2 <;> simpa using this
theorem aMH (x:Int) (w:World) (_hG:Glob w) (hx:small x=true) :
  Calls Tryz.prog 119 #[.string (str x),.string (str 0)] w fun e w'=>e=.returned (.tuple #[.string ⟨#[]⟩,.string ⟨#[]⟩,.int .i64 30])∧Below w.heap.size w w':=by
 have hB:=fun W=>gZ_ x 0 W (by simpa[small] using hx) (by decide)
 generalize str x=sx at hB⊢
 generalize str 0=sy at hB⊢
 go_enter Tryz.func119,Tryz.ntmps119
 go_wp2_with (go_at_call 145;with_reducible refine(hB _).mono ?_;rintro e w1 ⟨⟨va,vb,rfl,ha,hb⟩,hb1⟩;obtain⟨n1,m1,a1,c1,rfl,hna,hza⟩:=ha.form;obtain⟨n2,m2,a2,c2,rfl,hnb,hzb⟩:=hb.form;have hm2:=aIQ hzb.2;clear ha hb hza hzb hna hnb)
 refine bodyPost_ret (v:=.tuple #[.string ⟨#[]⟩,.string ⟨#[]⟩,.int .i64 30]) ?_ rfl ⟨rfl,hb1.trans ((B2 w1 _ _).mono hb1.size)⟩
 simp[results,Tryz.results119,go_sem]
theorem Div_A (x y:Int) (w:World) (hG:Glob w) (hx:small x=true) (hy:small y=true) (hy0:y≠0) (hneg:¬x<0) :
  Calls Tryz.prog 119 #[.string (str x),.string (str y)] w fun e w'=>e=.returned (.tuple #[.string (str (x/y)),.string (str (x%y)),.int .i64 0])∧Below w.heap.size w w':=by
 have hB:=fun W=>gZ_ x y W (by simpa[small] using hx) (by simpa[small] using hy)
 have hsd:=aL_ y hx
 have hsm:=fZ_ (x:=x) hy0 hy
 have hL0:0<y.natAbs:=by omega
 generalize str x=sx at hB⊢
 generalize str y=sy at hB⊢
 obtain⟨sq,hsq⟩:∃s,s=str (x/y):=⟨_,rfl⟩
 obtain⟨sr,hsr⟩:∃s,s=str (x%y):=⟨_,rfl⟩
 rw[←hsq,←hsr]
 have HSQ:=hid hsq
 have HSR:=hid hsr
 clear hsq hsr
 have HX:=hid (dT_ hx)
 have HY:=hid (dT_ hy)
 go_enter Tryz.func119,Tryz.ntmps119
 go_wp2_with (first
  | (go_at_call 145;with_reducible refine(hB _).mono ?_;rintro e w1 ⟨⟨va,vb,rfl,ha,hb⟩,hb1⟩;obtain⟨n1,m1,a1,c1,rfl,hna,hza⟩:=ha.form;obtain⟨n2,m2,a2,c2,rfl,hnb,hzb⟩:=hb.form;have HA:=hid ha.zg;have HB:=hid hb.zg;have HNA:=hid hna;have HNB:=hid hnb;have HZA:=hid (hI_ hza);have HZB:=hid (hI_ hzb);have HSA:=hid hza;have HSB:=hid hzb;have HG1:=hid (hG.below hb1);have hm2:0<(dig 10000 m2).length:=(by have h1:=oU_ hnb;have h2:=hzb.2;omega);have hf1:(dig 10000 m1).length≤50:=(by rw[hza.2];exact HX.out);have hf2:(dig 10000 m2).length≤50:=(by rw[hzb.2];exact HY.out);obtain rfl:n1=false:=(by rw[hza.1];exact decide_eq_false hneg);clear ha hb hna hnb hza hzb)
  | (go_at_call 157;refine(nE_ _ _ m1 m2 _ _ _ _ _ (by exact HNA.out.below (B2 w1 _ _) (Nat.le_refl _)) (by exact HNB.out.below (B2 w1 _ _) (Nat.le_refl _)) (by exact(B2 w1 _ _).size) (by exact(B2 w1 _ _).size) (by omega) (by omega) (by rw[HSB.out.2];exact hL0)).mono ?_;rintro e w2 ⟨⟨q,r,rfl,hq,hr⟩,hb2⟩;obtain⟨qa,qc,rfl⟩:∃a cap,q=.slice a (dig 10000 (m1/m2)).length cap:=(by obtain⟨a,cap,e,_⟩:=hq;exact⟨a,cap,e⟩);obtain⟨ra,rc,rfl⟩:∃a cap,r=.slice a (dig 10000 (m1%m2)).length cap:=(by obtain⟨a,cap,e,_⟩:=hr;exact⟨a,cap,e⟩);have hrz:=oU_ hr;have hrr:True:=trivial;have HQ:=hid hq;have HR:=hid hr;clear hq hr;have hbw:Below w1.heap.size w1 w2:=(B2 w1 _ _).trans (hb2.mono (B2 w1 _ _).size);have HG2:=hid (HG1.out.below hbw);have HP2:=hid ((PairAt.start w1 false n2 (.slice a1 (dig 10000 m1).length c1) (.slice a2 (dig 10000 m2).length c2)).below hb2);have q1:=HP2.out.x0;have q2:=HP2.out.x1;have q3:=HP2.out.y0;have q4:=HP2.out.y1;clear hrz;have HD:=hid (div_A HSA.out HSB.out (by rw[HSB.out.2];exact hL0)))
  | (go_at_call 147;refine(eN_ _ (x/y) _ _ _ (by exact HG2.out) (by exact Zg.of HQ.out HD.out.1) (Nat.le_refl _) hsd).mono ?_;rintro e w3 ⟨⟨s,hs,rfl⟩,hb3⟩;obtain rfl:s=sq:=hs.trans HSQ.out.symm;clear hs;have HG3:=hid (HG2.out.below hb3);have HR3:=hid (HR.out.below hb3 (Nat.le_refl _)))
  | (go_at_call 147;refine(eN_ _ (x%y) _ _ _ (by exact HG3.out) (by exact Zg.of (neg:=false) HR3.out HD.out.2) (by exact hb3.size) hsm).mono ?_;rintro e w4 ⟨⟨s',hs,rfl⟩,hb4⟩;obtain rfl:s'=sr:=hs.trans HSR.out.symm;clear hs))
 refine bodyPost_ret (v:=.tuple #[.string s,.string s',.int .i64 0]) ?_ rfl ⟨rfl,(hb1.trans (hbw.mono hb1.size)).trans ((hb3.trans (hb4.mono hb3.size)).mono (Nat.le_trans hb1.size hbw.size))⟩
 simp[results,Tryz.results119,go_sem]
theorem Div_B (x y:Int) (w:World) (hG:Glob w) (hx:small x=true) (hy:small y=true) (hy0:y≠0) (hneg:x<0) (hmod:x.natAbs%y.natAbs=0) :
  Calls Tryz.prog 119 #[.string (str x),.string (str y)] w fun e w'=>e=.returned (.tuple #[.string (str (x/y)),.string (str (x%y)),.int .i64 0])∧Below w.heap.size w w':=by
 have hB:=fun W=>gZ_ x y W (by simpa[small] using hx) (by simpa[small] using hy)
 have hsd:=aL_ y hx
 have hsm:=fZ_ (x:=x) hy0 hy
 have hL0:0<y.natAbs:=by omega
 generalize str x=sx at hB⊢
 generalize str y=sy at hB⊢
 obtain⟨sq,hsq⟩:∃s,s=str (x/y):=⟨_,rfl⟩
 obtain⟨sr,hsr⟩:∃s,s=str (x%y):=⟨_,rfl⟩
 rw[←hsq,←hsr]
 have HSQ:=hid hsq
 have HSR:=hid hsr
 clear hsq hsr
 have HX:=hid (dT_ hx)
 have HY:=hid (dT_ hy)
 go_enter Tryz.func119,Tryz.ntmps119
 go_wp2_with (first
  | (go_at_call 145;with_reducible refine(hB _).mono ?_;rintro e w1 ⟨⟨va,vb,rfl,ha,hb⟩,hb1⟩;obtain⟨n1,m1,a1,c1,rfl,hna,hza⟩:=ha.form;obtain⟨n2,m2,a2,c2,rfl,hnb,hzb⟩:=hb.form;have HA:=hid ha.zg;have HB:=hid hb.zg;have HNA:=hid hna;have HNB:=hid hnb;have HZA:=hid (hI_ hza);have HZB:=hid (hI_ hzb);have HSA:=hid hza;have HSB:=hid hzb;have HG1:=hid (hG.below hb1);have hm2:0<(dig 10000 m2).length:=(by have h1:=oU_ hnb;have h2:=hzb.2;omega);have hf1:(dig 10000 m1).length≤50:=(by rw[hza.2];exact HX.out);have hf2:(dig 10000 m2).length≤50:=(by rw[hzb.2];exact HY.out);obtain rfl:n1=true:=(by rw[hza.1];exact decide_eq_true hneg);clear ha hb hna hnb hza hzb)
  | (go_at_call 157;refine(nE_ _ _ m1 m2 _ _ _ _ _ (by exact HNA.out.below (B2 w1 _ _) (Nat.le_refl _)) (by exact HNB.out.below (B2 w1 _ _) (Nat.le_refl _)) (by exact(B2 w1 _ _).size) (by exact(B2 w1 _ _).size) (by omega) (by omega) (by rw[HSB.out.2];exact hL0)).mono ?_;rintro e w2 ⟨⟨q,r,rfl,hq,hr⟩,hb2⟩;obtain⟨qa,qc,rfl⟩:∃a cap,q=.slice a (dig 10000 (m1/m2)).length cap:=(by obtain⟨a,cap,e,_⟩:=hq;exact⟨a,cap,e⟩);obtain⟨ra,rc,rfl⟩:∃a cap,r=.slice a (dig 10000 (m1%m2)).length cap:=(by obtain⟨a,cap,e,_⟩:=hr;exact⟨a,cap,e⟩);have hrz:=oU_ hr;have hrr:(dig 10000 (m1%m2)).length=0:=(by rw[hrz,HSA.out.2,HSB.out.2];exact hmod);rw[hrr] at hr;have HQ:=hid hq;have HR:=hid hr;clear hq hr;have hbw:Below w1.heap.size w1 w2:=(B2 w1 _ _).trans (hb2.mono (B2 w1 _ _).size);have HG2:=hid (HG1.out.below hbw);have HP2:=hid ((PairAt.start w1 true n2 (.slice a1 (dig 10000 m1).length c1) (.slice a2 (dig 10000 m2).length c2)).below hb2);have q1:=HP2.out.x0;have q2:=HP2.out.x1;have q3:=HP2.out.y0;have q4:=HP2.out.y1;clear hrz;have HD:=hid (div_B HSA.out HSB.out (by rw[HSB.out.2];exact hL0) (by rw[HSA.out.2,HSB.out.2];exact hmod)))
  | (go_at_call 147;refine(eN_ _ (x/y) _ _ _ (by exact HG2.out) (by exact Zg.of HQ.out HD.out.1) (Nat.le_refl _) hsd).mono ?_;rintro e w3 ⟨⟨s,hs,rfl⟩,hb3⟩;obtain rfl:s=sq:=hs.trans HSQ.out.symm;clear hs;have HG3:=hid (HG2.out.below hb3);have HR3:=hid (HR.out.below hb3 (Nat.le_refl _)))
  | (go_at_call 147;refine(eN_ _ (x%y) _ _ _ (by exact HG3.out) (by exact Zg.of (neg:=false) HR3.out HD.out.2) (by exact hb3.size) hsm).mono ?_;rintro e w4 ⟨⟨s',hs,rfl⟩,hb4⟩;obtain rfl:s'=sr:=hs.trans HSR.out.symm;clear hs))
 refine bodyPost_ret (v:=.tuple #[.string s,.string s',.int .i64 0]) ?_ rfl ⟨rfl,(hb1.trans (hbw.mono hb1.size)).trans ((hb3.trans (hb4.mono hb3.size)).mono (Nat.le_trans hb1.size hbw.size))⟩
 simp[results,Tryz.results119,go_sem]
theorem Div_C (x y:Int) (w:World) (hG:Glob w) (hx:small x=true) (hy:small y=true) (hy0:y≠0) (hneg:x<0) (hmod:x.natAbs%y.natAbs≠0) :
  Calls Tryz.prog 119 #[.string (str x),.string (str y)] w fun e w'=>e=.returned (.tuple #[.string (str (x/y)),.string (str (x%y)),.int .i64 0])∧Below w.heap.size w w':=by
 have hB:=fun W=>gZ_ x y W (by simpa[small] using hx) (by simpa[small] using hy)
 have hsd:=aL_ y hx
 have hsm:=fZ_ (x:=x) hy0 hy
 have hL0:0<y.natAbs:=by omega
 generalize str x=sx at hB⊢
 generalize str y=sy at hB⊢
 obtain⟨sq,hsq⟩:∃s,s=str (x/y):=⟨_,rfl⟩
 obtain⟨sr,hsr⟩:∃s,s=str (x%y):=⟨_,rfl⟩
 rw[←hsq,←hsr]
 have HSQ:=hid hsq
 have HSR:=hid hsr
 clear hsq hsr
 have HX:=hid (dT_ hx)
 have HY:=hid (dT_ hy)
 go_enter Tryz.func119,Tryz.ntmps119
 go_wp2_with (first
  | (go_at_call 145;with_reducible refine(hB _).mono ?_;rintro e w1 ⟨⟨va,vb,rfl,ha,hb⟩,hb1⟩;obtain⟨n1,m1,a1,c1,rfl,hna,hza⟩:=ha.form;obtain⟨n2,m2,a2,c2,rfl,hnb,hzb⟩:=hb.form;have HA:=hid ha.zg;have HB:=hid hb.zg;have HNA:=hid hna;have HNB:=hid hnb;have HZA:=hid (hI_ hza);have HZB:=hid (hI_ hzb);have HSA:=hid hza;have HSB:=hid hzb;have HG1:=hid (hG.below hb1);have hm2:0<(dig 10000 m2).length:=(by have h1:=oU_ hnb;have h2:=hzb.2;omega);have hf1:(dig 10000 m1).length≤50:=(by rw[hza.2];exact HX.out);have hf2:(dig 10000 m2).length≤50:=(by rw[hzb.2];exact HY.out);obtain rfl:n1=true:=(by rw[hza.1];exact decide_eq_true hneg);clear ha hb hna hnb hza hzb)
  | (go_at_call 157;refine(nE_ _ _ m1 m2 _ _ _ _ _ (by exact HNA.out.below (B2 w1 _ _) (Nat.le_refl _)) (by exact HNB.out.below (B2 w1 _ _) (Nat.le_refl _)) (by exact(B2 w1 _ _).size) (by exact(B2 w1 _ _).size) (by omega) (by omega) (by rw[HSB.out.2];exact hL0)).mono ?_;rintro e w2 ⟨⟨q,r,rfl,hq,hr⟩,hb2⟩;obtain⟨qa,qc,rfl⟩:∃a cap,q=.slice a (dig 10000 (m1/m2)).length cap:=(by obtain⟨a,cap,e,_⟩:=hq;exact⟨a,cap,e⟩);obtain⟨ra,rc,rfl⟩:∃a cap,r=.slice a (dig 10000 (m1%m2)).length cap:=(by obtain⟨a,cap,e,_⟩:=hr;exact⟨a,cap,e⟩);have hrz:=oU_ hr;have hrr:0<(dig 10000 (m1%m2)).length:=(by rw[HSA.out.2,HSB.out.2] at hrz⊢;omega);have HQ:=hid hq;have HR:=hid hr;clear hq hr;have hbw:Below w1.heap.size w1 w2:=(B2 w1 _ _).trans (hb2.mono (B2 w1 _ _).size);have HG2:=hid (HG1.out.below hbw);have HP2:=hid ((PairAt.start w1 true n2 (.slice a1 (dig 10000 m1).length c1) (.slice a2 (dig 10000 m2).length c2)).below hb2);have q1:=HP2.out.x0;have q2:=HP2.out.x1;have q3:=HP2.out.y0;have q4:=HP2.out.y1;clear hrz;have HD:=hid (div_C HSA.out HSB.out (by rw[HSB.out.2];exact hL0) (by rw[HSA.out.2,HSB.out.2];exact hmod)))
  | fail)
 have hm2p:0<m2:=by rw[HSB.out.2];exact hL0
 have hle:Hid (m1%m2≤m2):=Nat.le_of_lt (Nat.mod_lt _ hm2p)
 have HF1:Hid (Few 1):=by show _≤_;decide
 have HF2:Hid (Few m2):=by show _≤_;omega
 have HFR:Hid (Few (m1%m2)):=by
  have:=aG_ (B:=10000) (by omega) hle.out
  show _≤_;omega
 have HFQ:Hid (Few (m1/m2)):=by
  have:=aG_ (B:=10000) (by omega) (Nat.div_le_self m1 m2)
  show _≤_;omega
 have hS:w2.drew.cell? ⟨w1.heap.size+1,1,none⟩=some (.slice a2 (dig 10000 m2).length c2)∧Below w2.heap.size w2 w2.drew:=⟨q4,(Below.refl _ _).drew⟩
 go_region_held3 (fun W=>W.cell? ⟨w1.heap.size+1,1,none⟩=some (.slice a2 (dig 10000 m2).length c2)∧Below w2.heap.size w2 W) (first|exact hS) (first
  | (go_at_call 159;refine(aOZ _).mono ?_;rintro e wo ⟨⟨vo,rfl,hvo⟩,hbo⟩;obtain⟨oa,oc,rfl⟩:∃a cap,vo=.slice a (dig 10000 1).length cap:=(by obtain⟨a,cap,e,_⟩:=hvo;exact⟨a,cap,e⟩);have HO:=hid hvo;clear hvo;have hS:=(⟨(hbo.cell (p:=⟨w1.heap.size+1,1,none⟩) (World.block_lt_of_cell? _ _ hS.1)).trans hS.1,hS.2.trans (hbo.mono hS.2.size)⟩:wo.cell? ⟨w1.heap.size+1,1,none⟩=some (.slice a2 (dig 10000 m2).length c2)∧Below w2.heap.size w2 wo))
  | (go_at_call 158;refine(mY_ _ _ (m1/m2) 1 _ _ _ _ _ (by exact HQ.out.below hS.2 (Nat.le_refl _)) (by first | exact HO.out | exact HO.out.below hbm (Nat.le_refl _)) (by exact hS.2.size) (by first | exact Nat.le_refl _ | exact hbm.size) (by exact HFQ.out) (by exact HF1.out)).mono ?_;rintro e wp ⟨⟨vp,rfl,hvp⟩,hbp⟩;obtain⟨pa,pc,rfl⟩:∃a cap,vp=.slice a (dig 10000 (m1/m2+1)).length cap:=(by obtain⟨a,cap,e,_⟩:=hvp;exact⟨a,cap,e⟩);have HPl:=hid hvp;clear hvp;have hS:=(⟨(hbp.cell (p:=⟨w1.heap.size+1,1,none⟩) (World.block_lt_of_cell? _ _ hS.1)).trans hS.1,hS.2.trans (hbp.mono hS.2.size)⟩:wp.cell? ⟨w1.heap.size+1,1,none⟩=some (.slice a2 (dig 10000 m2).length c2)∧Below w2.heap.size w2 wp))
  | (go_at_call 160;refine(kX_ _ _ m2 (m1%m2) _ _ _ _ _ (by exact(HNB.out.below hbw (Nat.le_refl _)).below hS.2 hbw.size) (by exact HR.out.below hS.2 (Nat.le_refl _)) (by exact Nat.le_trans hbw.size hS.2.size) (by exact hS.2.size) (by exact HF2.out) (by exact HFR.out) (by exact hle.out)).mono ?_;rintro e wm ⟨⟨vm,rfl,hvm⟩,hbm⟩;obtain⟨ma,mc,rfl⟩:∃a cap,vm=.slice a (dig 10000 (m2-m1%m2)).length cap:=(by obtain⟨a,cap,e,_⟩:=hvm;exact⟨a,cap,e⟩);have HM:=hid hvm;clear hvm;have hS:=(⟨(hbm.cell (p:=⟨w1.heap.size+1,1,none⟩) (World.block_lt_of_cell? _ _ hS.1)).trans hS.1,hS.2.trans (hbm.mono hS.2.size)⟩:wm.cell? ⟨w1.heap.size+1,1,none⟩=some (.slice a2 (dig 10000 m2).length c2)∧Below w2.heap.size w2 wm)))
 all_goals
  have HP4:=HP2.out.below hS.2
  have q5:=HP4.x0
  have q6:=HP4.y0
  clear q1 q2 q3 q4
  go_wp2_with (first
   | (go_at_call 147;refine(eN_ _ (x/y) _ _ _ (by exact HG2.out.below hS.2) (by first | exact Zg.of HPl.out HD.out.1 | exact Zg.of (HPl.out.below hbm (Nat.le_refl _)) HD.out.1) (by first | exact Nat.le_refl _ | exact hbm.size) hsd).mono ?_;rintro e w3 ⟨⟨s,hs,rfl⟩,hb3⟩;obtain rfl:s=sq:=hs.trans HSQ.out.symm;clear hs;have HG3:=hid ((HG2.out.below hS.2).below hb3);have HR3:Hid (Nm w3 (.slice ma (dig 10000 (m2-m1%m2)).length mc) (m2-m1%m2) 0 w3.heap.size):=(by first | exact((HM.out.mono (Nat.zero_le _) (Nat.le_refl _)).below hb3 (Nat.le_refl _)).mono (Nat.le_refl _) hb3.size | exact(((HM.out.below hbp (Nat.le_refl _)).mono (Nat.zero_le _) hbp.size).below hb3 (Nat.le_refl _)).mono (Nat.le_refl _) hb3.size | exact(((HM.out.below (hbo.trans (hbp.mono hbo.size)) (Nat.le_refl _)).mono (Nat.zero_le _) (Nat.le_trans hbo.size hbp.size)).below hb3 (Nat.le_refl _)).mono (Nat.le_refl _) hb3.size))
   | (go_at_call 147;refine(eN_ _ (x%y) _ _ _ (by exact HG3.out) (by exact Zg.of (neg:=false) HR3.out HD.out.2) (Nat.le_refl _) hsm).mono ?_;rintro e w4 ⟨⟨s',hs,rfl⟩,hb4⟩;obtain rfl:s'=sr:=hs.trans HSR.out.symm;clear hs))
  refine bodyPost_ret (v:=.tuple #[.string s,.string s',.int .i64 0]) ?_ rfl ⟨rfl,(hb1.trans (hbw.mono hb1.size)).trans ((hS.2.trans ((hb3.trans (hb4.mono hb3.size)).mono hS.2.size)).mono (Nat.le_trans hb1.size hbw.size))⟩
  simp[results,Tryz.results119,go_sem]
theorem Div_ok (x y:Int) (w:World) (hG:Glob w) (hx:small x=true) (hy:small y=true) (hy0:y≠0) :
  Calls Tryz.prog 119 #[.string (str x),.string (str y)] w fun e w'=>e=.returned (.tuple #[.string (str (x/y)),.string (str (x%y)),.int .i64 0])∧Below w.heap.size w w':=by
 by_cases hneg:x<0
 ·by_cases hmod:x.natAbs%y.natAbs=0
  ·exact Div_B x y w hG hx hy hy0 hneg hmod
  ·exact Div_C x y w hG hx hy hy0 hneg hmod
 ·exact Div_A x y w hG hx hy hy0 hneg
end Go.Proofs.YtjfdefglpoancaaGreatDoor
namespace Go.Proofs.YtjfdefglpoancaaGreatDoor
def ratO (n d:ByteArray):Option Rat:=match aC_ n,aC_ d with|some p,some q=>if 0<q∧Nat.gcd p.natAbs q.natAbs=1 then some (Rat.divInt p q) else none|_,_=>none
theorem lM_ {p q:Int} (hq:0<q):(Rat.divInt p q).num=p/((Nat.gcd p.natAbs q.natAbs:Nat):Int):=by
 rw[Rat.num_divInt,Int.sign_eq_one_of_pos hq,Int.one_mul,Int.gcd_comm]
 rfl
theorem den_pos {p q:Int} (hq:0<q):((Rat.divInt p q).den:Int)=q/((Nat.gcd p.natAbs q.natAbs:Nat):Int):=by
 rw[Rat.den_divInt,if_neg (by omega),Int.natCast_ediv,Int.gcd_comm]
 congr 1
 omega
theorem tB_ {p q:Int} (hq:q<0):(Rat.divInt p q).num = -p/((Nat.gcd (-p).natAbs (-q).natAbs:Nat):Int):=by
 rw[←Rat.neg_divInt_neg]
 exact lM_ (by omega)
theorem tT_ {p q:Int} (hq:q<0):((Rat.divInt p q).den:Int) = -q/((Nat.gcd (-p).natAbs (-q).natAbs:Nat):Int):=by
 rw[←Rat.neg_divInt_neg]
 exact den_pos (by omega)
def jD_ (r:Rat):Prop:=small r.num=true∧small (r.den:Int)=true
theorem aFR {p q:Int} (hq:0<q) (hg:Nat.gcd p.natAbs q.natAbs=1):(Rat.divInt p q).num=p∧((Rat.divInt p q).den:Int)=q:=by
 rw[lM_ hq,den_pos hq,hg]
 exact⟨Int.ediv_one p,Int.ediv_one q⟩
theorem dA_ {n d:ByteArray} {r:Rat} (h:ratO n d=some r):n=str r.num∧d=str (r.den:Int)∧jD_ r:=by
 unfold ratO at h
 cases h1:aC_ n with
 | none=>rw[h1] at h;cases h
 | some p=>
  cases h2:aC_ d with
  | none=>rw[h1,h2] at h;cases h
  | some q=>
   rw[h1,h2] at h
   obtain⟨e1,s1⟩:=bH_ h1
   obtain⟨e2,s2⟩:=bH_ h2
   simp only at h
   split at h
   case isTrue hc=>
    cases h
    obtain⟨k1,k2⟩:=aFR hc.1 hc.2
    unfold jD_
    rw[k1,k2]
    exact⟨e1,e2,s1,s2⟩
   case isFalse=>cases h
theorem aOF (r:Rat):Nat.gcd r.num.natAbs (r.den:Int).natAbs=1:=by
 rw[Int.natAbs_natCast]
 exact r.reduced
theorem cJ_ (r:Rat):0<(r.den:Int):=by
 have:=r.den_nz
 omega
theorem zF_ {r:Rat} (h:jD_ r):ratO (str r.num) (str (r.den:Int))=some r:=by
 unfold ratO
 rw[bA_,bA_,if_pos h.1,if_pos h.2]
 show(if _ then _ else _)=_
 rw[if_pos ⟨cJ_ r,aOF r⟩,Rat.num_divInt_den]
def qN (o:Option Rat):ByteArray:=match o with|some r=>str r.num|none=>⟨#[]⟩
def qD (o:Option Rat):ByteArray:=match o with|some r=>str (r.den:Int)|none=>⟨#[]⟩
def qE (o:Option Rat):Int:=match o with|some _=>0|none=>40
theorem tJ_ {p q:Int} (hq:q≠0):0<Nat.gcd p.natAbs q.natAbs:=Nat.gcd_pos_of_pos_right _ (by omega)
theorem aKQ {p q:Int} (hq:q≠0):Nat.gcd p.natAbs q.natAbs≤q.natAbs:=Nat.gcd_le_right _ (by omega)
def aO_ (p q:Int):Option Rat:=if q=0 then none else some (Rat.divInt p q)
theorem aGN {p q:Int} (hp:small p=true) (hq:small q=true) (h0:q≠0):jD_ (Rat.divInt p q):=by
 rcases Int.lt_or_gt_of_ne h0 with h|h
 ·unfold jD_
  rw[tB_ h,tT_ h]
  exact⟨aL_ _ (cZ_ hp),aL_ _ (cZ_ hq)⟩
 ·unfold jD_
  rw[lM_ h,den_pos h]
  exact⟨aL_ _ hp,aL_ _ hq⟩
theorem aNL (a b:Rat):a+b=Rat.divInt (a.num*b.den+b.num*a.den) (a.den*b.den):=by
 have h:=Rat.divInt_add_divInt a.num b.num (d₁:=a.den) (d₂:=b.den) (by have:=cJ_ a;omega) (by have:=cJ_ b;omega)
 rwa[Rat.num_divInt_den,Rat.num_divInt_den] at h
theorem aMM (a b:Rat):a-b=Rat.divInt (a.num*b.den-b.num*a.den) (a.den*b.den):=by
 have h:=Rat.divInt_sub_divInt a.num b.num (d₁:=a.den) (d₂:=b.den) (by have:=cJ_ a;omega) (by have:=cJ_ b;omega)
 rwa[Rat.num_divInt_den,Rat.num_divInt_den] at h
theorem aMW (a b:Rat):a*b=Rat.divInt (a.num*b.num) (a.den*b.den):=by
 have h:=Rat.divInt_mul_divInt a.num b.num (d₁:=a.den) (d₂:=b.den)
 rwa[Rat.num_divInt_den,Rat.num_divInt_den] at h
theorem aNA (a b:Rat):a/b=Rat.divInt (a.num*b.den) (a.den*b.num):=by
 have h:=Rat.divInt_mul_divInt a.num b.den (d₁:=a.den) (d₂:=b.num)
 rw[Rat.num_divInt_den,←Rat.inv_def] at h
 exact h
def addR (a b:Rat):Option Rat:=if small (a.num*b.den)=true∧small (b.num*a.den)=true∧small (a.num*b.den+b.num*a.den)=true∧small ((a.den:Int)*b.den)=true then some (a+b) else none
def subR (a b:Rat):Option Rat:=if small (a.num*b.den)=true∧small (b.num*a.den)=true∧small (a.num*b.den-b.num*a.den)=true∧small ((a.den:Int)*b.den)=true then some (a-b) else none
def mulR (a b:Rat):Option Rat:=if small (a.num*b.num)=true∧small ((a.den:Int)*b.den)=true then some (a*b) else none
def divR (a b:Rat):Option Rat:=if small (a.num*b.den)=true∧small ((a.den:Int)*b.num)=true∧b.num≠0 then some (a/b) else none
theorem xZ_ (a b:Rat):0<(a.den:Int)*b.den:=Int.mul_pos (cJ_ a) (cJ_ b)
theorem eQ_ (a b:Rat):(a.den:Int)*b.den≠0:=by have:=xZ_ a b;omega
theorem qB_ (a b:Rat):addR a b=if small (a.num*b.den)=true∧small (b.num*a.den)=true∧small (a.num*b.den+b.num*a.den)=true∧small ((a.den:Int)*b.den)=true then aO_ (a.num*b.den+b.num*a.den) (a.den*b.den) else none:=by
 unfold addR aO_
 rw[if_neg (eQ_ a b),←aNL]
theorem oB_ (a b:Rat):subR a b=if small (a.num*b.den)=true∧small (b.num*a.den)=true∧small (a.num*b.den-b.num*a.den)=true∧small ((a.den:Int)*b.den)=true then aO_ (a.num*b.den-b.num*a.den) (a.den*b.den) else none:=by
 unfold subR aO_
 rw[if_neg (eQ_ a b),←aMM]
theorem oV_ (a b:Rat):mulR a b=if small (a.num*b.num)=true∧small ((a.den:Int)*b.den)=true then aO_ (a.num*b.num) (a.den*b.den) else none:=by
 unfold mulR aO_
 rw[if_neg (eQ_ a b),←aMW]
theorem pK_ (a b:Rat):divR a b=if small (a.num*b.den)=true∧small ((a.den:Int)*b.num)=true then aO_ (a.num*b.den) (a.den*b.num) else none:=by
 unfold divR aO_
 rw[←aNA]
 by_cases h:b.num=0
 ·rw[if_neg (fun k=>k.2.2 h),if_pos (show(a.den:Int)*b.num=0 by rw[h,Int.mul_zero])]
  split <;> rfl
 ·have hn:¬(a.den:Int)*b.num=0:=fun e=>by
   rcases Int.mul_eq_zero.1 e with e|e
   ·have:=cJ_ a;omega
   ·exact h e
  rw[if_neg hn]
  by_cases h1:small (a.num*b.den)=true∧small ((a.den:Int)*b.num)=true
  ·rw[if_pos h1,if_pos ⟨h1.1,h1.2,h⟩]
  ·rw[if_neg h1,if_neg (fun k=>h1 ⟨k.1,k.2.1⟩)]
def cmpR (a b:Rat):Int:=if a<b then -1 else if b<a then 1 else 0
theorem tX_ {a b:Rat} (h:a<b):cmpR a b = -1:=by unfold cmpR;rw[if_pos h]
theorem tY_ {a b:Rat} (h:b<a):cmpR a b=1:=by
 unfold cmpR
 rw[if_neg (Rat.not_lt.2 (Rat.le_of_lt h)),if_pos h]
theorem yE_ (a:Rat):cmpR a a=0:=by
 unfold cmpR
 rw[if_neg Rat.lt_irrefl,if_neg Rat.lt_irrefl]
theorem jA_ (a b:Rat):(a<b∧cmpR a b = -1)∨(a=b∧cmpR a b=0)∨(b<a∧cmpR a b=1):=by
 by_cases h1:a<b
 ·exact .inl ⟨h1,tX_ h1⟩
 ·by_cases h2:b<a
  ·exact .inr (.inr ⟨h2,tY_ h2⟩)
  ·have e:a=b:=Rat.le_antisymm (Rat.not_lt.1 h2) (Rat.not_lt.1 h1)
   exact .inr (.inl ⟨e,by rw[e];exact yE_ b⟩)
theorem pG_ (a:Rat):a.floor=a.num/(a.den:Int):=Rat.floor_def a
theorem lV_ {a b:Rat} (h:cmpI a.floor b.floor≠0):cmpR a b=cmpI a.floor b.floor:=by
 unfold cmpI at h⊢
 split at h
 case isTrue h1=>
  rw[if_pos h1]
  refine tX_ ?_
  refine Rat.not_le.1 fun k=>?_
  have:=Rat.floor_monotone k
  omega
 case isFalse h1=>
  split at h
  case isTrue h2=>
   rw[if_neg h1,if_pos h2]
   refine tY_ ?_
   refine Rat.not_le.1 fun k=>?_
   have:=Rat.floor_monotone k
   omega
  case isFalse=>exact absurd rfl h
theorem oI_ (a:Rat):a=(a.floor:Rat)+Rat.divInt (a.num%a.den) a.den:=by
 have h:=Rat.divInt_add_divInt a.floor (a.num%a.den) (d₁:=1) (d₂:=a.den) (by omega) (by have:=cJ_ a;omega)
 have h1:Rat.divInt a.floor 1=(a.floor:Rat):=Rat.num_divInt_den (a.floor:Rat)
 rw[h1] at h
 rw[h,Int.one_mul,Int.mul_one,pG_,Int.mul_comm,Int.mul_ediv_add_emod]
 exact(Rat.num_divInt_den a).symm
theorem aHS (a b:Rat):cmpR b a = -cmpR a b:=by
 rcases jA_ a b with ⟨h,e⟩|⟨h,e⟩|⟨h,e⟩
 ·rw[e,tY_ h];rfl
 ·rw[e,h,yE_];rfl
 ·rw[e,tX_ h]
theorem aCR {a b c d:Rat} (h1:a<b↔c<d) (h2:b<a↔d<c):cmpR a b=cmpR c d:=by
 unfold cmpR
 by_cases k1:a<b
 ·rw[if_pos k1,if_pos (h1.1 k1)]
 ·rw[if_neg k1,if_neg (fun k=>k1 (h1.2 k))]
  by_cases k2:b<a
  ·rw[if_pos k2,if_pos (h2.1 k2)]
  ·rw[if_neg k2,if_neg (fun k=>k2 (h2.2 k))]
theorem rG_ {x y:Rat} (hx:0<x) (hy:0<y):x<y↔y⁻¹<x⁻¹:=by
 have hix:=Rat.inv_pos.2 hx
 have hiy:=Rat.inv_pos.2 hy
 have key:∀{u v:Rat},0<u→0<v→u<v→v⁻¹<u⁻¹:=by
  intro u v hu hv h
  have hp:=Rat.mul_pos (Rat.inv_pos.2 hu) (Rat.inv_pos.2 hv)
  have h1:=Rat.mul_lt_mul_of_pos_right h hp
  rw[←Rat.mul_assoc,Rat.mul_inv_cancel u (Rat.ne_of_gt hu),Rat.one_mul,Rat.mul_comm u⁻¹,←Rat.mul_assoc,Rat.mul_inv_cancel v (Rat.ne_of_gt hv),Rat.one_mul] at h1
  exact h1
 refine⟨key hx hy,fun h=>?_⟩
 have:=key hiy hix h
 rwa[Rat.inv_inv,Rat.inv_inv] at this
theorem sP_ {a:Rat} (h:a.num%(a.den:Int)≠0):0<a.num%(a.den:Int)∧a.num%(a.den:Int)<a.den:=by
 have h1:=Int.emod_nonneg a.num (show(a.den:Int)≠0 by have:=cJ_ a;omega)
 have h2:=Int.emod_lt_of_pos a.num (cJ_ a)
 omega
theorem kQ_ {a:Rat} (h:a.num%(a.den:Int)=0):a=(a.floor:Rat):=by
 have:=oI_ a
 rw[h,Rat.zero_divInt,Rat.add_zero] at this
 exact this
theorem gR_ {a:Rat} (h:a.num%(a.den:Int)≠0):(a.floor:Rat)<a:=by
 have h1:=Rat.floor_le a
 refine Rat.lt_of_le_of_ne h1 fun e=>h ?_
 have hd:a.den=1:=by rw[←e];rfl
 rw[hd]
 exact Int.emod_one _
theorem pQ_ {a b:Rat} (hf:a.floor=b.floor) :
  cmpR a b=if a.num%(a.den:Int)=0 then (if b.num%(b.den:Int)=0 then 0 else -1) else (if b.num%(b.den:Int)=0 then 1 else -cmpR (Rat.divInt a.den (a.num%a.den)) (Rat.divInt b.den (b.num%b.den))):=by
 by_cases ha:a.num%(a.den:Int)=0
 ·rw[if_pos ha]
  by_cases hb:b.num%(b.den:Int)=0
  ·rw[if_pos hb]
   have e:a=b:=by rw[kQ_ ha,hf,←kQ_ hb]
   rw[e,yE_]
  ·rw[if_neg hb]
   refine tX_ ?_
   rw[kQ_ ha,hf]
   exact gR_ hb
 ·rw[if_neg ha]
  by_cases hb:b.num%(b.den:Int)=0
  ·rw[if_pos hb]
   refine tY_ ?_
   rw[kQ_ hb,←hf]
   exact gR_ ha
  ·rw[if_neg hb,←aHS]
   have hx:0<Rat.divInt (a.num%a.den) a.den:=by
    have h1:=gR_ ha
    have h2:=oI_ a
    generalize Rat.divInt (a.num%a.den) a.den=x at h2
    rw[h2] at h1
    have h3:(a.floor:Rat)+0<(a.floor:Rat)+x:=by
     rw[Rat.add_zero]
     have e:((a.floor:Rat)+x).floor=a.floor:=by rw[←h2]
     rwa[e] at h1
    exact Rat.add_lt_add_left.1 h3
   have hy:0<Rat.divInt (b.num%b.den) b.den:=by
    have h1:=gR_ hb
    have h2:=oI_ b
    generalize Rat.divInt (b.num%b.den) b.den=x at h2
    rw[h2] at h1
    have h3:(b.floor:Rat)+0<(b.floor:Rat)+x:=by
     rw[Rat.add_zero]
     have e:((b.floor:Rat)+x).floor=b.floor:=by rw[←h2]
     rwa[e] at h1
    exact Rat.add_lt_add_left.1 h3
   have ea:=oI_ a
   have eb:=oI_ b
   rw[←hf] at eb
   rw[show Rat.divInt a.den (a.num%a.den)=(Rat.divInt (a.num%a.den) a.den)⁻¹ from(Rat.inv_divInt _ _).symm,show Rat.divInt b.den (b.num%b.den)=(Rat.divInt (b.num%b.den) b.den)⁻¹ from(Rat.inv_divInt _ _).symm]
   generalize Rat.divInt (a.num%a.den) a.den=x at ea hx
   generalize Rat.divInt (b.num%b.den) b.den=y at eb hy
   refine aCR ?_ ?_
   ·rw[←rG_ hx hy]
    generalize (a.floor:Rat)=f at ea eb
    rw[ea,eb]
    exact Rat.add_lt_add_left
   ·rw[←rG_ hy hx]
    generalize (a.floor:Rat)=f at ea eb
    rw[ea,eb]
    exact Rat.add_lt_add_left
theorem aAB {a:Rat} (h:a.num%(a.den:Int)≠0):(Rat.divInt a.den (a.num%a.den)).num=a.den∧((Rat.divInt a.den (a.num%a.den)).den:Int)=a.num%a.den:=by
 refine aFR (sP_ h).1 ?_
 have h1:=a.reduced
 have h2:=(sP_ h).1
 unfold Nat.Coprime at h1
 have e:Int.gcd (a.den:Int) (a.num%a.den)=1:=by
  have h4:a.num=(a.num%(a.den:Int))+(a.den:Int)*(a.num/(a.den:Int)):=(Int.emod_add_mul_ediv _ _).symm
  have h5:Int.gcd a.num a.den=1:=h1
  generalize a.num%(a.den:Int)=m at h4 h2⊢
  generalize a.num/(a.den:Int)=k at h4
  rw[h4,Int.gcd_add_mul_left_left] at h5
  rw[Int.gcd_comm]
  exact h5
 exact e
def opS (o:Option Int):ByteArray:=match o with|some z=>if small z=true then str z else ⟨#[]⟩|none=>⟨#[]⟩
def opN (o:Option Int):Int:=match o with|some z=>if small z=true then 0 else 30|none=>30
theorem dE_:opS none=⟨#[]⟩:=rfl
theorem dF_:opN none=30:=rfl
theorem aB_ {z:Int} (h:small z=true):opS (some z)=str z:=by unfold opS;exact if_pos h
theorem aV_ {z:Int} (h:small z=true):opN (some z)=0:=by unfold opN;exact if_pos h
def addO (a b:ByteArray):Option Int:=match aC_ a,aC_ b with|some x,some y=>some (x+y)|_,_=>none
def subO (a b:ByteArray):Option Int:=match aC_ a,aC_ b with|some x,some y=>some (x-y)|_,_=>none
def mulO (a b:ByteArray):Option Int:=match aC_ a,aC_ b with|some x,some y=>some (x*y)|_,_=>none
def gcdO (a b:ByteArray):Option Int:=match aC_ a,aC_ b with|some x,some y=>some ((Nat.gcd x.natAbs y.natAbs:Nat):Int)|_,_=>none
def divO (a b:ByteArray):Option Int:=match aC_ a,aC_ b with|some x,some y=>if y=0 then none else some (x/y)|_,_=>none
def modO (a b:ByteArray):Option Int:=match aC_ a,aC_ b with|some x,some y=>if y=0 then none else some (x%y)|_,_=>none
def cmpO (a b:ByteArray):Int:=match aC_ a,aC_ b with|some x,some y=>cmpI x y|_,_=>0
def Sz (a:ByteArray):Prop:=a.size≤281474976710656
theorem Sz.le {a:ByteArray} (h:Sz a):a.size≤9223372036854775807:=by unfold Sz at h;omega
def hG_ (a b:ByteArray):Option Rat:=match aC_ a,aC_ b with|some p,some q=>aO_ p q|_,_=>none
def op2 (f:Rat→Rat→Option Rat) (n1 d1 n2 d2:ByteArray):Option Rat:=match ratO n1 d1,ratO n2 d2 with|some a,some b=>f a b|_,_=>none
def cmpS (n1 d1 n2 d2:ByteArray):Int:=match ratO n1 d1,ratO n2 d2 with|some a,some b=>cmpR a b|_,_=>0
theorem oL_ (r:Rat):qN (some r)=str r.num:=rfl
theorem oM_ (r:Rat):qD (some r)=str (r.den:Int):=rfl
theorem sU_ (r:Rat):qE (some r)=0:=rfl
theorem dN_ {a b:ByteArray} {p q:Int} (ha:aC_ a=some p) (hb:aC_ b=some q):hG_ a b=aO_ p q:=by unfold hG_;rw[ha,hb]
theorem lN_ {a b:ByteArray} (h:aC_ a=none∨aC_ b=none):hG_ a b=none:=by
 unfold hG_
 rcases h with h|h
 ·rw[h]
 ·cases aC_ a <;> rw[h]
theorem gO_ {f:Rat→Rat→Option Rat} {n1 d1 n2 d2:ByteArray} {a b:Rat} (ha:ratO n1 d1=some a) (hb:ratO n2 d2=some b):op2 f n1 d1 n2 d2=f a b:=by unfold op2;rw[ha,hb]
theorem gP_ {f:Rat→Rat→Option Rat} {n1 d1 n2 d2:ByteArray} (h:ratO n1 d1=none∨ratO n2 d2=none):op2 f n1 d1 n2 d2=none:=by
 unfold op2
 rcases h with h|h
 ·rw[h]
 ·cases ratO n1 d1 <;> rw[h]
theorem wI_ {n1 d1 n2 d2:ByteArray} {a b:Rat} (ha:ratO n1 d1=some a) (hb:ratO n2 d2=some b):cmpS n1 d1 n2 d2=cmpR a b:=by unfold cmpS;rw[ha,hb]
theorem wJ_ {n1 d1 n2 d2:ByteArray} (h:ratO n1 d1=none∨ratO n2 d2=none):cmpS n1 d1 n2 d2=0:=by
 unfold cmpS
 rcases h with h|h
 ·rw[h]
 ·cases ratO n1 d1 <;> rw[h]
theorem hT_ {p q:Int} {r:Rat} (hp:small p=true) (hq:small q=true) (h:aO_ p q=some r):jD_ r:=by
 unfold aO_ at h
 split at h
 ·cases h
 ·cases h
  exact aGN hp hq (by assumption)
theorem aMD {a b r:Rat} (h:addR a b=some r):jD_ r:=by
 rw[qB_] at h
 split at h
 case isTrue hc=>exact hT_ hc.2.2.1 hc.2.2.2 h
 case isFalse=>cases h
theorem aJC {a b r:Rat} (h:subR a b=some r):jD_ r:=by
 rw[oB_] at h
 split at h
 case isTrue hc=>exact hT_ hc.2.2.1 hc.2.2.2 h
 case isFalse=>cases h
theorem aKA {a b r:Rat} (h:mulR a b=some r):jD_ r:=by
 rw[oV_] at h
 split at h
 case isTrue hc=>exact hT_ hc.1 hc.2 h
 case isFalse=>cases h
theorem aKV {a b r:Rat} (h:divR a b=some r):jD_ r:=by
 rw[pK_] at h
 split at h
 case isTrue hc=>exact hT_ hc.1 hc.2 h
 case isFalse=>cases h
end Go.Proofs.YtjfdefglpoancaaGreatDoor
namespace Go.Proofs.YtjfdefglpoancaaGreatDoor
open Go.RowKit Go.Shelf
attribute [local go_sem] Oper.semAt_some
structure IOps (w:World):Prop where
 val:∀{a:ByteArray},Sz a→∀W,Below w.heap.size w W→Calls Tryz.prog 133 #[.string a] W fun e W'=>e=.returned (.bool (aH_ a.data.toList))∧Below W.heap.size W W'
 cmp:∀{a b:ByteArray},Sz a→Sz b→∀W,Below w.heap.size w W→Calls Tryz.prog 120 #[.string a,.string b] W fun e W'=>e=.returned (.int .i64 (cmpO a b))∧Below W.heap.size W W'
 gcd:∀{a b:ByteArray},Sz a→Sz b→∀W,Below w.heap.size w W→Calls Tryz.prog 156 #[.string a,.string b] W fun e W'=>e=.returned (.tuple #[.string (opS (gcdO a b)),.int .i64 (opN (gcdO a b))])∧Below W.heap.size W W'
 add:∀{a b:ByteArray},Sz a→Sz b→∀W,Below w.heap.size w W→Calls Tryz.prog 121 #[.string a,.string b] W fun e W'=>e=.returned (.tuple #[.string (opS (addO a b)),.int .i64 (opN (addO a b))])∧Below W.heap.size W W'
 sub:∀{a b:ByteArray},Sz a→Sz b→∀W,Below w.heap.size w W→Calls Tryz.prog 114 #[.string a,.string b] W fun e W'=>e=.returned (.tuple #[.string (opS (subO a b)),.int .i64 (opN (subO a b))])∧Below W.heap.size W W'
 mul:∀{a b:ByteArray},Sz a→Sz b→∀W,Below w.heap.size w W→Calls Tryz.prog 171 #[.string a,.string b] W fun e W'=>e=.returned (.tuple #[.string (opS (mulO a b)),.int .i64 (opN (mulO a b))])∧Below W.heap.size W W'
 div:∀{a b:ByteArray},Sz a→Sz b→∀W,Below w.heap.size w W→Calls Tryz.prog 119 #[.string a,.string b] W fun e W'=>e=.returned (.tuple #[.string (opS (divO a b)),.string (opS (modO a b)),.int .i64 (opN (divO a b))])∧Below W.heap.size W W'
theorem IOps.below {w w':World} (h:IOps w) (hb:Below w.heap.size w w'):IOps w':=
 ⟨fun ha W hk=>h.val ha W (hb.trans (hk.mono hb.size)),fun ha hb' W hk=>h.cmp ha hb' W (hb.trans (hk.mono hb.size)),fun ha hb' W hk=>h.gcd ha hb' W (hb.trans (hk.mono hb.size)),
  fun ha hb' W hk=>h.add ha hb' W (hb.trans (hk.mono hb.size)),fun ha hb' W hk=>h.sub ha hb' W (hb.trans (hk.mono hb.size)),fun ha hb' W hk=>h.mul ha hb' W (hb.trans (hk.mono hb.size)),fun ha hb' W hk=>h.div ha hb' W (hb.trans (hk.mono hb.size))⟩
structure RtAt (X:Nat) (p q:ByteArray) (w W:World):Prop where
 bw:Below w.heap.size w W
 c0:W.cell? ⟨X,0,none⟩=some (.string p)
 c1:W.cell? ⟨X,1,none⟩=some (.string q)
 le:w.heap.size≤X
 sz:X<W.heap.size
theorem RtAt.below {X:Nat} {p q:ByteArray} {w W W':World} (h:RtAt X p q w W) (hb:Below W.heap.size W W'):RtAt X p q w W':=
 ⟨h.bw.trans (hb.mono h.bw.size),(hb.cell (p:=⟨X,0,none⟩) h.sz).trans h.c0,(hb.cell (p:=⟨X,1,none⟩) h.sz).trans h.c1,h.le,Nat.lt_of_lt_of_le h.sz hb.size⟩
theorem RtAt.start {w W:World} (h:Below w.heap.size w W) (p q:ByteArray) (t:TypeId):RtAt W.heap.size p q w (W.alloc (.cells #[.string p,.string q] t)):=
 ⟨h.alloc h.size _,by simp[go_sem],by simp[go_sem],h.size,by simp⟩
def vR (n d:ByteArray):Bool:=(ratO n d).isSome
theorem dS_:Sz ⟨#[48]⟩:=by unfold Sz;decide
theorem aML:Sz ⟨#[49]⟩:=by unfold Sz;decide
theorem uK_:Sz ⟨#[]⟩:=by unfold Sz;decide
theorem aEC:(⟨#[48]⟩:ByteArray)=str 0:=by rfl
theorem kU_:aC_ ⟨#[48]⟩=some 0:=by rw[aEC,bA_,if_pos (by decide)]
theorem iZ_ {d:ByteArray} {q:Int} (h:aC_ d=some q):cmpO d ⟨#[48]⟩=cmpI q 0:=by unfold cmpO;rw[h,kU_]
theorem hW_ {p q:Int} (hq:small q=true) (h:q≠0):small ((Nat.gcd p.natAbs q.natAbs:Nat):Int)=true:=sN_ hq (by rw[Int.natAbs_natCast];exact aKQ h)
theorem aGH {n d:ByteArray} {p q:Int} (h1:aC_ n=some p) (h2:aC_ d=some q) (h:q≠0):opS (gcdO n d)=str ((Nat.gcd p.natAbs q.natAbs:Nat):Int)∧opN (gcdO n d)=0:=by
 have e:gcdO n d=some ((Nat.gcd p.natAbs q.natAbs:Nat):Int):=by unfold gcdO;rw[h1,h2]
 rw[e]
 have:=hW_ (p:=p) (bH_ h2).2 h
 exact⟨aB_ this,aV_ this⟩
theorem aAE (z:Int):(str z).toList=txt z:=by
 rw[Lib.toList_data,cV_]
theorem aMV {z:Int} : ((str z).toList == [49])=decide (z=1):=by
 rw[aAE,show([49]:List UInt8)=txt 1 by decide]
 by_cases h:z=1
 ·rw[h];decide
 ·rw[decide_eq_false h]
  exact beq_eq_false_iff_ne.2 fun e=>h (wZ_ e)
theorem fP_ {z:Int} : ((str z).toList == [48])=decide (z=0):=by
 rw[aAE,show([48]:List UInt8)=txt 0 by decide]
 by_cases h:z=0
 ·rw[h];decide
 ·rw[decide_eq_false h]
  exact beq_eq_false_iff_ne.2 fun e=>h (wZ_ e)
theorem qC_ {n d:ByteArray} (zn:Sz n) (zd:Sz d) {w:World} (h:IOps w) :
  Calls Tryz.prog 118 #[.agg #[.string n,.string d]] w fun e W'=>e=.returned (.bool (vR n d))∧Below w.heap.size w W':=by
 have v1:=fun W hk=>h.val zn W hk
 have v2:=fun W hk=>h.val zd W hk
 have v3:=fun W hk=>h.cmp zd dS_ W hk
 have v4:=fun W hk=>h.gcd zn zd W hk
 rw[←bI_] at v1 v2
 have HS:=hid (RtAt.start (Below.refl _ w) n d 47)
 unfold vR ratO
 cases h1:aC_ n with
 | none=>
  rw[h1] at v1
  have V1:=hid v1
  clear v1 v2 v3 v4 h1
  go_enter Tryz.func118,Tryz.ntmps118
  go_wp2_with (first
   | (go_at_call 133;with_reducible refine(V1.out _ HS.out.bw).mono ?_;rintro e w1 ⟨rfl,hb1⟩;have H1:=hid (HS.out.below hb1))
   | fail)
  go_ret
  exact⟨rfl,H1.out.bw⟩
 | some p=>
  rw[h1] at v1
  cases h2:aC_ d with
  | none=>
   rw[h2] at v2
   have V1:=hid v1
   have V2:=hid v2
   clear v1 v2 v3 v4 h1 h2
   go_enter Tryz.func118,Tryz.ntmps118
   go_wp2_with (first
    | (go_at_call 133;with_reducible refine(V1.out _ HS.out.bw).mono ?_;rintro e w1 ⟨rfl,hb1⟩;have h1:=HS.out.below hb1;have c1:=h1.c0;have d1:=h1.c1;have H1:=hid h1;clear h1)
    | (go_at_call 133;with_reducible refine(V2.out _ H1.out.bw).mono ?_;rintro e w2 ⟨rfl,hb2⟩;have h2:=H1.out.below hb2;have c2:=h2.c0;have d2:=h2.c1;have H2:=hid h2;clear h2)
    | fail)
   go_ret
   exact⟨rfl,H2.out.bw⟩
  | some q=>
   rw[h2] at v2
   rw[iZ_ h2] at v3
   have V1:=hid v1
   have V2:=hid v2
   clear v1 v2
   by_cases hq:0<q
   ·rw[show cmpI q 0=1 by unfold cmpI;rw[if_neg (by omega),if_pos hq]] at v3
    obtain⟨g1,g2⟩:=aGH h1 h2 (p:=p) (q:=q) (by omega)
    rw[g1,g2] at v4
    have V3:=hid v3
    have V4:=hid v4
    clear v3 v4 g1 g2 h1 h2
    have key:(match (some p:Option Int),(some q:Option Int) with|some p,some q=>if 0<q∧Nat.gcd p.natAbs q.natAbs=1 then some (Rat.divInt p q) else none|_,_=>none).isSome=((str ((Nat.gcd p.natAbs q.natAbs:Nat):Int)).toList == [49]):=by
     rw[aMV]
     show(if _ then _ else _:Option Rat).isSome=_
     by_cases hg:Nat.gcd p.natAbs q.natAbs=1
     ·rw[if_pos ⟨hq,hg⟩,hg];rfl
     ·rw[if_neg (fun k=>hg k.2)]
      exact(decide_eq_false (by omega)).symm
    rw[key]
    clear key
    generalize str ((Nat.gcd p.natAbs q.natAbs:Nat):Int)=g at V4⊢
    go_enter Tryz.func118,Tryz.ntmps118
    go_wp2_with (first
     | (go_at_call 133;with_reducible refine(V1.out _ HS.out.bw).mono ?_;rintro e w1 ⟨rfl,hb1⟩;have h1:=HS.out.below hb1;have c1:=h1.c0;have d1:=h1.c1;have H1:=hid h1;clear h1)
     | (go_at_call 133;with_reducible refine(V2.out _ H1.out.bw).mono ?_;rintro e w2 ⟨rfl,hb2⟩;have h2:=H1.out.below hb2;have c2:=h2.c0;have d2:=h2.c1;have H2:=hid h2;clear h2)
     | (go_at_call 120;with_reducible refine(V3.out _ H2.out.bw).mono ?_;rintro e w3 ⟨rfl,hb3⟩;have h3:=H2.out.below hb3;have c3:=h3.c0;have d3:=h3.c1;have H3:=hid h3;clear h3)
     | (go_at_call 156;with_reducible refine(V4.out _ H3.out.bw).mono ?_;rintro e w4 ⟨rfl,hb4⟩;have h4:=H3.out.below hb4;have c4:=h4.c0;have d4:=h4.c1;have H4:=hid h4;clear h4)
     | fail)
    go_ret
    exact⟨rfl,H4.out.bw⟩
   ·have hq0:q≤0:=by omega
    have key:(match (some p:Option Int),(some q:Option Int) with|some p,some q=>if 0<q∧Nat.gcd p.natAbs q.natAbs=1 then some (Rat.divInt p q) else none|_,_=>none).isSome=false:=by
     show(if _ then _ else _:Option Rat).isSome=_
     rw[if_neg (fun k=>hq k.1)]
     rfl
    rw[key]
    have hc:cmpI q 0≤0:=by unfold cmpI;rw[if_neg (show ¬0<q from hq)];split <;> omega
    clear key hq hq0 h1 h2 v4
    generalize cmpI q 0=c at v3 hc
    have V3:=hid v3
    clear v3
    go_enter Tryz.func118,Tryz.ntmps118
    go_wp2_with (first
     | (go_at_call 133;with_reducible refine(V1.out _ HS.out.bw).mono ?_;rintro e w1 ⟨rfl,hb1⟩;have h1:=HS.out.below hb1;have c1:=h1.c0;have d1:=h1.c1;have H1:=hid h1;clear h1)
     | (go_at_call 133;with_reducible refine(V2.out _ H1.out.bw).mono ?_;rintro e w2 ⟨rfl,hb2⟩;have h2:=H1.out.below hb2;have c2:=h2.c0;have d2:=h2.c1;have H2:=hid h2;clear h2)
     | (go_at_call 120;with_reducible refine(V3.out _ H2.out.bw).mono ?_;rintro e w3 ⟨rfl,hb3⟩;have h3:=H2.out.below hb3;have H3:=hid h3;clear h3)
     | fail)
    go_ret
    exact⟨rfl,H3.out.bw⟩
def stS (b:Bool) (o:Option Int):ByteArray:=if b=true then ⟨#[]⟩ else opS o
def stB (b:Bool) (o:Option Int):Bool:=b||(opN o != 0)
theorem bU_ (o:Option Int):Sz (opS o):=by
 unfold opS
 cases o with
 | none=>exact uK_
 | some z=>
  by_cases h:small z=true
  ·simp only[h]
   unfold Sz
   rw[if_pos trivial,kK_]
   have:=iJ_ z
   have:nDig z.natAbs≤200:=by simpa[small] using h
   omega
  ·simp only[h]
   exact uK_
theorem mE_ (b:Bool) (o:Option Int):Sz (stS b o):=by
 unfold stS
 split
 ·exact uK_
 ·exact bU_ o
theorem kL_ (o:Option Int):stS false o=opS o:=rfl
theorem eT_ {z:Int} (h:small z=true):stB false (some z)=false:=by unfold stB;rw[aV_ h];rfl
theorem vG_ {z:Int} (h:¬small z=true):opN (some z)=30:=by unfold opN;exact if_neg h
theorem kM_ {z:Int} (h:¬small z=true) (b:Bool):stB b (some z)=true:=by unfold stB;rw[vG_ h];simp
theorem do_q (K:Nat) (o:Option Int) {n N:Nat} {b:Bool} {w W:World} (x y:ByteArray) (h:WkAt n N b w W)
  (hent:∀(args:Array Value) (w:World),(callFunc K args).run Tryz.prog w=.ok (.enter K args) w)
  (hK:b=false→Calls Tryz.prog K #[.string x,.string y] W fun e W'=>e=.returned (.tuple #[.string (opS o),.int .i64 (opN o)])∧Below W.heap.size W W') :
  Calls Tryz.prog 143 #[.pointer (some ⟨N,0,none⟩),.func (.func K) #[] #[],.string x,.string y] W fun e W'=>e=.returned (.string (stS b o))∧WkTo n N (stB b o) w W W':=
 do_any K x y (opS o) (opN o) h hent hK
theorem mul_q {n N:Nat} {b:Bool} {x y:ByteArray} {w W:World} (zx:Sz x) (zy:Sz y) (h:WkAt n N b w W) (hi:IOps W) :
  Calls Tryz.prog 144 #[.pointer (some ⟨N,0,none⟩),.string x,.string y] W fun e W'=>e=.returned (.string (stS b (mulO x y)))∧WkTo n N (stB b (mulO x y)) w W W':=by
 have hd:=hid (do_q 171 (mulO x y) x y h (enters_of Tryz.func171 (by kernel_rfl) rfl) (fun _=>hi.mul zx zy W (Below.refl _ _)))
 clear h hi
 go_enter Tryz.func144,Tryz.ntmps144
 go_wp2_with (go_at_call 143;with_reducible refine(hd.out).mono ?_;rintro e w1 ⟨rfl,h1⟩)
 go_ret
 exact⟨rfl,h1⟩
theorem quot1 {x y:ByteArray} {w:World} (zx:Sz x) (zy:Sz y) (hi:IOps w) :
  Calls Tryz.prog 190 #[.string x,.string y] w fun e W'=>e=.returned (.tuple #[.string (opS (divO x y)),.int .i64 (opN (divO x y))])∧Below w.heap.size w W':=by
 have hd:=hid (hi.div zx zy w (Below.refl _ _))
 clear hi
 go_enter Tryz.func190,Tryz.ntmps190
 go_wp2_with (go_at_call 119;with_reducible refine(hd.out).mono ?_;rintro e w1 ⟨rfl,h1⟩)
 refine bodyPost_ret (v:=.tuple #[.string (opS (divO x y)),.int .i64 (opN (divO x y))]) ?_ rfl ⟨rfl,h1⟩
 simp[results,Tryz.results190,go_sem]
theorem aBK {n N:Nat} {b:Bool} {x y:ByteArray} {w W:World} (zx:Sz x) (zy:Sz y) (h:WkAt n N b w W) (hi:IOps W) :
  Calls Tryz.prog 168 #[.pointer (some ⟨N,0,none⟩),.string x,.string y] W fun e W'=>e=.returned (.string (stS b (divO x y)))∧WkTo n N (stB b (divO x y)) w W W':=by
 have hd:=hid (do_q 190 (divO x y) x y h (enters_of Tryz.func190 (by kernel_rfl) rfl) (fun _=>quot1 zx zy hi))
 clear h hi
 go_enter Tryz.func168,Tryz.ntmps168
 go_wp2_with (go_at_call 143;with_reducible refine(hd.out).mono ?_;rintro e w1 ⟨rfl,h1⟩)
 go_ret
 exact⟨rfl,h1⟩
theorem do_s (K:Nat) {z:Int} {o:Option Int} {n N:Nat} {w W:World} (x y:ByteArray) (h:WkAt n N false w W) (e:o=some z) (hs:small z=true)
  (hent:∀(args:Array Value) (w:World),(callFunc K args).run Tryz.prog w=.ok (.enter K args) w)
  (hK:Calls Tryz.prog K #[.string x,.string y] W fun e W'=>e=.returned (.tuple #[.string (opS o),.int .i64 (opN o)])∧Below W.heap.size W W') :
  Calls Tryz.prog 143 #[.pointer (some ⟨N,0,none⟩),.func (.func K) #[] #[],.string x,.string y] W fun e W'=>e=.returned (.string (str z))∧WkTo n N false w W W':=by
 have hd:=do_q K o x y h hent (fun _=>hK)
 rw[e,kL_,aB_ hs,eT_ hs] at hd
 exact hd
theorem iP_ {z:Int} {n N:Nat} {x y:ByteArray} {w W:World} (zx:Sz x) (zy:Sz y) (h:WkAt n N false w W) (hi:IOps W) (e:divO x y=some z) (hs:small z=true) :
  Calls Tryz.prog 168 #[.pointer (some ⟨N,0,none⟩),.string x,.string y] W fun e W'=>e=.returned (.string (str z))∧WkTo n N false w W W':=by
 have hd:=aBK zx zy h hi
 rw[e,kL_,aB_ hs,eT_ hs] at hd
 exact hd
structure RdAt (N R:Nat) (w W:World):Prop where
 wk:WkAt w.heap.size N false w W
 r0:W.cell? ⟨R,0,none⟩=some (.string ⟨#[]⟩)
 r1:W.cell? ⟨R,1,none⟩=some (.string ⟨#[]⟩)
 f0:W.frozen? ⟨R,0,none⟩=false
 f1:W.frozen? ⟨R,1,none⟩=false
 le:N<R
 sz:R<W.heap.size
theorem RdAt.to {N R:Nat} {w W W':World} (h:RdAt N R w W) (h2:WkTo w.heap.size N false w W W'):RdAt N R w W':=by
 obtain⟨c,f⟩:=h2.keep h.le h.sz
 exact⟨h2.wk,(c _).trans h.r0,(c _).trans h.r1,(f _).trans h.f0,(f _).trans h.f1,h.le,Nat.lt_of_lt_of_le h.sz h2.size⟩
theorem RdAt.al {N R:Nat} {w W:World} (h:RdAt N R w W):(∀o,(W.alloc o).cell? ⟨N,0,none⟩=some (.bool false))∧(∀o,(W.alloc o).cell? ⟨R,0,none⟩=some (.string ⟨#[]⟩))∧(∀o,(W.alloc o).cell? ⟨R,1,none⟩=some (.string ⟨#[]⟩))∧
  (∀o,(W.alloc o).frozen? ⟨R,0,none⟩=false)∧(∀o,(W.alloc o).frozen? ⟨R,1,none⟩=false):=by
 have hb:=fun o=>pW_ ((Below.refl W.heap.size W).alloc (Nat.le_refl _) o)
 exact⟨fun o=>((hb o).1 _ _ h.wk.sz).trans h.wk.c,fun o=>((hb o).1 _ _ h.sz).trans h.r0,fun o=>((hb o).1 _ _ h.sz).trans h.r1,fun o=>((hb o).2 _ _ h.sz).trans h.f0,fun o=>((hb o).2 _ _ h.sz).trans h.f1⟩
theorem RdAt.start {N:Nat} {w W:World} (h:WkAt w.heap.size N false w W) (t:TypeId):RdAt N W.heap.size w (W.alloc (.cells #[.string ⟨#[]⟩,.string ⟨#[]⟩] t)):=
 ⟨h.alloc _,by simp[go_sem],by simp[go_sem],by simp[go_sem],by simp[go_sem],h.sz,by simp⟩
theorem jR_ {N:Nat} {b:Bool} {x y:ByteArray} {w W:World} (h:WkAt w.heap.size N b w W) (hx:b=true∨b=false∧y=⟨#[48]⟩) :
  Calls Tryz.prog 134 #[.pointer (some ⟨N,0,none⟩),.string x,.string y] W fun e W'=>e=.returned (.tuple #[.agg #[.string ⟨#[]⟩,.string ⟨#[]⟩],.int .i64 40])∧Below w.heap.size w W':=by
 have c0:=h.c
 have hs:=h.sz
 have hl:=h.le
 have hb:=h.bw
 obtain⟨c,f⟩:=pW_ ((Below.refl W.heap.size W).alloc (Nat.le_refl _) (.cells #[.string ⟨#[]⟩,.string ⟨#[]⟩] 47))
 have c1:=(c N 0 hs).trans c0
 clear h c f
 rcases hx with rfl|⟨rfl,rfl⟩
 all_goals
  go_enter Tryz.func134,Tryz.ntmps134
  go_wp2
  refine bodyPost_ret (v:=.tuple #[.agg #[.string ⟨#[]⟩,.string ⟨#[]⟩],.int .i64 40]) ?_ rfl ⟨rfl,hb.alloc (by omega) _⟩
  simp[results,Tryz.results134,go_sem,Result.andThen]
theorem xF_ {N:Nat} {x y:ByteArray} {p q:Int} {w W:World} (h:WkAt w.heap.size N false w W) (hi:IOps w) (zx:Sz x) (zy:Sz y) (h1:aC_ x=some p) (h2:aC_ y=some q) (hq:0<q) :
  Calls Tryz.prog 134 #[.pointer (some ⟨N,0,none⟩),.string x,.string y] W fun e W'=>e=.returned (.tuple #[.agg #[.string (str (p/((Nat.gcd p.natAbs q.natAbs:Nat):Int))),.string (str (q/((Nat.gcd p.natAbs q.natAbs:Nat):Int)))],.int .i64 0])∧Below w.heap.size w W':=by
 obtain⟨ex,hp⟩:=bH_ h1
 obtain⟨ey,hqs⟩:=bH_ h2
 have hy:(y.toList == [48])=false:=by
  rw[ey,fP_]
  exact decide_eq_false (by omega)
 have hg:=hW_ (p:=p) hqs (by omega)
 have hg0:0<Nat.gcd p.natAbs q.natAbs:=tJ_ (by omega)
 have eg:gcdO x y=some ((Nat.gcd p.natAbs q.natAbs:Nat):Int):=by unfold gcdO;rw[h1,h2]
 generalize Nat.gcd p.natAbs q.natAbs=g at eg hg hg0⊢
 have ng:aC_ (str (g:Int))=some (g:Int):=by rw[bA_,if_pos hg]
 have zg:Sz (str (g:Int)):=by rw[←aB_ hg];exact bU_ _
 have ed1:divO x (str (g:Int))=some (p/g):=by unfold divO;rw[h1,ng];exact if_neg (by omega)
 have ed2:divO y (str (g:Int))=some (q/g):=by unfold divO;rw[h2,ng];exact if_neg (by omega)
 have hR:=RdAt.start h 47
 have kc:=hid (fun W' (k:Below w.heap.size w W')=>by have:=hi.cmp zy dS_ W' k;rw[iZ_ h2,show cmpI q 0=1 by unfold cmpI;rw[if_neg (by omega),if_pos hq]] at this;exact this)
 have kg:=hid (fun W' (k:WkAt w.heap.size N false w W')=>do_s 156 x y k eg hg (enters_of Tryz.func156 (by kernel_rfl) rfl) ((hi.below k.bw).gcd zx zy W' (Below.refl _ _)))
 have k1:=hid (fun W' (k:WkAt w.heap.size N false w W')=>iP_ zx zg k (hi.below k.bw) ed1 (aL_ g hp))
 have k2:=hid (fun W' (k:WkAt w.heap.size N false w W')=>iP_ zy zg k (hi.below k.bw) ed2 (aL_ g hqs))
 generalize str (g:Int)=sg at kg k1 k2
 generalize str (p/(g:Int))=s1 at k1⊢
 generalize str (q/(g:Int))=s2 at k2⊢
 clear ed1 ed2 ng zg eg hg hg0 ex ey hp hqs h1 h2 hi
 have c0:=hR.wk.c
 have H0:=hid hR
 clear hR h hq
 go_enter Tryz.func134,Tryz.ntmps134
 go_wp2_with (first
  | (go_at_call 120;with_reducible refine(kc.out _ H0.out.wk.bw).mono ?_;rintro e w1 ⟨rfl,hb⟩;have H1:=hid (H0.out.to (WkTo.below H0.out.wk hb));clear hb)
  | (go_at_call 143;with_reducible refine(kg.out _ H1.out.wk).mono ?_;rintro e w2 ⟨rfl,hb⟩;have H2:=hid (H1.out.to hb);clear hb)
  | (go_at_call 168;with_reducible refine(k1.out _ H2.out.wk).mono ?_;rintro e w3 ⟨rfl,hb⟩;have H3:=hid (H2.out.to hb);clear hb)
  | (go_at_call 168;with_reducible refine(k2.out _ H3.out.wk).mono ?_;rintro e w4 ⟨rfl,hb⟩;have h4:=H3.out.to hb;obtain⟨c4,q1,q2,q3,q4⟩:=h4.al;have H4:=hid h4;clear hb h4)
  | fail)
 obtain⟨W5,hW5⟩:∃W5,(((w4.alloc (.cells #[.string s1,.string s2] 47)).setCell ⟨W.heap.size,0,none⟩ (.string s1)).setCell ⟨W.heap.size,1,none⟩ (.string s2))=W5:=⟨_,rfl⟩
 have p1:W5.cell? ⟨W.heap.size,1,none⟩=some (.string s2):=by
  rw[←hW5]
  exact World.cell?_setCell_same _ _ _ ((World.cell?_setCell_other _ _ _ _ (by simp)).trans (q2 _))
 have p0:W5.cell? ⟨W.heap.size,0,none⟩=some (.string s1):=by
  rw[←hW5]
  exact(World.cell?_setCell_other _ _ _ _ (by simp)).trans (World.cell?_setCell_same _ _ _ (q1 _))
 have hbl:Below w.heap.size w W5:=by
  rw[←hW5]
  have k:=H4.out.wk
  have:=H0.out.wk.le
  have:=H0.out.le
  exact((k.bw.alloc k.bw.size _).setCell (by simp;omega) _).setCell (by simp;omega) _
 rw[hW5]
 clear hW5
 refine bodyPost_ret (v:=.tuple #[.agg #[.string s1,.string s2],.int .i64 0]) ?_ rfl ⟨rfl,hbl⟩
 simp[results,Tryz.results134,go_sem,p0,p1,Result.andThen]
theorem xG_ {N:Nat} {x y:ByteArray} {p q:Int} {w W:World} (h:WkAt w.heap.size N false w W) (hi:IOps w) (zx:Sz x) (zy:Sz y) (h1:aC_ x=some p) (h2:aC_ y=some q) (hq:q<0) :
  Calls Tryz.prog 134 #[.pointer (some ⟨N,0,none⟩),.string x,.string y] W fun e W'=>e=.returned (.tuple #[.agg #[.string (str (-p/((Nat.gcd (-p).natAbs (-q).natAbs:Nat):Int))),.string (str (-q/((Nat.gcd (-p).natAbs (-q).natAbs:Nat):Int)))],.int .i64 0])∧Below w.heap.size w W':=by
 obtain⟨ex,hp⟩:=bH_ h1
 obtain⟨ey,hqs⟩:=bH_ h2
 have hy:(y.toList == [48])=false:=by
  rw[ey,fP_]
  exact decide_eq_false (by omega)
 have hg:=hW_ (p:=-p) (cZ_ hqs) (by omega)
 have hg0:0<Nat.gcd (-p).natAbs (-q).natAbs:=tJ_ (by omega)
 have e01:subO ⟨#[48]⟩ x=some (-p):=by unfold subO;rw[kU_,h1];show some (0-p)=_;rw[Int.zero_sub]
 have e02:subO ⟨#[48]⟩ y=some (-q):=by unfold subO;rw[kU_,h2];show some (0-q)=_;rw[Int.zero_sub]
 have hp':=cZ_ hp
 have hqs':=cZ_ hqs
 have m1:aC_ (str (-p))=some (-p):=by rw[bA_,if_pos hp']
 have m2:aC_ (str (-q))=some (-q):=by rw[bA_,if_pos hqs']
 have zx':Sz (str (-p)):=by rw[←aB_ hp'];exact bU_ _
 have zy':Sz (str (-q)):=by rw[←aB_ hqs'];exact bU_ _
 have eg:gcdO (str (-p)) (str (-q))=some ((Nat.gcd (-p).natAbs (-q).natAbs:Nat):Int):=by unfold gcdO;rw[m1,m2]
 generalize Nat.gcd (-p).natAbs (-q).natAbs=g at eg hg hg0⊢
 have ng:aC_ (str (g:Int))=some (g:Int):=by rw[bA_,if_pos hg]
 have zg:Sz (str (g:Int)):=by rw[←aB_ hg];exact bU_ _
 have ed1:divO (str (-p)) (str (g:Int))=some (-p/g):=by unfold divO;rw[m1,ng];exact if_neg (by omega)
 have ed2:divO (str (-q)) (str (g:Int))=some (-q/g):=by unfold divO;rw[m2,ng];exact if_neg (by omega)
 have hR:=RdAt.start h 47
 have kc:=hid (fun W' (k:Below w.heap.size w W')=>by have:=hi.cmp zy dS_ W' k;rw[iZ_ h2,show cmpI q 0 = -1 by unfold cmpI;rw[if_pos hq]] at this;exact this)
 have ks1:=hid (fun W' (k:WkAt w.heap.size N false w W')=>do_s 114 ⟨#[48]⟩ x k e01 hp' (enters_of Tryz.func114 (by kernel_rfl) rfl) ((hi.below k.bw).sub dS_ zx W' (Below.refl _ _)))
 have ks2:=hid (fun W' (k:WkAt w.heap.size N false w W')=>do_s 114 ⟨#[48]⟩ y k e02 hqs' (enters_of Tryz.func114 (by kernel_rfl) rfl) ((hi.below k.bw).sub dS_ zy W' (Below.refl _ _)))
 have kg:=hid (fun W' (k:WkAt w.heap.size N false w W')=>do_s 156 (str (-p)) (str (-q)) k eg hg (enters_of Tryz.func156 (by kernel_rfl) rfl) ((hi.below k.bw).gcd zx' zy' W' (Below.refl _ _)))
 have k1:=hid (fun W' (k:WkAt w.heap.size N false w W')=>iP_ zx' zg k (hi.below k.bw) ed1 (aL_ g hp'))
 have k2:=hid (fun W' (k:WkAt w.heap.size N false w W')=>iP_ zy' zg k (hi.below k.bw) ed2 (aL_ g hqs'))
 generalize str (g:Int)=sg at kg k1 k2
 generalize str (-p/(g:Int))=s1 at k1⊢
 generalize str (-q/(g:Int))=s2 at k2⊢
 generalize str (-p)=x' at ks1 kg k1
 generalize str (-q)=y' at ks2 kg k2
 clear ed1 ed2 ng zg eg hg hg0 ex ey hp hqs h1 h2 hi e01 e02 hp' hqs' m1 m2 zx' zy'
 have c0:=hR.wk.c
 have H0:=hid hR
 clear hR h hq
 go_enter Tryz.func134,Tryz.ntmps134
 go_wp2_with (first
  | (go_at_call 120;with_reducible refine(kc.out _ H0.out.wk.bw).mono ?_;rintro e w1 ⟨rfl,hb⟩;have H1:=hid (H0.out.to (WkTo.below H0.out.wk hb));clear hb)
  | (go_at_call 143;with_reducible refine(ks1.out _ H1.out.wk).mono ?_;rintro e w11 ⟨rfl,hb⟩;have H11:=hid (H1.out.to hb);clear hb)
  | (go_at_call 143;with_reducible refine(ks2.out _ H11.out.wk).mono ?_;rintro e w12 ⟨rfl,hb⟩;have H12:=hid (H11.out.to hb);clear hb)
  | (go_at_call 143;with_reducible refine(kg.out _ H12.out.wk).mono ?_;rintro e w2 ⟨rfl,hb⟩;have H2:=hid (H12.out.to hb);clear hb)
  | (go_at_call 168;with_reducible refine(k1.out _ H2.out.wk).mono ?_;rintro e w3 ⟨rfl,hb⟩;have H3:=hid (H2.out.to hb);clear hb)
  | (go_at_call 168;with_reducible refine(k2.out _ H3.out.wk).mono ?_;rintro e w4 ⟨rfl,hb⟩;have h4:=H3.out.to hb;obtain⟨c4,q1,q2,q3,q4⟩:=h4.al;have H4:=hid h4;clear hb h4)
  | fail)
 obtain⟨W5,hW5⟩:∃W5,(((w4.alloc (.cells #[.string s1,.string s2] 47)).setCell ⟨W.heap.size,0,none⟩ (.string s1)).setCell ⟨W.heap.size,1,none⟩ (.string s2))=W5:=⟨_,rfl⟩
 have p1:W5.cell? ⟨W.heap.size,1,none⟩=some (.string s2):=by
  rw[←hW5]
  exact World.cell?_setCell_same _ _ _ ((World.cell?_setCell_other _ _ _ _ (by simp)).trans (q2 _))
 have p0:W5.cell? ⟨W.heap.size,0,none⟩=some (.string s1):=by
  rw[←hW5]
  exact(World.cell?_setCell_other _ _ _ _ (by simp)).trans (World.cell?_setCell_same _ _ _ (q1 _))
 have hbl:Below w.heap.size w W5:=by
  rw[←hW5]
  have k:=H4.out.wk
  have:=H0.out.wk.le
  have:=H0.out.le
  exact((k.bw.alloc k.bw.size _).setCell (by simp;omega) _).setCell (by simp;omega) _
 rw[hW5]
 clear hW5
 refine bodyPost_ret (v:=.tuple #[.agg #[.string s1,.string s2],.int .i64 0]) ?_ rfl ⟨rfl,hbl⟩
 simp[results,Tryz.results134,go_sem,p0,p1,Result.andThen]
theorem uT_ {N:Nat} {b:Bool} {x y:ByteArray} {p q:Int} {w W:World} (h:WkAt w.heap.size N b w W) (hi:IOps w) (zx:Sz x) (zy:Sz y) (hx:b=false→aC_ x=some p∧aC_ y=some q) :
  Calls Tryz.prog 134 #[.pointer (some ⟨N,0,none⟩),.string x,.string y] W fun e W'=>e=.returned (.tuple #[.agg #[.string (qN (if b=true then none else aO_ p q)),.string (qD (if b=true then none else aO_ p q))],.int .i64 (qE (if b=true then none else aO_ p q))])∧Below w.heap.size w W':=by
 cases b with
 | true=>exact jR_ h (.inl rfl)
 | false=>
  obtain⟨h1,h2⟩:=hx rfl
  rw[if_neg (by decide)]
  unfold aO_
  rcases Int.lt_trichotomy q 0 with hq|hq|hq
  ·rw[if_neg (by omega),oL_,oM_,sU_,tB_ hq,tT_ hq]
   exact xG_ h hi zx zy h1 h2 hq
  ·rw[if_pos hq]
   refine jR_ h (.inr ⟨rfl,?_⟩)
   rw[(bH_ h2).1,hq]
   rfl
  ·rw[if_neg (by omega),oL_,oM_,sU_,lM_ hq,den_pos hq]
   exact xF_ h hi zx zy h1 h2 hq
theorem WkTo.trans {n N:Nat} {b b':Bool} {w W V U:World} (h:WkTo n N b w W V) (k:WkTo n N b' w V U):WkTo n N b' w W U:=
 ⟨k.wk,h.ag.trans (fun i h1 h2=>k.ag i h1 (Nat.lt_of_lt_of_le h2 h.size)),Nat.le_trans h.size k.size⟩
theorem WkAt.al {n N:Nat} {b:Bool} {w W:World} (h:WkAt n N b w W):(∀o,(W.alloc o).cell? ⟨N,0,none⟩=some (.bool b))∧(∀o,(W.alloc o).frozen? ⟨N,0,none⟩=false):=⟨fun o=>(h.alloc o).c,fun o=>(h.alloc o).f⟩
def chkB (b:Bool) (l:List (ByteArray×ByteArray)):Bool:=b || !(l.all fun p=>vR p.1 p.2)
theorem aHV (b:Bool) (l:List (ByteArray×ByteArray)):chkB b (l.take 0)=b:=by simp[chkB]
theorem aLJ (b:Bool) (l:List (ByteArray×ByteArray)):chkB b (l.take l.length)=chkB b l:=by rw[List.take_length]
theorem aHW (b:Bool) (l:List (ByteArray×ByteArray)) (k:Nat) (h:k<l.length):chkB b (l.take (k+1))=(chkB b (l.take k) || !vR l[k].1 l[k].2):=by
 unfold chkB
 rw[List.take_add_one,List.getElem?_eq_getElem h,List.all_append]
 simp[Bool.not_and,Bool.or_assoc]
structure FrAt (S:Nat) (l:List (ByteArray×ByteArray)) (W:World):Prop where
 row:∀k (h:k<l.length),W.cell? ⟨S,k*2,none⟩=some (.string l[k].1)∧W.cell? ⟨S,k*2+1,none⟩=some (.string l[k].2)
 sz:S<W.heap.size
 szs:∀p∈l,Sz p.1∧Sz p.2
theorem aRA {N S:Nat} {b:Bool} {l:List (ByteArray×ByteArray)} {w W:World} (h:WkAt w.heap.size N b w W) (hi:IOps w) (hf:FrAt S l W) (hNS:N<S) (hl:l.length≤2) :
  Calls Tryz.prog 142 #[.pointer (some ⟨N,0,none⟩),.slice (some ⟨S,0,none⟩) l.length l.length] W fun e W'=>(∃v,e=.returned v)∧WkTo w.heap.size N (chkB b l) w W W':=by
 have HW:=hid (WkTo.refl h)
 have HF:=hid hf
 have HI:=hid hi
 clear h hf hi
 go_enter Tryz.func142,Tryz.ntmps142
 go_wp2
 go_loopw [8] (fun i wr=>∃k:Nat,k≤l.length∧i=.int .i64 (k:Int)∧WkTo w.heap.size N (chkB b (l.take k)) w W wr) (fun i _=>l.length-(intOf i).toNat)
 case atStart=>exact⟨0,by omega,rfl,by rw[aHV];exact HW.out⟩
 case round=>
  obtain⟨k,hk,rfl,hto⟩:=hrel
  by_cases hk2:k<l.length
  ·obtain⟨c0,f0⟩:=hto.wk.al
   obtain⟨hc,_⟩:=hto.keep hNS HF.out.sz
   obtain⟨r1,r2⟩:=HF.out.row k hk2
   have r1:=(hc _).trans r1
   have r2:=(hc _).trans r2
   have hst:=aHW b l k hk2
   obtain⟨z1,z2⟩:=HF.out.szs _ (List.getElem_mem hk2)
   generalize l[k].1=p1 at r1 hst z1
   generalize l[k].2=p2 at r2 hst z2
   have HT:=hid hto
   have HST:=hid hst
   clear hto hc hst
   have hv:=hid (fun W' (k:WkAt w.heap.size N (chkB b (l.take k)) w W')=>qC_ z1 z2 (HI.out.below k.bw))
   cases hcb:chkB b (l.take k) with
   | true=>
    rw[hcb] at c0 hv HT HST
    go_wp2
    exact⟨⟨k+1,by omega,by go_num,by rw[HST.out];exact HT.out.trans ⟨(HT.out.wk.alloc _).set _,((bM_.refl _ _ _).alloc (Nat.le_refl _) _).setCell (.inl (by simp)) _,by simp⟩⟩,by simp only[intOf];omega⟩
   | false=>
    rw[hcb] at c0 hv HT HST
    go_wp2_with (go_at_call 118;with_reducible refine(hv.out _ (HT.out.wk.alloc _)).mono ?_;rintro e w1 ⟨rfl,hb⟩;have h1:=(HT.out.wk.alloc (.cells #[.string p1,.string p2] 47)).below hb;have c1:=h1.c;have f1:=h1.f;have H1:=hid h1;clear h1)
    exact⟨⟨k+1,by omega,by go_num,by rw[HST.out];exact HT.out.trans ⟨H1.out.set _,((bM_.of_below ((Below.refl _ _).alloc (Nat.le_refl _) _) (Nat.le_refl _)).trans (bM_.of_below hb (by simp))).setCell (.inl (by simp)) _,by have:=hb.size;simp at this⊢;omega⟩⟩,by simp only[intOf];omega⟩
  ·obtain rfl:k=l.length:=by omega
   rw[aLJ] at hto
   have HT:=hid hto
   clear hto
   go_wp2
   go_end0
   exact⟨⟨_,rfl⟩,HT.out⟩
structure RsAt (R:Nat) (w W:World):Prop where
 bw:Below w.heap.size w W
 r0:W.cell? ⟨R,0,none⟩=some (.string ⟨#[]⟩)
 r1:W.cell? ⟨R,1,none⟩=some (.string ⟨#[]⟩)
 f0:W.frozen? ⟨R,0,none⟩=false
 f1:W.frozen? ⟨R,1,none⟩=false
 le:w.heap.size≤R
 sz:R<W.heap.size
theorem RsAt.below {R:Nat} {w W W':World} (h:RsAt R w W) (hb:Below W.heap.size W W'):RsAt R w W':=by
 obtain⟨c,f⟩:=pW_ hb
 exact⟨h.bw.trans (hb.mono h.bw.size),(c _ _ h.sz).trans h.r0,(c _ _ h.sz).trans h.r1,(f _ _ h.sz).trans h.f0,(f _ _ h.sz).trans h.f1,h.le,Nat.lt_of_lt_of_le h.sz hb.size⟩
theorem RsAt.start {w W:World} (h:Below w.heap.size w W) (t:TypeId):RsAt W.heap.size w (W.alloc (.cells #[.string ⟨#[]⟩,.string ⟨#[]⟩] t)):=
 ⟨h.alloc h.size _,by simp[go_sem],by simp[go_sem],by simp[go_sem],by simp[go_sem],h.size,by simp⟩
theorem RsAt.fin {R:Nat} {w W:World} (h:RsAt R w W) (s t:ByteArray):∃W5,((W.setCell ⟨R,0,none⟩ (.string s)).setCell ⟨R,1,none⟩ (.string t))=W5∧W5.cell? ⟨R,0,none⟩=some (.string s)∧W5.cell? ⟨R,1,none⟩=some (.string t)∧Below w.heap.size w W5:=by
 refine⟨_,rfl,?_,?_,?_⟩
 ·exact(World.cell?_setCell_other _ _ _ _ (by simp)).trans (World.cell?_setCell_same _ _ _ h.r0)
 ·exact World.cell?_setCell_same _ _ _ ((World.cell?_setCell_other _ _ _ _ (by simp)).trans h.r1)
 ·exact(h.bw.setCell h.le _).setCell h.le _
theorem Make_q {x y:ByteArray} {w:World} (hi:IOps w) (zx:Sz x) (zy:Sz y) :
  Calls Tryz.prog 98 #[.string x,.string y] w fun e W'=>e=.returned (.tuple #[.agg #[.string (qN (hG_ x y)),.string (qD (hG_ x y))],.int .i64 (qE (hG_ x y))])∧Below w.heap.size w W':=by
 have H0:=hid (RsAt.start (Below.refl _ w) 47)
 have v1:=fun W hk=>hi.val zx W hk
 have v2:=fun W hk=>hi.val zy W hk
 rw[←bI_] at v1 v2
 have key:∀(b:Bool) (W':World),RsAt w.heap.size w W'→(b=false→∃p q,aC_ x=some p∧aC_ y=some q)→(b=true→aC_ x=none∨aC_ y=none)→Calls Tryz.prog 134 #[.pointer (some ⟨W'.heap.size,0,none⟩),.string x,.string y] (W'.alloc (.cells #[.bool b] 137)) fun e W2=>e=.returned (.tuple #[.agg #[.string (qN (hG_ x y)),.string (qD (hG_ x y))],.int .i64 (qE (hG_ x y))])∧RsAt w.heap.size w W2:=by
  intro b W' hk h1 h2
  have hs:=WkAt.start (Below.refl W'.heap.size W') (Nat.le_refl _) b
  cases b with
  | true=>
   rw[lN_ (h2 rfl)]
   refine(jR_ hs (.inl rfl)).mono ?_
   rintro e W2 ⟨rfl,hb⟩
   exact⟨rfl,hk.below hb⟩
  | false=>
   obtain⟨p,q,h3,h4⟩:=h1 rfl
   rw[dN_ h3 h4]
   refine(uT_ hs (hi.below hk.bw) zx zy (fun _=>⟨h3,h4⟩)).mono ?_
   rintro e W2 ⟨rfl,hb⟩
   exact⟨rfl,hk.below hb⟩
 generalize hG_ x y=o at key⊢
 cases h1:aC_ x with
 | none=>
  rw[h1] at v1
  have V1:=hid v1
  have K:=hid (fun W' hk=>key true W' hk (fun k=>by cases k) (fun _=>.inl h1))
  clear v1 v2 key h1
  go_enter Tryz.func98,Tryz.ntmps98
  go_wp2_with (first
   | (go_at_call 133;with_reducible refine(V1.out _ H0.out.bw).mono ?_;rintro e w1 ⟨rfl,hb1⟩;have H1:=hid (H0.out.below hb1);clear hb1)
   | (go_at_call 134;with_reducible refine(K.out _ H1.out).mono ?_;rintro e w2 ⟨rfl,h2⟩;obtain⟨_,q1,q2,q3,q4,_,_⟩:=id h2;have H2:=hid h2;clear h2)
   | fail)
  obtain⟨W5,hW5,p0,p1,hbl⟩:=H2.out.fin (qN o) (qD o)
  rw[hW5]
  clear hW5 q1 q2 q3 q4
  refine bodyPost_ret (v:=.tuple #[.agg #[.string (qN o),.string (qD o)],.int .i64 (qE o)]) ?_ rfl ⟨rfl,hbl⟩
  simp[results,Tryz.results98,go_sem,p0,p1,Result.andThen]
 | some p=>
  rw[h1] at v1
  cases h2:aC_ y with
  | none=>
   rw[h2] at v2
   have V1:=hid v1
   have V2:=hid v2
   have K:=hid (fun W' hk=>key true W' hk (fun k=>by cases k) (fun _=>.inr h2))
   clear v1 v2 key h1 h2
   go_enter Tryz.func98,Tryz.ntmps98
   go_wp2_with (first
    | (go_at_call 133;with_reducible refine(V1.out _ H0.out.bw).mono ?_;rintro e w1 ⟨rfl,hb1⟩;have H1:=hid (H0.out.below hb1);clear hb1)
    | (go_at_call 133;with_reducible refine(V2.out _ H1.out.bw).mono ?_;rintro e w2 ⟨rfl,hb1⟩;have H2:=hid (H1.out.below hb1);clear hb1)
    | (go_at_call 134;with_reducible refine(K.out _ H2.out).mono ?_;rintro e w3 ⟨rfl,h3⟩;obtain⟨_,q1,q2,q3,q4,_,_⟩:=id h3;have H3:=hid h3;clear h3)
    | fail)
   obtain⟨W5,hW5,p0,p1,hbl⟩:=H3.out.fin (qN o) (qD o)
   rw[hW5]
   clear hW5 q1 q2 q3 q4
   refine bodyPost_ret (v:=.tuple #[.agg #[.string (qN o),.string (qD o)],.int .i64 (qE o)]) ?_ rfl ⟨rfl,hbl⟩
   simp[results,Tryz.results98,go_sem,p0,p1,Result.andThen]
  | some q=>
   rw[h2] at v2
   have V1:=hid v1
   have V2:=hid v2
   have K:=hid (fun W' hk=>key false W' hk (fun _=>⟨p,q,h1,h2⟩) (fun k=>by cases k))
   clear v1 v2 key h1 h2
   go_enter Tryz.func98,Tryz.ntmps98
   go_wp2_with (first
    | (go_at_call 133;with_reducible refine(V1.out _ H0.out.bw).mono ?_;rintro e w1 ⟨rfl,hb1⟩;have H1:=hid (H0.out.below hb1);clear hb1)
    | (go_at_call 133;with_reducible refine(V2.out _ H1.out.bw).mono ?_;rintro e w2 ⟨rfl,hb1⟩;have H2:=hid (H1.out.below hb1);clear hb1)
    | (go_at_call 134;with_reducible refine(K.out _ H2.out).mono ?_;rintro e w3 ⟨rfl,h3⟩;obtain⟨_,q1,q2,q3,q4,_,_⟩:=id h3;have H3:=hid h3;clear h3)
    | fail)
   obtain⟨W5,hW5,p0,p1,hbl⟩:=H3.out.fin (qN o) (qD o)
   rw[hW5]
   clear hW5 q1 q2 q3 q4
   refine bodyPost_ret (v:=.tuple #[.agg #[.string (qN o),.string (qD o)],.int .i64 (qE o)]) ?_ rfl ⟨rfl,hbl⟩
   simp[results,Tryz.results98,go_sem,p0,p1,Result.andThen]
structure OpAt (a1 a2 b1 b2:ByteArray) (w W:World):Prop where
 bw:Below w.heap.size w W
 x0:W.cell? ⟨w.heap.size,0,none⟩=some (.string a1)
 x1:W.cell? ⟨w.heap.size,1,none⟩=some (.string a2)
 y0:W.cell? ⟨w.heap.size+1,0,none⟩=some (.string b1)
 y1:W.cell? ⟨w.heap.size+1,1,none⟩=some (.string b2)
 r0:W.cell? ⟨w.heap.size+1+1,0,none⟩=some (.string ⟨#[]⟩)
 r1:W.cell? ⟨w.heap.size+1+1,1,none⟩=some (.string ⟨#[]⟩)
 f0:W.frozen? ⟨w.heap.size+1+1,0,none⟩=false
 f1:W.frozen? ⟨w.heap.size+1+1,1,none⟩=false
 sz:w.heap.size+1+1+1≤W.heap.size
theorem OpAt.below {a1 a2 b1 b2:ByteArray} {w W W':World} (h:OpAt a1 a2 b1 b2 w W) (hb:Below W.heap.size W W'):OpAt a1 a2 b1 b2 w W':=by
 obtain⟨c,f⟩:=pW_ hb
 have hs:=h.sz
 have hs':=hb.size
 exact⟨h.bw.trans (hb.mono (by omega)),(c _ _ (by omega)).trans h.x0,(c _ _ (by omega)).trans h.x1,(c _ _ (by omega)).trans h.y0,(c _ _ (by omega)).trans h.y1,(c _ _ (by omega)).trans h.r0,(c _ _ (by omega)).trans h.r1,(f _ _ (by omega)).trans h.f0,(f _ _ (by omega)).trans h.f1,by omega⟩
theorem OpAt.rs {a1 a2 b1 b2:ByteArray} {w W:World} (h:OpAt a1 a2 b1 b2 w W):RsAt (w.heap.size+1+1) w W:=⟨h.bw,h.r0,h.r1,h.f0,h.f1,by omega,by have:=h.sz;omega⟩
theorem OpAt.start (w:World) (a1 a2 b1 b2:ByteArray) (t:TypeId):OpAt a1 a2 b1 b2 w (((w.alloc (.cells #[.string a1,.string a2] t)).alloc (.cells #[.string b1,.string b2] t)).alloc (.cells #[.string ⟨#[]⟩,.string ⟨#[]⟩] t)):=by
 refine⟨(((Below.refl _ _).alloc (Nat.le_refl _) _).alloc (by simp) _).alloc (by simp;omega) _,?_,?_,?_,?_,?_,?_,?_,?_,by simp⟩ <;> simp[go_sem]
structure OwAt (a1 a2 b1 b2:ByteArray) (b:Bool) (w W0 W:World):Prop where
 op:OpAt a1 a2 b1 b2 w W0
 wk:WkAt W0.heap.size (w.heap.size+1+1+1) b W0 W
 size:W0.heap.size=w.heap.size+1+1+1
theorem OwAt.at {a1 a2 b1 b2:ByteArray} {b:Bool} {w W0 W:World} (h:OwAt a1 a2 b1 b2 b w W0 W):OpAt a1 a2 b1 b2 w W:=h.op.below h.wk.bw
theorem OwAt.to {a1 a2 b1 b2:ByteArray} {b b':Bool} {w W0 W W' V:World} (h:OwAt a1 a2 b1 b2 b w W0 W) (k:WkTo W0.heap.size (w.heap.size+1+1+1) b' W0 V W'):OwAt a1 a2 b1 b2 b' w W0 W':=⟨h.op,k.wk,h.size⟩
theorem OwAt.drew {a1 a2 b1 b2:ByteArray} {b:Bool} {w W0 W:World} (h:OwAt a1 a2 b1 b2 b w W0 W):OwAt a1 a2 b1 b2 b w W0 W.drew:=⟨h.op,h.wk.drew,h.size⟩
theorem OwAt.ops {a1 a2 b1 b2:ByteArray} {b:Bool} {w W0 W:World} (h:OwAt a1 a2 b1 b2 b w W0 W) (hi:IOps w):IOps W:=hi.below h.at.bw
theorem OwAt.start (w:World) (a1 a2 b1 b2:ByteArray) (t:TypeId) (b:Bool):∃W0,OwAt a1 a2 b1 b2 b w W0 ((((w.alloc (.cells #[.string a1,.string a2] t)).alloc (.cells #[.string b1,.string b2] t)).alloc (.cells #[.string ⟨#[]⟩,.string ⟨#[]⟩] t)).alloc (.cells #[.bool b] 137)):=by
 refine⟨_,OpAt.start w a1 a2 b1 b2 t,?_,by simp⟩
 have:=WkAt.start (Below.refl _ (((w.alloc (.cells #[.string a1,.string a2] t)).alloc (.cells #[.string b1,.string b2] t)).alloc (.cells #[.string ⟨#[]⟩,.string ⟨#[]⟩] t))) (Nat.le_refl _) b
 have e:(((w.alloc (.cells #[.string a1,.string a2] t)).alloc (.cells #[.string b1,.string b2] t)).alloc (.cells #[.string ⟨#[]⟩,.string ⟨#[]⟩] t)).heap.size=w.heap.size+1+1+1:=by simp
 rw[e] at this⊢
 exact this
theorem FrAt.two {a1 a2 b1 b2:ByteArray} (W:World) (t:TypeId) (z1:Sz a1) (z2:Sz a2) (z3:Sz b1) (z4:Sz b2):FrAt W.heap.size [(a1,a2),(b1,b2)] (W.alloc (.cells #[.string a1,.string a2,.string b1,.string b2] t)):=by
 refine⟨fun k h=>?_,by simp,fun p hp=>?_⟩
 ·rcases k with _|_|k
  ·exact⟨by simp[go_sem],by simp[go_sem]⟩
  ·exact⟨by simp[go_sem],by simp[go_sem]⟩
  ·simp at h;omega
 ·simp only[List.mem_cons,List.not_mem_nil,or_false] at hp
  rcases hp with rfl|rfl
  ·exact⟨z1,z2⟩
  ·exact⟨z3,z4⟩
theorem sY_ {a1 a2 b1 b2:ByteArray} {b:Bool} {w W0 W:World} (hi:IOps w) (z1:Sz a1) (z2:Sz a2) (z3:Sz b1) (z4:Sz b2) (h:OwAt a1 a2 b1 b2 b w W0 W) (t:TypeId) (S:Nat) (hS:W.heap.size=S) :
  Calls Tryz.prog 142 #[.pointer (some ⟨w.heap.size+1+1+1,0,none⟩),.slice (some ⟨S,0,none⟩) 2 2] (W.alloc (.cells #[.string a1,.string a2,.string b1,.string b2] t)) fun e W'=>(∃v,e=.returned v)∧OwAt a1 a2 b1 b2 (chkB b [(a1,a2),(b1,b2)]) w W0 W':=by
 subst hS
 refine(aRA (h.wk.alloc _) (hi.below h.op.bw) (FrAt.two W t z1 z2 z3 z4) h.wk.sz (by simp)).mono ?_
 rintro e W' ⟨he,h2⟩
 exact⟨he,h.to h2⟩
theorem oQ_ {a1 a2 b1 b2 x y:ByteArray} {b:Bool} {w W0 W:World} (hi:IOps w) (zx:Sz x) (zy:Sz y) (h:OwAt a1 a2 b1 b2 b w W0 W) :
  Calls Tryz.prog 144 #[.pointer (some ⟨w.heap.size+1+1+1,0,none⟩),.string x,.string y] W fun e W'=>e=.returned (.string (stS b (mulO x y)))∧OwAt a1 a2 b1 b2 (stB b (mulO x y)) w W0 W':=by
 refine(mul_q zx zy h.wk (h.ops hi)).mono ?_
 rintro e W' ⟨he,h2⟩
 exact⟨he,h.to h2⟩
theorem lL_ {a1 a2 b1 b2 x y:ByteArray} {p q:Int} {o:Option Rat} {b:Bool} {w W0 W:World} (hi:IOps w) (zx:Sz x) (zy:Sz y) (h:OwAt a1 a2 b1 b2 b w W0 W) (hx:b=false→aC_ x=some p∧aC_ y=some q) (ho:(if b=true then none else aO_ p q)=o) :
  Calls Tryz.prog 134 #[.pointer (some ⟨w.heap.size+1+1+1,0,none⟩),.string x,.string y] W fun e W'=>e=.returned (.tuple #[.agg #[.string (qN o),.string (qD o)],.int .i64 (qE o)])∧RsAt (w.heap.size+1+1) w W':=by
 subst ho
 refine(uT_ h.wk (hi.below h.op.bw) zx zy hx).mono ?_
 rintro e W' ⟨he,h2⟩
 exact⟨he,(h.op.below h2).rs⟩
theorem Mul_w {a1 a2 b1 b2:ByteArray} {o:Option Rat} {p q:Int} {w:World} (hi:IOps w) (z1:Sz a1) (z2:Sz a2) (z3:Sz b1) (z4:Sz b2)
  (B1 B2 B3:Bool) (S1 S2:ByteArray) (e1:B1=chkB false [(a1,a2),(b1,b2)]) (e2:S1=stS B1 (mulO a1 b1)) (e3:B2=stB B1 (mulO a1 b1)) (e4:S2=stS B2 (mulO a2 b2)) (e5:B3=stB B2 (mulO a2 b2))
  (hx:B3=false→aC_ S1=some p∧aC_ S2=some q) (ho:(if B3=true then none else aO_ p q)=o) :
  Calls Tryz.prog 116 #[.agg #[.string a1,.string a2],.agg #[.string b1,.string b2]] w fun e W'=>e=.returned (.tuple #[.agg #[.string (qN o),.string (qD o)],.int .i64 (qE o)])∧Below w.heap.size w W':=by
 obtain⟨W0,hst⟩:=OwAt.start w a1 a2 b1 b2 47 false
 have zS1:Sz S1:=by rw[e2];exact mE_ _ _
 have zS2:Sz S2:=by rw[e4];exact mE_ _ _
 have kc:=hid (fun W (h:OwAt a1 a2 b1 b2 false w W0 W) (t:TypeId) (S:Nat) (hS:W.heap.size=S)=>by have:=sY_ hi z1 z2 z3 z4 h t S hS;rw[←e1] at this;exact this)
 have k1:=hid (fun W (h:OwAt a1 a2 b1 b2 B1 w W0 W)=>by have:=oQ_ hi z1 z3 h;rw[←e2,←e3] at this;exact this)
 have k2:=hid (fun W (h:OwAt a1 a2 b1 b2 B2 w W0 W)=>by have:=oQ_ hi z2 z4 h;rw[←e4,←e5] at this;exact this)
 have kr:=hid (fun W (h:OwAt a1 a2 b1 b2 B3 w W0 W)=>lL_ hi zS1 zS2 h hx ho)
 clear hi z1 z2 z3 z4 zS1 zS2 e1 e2 e3 e4 e5 hx ho
 have H0:=hid hst
 clear hst
 go_enter Tryz.func116,Tryz.ntmps116
 go_wp2_with (first
  | (go_at_call 142;with_reducible refine(kc.out _ H0.out _ _ (by simp)).mono ?_;rintro e w1 ⟨⟨v,rfl⟩,h1⟩;obtain⟨_,x0,x1,y0,y1,_⟩:=h1.at;have H1:=hid h1;clear h1)
  | (go_at_call 144;with_reducible refine(k1.out _ H1.out).mono ?_;rintro e w2 ⟨rfl,h2⟩;obtain⟨_,x0',x1',y0',y1',_⟩:=h2.at;have H2:=hid h2;clear h2)
  | (go_at_call 144;with_reducible refine(k2.out _ H2.out).mono ?_;rintro e w3 ⟨rfl,h3⟩;have H3:=hid h3;clear h3)
  | (go_at_call 134;with_reducible refine(kr.out _ H3.out).mono ?_;rintro e w4 ⟨rfl,h4⟩;obtain⟨_,q1,q2,q3,q4,_,_⟩:=id h4;have H4:=hid h4;clear h4)
  | fail)
 obtain⟨W5,hW5,p0,p1,hbl⟩:=H4.out.fin (qN o) (qD o)
 rw[hW5]
 clear hW5 q1 q2 q3 q4
 refine bodyPost_ret (v:=.tuple #[.agg #[.string (qN o),.string (qD o)],.int .i64 (qE o)]) ?_ rfl ⟨rfl,hbl⟩
 simp[results,Tryz.results116,go_sem,p0,p1,Result.andThen]
theorem Div_w {a1 a2 b1 b2:ByteArray} {o:Option Rat} {p q:Int} {w:World} (hi:IOps w) (z1:Sz a1) (z2:Sz a2) (z3:Sz b1) (z4:Sz b2)
  (B1 B2 B3:Bool) (S1 S2:ByteArray) (e1:B1=chkB false [(a1,a2),(b1,b2)]) (e2:S1=stS B1 (mulO a1 b2)) (e3:B2=stB B1 (mulO a1 b2)) (e4:S2=stS B2 (mulO a2 b1)) (e5:B3=stB B2 (mulO a2 b1))
  (hx:B3=false→aC_ S1=some p∧aC_ S2=some q) (ho:(if B3=true then none else aO_ p q)=o) :
  Calls Tryz.prog 115 #[.agg #[.string a1,.string a2],.agg #[.string b1,.string b2]] w fun e W'=>e=.returned (.tuple #[.agg #[.string (qN o),.string (qD o)],.int .i64 (qE o)])∧Below w.heap.size w W':=by
 obtain⟨W0,hst⟩:=OwAt.start w a1 a2 b1 b2 47 false
 have zS1:Sz S1:=by rw[e2];exact mE_ _ _
 have zS2:Sz S2:=by rw[e4];exact mE_ _ _
 have kc:=hid (fun W (h:OwAt a1 a2 b1 b2 false w W0 W) (t:TypeId) (S:Nat) (hS:W.heap.size=S)=>by have:=sY_ hi z1 z2 z3 z4 h t S hS;rw[←e1] at this;exact this)
 have k1:=hid (fun W (h:OwAt a1 a2 b1 b2 B1 w W0 W)=>by have:=oQ_ hi z1 z4 h;rw[←e2,←e3] at this;exact this)
 have k2:=hid (fun W (h:OwAt a1 a2 b1 b2 B2 w W0 W)=>by have:=oQ_ hi z2 z3 h;rw[←e4,←e5] at this;exact this)
 have kr:=hid (fun W (h:OwAt a1 a2 b1 b2 B3 w W0 W)=>lL_ hi zS1 zS2 h hx ho)
 clear hi z1 z2 z3 z4 zS1 zS2 e1 e2 e3 e4 e5 hx ho
 have H0:=hid hst
 clear hst
 go_enter Tryz.func115,Tryz.ntmps115
 go_wp2_with (first
  | (go_at_call 142;with_reducible refine(kc.out _ H0.out _ _ (by simp)).mono ?_;rintro e w1 ⟨⟨v,rfl⟩,h1⟩;obtain⟨_,x0,x1,y0,y1,_⟩:=h1.at;have H1:=hid h1;clear h1)
  | (go_at_call 144;with_reducible refine(k1.out _ H1.out).mono ?_;rintro e w2 ⟨rfl,h2⟩;obtain⟨_,x0',x1',y0',y1',_⟩:=h2.at;have H2:=hid h2;clear h2)
  | (go_at_call 144;with_reducible refine(k2.out _ H2.out).mono ?_;rintro e w3 ⟨rfl,h3⟩;have H3:=hid h3;clear h3)
  | (go_at_call 134;with_reducible refine(kr.out _ H3.out).mono ?_;rintro e w4 ⟨rfl,h4⟩;obtain⟨_,q1,q2,q3,q4,_,_⟩:=id h4;have H4:=hid h4;clear h4)
  | fail)
 obtain⟨W5,hW5,p0,p1,hbl⟩:=H4.out.fin (qN o) (qD o)
 rw[hW5]
 clear hW5 q1 q2 q3 q4
 refine bodyPost_ret (v:=.tuple #[.agg #[.string (qN o),.string (qD o)],.int .i64 (qE o)]) ?_ rfl ⟨rfl,hbl⟩
 simp[results,Tryz.results115,go_sem,p0,p1,Result.andThen]
theorem ow_do {a1 a2 b1 b2:ByteArray} {b:Bool} {w W0 W:World} (hi:IOps w) (K:Nat) (O:ByteArray→ByteArray→Option Int)
  (hent:∀(args:Array Value) (w:World),(callFunc K args).run Tryz.prog w=.ok (.enter K args) w) (x y:ByteArray)
  (hK:∀(W:World),IOps W→Calls Tryz.prog K #[.string x,.string y] W fun e W'=>e=.returned (.tuple #[.string (opS (O x y)),.int .i64 (opN (O x y))])∧Below W.heap.size W W') (h:OwAt a1 a2 b1 b2 b w W0 W) :
  Calls Tryz.prog 143 #[.pointer (some ⟨w.heap.size+1+1+1,0,none⟩),.func (.func K) #[] #[],.string x,.string y] W fun e W'=>e=.returned (.string (stS b (O x y)))∧OwAt a1 a2 b1 b2 (stB b (O x y)) w W0 W':=by
 refine(do_q K (O x y) x y h.wk hent (fun _=>hK W (h.ops hi))).mono ?_
 rintro e W' ⟨he,h2⟩
 exact⟨he,h.to h2⟩
theorem sum_w {a1 a2 b1 b2:ByteArray} {o:Option Rat} {p q:Int} {w:World} (hi:IOps w) (z1:Sz a1) (z2:Sz a2) (z3:Sz b1) (z4:Sz b2) (K:Nat) (O:ByteArray→ByteArray→Option Int)
  (hent:∀(args:Array Value) (w:World),(callFunc K args).run Tryz.prog w=.ok (.enter K args) w)
  (hK:∀(x y:ByteArray) (W:World),Sz x→Sz y→IOps W→Calls Tryz.prog K #[.string x,.string y] W fun e W'=>e=.returned (.tuple #[.string (opS (O x y)),.int .i64 (opN (O x y))])∧Below W.heap.size W W')
  (B1 B2 B3 B4 B5:Bool) (S1 S2 S3 S4:ByteArray) (e1:B1=chkB false [(a1,a2),(b1,b2)]) (e2:S1=stS B1 (mulO a1 b2)) (e3:B2=stB B1 (mulO a1 b2)) (e4:S2=stS B2 (mulO b1 a2)) (e5:B3=stB B2 (mulO b1 a2))
  (e6:S3=stS B3 (O S1 S2)) (e7:B4=stB B3 (O S1 S2)) (e8:S4=stS B4 (mulO a2 b2)) (e9:B5=stB B4 (mulO a2 b2))
  (hx:B5=false→aC_ S3=some p∧aC_ S4=some q) (ho:(if B5=true then none else aO_ p q)=o) :
  Calls Tryz.prog 113 #[.func (.func K) #[] #[],.agg #[.string a1,.string a2],.agg #[.string b1,.string b2]] w fun e W'=>e=.returned (.tuple #[.agg #[.string (qN o),.string (qD o)],.int .i64 (qE o)])∧Below w.heap.size w W':=by
 obtain⟨W0,hst⟩:=OwAt.start w a1 a2 b1 b2 47 false
 have zS1:Sz S1:=by rw[e2];exact mE_ _ _
 have zS2:Sz S2:=by rw[e4];exact mE_ _ _
 have zS3:Sz S3:=by rw[e6];exact mE_ _ _
 have zS4:Sz S4:=by rw[e8];exact mE_ _ _
 have kc:=hid (fun W (h:OwAt a1 a2 b1 b2 false w W0 W) (t:TypeId) (S:Nat) (hS:W.heap.size=S)=>by have:=sY_ hi z1 z2 z3 z4 h t S hS;rw[←e1] at this;exact this)
 have k1:=hid (fun W (h:OwAt a1 a2 b1 b2 B1 w W0 W)=>by have:=oQ_ hi z1 z4 h;rw[←e2,←e3] at this;exact this)
 have k2:=hid (fun W (h:OwAt a1 a2 b1 b2 B2 w W0 W)=>by have:=oQ_ hi z3 z2 h;rw[←e4,←e5] at this;exact this)
 have k3:=hid (fun W (h:OwAt a1 a2 b1 b2 B3 w W0 W)=>by have:=ow_do hi K O hent S1 S2 (fun W hW=>hK S1 S2 W zS1 zS2 hW) h;rw[←e6,←e7] at this;exact this)
 have k4:=hid (fun W (h:OwAt a1 a2 b1 b2 B4 w W0 W)=>by have:=oQ_ hi z2 z4 h;rw[←e8,←e9] at this;exact this)
 have kr:=hid (fun W (h:OwAt a1 a2 b1 b2 B5 w W0 W)=>lL_ hi zS3 zS4 h hx ho)
 clear hi z1 z2 z3 z4 zS1 zS2 zS3 zS4 e1 e2 e3 e4 e5 e6 e7 e8 e9 hx ho hent hK
 have H0:=hid hst
 clear hst
 go_enter Tryz.func113,Tryz.ntmps113
 go_wp2_with (first
  | (go_at_call 142;with_reducible refine(kc.out _ H0.out _ _ (by simp)).mono ?_;rintro e w1 ⟨⟨v,rfl⟩,h1⟩;obtain⟨_,x0,x1,y0,y1,_⟩:=h1.at;have H1:=hid h1;clear h1)
  | fail)
 go_region_held3 (fun W=>W.cell? ⟨w.heap.size,0,none⟩=some (.string a1)∧W.cell? ⟨w.heap.size,1,none⟩=some (.string a2)∧W.cell? ⟨w.heap.size+1,0,none⟩=some (.string b1)∧W.cell? ⟨w.heap.size+1,1,none⟩=some (.string b2)) (first|exact⟨H4.out.at.x0,H4.out.at.x1,H4.out.at.y0,H4.out.at.y1⟩|exact⟨H3.out.at.x0,H3.out.at.x1,H3.out.at.y0,H3.out.at.y1⟩|exact⟨H2.out.at.x0,H2.out.at.x1,H2.out.at.y0,H2.out.at.y1⟩|exact⟨H1.out.at.x0,H1.out.at.x1,H1.out.at.y0,H1.out.at.y1⟩) (first
  | (go_at_call 144;refine(k1.out _ (by exact H1.out.drew)).mono ?_;rintro e w2 ⟨rfl,h2⟩;have H2:=hid h2;clear h2)
  | (go_at_call 144;refine(k2.out _ (by exact H2.out)).mono ?_;rintro e w3 ⟨rfl,h3⟩;have H3:=hid h3;clear h3)
  | (go_at_call 143;refine(k3.out _ (by exact H3.out)).mono ?_;rintro e w4 ⟨rfl,h4⟩;have H4:=hid h4;clear h4))
 all_goals (
  have h4:=H4.out.at
  obtain⟨_,x0,x1,y0,y1,_⟩:=h4
  go_wp2_with (first
   | (go_at_call 144;with_reducible refine(k4.out _ H4.out).mono ?_;rintro e w5 ⟨rfl,h5⟩;have H5:=hid h5;clear h5)
   | (go_at_call 134;with_reducible refine(kr.out _ H5.out).mono ?_;rintro e w6 ⟨rfl,h6⟩;obtain⟨_,q1,q2,q3,q4,_,_⟩:=id h6;have H6:=hid h6;clear h6)
   | fail)
  obtain⟨W5,hW5,p0,p1,hbl⟩:=H6.out.fin (qN o) (qD o)
  rw[hW5]
  clear hW5 q1 q2 q3 q4
  refine bodyPost_ret (v:=.tuple #[.agg #[.string (qN o),.string (qD o)],.int .i64 (qE o)]) ?_ rfl ⟨rfl,hbl⟩
  simp[results,Tryz.results113,go_sem,p0,p1,Result.andThen])
theorem qO_ (b:Bool) (z:Int):stB b (some z)=(b || !small z):=by
 by_cases h:small z=true
 ·rw[h]
  cases b
  ·rw[eT_ h];rfl
  ·rfl
 ·rw[kM_ h]
  simp[h]
theorem mD_ {b:Bool} {z:Int} (h:stB b (some z)=false):b=false∧small z=true∧stS b (some z)=str z∧aC_ (stS b (some z))=some z:=by
 rw[qO_] at h
 simp only[Bool.or_eq_false_iff,Bool.not_eq_false'] at h
 obtain⟨rfl,h2⟩:=h
 refine⟨rfl,h2,?_,?_⟩
 ·rw[kL_,aB_ h2]
 ·rw[kL_,aB_ h2,bA_,if_pos h2]
theorem fL_ {n d:ByteArray} {r:Rat} (h:ratO n d=some r):aC_ n=some r.num∧aC_ d=some (r.den:Int):=by
 obtain⟨e1,e2,h1,h2⟩:=dA_ h
 rw[e1,e2,bA_,bA_,if_pos h1,if_pos h2]
 exact⟨rfl,rfl⟩
theorem yF_ {a1 a2 b1 b2:ByteArray} (h:ratO a1 a2=none∨ratO b1 b2=none):chkB false [(a1,a2),(b1,b2)]=true:=by
 unfold chkB vR
 rcases h with h|h <;> simp[h]
theorem uA_ {a1 a2 b1 b2:ByteArray} {a b:Rat} (ha:ratO a1 a2=some a) (hb:ratO b1 b2=some b):chkB false [(a1,a2),(b1,b2)]=false:=by
 unfold chkB vR
 simp[ha,hb]
theorem Mul_q {a1 a2 b1 b2:ByteArray} {w:World} (hi:IOps w) (z1:Sz a1) (z2:Sz a2) (z3:Sz b1) (z4:Sz b2) :
  Calls Tryz.prog 116 #[.agg #[.string a1,.string a2],.agg #[.string b1,.string b2]] w fun e W'=>e=.returned (.tuple #[.agg #[.string (qN (op2 mulR a1 a2 b1 b2)),.string (qD (op2 mulR a1 a2 b1 b2))],.int .i64 (qE (op2 mulR a1 a2 b1 b2))])∧Below w.heap.size w W':=by
 by_cases hn:ratO a1 a2=none∨ratO b1 b2=none
 ·have hc:=yF_ hn
  refine Mul_w (p:=0) (q:=0) hi z1 z2 z3 z4 true true true _ _ hc.symm rfl rfl rfl rfl (fun k=>by cases k) ?_
  rw[gP_ hn]
  rfl
 ·obtain⟨a,ha⟩:∃a,ratO a1 a2=some a:=Option.ne_none_iff_exists'.1 (fun h=>hn (.inl h))
  obtain⟨b,hb⟩:∃b,ratO b1 b2=some b:=Option.ne_none_iff_exists'.1 (fun h=>hn (.inr h))
  obtain⟨m1,m2⟩:=fL_ ha
  obtain⟨m3,m4⟩:=fL_ hb
  have o1:mulO a1 b1=some (a.num*b.num):=by unfold mulO;rw[m1,m3]
  have o2:mulO a2 b2=some ((a.den:Int)*b.den):=by unfold mulO;rw[m2,m4]
  have hc:=uA_ ha hb
  refine Mul_w (p:=a.num*b.num) (q:=(a.den:Int)*b.den) hi z1 z2 z3 z4 false _ _ _ _ hc.symm rfl rfl rfl rfl ?_ ?_
  ·rw[o1,o2]
   intro h
   obtain⟨h1,_,_,k2⟩:=mD_ h
   obtain⟨_,_,_,k1⟩:=mD_ h1
   exact⟨k1,k2⟩
  ·rw[gO_ ha hb,oV_,o1,o2,qO_,qO_]
   cases small (a.num*b.num) <;> cases small ((a.den:Int)*b.den) <;> rfl
theorem Div_q {a1 a2 b1 b2:ByteArray} {w:World} (hi:IOps w) (z1:Sz a1) (z2:Sz a2) (z3:Sz b1) (z4:Sz b2) :
  Calls Tryz.prog 115 #[.agg #[.string a1,.string a2],.agg #[.string b1,.string b2]] w fun e W'=>e=.returned (.tuple #[.agg #[.string (qN (op2 divR a1 a2 b1 b2)),.string (qD (op2 divR a1 a2 b1 b2))],.int .i64 (qE (op2 divR a1 a2 b1 b2))])∧Below w.heap.size w W':=by
 by_cases hn:ratO a1 a2=none∨ratO b1 b2=none
 ·have hc:=yF_ hn
  refine Div_w (p:=0) (q:=0) hi z1 z2 z3 z4 true true true _ _ hc.symm rfl rfl rfl rfl (fun k=>by cases k) ?_
  rw[gP_ hn]
  rfl
 ·obtain⟨a,ha⟩:∃a,ratO a1 a2=some a:=Option.ne_none_iff_exists'.1 (fun h=>hn (.inl h))
  obtain⟨b,hb⟩:∃b,ratO b1 b2=some b:=Option.ne_none_iff_exists'.1 (fun h=>hn (.inr h))
  obtain⟨m1,m2⟩:=fL_ ha
  obtain⟨m3,m4⟩:=fL_ hb
  have o1:mulO a1 b2=some (a.num*b.den):=by unfold mulO;rw[m1,m4]
  have o2:mulO a2 b1=some ((a.den:Int)*b.num):=by unfold mulO;rw[m2,m3]
  have hc:=uA_ ha hb
  refine Div_w (p:=a.num*b.den) (q:=(a.den:Int)*b.num) hi z1 z2 z3 z4 false _ _ _ _ hc.symm rfl rfl rfl rfl ?_ ?_
  ·rw[o1,o2]
   intro h
   obtain⟨h1,_,_,k2⟩:=mD_ h
   obtain⟨_,_,_,k1⟩:=mD_ h1
   exact⟨k1,k2⟩
  ·rw[gO_ ha hb,pK_,o1,o2,qO_,qO_]
   cases small (a.num*b.den) <;> cases small ((a.den:Int)*b.num) <;> rfl
theorem sum_q (K:Nat) (O:ByteArray→ByteArray→Option Int) (f:Int→Int→Int) (F:Rat→Rat→Option Rat)
  (hO:∀(x y:ByteArray) (p q:Int),aC_ x=some p→aC_ y=some q→O x y=some (f p q))
  (hF:∀a b:Rat,F a b=if small (a.num*b.den)=true∧small (b.num*a.den)=true∧small (f (a.num*b.den) (b.num*a.den))=true∧small ((a.den:Int)*b.den)=true then aO_ (f (a.num*b.den) (b.num*a.den)) (a.den*b.den) else none)
  (hent:∀(args:Array Value) (w:World),(callFunc K args).run Tryz.prog w=.ok (.enter K args) w)
  (hK:∀(x y:ByteArray) (W:World),Sz x→Sz y→IOps W→Calls Tryz.prog K #[.string x,.string y] W fun e W'=>e=.returned (.tuple #[.string (opS (O x y)),.int .i64 (opN (O x y))])∧Below W.heap.size W W')
  {a1 a2 b1 b2:ByteArray} {w:World} (hi:IOps w) (z1:Sz a1) (z2:Sz a2) (z3:Sz b1) (z4:Sz b2) :
  Calls Tryz.prog 113 #[.func (.func K) #[] #[],.agg #[.string a1,.string a2],.agg #[.string b1,.string b2]] w fun e W'=>e=.returned (.tuple #[.agg #[.string (qN (op2 F a1 a2 b1 b2)),.string (qD (op2 F a1 a2 b1 b2))],.int .i64 (qE (op2 F a1 a2 b1 b2))])∧Below w.heap.size w W':=by
 by_cases hn:ratO a1 a2=none∨ratO b1 b2=none
 ·have hc:=yF_ hn
  refine sum_w (p:=0) (q:=0) hi z1 z2 z3 z4 K O hent hK true true true true true _ _ _ _ hc.symm rfl rfl rfl rfl rfl rfl rfl rfl (fun k=>by cases k) ?_
  rw[gP_ hn]
  rfl
 ·obtain⟨a,ha⟩:∃a,ratO a1 a2=some a:=Option.ne_none_iff_exists'.1 (fun h=>hn (.inl h))
  obtain⟨b,hb⟩:∃b,ratO b1 b2=some b:=Option.ne_none_iff_exists'.1 (fun h=>hn (.inr h))
  obtain⟨m1,m2⟩:=fL_ ha
  obtain⟨m3,m4⟩:=fL_ hb
  have o1:mulO a1 b2=some (a.num*b.den):=by unfold mulO;rw[m1,m4]
  have o2:mulO b1 a2=some (b.num*a.den):=by unfold mulO;rw[m3,m2]
  have o4:mulO a2 b2=some ((a.den:Int)*b.den):=by unfold mulO;rw[m2,m4]
  have hc:=uA_ ha hb
  have key:∃B4:Bool,stB (stB (stB false (mulO a1 b2)) (mulO b1 a2)) (O (stS false (mulO a1 b2)) (stS (stB false (mulO a1 b2)) (mulO b1 a2)))=B4∧(B4=false→small (a.num*b.den)=true∧small (b.num*a.den)=true∧small (f (a.num*b.den) (b.num*a.den))=true∧aC_ (stS (stB (stB false (mulO a1 b2)) (mulO b1 a2)) (O (stS false (mulO a1 b2)) (stS (stB false (mulO a1 b2)) (mulO b1 a2))))=some (f (a.num*b.den) (b.num*a.den)))∧(B4=true→¬(small (a.num*b.den)=true∧small (b.num*a.den)=true∧small (f (a.num*b.den) (b.num*a.den))=true)):=by
   rw[o1,o2]
   by_cases h1:small (a.num*b.den)=true
   ·by_cases h2:small (b.num*a.den)=true
    ·have e1:stB false (some (a.num*b.den))=false:=eT_ h1
     have e2:stB false (some (b.num*a.den))=false:=eT_ h2
     obtain⟨_,_,_,k1⟩:=mD_ e1
     obtain⟨_,_,_,k2⟩:=mD_ e2
     rw[e1,e2,hO _ _ _ _ k1 k2]
     by_cases h3:small (f (a.num*b.den) (b.num*a.den))=true
     ·exact⟨false,eT_ h3,fun _=>⟨h1,h2,h3,(mD_ (eT_ h3)).2.2.2⟩,fun k=>(nomatch k)⟩
     ·exact⟨true,kM_ h3 _,fun k=>(nomatch k),fun _ k=>h3 k.2.2⟩
    ·refine⟨true,?_,fun k=>(nomatch k),fun _ k=>h2 k.2.1⟩
     rw[kM_ h2]
     rfl
   ·refine⟨true,?_,fun k=>(nomatch k),fun _ k=>h1 k.1⟩
    rw[kM_ h1]
    rfl
  obtain⟨B4,hB4,hy,hno⟩:=key
  refine sum_w (p:=f (a.num*b.den) (b.num*a.den)) (q:=(a.den:Int)*b.den) hi z1 z2 z3 z4 K O hent hK false _ _ B4 _ _ _ _ _ hc.symm rfl rfl rfl rfl rfl hB4.symm rfl rfl ?_ ?_
  ·rw[o4]
   intro h
   obtain⟨h1,_,_,k2⟩:=mD_ h
   exact⟨(hy h1).2.2.2,k2⟩
  ·rw[gO_ ha hb,hF,o4,qO_]
   cases B4 with
   | true=>
    refine Eq.trans (if_pos (by rfl)) ?_
    exact(if_neg (fun k=>hno rfl ⟨k.1,k.2.1,k.2.2.1⟩)).symm
   | false=>
    obtain⟨h1,h2,h3,_⟩:=hy rfl
    by_cases h4:small ((a.den:Int)*b.den)=true
    ·refine Eq.trans (if_neg (by rw[h4];decide)) ?_
     exact(if_pos ⟨h1,h2,h3,h4⟩).symm
    ·refine Eq.trans (if_pos (by simp[h4])) ?_
     exact(if_neg (fun k=>h4 k.2.2.2)).symm
theorem sumA {a1 a2 b1 b2:ByteArray} {w:World} (hi:IOps w) (z1:Sz a1) (z2:Sz a2) (z3:Sz b1) (z4:Sz b2) :
  Calls Tryz.prog 113 #[.func (.func 121) #[] #[],.agg #[.string a1,.string a2],.agg #[.string b1,.string b2]] w fun e W'=>e=.returned (.tuple #[.agg #[.string (qN (op2 addR a1 a2 b1 b2)),.string (qD (op2 addR a1 a2 b1 b2))],.int .i64 (qE (op2 addR a1 a2 b1 b2))])∧Below w.heap.size w W':=
 sum_q 121 addO (fun p q=>p+q) addR (fun x y p q h1 h2=>by unfold addO;rw[h1,h2]) qB_ (enters_of Tryz.func121 (by kernel_rfl) rfl) (fun x y W zx zy h=>h.add zx zy W (Below.refl _ _)) hi z1 z2 z3 z4
theorem sumS {a1 a2 b1 b2:ByteArray} {w:World} (hi:IOps w) (z1:Sz a1) (z2:Sz a2) (z3:Sz b1) (z4:Sz b2) :
  Calls Tryz.prog 113 #[.func (.func 114) #[] #[],.agg #[.string a1,.string a2],.agg #[.string b1,.string b2]] w fun e W'=>e=.returned (.tuple #[.agg #[.string (qN (op2 subR a1 a2 b1 b2)),.string (qD (op2 subR a1 a2 b1 b2))],.int .i64 (qE (op2 subR a1 a2 b1 b2))])∧Below w.heap.size w W':=
 sum_q 114 subO (fun p q=>p-q) subR (fun x y p q h1 h2=>by unfold subO;rw[h1,h2]) oB_ (enters_of Tryz.func114 (by kernel_rfl) rfl) (fun x y W zx zy h=>h.sub zx zy W (Below.refl _ _)) hi z1 z2 z3 z4
theorem Add_q {a1 a2 b1 b2:ByteArray} {w:World} (hi:IOps w) (z1:Sz a1) (z2:Sz a2) (z3:Sz b1) (z4:Sz b2) :
  Calls Tryz.prog 87 #[.agg #[.string a1,.string a2],.agg #[.string b1,.string b2]] w fun e W'=>e=.returned (.tuple #[.agg #[.string (qN (op2 addR a1 a2 b1 b2)),.string (qD (op2 addR a1 a2 b1 b2))],.int .i64 (qE (op2 addR a1 a2 b1 b2))])∧Below w.heap.size w W':=by
 have H0:=hid (OpAt.start w a1 a2 b1 b2 47)
 have ks:=hid (fun W (h:OpAt a1 a2 b1 b2 w W)=>sumA (hi.below h.bw) z1 z2 z3 z4)
 clear hi z1 z2 z3 z4
 generalize op2 addR a1 a2 b1 b2=o at ks⊢
 go_enter Tryz.func87,Tryz.ntmps87
 go_wp2_with (first
  | (go_at_call 113;with_reducible refine(ks.out _ H0.out).mono ?_;rintro e w1 ⟨rfl,hb⟩;have h1:=H0.out.below hb;obtain⟨_,_,_,_,_,q1,q2,q3,q4,_⟩:=id h1;have H1:=hid h1.rs;clear h1)
  | fail)
 obtain⟨W5,hW5,p0,p1,hbl⟩:=H1.out.fin (qN o) (qD o)
 rw[hW5]
 clear hW5 q1 q2 q3 q4
 refine bodyPost_ret (v:=.tuple #[.agg #[.string (qN o),.string (qD o)],.int .i64 (qE o)]) ?_ rfl ⟨rfl,hbl⟩
 simp[results,Tryz.results87,go_sem,p0,p1,Result.andThen]
theorem Sub_q {a1 a2 b1 b2:ByteArray} {w:World} (hi:IOps w) (z1:Sz a1) (z2:Sz a2) (z3:Sz b1) (z4:Sz b2) :
  Calls Tryz.prog 78 #[.agg #[.string a1,.string a2],.agg #[.string b1,.string b2]] w fun e W'=>e=.returned (.tuple #[.agg #[.string (qN (op2 subR a1 a2 b1 b2)),.string (qD (op2 subR a1 a2 b1 b2))],.int .i64 (qE (op2 subR a1 a2 b1 b2))])∧Below w.heap.size w W':=by
 have H0:=hid (OpAt.start w a1 a2 b1 b2 47)
 have ks:=hid (fun W (h:OpAt a1 a2 b1 b2 w W)=>sumS (hi.below h.bw) z1 z2 z3 z4)
 clear hi z1 z2 z3 z4
 generalize op2 subR a1 a2 b1 b2=o at ks⊢
 go_enter Tryz.func78,Tryz.ntmps78
 go_wp2_with (first
  | (go_at_call 113;with_reducible refine(ks.out _ H0.out).mono ?_;rintro e w1 ⟨rfl,hb⟩;have h1:=H0.out.below hb;obtain⟨_,_,_,_,_,q1,q2,q3,q4,_⟩:=id h1;have H1:=hid h1.rs;clear h1)
  | fail)
 obtain⟨W5,hW5,p0,p1,hbl⟩:=H1.out.fin (qN o) (qD o)
 rw[hW5]
 clear hW5 q1 q2 q3 q4
 refine bodyPost_ret (v:=.tuple #[.agg #[.string (qN o),.string (qD o)],.int .i64 (qE o)]) ?_ rfl ⟨rfl,hbl⟩
 simp[results,Tryz.results78,go_sem,p0,p1,Result.andThen]
def FrOp (w:World):Prop:=∀(n:Int),-9223372036854775808≤n→n≤9223372036854775807→∀W,Below w.heap.size w W→Calls Tryz.prog 99 #[.int .i64 n] W fun e W'=>e=.returned (.string (str n))∧Below W.heap.size W W'
theorem kN_ {n:Int} (h1 : -9223372036854775808≤n) (h2:n≤9223372036854775807):small n=true:=by
 unfold small
 rw[decide_eq_true_iff,jZ_ (by omega)]
 have:(10:Nat)^19≤10^200:=Nat.pow_le_pow_right (by omega) (by omega)
 have e:(10:Nat)^19=10000000000000000000:=by decide
 omega
theorem Of_q {n d:Int} {w:World} (hi:IOps w) (hf:FrOp w) (n1 : -9223372036854775808≤n) (n2:n≤9223372036854775807) (d1 : -9223372036854775808≤d) (d2:d≤9223372036854775807) :
  Calls Tryz.prog 68 #[.int .i64 n,.int .i64 d] w fun e W'=>e=.returned (.tuple #[.agg #[.string (qN (aO_ n d)),.string (qD (aO_ n d))],.int .i64 (qE (aO_ n d))])∧Below w.heap.size w W':=by
 have H0:=hid (RsAt.start (Below.refl _ w) 47)
 have sn:=kN_ n1 n2
 have sd:=kN_ d1 d2
 have zn:Sz (str n):=by rw[←aB_ sn];exact bU_ _
 have zd:Sz (str d):=by rw[←aB_ sd];exact bU_ _
 have em:hG_ (str n) (str d)=aO_ n d:=dN_ (by rw[bA_,if_pos sn]) (by rw[bA_,if_pos sd])
 have k1:=hid (fun W hk=>hf n n1 n2 W hk)
 have k2:=hid (fun W hk=>hf d d1 d2 W hk)
 have km:=hid (fun W (hk:Below w.heap.size w W)=>by have:=Make_q (hi.below hk) zn zd;rw[em] at this;exact this)
 generalize aO_ n d=o at km⊢
 generalize str n=sn' at k1 km
 generalize str d=sd' at k2 km
 clear hi hf sn sd zn zd em n1 n2 d1 d2
 go_enter Tryz.func68,Tryz.ntmps68
 go_wp2_with (first
  | (go_at_call 99;with_reducible refine(k1.out _ H0.out.bw).mono ?_;rintro e w1 ⟨rfl,hb⟩;have H1:=hid (H0.out.below hb);clear hb)
  | (go_at_call 99;with_reducible refine(k2.out _ H1.out.bw).mono ?_;rintro e w2 ⟨rfl,hb⟩;have H2:=hid (H1.out.below hb);clear hb)
  | (go_at_call 98;with_reducible refine(km.out _ H2.out.bw).mono ?_;rintro e w3 ⟨rfl,hb⟩;have h3:=H2.out.below hb;obtain⟨_,q1,q2,q3,q4,_,_⟩:=id h3;have H3:=hid h3;clear hb h3)
  | fail)
 obtain⟨W5,hW5,p0,p1,hbl⟩:=H3.out.fin (qN o) (qD o)
 rw[hW5]
 clear hW5 q1 q2 q3 q4
 refine bodyPost_ret (v:=.tuple #[.agg #[.string (qN o),.string (qD o)],.int .i64 (qE o)]) ?_ rfl ⟨rfl,hbl⟩
 simp[results,Tryz.results68,go_sem,p0,p1,Result.andThen]
theorem mB_ {z:Int} (h:small z=true):Sz (str z):=by rw[←aB_ h];exact bU_ _
theorem cY_ {n d:ByteArray} {r:Rat} (h:ratO n d=some r):Sz n∧Sz d:=by
 obtain⟨e1,e2,h1,h2⟩:=dA_ h
 rw[e1,e2]
 exact⟨mB_ h1,mB_ h2⟩
theorem aJ_ {r:Rat} (h:jD_ r):small r.floor=true:=by rw[pG_];exact aL_ _ h.1
theorem dZ_ {r:Rat} (h:jD_ r):small (r.num%(r.den:Int))=true:=fZ_ (by have:=cJ_ r;omega) h.2
theorem iN_ {n d:ByteArray} {r:Rat} (h:ratO n d=some r):divO n d=some r.floor∧modO n d=some (r.num%(r.den:Int)):=by
 obtain⟨h1,h2⟩:=fL_ h
 have:=cJ_ r
 unfold divO modO
 rw[h1,h2,pG_]
 exact⟨if_neg (by omega),if_neg (by omega)⟩
theorem gA_ {n d:ByteArray} {r:Rat} (h:ratO n d=some r) (h0:r.num%(r.den:Int)≠0):ratO d (str (r.num%(r.den:Int)))=some (Rat.divInt r.den (r.num%r.den)):=by
 obtain⟨_,e2,hf⟩:=dA_ h
 obtain⟨k1,k2⟩:=aAB h0
 have:=zF_ (r:=Rat.divInt r.den (r.num%r.den)) (by unfold jD_;rw[k1,k2];exact⟨hf.2,dZ_ hf⟩)
 rw[k1,k2,←e2] at this
 exact this
theorem tD_ {r:Rat} (h0:r.num%(r.den:Int)≠0):(Rat.divInt r.den (r.num%r.den)).den<r.den:=by
 obtain⟨_,k2⟩:=aAB h0
 have:=(sP_ h0).2
 omega
theorem lW_ (p q:Int):cmpI p q = -1∨cmpI p q=0∨cmpI p q=1:=by
 unfold cmpI
 split
 ·exact .inl rfl
 ·split
  ·exact .inr (.inr rfl)
  ·exact .inr (.inl rfl)
theorem pR_ {p q:Int} (h:cmpI p q=0):p=q:=by
 unfold cmpI at h
 split at h
 ·cases h
 ·split at h
  ·cases h
  ·omega
theorem bW_ {z:Int} (h:small z=true):aC_ (str z)=some z:=by rw[bA_,if_pos h]
structure CpAt (n1 d1 n2 d2:ByteArray) (w W:World):Prop where
 bw:Below w.heap.size w W
 x0:W.cell? ⟨w.heap.size,0,none⟩=some (.string n1)
 x1:W.cell? ⟨w.heap.size,1,none⟩=some (.string d1)
 y0:W.cell? ⟨w.heap.size+1,0,none⟩=some (.string n2)
 y1:W.cell? ⟨w.heap.size+1,1,none⟩=some (.string d2)
 f0:W.frozen? ⟨w.heap.size,0,none⟩=false
 f1:W.frozen? ⟨w.heap.size,1,none⟩=false
 g0:W.frozen? ⟨w.heap.size+1,0,none⟩=false
 g1:W.frozen? ⟨w.heap.size+1,1,none⟩=false
 sz:w.heap.size+1+1≤W.heap.size
theorem CpAt.below {n1 d1 n2 d2:ByteArray} {w W W':World} (h:CpAt n1 d1 n2 d2 w W) (hb:Below W.heap.size W W'):CpAt n1 d1 n2 d2 w W':=by
 obtain⟨c,f⟩:=pW_ hb
 have hs:=h.sz
 have hs':=hb.size
 exact⟨h.bw.trans (hb.mono (by omega)),(c _ _ (by omega)).trans h.x0,(c _ _ (by omega)).trans h.x1,(c _ _ (by omega)).trans h.y0,(c _ _ (by omega)).trans h.y1,(f _ _ (by omega)).trans h.f0,(f _ _ (by omega)).trans h.f1,(f _ _ (by omega)).trans h.g0,(f _ _ (by omega)).trans h.g1,by omega⟩
theorem CpAt.start (w:World) (n1 d1 n2 d2:ByteArray) (t:TypeId):CpAt n1 d1 n2 d2 w ((w.alloc (.cells #[.string n1,.string d1] t)).alloc (.cells #[.string n2,.string d2] t)):=by
 refine⟨((Below.refl _ _).alloc (Nat.le_refl _) _).alloc (by simp) _,?_,?_,?_,?_,?_,?_,?_,?_,by simp⟩ <;> simp[go_sem]
theorem CpAt.set {n1 d1 n2 d2:ByteArray} {w W:World} (h:CpAt n1 d1 n2 d2 w W) (p1 q1 p2 q2:ByteArray) :
  CpAt p1 q1 p2 q2 w ((((W.setCell ⟨w.heap.size,0,none⟩ (.string p1)).setCell ⟨w.heap.size,1,none⟩ (.string q1)).setCell ⟨w.heap.size+1,0,none⟩ (.string p2)).setCell ⟨w.heap.size+1,1,none⟩ (.string q2)):=by
 have oth:∀(W:World) (x y:Addr) (u:Value),y≠x→(W.setCell x u).cell? y=W.cell? y:=fun W x y u h=>World.cell?_setCell_other _ _ _ _ (by first|exact h|exact fun e=>h e.symm)
 have sz:=h.sz
 obtain⟨hb,x0,x1,y0,y1,f0,f1,g0,g1,_⟩:=h
 refine⟨(((hb.setCell (by simp) _).setCell (by simp) _).setCell (by simp) _).setCell (by simp) _,?_,?_,?_,?_,?_,?_,?_,?_,by simpa using sz⟩
 ·rw[oth _ _ _ _ (by simp),oth _ _ _ _ (by simp),oth _ _ _ _ (by simp)]
  exact World.cell?_setCell_same _ _ _ x0
 ·rw[oth _ _ _ _ (by simp),oth _ _ _ _ (by simp)]
  exact World.cell?_setCell_same _ _ _ (by rw[oth _ _ _ _ (by simp)];exact x1)
 ·rw[oth _ _ _ _ (by simp)]
  exact World.cell?_setCell_same _ _ _ (by rw[oth _ _ _ _ (by simp),oth _ _ _ _ (by simp)];exact y0)
 ·exact World.cell?_setCell_same _ _ _ (by rw[oth _ _ _ _ (by simp),oth _ _ _ _ (by simp),oth _ _ _ _ (by simp)];exact y1)
 all_goals simpa[go_sem] using (by assumption)
def pU_ (N:Nat) (W:World):Nat:=match W.cell? ⟨N,1,none⟩ with|some (.string d)=>((aC_ d).getD 0).natAbs|_=>0
theorem rY_ {N:Nat} {W:World} {n d:ByteArray} {r:Rat} (h:W.cell? ⟨N,1,none⟩=some (.string d)) (hr:ratO n d=some r):pU_ N W=r.den:=by
 unfold pU_
 rw[h]
 show((aC_ d).getD 0).natAbs=r.den
 rw[(fL_ hr).2]
 show(r.den:Int).natAbs=r.den
 omega
theorem CpAt.drew {n1 d1 n2 d2:ByteArray} {w W:World} (h:CpAt n1 d1 n2 d2 w W):CpAt n1 d1 n2 d2 w W.drew:=⟨h.bw.drew,h.x0,h.x1,h.y0,h.y1,h.f0,h.f1,h.g0,h.g1,h.sz⟩
theorem wH_ (a1 a2 b1 b2:ByteArray) (s:Int) (w:World) (x6 x7 x8 x9 x10 x11 x12 x13 x14 x15 x16 x17 x18 x19 x20 x21 x22 x23 x24 x25 x26 x27 x28 x29 x30 x31 x32 x33 x34 x35 x36 x37 x38 x39 x40 x41 x42 x43 x44 x45 x46 x47 x48 x49 x50 x51 x52 x53 x54 x55 x56 x57 x58 x59 x60 x61 x62 x63 x64 x65 x66 x67 x68 x69 x70 x71 x72 x73:Value):∃u:Nat→Value,({ tmps:=#[.agg #[.string a1,.string a2],.agg #[.string b1,.string b2],.pointer (some ⟨w.heap.size,0,none⟩),.pointer (some ⟨w.heap.size+1,0,none⟩),.int .i64 0,.int .i64 s,x6,x7,x8,x9,x10,x11,x12,x13,x14,x15,x16,x17,x18,x19,x20,x21,x22,x23,x24,x25,x26,x27,x28,x29,x30,x31,x32,x33,x34,x35,x36,x37,x38,x39,x40,x41,x42,x43,x44,x45,x46,x47,x48,x49,x50,x51,x52,x53,x54,x55,x56,x57,x58,x59,x60,x61,x62,x63,x64,x65,x66,x67,x68,x69,x70,x71,x72,x73],defers:=[] } : Act) = { tmps:=#[.agg #[.string a1,.string a2],.agg #[.string b1,.string b2],.pointer (some ⟨w.heap.size,0,none⟩),.pointer (some ⟨w.heap.size+1,0,none⟩),.int .i64 0,.int .i64 s,(u 6),(u 7),(u 8),(u 9),(u 10),(u 11),(u 12),(u 13),(u 14),(u 15),(u 16),(u 17),(u 18),(u 19),(u 20),(u 21),(u 22),(u 23),(u 24),(u 25),(u 26),(u 27),(u 28),(u 29),(u 30),(u 31),(u 32),(u 33),(u 34),(u 35),(u 36),(u 37),(u 38),(u 39),(u 40),(u 41),(u 42),(u 43),(u 44),(u 45),(u 46),(u 47),(u 48),(u 49),(u 50),(u 51),(u 52),(u 53),(u 54),(u 55),(u 56),(u 57),(u 58),(u 59),(u 60),(u 61),(u 62),(u 63),(u 64),(u 65),(u 66),(u 67),(u 68),(u 69),(u 70),(u 71),(u 72),(u 73)],defers:=[] }:=⟨fun i=>[x6,x7,x8,x9,x10,x11,x12,x13,x14,x15,x16,x17,x18,x19,x20,x21,x22,x23,x24,x25,x26,x27,x28,x29,x30,x31,x32,x33,x34,x35,x36,x37,x38,x39,x40,x41,x42,x43,x44,x45,x46,x47,x48,x49,x50,x51,x52,x53,x54,x55,x56,x57,x58,x59,x60,x61,x62,x63,x64,x65,x66,x67,x68,x69,x70,x71,x72,x73].getD (i-6) undef,rfl⟩
def CmpJ (a1 a2 b1 b2:ByteArray) (a b:Rat) (w:World) (a':Act) (W:World):Prop:=
 ∃(s:Int) (n1 d1 n2 d2:ByteArray) (A B:Rat),(∃u:Nat→Value,a' = { tmps:=#[.agg #[.string a1,.string a2],.agg #[.string b1,.string b2],.pointer (some ⟨w.heap.size,0,none⟩),.pointer (some ⟨w.heap.size+1,0,none⟩),.int .i64 0,.int .i64 s,(u 6),(u 7),(u 8),(u 9),(u 10),(u 11),(u 12),(u 13),(u 14),(u 15),(u 16),(u 17),(u 18),(u 19),(u 20),(u 21),(u 22),(u 23),(u 24),(u 25),(u 26),(u 27),(u 28),(u 29),(u 30),(u 31),(u 32),(u 33),(u 34),(u 35),(u 36),(u 37),(u 38),(u 39),(u 40),(u 41),(u 42),(u 43),(u 44),(u 45),(u 46),(u 47),(u 48),(u 49),(u 50),(u 51),(u 52),(u 53),(u 54),(u 55),(u 56),(u 57),(u 58),(u 59),(u 60),(u 61),(u 62),(u 63),(u 64),(u 65),(u 66),(u 67),(u 68),(u 69),(u 70),(u 71),(u 72),(u 73)],defers:=[] })∧CpAt n1 d1 n2 d2 w W∧ratO n1 d1=some A∧ratO n2 d2=some B∧(s=1∨s = -1)∧s*cmpR A B=cmpR a b
theorem wV_ {a1 a2 b1 b2:ByteArray} {a b:Rat} {w:World} (hi:IOps w) (ha:ratO a1 a2=some a) (hb:ratO b1 b2=some b) :
  Calls Tryz.prog 85 #[.agg #[.string a1,.string a2],.agg #[.string b1,.string b2]] w fun e W'=>e=.returned (.int .i64 (cmpR a b))∧Below w.heap.size w W':=by
 obtain⟨za1,za2⟩:=cY_ ha
 obtain⟨zb1,zb2⟩:=cY_ hb
 have v1:=hid (fun W (h:CpAt a1 a2 b1 b2 w W)=>by have:=qC_ za1 za2 (hi.below h.bw);rw[show vR a1 a2=true by unfold vR;rw[ha];rfl] at this;exact this)
 have v2:=hid (fun W (h:CpAt a1 a2 b1 b2 w W)=>by have:=qC_ zb1 zb2 (hi.below h.bw);rw[show vR b1 b2=true by unfold vR;rw[hb];rfl] at this;exact this)
 have H0:=hid (CpAt.start w a1 a2 b1 b2 47)
 have HI:=hid hi
 have HA:=hid ha
 have HB:=hid hb
 clear hi ha hb za1 za2 zb1 zb2
 go_enter Tryz.func85,Tryz.ntmps85
 go_wp2
 refine wp_scope_jumps 0 (CmpJ a1 a2 b1 b2 a b w) (fun _ W=>pU_ w.heap.size W) rfl ?_ ?_
 ·go_wp2_with (first
   | (go_at_call 118;with_reducible refine(v1.out _ H0.out).mono ?_;rintro e w1 ⟨rfl,hb⟩;have h1:=H0.out.below hb;obtain⟨_,x0,x1,y0,y1,_⟩:=id h1;have H1:=hid h1;clear h1 hb)
   | (go_at_call 118;with_reducible refine(v2.out _ H1.out).mono ?_;rintro e w2 ⟨rfl,hb⟩;have H2:=hid (H1.out.below hb);clear hb)
   | fail)
  go_step3
  have hc:=H2.out
  have h1:=HA.out
  have h2:=HB.out
  obtain⟨cc,hcc⟩:∃cc,cmpR a b=cc:=⟨_,rfl⟩
  have HCC:=hid hcc
  have hm:1*cmpR a b=cc:=by rw[hcc];omega
  clear hcc
  clear v1 v2
  obtain⟨za1,za2⟩:=cY_ h1
  obtain⟨zb1,zb2⟩:=cY_ h2
  obtain⟨e1,e2⟩:=iN_ h1
  obtain⟨e3,e4⟩:=iN_ h2
  have fA:=(dA_ h1).2.2
  have fB:=(dA_ h2).2.2
  have k1:=hid (fun W' (h:CpAt a1 a2 b1 b2 w W')=>by have:=HI.out.div za1 za2 W' h.bw;rw[e1,e2,aB_ (aJ_ fA),aB_ (dZ_ fA),aV_ (aJ_ fA)] at this;exact this)
  have k2:=hid (fun W' (h:CpAt a1 a2 b1 b2 w W')=>by have:=HI.out.div zb1 zb2 W' h.bw;rw[e3,e4,aB_ (aJ_ fB),aB_ (dZ_ fB),aV_ (aJ_ fB)] at this;exact this)
  have k3:=hid (fun W' (h:CpAt a1 a2 b1 b2 w W')=>by have:=HI.out.cmp (mB_ (aJ_ fA)) (mB_ (aJ_ fB)) W' h.bw;rw[show cmpO (str a.floor) (str b.floor)=cmpI a.floor b.floor by unfold cmpO;rw[bW_ (aJ_ fA),bW_ (aJ_ fB)]] at this;exact this)
  obtain⟨_,x0,x1,y0,y1,_⟩:=id hc
  have H1:=hid hc
  clear hc e1 e2 e3 e4 za1 zb1 za2 zb2
  have FF:=hid (lV_ (a:=a) (b:=b))
  have RR:=hid (pQ_ (a:=a) (b:=b))
  have ZA:=fP_ (z:=a.num%(a.den:Int))
  have ZB:=fP_ (z:=b.num%(b.den:Int))
  have NA:=hid (gA_ h1)
  have NB:=hid (gA_ h2)
  have HA1:=hid h1
  have HB1:=hid h2
  have HM:=hid hm
  clear hm h1 h2 fA fB
  generalize str a.floor=tp at k1 k3
  generalize str b.floor=tq at k2 k3
  generalize hr1:str (a.num%(a.den:Int))=tr at k1 ZA NA
  generalize hr2:str (b.num%(b.den:Int))=ts at k2 ZB NB
  rcases lW_ a.floor b.floor with hc|hc|hc
  ·have hres:=FF.out (by omega)
   rw[hc] at hres
   rw[hc] at k3
   have hfin:=HM.out
   rw[hres] at hfin
   replace hfin:cmpR a b = -1:=HCC.out.trans (show cc = -1 by omega)
   have hfin:=hid hfin
   clear hres ZA ZB
   go_wp2_with (first
    | (go_at_call 119;with_reducible refine(k1.out _ H1.out).mono ?_;rintro e w1 ⟨rfl,hb⟩;have h2:=H1.out.below hb;obtain⟨_,x0',x1',y0',y1',_⟩:=id h2;have H2:=hid h2;clear h2 hb)
    | (go_at_call 119;with_reducible refine(k2.out _ H2.out).mono ?_;rintro e w2 ⟨rfl,hb⟩;have H3:=hid (H2.out.below hb);clear hb)
    | (go_at_call 120;with_reducible refine(k3.out _ H3.out).mono ?_;rintro e w3 ⟨rfl,hb⟩;have h4:=H3.out.below hb;obtain⟨_,x0'',x1'',y0'',y1'',f0'',f1'',g0'',g1'',_⟩:=id h4;have H4:=hid h4;clear h4 hb)
    | fail)
   simp only[Exit.jump]
   go_ret
   exact⟨by rw[hfin.out];rfl,H4.out.bw⟩
  ·have hf:=pR_ hc
   have hres:=RR.out hf
   rw[hc] at k3
   have hm:=HM.out
   rw[hres] at hm
   clear hres hf hc
   by_cases hA:a.num%(a.den:Int)=0
   ·rw[decide_eq_true hA] at ZA
    rw[if_pos hA] at hm
    by_cases hB:b.num%(b.den:Int)=0
    ·rw[decide_eq_true hB] at ZB
     rw[if_pos hB] at hm
     replace hm:cmpR a b=0:=HCC.out.trans (show cc=0 by omega)
     have hfin:=hid hm
     clear hm hA hB
     go_wp2_with (first
      | (go_at_call 119;with_reducible refine(k1.out _ H1.out).mono ?_;rintro e w1 ⟨rfl,hb⟩;have h2:=H1.out.below hb;obtain⟨_,x0',x1',y0',y1',_⟩:=id h2;have H2:=hid h2;clear h2 hb)
      | (go_at_call 119;with_reducible refine(k2.out _ H2.out).mono ?_;rintro e w2 ⟨rfl,hb⟩;have H3:=hid (H2.out.below hb);clear hb)
      | (go_at_call 120;with_reducible refine(k3.out _ H3.out).mono ?_;rintro e w3 ⟨rfl,hb⟩;have h4:=H3.out.below hb;obtain⟨_,x0'',x1'',y0'',y1'',f0'',f1'',g0'',g1'',_⟩:=id h4;have H4:=hid h4;clear h4 hb)
      | fail)
     simp only[Exit.jump]
     go_ret
     exact⟨by rw[hfin.out];rfl,H4.out.bw⟩
    ·rw[decide_eq_false hB] at ZB
     rw[if_neg hB] at hm
     replace hm:cmpR a b = -1:=HCC.out.trans (show cc = -1 by omega)
     have hfin:=hid hm
     clear hm hA hB
     go_wp2_with (first
      | (go_at_call 119;with_reducible refine(k1.out _ H1.out).mono ?_;rintro e w1 ⟨rfl,hb⟩;have h2:=H1.out.below hb;obtain⟨_,x0',x1',y0',y1',_⟩:=id h2;have H2:=hid h2;clear h2 hb)
      | (go_at_call 119;with_reducible refine(k2.out _ H2.out).mono ?_;rintro e w2 ⟨rfl,hb⟩;have H3:=hid (H2.out.below hb);clear hb)
      | (go_at_call 120;with_reducible refine(k3.out _ H3.out).mono ?_;rintro e w3 ⟨rfl,hb⟩;have h4:=H3.out.below hb;obtain⟨_,x0'',x1'',y0'',y1'',f0'',f1'',g0'',g1'',_⟩:=id h4;have H4:=hid h4;clear h4 hb)
      | fail)
     simp only[Exit.jump]
     go_ret
     exact⟨by rw[hfin.out];rfl,H4.out.bw⟩
   ·rw[decide_eq_false hA] at ZA
    rw[if_neg hA] at hm
    by_cases hB:b.num%(b.den:Int)=0
    ·rw[decide_eq_true hB] at ZB
     rw[if_pos hB] at hm
     replace hm:cmpR a b=1:=HCC.out.trans (show cc=1 by omega)
     have hfin:=hid hm
     clear hm hA hB
     go_wp2_with (first
      | (go_at_call 119;with_reducible refine(k1.out _ H1.out).mono ?_;rintro e w1 ⟨rfl,hb⟩;have h2:=H1.out.below hb;obtain⟨_,x0',x1',y0',y1',_⟩:=id h2;have H2:=hid h2;clear h2 hb)
      | (go_at_call 119;with_reducible refine(k2.out _ H2.out).mono ?_;rintro e w2 ⟨rfl,hb⟩;have H3:=hid (H2.out.below hb);clear hb)
      | (go_at_call 120;with_reducible refine(k3.out _ H3.out).mono ?_;rintro e w3 ⟨rfl,hb⟩;have h4:=H3.out.below hb;obtain⟨_,x0'',x1'',y0'',y1'',f0'',f1'',g0'',g1'',_⟩:=id h4;have H4:=hid h4;clear h4 hb)
      | fail)
     simp only[Exit.jump]
     go_ret
     exact⟨by rw[hfin.out];rfl,H4.out.bw⟩
    ·rw[decide_eq_false hB] at ZB
     rw[if_neg hB] at hm
     have na:=NA.out hA
     have nb:=NB.out hB
     have nd:=tD_ hA
     have HN:=hid (And.intro na (And.intro nb (And.intro nd hm)))
     clear hm na nb nd hA hB
     go_wp2_with (first
      | (go_at_call 119;with_reducible refine(k1.out _ H1.out).mono ?_;rintro e w1 ⟨rfl,hb⟩;have h2:=H1.out.below hb;obtain⟨_,x0',x1',y0',y1',_⟩:=id h2;have H2:=hid h2;clear h2 hb)
      | (go_at_call 119;with_reducible refine(k2.out _ H2.out).mono ?_;rintro e w2 ⟨rfl,hb⟩;have H3:=hid (H2.out.below hb);clear hb)
      | (go_at_call 120;with_reducible refine(k3.out _ H3.out).mono ?_;rintro e w3 ⟨rfl,hb⟩;have h4:=H3.out.below hb;obtain⟨_,x0'',x1'',y0'',y1'',f0'',f1'',g0'',g1'',_⟩:=id h4;have H4:=hid h4;clear h4 hb)
      | fail)
     go_region
     go_wp2
     go_step3
     obtain⟨na,nb,nd,hm⟩:=HN.out
     have h5:=(H4.out.set a2 tr b2 ts).drew
     refine⟨rfl,-1,a2,tr,b2,ts,_,_,?_,h5,na,nb,?_,?_⟩
     ·exact wH_ _ _ _ _ _ _ _ _ _ _ _ _ _ _ _ _ _ _ _ _ _ _ _ _ _ _ _ _ _ _ _ _ _ _ _ _ _ _ _ _ _ _ _ _ _ _ _ _ _ _ _ _ _ _ _ _ _ _ _ _ _ _ _ _ _ _ _ _ _ _ _ _ _ _
     ·exact .inr rfl
     ·rw[HCC.out,←hm];omega
  ·have hres:=FF.out (by omega)
   rw[hc] at hres
   rw[hc] at k3
   have hfin:=HM.out
   rw[hres] at hfin
   replace hfin:cmpR a b=1:=HCC.out.trans (show cc=1 by omega)
   have hfin:=hid hfin
   clear hres ZA ZB
   go_wp2_with (first
    | (go_at_call 119;with_reducible refine(k1.out _ H1.out).mono ?_;rintro e w1 ⟨rfl,hb⟩;have h2:=H1.out.below hb;obtain⟨_,x0',x1',y0',y1',_⟩:=id h2;have H2:=hid h2;clear h2 hb)
    | (go_at_call 119;with_reducible refine(k2.out _ H2.out).mono ?_;rintro e w2 ⟨rfl,hb⟩;have H3:=hid (H2.out.below hb);clear hb)
    | (go_at_call 120;with_reducible refine(k3.out _ H3.out).mono ?_;rintro e w3 ⟨rfl,hb⟩;have h4:=H3.out.below hb;obtain⟨_,x0'',x1'',y0'',y1'',f0'',f1'',g0'',g1'',_⟩:=id h4;have H4:=hid h4;clear h4 hb)
    | fail)
   simp only[Exit.jump]
   go_ret
   exact⟨by rw[hfin.out];rfl,H4.out.bw⟩
 ·rintro a' W ⟨s,n1,d1,n2,d2,A,B,⟨u,rfl⟩,hc,h1,h2,hs,hm⟩
  obtain⟨zn1,zd1⟩:=cY_ h1
  obtain⟨zn2,zd2⟩:=cY_ h2
  obtain⟨e1,e2⟩:=iN_ h1
  obtain⟨e3,e4⟩:=iN_ h2
  have fA:=(dA_ h1).2.2
  have fB:=(dA_ h2).2.2
  have k1:=hid (fun W' (h:CpAt n1 d1 n2 d2 w W')=>by have:=HI.out.div zn1 zd1 W' h.bw;rw[e1,e2,aB_ (aJ_ fA),aB_ (dZ_ fA),aV_ (aJ_ fA)] at this;exact this)
  have k2:=hid (fun W' (h:CpAt n1 d1 n2 d2 w W')=>by have:=HI.out.div zn2 zd2 W' h.bw;rw[e3,e4,aB_ (aJ_ fB),aB_ (dZ_ fB),aV_ (aJ_ fB)] at this;exact this)
  have k3:=hid (fun W' (h:CpAt n1 d1 n2 d2 w W')=>by have:=HI.out.cmp (mB_ (aJ_ fA)) (mB_ (aJ_ fB)) W' h.bw;rw[show cmpO (str A.floor) (str B.floor)=cmpI A.floor B.floor by unfold cmpO;rw[bW_ (aJ_ fA),bW_ (aJ_ fB)]] at this;exact this)
  obtain⟨_,x0,x1,y0,y1,_⟩:=id hc
  have H1:=hid hc
  clear hc e1 e2 e3 e4 zn1 zn2 zd1 zd2
  have hsb : -1≤s∧s≤1:=by rcases hs with rfl|rfl <;> omega
  obtain⟨sb1,sb2⟩:=hsb
  have FF:=hid (lV_ (a:=A) (b:=B))
  have RR:=hid (pQ_ (a:=A) (b:=B))
  have ZA:=fP_ (z:=A.num%(A.den:Int))
  have ZB:=fP_ (z:=B.num%(B.den:Int))
  have NA:=hid (gA_ h1)
  have NB:=hid (gA_ h2)
  have hden:=hid (rY_ H1.out.x1 h1)
  have HA1:=hid h1
  have HB1:=hid h2
  have HM:=hid hm
  have HSS:=hid hs
  clear hm h1 h2 hs fA fB
  generalize str A.floor=tp at k1 k3
  generalize str B.floor=tq at k2 k3
  generalize hr1:str (A.num%(A.den:Int))=tr at k1 ZA NA
  generalize hr2:str (B.num%(B.den:Int))=ts at k2 ZB NB
  rcases lW_ A.floor B.floor with hc|hc|hc
  ·have hres:=FF.out (by omega)
   rw[hc] at hres
   rw[hc] at k3
   have hfin:=HM.out
   rw[hres] at hfin
   replace hfin:cmpR a b = -s:=by omega
   have hfin:=hid hfin
   clear hres ZA ZB
   go_wp2_with (first
    | (go_at_call 119;with_reducible refine(k1.out _ H1.out).mono ?_;rintro e w1 ⟨rfl,hb⟩;have h2:=H1.out.below hb;obtain⟨_,x0',x1',y0',y1',_⟩:=id h2;have H2:=hid h2;clear h2 hb)
    | (go_at_call 119;with_reducible refine(k2.out _ H2.out).mono ?_;rintro e w2 ⟨rfl,hb⟩;have H3:=hid (H2.out.below hb);clear hb)
    | (go_at_call 120;with_reducible refine(k3.out _ H3.out).mono ?_;rintro e w3 ⟨rfl,hb⟩;have h4:=H3.out.below hb;obtain⟨_,x0'',x1'',y0'',y1'',f0'',f1'',g0'',g1'',_⟩:=id h4;have H4:=hid h4;clear h4 hb)
    | fail)
   simp only[Exit.jump]
   go_ret
   exact⟨by rw[hfin.out];rfl,H4.out.bw⟩
  ·have hf:=pR_ hc
   have hres:=RR.out hf
   rw[hc] at k3
   have hm:=HM.out
   rw[hres] at hm
   clear hres hf hc
   by_cases hA:A.num%(A.den:Int)=0
   ·rw[decide_eq_true hA] at ZA
    rw[if_pos hA] at hm
    by_cases hB:B.num%(B.den:Int)=0
    ·rw[decide_eq_true hB] at ZB
     rw[if_pos hB] at hm
     replace hm:cmpR a b=0:=by omega
     have hfin:=hid hm
     clear hm hA hB
     go_wp2_with (first
      | (go_at_call 119;with_reducible refine(k1.out _ H1.out).mono ?_;rintro e w1 ⟨rfl,hb⟩;have h2:=H1.out.below hb;obtain⟨_,x0',x1',y0',y1',_⟩:=id h2;have H2:=hid h2;clear h2 hb)
      | (go_at_call 119;with_reducible refine(k2.out _ H2.out).mono ?_;rintro e w2 ⟨rfl,hb⟩;have H3:=hid (H2.out.below hb);clear hb)
      | (go_at_call 120;with_reducible refine(k3.out _ H3.out).mono ?_;rintro e w3 ⟨rfl,hb⟩;have h4:=H3.out.below hb;obtain⟨_,x0'',x1'',y0'',y1'',f0'',f1'',g0'',g1'',_⟩:=id h4;have H4:=hid h4;clear h4 hb)
      | fail)
     simp only[Exit.jump]
     go_ret
     exact⟨by rw[hfin.out];rfl,H4.out.bw⟩
    ·rw[decide_eq_false hB] at ZB
     rw[if_neg hB] at hm
     replace hm:cmpR a b = -s:=by omega
     have hfin:=hid hm
     clear hm hA hB
     go_wp2_with (first
      | (go_at_call 119;with_reducible refine(k1.out _ H1.out).mono ?_;rintro e w1 ⟨rfl,hb⟩;have h2:=H1.out.below hb;obtain⟨_,x0',x1',y0',y1',_⟩:=id h2;have H2:=hid h2;clear h2 hb)
      | (go_at_call 119;with_reducible refine(k2.out _ H2.out).mono ?_;rintro e w2 ⟨rfl,hb⟩;have H3:=hid (H2.out.below hb);clear hb)
      | (go_at_call 120;with_reducible refine(k3.out _ H3.out).mono ?_;rintro e w3 ⟨rfl,hb⟩;have h4:=H3.out.below hb;obtain⟨_,x0'',x1'',y0'',y1'',f0'',f1'',g0'',g1'',_⟩:=id h4;have H4:=hid h4;clear h4 hb)
      | fail)
     simp only[Exit.jump]
     go_ret
     exact⟨by rw[hfin.out];rfl,H4.out.bw⟩
   ·rw[decide_eq_false hA] at ZA
    rw[if_neg hA] at hm
    by_cases hB:B.num%(B.den:Int)=0
    ·rw[decide_eq_true hB] at ZB
     rw[if_pos hB] at hm
     replace hm:cmpR a b=s:=by omega
     have hfin:=hid hm
     clear hm hA hB
     go_wp2_with (first
      | (go_at_call 119;with_reducible refine(k1.out _ H1.out).mono ?_;rintro e w1 ⟨rfl,hb⟩;have h2:=H1.out.below hb;obtain⟨_,x0',x1',y0',y1',_⟩:=id h2;have H2:=hid h2;clear h2 hb)
      | (go_at_call 119;with_reducible refine(k2.out _ H2.out).mono ?_;rintro e w2 ⟨rfl,hb⟩;have H3:=hid (H2.out.below hb);clear hb)
      | (go_at_call 120;with_reducible refine(k3.out _ H3.out).mono ?_;rintro e w3 ⟨rfl,hb⟩;have h4:=H3.out.below hb;obtain⟨_,x0'',x1'',y0'',y1'',f0'',f1'',g0'',g1'',_⟩:=id h4;have H4:=hid h4;clear h4 hb)
      | fail)
     simp only[Exit.jump]
     go_ret
     exact⟨by rw[hfin.out];rfl,H4.out.bw⟩
    ·rw[decide_eq_false hB] at ZB
     rw[if_neg hB] at hm
     have na:=NA.out hA
     have nb:=NB.out hB
     have nd:=tD_ hA
     have HN:=hid (And.intro na (And.intro nb (And.intro nd hm)))
     clear hm na nb nd hA hB
     go_wp2_with (first
      | (go_at_call 119;with_reducible refine(k1.out _ H1.out).mono ?_;rintro e w1 ⟨rfl,hb⟩;have h2:=H1.out.below hb;obtain⟨_,x0',x1',y0',y1',_⟩:=id h2;have H2:=hid h2;clear h2 hb)
      | (go_at_call 119;with_reducible refine(k2.out _ H2.out).mono ?_;rintro e w2 ⟨rfl,hb⟩;have H3:=hid (H2.out.below hb);clear hb)
      | (go_at_call 120;with_reducible refine(k3.out _ H3.out).mono ?_;rintro e w3 ⟨rfl,hb⟩;have h4:=H3.out.below hb;obtain⟨_,x0'',x1'',y0'',y1'',f0'',f1'',g0'',g1'',_⟩:=id h4;have H4:=hid h4;clear h4 hb)
      | fail)
     go_region
     go_wp2
     go_step3
     obtain⟨na,nb,nd,hm⟩:=HN.out
     have h5:=(H4.out.set d1 tr d2 ts).drew
     refine⟨rfl,⟨-s,d1,tr,d2,ts,_,_,?_,h5,na,nb,?_,?_⟩,?_⟩
     ·exact wH_ _ _ _ _ _ _ _ _ _ _ _ _ _ _ _ _ _ _ _ _ _ _ _ _ _ _ _ _ _ _ _ _ _ _ _ _ _ _ _ _ _ _ _ _ _ _ _ _ _ _ _ _ _ _ _ _ _ _ _ _ _ _ _ _ _ _ _ _ _ _ _ _ _ _
     ·rcases HSS.out with rfl|rfl
      ·exact .inr rfl
      ·exact .inl rfl
     ·rw[←hm,Int.neg_mul,Int.mul_neg]
     ·show pU_ w.heap.size _<pU_ w.heap.size W
      rw[hden.out,rY_ h5.x1 na]
      exact nd
  ·have hres:=FF.out (by omega)
   rw[hc] at hres
   rw[hc] at k3
   have hfin:=HM.out
   rw[hres] at hfin
   replace hfin:cmpR a b=s:=by omega
   have hfin:=hid hfin
   clear hres ZA ZB
   go_wp2_with (first
    | (go_at_call 119;with_reducible refine(k1.out _ H1.out).mono ?_;rintro e w1 ⟨rfl,hb⟩;have h2:=H1.out.below hb;obtain⟨_,x0',x1',y0',y1',_⟩:=id h2;have H2:=hid h2;clear h2 hb)
    | (go_at_call 119;with_reducible refine(k2.out _ H2.out).mono ?_;rintro e w2 ⟨rfl,hb⟩;have H3:=hid (H2.out.below hb);clear hb)
    | (go_at_call 120;with_reducible refine(k3.out _ H3.out).mono ?_;rintro e w3 ⟨rfl,hb⟩;have h4:=H3.out.below hb;obtain⟨_,x0'',x1'',y0'',y1'',f0'',f1'',g0'',g1'',_⟩:=id h4;have H4:=hid h4;clear h4 hb)
    | fail)
   simp only[Exit.jump]
   go_ret
   exact⟨by rw[hfin.out];rfl,H4.out.bw⟩
theorem yN_ {a1 a2 b1 b2:ByteArray} {w:World} (hi:IOps w) (z1:Sz a1) (z2:Sz a2) (z3:Sz b1) (z4:Sz b2) (hn:ratO a1 a2=none∨ratO b1 b2=none) :
  Calls Tryz.prog 85 #[.agg #[.string a1,.string a2],.agg #[.string b1,.string b2]] w fun e W'=>e=.returned (.int .i64 0)∧Below w.heap.size w W':=by
 have v1:=fun W (h:CpAt a1 a2 b1 b2 w W)=>qC_ z1 z2 (hi.below h.bw)
 have v2:=fun W (h:CpAt a1 a2 b1 b2 w W)=>qC_ z3 z4 (hi.below h.bw)
 have H0:=hid (CpAt.start w a1 a2 b1 b2 47)
 have hv:vR a1 a2=false∨vR a1 a2=true∧vR b1 b2=false:=by
  unfold vR
  rcases hn with h|h
  ·rw[h];exact .inl rfl
  ·rw[h]
   cases ratO a1 a2
   ·exact .inl rfl
   ·exact .inr ⟨rfl,rfl⟩
 clear hi z1 z2 z3 z4 hn
 rcases hv with h|⟨h,h'⟩
 ·rw[h] at v1
  have V1:=hid v1
  clear v1 v2 h
  go_enter Tryz.func85,Tryz.ntmps85
  go_wp2
  go_step3
  go_wp2_with (first
   | (go_at_call 118;with_reducible refine(V1.out _ H0.out).mono ?_;rintro e w1 ⟨rfl,hb⟩;have H1:=hid (H0.out.below hb);clear hb)
   | fail)
  rw[Exit.noGoto_ret]
  go_ret
  exact⟨rfl,H1.out.bw⟩
 ·rw[h] at v1
  rw[h'] at v2
  have V1:=hid v1
  have V2:=hid v2
  clear v1 v2 h h'
  go_enter Tryz.func85,Tryz.ntmps85
  go_wp2
  go_step3
  go_wp2_with (first
   | (go_at_call 118;with_reducible refine(V1.out _ H0.out).mono ?_;rintro e w1 ⟨rfl,hb⟩;have h1:=H0.out.below hb;obtain⟨_,x0,x1,y0,y1,_⟩:=id h1;have H1:=hid h1;clear hb h1)
   | (go_at_call 118;with_reducible refine(V2.out _ H1.out).mono ?_;rintro e w2 ⟨rfl,hb⟩;have H2:=hid (H1.out.below hb);clear hb)
   | fail)
  rw[Exit.noGoto_ret]
  go_ret
  exact⟨rfl,H2.out.bw⟩
theorem sA_ {a1 a2 b1 b2:ByteArray} {w:World} (hi:IOps w) (z1:Sz a1) (z2:Sz a2) (z3:Sz b1) (z4:Sz b2) :
  Calls Tryz.prog 85 #[.agg #[.string a1,.string a2],.agg #[.string b1,.string b2]] w fun e W'=>e=.returned (.int .i64 (cmpS a1 a2 b1 b2))∧Below w.heap.size w W':=by
 by_cases hn:ratO a1 a2=none∨ratO b1 b2=none
 ·rw[wJ_ hn]
  exact yN_ hi z1 z2 z3 z4 hn
 ·obtain⟨a,ha⟩:∃a,ratO a1 a2=some a:=Option.ne_none_iff_exists'.1 (fun h=>hn (.inl h))
  obtain⟨b,hb⟩:∃b,ratO b1 b2=some b:=Option.ne_none_iff_exists'.1 (fun h=>hn (.inr h))
  rw[wI_ ha hb]
  exact wV_ hi ha hb
end Go.Proofs.YtjfdefglpoancaaGreatDoor
namespace Go.Proofs.YtjfdefglpoancaaGreatDoor
theorem xD_ {z:Int} : small z=decide (z.natAbs<10^200):=by
 unfold small
 exact decide_eq_decide.2 (jZ_ (by decide))
def FO (o:Option Rat):Prop:=∀r,o=some r→jD_ r
theorem aFF:aC_ ⟨#[]⟩=none:=by decide +kernel
theorem aJJ (d:ByteArray):ratO ⟨#[]⟩ d=none:=by unfold ratO;rw[aFF]
theorem uU_ {o:Option Rat} (h:FO o):ratO (qN o) (qD o)=o:=by
 cases o with
 | none=>exact aJJ _
 | some r=>exact zF_ (h r rfl)
def cH_ (f:Rat→Rat→Option Rat) (x y:Option Rat):Option Rat:=match x,y with|some a,some b=>f a b|_,_=>none
theorem vH_ {f:Rat→Rat→Option Rat} {x y:Option Rat} (hx:FO x) (hy:FO y):op2 f (qN x) (qD x) (qN y) (qD y)=cH_ f x y:=by
 unfold op2 cH_
 rw[uU_ hx,uU_ hy]
 try (cases x <;> cases y <;> rfl)
def gX_ (x y:Option Rat):Int:=match x,y with|some a,some b=>cmpR a b|_,_=>0
theorem aHR {x y:Option Rat} (hx:FO x) (hy:FO y):cmpS (qN x) (qD x) (qN y) (qD y)=gX_ x y:=by
 unfold cmpS gX_
 rw[uU_ hx,uU_ hy]
 try (cases x <;> cases y <;> rfl)
theorem FO.lift {f:Rat→Rat→Option Rat} (hf:∀{a b r:Rat},f a b=some r→jD_ r) (x y:Option Rat):FO (cH_ f x y):=fun r h=>by
 unfold cH_ at h
 cases x with
 | none=>cases h
 | some a=>
  cases y with
  | none=>cases h
  | some b=>exact hf h
theorem FO.add (x y:Option Rat):FO (cH_ addR x y):=FO.lift aMD x y
theorem FO.sub (x y:Option Rat):FO (cH_ subR x y):=FO.lift aJC x y
theorem FO.mul (x y:Option Rat):FO (cH_ mulR x y):=FO.lift aKA x y
theorem FO.div (x y:Option Rat):FO (cH_ divR x y):=FO.lift aKV x y
theorem eV_ (o:Option Rat) (h:FO o):Sz (qN o):=by
 cases o with
 | none=>exact uK_
 | some r=>rw[oL_,←aB_ (h r rfl).1];exact bU_ _
theorem eW_ (o:Option Rat) (h:FO o):Sz (qD o):=by
 cases o with
 | none=>exact uK_
 | some r=>rw[oM_,←aB_ (h r rfl).2];exact bU_ _
instance:Inhabited Pl:=⟨⟨0,0⟩⟩
section
variable {α:Type} [Inhabited α] (lt:α→α→Bool)
def swpN (l:List α) (j:Nat):List α:=(l.set (j+1) (l[j]?.getD default)).set j (l[j+1]?.getD default)
def bN_ (l:List α):Nat→List α
 | 0=>l
 | j+1=>if lt (l[j+1]?.getD default) (l[j]?.getD default) then bN_ (swpN l j) j else l
def outN (l:List α) (i:Nat):Nat→List α
 | 0=>l
 | k+1=>outN (bN_ lt l i) (i+1) k
def cD_ (l:List α):List α:=outN lt l 1 (l.length-1)
theorem oA_ (l:List α) (j:Nat):(swpN l j).length=l.length:=by simp[swpN]
theorem gQ_ (l:List α) (j:Nat):(bN_ lt l j).length=l.length:=by
 induction j generalizing l with
 | zero=>rfl
 | succ j ih=>
  unfold bN_
  split
  ·rw[ih,oA_]
  ·rfl
theorem xQ_ (l:List α) (i k:Nat):(outN lt l i k).length=l.length:=by
 induction k generalizing l i with
 | zero=>rfl
 | succ k ih=>
  unfold outN
  rw[ih,gQ_]
theorem fI_ (l:List α):(cD_ lt l).length=l.length:=xQ_ lt l 1 _
variable {lt}
theorem aJA {l:List α} {j:Nat} (hj:j+1<l.length) {x:α} (h:x∈swpN l j):x∈l:=by
 unfold swpN at h
 have h0:l[j]?.getD default∈l:=by rw[List.getElem?_eq_getElem (by omega)];exact List.getElem_mem _
 have h1:l[j+1]?.getD default∈l:=by rw[List.getElem?_eq_getElem hj];exact List.getElem_mem _
 rcases List.mem_or_eq_of_mem_set h with h|rfl
 ·rcases List.mem_or_eq_of_mem_set h with h|rfl
  ·exact h
  ·exact h0
 ·exact h1
theorem aBW {l:List α} {j:Nat} (hj:j<l.length) {x:α} (h:x∈bN_ lt l j):x∈l:=by
 induction j generalizing l with
 | zero=>exact h
 | succ j ih=>
  unfold bN_ at h
  split at h
  ·exact aJA hj (ih (by rw[oA_];omega) h)
  ·exact h
theorem aJX {l:List α} {i k:Nat} (hi:i+k≤l.length) {x:α} (h:x∈outN lt l i k):x∈l:=by
 induction k generalizing l i with
 | zero=>exact h
 | succ k ih=>
  unfold outN at h
  exact aBW (lt:=lt) (by omega) (ih (by rw[gQ_];omega) h)
theorem uN_ {l:List α} {x:α} (h:x∈cD_ lt l):x∈l:=by
 unfold cD_ at h
 cases l with
 | nil=>exact h
 | cons y l=>exact aJX (by simp;omega) h
end
def ltP (a b:Pl):Bool:=decide (a.y<b.y)||(decide (a.y=b.y)&&decide (a.x<b.x))
def aF_ {α:Type} [DecidableEq α]:List α→List α
 | []=>[]
 | [x]=>[x]
 | x::y::l=>if x=y then aF_ (y::l) else x::aF_ (y::l)
def popL {α:Type} (ok:α→α→α→Bool) (x:α):List α→List α
 | b::a::l=>if ok a b x then b::a::l else popL ok x (a::l)
 | l=>l
def aY_ {α:Type} (ok:α→α→α→Bool) (l:List α):List α:=l.foldl (fun out x=>x::popL ok x out) []
def aW_ {α:Type} (ok:α→α→α→Bool) (l:List α):List α:=(aY_ ok l).reverse
def aI_ (a b c:Pl):Bool:=decide (0<aA_ a b c)
def aS_ (l:List Pl):List Pl:=
 let s:=aF_ (cD_ ltP l)
 if s.length<3 then s else (aW_ aI_ s).dropLast++(aW_ aI_ s.reverse).dropLast
def whO (n:Int):Option Rat:=aO_ n 1
def plO (a b:Option Rat):Option Rat:=cH_ addR a b
def miO (a b:Option Rat):Option Rat:=cH_ subR a b
def tiO (a b:Option Rat):Option Rat:=cH_ mulR a b
def ovO (a b:Option Rat):Option Rat:=cH_ divR a b
def leO (a b:Option Rat):Bool:=decide (gX_ a b<0)
def oD_ (a b:Pl):Option Rat:=ovO (whO (b.y-a.y)) (whO (b.x-a.x))
def cI_ (a b:Pl) (x:Option Rat):Option Rat:=plO (whO a.y) (tiO (oD_ a b) (miO x (whO a.x)))
def eG_ (a b:Pl) (y:Int):Option Rat:=plO (whO a.x) (ovO (whO (y-a.y)) (oD_ a b))
def cL_ (r:Rc) (y:Option Rat):Option Rat:=
 let z:=miO y (whO r.y)
 if leO z (whO 0) then whO 0 else if leO (whO r.h) z then whO r.h else z
def mQ_ (a:Pl) (r:Rc):Option Rat:=whO (max a.x r.x)
def hC_ (b:Pl) (r:Rc):Option Rat:=whO (min b.x (r.x+r.w))
def uM_ (a b:Pl) (r:Rc):List (Option Rat):=
 [mQ_ a r,hC_ b r]++([r.y,r.y+r.h].filter fun y=>decide (a.y≠b.y)&&leO (mQ_ a r) (eG_ a b y)&&leO (eG_ a b y) (hC_ b r)).map (eG_ a b)
def aJW (a b:Pl) (r:Rc) (s t:Option Rat):Option Rat:=
 tiO (ovO (plO (cL_ r (cI_ a b s)) (cL_ r (cI_ a b t))) (whO 2)) (miO t s)
def sumO (a b:Pl) (r:Rc):List (Option Rat)→Option Rat→Option Rat
 | s::t::l,acc=>sumO a b r (t::l) (plO acc (aJW a b r s t))
 | _,acc=>acc
def dR_ (a b:Pl) (r:Rc):Option Rat:=
 if leO (mQ_ a r) (hC_ b r) then sumO a b r (cD_ leO (uM_ a b r)) (whO 0) else whO 0
def aM_ (l:List Pl):List (Pl×Pl):=l.zip (l.drop 1++l.take 1)
def hE_ (r:Rc) (acc:Option Rat) (e:Pl×Pl):Option Rat:=
 if e.1.x≤e.2.x then miO acc (dR_ e.1 e.2 r) else plO acc (dR_ e.2 e.1 r)
def bV_ (l:List Pl) (r:Rc):Option Rat:=(aM_ l).foldl (hE_ r) (whO 0)
def hF_ (l:List Pl):Int:=((aM_ l).map fun e=>e.1.x*e.2.y-e.1.y*e.2.x).foldl (· + ·) 0
theorem aJU:aS_ [⟨0,0⟩,⟨2,0⟩,⟨1,1⟩,⟨2,2⟩,⟨0,2⟩]=[⟨0,0⟩,⟨2,0⟩,⟨2,2⟩,⟨0,2⟩]:=by decide +kernel
theorem zP_:aS_ [⟨0,0⟩,⟨2,0⟩,⟨0,2⟩]=[⟨0,0⟩,⟨2,0⟩,⟨0,2⟩]:=by decide +kernel
theorem aJT:bV_ [⟨0,0⟩,⟨2,0⟩,⟨0,2⟩] ⟨0,0,1,1⟩=some 1:=by decide +kernel
theorem aJS:bV_ [⟨0,0⟩,⟨2,0⟩,⟨0,2⟩] ⟨0,0,2,1⟩=some (Rat.divInt 3 2):=by decide +kernel
theorem aJR:hF_ [⟨0,0⟩,⟨2,0⟩,⟨0,2⟩]=4:=by decide +kernel
end Go.Proofs.YtjfdefglpoancaaGreatDoor
namespace Go.Proofs.YtjfdefglpoancaaGreatDoor
open Go.RowKit Go.Shelf
attribute [local go_sem] Oper.semAt_some
theorem FrOp.below {w w':World} (h:FrOp w) (hb:Below w.heap.size w w'):FrOp w':=fun n h1 h2 W hk=>h n h1 h2 W (hb.trans (hk.mono hb.size))
theorem dG_ {n:Int} (h1 : -9223372036854775808≤n) (h2:n≤9223372036854775807) {w:World} (hi:IOps w) (hf:FrOp w) :
  Calls Tryz.prog 55 #[.int .i64 n] w fun e W'=>e=.returned (.agg #[.string (qN (whO n)),.string (qD (whO n))])∧Below w.heap.size w W':=by
 have H0:=hid ((AzAt.start w).push [.string ⟨#[]⟩,.string ⟨#[]⟩] 74)
 have K:=hid (fun(W:World) (h:Below w.heap.size w W)=>Of_q (n:=n) (d:=1) (hi.below h) (hf.below h) h1 h2 (by decide) (by decide))
 unfold whO
 generalize qN (aO_ n 1)=rn at K⊢
 generalize qD (aO_ n 1)=rd at K⊢
 generalize qE (aO_ n 1)=re at K
 clear hi hf
 go_enter Tryz.func55,Tryz.ntmps55
 go_wp2_with (first
  | (go_at_call 68;(with_reducible refine(K.out _ H0.out.bw).mono ?_);rintro e w1 ⟨rfl,hb⟩;have hp:=AzAt.al (H0.out.below hb) (.cells #[.string rn,.string rd] 47);have h_:=hp.row (w.heap.size,[.string ⟨#[]⟩,.string ⟨#[]⟩]) (by simp);have q1:=h_.row 0 _ rfl;have z1:=h_.fz 0 (by simp);have q2:=h_.row 1 _ rfl;have z2:=h_.fz 1 (by simp);clear h_;have H2:=hid hp;clear hb hp)
  | fail)
 have hp:=H2.out.set2 (by omega) (by simp <;> omega) (.string rn) (.string rd)
 generalize ((w1.alloc (.cells #[.string rn,.string rd] 47)).setCell ⟨w.heap.size,0,none⟩ (.string rn)).setCell ⟨w.heap.size,1,none⟩ (.string rd)=WF at hp⊢
 have h_:=hp.row (w.heap.size,[.string rn,.string rd]) (by simp)
 have q0:=h_.row 0 _ rfl
 have q1:=h_.row 1 _ rfl
 clear h_
 refine bodyPost_ret (v:=.agg #[.string rn,.string rd]) ?_ rfl ⟨rfl,hp.bw⟩
 simp[results,Tryz.results55,go_sem,Result.andThen,q0,q1]
theorem qX_ {x y:Option Rat} (fx:FO x) (fy:FO y) {w:World} (hi:IOps w) :
  Calls Tryz.prog 58 #[.agg #[.string (qN x),.string (qD x)],.agg #[.string (qN y),.string (qD y)]] w fun e W'=>e=.returned (.agg #[.string (qN (plO x y)),.string (qD (plO x y))])∧Below w.heap.size w W':=by
 have K:=hid (fun(W:World) (h:Below w.heap.size w W)=>by have:=Add_q (hi.below h) (eV_ _ fx) (eW_ _ fx) (eV_ _ fy) (eW_ _ fy);rw[vH_ fx fy] at this;exact this)
 unfold plO
 generalize qN (cH_ addR x y)=rn at K⊢
 generalize qD (cH_ addR x y)=rd at K⊢
 generalize qE (cH_ addR x y)=re at K
 clear fx fy hi
 generalize qN x=xn at K⊢
 generalize qD x=xd at K⊢
 generalize qN y=yn at K⊢
 generalize qD y=yd at K⊢
 have H0:=hid (show AzAt [(w.heap.size+1+1,[.string ⟨#[]⟩,.string ⟨#[]⟩]),(w.heap.size+1,[.string yn,.string yd]),(w.heap.size,[.string xn,.string xd])] w _ from by have hp:=(((AzAt.start w).push [.string xn,.string xd] 74).push [.string yn,.string yd] 74).push [.string ⟨#[]⟩,.string ⟨#[]⟩] 74;simp only[World.size_alloc] at hp;exact hp)
 go_enter Tryz.func58,Tryz.ntmps58
 go_wp2_with (first
  | (go_at_call 87;(with_reducible refine(K.out _ H0.out.bw).mono ?_);rintro e w1 ⟨rfl,hb⟩;have hp:=AzAt.al (H0.out.below hb) (.cells #[.string rn,.string rd] 47);have h_:=hp.row (w.heap.size+1+1,[.string ⟨#[]⟩,.string ⟨#[]⟩]) (by simp);have q3:=h_.row 0 _ rfl;have z3:=h_.fz 0 (by simp);have q4:=h_.row 1 _ rfl;have z4:=h_.fz 1 (by simp);clear h_;have H2:=hid hp;clear hb hp)
  | fail)
 have hp:=H2.out.set2 (by omega) (by simp <;> omega) (.string rn) (.string rd)
 generalize ((w1.alloc (.cells #[.string rn,.string rd] 47)).setCell ⟨w.heap.size+1+1,0,none⟩ (.string rn)).setCell ⟨w.heap.size+1+1,1,none⟩ (.string rd)=WF at hp⊢
 have h_:=hp.row (w.heap.size+1+1,[.string rn,.string rd]) (by simp)
 have q0:=h_.row 0 _ rfl
 have q1:=h_.row 1 _ rfl
 clear h_
 refine bodyPost_ret (v:=.agg #[.string rn,.string rd]) ?_ rfl ⟨rfl,hp.bw⟩
 simp[results,Tryz.results58,go_sem,Result.andThen,q0,q1]
theorem oW_ {x y:Option Rat} (fx:FO x) (fy:FO y) {w:World} (hi:IOps w) :
  Calls Tryz.prog 56 #[.agg #[.string (qN x),.string (qD x)],.agg #[.string (qN y),.string (qD y)]] w fun e W'=>e=.returned (.agg #[.string (qN (miO x y)),.string (qD (miO x y))])∧Below w.heap.size w W':=by
 have K:=hid (fun(W:World) (h:Below w.heap.size w W)=>by have:=Sub_q (hi.below h) (eV_ _ fx) (eW_ _ fx) (eV_ _ fy) (eW_ _ fy);rw[vH_ fx fy] at this;exact this)
 unfold miO
 generalize qN (cH_ subR x y)=rn at K⊢
 generalize qD (cH_ subR x y)=rd at K⊢
 generalize qE (cH_ subR x y)=re at K
 clear fx fy hi
 generalize qN x=xn at K⊢
 generalize qD x=xd at K⊢
 generalize qN y=yn at K⊢
 generalize qD y=yd at K⊢
 have H0:=hid (show AzAt [(w.heap.size+1+1,[.string ⟨#[]⟩,.string ⟨#[]⟩]),(w.heap.size+1,[.string yn,.string yd]),(w.heap.size,[.string xn,.string xd])] w _ from by have hp:=(((AzAt.start w).push [.string xn,.string xd] 74).push [.string yn,.string yd] 74).push [.string ⟨#[]⟩,.string ⟨#[]⟩] 74;simp only[World.size_alloc] at hp;exact hp)
 go_enter Tryz.func56,Tryz.ntmps56
 go_wp2_with (first
  | (go_at_call 78;(with_reducible refine(K.out _ H0.out.bw).mono ?_);rintro e w1 ⟨rfl,hb⟩;have hp:=AzAt.al (H0.out.below hb) (.cells #[.string rn,.string rd] 47);have h_:=hp.row (w.heap.size+1+1,[.string ⟨#[]⟩,.string ⟨#[]⟩]) (by simp);have q5:=h_.row 0 _ rfl;have z5:=h_.fz 0 (by simp);have q6:=h_.row 1 _ rfl;have z6:=h_.fz 1 (by simp);clear h_;have H2:=hid hp;clear hb hp)
  | fail)
 have hp:=H2.out.set2 (by omega) (by simp <;> omega) (.string rn) (.string rd)
 generalize ((w1.alloc (.cells #[.string rn,.string rd] 47)).setCell ⟨w.heap.size+1+1,0,none⟩ (.string rn)).setCell ⟨w.heap.size+1+1,1,none⟩ (.string rd)=WF at hp⊢
 have h_:=hp.row (w.heap.size+1+1,[.string rn,.string rd]) (by simp)
 have q0:=h_.row 0 _ rfl
 have q1:=h_.row 1 _ rfl
 clear h_
 refine bodyPost_ret (v:=.agg #[.string rn,.string rd]) ?_ rfl ⟨rfl,hp.bw⟩
 simp[results,Tryz.results56,go_sem,Result.andThen,q0,q1]
theorem aDU {x y:Option Rat} (fx:FO x) (fy:FO y) {w:World} (hi:IOps w) :
  Calls Tryz.prog 82 #[.agg #[.string (qN x),.string (qD x)],.agg #[.string (qN y),.string (qD y)]] w fun e W'=>e=.returned (.agg #[.string (qN (tiO x y)),.string (qD (tiO x y))])∧Below w.heap.size w W':=by
 have K:=hid (fun(W:World) (h:Below w.heap.size w W)=>by have:=Mul_q (hi.below h) (eV_ _ fx) (eW_ _ fx) (eV_ _ fy) (eW_ _ fy);rw[vH_ fx fy] at this;exact this)
 unfold tiO
 generalize qN (cH_ mulR x y)=rn at K⊢
 generalize qD (cH_ mulR x y)=rd at K⊢
 generalize qE (cH_ mulR x y)=re at K
 clear fx fy hi
 generalize qN x=xn at K⊢
 generalize qD x=xd at K⊢
 generalize qN y=yn at K⊢
 generalize qD y=yd at K⊢
 have H0:=hid (show AzAt [(w.heap.size+1+1,[.string ⟨#[]⟩,.string ⟨#[]⟩]),(w.heap.size+1,[.string yn,.string yd]),(w.heap.size,[.string xn,.string xd])] w _ from by have hp:=(((AzAt.start w).push [.string xn,.string xd] 74).push [.string yn,.string yd] 74).push [.string ⟨#[]⟩,.string ⟨#[]⟩] 74;simp only[World.size_alloc] at hp;exact hp)
 go_enter Tryz.func82,Tryz.ntmps82
 go_wp2_with (first
  | (go_at_call 116;(with_reducible refine(K.out _ H0.out.bw).mono ?_);rintro e w1 ⟨rfl,hb⟩;have hp:=AzAt.al (H0.out.below hb) (.cells #[.string rn,.string rd] 47);have h_:=hp.row (w.heap.size+1+1,[.string ⟨#[]⟩,.string ⟨#[]⟩]) (by simp);have q7:=h_.row 0 _ rfl;have z7:=h_.fz 0 (by simp);have q8:=h_.row 1 _ rfl;have z8:=h_.fz 1 (by simp);clear h_;have H2:=hid hp;clear hb hp)
  | fail)
 have hp:=H2.out.set2 (by omega) (by simp <;> omega) (.string rn) (.string rd)
 generalize ((w1.alloc (.cells #[.string rn,.string rd] 47)).setCell ⟨w.heap.size+1+1,0,none⟩ (.string rn)).setCell ⟨w.heap.size+1+1,1,none⟩ (.string rd)=WF at hp⊢
 have h_:=hp.row (w.heap.size+1+1,[.string rn,.string rd]) (by simp)
 have q0:=h_.row 0 _ rfl
 have q1:=h_.row 1 _ rfl
 clear h_
 refine bodyPost_ret (v:=.agg #[.string rn,.string rd]) ?_ rfl ⟨rfl,hp.bw⟩
 simp[results,Tryz.results82,go_sem,Result.andThen,q0,q1]
theorem aEY {x y:Option Rat} (fx:FO x) (fy:FO y) {w:World} (hi:IOps w) :
  Calls Tryz.prog 80 #[.agg #[.string (qN x),.string (qD x)],.agg #[.string (qN y),.string (qD y)]] w fun e W'=>e=.returned (.agg #[.string (qN (ovO x y)),.string (qD (ovO x y))])∧Below w.heap.size w W':=by
 have K:=hid (fun(W:World) (h:Below w.heap.size w W)=>by have:=Div_q (hi.below h) (eV_ _ fx) (eW_ _ fx) (eV_ _ fy) (eW_ _ fy);rw[vH_ fx fy] at this;exact this)
 unfold ovO
 generalize qN (cH_ divR x y)=rn at K⊢
 generalize qD (cH_ divR x y)=rd at K⊢
 generalize qE (cH_ divR x y)=re at K
 clear fx fy hi
 generalize qN x=xn at K⊢
 generalize qD x=xd at K⊢
 generalize qN y=yn at K⊢
 generalize qD y=yd at K⊢
 have H0:=hid (show AzAt [(w.heap.size+1+1,[.string ⟨#[]⟩,.string ⟨#[]⟩]),(w.heap.size+1,[.string yn,.string yd]),(w.heap.size,[.string xn,.string xd])] w _ from by have hp:=(((AzAt.start w).push [.string xn,.string xd] 74).push [.string yn,.string yd] 74).push [.string ⟨#[]⟩,.string ⟨#[]⟩] 74;simp only[World.size_alloc] at hp;exact hp)
 go_enter Tryz.func80,Tryz.ntmps80
 go_wp2_with (first
  | (go_at_call 115;(with_reducible refine(K.out _ H0.out.bw).mono ?_);rintro e w1 ⟨rfl,hb⟩;have hp:=AzAt.al (H0.out.below hb) (.cells #[.string rn,.string rd] 47);have h_:=hp.row (w.heap.size+1+1,[.string ⟨#[]⟩,.string ⟨#[]⟩]) (by simp);have q9:=h_.row 0 _ rfl;have z9:=h_.fz 0 (by simp);have q10:=h_.row 1 _ rfl;have z10:=h_.fz 1 (by simp);clear h_;have H2:=hid hp;clear hb hp)
  | fail)
 have hp:=H2.out.set2 (by omega) (by simp <;> omega) (.string rn) (.string rd)
 generalize ((w1.alloc (.cells #[.string rn,.string rd] 47)).setCell ⟨w.heap.size+1+1,0,none⟩ (.string rn)).setCell ⟨w.heap.size+1+1,1,none⟩ (.string rd)=WF at hp⊢
 have h_:=hp.row (w.heap.size+1+1,[.string rn,.string rd]) (by simp)
 have q0:=h_.row 0 _ rfl
 have q1:=h_.row 1 _ rfl
 clear h_
 refine bodyPost_ret (v:=.agg #[.string rn,.string rd]) ?_ rfl ⟨rfl,hp.bw⟩
 simp[results,Tryz.results80,go_sem,Result.andThen,q0,q1]
theorem vO_ {x y:Option Rat} (fx:FO x) (fy:FO y) {w:World} (hi:IOps w) :
  Calls Tryz.prog 79 #[.agg #[.string (qN x),.string (qD x)],.agg #[.string (qN y),.string (qD y)]] w fun e W'=>e=.returned (.bool (leO x y))∧Below w.heap.size w W':=by
 have K:=hid (fun(W:World) (h:Below w.heap.size w W)=>by have:=sA_ (hi.below h) (eV_ _ fx) (eW_ _ fx) (eV_ _ fy) (eW_ _ fy);rw[aHR fx fy] at this;exact this)
 unfold leO
 generalize gX_ x y=c at K⊢
 clear fx fy hi
 generalize qN x=xn at K⊢
 generalize qD x=xd at K⊢
 generalize qN y=yn at K⊢
 generalize qD y=yd at K⊢
 have H0:=hid (show AzAt [(w.heap.size+1,[.string yn,.string yd]),(w.heap.size,[.string xn,.string xd])] w _ from by have hp:=((AzAt.start w).push [.string xn,.string xd] 74).push [.string yn,.string yd] 74;simp only[World.size_alloc] at hp;exact hp)
 go_enter Tryz.func79,Tryz.ntmps79
 go_wp2_with (first
  | (go_at_call 85;(with_reducible refine(K.out _ H0.out.bw).mono ?_);rintro e w1 ⟨rfl,hb⟩;have H2:=hid (H0.out.below hb).bw;clear hb)
  | fail)
 go_ret
 exact⟨rfl,H2.out⟩
theorem ucmp_s {x y:Option Rat} (fx:FO x) (fy:FO y) {w:World} (hi:IOps w) :
  Calls Tryz.prog 84 #[.agg #[.string (qN x),.string (qD x)],.agg #[.string (qN y),.string (qD y)]] w fun e W'=>e=.returned (.int .i64 (gX_ x y))∧Below w.heap.size w W':=by
 have K:=hid (fun(W:World) (h:Below w.heap.size w W)=>by have:=sA_ (hi.below h) (eV_ _ fx) (eW_ _ fx) (eV_ _ fy) (eW_ _ fy);rw[aHR fx fy] at this;exact this)
 generalize gX_ x y=c at K⊢
 clear fx fy hi
 generalize qN x=xn at K⊢
 generalize qD x=xd at K⊢
 generalize qN y=yn at K⊢
 generalize qD y=yd at K⊢
 have H0:=hid (show AzAt [(w.heap.size+1,[.string yn,.string yd]),(w.heap.size,[.string xn,.string xd])] w _ from by have hp:=((AzAt.start w).push [.string xn,.string xd] 74).push [.string yn,.string yd] 74;simp only[World.size_alloc] at hp;exact hp)
 go_enter Tryz.func84,Tryz.ntmps84
 go_wp2_with (first
  | (go_at_call 85;(with_reducible refine(K.out _ H0.out.bw).mono ?_);rintro e w1 ⟨rfl,hb⟩;have H2:=hid (H0.out.below hb).bw;clear hb)
  | fail)
 go_ret
 exact⟨rfl,H2.out⟩
end Go.Proofs.YtjfdefglpoancaaGreatDoor
namespace Go.Proofs.YtjfdefglpoancaaGreatDoor
def sqP (a b:Pl):Int:=(a.x-b.x)*(a.x-b.x)+(a.y-b.y)*(a.y-b.y)
def alP (p a b:Pl):Int:=(p.x-a.x)*(b.x-a.x)+(p.y-a.y)*(b.y-a.y)
def dNum (p a b:Pl):Int:=if alP p a b≤0 then sqP p a else if sqP a b≤alP p a b then sqP p b else aA_ a b p*aA_ a b p
def dDen (p a b:Pl):Int:=if alP p a b≤0 then 1 else if sqP a b≤alP p a b then 1 else sqP a b
def dRat (p a b:Pl):Rat:=Rat.divInt (dNum p a b) (dDen p a b)
theorem aEE (x:Int):0≤x*x:=by
 rcases Int.le_total 0 x with h|h
 ·exact Int.mul_nonneg h h
 ·have:=Int.mul_nonneg (a:=-x) (b:=-x) (by omega) (by omega)
  rwa[Int.neg_mul_neg] at this
theorem qP_ (a b:Pl):0≤sqP a b:=by
 have:=aEE (a.x-b.x)
 have:=aEE (a.y-b.y)
 unfold sqP
 omega
end Go.Proofs.YtjfdefglpoancaaGreatDoor
namespace Go.Proofs.YtjfdefglpoancaaGreatDoor
open Go.RowKit Go.Shelf
attribute [local go_sem] Oper.semAt_some
theorem zJ_ {u v:Int} (hu : -40000000≤u∧u≤40000000) (hv : -40000000≤v∧v≤40000000) : -1600000000000000≤u*v∧u*v≤1600000000000000:=by
 have h:(u*v).natAbs≤40000000*40000000:=by
  rw[Int.natAbs_mul]
  exact Nat.mul_le_mul (by omega) (by omega)
 omega
theorem aBG {a b:Pl} (ha:vP a=true) (hb:vP b=true):0≤sqP a b∧sqP a b≤33538050:=by
 obtain⟨⟨a1,a2⟩,a3,a4⟩:=vP_b ha
 obtain⟨⟨b1,b2⟩,b3,b4⟩:=vP_b hb
 have p1:=cG_ (u:=a.x-b.x) (v:=a.x-b.x) (by omega) (by omega)
 have p2:=cG_ (u:=a.y-b.y) (v:=a.y-b.y) (by omega) (by omega)
 refine⟨qP_ a b,?_⟩
 unfold sqP
 omega
theorem aMK {a b c:Pl} (ha:vP a=true) (hb:vP b=true) (hc:vP c=true) : -33538050≤aA_ a b c∧aA_ a b c≤33538050:=by
 obtain⟨⟨a1,a2⟩,a3,a4⟩:=vP_b ha
 obtain⟨⟨b1,b2⟩,b3,b4⟩:=vP_b hb
 obtain⟨⟨c1,c2⟩,c3,c4⟩:=vP_b hc
 have p1:=cG_ (u:=b.x-a.x) (v:=c.y-a.y) (by omega) (by omega)
 have p2:=cG_ (u:=b.y-a.y) (v:=c.x-a.x) (by omega) (by omega)
 unfold aA_
 omega
theorem sL_ {a b:Pl} (ha:vP a=true) (hb:vP b=true) (w:World) :
  Calls Tryz.prog 67 #[.agg #[.int .i64 a.x,.int .i64 a.y],.agg #[.int .i64 b.x,.int .i64 b.y]] w fun e W'=>e=.returned (.int .i64 (sqP a b))∧Below w.heap.size w W':=by
 obtain⟨⟨a1,a2⟩,a3,a4⟩:=vP_b ha
 obtain⟨⟨b1,b2⟩,b3,b4⟩:=vP_b hb
 clear ha hb
 unfold sqP
 obtain⟨ax,ay⟩:=a
 obtain⟨bx,by'⟩:=b
 simp only at *
 obtain⟨p3,p4⟩:=cG_ (u:=ax-bx) (v:=ax-bx) (by omega) (by omega)
 obtain⟨p5,p6⟩:=cG_ (u:=ay-by') (v:=ay-by') (by omega) (by omega)
 have w1:IntKind.i64.wrap ((ax-bx)*(ax-bx))=(ax-bx)*(ax-bx):=IntWalk.i64_in _ (by omega)
 have w2:IntKind.i64.wrap ((ay-by')*(ay-by'))=(ay-by')*(ay-by'):=IntWalk.i64_in _ (by omega)
 have w3:IntKind.i64.wrap ((ax-bx)*(ax-bx)+(ay-by')*(ay-by'))=(ax-bx)*(ax-bx)+(ay-by')*(ay-by'):=IntWalk.i64_in _ (by omega)
 go_enter Tryz.func67,Tryz.ntmps67
 go_wp2
 go_ret
 exact⟨rfl,((Below.refl _ _).alloc (Nat.le_refl _) _).alloc (by simp) _⟩
theorem aQM {p a b:Pl} (hv:[p,a,b].all vP=false) (w:World) :
  Calls Tryz.prog 23 #[.agg #[.int .i64 p.x,.int .i64 p.y],.agg #[.int .i64 a.x,.int .i64 a.y],.agg #[.int .i64 b.x,.int .i64 b.y]] w fun e W'=>e=.returned (.tuple #[.agg #[.string ⟨#[]⟩,.string ⟨#[]⟩],.int .i64 70])∧Below w.heap.size w W':=by
 have H0:=hid (show AzAt [(w.heap.size+1+1+1+1,[.int .i64 p.x,.int .i64 p.y,.int .i64 a.x,.int .i64 a.y,.int .i64 b.x,.int .i64 b.y]),(w.heap.size+1+1+1,[.string ⟨#[]⟩,.string ⟨#[]⟩]),(w.heap.size+1+1,[.int .i64 b.x,.int .i64 b.y]),(w.heap.size+1,[.int .i64 a.x,.int .i64 a.y]),(w.heap.size,[.int .i64 p.x,.int .i64 p.y])] w _ from by have hp:=((((((AzAt.start w).push [.int .i64 p.x,.int .i64 p.y] 26).push [.int .i64 a.x,.int .i64 a.y] 26).push [.int .i64 b.x,.int .i64 b.y] 26).push [.string ⟨#[]⟩,.string ⟨#[]⟩] 47).push [.int .i64 p.x,.int .i64 p.y,.int .i64 a.x,.int .i64 a.y,.int .i64 b.x,.int .i64 b.y] 26);simp only[World.size_alloc] at hp;exact hp)
 have K:=hid (fun W (h:PsAt (w.heap.size+1+1+1+1) [p,a,b] W)=>nV_ (n:=3) (cap:=3) rfl (by decide) W h)
 have HS:=hid (PsAt.of (ps:=[p,a,b]) (H0.out.at (B:=w.heap.size+1+1+1+1) (l:=[.int .i64 p.x,.int .i64 p.y,.int .i64 a.x,.int .i64 a.y,.int .i64 b.x,.int .i64 b.y]) (by simp)))
 rw[hv] at K
 clear hv
 go_enter Tryz.func23,Tryz.ntmps23
 go_wp2_with (first
  | (go_at_call 66;(with_reducible refine(K.out _ HS.out).mono ?_);rintro e w1 ⟨rfl,hb⟩;have hp:=H0.out.below hb;have h_:=hp.row (w.heap.size+1+1+1,[.string ⟨#[]⟩,.string ⟨#[]⟩]) (by simp);have q1:=h_.row 0 _ rfl;have q2:=h_.row 1 _ rfl;have z3:=h_.fz 0 (by simp);have z4:=h_.fz 1 (by simp);clear h_;have H1:=hid hp;clear hb hp)
  | fail)
 have hp:=H1.out
 have h_:=hp.row (w.heap.size+1+1+1,[.string ⟨#[]⟩,.string ⟨#[]⟩]) (by simp)
 have q0:=h_.row 0 _ rfl
 have q1:=h_.row 1 _ rfl
 clear h_
 refine bodyPost_ret (v:=.tuple #[.agg #[.string ⟨#[]⟩,.string ⟨#[]⟩],.int .i64 70]) ?_ rfl ⟨rfl,?_⟩
 ·simp[results,Tryz.results23,go_sem,Result.andThen,q0,q1]
 ·repeat (first|with_reducible exact hp.bw|with_reducible refine Below.setCell ?_ (by simp;omega) _)
theorem tQ_ {p a b:Pl} (hp:vP p=true) (ha:vP a=true) (hb:vP b=true) {w:World} (hi:IOps w) (hf:FrOp w) :
  Calls Tryz.prog 23 #[.agg #[.int .i64 p.x,.int .i64 p.y],.agg #[.int .i64 a.x,.int .i64 a.y],.agg #[.int .i64 b.x,.int .i64 b.y]] w fun e W'=>e=.returned (.tuple #[.agg #[.string (qN (some (dRat p a b))),.string (qD (some (dRat p a b)))],.int .i64 0])∧Below w.heap.size w W':=by
 have H0:=hid (show AzAt [(w.heap.size+1+1+1+1,[.int .i64 p.x,.int .i64 p.y,.int .i64 a.x,.int .i64 a.y,.int .i64 b.x,.int .i64 b.y]),(w.heap.size+1+1+1,[.string ⟨#[]⟩,.string ⟨#[]⟩]),(w.heap.size+1+1,[.int .i64 b.x,.int .i64 b.y]),(w.heap.size+1,[.int .i64 a.x,.int .i64 a.y]),(w.heap.size,[.int .i64 p.x,.int .i64 p.y])] w _ from by have hp:=((((((AzAt.start w).push [.int .i64 p.x,.int .i64 p.y] 26).push [.int .i64 a.x,.int .i64 a.y] 26).push [.int .i64 b.x,.int .i64 b.y] 26).push [.string ⟨#[]⟩,.string ⟨#[]⟩] 47).push [.int .i64 p.x,.int .i64 p.y,.int .i64 a.x,.int .i64 a.y,.int .i64 b.x,.int .i64 b.y] 26);simp only[World.size_alloc] at hp;exact hp)
 have K:=hid (fun W (h:PsAt (w.heap.size+1+1+1+1) [p,a,b] W)=>nV_ (n:=3) (cap:=3) rfl (by decide) W h)
 have HS:=hid (PsAt.of (ps:=[p,a,b]) (H0.out.at (B:=w.heap.size+1+1+1+1) (l:=[.int .i64 p.x,.int .i64 p.y,.int .i64 a.x,.int .i64 a.y,.int .i64 b.x,.int .i64 b.y]) (by simp)))
 rw[show[p,a,b].all vP=true by simp[hp,ha,hb]] at K
 obtain⟨⟨a1,a2⟩,a3,a4⟩:=vP_b ha
 obtain⟨⟨b1,b2⟩,b3,b4⟩:=vP_b hb
 obtain⟨⟨c1,c2⟩,c3,c4⟩:=vP_b hp
 obtain⟨l1,l2⟩:=aBG ha hb
 obtain⟨m1,m2⟩:=aBG hp ha
 obtain⟨n1,n2⟩:=aBG hp hb
 obtain⟨t1,t2⟩:=aMK ha hb hp
 obtain⟨p3,p4⟩:=cG_ (u:=p.x-a.x) (v:=b.x-a.x) (by omega) (by omega)
 obtain⟨p5,p6⟩:=cG_ (u:=p.y-a.y) (v:=b.y-a.y) (by omega) (by omega)
 have w1:IntKind.i64.wrap ((p.x-a.x)*(b.x-a.x))=(p.x-a.x)*(b.x-a.x):=IntWalk.i64_in _ (by omega)
 have w2:IntKind.i64.wrap ((p.y-a.y)*(b.y-a.y))=(p.y-a.y)*(b.y-a.y):=IntWalk.i64_in _ (by omega)
 have w3:IntKind.i64.wrap ((p.x-a.x)*(b.x-a.x)+(p.y-a.y)*(b.y-a.y))=(p.x-a.x)*(b.x-a.x)+(p.y-a.y)*(b.y-a.y):=IntWalk.i64_in _ (by omega)
 have KL:=hid (fun W=>sL_ ha hb W)
 have KA:=hid (fun W=>sL_ hp ha W)
 have KB:=hid (fun W=>sL_ hp hb W)
 have KT:=hid (fun W=>aDO ha hb hp W)
 by_cases d1:(p.x-a.x)*(b.x-a.x)+(p.y-a.y)*(b.y-a.y)≤0
 ·have eR:dRat p a b=Rat.divInt (sqP p a) 1:=by unfold dRat dNum dDen alP;rw[if_pos d1,if_pos d1]
  clear hp ha hb
  have KO:=hid (fun(W:World) (h:Below w.heap.size w W)=>Of_q (n:=sqP p a) (d:=1) (hi.below h) (hf.below h) (by omega) (by omega) (by omega) (by omega))
  rw[show aO_ (sqP p a) (1)=some (Rat.divInt (sqP p a) (1)) from if_neg (by omega)] at KO
  rw[eR]
  generalize qN (some (Rat.divInt (sqP p a) (1)))=rn at KO⊢
  generalize qD (some (Rat.divInt (sqP p a) (1)))=rd at KO⊢
  rw[show qE (some (Rat.divInt (sqP p a) (1)))=0 from rfl] at KO
  clear eR hi hf
  go_enter Tryz.func23,Tryz.ntmps23
  go_wp2_with (first
   | (have _:=H3;go_at_call 67;(with_reducible refine(KA.out _).mono ?_);rintro e w4 ⟨rfl,hb⟩;have hp:=H3.out.below hb;have H4:=hid hp;clear hb hp)
   | (go_at_call 66;(with_reducible refine(K.out _ HS.out).mono ?_);rintro e w1 ⟨rfl,hb⟩;have hp:=H0.out.below hb;have h_:=hp.row (w.heap.size,[.int .i64 p.x,.int .i64 p.y]) (by simp);have q5:=h_.row 0 _ rfl;have q6:=h_.row 1 _ rfl;clear h_;have h_:=hp.row (w.heap.size+1,[.int .i64 a.x,.int .i64 a.y]) (by simp);have q7:=h_.row 0 _ rfl;have q8:=h_.row 1 _ rfl;clear h_;have h_:=hp.row (w.heap.size+1+1,[.int .i64 b.x,.int .i64 b.y]) (by simp);have q9:=h_.row 0 _ rfl;have q10:=h_.row 1 _ rfl;clear h_;have H1:=hid hp;clear hb hp)
   | (go_at_call 67;(with_reducible refine(KL.out _).mono ?_);rintro e w2 ⟨rfl,hb⟩;have hp:=H1.out.below hb;have h_:=hp.row (w.heap.size,[.int .i64 p.x,.int .i64 p.y]) (by simp);have q11:=h_.row 0 _ rfl;have q12:=h_.row 1 _ rfl;clear h_;have h_:=hp.row (w.heap.size+1,[.int .i64 a.x,.int .i64 a.y]) (by simp);have q13:=h_.row 0 _ rfl;have q14:=h_.row 1 _ rfl;clear h_;have h_:=hp.row (w.heap.size+1+1,[.int .i64 b.x,.int .i64 b.y]) (by simp);have q15:=h_.row 0 _ rfl;have q16:=h_.row 1 _ rfl;clear h_;have H2:=hid hp;clear hb hp)
   | (go_at_call 46;(with_reducible refine(KT.out _).mono ?_);rintro e w3 ⟨rfl,hb⟩;have hp:=H2.out.below hb;have h_:=hp.row (w.heap.size,[.int .i64 p.x,.int .i64 p.y]) (by simp);have q17:=h_.row 0 _ rfl;have q18:=h_.row 1 _ rfl;clear h_;have h_:=hp.row (w.heap.size+1,[.int .i64 a.x,.int .i64 a.y]) (by simp);have q19:=h_.row 0 _ rfl;have q20:=h_.row 1 _ rfl;clear h_;have h_:=hp.row (w.heap.size+1+1,[.int .i64 b.x,.int .i64 b.y]) (by simp);have q21:=h_.row 0 _ rfl;have q22:=h_.row 1 _ rfl;clear h_;have H3:=hid hp;clear hb hp)
   | (go_at_call 68;(with_reducible refine(KO.out _ H4.out.bw).mono ?_);rintro e w5 ⟨rfl,hb⟩;have hp:=AzAt.al (H4.out.below hb) (.cells #[.string rn,.string rd] 47);have h_:=hp.row (w.heap.size+1+1+1,[.string ⟨#[]⟩,.string ⟨#[]⟩]) (by simp);have q23:=h_.row 0 _ rfl;have q24:=h_.row 1 _ rfl;have z25:=h_.fz 0 (by simp);have z26:=h_.fz 1 (by simp);clear h_;have H5:=hid hp;clear hb hp)
   | fail)
  have hp:=(H5.out.swap).set2 (by omega) (by simp <;> omega) (.string rn) (.string rd)
  generalize ((w5.alloc (.cells #[.string rn,.string rd] 47)).setCell ⟨w.heap.size+1+1+1,0,none⟩ (.string rn)).setCell ⟨w.heap.size+1+1+1,1,none⟩ (.string rd)=WF at hp⊢
  have h_:=hp.row (w.heap.size+1+1+1,[.string rn,.string rd]) (by simp)
  have q0:=h_.row 0 _ rfl
  have q1:=h_.row 1 _ rfl
  clear h_
  refine bodyPost_ret (v:=.tuple #[.agg #[.string rn,.string rd],.int .i64 0]) ?_ rfl ⟨rfl,hp.bw⟩
  simp[results,Tryz.results23,go_sem,Result.andThen,q0,q1]
 ·have d2:=decide_eq_false d1
  by_cases d3:sqP a b≤(p.x-a.x)*(b.x-a.x)+(p.y-a.y)*(b.y-a.y)
  ·have eR:dRat p a b=Rat.divInt (sqP p b) 1:=by unfold dRat dNum dDen alP;rw[if_neg d1,if_pos d3,if_neg d1,if_pos d3]
   clear hp ha hb
   have KO:=hid (fun(W:World) (h:Below w.heap.size w W)=>Of_q (n:=sqP p b) (d:=1) (hi.below h) (hf.below h) (by omega) (by omega) (by omega) (by omega))
   rw[show aO_ (sqP p b) (1)=some (Rat.divInt (sqP p b) (1)) from if_neg (by omega)] at KO
   rw[eR]
   generalize qN (some (Rat.divInt (sqP p b) (1)))=rn at KO⊢
   generalize qD (some (Rat.divInt (sqP p b) (1)))=rd at KO⊢
   rw[show qE (some (Rat.divInt (sqP p b) (1)))=0 from rfl] at KO
   clear eR hi hf
   go_enter Tryz.func23,Tryz.ntmps23
   go_wp2_with (first
    | (have _:=H3;go_at_call 67;(with_reducible refine(KB.out _).mono ?_);rintro e w4 ⟨rfl,hb⟩;have hp:=H3.out.below hb;have H4:=hid hp;clear hb hp)
    | (go_at_call 66;(with_reducible refine(K.out _ HS.out).mono ?_);rintro e w1 ⟨rfl,hb⟩;have hp:=H0.out.below hb;have h_:=hp.row (w.heap.size,[.int .i64 p.x,.int .i64 p.y]) (by simp);have q27:=h_.row 0 _ rfl;have q28:=h_.row 1 _ rfl;clear h_;have h_:=hp.row (w.heap.size+1,[.int .i64 a.x,.int .i64 a.y]) (by simp);have q29:=h_.row 0 _ rfl;have q30:=h_.row 1 _ rfl;clear h_;have h_:=hp.row (w.heap.size+1+1,[.int .i64 b.x,.int .i64 b.y]) (by simp);have q31:=h_.row 0 _ rfl;have q32:=h_.row 1 _ rfl;clear h_;have H1:=hid hp;clear hb hp)
    | (go_at_call 67;(with_reducible refine(KL.out _).mono ?_);rintro e w2 ⟨rfl,hb⟩;have hp:=H1.out.below hb;have h_:=hp.row (w.heap.size,[.int .i64 p.x,.int .i64 p.y]) (by simp);have q33:=h_.row 0 _ rfl;have q34:=h_.row 1 _ rfl;clear h_;have h_:=hp.row (w.heap.size+1,[.int .i64 a.x,.int .i64 a.y]) (by simp);have q35:=h_.row 0 _ rfl;have q36:=h_.row 1 _ rfl;clear h_;have h_:=hp.row (w.heap.size+1+1,[.int .i64 b.x,.int .i64 b.y]) (by simp);have q37:=h_.row 0 _ rfl;have q38:=h_.row 1 _ rfl;clear h_;have H2:=hid hp;clear hb hp)
    | (go_at_call 46;(with_reducible refine(KT.out _).mono ?_);rintro e w3 ⟨rfl,hb⟩;have hp:=H2.out.below hb;have h_:=hp.row (w.heap.size,[.int .i64 p.x,.int .i64 p.y]) (by simp);have q39:=h_.row 0 _ rfl;have q40:=h_.row 1 _ rfl;clear h_;have h_:=hp.row (w.heap.size+1,[.int .i64 a.x,.int .i64 a.y]) (by simp);have q41:=h_.row 0 _ rfl;have q42:=h_.row 1 _ rfl;clear h_;have h_:=hp.row (w.heap.size+1+1,[.int .i64 b.x,.int .i64 b.y]) (by simp);have q43:=h_.row 0 _ rfl;have q44:=h_.row 1 _ rfl;clear h_;have H3:=hid hp;clear hb hp)
    | (go_at_call 68;(with_reducible refine(KO.out _ H4.out.bw).mono ?_);rintro e w5 ⟨rfl,hb⟩;have hp:=AzAt.al (H4.out.below hb) (.cells #[.string rn,.string rd] 47);have h_:=hp.row (w.heap.size+1+1+1,[.string ⟨#[]⟩,.string ⟨#[]⟩]) (by simp);have q45:=h_.row 0 _ rfl;have q46:=h_.row 1 _ rfl;have z47:=h_.fz 0 (by simp);have z48:=h_.fz 1 (by simp);clear h_;have H5:=hid hp;clear hb hp)
    | fail)
   have hp:=(H5.out.swap).set2 (by omega) (by simp <;> omega) (.string rn) (.string rd)
   generalize ((w5.alloc (.cells #[.string rn,.string rd] 47)).setCell ⟨w.heap.size+1+1+1,0,none⟩ (.string rn)).setCell ⟨w.heap.size+1+1+1,1,none⟩ (.string rd)=WF at hp⊢
   have h_:=hp.row (w.heap.size+1+1+1,[.string rn,.string rd]) (by simp)
   have q0:=h_.row 0 _ rfl
   have q1:=h_.row 1 _ rfl
   clear h_
   refine bodyPost_ret (v:=.tuple #[.agg #[.string rn,.string rd],.int .i64 0]) ?_ rfl ⟨rfl,hp.bw⟩
   simp[results,Tryz.results23,go_sem,Result.andThen,q0,q1]
  ·have d4:=decide_eq_false d3
   obtain⟨p7,p8⟩:=zJ_ (u:=aA_ a b p) (v:=aA_ a b p) (by omega) (by omega)
   have w4:IntKind.i64.wrap (aA_ a b p*aA_ a b p)=aA_ a b p*aA_ a b p:=IntWalk.i64_in _ (by omega)
   have eR:dRat p a b=Rat.divInt (aA_ a b p*aA_ a b p) (sqP a b):=by unfold dRat dNum dDen alP;rw[if_neg d1,if_neg d3,if_neg d1,if_neg d3]
   clear hp ha hb
   have KO:=hid (fun(W:World) (h:Below w.heap.size w W)=>Of_q (n:=aA_ a b p*aA_ a b p) (d:=sqP a b) (hi.below h) (hf.below h) (by omega) (by omega) (by omega) (by omega))
   rw[show aO_ (aA_ a b p*aA_ a b p) (sqP a b)=some (Rat.divInt (aA_ a b p*aA_ a b p) (sqP a b)) from if_neg (by omega)] at KO
   rw[eR]
   generalize qN (some (Rat.divInt (aA_ a b p*aA_ a b p) (sqP a b)))=rn at KO⊢
   generalize qD (some (Rat.divInt (aA_ a b p*aA_ a b p) (sqP a b)))=rd at KO⊢
   rw[show qE (some (Rat.divInt (aA_ a b p*aA_ a b p) (sqP a b)))=0 from rfl] at KO
   clear eR hi hf
   go_enter Tryz.func23,Tryz.ntmps23
   go_wp2_with (first
    | (go_at_call 66;(with_reducible refine(K.out _ HS.out).mono ?_);rintro e w1 ⟨rfl,hb⟩;have hp:=H0.out.below hb;have h_:=hp.row (w.heap.size,[.int .i64 p.x,.int .i64 p.y]) (by simp);have q49:=h_.row 0 _ rfl;have q50:=h_.row 1 _ rfl;clear h_;have h_:=hp.row (w.heap.size+1,[.int .i64 a.x,.int .i64 a.y]) (by simp);have q51:=h_.row 0 _ rfl;have q52:=h_.row 1 _ rfl;clear h_;have h_:=hp.row (w.heap.size+1+1,[.int .i64 b.x,.int .i64 b.y]) (by simp);have q53:=h_.row 0 _ rfl;have q54:=h_.row 1 _ rfl;clear h_;have H1:=hid hp;clear hb hp)
    | (go_at_call 67;(with_reducible refine(KL.out _).mono ?_);rintro e w2 ⟨rfl,hb⟩;have hp:=H1.out.below hb;have h_:=hp.row (w.heap.size,[.int .i64 p.x,.int .i64 p.y]) (by simp);have q55:=h_.row 0 _ rfl;have q56:=h_.row 1 _ rfl;clear h_;have h_:=hp.row (w.heap.size+1,[.int .i64 a.x,.int .i64 a.y]) (by simp);have q57:=h_.row 0 _ rfl;have q58:=h_.row 1 _ rfl;clear h_;have h_:=hp.row (w.heap.size+1+1,[.int .i64 b.x,.int .i64 b.y]) (by simp);have q59:=h_.row 0 _ rfl;have q60:=h_.row 1 _ rfl;clear h_;have H2:=hid hp;clear hb hp)
    | (go_at_call 46;(with_reducible refine(KT.out _).mono ?_);rintro e w3 ⟨rfl,hb⟩;have hp:=H2.out.below hb;have h_:=hp.row (w.heap.size,[.int .i64 p.x,.int .i64 p.y]) (by simp);have q61:=h_.row 0 _ rfl;have q62:=h_.row 1 _ rfl;clear h_;have h_:=hp.row (w.heap.size+1,[.int .i64 a.x,.int .i64 a.y]) (by simp);have q63:=h_.row 0 _ rfl;have q64:=h_.row 1 _ rfl;clear h_;have h_:=hp.row (w.heap.size+1+1,[.int .i64 b.x,.int .i64 b.y]) (by simp);have q65:=h_.row 0 _ rfl;have q66:=h_.row 1 _ rfl;clear h_;have H3:=hid hp;clear hb hp)
    | (go_at_call 68;(with_reducible refine(KO.out _ H3.out.bw).mono ?_);rintro e w5 ⟨rfl,hb⟩;have hp:=AzAt.al (H3.out.below hb) (.cells #[.string rn,.string rd] 47);have h_:=hp.row (w.heap.size+1+1+1,[.string ⟨#[]⟩,.string ⟨#[]⟩]) (by simp);have q67:=h_.row 0 _ rfl;have q68:=h_.row 1 _ rfl;have z69:=h_.fz 0 (by simp);have z70:=h_.fz 1 (by simp);clear h_;have H5:=hid hp;clear hb hp)
    | fail)
   have hp:=(H5.out.swap).set2 (by omega) (by simp <;> omega) (.string rn) (.string rd)
   generalize ((w5.alloc (.cells #[.string rn,.string rd] 47)).setCell ⟨w.heap.size+1+1+1,0,none⟩ (.string rn)).setCell ⟨w.heap.size+1+1+1,1,none⟩ (.string rd)=WF at hp⊢
   have h_:=hp.row (w.heap.size+1+1+1,[.string rn,.string rd]) (by simp)
   have q0:=h_.row 0 _ rfl
   have q1:=h_.row 1 _ rfl
   clear h_
   refine bodyPost_ret (v:=.tuple #[.agg #[.string rn,.string rd],.int .i64 0]) ?_ rfl ⟨rfl,hp.bw⟩
   simp[results,Tryz.results23,go_sem,Result.andThen,q0,q1]
end Go.Proofs.YtjfdefglpoancaaGreatDoor
namespace Go.Proofs.YtjfdefglpoancaaGreatDoor
def kp (p:Pl):Int:=p.y*4096+p.x
theorem xA_ (a b c:Pl):aA_ a b c=(kp b-kp a)*(c.y-a.y)-(b.y-a.y)*(kp c-kp a):=by unfold aA_ kp;grind
theorem jQ_ (u v a b p:Pl):(kp b-kp a)*aA_ u v p=(kp b-kp p)*aA_ u v a+(kp p-kp a)*aA_ u v b+(kp v-kp u)*aA_ a b p:=by unfold aA_ kp;grind
theorem mX_ (a b:Pl):aA_ a b a=0:=by unfold aA_;grind
theorem kI_ (a b:Pl):aA_ a b b=0:=by unfold aA_;grind
theorem aIV (a b:Pl):aA_ a a b=0:=by unfold aA_;grind
def crE (u v a b:Pl):Int:=(kp v-kp u)*(b.y-a.y)-(v.y-u.y)*(kp b-kp a)
theorem aIU (u v a b:Pl):aA_ u v b=aA_ u v a+crE u v a b:=by rw[xA_,xA_];unfold crE;grind
theorem aQU (a b c u v:Pl):crE a c u v=crE a b u v+crE b c u v:=by unfold crE;grind
theorem aAP (u v x:Pl):crE u v v x=aA_ u v x:=by rw[xA_];unfold crE;grind
theorem aHE {a b c d e f:Pl} (h1:kp a<kp b) (h2:kp c<kp d) (h3:kp e<kp f) (k1:0<crE a b c d) (k2:0<crE c d e f):0<crE a b e f:=by
 have e1:(kp d-kp c)*crE a b e f=(kp f-kp e)*crE a b c d+(kp b-kp a)*crE c d e f:=by unfold crE;grind
 have p1:=Int.mul_pos (show 0<kp f-kp e by omega) k1
 have p2:=Int.mul_pos (show 0<kp b-kp a by omega) k2
 exact Int.pos_of_mul_pos_right (a:=kp d-kp c) (by omega) (by omega)
theorem lI_ {u v a b p:Pl} (hab:kp a<kp b) (huv:kp u<kp v) (h1:kp a≤kp p) (h2:kp p≤kp b) (k1:0≤aA_ u v a) (k2:0≤aA_ u v b) (k3:0≤aA_ a b p) :
  0≤aA_ u v p:=by
 have e:=jQ_ u v a b p
 have p1:=Int.mul_nonneg (show 0≤kp b-kp p by omega) k1
 have p2:=Int.mul_nonneg (show 0≤kp p-kp a by omega) k2
 have p3:=Int.mul_nonneg (show 0≤kp v-kp u by omega) k3
 exact Int.le_of_mul_le_mul_left (a:=kp b-kp a) (by omega) (by omega)
theorem xB_ {u v a b p:Pl} (hab:kp a<kp b) (huv:kp u<kp v) (h1:kp a≤kp p) (h2:kp p≤kp b) (k1:0≤aA_ u v a) (k2:0≤aA_ u v b) (k3:0≤aA_ a b p) (k:aA_ u v p=0) :
  (kp p=kp b∨aA_ u v a=0)∧(kp p=kp a∨aA_ u v b=0):=by
 have e:=jQ_ u v a b p
 have p1:=Int.mul_nonneg (show 0≤kp b-kp p by omega) k1
 have p2:=Int.mul_nonneg (show 0≤kp p-kp a by omega) k2
 have p3:=Int.mul_nonneg (show 0≤kp v-kp u by omega) k3
 rw[k,Int.mul_zero] at e
 have q1:(kp b-kp p)*aA_ u v a=0:=by omega
 have q2:(kp p-kp a)*aA_ u v b=0:=by omega
 rcases Int.mul_eq_zero.1 q1 with q1|q1 <;> rcases Int.mul_eq_zero.1 q2 with q2|q2 <;> omega
def edR:List Pl→List (Pl×Pl)
 | b::a::l=>(a,b)::edR (a::l)
 | _=>[]
def lB_:List Pl→Prop
 | b::a::l=>kp a<kp b∧lB_ (a::l)
 | _=>True
def wG_:List Pl→Prop
 | c::b::a::l=>0<aA_ a b c∧wG_ (b::a::l)
 | _=>True
def covL (p:Pl):List Pl→Prop
 | b::a::l=>(kp a≤kp p∧kp p≤kp b∧0≤aA_ a b p)∨covL p (a::l)
 | [a]=>p=a
 | []=>False
theorem aCN {x:Pl} {l:List Pl} (h:wG_ (x::l)):wG_ l:=by
 match l,h with
 | [],_=>trivial
 | [_],_=>trivial
 | _::_::_,h=>exact h.2
theorem lS_ {x:Pl} {l:List Pl} (h:lB_ (x::l)):lB_ l:=by
 match l,h with
 | [],_=>trivial
 | _::_,h=>exact h.2
theorem aHL {p x:Pl} {l:List Pl} (h:covL p l):covL p (x::l):=by
 match l,h with
 | [],h=>exact h.elim
 | [_],h=>exact .inr h
 | _::_::_,h=>exact .inr h
theorem aHK (x:Pl) (l:List Pl) (h:∀a,l.head?=some a→kp a<kp x):covL x (x::l):=by
 match l,h with
 | [],_=>rfl
 | a::l,h=>exact .inl ⟨Int.le_of_lt (h a rfl),Int.le_refl _,by rw[kI_];exact Int.le_refl _⟩
theorem aES (x:Pl):∀r:List Pl,lB_ r→wG_ r→(∀a,r.head?=some a→kp a<kp x)→
  lB_ (x::popL aI_ x r)∧wG_ (x::popL aI_ x r)∧∀p,covL p (x::r)→covL p (x::popL aI_ x r)
 | [],_,_,_=>⟨trivial,trivial,fun _ h=>h⟩
 | [b],_,_,hx=>⟨⟨hx b rfl,trivial⟩,trivial,fun _ h=>h⟩
 | b::a::l,hd,hc,hx=>by
  have hbx:=hx b rfl
  have hab:=hd.1
  unfold popL
  split
  ·rename_i ho
   have ho:0<aA_ a b x:=of_decide_eq_true ho
   exact⟨⟨hbx,hd⟩,⟨ho,hc⟩,fun _ h=>h⟩
  ·rename_i ho
   have ho:aA_ a b x≤0:=by
    have:¬0<aA_ a b x:=fun h=>ho (decide_eq_true h)
    omega
   obtain⟨h1,h2,h3⟩:=aES x (a::l) hd.2 (aCN hc) (fun c hc=>by cases hc;omega)
   refine⟨h1,h2,fun p hp=>h3 p ?_⟩
   have hb:0≤aA_ a x b:=by rw[aBE];omega
   rcases hp with ⟨p1,p2,p3⟩|hp
   ·exact .inl ⟨by omega,p2,lI_ hbx (by omega) p1 p2 hb (by rw[kI_];exact Int.le_refl _) p3⟩
   ·rcases hp with ⟨p1,p2,p3⟩|hp
    ·exact .inl ⟨by omega,by omega,lI_ hab (by omega) p1 p2 (by rw[mX_];exact Int.le_refl _) hb p3⟩
    ·exact .inr hp
theorem mH_ (ok:Pl→Pl→Pl→Bool) (x:Pl):∀r:List Pl,(popL ok x r).getLast?=r.getLast?
 | []=>rfl
 | [_]=>rfl
 | b::a::l=>by
  unfold popL
  split
  ·rfl
  ·rw[mH_ ok x (a::l)];simp
theorem zK_ (ok:Pl→Pl→Pl→Bool) (x:Pl):∀(r:List Pl) (q:Pl),q∈popL ok x r→q∈r
 | [],_,h=>h
 | [_],_,h=>h
 | b::a::l,q,h=>by
  unfold popL at h
  split at h
  ·exact h
  ·exact List.mem_cons_of_mem _ (zK_ ok x (a::l) q h)
def iF_ (ok:Pl→Pl→Pl→Bool) (r l:List Pl):List Pl:=l.foldl (fun out x=>x::popL ok x out) r
theorem rX_:∀(l r done:List Pl),lB_ r→wG_ r→(∀p∈done,covL p r)→(∀x∈l,∀a,r.head?=some a→kp a<kp x)→l.Pairwise (kp · < kp ·)→
  lB_ (iF_ aI_ r l)∧wG_ (iF_ aI_ r l)∧∀p,p∈done∨p∈l→covL p (iF_ aI_ r l)
 | [],r,done,hd,hc,hv,_,_=>⟨hd,hc,fun p hp=>by rcases hp with hp | hp;exact hv p hp;cases hp⟩
 | x::l,r,done,hd,hc,hv,hx,hp=>by
  obtain⟨h1,h2,h3⟩:=aES x r hd hc (hx x (by simp))
  obtain⟨g1,g2,g3⟩:=rX_ l (x::popL aI_ x r) (x::done) h1 h2 (fun p hp=>by
   rcases List.mem_cons.1 hp with rfl|hp
   ·exact h3 p (aHK p r (hx p (by simp)))
   ·exact h3 p (aHL (hv p hp))) (fun y hy a ha=>by cases ha;exact(List.pairwise_cons.1 hp).1 y hy) (List.pairwise_cons.1 hp).2
  refine⟨g1,g2,fun p hp=>g3 p ?_⟩
  rcases hp with hp|hp
  ·exact .inl (List.mem_cons_of_mem _ hp)
  ·rcases List.mem_cons.1 hp with rfl|hp
   ·exact .inl (by simp)
   ·exact .inr hp
theorem rW_ (ok:Pl→Pl→Pl→Bool):∀(l r:List Pl) (q:Pl),q∈iF_ ok r l→q∈r∨q∈l
 | [],_,_,h=>.inl h
 | x::l,r,q,h=>by
  rcases rW_ ok l (x::popL ok x r) q h with h|h
  ·rcases List.mem_cons.1 h with rfl|h
   ·exact .inr (by simp)
   ·exact .inl (zK_ ok x r q h)
  ·exact .inr (by simp[h])
theorem pS_ (ok:Pl→Pl→Pl→Bool):∀(l r:List Pl) (a:Pl),r.getLast?=some a→(iF_ ok r l).getLast?=some a
 | [],_,_,h=>h
 | x::l,r,a,h=>by
  refine pS_ ok l (x::popL ok x r) a ?_
  rw[←mH_ ok x r] at h
  cases hr:popL ok x r with
  | nil=>rw[hr] at h;cases h
  | cons b t=>rw[hr] at h;rw[List.getLast?_cons_cons];exact h
theorem pT_ (ok:Pl→Pl→Pl→Bool):∀(l r:List Pl),(iF_ ok r l).head?=(r.reverse++l).getLast?
 | [],r=>by show r.head?=_;simp
 | x::l,r=>by
  show(iF_ ok (x::popL ok x r) l).head?=_
  rw[pT_ ok l]
  simp[List.getLast?_cons]
theorem pI_:∀(r:List Pl) (e:Pl×Pl),e∈edR r→e.1∈r∧e.2∈r
 | [],_,h=>by cases h
 | [_],_,h=>by cases h
 | b::a::l,e,h=>by
  rcases List.mem_cons.1 h with rfl|h
  ·simp
  ·have:=pI_ (a::l) e h
   exact⟨List.mem_cons_of_mem _ this.1,List.mem_cons_of_mem _ this.2⟩
theorem rP_:∀(r:List Pl),lB_ r→∀e∈edR r,kp e.1<kp e.2
 | [],_,_,h=>by cases h
 | [_],_,_,h=>by cases h
 | b::a::l,hd,e,h=>by
  rcases List.mem_cons.1 h with rfl|h
  ·exact hd.1
  ·exact rP_ (a::l) hd.2 e h
def aBZ:List Pl→Prop
 | x::h::l=>kp h<kp x∧(∀e∈edR (h::l),0<crE e.1 e.2 h x)∧aBZ (h::l)
 | _=>True
theorem aGF:∀r:List Pl,lB_ r→wG_ r→aBZ r
 | [],_,_=>trivial
 | [_],_,_=>trivial
 | [_,_],hd,_=>⟨hd.1,(fun _ h=>by cases h),trivial⟩
 | x::h::g::l,hd,hc=>by
  have ih:=aGF (h::g::l) hd.2 hc.2
  have e1:0<crE g h h x:=by rw[aAP];exact hc.1
  refine⟨hd.1,fun e he=>?_,ih⟩
  rcases List.mem_cons.1 he with rfl|he
  ·exact e1
  ·exact aHE (rP_ (g::l) hd.2.2 e he) hd.2.1 hd.1 (ih.2.1 e he) e1
theorem aHD (u v:Pl):∀(l:List Pl) (h:Pl),(∀e∈edR (h::l),0<crE e.1 e.2 u v)→∀c∈l,0<crE c h u v
 | [],_,_,_,hc=>by cases hc
 | g::l,h,hE,c,hc=>by
  have h1:=hE (g,h) (by simp[edR])
  rcases List.mem_cons.1 hc with rfl|hc
  ·exact h1
  ·have h2:=aHD u v l g (fun e he=>hE e (by simp[edR,he])) c hc
   rw[aQU c g h u v]
   simp only at h1
   omega
theorem fA_:∀r:List Pl,aBZ r→∀e∈edR r,∀c∈r,c=e.1∨c=e.2∨0<aA_ e.1 e.2 c
 | [],_,_,h,_,_=>by cases h
 | [_],_,_,h,_,_=>by cases h
 | x::h::l,hg,e,he,c,hc=>by
  obtain⟨h1,h2,h3⟩:=hg
  rcases List.mem_cons.1 he with rfl|he2
  ·rcases List.mem_cons.1 hc with rfl|hc
   ·exact .inr (.inl rfl)
   ·rcases List.mem_cons.1 hc with rfl|hc
    ·exact .inl rfl
    ·have:=aHD h x l h h2 c hc
     rw[aAP,←aIT] at this
     exact .inr (.inr this)
  ·rcases List.mem_cons.1 hc with rfl|hc2
   ·refine .inr (.inr ?_)
    rw[aIU e.1 e.2 h c]
    have k:=h2 e he2
    rcases fA_ (h::l) h3 e he2 h (by simp) with q|q|q
    ·have:=mX_ e.1 e.2
     rw[←q] at this
     rw[←q] at k⊢
     omega
    ·have:=kI_ e.1 e.2
     rw[←q] at this
     rw[←q] at k⊢
     omega
    ·omega
   ·exact fA_ (h::l) h3 e he2 c hc2
theorem rJ_ {r:List Pl} (hg:aBZ r) {e:Pl×Pl} (he:e∈edR r) {c:Pl} (hc:c∈r):0≤aA_ e.1 e.2 c:=by
 rcases fA_ r hg e he c hc with h|h|h
 ·rw[h,mX_];exact Int.le_refl _
 ·rw[h,kI_];exact Int.le_refl _
 ·omega
theorem aAQ (p:Pl):∀r:List Pl,lB_ r→covL p r→r=[p]∨∃e∈edR r,kp e.1≤kp p∧kp p≤kp e.2∧0≤aA_ e.1 e.2 p
 | [],_,h=>h.elim
 | [a],_,h=>.inl (by rw[show p=a from h])
 | b::a::l,hd,h=>by
  rcases h with h|h
  ·exact .inr ⟨(a,b),by simp[edR],h⟩
  ·rcases aAQ p (a::l) hd.2 h with h|⟨e,he,h⟩
   ·injection h with h1 h2
    subst h1
    exact .inr ⟨(a,b),by simp[edR],Int.le_refl _,Int.le_of_lt hd.1,by rw[mX_];exact Int.le_refl _⟩
   ·exact .inr ⟨e,by simp[edR,he],h⟩
def DomL (r s:List Pl):Prop:=∀e∈edR r,∀p∈s,0<aA_ e.1 e.2 p∨(aA_ e.1 e.2 p=0∧kp e.1≤kp p∧kp p≤kp e.2)
theorem aQV {r:List Pl} {p:Pl} (hd:lB_ r) (hg:aBZ r) (hc:covL p r) {e:Pl×Pl} (he:e∈edR r):0<aA_ e.1 e.2 p∨(aA_ e.1 e.2 p=0∧kp e.1≤kp p∧kp p≤kp e.2):=by
 rcases aAQ p r hd hc with rfl|⟨⟨a,b⟩,hf,h1,h2,h3⟩
 ·cases he
 ·simp only at h1 h2 h3
  have hab:=rP_ r hd _ hf
  have huv:=rP_ r hd _ he
  obtain⟨ma,mb⟩:=pI_ r _ hf
  simp only at hab ma mb
  have ka:=rJ_ hg he ma
  have kb:=rJ_ hg he mb
  have h0:=lI_ hab huv h1 h2 ka kb h3
  rcases Int.lt_or_eq_of_le h0 with h|h
  ·exact .inl h
  ·have hz:aA_ e.1 e.2 p=0:=h.symm
   refine .inr ⟨hz,?_⟩
   obtain⟨q1,q2⟩:=xB_ hab huv h1 h2 ka kb h3 hz
   have ea:=fA_ r hg e he a ma
   have eb:=fA_ r hg e he b mb
   have ra:aA_ e.1 e.2 a=0→kp e.1≤kp a∧kp a≤kp e.2:=fun hz=>by
    rcases ea with q|q|q
    ·rw[q];omega
    ·rw[q];omega
    ·omega
   have rb:aA_ e.1 e.2 b=0→kp e.1≤kp b∧kp b≤kp e.2:=fun hz=>by
    rcases eb with q|q|q
    ·rw[q];omega
    ·rw[q];omega
    ·omega
   rcases q1 with q1|q1 <;> rcases q2 with q2|q2
   ·omega
   ·have:=rb q2;omega
   ·have:=ra q1;omega
   ·have:=ra q1;have:=rb q2;omega
theorem aLK (ok:Pl→Pl→Pl→Bool) (l:List Pl):aY_ ok l=iF_ ok [] l:=rfl
structure ChainOf (r s:List Pl):Prop where
 desc:lB_ r
 good:aBZ r
 dom:DomL r s
 sub:∀q∈r,q∈s
 head:r.head?=s.getLast?
 last:r.getLast?=s.head?
theorem aAT (l:List Pl) (hs:l.Pairwise (kp · < kp ·)):ChainOf (aY_ aI_ l) l:=by
 rw[aLK]
 obtain⟨h1,h2,h3⟩:=rX_ l [] [] trivial trivial (fun _ h=>by cases h) (fun _ _ _ h=>by cases h) hs
 have hg:=aGF _ h1 h2
 refine⟨h1,hg,fun e he p hp=>aQV h1 hg (h3 p (.inr hp)) he,fun q hq=>?_,by rw[pT_];rfl,?_⟩
 ·rcases rW_ aI_ l [] q hq with h|h
  ·cases h
  ·exact h
 ·cases l with
  | nil=>rfl
  | cons x l=>exact pS_ aI_ l [x] x rfl
theorem lA_:∀(l:List Pl) (x:Pl),lB_ (x::l)→∀y∈l,kp y<kp x
 | [],_,_,_,h=>by cases h
 | z::l,x,hd,y,h=>by
  rcases List.mem_cons.1 h with rfl|h
  ·exact hd.1
  ·have:=lA_ l z hd.2 y h
   have:=hd.1
   omega
def ngP (p:Pl):Pl:=⟨-p.x,-p.y⟩
theorem vQ_ (p:Pl):kp (ngP p) = -kp p:=by unfold kp ngP;simp only;omega
theorem sH_ (a b c:Pl):aA_ (ngP a) (ngP b) (ngP c)=aA_ a b c:=by unfold aA_ ngP;grind
theorem jY_ (p:Pl):ngP (ngP p)=p:=by unfold ngP;simp
theorem aPT (a b c:Pl):aI_ (ngP a) (ngP b) (ngP c)=aI_ a b c:=by unfold aI_;rw[sH_]
theorem aET (x:Pl):∀r:List Pl,popL aI_ (ngP x) (r.map ngP)=(popL aI_ x r).map ngP
 | []=>rfl
 | [_]=>rfl
 | b::a::l=>by
  show popL aI_ (ngP x) (ngP b::ngP a::l.map ngP)=_
  unfold popL
  rw[aPT]
  split
  ·rfl
  ·exact aET x (a::l)
theorem wL_:∀l r:List Pl,iF_ aI_ (r.map ngP) (l.map ngP)=(iF_ aI_ r l).map ngP
 | [],_=>rfl
 | x::l,r=>by
  show iF_ aI_ (ngP x::popL aI_ (ngP x) (r.map ngP)) (l.map ngP)=_
  rw[aET]
  exact wL_ l (x::popL aI_ x r)
theorem aHX (l:List Pl):aY_ aI_ (l.map ngP)=(aY_ aI_ l).map ngP:=wL_ l []
theorem aGS (f:Pl→Pl):∀r:List Pl,edR (r.map f)=(edR r).map fun e=>(f e.1,f e.2)
 | []=>rfl
 | [_]=>rfl
 | b::a::l=>by
  show(f a,f b)::edR ((a::l).map f)=_
  rw[aGS f (a::l)]
  rfl
section
variable {α:Type} [Inhabited α] (lt:α→α→Bool)
def insR (x:α):List α→List α
 | []=>[x]
 | b::r=>if lt x b then b::insR x r else x::b::r
theorem aNS (p post:List α) (b x:α):swpN (p++b::x::post) p.length=p++x::b::post:=by
 unfold swpN
 simp
theorem pD_ (x:α):∀(r post:List α),bN_ lt (r.reverse++x::post) r.length=(insR lt x r).reverse++post
 | [],_=>rfl
 | b::r,post=>by
  have e:(b::r).reverse++x::post=r.reverse++b::x::post:=by simp
  have h1:(r.reverse++b::x::post)[r.length+1]?.getD default=x:=by simp
  have h0:(r.reverse++b::x::post)[r.length]?.getD default=b:=by simp
  rw[e]
  show bN_ lt _ (r.length+1)=_
  unfold bN_ insR
  rw[h1,h0]
  split
  ·have hs:=aNS r.reverse post b x
   rw[List.length_reverse] at hs
   rw[hs,pD_ x r (b::post)]
   simp
  ·simp
theorem aEZ:∀(rest r:List α),outN lt (r.reverse++rest) r.length rest.length=(rest.foldl (fun r x=>insR lt x r) r).reverse
 | [],r=>by simp[outN]
 | x::rest,r=>by
  show outN lt (bN_ lt (r.reverse++x::rest) r.length) (r.length+1) rest.length=_
  rw[pD_]
  have hl:(insR lt x r).length=r.length+1:=by
   have:=gQ_ lt (r.reverse++x::rest) r.length
   rw[pD_] at this
   simp at this
   omega
  rw[←hl,aEZ rest (insR lt x r)]
  rfl
theorem sM_ (a:α) (l:List α):cD_ lt (a::l)=(l.foldl (fun r x=>insR lt x r) [a]).reverse:=by
 unfold cD_
 exact aEZ lt l [a]
omit [Inhabited α] in
theorem pC_ (x:α):∀r:List α,(insR lt x r).Perm (x::r)
 | []=>.refl _
 | b::r=>by
  unfold insR
  split
  ·exact(List.Perm.cons b (pC_ x r)).trans (.swap x b r)
  ·exact .refl _
variable {lt} (hirr:∀x y,lt x y=true→lt y x=false) (hnt:∀x y z,lt x y=false→lt y z=false→lt x z=false)
include hirr hnt
omit [Inhabited α] in
theorem pB_ (x:α):∀r:List α,r.Pairwise (fun a b=>lt a b=false)→(insR lt x r).Pairwise (fun a b=>lt a b=false)
 | [],_=>by simp[insR]
 | b::r,h=>by
  obtain⟨h1,h2⟩:=List.pairwise_cons.1 h
  unfold insR
  split
  ·rename_i hx
   refine List.pairwise_cons.2 ⟨fun y hy=>?_,pB_ x r h2⟩
   rcases List.mem_cons.1 ((pC_ lt x r).mem_iff.1 hy) with rfl|hy
   ·exact hirr _ _ hx
   ·exact h1 y hy
  ·rename_i hx
   have hx:lt x b=false:=by simpa using hx
   refine List.pairwise_cons.2 ⟨fun y hy=>?_,h⟩
   rcases List.mem_cons.1 hy with rfl|hy
   ·exact hx
   ·exact hnt _ _ _ hx (h1 y hy)
omit [Inhabited α] in
theorem pF_:∀l r:List α,r.Pairwise (fun a b=>lt a b=false)→(l.foldl (fun r x=>insR lt x r) r).Pairwise (fun a b=>lt a b=false)∧(l.foldl (fun r x=>insR lt x r) r).Perm (l++r)
 | [],r,h=>⟨h,.refl _⟩
 | x::l,r,h=>by
  obtain⟨h1,h2⟩:=pF_ l (insR lt x r) (pB_ hirr hnt x r h)
  refine⟨h1,h2.trans ?_⟩
  exact((List.Perm.append_left l (pC_ lt x r)).trans List.perm_middle)
theorem mF_ (l:List α):(cD_ lt l).Pairwise (fun a b=>lt b a=false)∧(cD_ lt l).Perm l:=by
 cases l with
 | nil=>exact⟨by simp[cD_,outN],by simp[cD_,outN]⟩
 | cons a l=>
  rw[sM_]
  obtain⟨h1,h2⟩:=pF_ hirr hnt l [a] (by simp)
  refine⟨List.pairwise_reverse.2 h1,(List.reverse_perm _).trans (h2.trans ?_)⟩
  exact List.perm_append_comm.trans (.refl _)
end
theorem aFQ {a b:Pl} (ha:vP a=true) (hb:vP b=true):ltP a b=true↔kp a<kp b:=by
 unfold vP at ha hb
 simp only[Bool.and_eq_true,decide_eq_true_eq] at ha hb
 unfold ltP kp
 simp only[Bool.or_eq_true,Bool.and_eq_true,decide_eq_true_eq]
 omega
theorem vR_ {a b:Pl} (ha:vP a=true) (hb:vP b=true) (h:kp a=kp b):a=b:=by
 unfold vP at ha hb
 simp only[Bool.and_eq_true,decide_eq_true_eq] at ha hb
 unfold kp at h
 have h1:a.x=b.x:=by omega
 have h2:a.y=b.y:=by omega
 cases a
 cases b
 simp only at h1 h2
 rw[h1,h2]
theorem aPE (x y:Pl) (h:ltP x y=true):ltP y x=false:=by
 unfold ltP at *
 simp only[Bool.or_eq_true,Bool.and_eq_true,decide_eq_true_eq,Bool.or_eq_false_iff,Bool.and_eq_false_iff,decide_eq_false_iff_not] at *
 omega
theorem ltP_nt (x y z:Pl) (h:ltP x y=false) (k:ltP y z=false):ltP x z=false:=by
 unfold ltP at *
 simp only[Bool.or_eq_false_iff,Bool.and_eq_false_iff,decide_eq_false_iff_not] at *
 omega
abbrev Asc (l:List Pl):Prop:=l.Pairwise (kp · < kp ·)
theorem iE_:∀l:List Pl,(∀p∈l,vP p=true)→l.Pairwise (kp ·≤kp ·)→Asc (aF_ l)∧∀q,q∈aF_ l↔q∈l
 | [],_,_=>⟨List.Pairwise.nil,fun _=>Iff.rfl⟩
 | [x],_,_=>⟨by simp[aF_],fun _=>Iff.rfl⟩
 | x::y::l,hv,h=>by
  obtain⟨h1,h2⟩:=List.pairwise_cons.1 h
  obtain⟨k1,k2⟩:=iE_ (y::l) (fun p hp=>hv p (List.mem_cons_of_mem _ hp)) h2
  unfold aF_
  split
  ·rename_i hxy
   subst hxy
   exact⟨k1,fun q=>(k2 q).trans (by simp)⟩
  ·rename_i hxy
   refine⟨List.pairwise_cons.2 ⟨fun q hq=>?_,k1⟩,fun q=>by rw[List.mem_cons,k2 q];exact List.mem_cons.symm⟩
   have hlt:kp x<kp y:=by
    have:=h1 y (by simp)
    rcases Int.lt_or_eq_of_le this with h|h
    ·exact h
    ·exact absurd (vR_ (hv x (by simp)) (hv y (by simp)) h) hxy
   rcases List.mem_cons.1 ((k2 q).1 hq) with rfl|hq
   ·exact hlt
   ·have:=(List.pairwise_cons.1 h2).1 q hq
    omega
def sP (l:List Pl):List Pl:=aF_ (cD_ ltP l)
theorem jI_ {l:List Pl} (hv:∀p∈l,vP p=true):Asc (sP l)∧∀q,q∈sP l↔q∈l:=by
 obtain⟨h1,h2⟩:=mF_ (lt:=ltP) aPE ltP_nt l
 have hv':∀p∈cD_ ltP l,vP p=true:=fun p hp=>hv p (h2.mem_iff.1 hp)
 obtain⟨k1,k2⟩:=iE_ (cD_ ltP l) hv' (h1.imp_of_mem fun {a b} ha hb hab=>by
  have:¬kp b<kp a:=fun h=>by
   rw[(aFQ (hv' b hb) (hv' a ha)).2 h] at hab
   cases hab
  omega)
 exact⟨k1,fun q=>(k2 q).trans h2.mem_iff⟩
theorem aAX:∀l l':List Pl,Asc l→Asc l'→(∀q,q∈l↔q∈l')→l=l'
 | [],[],_,_,_=>rfl
 | [],y::_,_,_,h=>by have:=(h y).2 (by simp);cases this
 | x::_,[],_,_,h=>by have:=(h x).1 (by simp);cases this
 | x::l,y::l',h1,h2,h=>by
  obtain⟨a1,a2⟩:=List.pairwise_cons.1 h1
  obtain⟨b1,b2⟩:=List.pairwise_cons.1 h2
  have hxy:x=y:=by
   rcases List.mem_cons.1 ((h x).1 (by simp)) with e|hx
   ·exact e
   ·rcases List.mem_cons.1 ((h y).2 (by simp)) with e|hy
    ·exact e.symm
    ·have:=a1 y hy
     have:=b1 x hx
     omega
  subst hxy
  rw[aAX l l' a2 b2 fun q=>⟨fun hq=>by
   rcases List.mem_cons.1 ((h q).1 (List.mem_cons_of_mem _ hq)) with rfl|h'
   ·have:=a1 q hq;omega
   ·exact h',fun hq=>by
   rcases List.mem_cons.1 ((h q).2 (List.mem_cons_of_mem _ hq)) with rfl|h'
   ·have:=b1 q hq;omega
   ·exact h'⟩]
theorem sP_of {l t:List Pl} (hv:∀p∈l,vP p=true) (hm:∀q,q∈t↔q∈l) (hs:t.Pairwise (fun a b=>ltP b a=false)):aF_ t=sP l:=by
 have hv':∀p∈t,vP p=true:=fun p hp=>hv p ((hm p).1 hp)
 obtain⟨k1,k2⟩:=iE_ t hv' (hs.imp_of_mem fun {a b} ha hb hab=>by
  have:¬kp b<kp a:=fun h=>by
   rw[(aFQ (hv' b hb) (hv' a ha)).2 h] at hab
   cases hab
  omega)
 obtain⟨j1,j2⟩:=jI_ hv
 exact aAX _ _ k1 j1 fun q=>((k2 q).trans (hm q)).trans (j2 q).symm
theorem nJ_ (l:List Pl):aS_ l=if (sP l).length<3 then sP l else (aW_ aI_ (sP l)).dropLast++(aW_ aI_ (sP l).reverse).dropLast:=rfl
theorem aGB {l:List Pl} (h:2≤(sP l).length):aS_ l=(aW_ aI_ (sP l)).dropLast++(aW_ aI_ (sP l).reverse).dropLast:=by
 rw[nJ_]
 by_cases h3:(sP l).length<3
 ·rw[if_pos h3]
  match hs:sP l,h,h3 with
  | [],h,_=>simp at h
  | [_],h,_=>simp at h
  | [a,b],_,_=>rfl
  | _::_::_::_,_,h=>simp at h;omega
 ·rw[if_neg h3]
end Go.Proofs.YtjfdefglpoancaaGreatDoor
namespace Go.Proofs.YtjfdefglpoancaaGreatDoor
theorem aLT:∀{s:List Pl} {m:Pl},Asc s→s.head?=some m→∀p∈s,kp m≤kp p
 | x::s,m,h,hm,p,hp=>by
  cases hm
  rcases List.mem_cons.1 hp with rfl|hp
  ·exact Int.le_refl _
  ·exact Int.le_of_lt ((List.pairwise_cons.1 h).1 p hp)
theorem aLS {s:List Pl} {m:Pl} (h:Asc s) (hm:s.getLast?=some m):∀p∈s,kp p≤kp m:=by
 rcases List.eq_nil_or_concat s with rfl|⟨k,x,rfl⟩
 ·cases hm
 ·rw[List.concat_eq_append,List.getLast?_append] at hm
  cases hm
  intro p hp
  rw[List.concat_eq_append] at hp h
  rcases List.mem_append.1 hp with hp|hp
  ·exact Int.le_of_lt ((List.pairwise_append.1 h).2.2 p hp _ (by simp))
  ·rw[List.mem_singleton.1 hp];exact Int.le_refl _
theorem nM_:∀(r:List Pl) (c:Pl),c∈r→r.getLast?≠some c→∃a,(a,c)∈edR r
 | [],_,h,_=>by cases h
 | [x],c,h,hl=>by
  rcases List.mem_cons.1 h with rfl|h
  ·exact absurd rfl hl
  ·cases h
 | b::a::l,c,h,hl=>by
  rcases List.mem_cons.1 h with rfl|h
  ·exact⟨a,by simp[edR]⟩
  ·rw[List.getLast?_cons_cons] at hl
   obtain⟨d,hd⟩:=nM_ (a::l) c h hl
   exact⟨d,by simp[edR,hd]⟩
theorem aNK {s:List Pl} (h:Asc s):Asc (s.map ngP).reverse:=by
 refine List.pairwise_reverse.2 (List.pairwise_map.2 (h.imp ?_))
 intro a b hab
 rw[vQ_,vQ_]
 omega
theorem vL_ (s:List Pl):(s.map ngP).map ngP=s:=by
 rw[List.map_map]
 conv=>rhs;rw[←List.map_id s]
 exact List.map_congr_left fun p _=>jY_ p
structure Pair (r r' s:List Pl):Prop where
 asc:Asc s
 one:ChainOf r s
 two:ChainOf (r'.map ngP) (s.map ngP).reverse
theorem aOV {s:List Pl} (h:Asc s):Pair (aY_ aI_ s) (aY_ aI_ s.reverse) s:=by
 refine⟨h,aAT s h,?_⟩
 rw[←aHX,List.map_reverse]
 exact aAT _ (aNK h)
theorem Pair.sym {r r' s:List Pl} (h:Pair r r' s):Pair (r'.map ngP) (r.map ngP) (s.map ngP).reverse:=by
 refine⟨aNK h.asc,h.two,?_⟩
 rw[vL_,List.map_reverse,vL_,List.reverse_reverse]
 exact h.one
theorem yU_ {r':List Pl} {e:Pl×Pl} (he:e∈edR r'):(ngP e.1,ngP e.2)∈edR (r'.map ngP):=by
 rw[aGS]
 exact List.mem_map_of_mem he
section
variable {r r' s:List Pl} (h:Pair r r' s)
include h
theorem Pair.up_lt {e:Pl×Pl} (he:e∈edR r'):kp e.2<kp e.1:=by
 have:=rP_ _ h.two.desc _ (yU_ he)
 simp only[vQ_] at this
 omega
theorem Pair.up_dom {e:Pl×Pl} (he:e∈edR r') {p:Pl} (hp:p∈s):0<aA_ e.1 e.2 p∨(aA_ e.1 e.2 p=0∧kp e.2≤kp p∧kp p≤kp e.1):=by
 have:=h.two.dom _ (yU_ he) (ngP p) (List.mem_reverse.2 (List.mem_map_of_mem hp))
 simp only[vQ_,sH_] at this
 omega
theorem Pair.up_sub {q:Pl} (hq:q∈r'):q∈s:=by
 have:=List.mem_reverse.1 (h.two.sub (ngP q) (List.mem_map_of_mem hq))
 obtain⟨p,hp,e⟩:=List.mem_map.1 this
 have e2:=congrArg ngP e
 rw[jY_,jY_] at e2
 rwa[←e2]
theorem Pair.up_good {e:Pl×Pl} (he:e∈edR r') {c:Pl} (hc:c∈r'):c=e.1∨c=e.2∨0<aA_ e.1 e.2 c:=by
 have:=fA_ _ h.two.good _ (yU_ he) (ngP c) (List.mem_map_of_mem hc)
 simp only[sH_] at this
 rcases this with q|q|q
 ·exact .inl (by rw[←jY_ c,q,jY_])
 ·exact .inr (.inl (by rw[←jY_ c,q,jY_]))
 ·exact .inr (.inr q)
theorem Pair.up_head:r'.head?=s.head?:=by
 have:=h.two.head
 rw[List.getLast?_reverse,List.head?_map,List.head?_map] at this
 cases hr:r'.head? <;> cases hs:s.head? <;> rw[hr,hs] at this <;> simp at this⊢
 have:=congrArg ngP this
 rwa[jY_,jY_] at this
theorem Pair.up_last:r'.getLast?=s.getLast?:=by
 have:=h.two.last
 rw[List.head?_reverse,List.getLast?_map,List.getLast?_map] at this
 cases hr:r'.getLast? <;> cases hs:s.getLast? <;> rw[hr,hs] at this <;> simp at this⊢
 have:=congrArg ngP this
 rwa[jY_,jY_] at this
theorem Pair.cross (hv:∀p∈s,∀q∈s,kp p=kp q→p=q) {e:Pl×Pl} (he:e∈edR r) {c:Pl} (hc:c∈r'):c=e.1∨c=e.2∨0<aA_ e.1 e.2 c:=by
 have hcs:=h.up_sub hc
 have hm:=pI_ r e he
 have m1:=h.one.sub _ hm.1
 have m2:=h.one.sub _ hm.2
 rcases h.one.dom e he c hcs with k|⟨k,k1,k2⟩
 ·exact .inr (.inr k)
 ·by_cases e1:c=e.1
  ·exact .inl e1
  by_cases e2:c=e.2
  ·exact .inr (.inl e2)
  exfalso
  have n1:kp e.1≠kp c:=fun x=>e1 (hv _ m1 _ hcs x).symm
  have n2:kp c≠kp e.2:=fun x=>e2 (hv _ hcs _ m2 x)
  have hl:r'.getLast?≠some c:=fun x=>by
   rw[h.up_last] at x
   have:=aLS h.asc x _ m2
   omega
  obtain⟨a,ha⟩:=nM_ r' c hc hl
  have q1:=h.up_dom ha m1
  have q2:=h.up_dom ha m2
  have q3:=h.up_lt ha
  simp only at q1 q2 q3
  have id:=jQ_ a c e.1 e.2 c
  rw[kI_,k] at id
  have p1:=Int.mul_pos (show 0<kp e.2-kp c by omega) (show 0<aA_ a c e.1 by omega)
  have p2:=Int.mul_nonneg (show 0≤kp c-kp e.1 by omega) (show 0≤aA_ a c e.2 by omega)
  omega
theorem Pair.apart {c:Pl} (hc:c∈r) (hc':c∈r') (h1:r.getLast?≠some c) (h2:r'.getLast?≠some c):False:=by
 obtain⟨a,ha⟩:=nM_ r c hc h1
 obtain⟨b,hb⟩:=nM_ r' c hc' h2
 have k1:=h.one.dom _ ha b (h.up_sub (pI_ r' _ hb).1)
 have k2:=h.up_dom hb (h.one.sub _ (pI_ r _ ha).1)
 have k3:=h.up_lt hb
 have k4:=rP_ _ h.one.desc _ ha
 simp only at k1 k2 k3 k4
 have e:aA_ b c a = -aA_ a c b:=by unfold aA_;grind
 omega
end
theorem Pair.cross2 {r r' s:List Pl} (h:Pair r r' s) (hv:∀p∈s,∀q∈s,kp p=kp q→p=q) {e:Pl×Pl} (he:e∈edR r') {c:Pl} (hc:c∈r):c=e.1∨c=e.2∨0<aA_ e.1 e.2 c:=by
 have:=h.sym.cross (fun p hp q hq hk=>by
  obtain⟨p',hp',rfl⟩:=List.mem_map.1 (List.mem_reverse.1 hp)
  obtain⟨q',hq',rfl⟩:=List.mem_map.1 (List.mem_reverse.1 hq)
  rw[vQ_,vQ_] at hk
  rw[hv p' hp' q' hq' (by omega)]) (yU_ he) (List.mem_map_of_mem hc)
 simp only[sH_] at this
 rcases this with q|q|q
 ·exact .inl (by rw[←jY_ c,q,jY_])
 ·exact .inr (.inl (by rw[←jY_ c,q,jY_]))
 ·exact .inr (.inr q)
def edF:List Pl→List (Pl×Pl)
 | a::b::l=>(a,b)::edF (b::l)
 | _=>[]
theorem aGT (y:Pl):∀(t:List Pl) (x:Pl),edF (x::(t++[y]))=(x::t).zip (t++[y])
 | [],_=>rfl
 | z::t,x=>by
  show(x,z)::edF (z::(t++[y]))=_
  rw[aGT y t z]
  rfl
theorem tO_ (x:Pl) (t:List Pl):aM_ (x::t)=edF (x::(t++[x])):=by
 rw[aGT]
 rfl
theorem lP_ (b:Pl) (C:List Pl):∀A:List Pl,edF (A++b::C)=edF (A++[b])++edF (b::C)
 | []=>rfl
 | [a]=>rfl
 | a::a'::A=>by
  show(a,a')::edF ((a'::A)++b::C)=(a,a')::edF ((a'::A)++[b])++_
  rw[lP_ b C (a'::A)]
  rfl
theorem xW_:∀(r:List Pl) (e:Pl×Pl),e∈edF r.reverse↔e∈edR r
 | [],_=>Iff.rfl
 | [_],_=>Iff.rfl
 | b::a::l,e=>by
  have e1:(b::a::l).reverse=l.reverse++a::[b]:=by simp
  rw[e1,lP_,List.mem_append]
  have e2:l.reverse++[a]=(a::l).reverse:=by simp
  rw[e2,xW_ (a::l) e]
  show e∈edR (a::l)∨e∈[(a,b)]↔e∈(a,b)::edR (a::l)
  simp only[List.mem_cons,List.not_mem_nil,or_false]
  exact Or.comm
theorem vJ_ {l:List Pl} (h:l.Nodup):l.reverse.Nodup:=List.pairwise_reverse.2 (h.imp fun hne e=>hne e.symm)
structure HullOf (h s:List Pl):Prop where
 sub:∀q∈h,q∈s
 nodup:h.Nodup
 head:h.head?=s.head?
 edge:∀e∈aM_ h,∀p∈s,0<aA_ e.1 e.2 p∨(aA_ e.1 e.2 p=0∧min (kp e.1) (kp e.2)≤kp p∧kp p≤max (kp e.1) (kp e.2))
 vert:∀e∈aM_ h,∀c∈h,c=e.1∨c=e.2∨0<aA_ e.1 e.2 c
theorem lR_:∀r:List Pl,lB_ r→r.Nodup
 | [],_=>List.nodup_nil
 | x::l,h=>List.nodup_cons.2 ⟨fun hx=>by have:=lA_ l x h x hx;omega,lR_ l (lS_ h)⟩
theorem aBL {r r' s:List Pl} (h:Pair r r' s) (h2:2≤s.length):∃lo hi t t',r=hi::t∧r'=lo::t'∧s.head?=some lo∧s.getLast?=some hi∧kp lo<kp hi∧t.getLast?=some lo∧t'.getLast?=some hi:=by
 obtain⟨lo,s',hs⟩:∃lo s',s=lo::s':=by
  cases s with
  | nil=>simp at h2
  | cons lo s'=>exact⟨lo,s',rfl⟩
 obtain⟨hi,hhi⟩:∃hi,s.getLast?=some hi:=by
  rw[hs]
  exact⟨_,List.getLast?_cons⟩
 have hlo:s.head?=some lo:=by rw[hs];rfl
 have hne:kp lo<kp hi:=by
  have hs2:s'≠[]:=by rintro rfl;rw[hs] at h2;simp at h2
  have hm:hi∈s':=by
   rw[hs] at hhi
   cases s' with
   | nil=>exact absurd rfl hs2
   | cons a s'=>rw[List.getLast?_cons_cons] at hhi;exact List.mem_of_getLast? hhi
  have:=h.asc
  rw[hs] at this
  exact(List.pairwise_cons.1 this).1 hi hm
 have hd:=h.one.head
 have hl:=h.one.last
 have ud:=h.up_head
 have ul:=h.up_last
 rw[hhi] at hd
 rw[hlo] at hl
 rw[hlo] at ud
 rw[hhi] at ul
 cases r with
 | nil=>cases hd
 | cons a t=>
  cases hd
  cases r' with
  | nil=>cases ud
  | cons b t'=>
   cases ud
   refine⟨lo,hi,t,t',rfl,rfl,hlo,hhi,hne,?_,?_⟩
   ·cases t with
    | nil=>simp at hl;rw[hl] at hne;omega
    | cons c t=>rw[List.getLast?_cons_cons] at hl;exact hl
   ·cases t' with
    | nil=>simp at ul;rw[ul] at hne;omega
    | cons c t'=>rw[List.getLast?_cons_cons] at ul;exact ul
theorem aFZ {r r' s:List Pl} (h:Pair r r' s) (h2:2≤s.length) (hv:∀p∈s,∀q∈s,kp p=kp q→p=q):HullOf (r.reverse.dropLast++r'.reverse.dropLast) s∧(∀e∈aM_ (r.reverse.dropLast++r'.reverse.dropLast),e∈edR r∨e∈edR r')∧∀q,q∈r.reverse.dropLast++r'.reverse.dropLast↔q∈r∨q∈r':=by
 obtain⟨lo,hi,t,t',e1,e2,hlo,hhi,hne,ht,ht'⟩:=aBL h h2
 have hr:r.reverse.dropLast=t.reverse:=by rw[e1,List.reverse_cons,List.dropLast_concat]
 have hr':r'.reverse.dropLast=t'.reverse:=by rw[e2,List.reverse_cons,List.dropLast_concat]
 rw[hr,hr']
 have hth:t.reverse.head?=some lo:=by rw[List.head?_reverse,ht]
 have hth':t'.reverse.head?=some hi:=by rw[List.head?_reverse,ht']
 obtain⟨T,hT⟩:∃T,t.reverse=lo::T:=by
  cases hh:t.reverse with
  | nil=>rw[hh] at hth;cases hth
  | cons a T=>rw[hh] at hth;cases hth;exact⟨T,rfl⟩
 obtain⟨T',hT'⟩:∃T',t'.reverse=hi::T':=by
  cases hh:t'.reverse with
  | nil=>rw[hh] at hth';cases hth'
  | cons a T=>rw[hh] at hth';cases hth';exact⟨T,rfl⟩
 have hmem:∀q,q∈t.reverse++t'.reverse↔q∈r∨q∈r':=by
  intro q
  have hl:lo∈t:=List.mem_of_getLast? ht
  have hh:hi∈t':=List.mem_of_getLast? ht'
  rw[e1,e2,List.mem_append,List.mem_reverse,List.mem_reverse,List.mem_cons,List.mem_cons]
  constructor
  ·rintro(k|k)
   ·exact .inl (.inr k)
   ·exact .inr (.inr k)
  ·rintro((rfl|k)|(rfl|k))
   ·exact .inr hh
   ·exact .inl k
   ·exact .inl hl
   ·exact .inr k
 have hed:∀e∈aM_ (t.reverse++t'.reverse),e∈edR r∨e∈edR r':=by
  intro e he
  have x1:aM_ (t.reverse++t'.reverse)=edF ((t.reverse++t'.reverse)++[lo]):=by
   rw[hT,List.cons_append,tO_]
   rfl
  have x2:(t.reverse++t'.reverse)++[lo]=t.reverse++hi::(T'++[lo]):=by rw[hT'];simp
  have x3:t.reverse++[hi]=r.reverse:=by rw[e1,List.reverse_cons]
  have x4:hi::(T'++[lo])=r'.reverse:=by rw[e2,List.reverse_cons,hT'];rfl
  rw[x1,x2,lP_,x3,x4,List.mem_append,xW_,xW_] at he
  exact he
 refine⟨⟨fun q hq=>?_,?_,by rw[hT,hlo];rfl,fun e he p hp=>?_,fun e he c hc=>?_⟩,hed,hmem⟩
 ·rcases(hmem q).1 hq with k|k
  ·exact h.one.sub q k
  ·exact h.up_sub k
 ·have d1:=h.one.desc
  have d2:=h.two.desc
  rw[e1] at d1
  rw[e2] at d2
  refine List.nodup_append.2 ⟨vJ_ (lR_ _ (lS_ d1)),vJ_ ?_,fun a ha b hb hab=>?_⟩
  ·have:=lR_ _ (lS_ d2)
   exact List.Pairwise.of_map ngP (fun a b k e=>k (by rw[e])) this
  ·subst hab
   have m1:=List.mem_reverse.1 ha
   have m2:=List.mem_reverse.1 hb
   have k1:=lA_ _ _ d1 a m1
   have k2:=lA_ _ _ d2 (ngP a) (List.mem_map_of_mem m2)
   rw[vQ_,vQ_] at k2
   refine h.apart (c:=a) (by rw[e1];exact List.mem_cons_of_mem _ m1) (by rw[e2];exact List.mem_cons_of_mem _ m2) ?_ ?_
   ·rw[h.one.last,hlo]
    intro e
    cases e
    omega
   ·rw[h.up_last,hhi]
    intro e
    cases e
    omega
 ·rcases hed e he with k|k
  ·have:=h.one.dom e k p hp
   omega
  ·have:=h.up_dom k hp
   omega
 ·rcases hed e he with k|k <;> rcases(hmem c).1 hc with m|m
  ·exact fA_ _ h.one.good e k c m
  ·exact h.cross hv k m
  ·exact h.cross2 hv k m
  ·exact h.up_good k m
end Go.Proofs.YtjfdefglpoancaaGreatDoor
namespace Go.Proofs.YtjfdefglpoancaaGreatDoor
theorem sP_inj {l:List Pl} (hv:∀p∈l,vP p=true):∀p∈sP l,∀q∈sP l,kp p=kp q→p=q:=fun p hp q hq h=>
 vR_ (hv p (((jI_ hv).2 p).1 hp)) (hv q (((jI_ hv).2 q).1 hq)) h
theorem aGA {l:List Pl} (h:2≤(sP l).length):aS_ l=(aY_ aI_ (sP l)).reverse.dropLast++(aY_ aI_ (sP l).reverse).reverse.dropLast:=aGB h
theorem aKN {l:List Pl} (h:(sP l).length<2):aS_ l=sP l:=by rw[nJ_,if_pos (by omega)]
theorem rN_ (a:Pl):aM_ [a]=[(a,a)]:=rfl
theorem kB_ {l:List Pl} (hv:∀p∈l,vP p=true):HullOf (aS_ l) (sP l):=by
 by_cases h:2≤(sP l).length
 ·rw[aGA h]
  exact(aFZ (aOV (jI_ hv).1) h (sP_inj hv)).1
 ·rw[aKN (by omega)]
  match hs:sP l with
  | []=>exact⟨fun _ h=>h,List.nodup_nil,rfl,(fun _ h=>by cases h),(fun _ h=>by cases h)⟩
  | [a]=>exact⟨fun _ h=>h,by simp,rfl,fun e he p hp=>by
    rw[rN_,List.mem_singleton] at he
    subst he
    rw[List.mem_singleton.1 hp]
    exact .inr ⟨aIV a a,by simp only;omega⟩,fun e he c hc=>by
    rw[rN_,List.mem_singleton] at he
    subst he
    exact .inl (List.mem_singleton.1 hc)⟩
  | _::_::_=>rw[hs] at h;simp at h
theorem eK_ {l:List Pl} (hv:∀p∈l,vP p=true) {q:Pl} (hq:q∈aS_ l):q∈l:=((jI_ hv).2 q).1 ((kB_ hv).sub q hq)
theorem zZ_:∀(h l:List Pl),h.Nodup→(∀q∈h,q∈l)→h.length≤l.length
 | [],_,_,_=>Nat.zero_le _
 | x::h,l,hn,hs=>by
  obtain⟨h1,h2⟩:=List.nodup_cons.1 hn
  have:=zZ_ h (l.erase x) h2 fun q hq=>(List.mem_erase_of_ne (fun e=>h1 (by rw[←e];exact hq))).2 (hs q (List.mem_cons_of_mem _ hq))
  have hl:=List.length_erase_of_mem (hs x (by simp))
  have hp:=List.length_pos_of_mem (hs x (by simp))
  simp only[List.length_cons]
  omega
theorem nI_ {l:List Pl} (hv:∀p∈l,vP p=true):(aS_ l).length≤l.length:=zZ_ _ _ (kB_ hv).nodup fun _ hq=>eK_ hv hq
theorem aQC {l:List Pl} (hv:∀p∈l,vP p=true) (h:l≠[]):aS_ l≠[]:=by
 intro e
 have hh:=(kB_ hv).head
 rw[e] at hh
 cases l with
 | nil=>exact h rfl
 | cons x l=>
  have:x∈sP (x::l):=((jI_ hv).2 x).2 (by simp)
  cases hs:sP (x::l) with
  | nil=>rw[hs] at this;cases this
  | cons y t=>rw[hs] at hh;cases hh
theorem aBY {l h:List Pl} {p:Pl} (hv:∀p∈l,vP p=true) (hh:aS_ l=p::h):(∀q∈l,kp p≤kp q)∧∀q∈h,kp p<kp q:=by
 have H:=kB_ hv
 obtain⟨a1,a2⟩:=jI_ hv
 have hd:=H.head
 rw[hh] at hd
 have k:∀q∈l,kp p≤kp q:=fun q hq=>aLT a1 hd.symm q ((a2 q).2 hq)
 refine⟨k,fun q hq=>?_⟩
 have hn:=H.nodup
 rw[hh] at hn
 have hql:=eK_ hv (q:=q) (by rw[hh];simp[hq])
 have hpl:=eK_ hv (q:=p) (by rw[hh];simp)
 have:=k q hql
 rcases Int.lt_or_eq_of_le this with h|h
 ·exact h
 ·exact absurd hq (by rw[←vR_ (hv p hpl) (hv q hql) h];exact(List.nodup_cons.1 hn).1)
theorem qD_ {h:List Pl} {i:Nat} {a b:Pl} (ha:h[i]?=some a) (hb:h[(i+1)%h.length]?=some b):(a,b)∈aM_ h:=by
 have hi:i<h.length:=(List.getElem?_eq_some_iff.1 ha).1
 refine List.mem_of_getElem? (i:=i) ?_
 unfold aM_
 rw[List.getElem?_zip_eq_some]
 refine⟨ha,?_⟩
 simp only
 by_cases hl:i+1<h.length
 ·rw[Nat.mod_eq_of_lt hl] at hb
  rw[List.getElem?_append_left (by rw[List.length_drop];omega),List.getElem?_drop,Nat.add_comm]
  exact hb
 ·have e:i+1=h.length:=by omega
  rw[e,Nat.mod_self] at hb
  rw[List.getElem?_append_right (by rw[List.length_drop];omega),List.length_drop,show i-(h.length-1)=0 by omega]
  cases h with
  | nil=>simp at hi
  | cons x t=>exact hb
def fU_ (a n p:Pl):Pl:=if n=a∨aA_ a n p<0∨(aA_ a n p=0∧sqP a n<sqP a p) then p else n
def OnL (a b p:Pl):Prop:=vP p=true∧(0<aA_ a b p∨(aA_ a b p=0∧min (kp a) (kp b)≤kp p∧kp p≤max (kp a) (kp b)))
theorem aDP (a b c:Pl):aA_ a c b = - aA_ a b c:=by
 unfold aA_
 grind
theorem aFJ {dx dy s u:Int} (h:dx*s=dy*u) (hs:s*s<dy*dy):u*u+s*s<dx*dx+dy*dy:=by
 have h0:(0:Int)≤dx*dx:=by rcases Int.le_total 0 dx with h|h;exact Int.mul_nonneg h h;exact Int.mul_nonneg_of_nonpos_of_nonpos h h
 have h1:(0:Int)≤s*s:=by rcases Int.le_total 0 s with h|h;exact Int.mul_nonneg h h;exact Int.mul_nonneg_of_nonpos_of_nonpos h h
 have e1:(u*u+s*s)*(dy*dy)=(dx*dx+dy*dy)*(s*s):=by
  have:(dx*s)*(dx*s)=(dy*u)*(dy*u):=by rw[h]
  grind
 refine Int.lt_of_mul_lt_mul_right (a:=dy*dy) ?_ (by omega)
 rw[e1]
 exact Int.mul_lt_mul_of_pos_left hs (by omega)
theorem sq_lt {s d:Int} (h1:0≤s) (h2:s<d):s*s<d*d:=by
 have:=Int.mul_lt_mul_of_pos_left h2 (show 0<d by omega)
 have h3:=Int.mul_le_mul_of_nonneg_right (show s≤d by omega) h1
 omega
theorem kW_ (s:Int):(-s)*(-s)=s*s:=by grind
theorem aMO {s d:Int} (h:(0≤s∧s<d)∨(s≤0∧d<s)):s*s<d*d:=by
 rcases h with ⟨a,b⟩|⟨a,b⟩
 ·exact sq_lt a b
 ·have:=sq_lt (s:=-s) (d:=-d) (by omega) (by omega)
  rwa[kW_,kW_] at this
theorem aFI {a b p:Pl} (ha:vP a=true) (hb:vP b=true) (hab:a≠b) (h:OnL a b p) (h0:aA_ a b p=0) (hp:p≠b):sqP a p<sqP a b:=by
 obtain⟨vp,h|⟨_,h1,h2⟩⟩:=h
 ·omega
 have va:=aT_.1 ha
 have vb:=aT_.1 hb
 have vp:=aT_.1 vp
 unfold aA_ at h0
 unfold kp at h1 h2
 unfold sqP
 have hne:¬(a.x=b.x∧a.y=b.y):=fun h=>hab (by cases a;cases b;simp_all)
 have hne2:¬(p.x=b.x∧p.y=b.y):=fun h=>hp (by cases p;cases b;simp_all)
 have hc:(b.x-a.x)*(p.y-a.y)=(b.y-a.y)*(p.x-a.x):=by omega
 have key:(p.x-a.x)*(p.x-a.x)+(p.y-a.y)*(p.y-a.y)<(b.x-a.x)*(b.x-a.x)+(b.y-a.y)*(b.y-a.y):=by
  by_cases hy:b.y=a.y
  ·have hs:p.y=a.y:=by
    rw[show b.y-a.y=0 by omega,Int.zero_mul] at hc
    rcases Int.mul_eq_zero.1 hc with h|h <;> omega
   rw[show p.y-a.y=0 by omega,show b.y-a.y=0 by omega]
   have:=aMO (s:=p.x-a.x) (d:=b.x-a.x) (by omega)
   omega
  ·have hs:p.y≠b.y:=by
    intro he
    rw[he,Int.mul_comm] at hc
    have:=Int.eq_of_mul_eq_mul_left (show b.y-a.y≠0 by omega) hc
    omega
   exact aFJ hc (aMO (by omega))
 have e1:(a.x-p.x)*(a.x-p.x)=(p.x-a.x)*(p.x-a.x):=by grind
 have e2:(a.y-p.y)*(a.y-p.y)=(p.y-a.y)*(p.y-a.y):=by grind
 have e3:(a.x-b.x)*(a.x-b.x)=(b.x-a.x)*(b.x-a.x):=by grind
 have e4:(a.y-b.y)*(a.y-b.y)=(b.y-a.y)*(b.y-a.y):=by grind
 omega
theorem aFG {a b:Pl} (ha:vP a=true) (hb:vP b=true) (hab:a≠b):∀(l:List Pl) (n:Pl),(∀p∈l,OnL a b p)→(n=a∨OnL a b n)→(n=b∨b∈l)→l.foldl (fU_ a) n=b
 | [],n,_,_,h=>by
  rcases h with h|h
  ·exact h
  ·cases h
 | p::l,n,hl,hn,h=>by
  have hp:=hl p (List.mem_cons_self ..)
  show l.foldl (fU_ a) (fU_ a n p)=b
  refine aFG ha hb hab l _ (fun q hq=>hl q (List.mem_cons_of_mem _ hq)) ?_ ?_
  ·unfold fU_
   split
   ·exact .inr hp
   ·exact hn
  ·by_cases hnb:n=b
   ·left
    subst hnb
    unfold fU_
    by_cases hpn:p=n
    ·rw[hpn,ite_self]
    ·rw[if_neg]
     rintro(h1|h1|⟨h1,h2⟩)
     ·exact hab h1.symm
     ·rcases hp.2 with h3|⟨h3,_⟩ <;> omega
     ·have:=aFI ha hb hab hp h1 hpn
      omega
   ·rcases h with h|h
    ·exact absurd h hnb
    ·rcases List.mem_cons.1 h with h|h
     ·left
      subst h
      unfold fU_
      rw[if_pos]
      by_cases hna:n=a
      ·exact .inl hna
      ·right
       have hno:OnL a b n:=hn.resolve_left hna
       rw[aDP a b n]
       rcases hno.2 with h3|⟨h3,_⟩
       ·left;omega
       ·right
        exact⟨by omega,aFI ha hb hab hno h3 hnb⟩
     ·exact .inr h
theorem aFH {l:List Pl} (hv:∀p∈l,vP p=true) {a b:Pl} (he:(a,b)∈aM_ (aS_ l)) (ha:a∈aS_ l) (hb:b∈aS_ l):l.foldl (fU_ a) a=b:=by
 have hin:∀p∈l,OnL a b p:=fun p hp=>⟨hv p hp,(kB_ hv).edge (a,b) he p (((jI_ hv).2 p).2 hp)⟩
 by_cases hab:a=b
 ·subst hab
  have hall:∀p∈l,p=a:=fun p hp=>by
   have h:=hin p hp
   have ht:aA_ a a p=0:=by unfold aA_;grind
   rcases h.2 with h|⟨_,h1,h2⟩
   ·omega
   ·exact vR_ h.1 (hv a (eK_ hv ha)) (by omega)
  have:∀(m:List Pl),(∀p∈m,p=a)→m.foldl (fU_ a) a=a:=fun m=>by
   induction m with
   | nil=>exact fun _=>rfl
   | cons p m ih=>
    intro h
    rw[List.foldl_cons,h p (List.mem_cons_self ..),show fU_ a a a=a by unfold fU_;rw[ite_self]]
    exact ih fun q hq=>h q (List.mem_cons_of_mem _ hq)
  exact this l hall
 ·exact aFG (hv a (eK_ hv ha)) (hv b (eK_ hv hb)) hab l a hin (.inl rfl) (.inr (eK_ hv hb))
def hU_ (f p:Pl):Pl:=if p.y<f.y∨(p.y=f.y∧p.x<f.x) then p else f
theorem aKE {f p:Pl} (hf:vP f=true) (hp:vP p=true):hU_ f p=if kp p<kp f then p else f:=by
 have vf:=aT_.1 hf
 have vp:=aT_.1 hp
 unfold hU_ kp
 by_cases h:p.y<f.y∨(p.y=f.y∧p.x<f.x)
 ·rw[if_pos h,if_pos (by omega)]
 ·rw[if_neg h,if_neg (by omega)]
theorem tF_:∀(l:List Pl) (f m:Pl),vP f=true→(∀p∈l,vP p=true)→vP m=true→kp m≤kp f→(∀p∈l,kp m≤kp p)→(f=m∨m∈l)→l.foldl hU_ f=m
 | [],f,m,_,_,_,_,_,h=>by
  rcases h with h|h
  ·exact h
  ·cases h
 | p::l,f,m,hf,hl,hm,h1,h2,h=>by
  have hp:=hl p (List.mem_cons_self ..)
  have hmp:=h2 p (List.mem_cons_self ..)
  rw[List.foldl_cons,aKE hf hp]
  have hl':∀q∈l,vP q=true:=fun q hq=>hl q (List.mem_cons_of_mem _ hq)
  have h2':∀q∈l,kp m≤kp q:=fun q hq=>h2 q (List.mem_cons_of_mem _ hq)
  by_cases hk:kp p<kp f
  ·rw[if_pos hk]
   refine tF_ l p m hp hl' hm hmp h2' ?_
   rcases h with h|h
   ·subst h;omega
   ·rcases List.mem_cons.1 h with h|h
    ·exact .inl h.symm
    ·exact .inr h
  ·rw[if_neg hk]
   refine tF_ l f m hf hl' hm h1 h2' ?_
   rcases h with h|h
   ·exact .inl h
   ·rcases List.mem_cons.1 h with h|h
    ·subst h
     exact .inl (vR_ hf hm (by omega))
    ·exact .inr h
theorem aBV {p0:Pl} {l h:List Pl} {f:Pl} (hv:∀p∈p0::l,vP p=true) (hh:aS_ (p0::l)=f::h):l.foldl hU_ p0=f:=by
 have h1:=(aBY hv hh).1
 have hf:f∈p0::l:=eK_ hv (by rw[hh];exact List.mem_cons_self ..)
 refine tF_ l p0 f (hv p0 (List.mem_cons_self ..)) (fun p hp=>hv p (List.mem_cons_of_mem _ hp)) (hv f hf) (h1 p0 (List.mem_cons_self ..)) (fun p hp=>h1 p (List.mem_cons_of_mem _ hp)) ?_
 rcases List.mem_cons.1 hf with h|h
 ·exact .inl h.symm
 ·exact .inr h
def phi (u v:Rat):Rat:=if 0≤u then (if 0≤v then (u+v)/2 else u*u/(2*(u-v))) else (if 0≤v then v*v/(2*(v-u)) else 0)
theorem vY_ {a b c:Rat} (hb:0<b) (h:a≤c*b):a/b≤c:=by
 rw[←Rat.not_lt,Rat.lt_div_iff hb,Rat.not_lt];exact h
theorem vP_ {a b c:Rat} (hb:0<b) (h:c*b≤a):c≤a/b:=by
 rw[←Rat.not_lt,Rat.div_lt_iff hb,Rat.not_lt];exact h
theorem gU_ {a b c d:Rat} (hb:0<b) (hd:0<d) (h:a*d≤c*b):a/b≤c/d:=by
 refine vY_ hb ?_
 have e:c/d*b=(c*b)/d:=by grind
 rw[e]
 exact vP_ hd h
theorem zQ_ (u v:Rat):phi u v=phi v u:=by
 unfold phi
 split <;> split <;> first|rfl|grind
theorem aJV {u u':Rat} (v:Rat) (h:u≤u'):phi u v≤phi u' v:=by
 unfold phi
 by_cases hv:0≤v
 ·simp only[hv,if_true]
  by_cases hu:0≤u
  ·have hu':0≤u':=by grind
   rw[if_pos hu,if_pos hu']
   grind
  ·rw[if_neg hu]
   by_cases hu':0≤u'
   ·rw[if_pos hu']
    refine vY_ (by grind) ?_
    have:=Rat.mul_nonneg hv (show 0≤-u by grind)
    have:=Rat.mul_nonneg hu' (show 0≤v-u by grind)
    grind
   ·rw[if_neg hu']
    refine gU_ (by grind) (by grind) ?_
    have:=Rat.mul_nonneg (Rat.mul_nonneg hv hv) (show 0≤u'-u by grind)
    grind
 ·simp only[hv,if_false]
  by_cases hu':0≤u'
  ·rw[if_pos hu']
   by_cases hu:0≤u
   ·rw[if_pos hu]
    refine gU_ (by grind) (by grind) ?_
    have p1:=Rat.mul_nonneg (Rat.mul_nonneg hu hu') (show 0≤u'-u by grind)
    have p2:=Rat.mul_nonneg (Rat.mul_nonneg (show 0≤u'-u by grind) (show 0≤u'+u by grind)) (show 0≤-v by grind)
    grind
   ·rw[if_neg hu]
    refine vP_ (by grind) ?_
    have:=Rat.mul_nonneg hu' hu'
    grind
  ·have hu:¬0≤u:=by grind
   rw[if_neg hu,if_neg hu']
   exact Rat.le_refl
theorem xO_ (u v:Rat):phi u v=(u+v)/2+phi (-u) (-v):=by
 unfold phi
 by_cases hu:0≤u <;> by_cases hv:0≤v <;> by_cases hu':0≤-u <;> by_cases hv':0≤-v <;> simp only[hu,hv,hu',hv',if_true,if_false] <;> grind
theorem hQ_ {u v:Rat} (hu:0≤u) (hv:0≤v):phi u v=(u+v)/2:=by unfold phi;rw[if_pos hu,if_pos hv]
theorem eA_ {u v:Rat} (hu:u≤0) (hv:v≤0):phi u v=0:=by
 rw[xO_,hQ_ (by grind) (by grind)];grind
theorem pL_ {d k x:Rat} (hd:d≠0):d*(x/(2*(k*d)))=x/(2*k):=by
 by_cases hk:k=0
 ·subst hk;grind
 ·grind
theorem nB_ {p q L M R:Rat} (h1:L≤M) (h2:M≤R):(R-L)*phi (p+q*L) (p+q*R)=(M-L)*phi (p+q*L) (p+q*M)+(R-M)*phi (p+q*M) (p+q*R):=by
 by_cases e1:L=M
 ·subst e1;grind
 by_cases e2:M=R
 ·subst e2;grind
 have l1:0<M-L:=by grind
 have l2:0<R-M:=by grind
 have l3:0<R-L:=by grind
 have n1:M-L≠0:=by grind
 have n2:R-M≠0:=by grind
 have n3:R-L≠0:=by grind
 have d1:p+q*L-(p+q*R) = -q*(R-L):=by grind
 have d2:p+q*M-(p+q*R) = -q*(R-M):=by grind
 have d3:p+q*L-(p+q*M) = -q*(M-L):=by grind
 have d4:p+q*R-(p+q*L)=q*(R-L):=by grind
 have d5:p+q*R-(p+q*M)=q*(R-M):=by grind
 have d6:p+q*M-(p+q*L)=q*(M-L):=by grind
 have c1:∀k x:Rat,(R-L)*(x/(2*(k*(R-L))))=x/(2*k):=fun k x=>pL_ n3
 have c2:∀k x:Rat,(R-M)*(x/(2*(k*(R-M))))=x/(2*k):=fun k x=>pL_ n2
 have c3:∀k x:Rat,(M-L)*(x/(2*(k*(M-L))))=x/(2*k):=fun k x=>pL_ n1
 have q1:q*(M-L)=(p+q*M)-(p+q*L):=by grind
 have q2:q*(R-M)=(p+q*R)-(p+q*M):=by grind
 have qm:0<q→0<q*(M-L)∧0<q*(R-M):=fun h=>⟨Rat.mul_pos h l1,Rat.mul_pos h l2⟩
 have qn:q<0→q*(M-L)<0∧q*(R-M)<0:=fun h=>by
  have:=Rat.mul_pos (show 0 < -q by grind) l1
  have:=Rat.mul_pos (show 0 < -q by grind) l2
  grind
 have qz:q=0→p+q*L=p∧p+q*M=p∧p+q*R=p:=fun h=>by subst h;grind
 unfold phi
 by_cases hu:0≤p+q*L <;> by_cases hw:0≤p+q*M <;> by_cases hv:0≤p+q*R <;> simp only[hu,hw,hv,if_true,if_false]
 ·grind
 ·have hq:q≠0:=by grind
  rw[d1,d2,c1,c2]
  grind
 ·exfalso
  rcases Rat.le_total (a:=q) (b:=0) with k|k <;> by_cases h0:q=0 <;> grind
 ·have hq:q≠0:=by grind
  rw[d1,d3,c1,c3]
  grind
 ·have hq:q≠0:=by grind
  rw[d4,d6,c1,c3]
  grind
 ·exfalso
  rcases Rat.le_total (a:=q) (b:=0) with k|k <;> by_cases h0:q=0 <;> grind
 ·have hq:q≠0:=by grind
  rw[d4,d5,c1,c2]
  grind
 ·grind
def psi (H u v:Rat):Rat:=phi u v-phi (u-H) (v-H)
theorem iQ_ (H u v:Rat):psi H u v=psi H v u:=by unfold psi;rw[zQ_,zQ_ (u-H)]
theorem kR_ (H u v:Rat):psi H u v=H-psi H (H-u) (H-v):=by
 unfold psi
 have h1:=xO_ u v
 have h2:=xO_ (u-H) (v-H)
 have e1:H-u-H = -u:=by grind
 have e2:H-v-H = -v:=by grind
 have e3 : -(u-H)=H-u:=by grind
 have e4 : -(v-H)=H-v:=by grind
 rw[e3,e4] at h2
 rw[e1,e2]
 grind
theorem aEP {H u u' v:Rat} (hv:v≤H) (h:u≤u') (hu:u'≤H):psi H u v≤psi H u' v:=by
 unfold psi
 rw[eA_ (u:=u-H) (v:=v-H) (by grind) (by grind),eA_ (u:=u'-H) (v:=v-H) (by grind) (by grind)]
 have:=aJV v h
 grind
theorem zH_ {H u u' v:Rat} (hv:0≤v) (h:u≤u') (hu:0≤u):psi H u v≤psi H u' v:=by
 have:=aEP (H:=H) (u:=H-u') (u':=H-u) (v:=H-v) (by grind) (by grind) (by grind)
 rw[kR_ H u v,kR_ H u' v]
 grind
theorem aEO {H u v:Rat} (hH:0≤H) (hv:v≤0) (hu:H≤u) (hne:v<u):psi H u v=H*(2*u-H)/(2*(u-v)):=by
 unfold psi phi
 by_cases v0:v=0
 ·subst v0
  rw[if_pos (by grind),if_pos (by grind),if_pos (by grind)]
  by_cases h0:H=0
  ·rw[if_pos (by grind)];grind
  ·rw[if_neg (by grind)];grind
 ·rw[if_pos (by grind),if_neg (by grind),if_pos (by grind),if_neg (by grind)]
  have e:u-H-(v-H)=u-v:=by grind
  rw[e]
  grind
theorem aOR {H u u' v:Rat} (hH:0≤H) (hv:v≤0) (hu:H≤u) (h:u≤u'):psi H u v≤psi H u' v:=by
 by_cases hne:v<u
 ·rw[aEO hH hv hu hne,aEO hH hv (by grind) (by grind)]
  refine gU_ (by grind) (by grind) ?_
  have p1:=Rat.mul_nonneg (Rat.mul_nonneg hH (show 0≤u'-u by grind)) (show 0≤H-2*v by grind)
  grind
 ·have hu0:u=0:=by grind
  have hv0:v=0:=by grind
  have h0:H=0:=by grind
  subst hu0 hv0 h0
  unfold psi
  have e1:(0:Rat)-0=0:=by grind
  have e2:u'-0=u':=by grind
  rw[e1,e2]
  grind
theorem aMT {H u u' v:Rat} (hH:0≤H) (hv:H≤v) (hu:u'≤0) (h:u≤u'):psi H u v≤psi H u' v:=by
 have:=aOR (H:=H) (u:=H-u') (u':=H-u) (v:=H-v) hH (by grind) (by grind) (by grind)
 rw[kR_ H u v,kR_ H u' v]
 grind
theorem uZ_ {H u u':Rat} (v:Rat) (hH:0≤H) (h:u≤u'):psi H u v≤psi H u' v:=by
 by_cases v0:v≤0
 ·by_cases h1:u'≤H
  ·exact aEP (by grind) h h1
  ·by_cases h2:H≤u
   ·exact aOR hH v0 h2 h
   ·exact Rat.le_trans (aEP (by grind) (by grind) Rat.le_refl) (aOR hH v0 Rat.le_refl (by grind))
 ·by_cases v1:H≤v
  ·by_cases h1:0≤u
   ·exact zH_ (by grind) h h1
   ·by_cases h2:u'≤0
    ·exact aMT hH v1 h2 h
    ·exact Rat.le_trans (aMT hH v1 Rat.le_refl (by grind)) (zH_ (by grind) (by grind) Rat.le_refl)
  ·by_cases h1:0≤u
   ·exact zH_ (by grind) h h1
   ·by_cases h2:u'≤H
    ·exact aEP (by grind) h h2
    ·exact Rat.le_trans (aEP (u':=H) (by grind) (by grind) Rat.le_refl) (zH_ (by grind) (by grind) hH)
theorem aJM {H u u' v v':Rat} (hH:0≤H) (h:u≤u') (k:v≤v'):psi H u v≤psi H u' v':=by
 refine Rat.le_trans (uZ_ v hH h) ?_
 rw[iQ_,iQ_ H u' v']
 exact uZ_ u' hH k
theorem qV_ {H:Rat} (u v:Rat) (hH:0≤H):0≤psi H u v:=by
 have h1:psi H (-(if 0≤u then u else -u)) (-(if 0≤v then v else -v))=0:=by
  unfold psi
  rw[eA_ (by grind) (by grind),eA_ (by grind) (by grind)]
  grind
 rw[←h1]
 exact aJM hH (by grind) (by grind)
theorem psi_le {H:Rat} (u v:Rat) (hH:0≤H):psi H u v≤H:=by
 rw[kR_]
 have:=qV_ (H-u) (H-v) hH
 grind
theorem psi_in {H u v:Rat} (hu:0≤u) (hv:0≤v) (hu':u≤H) (hv':v≤H):psi H u v=(u+v)/2:=by
 unfold psi
 rw[hQ_ hu hv,eA_ (by grind) (by grind)]
 grind
def arS (H p q L R:Rat):Rat:=(R-L)*psi H (p+q*L) (p+q*R)
theorem cC_ (H p q L R:Rat):arS H p q R L = -arS H p q L R:=by
 unfold arS
 rw[iQ_]
 grind
theorem iH_ {H p q L M R:Rat} (h1:L≤M) (h2:M≤R):arS H p q L R=arS H p q L M+arS H p q M R:=by
 unfold arS psi
 have e1:=nB_ (p:=p) (q:=q) h1 h2
 have e2:=nB_ (p:=p-H) (q:=q) h1 h2
 have f:∀x,p-H+q*x=p+q*x-H:=fun x=>by grind
 rw[f,f,f] at e2
 grind
theorem aIH (H p q L M R:Rat):arS H p q L R=arS H p q L M+arS H p q M R:=by
 rcases Rat.le_total (a:=L) (b:=M) with a|a <;> rcases Rat.le_total (a:=M) (b:=R) with b|b <;> rcases Rat.le_total (a:=L) (b:=R) with c|c
 ·exact iH_ a b
 ·have:=iH_ (H:=H) (p:=p) (q:=q) a b;exact this
 ·have:=iH_ (H:=H) (p:=p) (q:=q) c b
  rw[cC_ H p q R M]
  grind
 ·have:=iH_ (H:=H) (p:=p) (q:=q) c a
  rw[cC_ H p q R M,cC_ H p q R L]
  have x:=cC_ H p q R M
  grind
 ·have:=iH_ (H:=H) (p:=p) (q:=q) a c
  rw[cC_ H p q M L]
  grind
 ·have:=iH_ (H:=H) (p:=p) (q:=q) b c
  rw[cC_ H p q M L,cC_ H p q R L]
  grind
 ·have:=iH_ (H:=H) (p:=p) (q:=q) b a
  have x1:=cC_ H p q R L
  have x2:=cC_ H p q R M
  have x3:=cC_ H p q M L
  grind
 ·have:=iH_ (H:=H) (p:=p) (q:=q) b a
  have x1:=cC_ H p q R L
  have x2:=cC_ H p q R M
  have x3:=cC_ H p q M L
  grind
theorem eE_ (H p q L:Rat):arS H p q L L=0:=by unfold arS;grind
def slQ (a b:Pl):Rat:=((b.y:Rat)-a.y)/((b.x:Rat)-a.x)
def icQ (a b:Pl) (Y:Int):Rat:=(a.y:Rat)-Y-slQ a b*a.x
theorem aMY (a b:Pl) (Y:Int):icQ a b Y+slQ a b*a.x=(a.y:Rat)-Y:=by unfold icQ;grind
theorem yG_ {a b:Int} (h:a≠b):(b:Rat)-a≠0:=fun e=>h (by
 have:(b:Rat)=a:=by grind
 exact(Rat.intCast_inj.1 this).symm)
theorem aMX {a b:Pl} (Y:Int) (h:a.x≠b.x):icQ a b Y+slQ a b*b.x=(b.y:Rat)-Y:=by
 have:=yG_ h
 unfold icQ slQ
 grind
def clI (X W x:Int):Int:=max X (min x (X+W))
def covK (r:Rc) (a b:Pl):Rat:=arS r.h (icQ a b r.y) (slQ a b) (clI r.x r.w b.x) (clI r.x r.w a.x)
theorem aMP (a b:Pl):slQ b a=slQ a b:=by
 unfold slQ
 by_cases h:(b.x:Rat)-a.x=0
 ·have:(a.x:Rat)-b.x=0:=by grind
  rw[h,this];grind
 ·have:(a.x:Rat)-b.x≠0:=by grind
  grind
theorem aHO (r:Rc) (a b:Pl):covK r b a = -covK r a b:=by
 unfold covK
 by_cases h:a.x=b.x
 ·rw[h,eE_,eE_];grind
 ·rw[cC_,aMP]
  have e:icQ b a r.y=icQ a b r.y:=by
   have h1:=aMX r.y h
   have h2:=aMY b a r.y
   rw[aMP] at h2
   grind
  rw[e]
theorem bB_ {a b:Int} (h:a≤b):(a:Rat)≤b:=Rat.intCast_le_intCast.2 h
def sumE (f:Pl→Pl→Rat):List (Pl×Pl)→Rat
 | []=>0
 | e::l=>f e.1 e.2+sumE f l
def rR_ (l:List Pl) (r:Rc):Rat:=sumE (covK r) (aM_ l)
theorem hB_ {P Q c d k:Int} (h1:d≤k) (h2:k≤c) (h:d<c) (hc:0≤P+Q*c) (hd:0≤P+Q*d):0≤P+Q*k:=by
 have e:(c-d)*(P+Q*k)=(c-k)*(P+Q*d)+(k-d)*(P+Q*c):=by grind
 have m1:=Int.mul_nonneg (show 0≤c-k by omega) hd
 have m2:=Int.mul_nonneg (show 0≤k-d by omega) hc
 exact Int.le_of_mul_le_mul_left (a:=c-d) (by omega) (by omega)
theorem aDQ {a b c d:Pl} {k:Int} (b1:b.x≤k) (b2:k+1≤a.x) (b3:d.x≤k) (b4:k+1≤c.x) (t1:0≤aA_ a b c) (t2:0≤aA_ a b d) (t3:0≤aA_ c d a) (t4:0≤aA_ c d b) :
  aA_ a b c=0∧aA_ a b d=0:=by
 obtain⟨Q,hQ⟩:∃Q,Q=(a.x-b.x)*(d.y-c.y)-(c.x-d.x)*(b.y-a.y):=⟨_,rfl⟩
 obtain⟨P,hP⟩:∃P,P=(c.x-d.x)*((a.x-b.x)*a.y+(b.y-a.y)*a.x)-(a.x-b.x)*((c.x-d.x)*c.y+(d.y-c.y)*c.x):=⟨_,rfl⟩
 have f1:P+Q*c.x=(c.x-d.x)*aA_ a b c:=by unfold aA_;grind
 have f2:P+Q*d.x=(c.x-d.x)*aA_ a b d:=by unfold aA_;grind
 have f3:P+Q*a.x = -((a.x-b.x)*aA_ c d a):=by unfold aA_;grind
 have f4:P+Q*b.x = -((a.x-b.x)*aA_ c d b):=by unfold aA_;grind
 have m1:=Int.mul_nonneg (show 0≤c.x-d.x by omega) t1
 have m2:=Int.mul_nonneg (show 0≤c.x-d.x by omega) t2
 have m3:=Int.mul_nonneg (show 0≤a.x-b.x by omega) t3
 have m4:=Int.mul_nonneg (show 0≤a.x-b.x by omega) t4
 have g1:=hB_ (P:=P) (Q:=Q) b3 (by omega:k≤c.x) (by omega) (by omega) (by omega)
 have g2:=hB_ (P:=P) (Q:=Q) (by omega:d.x≤k+1) b4 (by omega) (by omega) (by omega)
 have n:∀x,-P + -Q*x = -(P+Q*x):=fun x=>by grind
 have g3:=hB_ (P:=-P) (Q:=-Q) b1 (by omega:k≤a.x) (by omega) (by rw[n];omega) (by rw[n];omega)
 have g4:=hB_ (P:=-P) (Q:=-Q) (by omega:b.x≤k+1) b2 (by omega) (by rw[n];omega) (by rw[n];omega)
 rw[n] at g3 g4
 rw[Int.mul_add,Int.mul_one] at g2 g4
 have q0:Q=0:=by omega
 subst q0
 rw[Int.zero_mul,Int.add_zero] at f1 f2 g1 g3
 have p0:P=0:=by omega
 rw[p0] at f1 f2
 constructor
 ·rcases Int.mul_eq_zero.1 f1.symm with h|h
  ·omega
  ·exact h
 ·rcases Int.mul_eq_zero.1 f2.symm with h|h
  ·omega
  ·exact h
def bdR (A P:Nat) (q:Rat):Prop:=q.num.natAbs≤A∧q.den≤P
theorem bdR.mono {A P A' P':Nat} {q:Rat} (h:bdR A P q) (h1:A≤A') (h2:P≤P'):bdR A' P' q:=⟨Nat.le_trans h.1 h1,Nat.le_trans h.2 h2⟩
theorem gG_ {n d:Int} {A P:Nat} (hd:d≠0) (h1:n.natAbs≤A) (h2:d.natAbs≤P):bdR A P (Rat.divInt n d):=by
 rcases Int.lt_or_gt_of_ne hd with h|h
 ·have e1:=tB_ (p:=n) h
  have e2:=tT_ (p:=n) h
  constructor
  ·rw[e1]
   refine Nat.le_trans (Int.natAbs_ediv_le_natAbs _ _) ?_
   rw[Int.natAbs_neg]
   exact h1
  ·have:=Int.natAbs_ediv_le_natAbs (-d) ((Nat.gcd (-n).natAbs (-d).natAbs:Nat):Int)
   rw[←e2,Int.natAbs_neg] at this
   simp at this
   omega
 ·have e1:=lM_ (p:=n) h
  have e2:=den_pos (p:=n) h
  constructor
  ·rw[e1]
   exact Nat.le_trans (Int.natAbs_ediv_le_natAbs _ _) h1
  ·have:=Int.natAbs_ediv_le_natAbs d ((Nat.gcd n.natAbs d.natAbs:Nat):Int)
   rw[←e2] at this
   simp at this
   omega
theorem aRC {n:Int} {d:Nat} {A P:Nat} (hd:0<d) (h1:n.natAbs≤A) (h2:d≤P):bdR A P ((n:Rat)/(d:Int)):=by
 rw[←Rat.divInt_eq_div]
 exact gG_ (by omega) h1 (by omega)
theorem gF_ {n:Int} {A:Nat} (h:n.natAbs≤A):bdR A 1 (n:Rat):=⟨h,Nat.le_refl _⟩
theorem cE_ {z:Int} {k:Nat} (h:z.natAbs≤k) (hk:k<10^200):small z=true:=by
 rw[xD_]
 exact decide_eq_true (by omega)
theorem eB_ {a b:Int} {A B:Nat} (ha:a.natAbs≤A) (hb:b.natAbs≤B):(a*b).natAbs≤A*B:=by
 rw[Int.natAbs_mul]
 exact Nat.mul_le_mul ha hb
theorem qA_ {a b:Rat} {A P B Q:Nat} (ha:bdR A P a) (hb:bdR B Q b) (h1:A*Q+B*P<10^200) (h2:P*Q<10^200):addR a b=some (a+b)∧bdR (A*Q+B*P) (P*Q) (a+b):=by
 have m1:=eB_ ha.1 (show((b.den:Int)).natAbs≤Q by simpa using hb.2)
 have m2:=eB_ hb.1 (show((a.den:Int)).natAbs≤P by simpa using ha.2)
 have m3:((a.den:Int)*b.den).natAbs≤P*Q:=eB_ (by simpa using ha.2) (by simpa using hb.2)
 have m4:(a.num*b.den+b.num*a.den).natAbs≤A*Q+B*P:=Nat.le_trans (Int.natAbs_add_le _ _) (Nat.add_le_add m1 m2)
 refine⟨?_,?_⟩
 ·unfold addR
  exact if_pos ⟨cE_ m1 (by omega),cE_ m2 (by omega),cE_ m4 h1,cE_ m3 h2⟩
 ·rw[aNL]
  exact gG_ (eQ_ a b) m4 m3
theorem mC_ {a b:Rat} {A P B Q:Nat} (ha:bdR A P a) (hb:bdR B Q b) (h1:A*Q+B*P<10^200) (h2:P*Q<10^200):subR a b=some (a-b)∧bdR (A*Q+B*P) (P*Q) (a-b):=by
 have m1:=eB_ ha.1 (show((b.den:Int)).natAbs≤Q by simpa using hb.2)
 have m2:=eB_ hb.1 (show((a.den:Int)).natAbs≤P by simpa using ha.2)
 have m3:((a.den:Int)*b.den).natAbs≤P*Q:=eB_ (by simpa using ha.2) (by simpa using hb.2)
 have m4:(a.num*b.den-b.num*a.den).natAbs≤A*Q+B*P:=Nat.le_trans (Int.natAbs_sub_le _ _) (Nat.add_le_add m1 m2)
 refine⟨?_,?_⟩
 ·unfold subR
  exact if_pos ⟨cE_ m1 (by omega),cE_ m2 (by omega),cE_ m4 h1,cE_ m3 h2⟩
 ·rw[aMM]
  exact gG_ (eQ_ a b) m4 m3
theorem vK_ {a b:Rat} {A P B Q:Nat} (ha:bdR A P a) (hb:bdR B Q b) (h1:A*B<10^200) (h2:P*Q<10^200):mulR a b=some (a*b)∧bdR (A*B) (P*Q) (a*b):=by
 have m1:=eB_ ha.1 hb.1
 have m3:((a.den:Int)*b.den).natAbs≤P*Q:=eB_ (by simpa using ha.2) (by simpa using hb.2)
 refine⟨?_,?_⟩
 ·unfold mulR
  exact if_pos ⟨cE_ m1 h1,cE_ m3 h2⟩
 ·rw[aMW]
  exact gG_ (eQ_ a b) m1 m3
theorem vX_ {a b:Rat} {A P B Q:Nat} (ha:bdR A P a) (hb:bdR B Q b) (h0:b≠0) (h1:A*Q<10^200) (h2:P*B<10^200):divR a b=some (a/b)∧bdR (A*Q) (P*B) (a/b):=by
 have hn:b.num≠0:=fun e=>h0 (Rat.num_eq_zero.1 e)
 have m1:=eB_ ha.1 (show((b.den:Int)).natAbs≤Q by simpa using hb.2)
 have m3:((a.den:Int)*b.num).natAbs≤P*B:=eB_ (by simpa using ha.2) hb.1
 refine⟨?_,?_⟩
 ·unfold divR
  exact if_pos ⟨cE_ m1 h1,cE_ m3 h2,hn⟩
 ·rw[aNA]
  exact gG_ (fun e=>by
   rcases Int.mul_eq_zero.1 e with e|e
   ·have:=cJ_ a;omega
   ·exact hn e) m1 m3
theorem bJ_ (n:Int):whO n=some (n:Rat):=by
 unfold whO aO_
 rw[if_neg (by decide),Rat.divInt_eq_div]
 have:((1:Int):Rat)=1:=rfl
 rw[this]
 congr 1
 grind
theorem oX_ (a b:Rat):leO (some a) (some b)=decide (a<b):=by
 unfold leO gX_
 refine decide_eq_decide.2 ?_
 rcases jA_ a b with ⟨h,e⟩|⟨h,e⟩|⟨h,e⟩
 ·simp[e,h]
 ·subst h;simp[e]
 ·have:¬a<b:=by grind
  simp[e,this]
def cpQ (H z:Rat):Rat:=if z<0 then 0 else if H<z then H else z
theorem zG_ {H u v:Rat} (hH:0≤H) (h0:(u≤0∧v≤0)∨(0≤u∧0≤v)) (h1:(u≤H∧v≤H)∨(H≤u∧H≤v)):psi H u v=(cpQ H u+cpQ H v)/2:=by
 unfold psi cpQ
 rcases h0 with ⟨a,b⟩|⟨a,b⟩ <;> rcases h1 with ⟨c,d⟩|⟨c,d⟩
 ·rw[eA_ a b,eA_ (by grind) (by grind)]
  have e1:(if u<0 then (0:Rat) else if H<u then H else u)=0:=by split;rfl;split;grind;grind
  have e2:(if v<0 then (0:Rat) else if H<v then H else v)=0:=by split;rfl;split;grind;grind
  rw[e1,e2];grind
 ·have:u=0:=by grind
  have:v=0:=by grind
  have:H=0:=by grind
  subst_vars
  rw[eA_ (by grind) (by grind),eA_ (by grind) (by grind)]
  simp
  grind
 ·have n1:¬u<0:=by grind
  have n2:¬v<0:=by grind
  have n3:¬H<u:=by grind
  have n4:¬H<v:=by grind
  rw[hQ_ a b,eA_ (by grind) (by grind),if_neg n1,if_neg n2,if_neg n3,if_neg n4]
  grind
 ·have n1:¬u<0:=by grind
  have n2:¬v<0:=by grind
  rw[hQ_ a b,hQ_ (by grind) (by grind),if_neg n1,if_neg n2]
  have e1:(if H<u then H else u)=H:=by split;rfl;grind
  have e2:(if H<v then H else v)=H:=by split;rfl;grind
  rw[e1,e2];grind
section
variable {α β:Type} [Inhabited α] [Inhabited β] (f:α→β) {lt:α→α→Bool} {lt':β→β→Bool} (h:∀a b,lt' (f a) (f b)=lt a b)
include h
omit [Inhabited α] [Inhabited β] in
theorem aAG (x:α):∀r:List α,insR lt' (f x) (r.map f)=(insR lt x r).map f
 | []=>rfl
 | b::r=>by
  have e1:insR lt' (f x) (f b::r.map f)=if lt' (f x) (f b) then f b::insR lt' (f x) (r.map f) else f x::f b::r.map f:=rfl
  have e2:insR lt x (b::r)=if lt x b then b::insR lt x r else x::b::r:=rfl
  rw[List.map_cons,e1,e2,h,aAG x r]
  split
  ·rfl
  ·rfl
omit [Inhabited α] [Inhabited β] in
theorem vU_:∀l r:List α,(l.map f).foldl (fun r x=>insR lt' x r) (r.map f)=(l.foldl (fun r x=>insR lt x r) r).map f
 | [],_=>rfl
 | x::l,r=>by
  show(l.map f).foldl _ (insR lt' (f x) (r.map f))=_
  rw[aAG f h]
  exact vU_ l (insR lt x r)
theorem aEG (l:List α):cD_ lt' (l.map f)=(cD_ lt l).map f:=by
 cases l with
 | nil=>rfl
 | cons a l=>
  rw[List.map_cons,sM_,sM_,List.map_reverse]
  congr 1
  exact vU_ f h l [a]
end
def ltQ (a b:Rat):Bool:=decide (a<b)
theorem sortQ (l:List Rat):(cD_ ltQ l).Pairwise (·≤·)∧(cD_ ltQ l).Perm l:=by
 have:=mF_ (lt:=ltQ) (fun x y h=>by
  have h:=of_decide_eq_true h
  exact decide_eq_false (by grind)) (fun x y z h k=>by
  have h:=of_decide_eq_false h
  have k:=of_decide_eq_false k
  exact decide_eq_false (by grind)) l
 exact⟨this.1.imp fun {a b} h=>by
  have h:=of_decide_eq_false h
  grind,this.2⟩
theorem aLB {p q s t c:Rat} (hst:s≤t) (h:(p+q*s<c∧c<p+q*t)∨(p+q*t<c∧c<p+q*s)):∃x,s<x∧x<t∧p+q*x=c∧q≠0:=by
 have hne:s≠t:=fun e=>by rw[e] at h;grind
 have hst':0<t-s:=by grind
 have hq:q≠0:=fun e=>by rw[e] at h;grind
 have ex:p+q*((c-p)/q)=c:=by grind
 have k1:q*((c-p)/q-s)=c-(p+q*s):=by grind
 have k2:q*(t-(c-p)/q)=p+q*t-c:=by grind
 have k3:q*(t-s)=(p+q*t)-(p+q*s):=by grind
 refine⟨(c-p)/q,?_,?_,ex,hq⟩
 all_goals
  rcases h with ⟨h1,h2⟩|⟨h1,h2⟩
  ·have hq0:0<q:=by
    rcases Rat.le_total (a:=q) (b:=0) with k|k
    ·have:=Rat.mul_nonneg (show 0≤-q by grind) (show 0≤t-s by grind)
     grind
    ·grind
   have m1:0<(c-p)/q-s:=(Rat.mul_pos_iff_of_pos_left hq0).1 (by grind)
   have m2:0<t-(c-p)/q:=(Rat.mul_pos_iff_of_pos_left hq0).1 (by grind)
   grind
  ·have hq0:0 < -q:=by
    rcases Rat.le_total (a:=0) (b:=q) with k|k
    ·have:=Rat.mul_nonneg k (show 0≤t-s by grind)
     grind
    ·grind
   have m1:0<(c-p)/q-s:=(Rat.mul_pos_iff_of_pos_left hq0).1 (by grind)
   have m2:0<t-(c-p)/q:=(Rat.mul_pos_iff_of_pos_left hq0).1 (by grind)
   grind
def stQ (a b:Pl) (y:Int):Rat:=(a.x:Rat)+((y-a.y:Int):Rat)/slQ a b
section
variable {a b:Pl} {r:Rc} (ha:vP a=true) (hb:vP b=true) (hr:vRc r=true) (hab:a.x<b.x)
include ha hb hab
theorem zC_:oD_ a b=some (slQ a b)∧bdR 4095 4095 (slQ a b):=by
 have v1:=aT_.1 ha
 have v2:=aT_.1 hb
 have hx:((b.x-a.x:Int):Rat)≠0:=fun e=>by
  have:=Rat.intCast_eq_zero_iff.1 e
  omega
 have h:=vX_ (a:=((b.y-a.y:Int):Rat)) (b:=((b.x-a.x:Int):Rat)) (gF_ (A:=4095) (by omega)) (gF_ (A:=4095) (by omega)) hx (by decide) (by decide)
 unfold oD_ ovO cH_
 rw[bJ_,bJ_]
 have e:slQ a b=((b.y-a.y:Int):Rat)/((b.x-a.x:Int):Rat):=by unfold slQ;rw[Rat.intCast_sub,Rat.intCast_sub]
 rw[e]
 exact⟨h.1,h.2.mono (by decide) (by decide)⟩
omit ha hb in
theorem aJE (hy:a.y≠b.y):slQ a b≠0:=by
 have h1:=yG_ hy
 have h2:=yG_ (show a.x≠b.x by omega)
 unfold slQ
 intro e
 have:(b.y:Rat)-a.y=0:=by grind
 exact h1 this
theorem aNU {y:Int} (hy:a.y≠b.y) (h0:0≤y) (h1:y≤4095):eG_ a b y=some (stQ a b y)∧bdR (2*4095^2) 4095 (stQ a b y):=by
 have v1:=aT_.1 ha
 obtain⟨s1,s2⟩:=zC_ ha hb hab
 have d:=vX_ (a:=((y-a.y:Int):Rat)) (gF_ (A:=4095) (by omega)) s2 (aJE hab hy) (by decide) (by decide)
 have p:=qA_ (a:=(a.x:Rat)) (gF_ (A:=4095) (by omega)) d.2 (by decide) (by decide)
 unfold eG_ ovO plO
 rw[bJ_,bJ_,s1]
 simp only[cH_,d.1,p.1]
 exact⟨rfl,p.2.mono (by decide) (by decide)⟩
include hr
theorem vT_ {x:Rat} (hx:bdR (2*4095^2) 4095 x):cL_ r (cI_ a b (some x))=some (cpQ r.h (icQ a b r.y+slQ a b*x))∧bdR (5*4095^3) (4095^2) (cpQ r.h (icQ a b r.y+slQ a b*x)):=by
 have v1:=aT_.1 ha
 have v2:=bO_.1 hr
 obtain⟨s1,s2⟩:=zC_ ha hb hab
 have d:=mC_ (b:=(a.x:Rat)) hx (gF_ (A:=4095) (by omega)) (by decide) (by decide)
 have m:=vK_ s2 d.2 (by decide) (by decide)
 have p:=qA_ (a:=(a.y:Rat)) (gF_ (A:=4095) (by omega)) m.2 (by decide) (by decide)
 have z:=mC_ (b:=(r.y:Rat)) p.2 (gF_ (A:=4095) (by omega)) (by decide) (by decide)
 have e:(a.y:Rat)+slQ a b*(x-a.x)-r.y=icQ a b r.y+slQ a b*x:=by unfold icQ;grind
 rw[e] at z
 unfold cL_ cI_
 rw[bJ_,bJ_,bJ_,bJ_,bJ_,s1]
 simp only[plO,tiO,miO,cH_,d.1,m.1,p.1,z.1,oX_]
 unfold cpQ
 have z0:((0:Int):Rat)=0:=rfl
 rw[z0]
 by_cases c1:icQ a b r.y+slQ a b*x<0
 ·rw[if_pos (decide_eq_true c1),if_pos c1]
  exact⟨rfl,by decide,by decide⟩
 ·rw[if_neg (by simpa using c1),if_neg c1]
  by_cases c2:(r.h:Rat)<icQ a b r.y+slQ a b*x
  ·rw[if_pos (decide_eq_true c2),if_pos c2]
   exact⟨rfl,(gF_ (A:=4095) (by omega)).mono (by decide) (by decide)⟩
  ·rw[if_neg (by simpa using c2),if_neg c2]
   exact⟨rfl,z.2.mono (by decide) (by decide)⟩
theorem aOU {s t:Rat} (hs:bdR (2*4095^2) 4095 s) (ht:bdR (2*4095^2) 4095 t) :
  aJW a b r (some s) (some t)=some ((cpQ r.h (icQ a b r.y+slQ a b*s)+cpQ r.h (icQ a b r.y+slQ a b*t))/2*(t-s))∧bdR (10^31) (10^31) ((cpQ r.h (icQ a b r.y+slQ a b*s)+cpQ r.h (icQ a b r.y+slQ a b*t))/2*(t-s)):=by
 obtain⟨h1,h2⟩:=vT_ ha hb hr hab hs
 obtain⟨k1,k2⟩:=vT_ ha hb hr hab ht
 have p:=qA_ h2 k2 (by decide) (by decide)
 have two:((2:Int):Rat)≠0:=by decide
 have d:=vX_ (b:=((2:Int):Rat)) p.2 (gF_ (A:=2) (by decide)) two (by decide) (by decide)
 have m:=mC_ ht hs (by decide) (by decide)
 have u:=vK_ d.2 m.2 (by decide) (by decide)
 unfold aJW
 rw[h1,k1,bJ_]
 simp only[plO,ovO,tiO,miO,cH_,p.1,d.1,m.1,u.1]
 exact⟨rfl,u.2.mono (by decide) (by decide)⟩
theorem aDX (L R:Rat):∀(l:List Rat) (s acc:Rat) (k:Nat),(s::l).Pairwise (·≤·)→(∀x∈s::l,L≤x∧x≤R∧bdR (2*4095^2) 4095 x)→
  (∀x,L<x→x<R→slQ a b≠0→(icQ a b r.y+slQ a b*x=0∨icQ a b r.y+slQ a b*x=r.h)→x≤s∨x∈l)→k+l.length≤4→bdR ((k+1)*(10^31)^k) ((10^31)^k) acc→
  ∃e,(s::l).getLast?=some e∧sumO a b r ((s::l).map some) (some acc)=some (acc+arS r.h (icQ a b r.y) (slQ a b) s e)
 | [],s,acc,_,_,_,_,_,_=>⟨s,rfl,by
   show some acc=_
   rw[eE_]
   congr 1
   grind⟩
 | t::l,s,acc,k,hp,hm,hc,hk,ha'=>by
  have v2:=bO_.1 hr
  have hH:(0:Rat)≤r.h:=bB_ v2.2.2.2.2.2.2.1
  obtain⟨p1,p2⟩:=List.pairwise_cons.1 hp
  have hst:=p1 t (by simp)
  have ms:=hm s (by simp)
  have mt:=hm t (by simp)
  obtain⟨q1,q2⟩:=aOU ha hb hr hab ms.2.2 mt.2.2
  have no:∀c,(c=0∨c=(r.h:Rat))→¬((icQ a b r.y+slQ a b*s<c∧c<icQ a b r.y+slQ a b*t)∨(icQ a b r.y+slQ a b*t<c∧c<icQ a b r.y+slQ a b*s)):=fun c hcc hx=>by
   obtain⟨x,x1,x2,x3,x4⟩:=aLB hst hx
   rcases hc x (by grind) (by grind) x4 (by rcases hcc with rfl|rfl;exact .inl x3;exact .inr x3) with h|h
   ·grind
   ·rcases List.mem_cons.1 h with h|h
    ·grind
    ·have:=(List.pairwise_cons.1 p2).1 x h
     grind
  have n0:=no 0 (.inl rfl)
  have n1:=no r.h (.inr rfl)
  have ep:(cpQ r.h (icQ a b r.y+slQ a b*s)+cpQ r.h (icQ a b r.y+slQ a b*t))/2*(t-s)=arS r.h (icQ a b r.y) (slQ a b) s t:=by
   unfold arS
   rw[zG_ hH (by grind) (by grind)]
   grind
  rw[ep] at q1 q2
  have hk4:k=0∨k=1∨k=2∨k=3:=by simp only[List.length_cons] at hk;omega
  have sm:((k+1)*(10^31)^k)*10^31+10^31*(10^31)^k<10^200∧(10^31)^k*10^31<10^200:=by
   rcases hk4 with rfl|rfl|rfl|rfl <;> decide
  obtain⟨s1,s2⟩:=qA_ ha' q2 sm.1 sm.2
  obtain⟨e,e1,e2⟩:=aDX L R l t (acc+arS r.h (icQ a b r.y) (slQ a b) s t) (k+1) p2 (fun x hx=>hm x (List.mem_cons_of_mem _ hx)) (fun x x1 x2 x3 x4=>by
   rcases hc x x1 x2 x3 x4 with h|h
   ·exact .inl (by grind)
   ·rcases List.mem_cons.1 h with h|h
    ·exact .inl (by grind)
    ·exact .inr h) (by simp only[List.length_cons] at hk;omega) (s2.mono (by
   rw[Nat.pow_succ]
   have:(10^31)^k*10^31=10^31*(10^31)^k:=Nat.mul_comm _ _
   grind) (by rw[Nat.pow_succ];exact Nat.le_refl _))
  refine⟨e,by rw[List.getLast?_cons_cons];exact e1,?_⟩
  show sumO a b r ((t::l).map some) (plO (some acc) (aJW a b r (some s) (some t)))=_
  rw[q1]
  show sumO a b r ((t::l).map some) (addR acc _)=_
  rw[s1,e2,aIH r.h _ _ s t e]
  congr 1
  grind
end
theorem aJD {a b:Pl} {r:Rc} (ha:vP a=true) (hb:vP b=true) (hr:vRc r=true) (hab:a.x<b.x):∃S:List Rat,uM_ a b r=S.map some∧S.length≤4∧((max a.x r.x:Int):Rat)∈S∧((min b.x (r.x+r.w):Int):Rat)∈S∧
  (∀x∈S,x=((max a.x r.x:Int):Rat)∨x=((min b.x (r.x+r.w):Int):Rat)∨(((max a.x r.x:Int):Rat)<x∧x<((min b.x (r.x+r.w):Int):Rat)∧bdR (2*4095^2) 4095 x))∧
  (∀x,((max a.x r.x:Int):Rat)<x→x<((min b.x (r.x+r.w):Int):Rat)→slQ a b≠0→(icQ a b r.y+slQ a b*x=0∨icQ a b r.y+slQ a b*x=r.h)→x∈S):=by
 have v1:=aT_.1 ha
 have v2:=bO_.1 hr
 obtain⟨L,hL⟩:∃L:Rat,L=((max a.x r.x:Int):Rat):=⟨_,rfl⟩
 obtain⟨R,hR⟩:∃R:Rat,R=((min b.x (r.x+r.w):Int):Rat):=⟨_,rfl⟩
 have eL:mQ_ a r=some L:=by unfold mQ_;rw[bJ_,hL]
 have eR:hC_ b r=some R:=by unfold hC_;rw[bJ_,hR]
 rw[←hL,←hR]
 unfold uM_
 rw[eL,eR]
 by_cases hy:a.y=b.y
 ·refine⟨[L,R],?_,by simp,by simp,by simp,fun x hx=>?_,fun x _ _ h0 _=>?_⟩
  ·have e:(List.filter (fun y=>decide (a.y≠b.y)&&leO (some L) (eG_ a b y)&&leO (eG_ a b y) (some R)) [r.y,r.y+r.h])=[]:=by
    rw[List.filter_eq_nil_iff]
    intro y _
    simp[hy]
   rw[e]
   rfl
  ·simp only[List.mem_cons,List.not_mem_nil,or_false] at hx
   rcases hx with h|h
   ·exact .inl h
   ·exact .inr (.inl h)
  ·exfalso
   refine h0 ?_
   unfold slQ
   rw[hy]
   grind
 ·have st:∀y∈[r.y,r.y+r.h],eG_ a b y=some (stQ a b y)∧bdR (2*4095^2) 4095 (stQ a b y):=fun y hyy=>by
   simp only[List.mem_cons,List.not_mem_nil,or_false] at hyy
   exact aNU ha hb hab hy (by omega) (by omega)
  have e1:List.filter (fun y=>decide (a.y≠b.y)&&leO (some L) (eG_ a b y)&&leO (eG_ a b y) (some R)) [r.y,r.y+r.h]=List.filter (fun y=>decide (L<stQ a b y)&&decide (stQ a b y<R)) [r.y,r.y+r.h]:=by
   refine List.filter_congr fun y hyy=>?_
   rw[(st y hyy).1,oX_,oX_,decide_eq_true hy,Bool.true_and]
  rw[e1]
  have e2:(List.filter (fun y=>decide (L<stQ a b y)&&decide (stQ a b y<R)) [r.y,r.y+r.h]).map (eG_ a b)=((List.filter (fun y=>decide (L<stQ a b y)&&decide (stQ a b y<R)) [r.y,r.y+r.h]).map (stQ a b)).map some:=by
   rw[List.map_map]
   exact List.map_congr_left fun y hyy=>(st y (List.mem_filter.1 hyy).1).1
  rw[e2]
  have hlen:(List.filter (fun y=>decide (L<stQ a b y)&&decide (stQ a b y<R)) [r.y,r.y+r.h]).length≤2:=List.length_filter_le _ _
  refine⟨[L,R]++(List.filter (fun y=>decide (L<stQ a b y)&&decide (stQ a b y<R)) [r.y,r.y+r.h]).map (stQ a b),by simp,by simp only[List.length_append,List.length_map,List.length_cons,List.length_nil];omega,by simp,by simp,fun x hx=>?_,fun x x1 x2 h0 hc=>?_⟩
  ·rcases List.mem_append.1 hx with hx|hx
   ·simp only[List.mem_cons,List.not_mem_nil,or_false] at hx
    rcases hx with h|h
    ·exact .inl h
    ·exact .inr (.inl h)
   ·obtain⟨y,hy1,rfl⟩:=List.mem_map.1 hx
    obtain⟨hy2,hy3⟩:=List.mem_filter.1 hy1
    simp only[Bool.and_eq_true,decide_eq_true_eq] at hy3
    exact .inr (.inr ⟨hy3.1,hy3.2,(st y hy2).2⟩)
  ·refine List.mem_append.2 (.inr (List.mem_map.2 ?_))
   have key:∀y:Int,icQ a b r.y+slQ a b*x=(y:Rat)-r.y→x=stQ a b y:=fun y h=>by
    have:slQ a b*(x-a.x)=(y:Rat)-a.y:=by unfold icQ at h;grind
    unfold stQ
    rw[Rat.intCast_sub]
    grind
   rcases hc with h|h
   ·have e:=key r.y (by grind)
    exact⟨r.y,List.mem_filter.2 ⟨by simp,by rw[←e];simp[x1,x2]⟩,e.symm⟩
   ·have e:=key (r.y+r.h) (by rw[Rat.intCast_add];grind)
    exact⟨r.y+r.h,List.mem_filter.2 ⟨by simp,by rw[←e];simp[x1,x2]⟩,e.symm⟩
theorem yV_ {a b:Pl} {r:Rc} (ha:vP a=true) (hb:vP b=true) (hr:vRc r=true) (hab:a.x≤b.x):dR_ a b r=some (-(covK r a b)):=by
 have v1:=aT_.1 ha
 have v2:=bO_.1 hr
 have v3:=aT_.1 hb
 unfold dR_
 have eL:mQ_ a r=some ((max a.x r.x:Int):Rat):=by unfold mQ_;rw[bJ_]
 have eR:hC_ b r=some ((min b.x (r.x+r.w):Int):Rat):=by unfold hC_;rw[bJ_]
 rw[eL,eR,oX_]
 by_cases hLR:max a.x r.x<min b.x (r.x+r.w)
 ·have hLR':((max a.x r.x:Int):Rat)<((min b.x (r.x+r.w):Int):Rat):=Rat.intCast_lt_intCast.2 hLR
  rw[if_pos (decide_eq_true hLR')]
  have hlt:a.x<b.x:=by omega
  obtain⟨S,e1,e2,e3,e4,e5,e6⟩:=aJD ha hb hr hlt
  obtain⟨so,sp⟩:=sortQ S
  rw[e1,aEG (lt:=ltQ) some (fun a b=>oX_ a b) S,bJ_]
  have cA:clI r.x r.w a.x=max a.x r.x:=by unfold clI;omega
  have cB:clI r.x r.w b.x=min b.x (r.x+r.w):=by unfold clI;omega
  have bL:bdR (2*4095^2) 4095 ((max a.x r.x:Int):Rat):=(gF_ (A:=4095) (by omega)).mono (by decide) (by decide)
  have bR:bdR (2*4095^2) 4095 ((min b.x (r.x+r.w):Int):Rat):=(gF_ (A:=4095) (by omega)).mono (by decide) (by decide)
  unfold covK
  rw[cA,cB,cC_]
  generalize ((max a.x r.x:Int):Rat)=L at *
  generalize ((min b.x (r.x+r.w):Int):Rat)=R at *
  have hin:∀x∈cD_ ltQ S,L≤x∧x≤R∧bdR (2*4095^2) 4095 x:=fun x hx=>by
   rcases e5 x (sp.mem_iff.1 hx) with rfl|rfl|⟨k1,k2,k3⟩
   ·exact⟨Rat.le_refl,by grind,bL⟩
   ·exact⟨by grind,Rat.le_refl,bR⟩
   ·exact⟨by grind,by grind,k3⟩
  have hlen:(cD_ ltQ S).length≤4:=by rw[fI_];exact e2
  have mL:=sp.mem_iff.2 e3
  have mR:=sp.mem_iff.2 e4
  have hc:∀x,L<x→x<R→slQ a b≠0→(icQ a b r.y+slQ a b*x=0∨icQ a b r.y+slQ a b*x=r.h)→x∈cD_ ltQ S:=fun x x1 x2 x3 x4=>sp.mem_iff.2 (e6 x x1 x2 x3 x4)
  cases hs:cD_ ltQ S with
  | nil=>rw[hs] at mL;cases mL
  | cons s l=>
   rw[hs] at so hin hlen mL mR hc
   have hsL:s=L:=by
    have h1:=(hin s (by simp)).1
    rcases List.mem_cons.1 mL with h|h
    ·exact h.symm
    ·have:=(List.pairwise_cons.1 so).1 L h
     grind
   obtain⟨e,g1,g2⟩:=aDX ha hb hr hlt L R l s ((0:Int):Rat) 0 so hin (fun x x1 x2 x3 x4=>by
    rcases List.mem_cons.1 (hc x x1 x2 x3 x4) with h|h
    ·exact .inl (by grind)
    ·exact .inr h) (by simp only[List.length_cons] at hlen;omega) ⟨by decide,by decide⟩
   have heR:e=R:=by
    have h1:=(hin e (List.mem_of_getLast? g1)).2.1
    have h2:∀(l:List Rat) (e:Rat),l.Pairwise (·≤·)→l.getLast?=some e→∀x∈l,x≤e:=by
     intro l e hp hl x hx
     rcases List.eq_nil_or_concat l with rfl|⟨k,y,rfl⟩
     ·cases hx
     ·rw[List.concat_eq_append] at hp hl hx
      rw[List.getLast?_append] at hl
      cases hl
      rcases List.mem_append.1 hx with hx|hx
      ·exact(List.pairwise_append.1 hp).2.2 x hx _ (by simp)
      ·rw[List.mem_singleton.1 hx];exact Rat.le_refl
    have h3:=h2 _ e so g1 R mR
    grind
   rw[g2,hsL,heR]
   congr 1
   have:((0:Int):Rat)=0:=rfl
   rw[this]
   grind
 ·have hLR':¬((max a.x r.x:Int):Rat)<((min b.x (r.x+r.w):Int):Rat):=fun h=>hLR (Rat.intCast_lt_intCast.1 h)
  rw[if_neg (by simpa using hLR'),bJ_]
  have e:clI r.x r.w a.x=clI r.x r.w b.x:=by unfold clI;omega
  unfold covK
  rw[e,eE_]
  congr 1
end Go.Proofs.YtjfdefglpoancaaGreatDoor
