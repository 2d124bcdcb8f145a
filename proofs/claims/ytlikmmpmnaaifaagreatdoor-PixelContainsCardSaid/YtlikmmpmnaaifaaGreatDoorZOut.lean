/- - -/
import Derived.Deep.RegionHeld3
import Derived.ScopeJumps
import Derived.WalkMore
import Derived.Test.YtlikmmpmnaaifaaGreatDoorZSig
import Derived.Test.YtlikmmpmnaaifaaGreatDoorZOver2
import Derived.Test.YtlikmmpmnaaifaaGreatDoorZBack
import Derived.Test.YtlikmmpmnaaifaaGreatDoorZNum
import Derived.Test.YtlikmmpmnaaifaaGreatDoorZShelf
set_option maxHeartbeats 40000000
set_option maxRecDepth 1000000
open Go.Lib (hid)
namespace Go.Proofs.YtlikmmpmnaaifaaGreatDoor
open Go.RowKit Go.Shelf
attribute [local go_sem] Oper.semAt_some
def valZ (l:List UInt8):Int:=if l.head?=some 45 then -(valB l.tail:Int) else valB l
def aG_ (s:ByteArray):Option Int:=if aY_ s.data.toList=true then some (valZ s.data.toList) else none
def small (z:Int):Bool:=decide (nDig z.natAbs≤200)
theorem xB_ (z:Int):valZ (txt z)=z:=by
 have h:=jJ_ z
 unfold valZ
 unfold cC_ at h
 by_cases hh:(txt z).head?=some 45
 ·rw[if_pos hh] at h⊢
  rw[h,dG_]
  unfold txt at hh
  by_cases hz:z<0
  ·omega
  ·rw[if_neg hz] at hh
   have:=bP_ z.natAbs 45 (List.mem_of_head? hh)
   exact absurd this (by decide)
 ·rw[if_neg hh] at h⊢
  rw[h,dG_]
  unfold txt at hh
  by_cases hz:z<0
  ·rw[if_pos hz] at hh;simp at hh
  ·omega
theorem aW_ (z:Int):aG_ (str z)=if small z=true then some z else none:=by
 unfold aG_ small
 rw[dD_,eM_,xB_]
theorem bY_ {s:ByteArray} {z:Int} (h:aG_ s=some z):s=str z∧small z=true:=by
 unfold aG_ at h
 split at h
 case isTrue hv=>
  obtain⟨y,hy,hd⟩:=aCK hv
  rw[hy,xB_] at h
  cases h
  refine⟨?_,by simpa[small] using hd⟩
  apply ByteArray.ext
  apply Array.toList_inj.1
  rw[hy,dD_]
 case isFalse=>cases h
theorem dB_ (s:ByteArray):(aG_ s).isSome=aY_ s.data.toList:=by
 unfold aG_
 cases aY_ s.data.toList <;> rfl
theorem cR_ {z:Int} (h:small z=true):(dig 10000 z.natAbs).length≤50:=by
 rw[aT_ (by omega)]
 have:=(jR_ (n:=z.natAbs) (k:=200) (by omega)).1 (by simpa[small] using h)
 rw[show(10000:Nat)=10^4 from rfl,←Nat.pow_mul]
 exact this
def outZ (z:Int):Array Value:=if small z=true then #[.string (str z),.int .i64 0] else #[.string ⟨#[]⟩,.int .i64 30]
theorem iH_ (v:Value) (z:Int) (lo hi:Nat) (w:World) (hG:Glob w) (h:Zg w v z lo hi) (b:hi≤w.heap.size) (hf:Few z.natAbs) :
  Calls Tryz.prog 224 #[v] w fun e w'=>(∃s n,outZ z=#[.string s,.int .i64 n]∧e=.returned (.tuple #[.string s,.int .i64 n]))∧Below w.heap.size w w':=by
 obtain⟨neg,n,a,c,rfl,hn,rfl⟩:=h.form
 have e1:(if neg=true then -(n:Int) else n).natAbs=n:=by split <;> omega
 rw[e1] at hf
 rcases Nat.eq_zero_or_pos n with h0|h0
 ·subst h0
  refine(aCU neg a c w).mono ?_
  rintro e w' ⟨rfl,hb⟩
  refine⟨⟨⟨#[48]⟩,0,?_,rfl⟩,hb⟩
  have:(if neg=true then -((0:Nat):Int) else (0:Nat))=0:=by split <;> simp
  rw[this]
  have:small 0=true:=by decide
  unfold outZ
  rw[if_pos this]
  rfl
 ·refine(aIX neg a c n lo hi w hG hn b hf h0).mono ?_
  rintro e w' ⟨rfl,hb⟩
  refine⟨?_,hb⟩
  unfold outZ small
  rw[e1]
  by_cases hd:nDig n≤200
  ·rw[if_pos hd,if_pos (by simpa using hd)]
   refine⟨_,_,rfl,?_⟩
   have:str (if neg=true then -(n:Int) else n)=⟨((if neg then [45] else [])++txtN n).toArray⟩:=by
    unfold str txt
    rw[e1]
    cases neg
    ·simp
    ·simp;omega
   rw[this]
  ·rw[if_neg hd,if_neg (by simpa using hd)]
   exact⟨_,_,rfl,rfl⟩
theorem Zg.neg {w:World} {n:Bool} {s:Value} {y:Int} {lo hi:Nat} (h:Zg w (.agg #[.bool n,s]) y lo hi):Zg w (.agg #[.bool !n,s]) (-y) lo hi:=by
 obtain⟨neg,k,s',e,h1,h2⟩:=h
 simp only[Value.agg.injEq,Array.mk.injEq,List.cons.injEq,Value.bool.injEq,and_true] at e
 obtain⟨rfl,rfl⟩:=e
 refine⟨!n,k,s,rfl,h1,?_⟩
 cases n <;> simp at h2⊢<;> omega
theorem Zg.of {w:World} {neg:Bool} {n:Nat} {s:Value} {z:Int} {lo hi:Nat} (h:Nm w s n lo hi) (hz:z=if neg=true then -(n:Int) else n):Zg w (.agg #[.bool neg,s]) z lo hi:=⟨neg,n,s,rfl,h,hz⟩
theorem aKH {x y:Int} {n1 n2:Bool} {m1 m2:Nat} (h1:x=if n1=true then -(m1:Int) else m1) (h2:y=if n2=true then -(m2:Int) else m2):x*y=if (n1 != n2)=true then -((m1*m2:Nat):Int) else ((m1*m2:Nat):Int):=by
 subst h1 h2
 cases n1 <;> cases n2 <;> simp[Int.neg_mul,Int.mul_neg]
structure PairAt (N:Nat) (n1:Bool) (s1:Value) (n2:Bool) (s2:Value) (W:World):Prop where
 x0:W.cell? ⟨N,0,none⟩=some (.bool n1)
 x1:W.cell? ⟨N,1,none⟩=some s1
 y0:W.cell? ⟨N+1,0,none⟩=some (.bool n2)
 y1:W.cell? ⟨N+1,1,none⟩=some s2
 sz:N+2≤W.heap.size
theorem PairAt.start (w:World) (n1 n2:Bool) (s1 s2:Value):PairAt w.heap.size n1 s1 n2 s2 ((w.alloc (.cells #[.bool n1,s1] 222)).alloc (.cells #[.bool n2,s2] 222)):=by
 refine⟨?_,?_,?_,?_,by simp⟩ <;> simp[go_sem]
theorem PairAt.below {N:Nat} {n1 n2:Bool} {s1 s2:Value} {W W':World} (h:PairAt N n1 s1 n2 s2 W) (hb:Below W.heap.size W W'):PairAt N n1 s1 n2 s2 W':=by
 have hs:=h.sz
 obtain⟨c,_⟩:=kZ_ hb
 exact⟨(c _ _ (by omega)).trans h.x0,(c _ _ (by omega)).trans h.x1,(c _ _ (by omega)).trans h.y0,(c _ _ (by omega)).trans h.y1,Nat.le_trans hs hb.size⟩
theorem PairAt.drew {N:Nat} {n1 n2:Bool} {s1 s2:Value} {W:World} (h:PairAt N n1 s1 n2 s2 W):PairAt N n1 s1 n2 s2 W.drew:=⟨h.x0,h.x1,h.y0,h.y1,h.sz⟩
theorem B2d (w:World) (o1 o2:Obj):Below w.heap.size w ((w.alloc o1).alloc o2).drew:=(((Below.refl _ _).alloc (Nat.le_refl _) _).alloc (by simp) _).drew
theorem B2 (w:World) (o1 o2:Obj):Below w.heap.size w ((w.alloc o1).alloc o2):=((Below.refl _ _).alloc (Nat.le_refl _) _).alloc (by simp) _
theorem aGO {n k:Nat} (h:n<10000^k) (hk:k≤1000000):Few n:=by
 have:=(aT_ (B:=10000) (by omega) n k).2 h
 unfold Few
 omega
theorem fF_ {z:Int} (h:small z=true):z.natAbs<10000^50:=(aT_ (by omega) _ _).1 (cR_ h)
theorem jM_ {z:Int} (h:small z=true):Few z.natAbs:=aGO (fF_ h) (by omega)
theorem add_F {x y:Int} (hx:small x=true) (hy:small y=true):Few (x+y).natAbs:=by
 have h1:=fF_ hx
 have h2:=fF_ hy
 refine aGO (k:=51) ?_ (by omega)
 rw[Nat.pow_succ]
 omega
theorem mul_F {x y:Int} (hx:small x=true) (hy:small y=true):Few (x*y).natAbs:=by
 have h1:=fF_ hx
 have h2:=fF_ hy
 refine aGO (k:=50+50) ?_ (by omega)
 rw[Nat.pow_add,Int.natAbs_mul]
 exact Nat.mul_lt_mul'' h1 h2
theorem dT_ {y:Int} (h:small y=true):small (-y)=true:=by unfold small at h⊢;rw[Int.natAbs_neg];exact h
theorem Add_ok (x y:Int) (w:World) (hG:Glob w) (hx:small x=true) (hy:small y=true) :
  Calls Tryz.prog 187 #[.string (str x),.string (str y)] w fun e w'=>(∃s n,outZ (x+y)=#[.string s,.int .i64 n]∧e=.returned (.tuple #[.string s,.int .i64 n]))∧Below w.heap.size w w':=by
 have hB:=fun W=>fS_ x y W (by simpa[small] using hx) (by simpa[small] using hy)
 generalize str x=sx at hB⊢
 generalize str y=sy at hB⊢
 go_enter Tryz.func187,Tryz.ntmps187
 go_wp2_with (first
  | (go_at_call 222;with_reducible refine(hB _).mono ?_;rintro e w1 ⟨⟨va,vb,rfl,ha,hb⟩,hb1⟩;obtain⟨n1,m1,a1,c1,rfl,hna,hza⟩:=ha.form;obtain⟨n2,m2,a2,c2,rfl,hnb,hzb⟩:=hb.form;have HA:=hid ha.zg;have HB:=hid hb.zg;have HNA:=hid hna;have HNB:=hid hnb;have HZA:=hid (gD_ hza);have HZB:=hid (gD_ hzb);have HSA:=hid hza;have HSB:=hid hzb;have HG1:=hid (hG.below hb1);clear ha hb hna hnb hza hzb)
  | (go_at_call 223;refine(mG_ _ _ x y _ _ _ _ _ (by exact HA.out.below (B2 w1 _ _) (Nat.le_refl _)) (by exact HB.out.below (B2 w1 _ _) (Nat.le_refl _)) (by exact(B2 w1 _ _).size) (by exact(B2 w1 _ _).size) (by exact jM_ hx) (by exact jM_ hy)).mono ?_;rintro e w2 ⟨⟨v,rfl,hv⟩,hb2⟩;have HV:=hid hv;clear hv;have hbw:Below w1.heap.size w1 w2:=(B2 w1 _ _).trans (hb2.mono (B2 w1 _ _).size);have HG2:=hid (HG1.out.below hbw))
  | (go_at_call 224;refine(iH_ _ (x+y) _ _ _ (by exact HG2.out) (by exact HV.out) (Nat.le_refl _) (by exact add_F hx hy)).mono ?_;rintro e w3 ⟨⟨s,n,hs,rfl⟩,hb3⟩))
 refine bodyPost_ret (v:=.tuple #[.string s,.int .i64 n]) ?_ rfl ⟨⟨s,n,hs,rfl⟩,(hb1.trans (hbw.mono hb1.size)).trans (hb3.mono (Nat.le_trans hb1.size hbw.size))⟩
 simp[results,Tryz.results187,go_sem]
theorem Sub_ok (x y:Int) (w:World) (hG:Glob w) (hx:small x=true) (hy:small y=true) :
  Calls Tryz.prog 181 #[.string (str x),.string (str y)] w fun e w'=>(∃s n,outZ (x-y)=#[.string s,.int .i64 n]∧e=.returned (.tuple #[.string s,.int .i64 n]))∧Below w.heap.size w w':=by
 rw[Int.sub_eq_add_neg]
 have hB:=fun W=>fS_ x y W (by simpa[small] using hx) (by simpa[small] using hy)
 generalize str x=sx at hB⊢
 generalize str y=sy at hB⊢
 go_enter Tryz.func181,Tryz.ntmps181
 go_wp2_with (first
  | (go_at_call 222;with_reducible refine(hB _).mono ?_;rintro e w1 ⟨⟨va,vb,rfl,ha,hb⟩,hb1⟩;obtain⟨n1,m1,a1,c1,rfl,hna,hza⟩:=ha.form;obtain⟨n2,m2,a2,c2,rfl,hnb,hzb⟩:=hb.form;have HA:=hid ha.zg;have HB:=hid hb.zg;have HNA:=hid hna;have HNB:=hid hnb;have HZA:=hid (gD_ hza);have HZB:=hid (gD_ hzb);have HSA:=hid hza;have HSB:=hid hzb;have HG1:=hid (hG.below hb1);clear ha hb hna hnb hza hzb)
  | (go_at_call 223;refine(mG_ _ _ x (-y) _ _ _ _ _ (by exact HA.out.below (B2 w1 _ _) (Nat.le_refl _)) (by exact HB.out.neg.below (B2 w1 _ _) (Nat.le_refl _)) (by exact(B2 w1 _ _).size) (by exact(B2 w1 _ _).size) (by exact jM_ hx) (by exact jM_ (dT_ hy))).mono ?_;rintro e w2 ⟨⟨v,rfl,hv⟩,hb2⟩;have HV:=hid hv;clear hv;have hbw:Below w1.heap.size w1 w2:=(B2 w1 _ _).trans (hb2.mono (B2 w1 _ _).size);have HG2:=hid (HG1.out.below hbw))
  | (go_at_call 224;refine(iH_ _ (x + -y) _ _ _ (by exact HG2.out) (by exact HV.out) (Nat.le_refl _) (by exact add_F hx (dT_ hy))).mono ?_;rintro e w3 ⟨⟨s,n,hs,rfl⟩,hb3⟩))
 refine bodyPost_ret (v:=.tuple #[.string s,.int .i64 n]) ?_ rfl ⟨⟨s,n,hs,rfl⟩,(hb1.trans (hbw.mono hb1.size)).trans (hb3.mono (Nat.le_trans hb1.size hbw.size))⟩
 simp[results,Tryz.results181,go_sem]
theorem Mul_ok (x y:Int) (w:World) (hG:Glob w) (hx:small x=true) (hy:small y=true) :
  Calls Tryz.prog 246 #[.string (str x),.string (str y)] w fun e w'=>(∃s n,outZ (x*y)=#[.string s,.int .i64 n]∧e=.returned (.tuple #[.string s,.int .i64 n]))∧Below w.heap.size w w':=by
 have hB:=fun W=>fS_ x y W (by simpa[small] using hx) (by simpa[small] using hy)
 generalize str x=sx at hB⊢
 generalize str y=sy at hB⊢
 go_enter Tryz.func246,Tryz.ntmps246
 go_wp2_with (first
  | (go_at_call 222;with_reducible refine(hB _).mono ?_;rintro e w1 ⟨⟨va,vb,rfl,ha,hb⟩,hb1⟩;obtain⟨n1,m1,a1,c1,rfl,hna,hza⟩:=ha.form;obtain⟨n2,m2,a2,c2,rfl,hnb,hzb⟩:=hb.form;have HA:=hid ha.zg;have HB:=hid hb.zg;have HNA:=hid hna;have HNB:=hid hnb;have HZA:=hid (gD_ hza);have HZB:=hid (gD_ hzb);have HSA:=hid hza;have HSB:=hid hzb;have HG1:=hid (hG.below hb1);clear ha hb hna hnb hza hzb)
  | fail)
 have HF:Hid ((dig 10000 m1).length+(dig 10000 m2).length≤1000000):=by
  have e1:=cR_ hx
  have e2:=cR_ hy
  have e3:=HZA.out
  have e4:=HZB.out
  have e5:x.natAbs=m1:=by rw[e3];split <;> omega
  have e6:y.natAbs=m2:=by rw[e4];split <;> omega
  rw[e5] at e1
  rw[e6] at e2
  show _≤_
  omega
 have HP:=hid (PairAt.start w1 n1 n2 (.slice a1 (dig 10000 m1).length c1) (.slice a2 (dig 10000 m2).length c2)).drew
 have hxf:=jM_ hx
 go_region_held3 (fun W=>W.cell? ⟨w1.heap.size,0,none⟩=some (.bool n1)∧W.cell? ⟨w1.heap.size,1,none⟩=some (.slice a1 (dig 10000 m1).length c1)∧W.cell? ⟨w1.heap.size+1,0,none⟩=some (.bool n2)∧W.cell? ⟨w1.heap.size+1,1,none⟩=some (.slice a2 (dig 10000 m2).length c2)) (first|exact⟨HP3.out.x0,HP3.out.x1,HP3.out.y0,HP3.out.y1⟩|exact⟨HP2.out.x0,HP2.out.x1,HP2.out.y0,HP2.out.y1⟩|exact⟨HP.out.x0,HP.out.x1,HP.out.y0,HP.out.y1⟩) (first
  | (go_at_call 273;refine(aCT _ _ m1 m2 _ _ _ _ _ (by exact HNA.out.below (B2d w1 _ _) (Nat.le_refl _)) (by exact HNB.out.below (B2d w1 _ _) (Nat.le_refl _)) (by exact(B2d w1 _ _).size) (by exact(B2d w1 _ _).size) (by exact HF.out)).mono ?_;rintro e w2 ⟨⟨v,rfl,hv⟩,hb2⟩;obtain⟨a3,c3,rfl⟩:∃a cap,v=.slice a (dig 10000 (m1*m2)).length cap:=(by obtain⟨a,cap,e,_⟩:=hv;exact⟨a,cap,e⟩);have HV:=hid (Zg.of hv (aKH HZA.out HZB.out));clear hv;have hbw:Below w1.heap.size w1 w2:=(B2d w1 _ _).trans (hb2.mono (B2d w1 _ _).size);have HG2:=hid (HG1.out.below hbw);have HP2:=hid (HP.out.below hb2))
  | (go_at_call 224;refine(iH_ _ (x*y) _ _ _ (by exact HG2.out) (by exact HV.out) (Nat.le_refl _) (by exact mul_F hx hy)).mono ?_;rintro e w3 ⟨⟨s,n,hs,rfl⟩,hb3⟩;have HP3:=hid (HP2.out.below hb3)))
 all_goals go_wp2
 all_goals
  refine bodyPost_ret (v:=.tuple #[.string s,.int .i64 n]) ?_ rfl ⟨⟨s,n,hs,rfl⟩,(hb1.trans (hbw.mono hb1.size)).trans (hb3.mono (Nat.le_trans hb1.size hbw.size))⟩
  simp[results,Tryz.results246,go_sem]
theorem lT_ {x y:Int} {n1 n2 b1 b2:Bool} {m1 m2:Nat} (h1:n1=decide (x<0)∧m1=x.natAbs) (h2:n2=decide (y<0)∧m2=y.natAbs) (k1:n1=b1) (k2:n2=b2) :
  (if b1=true then (if b2=true then cmpI m2 m1 else -1) else if b2=true then 1 else cmpI m1 m2)=cmpI x y:=by
 obtain⟨h1,rfl⟩:=h1
 obtain⟨h2,rfl⟩:=h2
 subst k1 k2
 unfold cmpI
 by_cases e1:x<0 <;> by_cases e2:y<0
 ·have f1:n1=true:=by rw[h1];exact decide_eq_true e1
  have f2:n2=true:=by rw[h2];exact decide_eq_true e2
  rw[if_pos f1,if_pos f2]
  rcases Int.lt_trichotomy x y with h|h|h
  ·rw[if_pos h,if_pos (by omega)]
  ·rw[if_neg (by omega),if_neg (by omega),if_neg (by omega),if_neg (by omega)]
  ·rw[if_neg (by omega),if_pos (by omega),if_neg (by omega),if_pos (by omega)]
 ·have f1:n1=true:=by rw[h1];exact decide_eq_true e1
  have f2:n2=false:=by rw[h2];exact decide_eq_false e2
  rw[if_pos f1,if_neg (by rw[f2];simp),if_pos (by omega)]
 ·have f1:n1=false:=by rw[h1];exact decide_eq_false e1
  have f2:n2=true:=by rw[h2];exact decide_eq_true e2
  rw[if_neg (by rw[f1];simp),if_pos f2,if_neg (by omega),if_pos (by omega)]
 ·have f1:n1=false:=by rw[h1];exact decide_eq_false e1
  have f2:n2=false:=by rw[h2];exact decide_eq_false e2
  rw[if_neg (by rw[f1];simp),if_neg (by rw[f2];simp)]
  rcases Int.lt_trichotomy x y with h|h|h
  ·rw[if_pos h,if_pos (by omega)]
  ·rw[if_neg (by omega),if_neg (by omega),if_neg (by omega),if_neg (by omega)]
  ·rw[if_neg (by omega),if_pos (by omega),if_neg (by omega),if_pos (by omega)]
theorem Add_no (a b:ByteArray) (w:World) (ha:a.size≤9223372036854775807) (hb:b.size≤9223372036854775807) (hn:(aY_ a.data.toList&&aY_ b.data.toList)=false) :
  Calls Tryz.prog 187 #[.string a,.string b] w fun e w'=>e=.returned (.tuple #[.string ⟨#[]⟩,.int .i64 30])∧Below w.heap.size w w':=by
 have hB:=fun W=>kE_ a b W ha hb hn
 go_enter Tryz.func187,Tryz.ntmps187
 go_wp2_with (go_at_call 222;with_reducible refine(hB _).mono ?_;rintro e w1 ⟨rfl,hb1⟩)
 refine bodyPost_ret (v:=.tuple #[.string ⟨#[]⟩,.int .i64 30]) ?_ rfl ⟨rfl,hb1.trans ((B2 w1 _ _).mono hb1.size)⟩
 simp[results,Tryz.results187,go_sem]
theorem Sub_no (a b:ByteArray) (w:World) (ha:a.size≤9223372036854775807) (hb:b.size≤9223372036854775807) (hn:(aY_ a.data.toList&&aY_ b.data.toList)=false) :
  Calls Tryz.prog 181 #[.string a,.string b] w fun e w'=>e=.returned (.tuple #[.string ⟨#[]⟩,.int .i64 30])∧Below w.heap.size w w':=by
 have hB:=fun W=>kE_ a b W ha hb hn
 go_enter Tryz.func181,Tryz.ntmps181
 go_wp2_with (go_at_call 222;with_reducible refine(hB _).mono ?_;rintro e w1 ⟨rfl,hb1⟩)
 refine bodyPost_ret (v:=.tuple #[.string ⟨#[]⟩,.int .i64 30]) ?_ rfl ⟨rfl,hb1.trans ((B2 w1 _ _).mono hb1.size)⟩
 simp[results,Tryz.results181,go_sem]
theorem Mul_no (a b:ByteArray) (w:World) (ha:a.size≤9223372036854775807) (hb:b.size≤9223372036854775807) (hn:(aY_ a.data.toList&&aY_ b.data.toList)=false) :
  Calls Tryz.prog 246 #[.string a,.string b] w fun e w'=>e=.returned (.tuple #[.string ⟨#[]⟩,.int .i64 30])∧Below w.heap.size w w':=by
 have hB:=fun W=>kE_ a b W ha hb hn
 go_enter Tryz.func246,Tryz.ntmps246
 go_wp2_with (go_at_call 222;with_reducible refine(hB _).mono ?_;rintro e w1 ⟨rfl,hb1⟩)
 refine bodyPost_ret (v:=.tuple #[.string ⟨#[]⟩,.int .i64 30]) ?_ rfl ⟨rfl,hb1.trans ((B2 w1 _ _).mono hb1.size)⟩
 simp[results,Tryz.results246,go_sem]
theorem Gcd_no (a b:ByteArray) (w:World) (ha:a.size≤9223372036854775807) (hb:b.size≤9223372036854775807) (hn:(aY_ a.data.toList&&aY_ b.data.toList)=false) :
  Calls Tryz.prog 233 #[.string a,.string b] w fun e w'=>e=.returned (.tuple #[.string ⟨#[]⟩,.int .i64 30])∧Below w.heap.size w w':=by
 have hB:=fun W=>kE_ a b W ha hb hn
 go_enter Tryz.func233,Tryz.ntmps233
 go_wp2_with (go_at_call 222;with_reducible refine(hB _).mono ?_;rintro e w1 ⟨rfl,hb1⟩)
 refine bodyPost_ret (v:=.tuple #[.string ⟨#[]⟩,.int .i64 30]) ?_ rfl ⟨rfl,hb1.trans ((B2 w1 _ _).mono hb1.size)⟩
 simp[results,Tryz.results233,go_sem]
theorem Div_no (a b:ByteArray) (w:World) (ha:a.size≤9223372036854775807) (hb:b.size≤9223372036854775807) (hn:(aY_ a.data.toList&&aY_ b.data.toList)=false) :
  Calls Tryz.prog 185 #[.string a,.string b] w fun e w'=>e=.returned (.tuple #[.string ⟨#[]⟩,.string ⟨#[]⟩,.int .i64 30])∧Below w.heap.size w w':=by
 have hB:=fun W=>kE_ a b W ha hb hn
 go_enter Tryz.func185,Tryz.ntmps185
 go_wp2_with (go_at_call 222;with_reducible refine(hB _).mono ?_;rintro e w1 ⟨rfl,hb1⟩)
 refine bodyPost_ret (v:=.tuple #[.string ⟨#[]⟩,.string ⟨#[]⟩,.int .i64 30]) ?_ rfl ⟨rfl,hb1.trans ((B2 w1 _ _).mono hb1.size)⟩
 simp[results,Tryz.results185,go_sem]
theorem aCD (a b:ByteArray) (w:World) (ha:a.size≤9223372036854775807) (hb:b.size≤9223372036854775807) (hn:(aY_ a.data.toList&&aY_ b.data.toList)=false) :
  Calls Tryz.prog 186 #[.string a,.string b] w fun e w'=>e=.returned (.int .i64 0)∧Below w.heap.size w w':=by
 have hB:=fun W=>kE_ a b W ha hb hn
 go_enter Tryz.func186,Tryz.ntmps186
 go_wp2_with (go_at_call 222;with_reducible refine(hB _).mono ?_;rintro e w1 ⟨rfl,hb1⟩)
 refine bodyPost_ret (v:=.int .i64 0) ?_ rfl ⟨rfl,hb1.trans ((B2 w1 _ _).mono hb1.size)⟩
 simp[results,Tryz.results186,go_sem]
theorem aCC (x y:Int) (w:World) (hx:small x=true) (hy:small y=true) :
  Calls Tryz.prog 186 #[.string (str x),.string (str y)] w fun e w'=>e=.returned (.int .i64 (cmpI x y))∧Below w.heap.size w w':=by
 have hB:=fun W=>fS_ x y W (by simpa[small] using hx) (by simpa[small] using hy)
 generalize str x=sx at hB⊢
 generalize str y=sy at hB⊢
 go_enter Tryz.func186,Tryz.ntmps186
 go_wp2_with (first
  | (go_at_call 222;with_reducible refine(hB _).mono ?_;rintro e w1 ⟨⟨va,vb,rfl,ha,hb⟩,hb1⟩;obtain⟨n1,m1,a1,c1,rfl,hna,hza⟩:=ha.form;obtain⟨n2,m2,a2,c2,rfl,hnb,hzb⟩:=hb.form;have HA:=hid ha.zg;have HB:=hid hb.zg;have HNA:=hid hna;have HNB:=hid hnb;have HZA:=hid (gD_ hza);have HZB:=hid (gD_ hzb);have HSA:=hid hza;have HSB:=hid hzb;clear ha hb hna hnb hza hzb)
  | (go_at_call 238;refine(fQ_ _ _ m1 m2 _ _ _ _ _ (by exact HNA.out.below (B2 w1 _ _) (Nat.le_refl _)) (by exact HNB.out.below (B2 w1 _ _) (Nat.le_refl _)) (by exact(B2 w1 _ _).size) (by exact(B2 w1 _ _).size)).mono ?_;rintro e w2 ⟨rfl,hb2⟩)
  | (go_at_call 238;refine(fQ_ _ _ m2 m1 _ _ _ _ _ (by exact HNB.out.below (B2 w1 _ _) (Nat.le_refl _)) (by exact HNA.out.below (B2 w1 _ _) (Nat.le_refl _)) (by exact(B2 w1 _ _).size) (by exact(B2 w1 _ _).size)).mono ?_;rintro e w2 ⟨rfl,hb2⟩))
 all_goals
  have hc:=lT_ (b1:=true) (b2:=true) HSA.out HSB.out
  have hc2:=lT_ (b1:=true) (b2:=false) HSA.out HSB.out
  have hc3:=lT_ (b1:=false) (b2:=true) HSA.out HSB.out
  have hc4:=lT_ (b1:=false) (b2:=false) HSA.out HSB.out
 ·refine bodyPost_ret (v:=.int .i64 (cmpI m2 m1)) (by simp[results,Tryz.results186,go_sem]) rfl ⟨dA_ (by simpa using hc (by first|assumption|(cases n1 <;> simp_all;done)) (by assumption)),hb1.trans (((B2 w1 _ _).trans (hb2.mono (B2 w1 _ _).size)).mono hb1.size)⟩
 ·refine bodyPost_ret (v:=.int .i64 (-1)) (by simp[results,Tryz.results186,go_sem]) rfl ⟨dA_ (by simpa using hc2 (by first|assumption|(cases n1 <;> simp_all;done)) (by assumption)),hb1.trans ((B2 w1 _ _).mono hb1.size)⟩
 ·refine bodyPost_ret (v:=.int .i64 1) (by simp[results,Tryz.results186,go_sem]) rfl ⟨dA_ (by simpa using hc3 (by first|assumption|(cases n1 <;> simp_all;done)) (by assumption)),hb1.trans ((B2 w1 _ _).mono hb1.size)⟩
 ·refine bodyPost_ret (v:=.int .i64 (cmpI m1 m2)) (by simp[results,Tryz.results186,go_sem]) rfl ⟨dA_ (by simpa using hc4 (by first|assumption|(cases n1 <;> simp_all;done)) (by assumption)),hb1.trans (((B2 w1 _ _).trans (hb2.mono (B2 w1 _ _).size)).mono hb1.size)⟩
theorem aIN (s:ByteArray) (w:World) (hs:s.size≤9223372036854775807) :
  Calls Tryz.prog 199 #[.string s] w fun e w'=>e=.returned (.bool (aG_ s).isSome)∧Below w.heap.size w w':=by
 rw[dB_]
 have hV:=fun W=>dC_ s W hs
 go_enter Tryz.func199,Tryz.ntmps199
 go_wp2_with (go_at_call 207;with_reducible refine(hV _).mono ?_;rintro e w1 ⟨rfl,hb1⟩)
 go_ret
 exact⟨rfl,hb1⟩
theorem wX_ (z:Int) (w:World) (hG:Glob w) (h0 : -9223372036854775808≤z) (h1:z≤9223372036854775807) :
  Calls Tryz.prog 157 #[.int .i64 z] w fun e w'=>e=.returned (.string (str z))∧Below w.heap.size w w':=by
 have hI:=fun W hG=>zM_ z W hG h0 h1
 generalize str z=s at hI⊢
 go_enter Tryz.func157,Tryz.ntmps157
 go_wp2_with (go_at_call 201;with_reducible refine(hI _ hG).mono ?_;rintro e w1 ⟨rfl,hb1⟩)
 go_ret
 exact⟨rfl,hb1⟩
theorem ns_inj {w:World} {v:Value} {xs ys:List Nat} {lo hi lo' hi':Nat} (h:Ns w v xs lo hi) (k:Ns w v ys lo' hi'):xs=ys:=by
 obtain⟨a,cap,rfl,_⟩:=id h
 have hl:xs.length=ys.length:=by
  obtain⟨a',cap',e,_⟩:=id k
  simp only[Value.slice.injEq] at e
  omega
 apply List.ext_getElem hl
 intro i h1 h2
 obtain⟨b,off,rfl,_,_,e1⟩:=h.at (k:=i) h1
 obtain⟨b',off',e,_,_,e2⟩:=k.at (k:=i) h2
 simp only[Option.some.injEq,Addr.mk.injEq,and_true] at e
 obtain⟨rfl,rfl⟩:=e
 rw[e1] at e2
 simp only[Option.some.injEq,Value.int.injEq,true_and] at e2
 omega
theorem aAM:∃μ:World→Value→Nat,∀w v n lo hi,Nm w v n lo hi→μ w v=n:=by
 refine⟨fun w v=>Classical.epsilon (fun n=>∃lo hi,Nm w v n lo hi),?_⟩
 intro w v n lo hi h
 obtain⟨lo',hi',h'⟩:=Classical.epsilon_spec (p:=fun n=>∃lo hi,Nm w v n lo hi) ⟨n,lo,hi,h⟩
 exact aGZ (B:=10000) (by omega) (ns_inj h' h)
theorem mV_ {w:World} {v:Value} {n lo hi:Nat} (_h:Nm w v n lo hi):(dig 10000 n).length=0↔n=0:=by
 rw[List.length_eq_zero_iff,vZ_ (by omega)]
theorem Gcd_ok (x y:Int) (w:World) (hG:Glob w) (hx:small x=true) (hy:small y=true) :
  Calls Tryz.prog 233 #[.string (str x),.string (str y)] w fun e w'=>(∃s n,outZ ((Nat.gcd x.natAbs y.natAbs:Nat):Int)=#[.string s,.int .i64 n]∧e=.returned (.tuple #[.string s,.int .i64 n]))∧Below w.heap.size w w':=by
 have hB:=fun W=>fS_ x y W (by simpa[small] using hx) (by simpa[small] using hy)
 obtain⟨μ,hμ⟩:=aAM
 have hMU:=hid hμ
 have hX:=fF_ hx
 have hY:=fF_ hy
 clear hμ
 generalize str x=sx at hB⊢
 generalize str y=sy at hB⊢
 go_enter Tryz.func233,Tryz.ntmps233
 go_wp2_with (go_at_call 222;with_reducible refine(hB _).mono ?_;rintro e w1 ⟨⟨va,vb,rfl,ha,hb⟩,hb1⟩;obtain⟨n1,m1,a1,c1,rfl,hna,hza⟩:=ha.form;obtain⟨n2,m2,a2,c2,rfl,hnb,hzb⟩:=hb.form;have HA:=hid ha.zg;have HB:=hid hb.zg;have HNA:=hid hna;have HNB:=hid hnb;have HZA:=hid (gD_ hza);have HZB:=hid (gD_ hzb);have HSA:=hid hza;have HSB:=hid hzb;have HG1:=hid (hG.below hb1);clear ha hb hna hnb hza hzb)
 have HP:=hid (PairAt.start w1 n1 n2 (.slice a1 (dig 10000 m1).length c1) (.slice a2 (dig 10000 m2).length c2)).drew
 go_region_held3 (fun W=>W.cell? ⟨w1.heap.size,1,none⟩=some (.slice a1 (dig 10000 m1).length c1)∧W.cell? ⟨w1.heap.size+1,1,none⟩=some (.slice a2 (dig 10000 m2).length c2)) (first|exact⟨HP.out.x1,HP.out.y1⟩) (first|fail)
 go_wp2
 obtain⟨W0,hW0⟩:∃W0,((w1.alloc (Obj.cells #[Value.bool n1,Value.slice a1 (dig 10000 m1).length c1] 222)).alloc (Obj.cells #[Value.bool n2,Value.slice a2 (dig 10000 m2).length c2] 222)).drew=W0:=⟨_,rfl⟩
 have hbW:Below w1.heap.size w1 W0:=by rw[←hW0];exact B2d w1 _ _
 have hw1:=hb1.size
 rw[hW0]
 clear hW0
 go_loopw [9,10,11,12] (fun k l _ _ wr=>∃(K L:Nat) (ka la:Option Addr) (kc lc:Nat),k=.slice ka (dig 10000 K).length kc∧l=.slice la (dig 10000 L).length lc∧Nm wr k K w.heap.size wr.heap.size∧Nm wr l L w.heap.size wr.heap.size∧K<10000^50∧L<10000^50∧Nat.gcd K L=Nat.gcd x.natAbs y.natAbs∧Below w.heap.size w wr)
  (fun _ l _ _ wr=>μ wr l)
 case atStart=>
  refine⟨m1,m2,a1,a2,c1,c2,rfl,rfl,(HNA.out.below hbW (Nat.le_refl _)).mono (Nat.le_refl _) hbW.size,(HNB.out.below hbW (Nat.le_refl _)).mono (Nat.le_refl _) hbW.size,?_,?_,?_,hb1.trans (hbW.mono hw1)⟩
  ·rw[HSA.out.2];exact hX
  ·rw[HSB.out.2];exact hY
  ·rw[HSA.out.2,HSB.out.2]
 case round=>
  obtain⟨K,L,ka,la,kc,lc,rfl,rfl,hk,hl,hK,hL,hgcd,hb⟩:=hrel
  have hfK:(dig 10000 K).length≤50:=(aT_ (by omega) _ _).2 hK
  have hfL:(dig 10000 L).length≤50:=(aT_ (by omega) _ _).2 hL
  have hpos:=mV_ hl
  have HK:=hid hk
  have HL:=hid hl
  have HGC:=hid hgcd
  have HKb:=hid hK
  have HLb:=hid hL
  have HGw:=hid (hG.below hb)
  have hwr:=hb.size
  clear hk hl hgcd hK hL
  rcases Nat.eq_zero_or_pos L with h0|h0
  ·have hz:=hpos.2 h0
   clear hpos
   rw[hz]
   go_wp2_with (go_at_call 224;refine(iH_ _ (K:Int) _ _ _ (by exact HGw.out) (by exact Zg.of (neg:=false) HK.out rfl) (Nat.le_refl _) (by show(dig 10000 K).length≤1000000;omega)).mono ?_;rintro e w3 ⟨⟨s,n,hs,rfl⟩,hb3⟩)
   have e:Nat.gcd x.natAbs y.natAbs=K:=by rw[←HGC.out,h0,Nat.gcd_zero_right]
   refine bodyPost_ret (v:=.tuple #[.string s,.int .i64 n]) ?_ rfl ⟨⟨s,n,by rw[e];exact hs,rfl⟩,hb.trans (hb3.mono hwr)⟩
   simp[results,Tryz.results233,go_sem]
  ·have hz:0<(dig 10000 L).length:=by omega
   clear hpos
   go_wp2_with (go_at_call 234;refine(lN_ _ _ K L _ _ _ _ _ (by exact HK.out) (by exact HL.out) (Nat.le_refl _) (Nat.le_refl _) (by omega) (by omega) h0).mono ?_;rintro e w3 ⟨⟨q,r,rfl,hq,hr⟩,hb3⟩;obtain⟨qa,qc,rfl⟩:∃a cap,q=.slice a (dig 10000 (K/L)).length cap:=(by obtain⟨a,cap,e,_⟩:=hq;exact⟨a,cap,e⟩);obtain⟨ra,rc,rfl⟩:∃a cap,r=.slice a (dig 10000 (K%L)).length cap:=(by obtain⟨a,cap,e,_⟩:=hr;exact⟨a,cap,e⟩);have HR:=hid hr;clear hq hr)
   have hlt:K%L<L:=Nat.mod_lt _ h0
   refine⟨⟨L,K%L,la,ra,lc,rc,rfl,rfl,(HL.out.below hb3 (Nat.le_refl _)).mono (Nat.le_refl _) hb3.size,HR.out.mono hwr (Nat.le_refl _),HLb.out,Nat.lt_trans hlt HLb.out,?_,hb.trans (hb3.mono hwr)⟩,?_⟩
   ·rw[←HGC.out,Nat.gcd_comm K L,Nat.gcd_rec L K,Nat.gcd_comm]
   ·rw[hMU.out _ _ _ _ _ HR.out,hMU.out _ _ _ _ _ HL.out];exact hlt
theorem aIP {m:Nat} (h:m=(0:Int).natAbs):(dig 10000 m).length=0:=by
 rw[h];rfl
theorem kP_ {x b q r:Int} (h:x=b*q+r) (h0:0≤r) (h1:r<b):x/b=q∧x%b=r:=
 (Int.ediv_emod_unique (by omega)).2 ⟨by omega,h0,h1⟩
theorem gM_ {x y q r:Int} (h:x=(y.natAbs:Int)*q+r) (h0:0≤r) (h1:r<y.natAbs):x/y=(if y<0 then -q else q)∧x%y=r:=by
 by_cases hy:y<0
 ·have hb:((y.natAbs:Nat):Int) = -y:=by omega
  rw[hb] at h h1
  have:=kP_ h h0 h1
  rw[Int.ediv_neg,Int.emod_neg] at this
  rw[if_pos hy]
  exact⟨by omega,this.2⟩
 ·have hb:((y.natAbs:Nat):Int)=y:=by omega
  rw[hb] at h h1
  rw[if_neg hy]
  exact kP_ h h0 h1
theorem tW_ {x y:Int} {n1 n2:Bool} {K L:Nat} (hx:n1=decide (x<0)∧K=x.natAbs) (hy:n2=decide (y<0)∧L=y.natAbs) (h0:0<L) (hc:n1=false∨K%L=0) :
  x/y=(if (n1 != n2)=true then -((K/L:Nat):Int) else ((K/L:Nat):Int))∧x%y=((K%L:Nat):Int):=by
 obtain⟨rfl,rfl⟩:=hx
 obtain⟨rfl,rfl⟩:=hy
 have hK:=Nat.div_add_mod x.natAbs y.natAbs
 have hr:=Nat.mod_lt x.natAbs h0
 generalize x.natAbs/y.natAbs=q at *
 generalize x.natAbs%y.natAbs=r at *
 have hKi:((y.natAbs:Nat):Int)*(q:Int)+r=x.natAbs:=by exact_mod_cast hK
 by_cases hx0:x<0
 ·have hr0:r=0:=by
   rcases hc with h|h
   ·simp at h;omega
   ·exact h
  subst hr0
  have:=gM_ (x:=x) (y:=y) (q:=-(q:Int)) (r:=0) (by rw[Int.mul_neg];omega) (by omega) (by omega)
  refine⟨?_,by simpa using this.2⟩
  rw[this.1]
  by_cases hy0:y<0 <;> simp[hx0,hy0]
 ·have:=gM_ (x:=x) (y:=y) (q:=(q:Int)) (r:=r) (by omega) (by omega) (by omega)
  refine⟨?_,this.2⟩
  rw[this.1]
  by_cases hy0:y<0 <;> simp[hx0,hy0]
theorem div_up {x y:Int} {n1 n2:Bool} {K L:Nat} (hx:n1=decide (x<0)∧K=x.natAbs) (hy:n2=decide (y<0)∧L=y.natAbs) (h0:0<L) (hc:n1=true) (hr1:K%L≠0) :
  x/y=(if (n1 != n2)=true then -((K/L+1:Nat):Int) else ((K/L+1:Nat):Int))∧x%y=((L-K%L:Nat):Int):=by
 obtain⟨rfl,rfl⟩:=hx
 obtain⟨rfl,rfl⟩:=hy
 have hK:=Nat.div_add_mod x.natAbs y.natAbs
 have hr:=Nat.mod_lt x.natAbs h0
 generalize x.natAbs/y.natAbs=q at *
 generalize x.natAbs%y.natAbs=r at *
 have hKi:((y.natAbs:Nat):Int)*(q:Int)+r=x.natAbs:=by exact_mod_cast hK
 have hx0:x<0:=by simpa using hc
 have:=gM_ (x:=x) (y:=y) (q:=-((q+1:Nat):Int)) (r:=((y.natAbs-r:Nat):Int)) (by
  rw[Int.mul_neg,show((q+1:Nat):Int)=(q:Int)+1 from by omega,Int.mul_add,Int.mul_one];omega) (by omega) (by omega)
 refine⟨?_,this.2⟩
 rw[this.1]
 by_cases hy0:y<0 <;> simp[hx0,hy0]
theorem aON (w:World):Calls Tryz.prog 236 #[] w fun e w'=>(∃v,e=.returned v∧Nm w' v 1 w.heap.size w'.heap.size)∧Below w.heap.size w w':=by
 go_enter Tryz.func236,Tryz.ntmps236
 go_wp2
 go_ret
 refine⟨⟨_,rfl,?_⟩,(Below.refl _ _).alloc (Nat.le_refl _) _⟩
 have h1:dig 10000 1=[1]:=by decide
 show Ns _ _ (dig 10000 1) _ _
 rw[h1]
 refine⟨_,1,rfl,by decide,by decide,by decide,fun h=>by simp at h,fun ad ha=>?_⟩
 simp only[Option.some.injEq] at ha
 subst ha
 refine⟨w.heap.size,0,rfl,Nat.le_refl _,by simp,?_⟩
 intro i u hu
 cases i with
 | zero=>simp at hu;subst hu;simp[go_sem]
 | succ i=>simp at hu
theorem dO_ (v:Value) (z:Int) (lo hi:Nat) (w:World) (hG:Glob w) (h:Zg w v z lo hi) (b:hi≤w.heap.size) (hs:small z=true) :
  Calls Tryz.prog 224 #[v] w fun e w'=>(∃s,s=str z∧e=.returned (.tuple #[.string s,.int .i64 0]))∧Below w.heap.size w w':=by
 refine(iH_ v z lo hi w hG h b (jM_ hs)).mono ?_
 rintro e w' ⟨⟨s,n,h1,rfl⟩,hb⟩
 unfold outZ at h1
 rw[if_pos hs] at h1
 simp only[Array.mk.injEq,List.cons.injEq,Value.string.injEq,Value.int.injEq,true_and,and_true] at h1
 obtain⟨rfl,rfl⟩:=h1
 exact⟨⟨_,rfl,rfl⟩,hb⟩
theorem iN_ {z y:Int} (h:small y=true) (hl:z.natAbs≤y.natAbs):small z=true:=by
 unfold small at h⊢
 simp only[decide_eq_true_eq] at h⊢
 rw[jR_ (by omega)] at h⊢
 omega
theorem bD_ {x:Int} (y:Int) (h:small x=true):small (x/y)=true:=iN_ h (Int.natAbs_ediv_le_natAbs x y)
theorem eQ_ {x y:Int} (hy:y≠0) (h:small y=true):small (x%y)=true:=by
 refine iN_ h ?_
 have h1:=Int.emod_nonneg x hy
 have h2:=Int.emod_lt x hy
 omega
theorem div_A {x y:Int} {n2:Bool} {K L:Nat} (hx:false=decide (x<0)∧K=x.natAbs) (hy:n2=decide (y<0)∧L=y.natAbs) (h0:0<L) :
  x/y=(if n2=true then -((K/L:Nat):Int) else ((K/L:Nat):Int))∧x%y=if false=true then -((K%L:Nat):Int) else ((K%L:Nat):Int):=by
 have:=tW_ hx hy h0 (.inl rfl)
 cases n2 <;> simpa using this
theorem div_B {x y:Int} {n2:Bool} {K L:Nat} (hx:true=decide (x<0)∧K=x.natAbs) (hy:n2=decide (y<0)∧L=y.natAbs) (h0:0<L) (hm:K%L=0) :
  x/y=(if (!n2)=true then -((K/L:Nat):Int) else ((K/L:Nat):Int))∧x%y=if false=true then -((K%L:Nat):Int) else ((K%L:Nat):Int):=by
 have:=tW_ hx hy h0 (.inr hm)
 cases n2 <;> simpa using this
theorem div_C {x y:Int} {n2:Bool} {K L:Nat} (hx:true=decide (x<0)∧K=x.natAbs) (hy:n2=decide (y<0)∧L=y.natAbs) (h0:0<L) (hm:K%L≠0) :
  x/y=(if (!n2)=true then -((K/L+1:Nat):Int) else ((K/L+1:Nat):Int))∧x%y=if false=true then -((L-K%L:Nat):Int) else ((L-K%L:Nat):Int):=by
 have:=div_up hx hy h0 rfl hm
 cases n2 <;> simpa using this
theorem aML (x:Int) (w:World) (_hG:Glob w) (hx:small x=true) :
  Calls Tryz.prog 185 #[.string (str x),.string (str 0)] w fun e w'=>e=.returned (.tuple #[.string ⟨#[]⟩,.string ⟨#[]⟩,.int .i64 30])∧Below w.heap.size w w':=by
 have hB:=fun W=>fS_ x 0 W (by simpa[small] using hx) (by decide)
 generalize str x=sx at hB⊢
 generalize str 0=sy at hB⊢
 go_enter Tryz.func185,Tryz.ntmps185
 go_wp2_with (go_at_call 222;with_reducible refine(hB _).mono ?_;rintro e w1 ⟨⟨va,vb,rfl,ha,hb⟩,hb1⟩;obtain⟨n1,m1,a1,c1,rfl,hna,hza⟩:=ha.form;obtain⟨n2,m2,a2,c2,rfl,hnb,hzb⟩:=hb.form;have hm2:=aIP hzb.2;clear ha hb hza hzb hna hnb)
 refine bodyPost_ret (v:=.tuple #[.string ⟨#[]⟩,.string ⟨#[]⟩,.int .i64 30]) ?_ rfl ⟨rfl,hb1.trans ((B2 w1 _ _).mono hb1.size)⟩
 simp[results,Tryz.results185,go_sem]
theorem Div_A (x y:Int) (w:World) (hG:Glob w) (hx:small x=true) (hy:small y=true) (hy0:y≠0) (hneg:¬x<0) :
  Calls Tryz.prog 185 #[.string (str x),.string (str y)] w fun e w'=>e=.returned (.tuple #[.string (str (x/y)),.string (str (x%y)),.int .i64 0])∧Below w.heap.size w w':=by
 have hB:=fun W=>fS_ x y W (by simpa[small] using hx) (by simpa[small] using hy)
 have hsd:=bD_ y hx
 have hsm:=eQ_ (x:=x) hy0 hy
 have hL0:0<y.natAbs:=by omega
 generalize str x=sx at hB⊢
 generalize str y=sy at hB⊢
 obtain⟨sq,hsq⟩:∃s,s=str (x/y):=⟨_,rfl⟩
 obtain⟨sr,hsr⟩:∃s,s=str (x%y):=⟨_,rfl⟩
 rw[←hsq,←hsr]
 have HSQ:=hid hsq
 have HSR:=hid hsr
 clear hsq hsr
 have HX:=hid (cR_ hx)
 have HY:=hid (cR_ hy)
 go_enter Tryz.func185,Tryz.ntmps185
 go_wp2_with (first
  | (go_at_call 222;with_reducible refine(hB _).mono ?_;rintro e w1 ⟨⟨va,vb,rfl,ha,hb⟩,hb1⟩;obtain⟨n1,m1,a1,c1,rfl,hna,hza⟩:=ha.form;obtain⟨n2,m2,a2,c2,rfl,hnb,hzb⟩:=hb.form;have HA:=hid ha.zg;have HB:=hid hb.zg;have HNA:=hid hna;have HNB:=hid hnb;have HZA:=hid (gD_ hza);have HZB:=hid (gD_ hzb);have HSA:=hid hza;have HSB:=hid hzb;have HG1:=hid (hG.below hb1);have hm2:0<(dig 10000 m2).length:=(by have h1:=mV_ hnb;have h2:=hzb.2;omega);have hf1:(dig 10000 m1).length≤50:=(by rw[hza.2];exact HX.out);have hf2:(dig 10000 m2).length≤50:=(by rw[hzb.2];exact HY.out);obtain rfl:n1=false:=(by rw[hza.1];exact decide_eq_false hneg);clear ha hb hna hnb hza hzb)
  | (go_at_call 234;refine(lN_ _ _ m1 m2 _ _ _ _ _ (by exact HNA.out.below (B2 w1 _ _) (Nat.le_refl _)) (by exact HNB.out.below (B2 w1 _ _) (Nat.le_refl _)) (by exact(B2 w1 _ _).size) (by exact(B2 w1 _ _).size) (by omega) (by omega) (by rw[HSB.out.2];exact hL0)).mono ?_;rintro e w2 ⟨⟨q,r,rfl,hq,hr⟩,hb2⟩;obtain⟨qa,qc,rfl⟩:∃a cap,q=.slice a (dig 10000 (m1/m2)).length cap:=(by obtain⟨a,cap,e,_⟩:=hq;exact⟨a,cap,e⟩);obtain⟨ra,rc,rfl⟩:∃a cap,r=.slice a (dig 10000 (m1%m2)).length cap:=(by obtain⟨a,cap,e,_⟩:=hr;exact⟨a,cap,e⟩);have hrz:=mV_ hr;have hrr:True:=trivial;have HQ:=hid hq;have HR:=hid hr;clear hq hr;have hbw:Below w1.heap.size w1 w2:=(B2 w1 _ _).trans (hb2.mono (B2 w1 _ _).size);have HG2:=hid (HG1.out.below hbw);have HP2:=hid ((PairAt.start w1 false n2 (.slice a1 (dig 10000 m1).length c1) (.slice a2 (dig 10000 m2).length c2)).below hb2);have q1:=HP2.out.x0;have q2:=HP2.out.x1;have q3:=HP2.out.y0;have q4:=HP2.out.y1;clear hrz;have HD:=hid (div_A HSA.out HSB.out (by rw[HSB.out.2];exact hL0)))
  | (go_at_call 224;refine(dO_ _ (x/y) _ _ _ (by exact HG2.out) (by exact Zg.of HQ.out HD.out.1) (Nat.le_refl _) hsd).mono ?_;rintro e w3 ⟨⟨s,hs,rfl⟩,hb3⟩;obtain rfl:s=sq:=hs.trans HSQ.out.symm;clear hs;have HG3:=hid (HG2.out.below hb3);have HR3:=hid (HR.out.below hb3 (Nat.le_refl _)))
  | (go_at_call 224;refine(dO_ _ (x%y) _ _ _ (by exact HG3.out) (by exact Zg.of (neg:=false) HR3.out HD.out.2) (by exact hb3.size) hsm).mono ?_;rintro e w4 ⟨⟨s',hs,rfl⟩,hb4⟩;obtain rfl:s'=sr:=hs.trans HSR.out.symm;clear hs))
 refine bodyPost_ret (v:=.tuple #[.string s,.string s',.int .i64 0]) ?_ rfl ⟨rfl,(hb1.trans (hbw.mono hb1.size)).trans ((hb3.trans (hb4.mono hb3.size)).mono (Nat.le_trans hb1.size hbw.size))⟩
 simp[results,Tryz.results185,go_sem]
theorem Div_B (x y:Int) (w:World) (hG:Glob w) (hx:small x=true) (hy:small y=true) (hy0:y≠0) (hneg:x<0) (hmod:x.natAbs%y.natAbs=0) :
  Calls Tryz.prog 185 #[.string (str x),.string (str y)] w fun e w'=>e=.returned (.tuple #[.string (str (x/y)),.string (str (x%y)),.int .i64 0])∧Below w.heap.size w w':=by
 have hB:=fun W=>fS_ x y W (by simpa[small] using hx) (by simpa[small] using hy)
 have hsd:=bD_ y hx
 have hsm:=eQ_ (x:=x) hy0 hy
 have hL0:0<y.natAbs:=by omega
 generalize str x=sx at hB⊢
 generalize str y=sy at hB⊢
 obtain⟨sq,hsq⟩:∃s,s=str (x/y):=⟨_,rfl⟩
 obtain⟨sr,hsr⟩:∃s,s=str (x%y):=⟨_,rfl⟩
 rw[←hsq,←hsr]
 have HSQ:=hid hsq
 have HSR:=hid hsr
 clear hsq hsr
 have HX:=hid (cR_ hx)
 have HY:=hid (cR_ hy)
 go_enter Tryz.func185,Tryz.ntmps185
 go_wp2_with (first
  | (go_at_call 222;with_reducible refine(hB _).mono ?_;rintro e w1 ⟨⟨va,vb,rfl,ha,hb⟩,hb1⟩;obtain⟨n1,m1,a1,c1,rfl,hna,hza⟩:=ha.form;obtain⟨n2,m2,a2,c2,rfl,hnb,hzb⟩:=hb.form;have HA:=hid ha.zg;have HB:=hid hb.zg;have HNA:=hid hna;have HNB:=hid hnb;have HZA:=hid (gD_ hza);have HZB:=hid (gD_ hzb);have HSA:=hid hza;have HSB:=hid hzb;have HG1:=hid (hG.below hb1);have hm2:0<(dig 10000 m2).length:=(by have h1:=mV_ hnb;have h2:=hzb.2;omega);have hf1:(dig 10000 m1).length≤50:=(by rw[hza.2];exact HX.out);have hf2:(dig 10000 m2).length≤50:=(by rw[hzb.2];exact HY.out);obtain rfl:n1=true:=(by rw[hza.1];exact decide_eq_true hneg);clear ha hb hna hnb hza hzb)
  | (go_at_call 234;refine(lN_ _ _ m1 m2 _ _ _ _ _ (by exact HNA.out.below (B2 w1 _ _) (Nat.le_refl _)) (by exact HNB.out.below (B2 w1 _ _) (Nat.le_refl _)) (by exact(B2 w1 _ _).size) (by exact(B2 w1 _ _).size) (by omega) (by omega) (by rw[HSB.out.2];exact hL0)).mono ?_;rintro e w2 ⟨⟨q,r,rfl,hq,hr⟩,hb2⟩;obtain⟨qa,qc,rfl⟩:∃a cap,q=.slice a (dig 10000 (m1/m2)).length cap:=(by obtain⟨a,cap,e,_⟩:=hq;exact⟨a,cap,e⟩);obtain⟨ra,rc,rfl⟩:∃a cap,r=.slice a (dig 10000 (m1%m2)).length cap:=(by obtain⟨a,cap,e,_⟩:=hr;exact⟨a,cap,e⟩);have hrz:=mV_ hr;have hrr:(dig 10000 (m1%m2)).length=0:=(by rw[hrz,HSA.out.2,HSB.out.2];exact hmod);rw[hrr] at hr;have HQ:=hid hq;have HR:=hid hr;clear hq hr;have hbw:Below w1.heap.size w1 w2:=(B2 w1 _ _).trans (hb2.mono (B2 w1 _ _).size);have HG2:=hid (HG1.out.below hbw);have HP2:=hid ((PairAt.start w1 true n2 (.slice a1 (dig 10000 m1).length c1) (.slice a2 (dig 10000 m2).length c2)).below hb2);have q1:=HP2.out.x0;have q2:=HP2.out.x1;have q3:=HP2.out.y0;have q4:=HP2.out.y1;clear hrz;have HD:=hid (div_B HSA.out HSB.out (by rw[HSB.out.2];exact hL0) (by rw[HSA.out.2,HSB.out.2];exact hmod)))
  | (go_at_call 224;refine(dO_ _ (x/y) _ _ _ (by exact HG2.out) (by exact Zg.of HQ.out HD.out.1) (Nat.le_refl _) hsd).mono ?_;rintro e w3 ⟨⟨s,hs,rfl⟩,hb3⟩;obtain rfl:s=sq:=hs.trans HSQ.out.symm;clear hs;have HG3:=hid (HG2.out.below hb3);have HR3:=hid (HR.out.below hb3 (Nat.le_refl _)))
  | (go_at_call 224;refine(dO_ _ (x%y) _ _ _ (by exact HG3.out) (by exact Zg.of (neg:=false) HR3.out HD.out.2) (by exact hb3.size) hsm).mono ?_;rintro e w4 ⟨⟨s',hs,rfl⟩,hb4⟩;obtain rfl:s'=sr:=hs.trans HSR.out.symm;clear hs))
 refine bodyPost_ret (v:=.tuple #[.string s,.string s',.int .i64 0]) ?_ rfl ⟨rfl,(hb1.trans (hbw.mono hb1.size)).trans ((hb3.trans (hb4.mono hb3.size)).mono (Nat.le_trans hb1.size hbw.size))⟩
 simp[results,Tryz.results185,go_sem]
theorem Div_C (x y:Int) (w:World) (hG:Glob w) (hx:small x=true) (hy:small y=true) (hy0:y≠0) (hneg:x<0) (hmod:x.natAbs%y.natAbs≠0) :
  Calls Tryz.prog 185 #[.string (str x),.string (str y)] w fun e w'=>e=.returned (.tuple #[.string (str (x/y)),.string (str (x%y)),.int .i64 0])∧Below w.heap.size w w':=by
 have hB:=fun W=>fS_ x y W (by simpa[small] using hx) (by simpa[small] using hy)
 have hsd:=bD_ y hx
 have hsm:=eQ_ (x:=x) hy0 hy
 have hL0:0<y.natAbs:=by omega
 generalize str x=sx at hB⊢
 generalize str y=sy at hB⊢
 obtain⟨sq,hsq⟩:∃s,s=str (x/y):=⟨_,rfl⟩
 obtain⟨sr,hsr⟩:∃s,s=str (x%y):=⟨_,rfl⟩
 rw[←hsq,←hsr]
 have HSQ:=hid hsq
 have HSR:=hid hsr
 clear hsq hsr
 have HX:=hid (cR_ hx)
 have HY:=hid (cR_ hy)
 go_enter Tryz.func185,Tryz.ntmps185
 go_wp2_with (first
  | (go_at_call 222;with_reducible refine(hB _).mono ?_;rintro e w1 ⟨⟨va,vb,rfl,ha,hb⟩,hb1⟩;obtain⟨n1,m1,a1,c1,rfl,hna,hza⟩:=ha.form;obtain⟨n2,m2,a2,c2,rfl,hnb,hzb⟩:=hb.form;have HA:=hid ha.zg;have HB:=hid hb.zg;have HNA:=hid hna;have HNB:=hid hnb;have HZA:=hid (gD_ hza);have HZB:=hid (gD_ hzb);have HSA:=hid hza;have HSB:=hid hzb;have HG1:=hid (hG.below hb1);have hm2:0<(dig 10000 m2).length:=(by have h1:=mV_ hnb;have h2:=hzb.2;omega);have hf1:(dig 10000 m1).length≤50:=(by rw[hza.2];exact HX.out);have hf2:(dig 10000 m2).length≤50:=(by rw[hzb.2];exact HY.out);obtain rfl:n1=true:=(by rw[hza.1];exact decide_eq_true hneg);clear ha hb hna hnb hza hzb)
  | (go_at_call 234;refine(lN_ _ _ m1 m2 _ _ _ _ _ (by exact HNA.out.below (B2 w1 _ _) (Nat.le_refl _)) (by exact HNB.out.below (B2 w1 _ _) (Nat.le_refl _)) (by exact(B2 w1 _ _).size) (by exact(B2 w1 _ _).size) (by omega) (by omega) (by rw[HSB.out.2];exact hL0)).mono ?_;rintro e w2 ⟨⟨q,r,rfl,hq,hr⟩,hb2⟩;obtain⟨qa,qc,rfl⟩:∃a cap,q=.slice a (dig 10000 (m1/m2)).length cap:=(by obtain⟨a,cap,e,_⟩:=hq;exact⟨a,cap,e⟩);obtain⟨ra,rc,rfl⟩:∃a cap,r=.slice a (dig 10000 (m1%m2)).length cap:=(by obtain⟨a,cap,e,_⟩:=hr;exact⟨a,cap,e⟩);have hrz:=mV_ hr;have hrr:0<(dig 10000 (m1%m2)).length:=(by rw[HSA.out.2,HSB.out.2] at hrz⊢;omega);have HQ:=hid hq;have HR:=hid hr;clear hq hr;have hbw:Below w1.heap.size w1 w2:=(B2 w1 _ _).trans (hb2.mono (B2 w1 _ _).size);have HG2:=hid (HG1.out.below hbw);have HP2:=hid ((PairAt.start w1 true n2 (.slice a1 (dig 10000 m1).length c1) (.slice a2 (dig 10000 m2).length c2)).below hb2);have q1:=HP2.out.x0;have q2:=HP2.out.x1;have q3:=HP2.out.y0;have q4:=HP2.out.y1;clear hrz;have HD:=hid (div_C HSA.out HSB.out (by rw[HSB.out.2];exact hL0) (by rw[HSA.out.2,HSB.out.2];exact hmod)))
  | fail)
 have hm2p:0<m2:=by rw[HSB.out.2];exact hL0
 have hle:Hid (m1%m2≤m2):=Nat.le_of_lt (Nat.mod_lt _ hm2p)
 have HF1:Hid (Few 1):=by show _≤_;decide
 have HF2:Hid (Few m2):=by show _≤_;omega
 have HFR:Hid (Few (m1%m2)):=by
  have:=aZ_ (B:=10000) (by omega) hle.out
  show _≤_;omega
 have HFQ:Hid (Few (m1/m2)):=by
  have:=aZ_ (B:=10000) (by omega) (Nat.div_le_self m1 m2)
  show _≤_;omega
 have hS:w2.drew.cell? ⟨w1.heap.size+1,1,none⟩=some (.slice a2 (dig 10000 m2).length c2)∧Below w2.heap.size w2 w2.drew:=⟨q4,(Below.refl _ _).drew⟩
 go_region_held3 (fun W=>W.cell? ⟨w1.heap.size+1,1,none⟩=some (.slice a2 (dig 10000 m2).length c2)∧Below w2.heap.size w2 W) (first|exact hS) (first
  | (go_at_call 236;refine(aON _).mono ?_;rintro e wo ⟨⟨vo,rfl,hvo⟩,hbo⟩;obtain⟨oa,oc,rfl⟩:∃a cap,vo=.slice a (dig 10000 1).length cap:=(by obtain⟨a,cap,e,_⟩:=hvo;exact⟨a,cap,e⟩);have HO:=hid hvo;clear hvo;have hS:=(⟨(hbo.cell (p:=⟨w1.heap.size+1,1,none⟩) (World.block_lt_of_cell? _ _ hS.1)).trans hS.1,hS.2.trans (hbo.mono hS.2.size)⟩:wo.cell? ⟨w1.heap.size+1,1,none⟩=some (.slice a2 (dig 10000 m2).length c2)∧Below w2.heap.size w2 wo))
  | (go_at_call 235;refine(lJ_ _ _ (m1/m2) 1 _ _ _ _ _ (by exact HQ.out.below hS.2 (Nat.le_refl _)) (by first | exact HO.out | exact HO.out.below hbm (Nat.le_refl _)) (by exact hS.2.size) (by first | exact Nat.le_refl _ | exact hbm.size) (by exact HFQ.out) (by exact HF1.out)).mono ?_;rintro e wp ⟨⟨vp,rfl,hvp⟩,hbp⟩;obtain⟨pa,pc,rfl⟩:∃a cap,vp=.slice a (dig 10000 (m1/m2+1)).length cap:=(by obtain⟨a,cap,e,_⟩:=hvp;exact⟨a,cap,e⟩);have HPl:=hid hvp;clear hvp;have hS:=(⟨(hbp.cell (p:=⟨w1.heap.size+1,1,none⟩) (World.block_lt_of_cell? _ _ hS.1)).trans hS.1,hS.2.trans (hbp.mono hS.2.size)⟩:wp.cell? ⟨w1.heap.size+1,1,none⟩=some (.slice a2 (dig 10000 m2).length c2)∧Below w2.heap.size w2 wp))
  | (go_at_call 237;refine(iW_ _ _ m2 (m1%m2) _ _ _ _ _ (by exact(HNB.out.below hbw (Nat.le_refl _)).below hS.2 hbw.size) (by exact HR.out.below hS.2 (Nat.le_refl _)) (by exact Nat.le_trans hbw.size hS.2.size) (by exact hS.2.size) (by exact HF2.out) (by exact HFR.out) (by exact hle.out)).mono ?_;rintro e wm ⟨⟨vm,rfl,hvm⟩,hbm⟩;obtain⟨ma,mc,rfl⟩:∃a cap,vm=.slice a (dig 10000 (m2-m1%m2)).length cap:=(by obtain⟨a,cap,e,_⟩:=hvm;exact⟨a,cap,e⟩);have HM:=hid hvm;clear hvm;have hS:=(⟨(hbm.cell (p:=⟨w1.heap.size+1,1,none⟩) (World.block_lt_of_cell? _ _ hS.1)).trans hS.1,hS.2.trans (hbm.mono hS.2.size)⟩:wm.cell? ⟨w1.heap.size+1,1,none⟩=some (.slice a2 (dig 10000 m2).length c2)∧Below w2.heap.size w2 wm)))
 all_goals
  have HP4:=HP2.out.below hS.2
  have q5:=HP4.x0
  have q6:=HP4.y0
  clear q1 q2 q3 q4
  go_wp2_with (first
   | (go_at_call 224;refine(dO_ _ (x/y) _ _ _ (by exact HG2.out.below hS.2) (by first | exact Zg.of HPl.out HD.out.1 | exact Zg.of (HPl.out.below hbm (Nat.le_refl _)) HD.out.1) (by first | exact Nat.le_refl _ | exact hbm.size) hsd).mono ?_;rintro e w3 ⟨⟨s,hs,rfl⟩,hb3⟩;obtain rfl:s=sq:=hs.trans HSQ.out.symm;clear hs;have HG3:=hid ((HG2.out.below hS.2).below hb3);have HR3:Hid (Nm w3 (.slice ma (dig 10000 (m2-m1%m2)).length mc) (m2-m1%m2) 0 w3.heap.size):=(by first | exact((HM.out.mono (Nat.zero_le _) (Nat.le_refl _)).below hb3 (Nat.le_refl _)).mono (Nat.le_refl _) hb3.size | exact(((HM.out.below hbp (Nat.le_refl _)).mono (Nat.zero_le _) hbp.size).below hb3 (Nat.le_refl _)).mono (Nat.le_refl _) hb3.size | exact(((HM.out.below (hbo.trans (hbp.mono hbo.size)) (Nat.le_refl _)).mono (Nat.zero_le _) (Nat.le_trans hbo.size hbp.size)).below hb3 (Nat.le_refl _)).mono (Nat.le_refl _) hb3.size))
   | (go_at_call 224;refine(dO_ _ (x%y) _ _ _ (by exact HG3.out) (by exact Zg.of (neg:=false) HR3.out HD.out.2) (Nat.le_refl _) hsm).mono ?_;rintro e w4 ⟨⟨s',hs,rfl⟩,hb4⟩;obtain rfl:s'=sr:=hs.trans HSR.out.symm;clear hs))
  refine bodyPost_ret (v:=.tuple #[.string s,.string s',.int .i64 0]) ?_ rfl ⟨rfl,(hb1.trans (hbw.mono hb1.size)).trans ((hS.2.trans ((hb3.trans (hb4.mono hb3.size)).mono hS.2.size)).mono (Nat.le_trans hb1.size hbw.size))⟩
  simp[results,Tryz.results185,go_sem]
theorem Div_ok (x y:Int) (w:World) (hG:Glob w) (hx:small x=true) (hy:small y=true) (hy0:y≠0) :
  Calls Tryz.prog 185 #[.string (str x),.string (str y)] w fun e w'=>e=.returned (.tuple #[.string (str (x/y)),.string (str (x%y)),.int .i64 0])∧Below w.heap.size w w':=by
 by_cases hneg:x<0
 ·by_cases hmod:x.natAbs%y.natAbs=0
  ·exact Div_B x y w hG hx hy hy0 hneg hmod
  ·exact Div_C x y w hG hx hy hy0 hneg hmod
 ·exact Div_A x y w hG hx hy hy0 hneg
end Go.Proofs.YtlikmmpmnaaifaaGreatDoor
namespace Go.Proofs.YtlikmmpmnaaifaaGreatDoor
def ratO (n d:ByteArray):Option Rat:=match aG_ n,aG_ d with|some p,some q=>if 0<q∧Nat.gcd p.natAbs q.natAbs=1 then some (Rat.divInt p q) else none|_,_=>none
theorem mT_ {p q:Int} (hq:0<q):(Rat.divInt p q).num=p/((Nat.gcd p.natAbs q.natAbs:Nat):Int):=by
 rw[Rat.num_divInt,Int.sign_eq_one_of_pos hq,Int.one_mul,Int.gcd_comm]
 rfl
theorem nL_ {p q:Int} (hq:0<q):((Rat.divInt p q).den:Int)=q/((Nat.gcd p.natAbs q.natAbs:Nat):Int):=by
 rw[Rat.den_divInt,if_neg (by omega),Int.natCast_ediv,Int.gcd_comm]
 congr 1
 omega
theorem vK_ {p q:Int} (hq:q<0):(Rat.divInt p q).num = -p/((Nat.gcd (-p).natAbs (-q).natAbs:Nat):Int):=by
 rw[←Rat.neg_divInt_neg]
 exact mT_ (by omega)
theorem wA_ {p q:Int} (hq:q<0):((Rat.divInt p q).den:Int) = -q/((Nat.gcd (-p).natAbs (-q).natAbs:Nat):Int):=by
 rw[←Rat.neg_divInt_neg]
 exact nL_ (by omega)
def fN_ (r:Rat):Prop:=small r.num=true∧small (r.den:Int)=true
theorem aFG {p q:Int} (hq:0<q) (hg:Nat.gcd p.natAbs q.natAbs=1):(Rat.divInt p q).num=p∧((Rat.divInt p q).den:Int)=q:=by
 rw[mT_ hq,nL_ hq,hg]
 exact⟨Int.ediv_one p,Int.ediv_one q⟩
theorem cS_ {n d:ByteArray} {r:Rat} (h:ratO n d=some r):n=str r.num∧d=str (r.den:Int)∧fN_ r:=by
 unfold ratO at h
 cases h1:aG_ n with
 | none=>rw[h1] at h;cases h
 | some p=>
  cases h2:aG_ d with
  | none=>rw[h1,h2] at h;cases h
  | some q=>
   rw[h1,h2] at h
   obtain⟨e1,s1⟩:=bY_ h1
   obtain⟨e2,s2⟩:=bY_ h2
   simp only at h
   split at h
   case isTrue hc=>
    cases h
    obtain⟨k1,k2⟩:=aFG hc.1 hc.2
    unfold fN_
    rw[k1,k2]
    exact⟨e1,e2,s1,s2⟩
   case isFalse=>cases h
theorem aOF (r:Rat):Nat.gcd r.num.natAbs (r.den:Int).natAbs=1:=by
 rw[Int.natAbs_natCast]
 exact r.reduced
theorem bQ_ (r:Rat):0<(r.den:Int):=by
 have:=r.den_nz
 omega
theorem qB_ {r:Rat} (h:fN_ r):ratO (str r.num) (str (r.den:Int))=some r:=by
 unfold ratO
 rw[aW_,aW_,if_pos h.1,if_pos h.2]
 show(if _ then _ else _)=_
 rw[if_pos ⟨bQ_ r,aOF r⟩,Rat.num_divInt_den]
def qN (o:Option Rat):ByteArray:=match o with|some r=>str r.num|none=>⟨#[]⟩
def qD (o:Option Rat):ByteArray:=match o with|some r=>str (r.den:Int)|none=>⟨#[]⟩
def qE (o:Option Rat):Int:=match o with|some _=>0|none=>40
theorem aGD {p q:Int} (hq:q≠0):0<Nat.gcd p.natAbs q.natAbs:=Nat.gcd_pos_of_pos_right _ (by omega)
theorem aLE {p q:Int} (hq:q≠0):Nat.gcd p.natAbs q.natAbs≤q.natAbs:=Nat.gcd_le_right _ (by omega)
def bE_ (p q:Int):Option Rat:=if q=0 then none else some (Rat.divInt p q)
theorem aGL {p q:Int} (hp:small p=true) (hq:small q=true) (h0:q≠0):fN_ (Rat.divInt p q):=by
 rcases Int.lt_or_gt_of_ne h0 with h|h
 ·unfold fN_
  rw[vK_ h,wA_ h]
  exact⟨bD_ _ (dT_ hp),bD_ _ (dT_ hq)⟩
 ·unfold fN_
  rw[mT_ h,nL_ h]
  exact⟨bD_ _ hp,bD_ _ hq⟩
theorem aNH (a b:Rat):a+b=Rat.divInt (a.num*b.den+b.num*a.den) (a.den*b.den):=by
 have h:=Rat.divInt_add_divInt a.num b.num (d₁:=a.den) (d₂:=b.den) (by have:=bQ_ a;omega) (by have:=bQ_ b;omega)
 rwa[Rat.num_divInt_den,Rat.num_divInt_den] at h
theorem aMO (a b:Rat):a-b=Rat.divInt (a.num*b.den-b.num*a.den) (a.den*b.den):=by
 have h:=Rat.divInt_sub_divInt a.num b.num (d₁:=a.den) (d₂:=b.den) (by have:=bQ_ a;omega) (by have:=bQ_ b;omega)
 rwa[Rat.num_divInt_den,Rat.num_divInt_den] at h
theorem aMZ (a b:Rat):a*b=Rat.divInt (a.num*b.num) (a.den*b.den):=by
 have h:=Rat.divInt_mul_divInt a.num b.num (d₁:=a.den) (d₂:=b.den)
 rwa[Rat.num_divInt_den,Rat.num_divInt_den] at h
theorem aNC (a b:Rat):a/b=Rat.divInt (a.num*b.den) (a.den*b.num):=by
 have h:=Rat.divInt_mul_divInt a.num b.den (d₁:=a.den) (d₂:=b.num)
 rw[Rat.num_divInt_den,←Rat.inv_def] at h
 exact h
def addR (a b:Rat):Option Rat:=if small (a.num*b.den)=true∧small (b.num*a.den)=true∧small (a.num*b.den+b.num*a.den)=true∧small ((a.den:Int)*b.den)=true then some (a+b) else none
def subR (a b:Rat):Option Rat:=if small (a.num*b.den)=true∧small (b.num*a.den)=true∧small (a.num*b.den-b.num*a.den)=true∧small ((a.den:Int)*b.den)=true then some (a-b) else none
def mulR (a b:Rat):Option Rat:=if small (a.num*b.num)=true∧small ((a.den:Int)*b.den)=true then some (a*b) else none
def divR (a b:Rat):Option Rat:=if small (a.num*b.den)=true∧small ((a.den:Int)*b.num)=true∧b.num≠0 then some (a/b) else none
theorem wB_ (a b:Rat):0<(a.den:Int)*b.den:=Int.mul_pos (bQ_ a) (bQ_ b)
theorem dQ_ (a b:Rat):(a.den:Int)*b.den≠0:=by have:=wB_ a b;omega
theorem uR_ (a b:Rat):addR a b=if small (a.num*b.den)=true∧small (b.num*a.den)=true∧small (a.num*b.den+b.num*a.den)=true∧small ((a.den:Int)*b.den)=true then bE_ (a.num*b.den+b.num*a.den) (a.den*b.den) else none:=by
 unfold addR bE_
 rw[if_neg (dQ_ a b),←aNH]
theorem sL_ (a b:Rat):subR a b=if small (a.num*b.den)=true∧small (b.num*a.den)=true∧small (a.num*b.den-b.num*a.den)=true∧small ((a.den:Int)*b.den)=true then bE_ (a.num*b.den-b.num*a.den) (a.den*b.den) else none:=by
 unfold subR bE_
 rw[if_neg (dQ_ a b),←aMO]
theorem tH_ (a b:Rat):mulR a b=if small (a.num*b.num)=true∧small ((a.den:Int)*b.den)=true then bE_ (a.num*b.num) (a.den*b.den) else none:=by
 unfold mulR bE_
 rw[if_neg (dQ_ a b),←aMZ]
theorem tX_ (a b:Rat):divR a b=if small (a.num*b.den)=true∧small ((a.den:Int)*b.num)=true then bE_ (a.num*b.den) (a.den*b.num) else none:=by
 unfold divR bE_
 rw[←aNC]
 by_cases h:b.num=0
 ·rw[if_neg (fun k=>k.2.2 h),if_pos (show(a.den:Int)*b.num=0 by rw[h,Int.mul_zero])]
  split <;> rfl
 ·have hn:¬(a.den:Int)*b.num=0:=fun e=>by
   rcases Int.mul_eq_zero.1 e with e|e
   ·have:=bQ_ a;omega
   ·exact h e
  rw[if_neg hn]
  by_cases h1:small (a.num*b.den)=true∧small ((a.den:Int)*b.num)=true
  ·rw[if_pos h1,if_pos ⟨h1.1,h1.2,h⟩]
  ·rw[if_neg h1,if_neg (fun k=>h1 ⟨k.1,k.2.1⟩)]
def cmpR (a b:Rat):Int:=if a<b then -1 else if b<a then 1 else 0
theorem rF_ {a b:Rat} (h:a<b):cmpR a b = -1:=by unfold cmpR;rw[if_pos h]
theorem rG_ {a b:Rat} (h:b<a):cmpR a b=1:=by
 unfold cmpR
 rw[if_neg (Rat.not_lt.2 (Rat.le_of_lt h)),if_pos h]
theorem wK_ (a:Rat):cmpR a a=0:=by
 unfold cmpR
 rw[if_neg Rat.lt_irrefl,if_neg Rat.lt_irrefl]
theorem pI_ (a b:Rat):(a<b∧cmpR a b = -1)∨(a=b∧cmpR a b=0)∨(b<a∧cmpR a b=1):=by
 by_cases h1:a<b
 ·exact .inl ⟨h1,rF_ h1⟩
 ·by_cases h2:b<a
  ·exact .inr (.inr ⟨h2,rG_ h2⟩)
  ·have e:a=b:=Rat.le_antisymm (Rat.not_lt.1 h2) (Rat.not_lt.1 h1)
   exact .inr (.inl ⟨e,by rw[e];exact wK_ b⟩)
theorem jD_ (a:Rat):a.floor=a.num/(a.den:Int):=Rat.floor_def a
theorem pH_ {a b:Rat} (h:cmpI a.floor b.floor≠0):cmpR a b=cmpI a.floor b.floor:=by
 unfold cmpI at h⊢
 split at h
 case isTrue h1=>
  rw[if_pos h1]
  refine rF_ ?_
  refine Rat.not_le.1 fun k=>?_
  have:=Rat.floor_monotone k
  omega
 case isFalse h1=>
  split at h
  case isTrue h2=>
   rw[if_neg h1,if_pos h2]
   refine rG_ ?_
   refine Rat.not_le.1 fun k=>?_
   have:=Rat.floor_monotone k
   omega
  case isFalse=>exact absurd rfl h
theorem mH_ (a:Rat):a=(a.floor:Rat)+Rat.divInt (a.num%a.den) a.den:=by
 have h:=Rat.divInt_add_divInt a.floor (a.num%a.den) (d₁:=1) (d₂:=a.den) (by omega) (by have:=bQ_ a;omega)
 have h1:Rat.divInt a.floor 1=(a.floor:Rat):=Rat.num_divInt_den (a.floor:Rat)
 rw[h1] at h
 rw[h,Int.one_mul,Int.mul_one,jD_,Int.mul_comm,Int.mul_ediv_add_emod]
 exact(Rat.num_divInt_den a).symm
theorem aHR (a b:Rat):cmpR b a = -cmpR a b:=by
 rcases pI_ a b with ⟨h,e⟩|⟨h,e⟩|⟨h,e⟩
 ·rw[e,rG_ h];rfl
 ·rw[e,h,wK_];rfl
 ·rw[e,rF_ h]
theorem aBM {a b c d:Rat} (h1:a<b↔c<d) (h2:b<a↔d<c):cmpR a b=cmpR c d:=by
 unfold cmpR
 by_cases k1:a<b
 ·rw[if_pos k1,if_pos (h1.1 k1)]
 ·rw[if_neg k1,if_neg (fun k=>k1 (h1.2 k))]
  by_cases k2:b<a
  ·rw[if_pos k2,if_pos (h2.1 k2)]
  ·rw[if_neg k2,if_neg (fun k=>k2 (h2.2 k))]
theorem oV_ {x y:Rat} (hx:0<x) (hy:0<y):x<y↔y⁻¹<x⁻¹:=by
 have hix:=Rat.inv_pos.2 hx
 have hiy:=Rat.inv_pos.2 hy
 have key:∀{u v:Rat},0<u→0<v→u<v→v⁻¹<u⁻¹:=by
  intro u v hu hv h
  have hp:=Rat.mul_pos (Rat.inv_pos.2 hu) (Rat.inv_pos.2 hv)
  have h1:=Rat.mul_lt_mul_of_pos_right h hp
  rw[←Rat.mul_assoc,Rat.mul_inv_cancel u (Rat.ne_of_gt hu),Rat.one_mul,Rat.mul_comm u⁻¹,←Rat.mul_assoc,Rat.mul_inv_cancel v (Rat.ne_of_gt hv),Rat.one_mul] at h1
  exact h1
 refine⟨key hx hy,fun h=>?_⟩
 have:=key hiy hix h
 rwa[Rat.inv_inv,Rat.inv_inv] at this
theorem qA_ {a:Rat} (h:a.num%(a.den:Int)≠0):0<a.num%(a.den:Int)∧a.num%(a.den:Int)<a.den:=by
 have h1:=Int.emod_nonneg a.num (show(a.den:Int)≠0 by have:=bQ_ a;omega)
 have h2:=Int.emod_lt_of_pos a.num (bQ_ a)
 omega
theorem iO_ {a:Rat} (h:a.num%(a.den:Int)=0):a=(a.floor:Rat):=by
 have:=mH_ a
 rw[h,Rat.zero_divInt,Rat.add_zero] at this
 exact this
theorem fM_ {a:Rat} (h:a.num%(a.den:Int)≠0):(a.floor:Rat)<a:=by
 have h1:=Rat.floor_le a
 refine Rat.lt_of_le_of_ne h1 fun e=>h ?_
 have hd:a.den=1:=by rw[←e];rfl
 rw[hd]
 exact Int.emod_one _
theorem uD_ {a b:Rat} (hf:a.floor=b.floor) :
  cmpR a b=if a.num%(a.den:Int)=0 then (if b.num%(b.den:Int)=0 then 0 else -1) else (if b.num%(b.den:Int)=0 then 1 else -cmpR (Rat.divInt a.den (a.num%a.den)) (Rat.divInt b.den (b.num%b.den))):=by
 by_cases ha:a.num%(a.den:Int)=0
 ·rw[if_pos ha]
  by_cases hb:b.num%(b.den:Int)=0
  ·rw[if_pos hb]
   have e:a=b:=by rw[iO_ ha,hf,←iO_ hb]
   rw[e,wK_]
  ·rw[if_neg hb]
   refine rF_ ?_
   rw[iO_ ha,hf]
   exact fM_ hb
 ·rw[if_neg ha]
  by_cases hb:b.num%(b.den:Int)=0
  ·rw[if_pos hb]
   refine rG_ ?_
   rw[iO_ hb,←hf]
   exact fM_ ha
  ·rw[if_neg hb,←aHR]
   have hx:0<Rat.divInt (a.num%a.den) a.den:=by
    have h1:=fM_ ha
    have h2:=mH_ a
    generalize Rat.divInt (a.num%a.den) a.den=x at h2
    rw[h2] at h1
    have h3:(a.floor:Rat)+0<(a.floor:Rat)+x:=by
     rw[Rat.add_zero]
     have e:((a.floor:Rat)+x).floor=a.floor:=by rw[←h2]
     rwa[e] at h1
    exact Rat.add_lt_add_left.1 h3
   have hy:0<Rat.divInt (b.num%b.den) b.den:=by
    have h1:=fM_ hb
    have h2:=mH_ b
    generalize Rat.divInt (b.num%b.den) b.den=x at h2
    rw[h2] at h1
    have h3:(b.floor:Rat)+0<(b.floor:Rat)+x:=by
     rw[Rat.add_zero]
     have e:((b.floor:Rat)+x).floor=b.floor:=by rw[←h2]
     rwa[e] at h1
    exact Rat.add_lt_add_left.1 h3
   have ea:=mH_ a
   have eb:=mH_ b
   rw[←hf] at eb
   rw[show Rat.divInt a.den (a.num%a.den)=(Rat.divInt (a.num%a.den) a.den)⁻¹ from(Rat.inv_divInt _ _).symm,show Rat.divInt b.den (b.num%b.den)=(Rat.divInt (b.num%b.den) b.den)⁻¹ from(Rat.inv_divInt _ _).symm]
   generalize Rat.divInt (a.num%a.den) a.den=x at ea hx
   generalize Rat.divInt (b.num%b.den) b.den=y at eb hy
   refine aBM ?_ ?_
   ·rw[←oV_ hx hy]
    generalize (a.floor:Rat)=f at ea eb
    rw[ea,eb]
    exact Rat.add_lt_add_left
   ·rw[←oV_ hy hx]
    generalize (a.floor:Rat)=f at ea eb
    rw[ea,eb]
    exact Rat.add_lt_add_left
theorem yI_ {a:Rat} (h:a.num%(a.den:Int)≠0):(Rat.divInt a.den (a.num%a.den)).num=a.den∧((Rat.divInt a.den (a.num%a.den)).den:Int)=a.num%a.den:=by
 refine aFG (qA_ h).1 ?_
 have h1:=a.reduced
 have h2:=(qA_ h).1
 unfold Nat.Coprime at h1
 have e:Int.gcd (a.den:Int) (a.num%a.den)=1:=by
  have h4:a.num=(a.num%(a.den:Int))+(a.den:Int)*(a.num/(a.den:Int)):=(Int.emod_add_mul_ediv _ _).symm
  have h5:Int.gcd a.num a.den=1:=h1
  generalize a.num%(a.den:Int)=m at h4 h2⊢
  generalize a.num/(a.den:Int)=k at h4
  rw[h4,Int.gcd_add_mul_left_left] at h5
  rw[Int.gcd_comm]
  exact h5
 exact e
def hG_ (r:Rat) (k:Nat):Option Rat:=if small (r.num*10^k)=true then bE_ (r.num*10^k/r.den) (10^k) else none
def upR (r:Rat) (k:Nat):Option Rat:=if small (r.num*10^k)=true then bE_ (if r.num*10^k%r.den=0 then r.num*10^k/r.den else r.num*10^k/r.den+1) (10^k) else none
def opS (o:Option Int):ByteArray:=match o with|some z=>if small z=true then str z else ⟨#[]⟩|none=>⟨#[]⟩
def opN (o:Option Int):Int:=match o with|some z=>if small z=true then 0 else 30|none=>30
theorem hA_:opS none=⟨#[]⟩:=rfl
theorem hB_:opN none=30:=rfl
theorem aH_ {z:Int} (h:small z=true):opS (some z)=str z:=by unfold opS;exact if_pos h
theorem cU_ {z:Int} (h:small z=true):opN (some z)=0:=by unfold opN;exact if_pos h
def addO (a b:ByteArray):Option Int:=match aG_ a,aG_ b with|some x,some y=>some (x+y)|_,_=>none
def subO (a b:ByteArray):Option Int:=match aG_ a,aG_ b with|some x,some y=>some (x-y)|_,_=>none
def mulO (a b:ByteArray):Option Int:=match aG_ a,aG_ b with|some x,some y=>some (x*y)|_,_=>none
def gcdO (a b:ByteArray):Option Int:=match aG_ a,aG_ b with|some x,some y=>some ((Nat.gcd x.natAbs y.natAbs:Nat):Int)|_,_=>none
def divO (a b:ByteArray):Option Int:=match aG_ a,aG_ b with|some x,some y=>if y=0 then none else some (x/y)|_,_=>none
def modO (a b:ByteArray):Option Int:=match aG_ a,aG_ b with|some x,some y=>if y=0 then none else some (x%y)|_,_=>none
def cmpO (a b:ByteArray):Int:=match aG_ a,aG_ b with|some x,some y=>cmpI x y|_,_=>0
def Sz (a:ByteArray):Prop:=a.size≤281474976710656
theorem Sz.le {a:ByteArray} (h:Sz a):a.size≤9223372036854775807:=by unfold Sz at h;omega
def kW_ (a b:ByteArray):Option Rat:=match aG_ a,aG_ b with|some p,some q=>bE_ p q|_,_=>none
def op2 (f:Rat→Rat→Option Rat) (n1 d1 n2 d2:ByteArray):Option Rat:=match ratO n1 d1,ratO n2 d2 with|some a,some b=>f a b|_,_=>none
def cmpS (n1 d1 n2 d2:ByteArray):Int:=match ratO n1 d1,ratO n2 d2 with|some a,some b=>cmpR a b|_,_=>0
def jU_ (f:Rat→Nat→Option Rat) (n d:ByteArray) (k:Int):Option Rat:=match ratO n d with|some a=>if 0≤k∧k≤30 then f a k.toNat else none|none=>none
theorem vE_ (r:Rat):qN (some r)=str r.num:=rfl
theorem vF_ (r:Rat):qD (some r)=str (r.den:Int):=rfl
theorem aDW (r:Rat):qE (some r)=0:=rfl
theorem oS_ {a b:ByteArray} {p q:Int} (ha:aG_ a=some p) (hb:aG_ b=some q):kW_ a b=bE_ p q:=by unfold kW_;rw[ha,hb]
theorem aAO {a b:ByteArray} (h:aG_ a=none∨aG_ b=none):kW_ a b=none:=by
 unfold kW_
 rcases h with h|h
 ·rw[h]
 ·cases aG_ a <;> rw[h]
theorem qL_ {f:Rat→Rat→Option Rat} {n1 d1 n2 d2:ByteArray} {a b:Rat} (ha:ratO n1 d1=some a) (hb:ratO n2 d2=some b):op2 f n1 d1 n2 d2=f a b:=by unfold op2;rw[ha,hb]
theorem qM_ {f:Rat→Rat→Option Rat} {n1 d1 n2 d2:ByteArray} (h:ratO n1 d1=none∨ratO n2 d2=none):op2 f n1 d1 n2 d2=none:=by
 unfold op2
 rcases h with h|h
 ·rw[h]
 ·cases ratO n1 d1 <;> rw[h]
theorem aHP {n1 d1 n2 d2:ByteArray} {a b:Rat} (ha:ratO n1 d1=some a) (hb:ratO n2 d2=some b):cmpS n1 d1 n2 d2=cmpR a b:=by unfold cmpS;rw[ha,hb]
theorem aHQ {n1 d1 n2 d2:ByteArray} (h:ratO n1 d1=none∨ratO n2 d2=none):cmpS n1 d1 n2 d2=0:=by
 unfold cmpS
 rcases h with h|h
 ·rw[h]
 ·cases ratO n1 d1 <;> rw[h]
theorem eX_ {p q:Int} {r:Rat} (hp:small p=true) (hq:small q=true) (h:bE_ p q=some r):fN_ r:=by
 unfold bE_ at h
 split at h
 ·cases h
 ·cases h
  exact aGL hp hq (by assumption)
theorem aMH {a b r:Rat} (h:addR a b=some r):fN_ r:=by
 rw[uR_] at h
 split at h
 case isTrue hc=>exact eX_ hc.2.2.1 hc.2.2.2 h
 case isFalse=>cases h
theorem aJE {a b r:Rat} (h:subR a b=some r):fN_ r:=by
 rw[sL_] at h
 split at h
 case isTrue hc=>exact eX_ hc.2.2.1 hc.2.2.2 h
 case isFalse=>cases h
theorem aKI {a b r:Rat} (h:mulR a b=some r):fN_ r:=by
 rw[tH_] at h
 split at h
 case isTrue hc=>exact eX_ hc.1 hc.2 h
 case isFalse=>cases h
theorem aLK {a b r:Rat} (h:divR a b=some r):fN_ r:=by
 rw[tX_] at h
 split at h
 case isTrue hc=>exact eX_ hc.1 hc.2 h
 case isFalse=>cases h
end Go.Proofs.YtlikmmpmnaaifaaGreatDoor
namespace Go.Proofs.YtlikmmpmnaaifaaGreatDoor
open Go.RowKit Go.Shelf
attribute [local go_sem] Oper.semAt_some
structure IOps (w:World):Prop where
 val:∀{a:ByteArray},Sz a→∀W,Below w.heap.size w W→Calls Tryz.prog 199 #[.string a] W fun e W'=>e=.returned (.bool (aY_ a.data.toList))∧Below W.heap.size W W'
 cmp:∀{a b:ByteArray},Sz a→Sz b→∀W,Below w.heap.size w W→Calls Tryz.prog 186 #[.string a,.string b] W fun e W'=>e=.returned (.int .i64 (cmpO a b))∧Below W.heap.size W W'
 gcd:∀{a b:ByteArray},Sz a→Sz b→∀W,Below w.heap.size w W→Calls Tryz.prog 233 #[.string a,.string b] W fun e W'=>e=.returned (.tuple #[.string (opS (gcdO a b)),.int .i64 (opN (gcdO a b))])∧Below W.heap.size W W'
 add:∀{a b:ByteArray},Sz a→Sz b→∀W,Below w.heap.size w W→Calls Tryz.prog 187 #[.string a,.string b] W fun e W'=>e=.returned (.tuple #[.string (opS (addO a b)),.int .i64 (opN (addO a b))])∧Below W.heap.size W W'
 sub:∀{a b:ByteArray},Sz a→Sz b→∀W,Below w.heap.size w W→Calls Tryz.prog 181 #[.string a,.string b] W fun e W'=>e=.returned (.tuple #[.string (opS (subO a b)),.int .i64 (opN (subO a b))])∧Below W.heap.size W W'
 mul:∀{a b:ByteArray},Sz a→Sz b→∀W,Below w.heap.size w W→Calls Tryz.prog 246 #[.string a,.string b] W fun e W'=>e=.returned (.tuple #[.string (opS (mulO a b)),.int .i64 (opN (mulO a b))])∧Below W.heap.size W W'
 div:∀{a b:ByteArray},Sz a→Sz b→∀W,Below w.heap.size w W→Calls Tryz.prog 185 #[.string a,.string b] W fun e W'=>e=.returned (.tuple #[.string (opS (divO a b)),.string (opS (modO a b)),.int .i64 (opN (divO a b))])∧Below W.heap.size W W'
theorem IOps.below {w w':World} (h:IOps w) (hb:Below w.heap.size w w'):IOps w':=
 ⟨fun ha W hk=>h.val ha W (hb.trans (hk.mono hb.size)),fun ha hb' W hk=>h.cmp ha hb' W (hb.trans (hk.mono hb.size)),fun ha hb' W hk=>h.gcd ha hb' W (hb.trans (hk.mono hb.size)),
  fun ha hb' W hk=>h.add ha hb' W (hb.trans (hk.mono hb.size)),fun ha hb' W hk=>h.sub ha hb' W (hb.trans (hk.mono hb.size)),fun ha hb' W hk=>h.mul ha hb' W (hb.trans (hk.mono hb.size)),fun ha hb' W hk=>h.div ha hb' W (hb.trans (hk.mono hb.size))⟩
structure RtAt (X:Nat) (p q:ByteArray) (w W:World):Prop where
 bw:Below w.heap.size w W
 c0:W.cell? ⟨X,0,none⟩=some (.string p)
 c1:W.cell? ⟨X,1,none⟩=some (.string q)
 le:w.heap.size≤X
 sz:X<W.heap.size
theorem RtAt.below {X:Nat} {p q:ByteArray} {w W W':World} (h:RtAt X p q w W) (hb:Below W.heap.size W W'):RtAt X p q w W':=
 ⟨h.bw.trans (hb.mono h.bw.size),(hb.cell (p:=⟨X,0,none⟩) h.sz).trans h.c0,(hb.cell (p:=⟨X,1,none⟩) h.sz).trans h.c1,h.le,Nat.lt_of_lt_of_le h.sz hb.size⟩
theorem RtAt.start {w W:World} (h:Below w.heap.size w W) (p q:ByteArray) (t:TypeId):RtAt W.heap.size p q w (W.alloc (.cells #[.string p,.string q] t)):=
 ⟨h.alloc h.size _,by simp[go_sem],by simp[go_sem],h.size,by simp⟩
def vR (n d:ByteArray):Bool:=(ratO n d).isSome
theorem mC_:Sz ⟨#[48]⟩:=by unfold Sz;decide
theorem sz_one:Sz ⟨#[49]⟩:=by unfold Sz;decide
theorem sG_:Sz ⟨#[]⟩:=by unfold Sz;decide
theorem aDD:(⟨#[48]⟩:ByteArray)=str 0:=by rfl
theorem aJF:(⟨#[49]⟩:ByteArray)=str 1:=by rfl
theorem qN_:aG_ ⟨#[48]⟩=some 0:=by rw[aDD,aW_,if_pos (by decide)]
theorem aOO:aG_ ⟨#[49]⟩=some 1:=by rw[aJF,aW_,if_pos (by decide)]
theorem rE_ {d:ByteArray} {q:Int} (h:aG_ d=some q):cmpO d ⟨#[48]⟩=cmpI q 0:=by unfold cmpO;rw[h,qN_]
theorem nF_ {p q:Int} (hq:small q=true) (h:q≠0):small ((Nat.gcd p.natAbs q.natAbs:Nat):Int)=true:=iN_ hq (by rw[Int.natAbs_natCast];exact aLE h)
theorem aPF {n d:ByteArray} {p q:Int} (h1:aG_ n=some p) (h2:aG_ d=some q) (h:q≠0):opS (gcdO n d)=str ((Nat.gcd p.natAbs q.natAbs:Nat):Int)∧opN (gcdO n d)=0:=by
 have e:gcdO n d=some ((Nat.gcd p.natAbs q.natAbs:Nat):Int):=by unfold gcdO;rw[h1,h2]
 rw[e]
 have:=nF_ (p:=p) (bY_ h2).2 h
 exact⟨aH_ this,cU_ this⟩
theorem yM_ (z:Int):(str z).toList=txt z:=by
 rw[Lib.toList_data,dD_]
theorem one_eq {z:Int} : ((str z).toList == [49])=decide (z=1):=by
 rw[yM_,show([49]:List UInt8)=txt 1 by decide]
 by_cases h:z=1
 ·rw[h];decide
 ·rw[decide_eq_false h]
  exact beq_eq_false_iff_ne.2 fun e=>h (aCO e)
theorem hP_ {z:Int} : ((str z).toList == [48])=decide (z=0):=by
 rw[yM_,show([48]:List UInt8)=txt 0 by decide]
 by_cases h:z=0
 ·rw[h];decide
 ·rw[decide_eq_false h]
  exact beq_eq_false_iff_ne.2 fun e=>h (aCO e)
theorem oA_ {n d:ByteArray} (zn:Sz n) (zd:Sz d) {w:World} (h:IOps w) :
  Calls Tryz.prog 184 #[.agg #[.string n,.string d]] w fun e W'=>e=.returned (.bool (vR n d))∧Below w.heap.size w W':=by
 have v1:=fun W hk=>h.val zn W hk
 have v2:=fun W hk=>h.val zd W hk
 have v3:=fun W hk=>h.cmp zd mC_ W hk
 have v4:=fun W hk=>h.gcd zn zd W hk
 rw[←dB_] at v1 v2
 have HS:=hid (RtAt.start (Below.refl _ w) n d 47)
 unfold vR ratO
 cases h1:aG_ n with
 | none=>
  rw[h1] at v1
  have V1:=hid v1
  clear v1 v2 v3 v4 h1
  go_enter Tryz.func184,Tryz.ntmps184
  go_wp2_with (first
   | (go_at_call 199;with_reducible refine(V1.out _ HS.out.bw).mono ?_;rintro e w1 ⟨rfl,hb1⟩;have H1:=hid (HS.out.below hb1))
   | fail)
  go_ret
  exact⟨rfl,H1.out.bw⟩
 | some p=>
  rw[h1] at v1
  cases h2:aG_ d with
  | none=>
   rw[h2] at v2
   have V1:=hid v1
   have V2:=hid v2
   clear v1 v2 v3 v4 h1 h2
   go_enter Tryz.func184,Tryz.ntmps184
   go_wp2_with (first
    | (go_at_call 199;with_reducible refine(V1.out _ HS.out.bw).mono ?_;rintro e w1 ⟨rfl,hb1⟩;have h1:=HS.out.below hb1;have c1:=h1.c0;have d1:=h1.c1;have H1:=hid h1;clear h1)
    | (go_at_call 199;with_reducible refine(V2.out _ H1.out.bw).mono ?_;rintro e w2 ⟨rfl,hb2⟩;have h2:=H1.out.below hb2;have c2:=h2.c0;have d2:=h2.c1;have H2:=hid h2;clear h2)
    | fail)
   go_ret
   exact⟨rfl,H2.out.bw⟩
  | some q=>
   rw[h2] at v2
   rw[rE_ h2] at v3
   have V1:=hid v1
   have V2:=hid v2
   clear v1 v2
   by_cases hq:0<q
   ·rw[show cmpI q 0=1 by unfold cmpI;rw[if_neg (by omega),if_pos hq]] at v3
    obtain⟨g1,g2⟩:=aPF h1 h2 (p:=p) (q:=q) (by omega)
    rw[g1,g2] at v4
    have V3:=hid v3
    have V4:=hid v4
    clear v3 v4 g1 g2 h1 h2
    have key:(match (some p:Option Int),(some q:Option Int) with|some p,some q=>if 0<q∧Nat.gcd p.natAbs q.natAbs=1 then some (Rat.divInt p q) else none|_,_=>none).isSome=((str ((Nat.gcd p.natAbs q.natAbs:Nat):Int)).toList == [49]):=by
     rw[one_eq]
     show(if _ then _ else _:Option Rat).isSome=_
     by_cases hg:Nat.gcd p.natAbs q.natAbs=1
     ·rw[if_pos ⟨hq,hg⟩,hg];rfl
     ·rw[if_neg (fun k=>hg k.2)]
      exact(decide_eq_false (by omega)).symm
    rw[key]
    clear key
    generalize str ((Nat.gcd p.natAbs q.natAbs:Nat):Int)=g at V4⊢
    go_enter Tryz.func184,Tryz.ntmps184
    go_wp2_with (first
     | (go_at_call 199;with_reducible refine(V1.out _ HS.out.bw).mono ?_;rintro e w1 ⟨rfl,hb1⟩;have h1:=HS.out.below hb1;have c1:=h1.c0;have d1:=h1.c1;have H1:=hid h1;clear h1)
     | (go_at_call 199;with_reducible refine(V2.out _ H1.out.bw).mono ?_;rintro e w2 ⟨rfl,hb2⟩;have h2:=H1.out.below hb2;have c2:=h2.c0;have d2:=h2.c1;have H2:=hid h2;clear h2)
     | (go_at_call 186;with_reducible refine(V3.out _ H2.out.bw).mono ?_;rintro e w3 ⟨rfl,hb3⟩;have h3:=H2.out.below hb3;have c3:=h3.c0;have d3:=h3.c1;have H3:=hid h3;clear h3)
     | (go_at_call 233;with_reducible refine(V4.out _ H3.out.bw).mono ?_;rintro e w4 ⟨rfl,hb4⟩;have h4:=H3.out.below hb4;have c4:=h4.c0;have d4:=h4.c1;have H4:=hid h4;clear h4)
     | fail)
    go_ret
    exact⟨rfl,H4.out.bw⟩
   ·have hq0:q≤0:=by omega
    have key:(match (some p:Option Int),(some q:Option Int) with|some p,some q=>if 0<q∧Nat.gcd p.natAbs q.natAbs=1 then some (Rat.divInt p q) else none|_,_=>none).isSome=false:=by
     show(if _ then _ else _:Option Rat).isSome=_
     rw[if_neg (fun k=>hq k.1)]
     rfl
    rw[key]
    have hc:cmpI q 0≤0:=by unfold cmpI;rw[if_neg (show ¬0<q from hq)];split <;> omega
    clear key hq hq0 h1 h2 v4
    generalize cmpI q 0=c at v3 hc
    have V3:=hid v3
    clear v3
    go_enter Tryz.func184,Tryz.ntmps184
    go_wp2_with (first
     | (go_at_call 199;with_reducible refine(V1.out _ HS.out.bw).mono ?_;rintro e w1 ⟨rfl,hb1⟩;have h1:=HS.out.below hb1;have c1:=h1.c0;have d1:=h1.c1;have H1:=hid h1;clear h1)
     | (go_at_call 199;with_reducible refine(V2.out _ H1.out.bw).mono ?_;rintro e w2 ⟨rfl,hb2⟩;have h2:=H1.out.below hb2;have c2:=h2.c0;have d2:=h2.c1;have H2:=hid h2;clear h2)
     | (go_at_call 186;with_reducible refine(V3.out _ H2.out.bw).mono ?_;rintro e w3 ⟨rfl,hb3⟩;have h3:=H2.out.below hb3;have H3:=hid h3;clear h3)
     | fail)
    go_ret
    exact⟨rfl,H3.out.bw⟩
def stS (b:Bool) (o:Option Int):ByteArray:=if b=true then ⟨#[]⟩ else opS o
def stB (b:Bool) (o:Option Int):Bool:=b||(opN o != 0)
theorem dL_ (o:Option Int):Sz (opS o):=by
 unfold opS
 cases o with
 | none=>exact sG_
 | some z=>
  by_cases h:small z=true
  ·simp only[h]
   unfold Sz
   rw[if_pos trivial,iL_]
   have:=gU_ z
   have:nDig z.natAbs≤200:=by simpa[small] using h
   omega
  ·simp only[h]
   exact sG_
theorem kH_ (b:Bool) (o:Option Int):Sz (stS b o):=by
 unfold stS
 split
 ·exact sG_
 ·exact dL_ o
theorem eP_ (o:Option Int):stS false o=opS o:=rfl
theorem dH_ {z:Int} (h:small z=true):stB false (some z)=false:=by unfold stB;rw[cU_ h];rfl
theorem aEV {z:Int} (h:¬small z=true):opN (some z)=30:=by unfold opN;exact if_neg h
theorem gH_ {z:Int} (h:¬small z=true) (b:Bool):stB b (some z)=true:=by unfold stB;rw[aEV h];simp
theorem do_q (K:Nat) (o:Option Int) {n N:Nat} {b:Bool} {w W:World} (x y:ByteArray) (h:WkAt n N b w W)
  (hent:∀(args:Array Value) (w:World),(callFunc K args).run Tryz.prog w=.ok (.enter K args) w)
  (hK:b=false→Calls Tryz.prog K #[.string x,.string y] W fun e W'=>e=.returned (.tuple #[.string (opS o),.int .i64 (opN o)])∧Below W.heap.size W W') :
  Calls Tryz.prog 221 #[.pointer (some ⟨N,0,none⟩),.func (.func K) #[] #[],.string x,.string y] W fun e W'=>e=.returned (.string (stS b o))∧WkTo n N (stB b o) w W W':=
 do_any K x y (opS o) (opN o) h hent hK
theorem mul_q {n N:Nat} {b:Bool} {x y:ByteArray} {w W:World} (zx:Sz x) (zy:Sz y) (h:WkAt n N b w W) (hi:IOps W) :
  Calls Tryz.prog 204 #[.pointer (some ⟨N,0,none⟩),.string x,.string y] W fun e W'=>e=.returned (.string (stS b (mulO x y)))∧WkTo n N (stB b (mulO x y)) w W W':=by
 have hd:=hid (do_q 246 (mulO x y) x y h (enters_of Tryz.func246 (by kernel_rfl) rfl) (fun _=>hi.mul zx zy W (Below.refl _ _)))
 clear h hi
 go_enter Tryz.func204,Tryz.ntmps204
 go_wp2_with (go_at_call 221;with_reducible refine(hd.out).mono ?_;rintro e w1 ⟨rfl,h1⟩)
 go_ret
 exact⟨rfl,h1⟩
theorem quot1 {x y:ByteArray} {w:World} (zx:Sz x) (zy:Sz y) (hi:IOps w) :
  Calls Tryz.prog 271 #[.string x,.string y] w fun e W'=>e=.returned (.tuple #[.string (opS (divO x y)),.int .i64 (opN (divO x y))])∧Below w.heap.size w W':=by
 have hd:=hid (hi.div zx zy w (Below.refl _ _))
 clear hi
 go_enter Tryz.func271,Tryz.ntmps271
 go_wp2_with (go_at_call 185;with_reducible refine(hd.out).mono ?_;rintro e w1 ⟨rfl,h1⟩)
 refine bodyPost_ret (v:=.tuple #[.string (opS (divO x y)),.int .i64 (opN (divO x y))]) ?_ rfl ⟨rfl,h1⟩
 simp[results,Tryz.results271,go_sem]
theorem aAA {n N:Nat} {b:Bool} {x y:ByteArray} {w W:World} (zx:Sz x) (zy:Sz y) (h:WkAt n N b w W) (hi:IOps W) :
  Calls Tryz.prog 244 #[.pointer (some ⟨N,0,none⟩),.string x,.string y] W fun e W'=>e=.returned (.string (stS b (divO x y)))∧WkTo n N (stB b (divO x y)) w W W':=by
 have hd:=hid (do_q 271 (divO x y) x y h (enters_of Tryz.func271 (by kernel_rfl) rfl) (fun _=>quot1 zx zy hi))
 clear h hi
 go_enter Tryz.func244,Tryz.ntmps244
 go_wp2_with (go_at_call 221;with_reducible refine(hd.out).mono ?_;rintro e w1 ⟨rfl,h1⟩)
 go_ret
 exact⟨rfl,h1⟩
theorem do_s (K:Nat) {z:Int} {o:Option Int} {n N:Nat} {w W:World} (x y:ByteArray) (h:WkAt n N false w W) (e:o=some z) (hs:small z=true)
  (hent:∀(args:Array Value) (w:World),(callFunc K args).run Tryz.prog w=.ok (.enter K args) w)
  (hK:Calls Tryz.prog K #[.string x,.string y] W fun e W'=>e=.returned (.tuple #[.string (opS o),.int .i64 (opN o)])∧Below W.heap.size W W') :
  Calls Tryz.prog 221 #[.pointer (some ⟨N,0,none⟩),.func (.func K) #[] #[],.string x,.string y] W fun e W'=>e=.returned (.string (str z))∧WkTo n N false w W W':=by
 have hd:=do_q K o x y h hent (fun _=>hK)
 rw[e,eP_,aH_ hs,dH_ hs] at hd
 exact hd
theorem gX_ {z:Int} {n N:Nat} {x y:ByteArray} {w W:World} (zx:Sz x) (zy:Sz y) (h:WkAt n N false w W) (hi:IOps W) (e:divO x y=some z) (hs:small z=true) :
  Calls Tryz.prog 244 #[.pointer (some ⟨N,0,none⟩),.string x,.string y] W fun e W'=>e=.returned (.string (str z))∧WkTo n N false w W W':=by
 have hd:=aAA zx zy h hi
 rw[e,eP_,aH_ hs,dH_ hs] at hd
 exact hd
structure RdAt (N R:Nat) (w W:World):Prop where
 wk:WkAt w.heap.size N false w W
 r0:W.cell? ⟨R,0,none⟩=some (.string ⟨#[]⟩)
 r1:W.cell? ⟨R,1,none⟩=some (.string ⟨#[]⟩)
 f0:W.frozen? ⟨R,0,none⟩=false
 f1:W.frozen? ⟨R,1,none⟩=false
 le:N<R
 sz:R<W.heap.size
theorem RdAt.to {N R:Nat} {w W W':World} (h:RdAt N R w W) (h2:WkTo w.heap.size N false w W W'):RdAt N R w W':=by
 obtain⟨c,f⟩:=h2.keep h.le h.sz
 exact⟨h2.wk,(c _).trans h.r0,(c _).trans h.r1,(f _).trans h.f0,(f _).trans h.f1,h.le,Nat.lt_of_lt_of_le h.sz h2.size⟩
theorem RdAt.al {N R:Nat} {w W:World} (h:RdAt N R w W):(∀o,(W.alloc o).cell? ⟨N,0,none⟩=some (.bool false))∧(∀o,(W.alloc o).cell? ⟨R,0,none⟩=some (.string ⟨#[]⟩))∧(∀o,(W.alloc o).cell? ⟨R,1,none⟩=some (.string ⟨#[]⟩))∧
  (∀o,(W.alloc o).frozen? ⟨R,0,none⟩=false)∧(∀o,(W.alloc o).frozen? ⟨R,1,none⟩=false):=by
 have hb:=fun o=>kZ_ ((Below.refl W.heap.size W).alloc (Nat.le_refl _) o)
 exact⟨fun o=>((hb o).1 _ _ h.wk.sz).trans h.wk.c,fun o=>((hb o).1 _ _ h.sz).trans h.r0,fun o=>((hb o).1 _ _ h.sz).trans h.r1,fun o=>((hb o).2 _ _ h.sz).trans h.f0,fun o=>((hb o).2 _ _ h.sz).trans h.f1⟩
theorem RdAt.start {N:Nat} {w W:World} (h:WkAt w.heap.size N false w W) (t:TypeId):RdAt N W.heap.size w (W.alloc (.cells #[.string ⟨#[]⟩,.string ⟨#[]⟩] t)):=
 ⟨h.alloc _,by simp[go_sem],by simp[go_sem],by simp[go_sem],by simp[go_sem],h.sz,by simp⟩
theorem hU_ {N:Nat} {b:Bool} {x y:ByteArray} {w W:World} (h:WkAt w.heap.size N b w W) (hx:b=true∨b=false∧y=⟨#[48]⟩) :
  Calls Tryz.prog 200 #[.pointer (some ⟨N,0,none⟩),.string x,.string y] W fun e W'=>e=.returned (.tuple #[.agg #[.string ⟨#[]⟩,.string ⟨#[]⟩],.int .i64 40])∧Below w.heap.size w W':=by
 have c0:=h.c
 have hs:=h.sz
 have hl:=h.le
 have hb:=h.bw
 obtain⟨c,f⟩:=kZ_ ((Below.refl W.heap.size W).alloc (Nat.le_refl _) (.cells #[.string ⟨#[]⟩,.string ⟨#[]⟩] 47))
 have c1:=(c N 0 hs).trans c0
 clear h c f
 rcases hx with rfl|⟨rfl,rfl⟩
 all_goals
  go_enter Tryz.func200,Tryz.ntmps200
  go_wp2
  refine bodyPost_ret (v:=.tuple #[.agg #[.string ⟨#[]⟩,.string ⟨#[]⟩],.int .i64 40]) ?_ rfl ⟨rfl,hb.alloc (by omega) _⟩
  simp[results,Tryz.results200,go_sem,Result.andThen]
theorem vC_ {N:Nat} {x y:ByteArray} {p q:Int} {w W:World} (h:WkAt w.heap.size N false w W) (hi:IOps w) (zx:Sz x) (zy:Sz y) (h1:aG_ x=some p) (h2:aG_ y=some q) (hq:0<q) :
  Calls Tryz.prog 200 #[.pointer (some ⟨N,0,none⟩),.string x,.string y] W fun e W'=>e=.returned (.tuple #[.agg #[.string (str (p/((Nat.gcd p.natAbs q.natAbs:Nat):Int))),.string (str (q/((Nat.gcd p.natAbs q.natAbs:Nat):Int)))],.int .i64 0])∧Below w.heap.size w W':=by
 obtain⟨ex,hp⟩:=bY_ h1
 obtain⟨ey,hqs⟩:=bY_ h2
 have hy:(y.toList == [48])=false:=by
  rw[ey,hP_]
  exact decide_eq_false (by omega)
 have hg:=nF_ (p:=p) hqs (by omega)
 have hg0:0<Nat.gcd p.natAbs q.natAbs:=aGD (by omega)
 have eg:gcdO x y=some ((Nat.gcd p.natAbs q.natAbs:Nat):Int):=by unfold gcdO;rw[h1,h2]
 generalize Nat.gcd p.natAbs q.natAbs=g at eg hg hg0⊢
 have ng:aG_ (str (g:Int))=some (g:Int):=by rw[aW_,if_pos hg]
 have zg:Sz (str (g:Int)):=by rw[←aH_ hg];exact dL_ _
 have ed1:divO x (str (g:Int))=some (p/g):=by unfold divO;rw[h1,ng];exact if_neg (by omega)
 have ed2:divO y (str (g:Int))=some (q/g):=by unfold divO;rw[h2,ng];exact if_neg (by omega)
 have hR:=RdAt.start h 47
 have kc:=hid (fun W' (k:Below w.heap.size w W')=>by have:=hi.cmp zy mC_ W' k;rw[rE_ h2,show cmpI q 0=1 by unfold cmpI;rw[if_neg (by omega),if_pos hq]] at this;exact this)
 have kg:=hid (fun W' (k:WkAt w.heap.size N false w W')=>do_s 233 x y k eg hg (enters_of Tryz.func233 (by kernel_rfl) rfl) ((hi.below k.bw).gcd zx zy W' (Below.refl _ _)))
 have k1:=hid (fun W' (k:WkAt w.heap.size N false w W')=>gX_ zx zg k (hi.below k.bw) ed1 (bD_ g hp))
 have k2:=hid (fun W' (k:WkAt w.heap.size N false w W')=>gX_ zy zg k (hi.below k.bw) ed2 (bD_ g hqs))
 generalize str (g:Int)=sg at kg k1 k2
 generalize str (p/(g:Int))=s1 at k1⊢
 generalize str (q/(g:Int))=s2 at k2⊢
 clear ed1 ed2 ng zg eg hg hg0 ex ey hp hqs h1 h2 hi
 have c0:=hR.wk.c
 have H0:=hid hR
 clear hR h hq
 go_enter Tryz.func200,Tryz.ntmps200
 go_wp2_with (first
  | (go_at_call 186;with_reducible refine(kc.out _ H0.out.wk.bw).mono ?_;rintro e w1 ⟨rfl,hb⟩;have H1:=hid (H0.out.to (WkTo.below H0.out.wk hb));clear hb)
  | (go_at_call 221;with_reducible refine(kg.out _ H1.out.wk).mono ?_;rintro e w2 ⟨rfl,hb⟩;have H2:=hid (H1.out.to hb);clear hb)
  | (go_at_call 244;with_reducible refine(k1.out _ H2.out.wk).mono ?_;rintro e w3 ⟨rfl,hb⟩;have H3:=hid (H2.out.to hb);clear hb)
  | (go_at_call 244;with_reducible refine(k2.out _ H3.out.wk).mono ?_;rintro e w4 ⟨rfl,hb⟩;have h4:=H3.out.to hb;obtain⟨c4,q1,q2,q3,q4⟩:=h4.al;have H4:=hid h4;clear hb h4)
  | fail)
 obtain⟨W5,hW5⟩:∃W5,(((w4.alloc (.cells #[.string s1,.string s2] 47)).setCell ⟨W.heap.size,0,none⟩ (.string s1)).setCell ⟨W.heap.size,1,none⟩ (.string s2))=W5:=⟨_,rfl⟩
 have p1:W5.cell? ⟨W.heap.size,1,none⟩=some (.string s2):=by
  rw[←hW5]
  exact World.cell?_setCell_same _ _ _ ((World.cell?_setCell_other _ _ _ _ (by simp)).trans (q2 _))
 have p0:W5.cell? ⟨W.heap.size,0,none⟩=some (.string s1):=by
  rw[←hW5]
  exact(World.cell?_setCell_other _ _ _ _ (by simp)).trans (World.cell?_setCell_same _ _ _ (q1 _))
 have hbl:Below w.heap.size w W5:=by
  rw[←hW5]
  have k:=H4.out.wk
  have:=H0.out.wk.le
  have:=H0.out.le
  exact((k.bw.alloc k.bw.size _).setCell (by simp;omega) _).setCell (by simp;omega) _
 rw[hW5]
 clear hW5
 refine bodyPost_ret (v:=.tuple #[.agg #[.string s1,.string s2],.int .i64 0]) ?_ rfl ⟨rfl,hbl⟩
 simp[results,Tryz.results200,go_sem,p0,p1,Result.andThen]
theorem vD_ {N:Nat} {x y:ByteArray} {p q:Int} {w W:World} (h:WkAt w.heap.size N false w W) (hi:IOps w) (zx:Sz x) (zy:Sz y) (h1:aG_ x=some p) (h2:aG_ y=some q) (hq:q<0) :
  Calls Tryz.prog 200 #[.pointer (some ⟨N,0,none⟩),.string x,.string y] W fun e W'=>e=.returned (.tuple #[.agg #[.string (str (-p/((Nat.gcd (-p).natAbs (-q).natAbs:Nat):Int))),.string (str (-q/((Nat.gcd (-p).natAbs (-q).natAbs:Nat):Int)))],.int .i64 0])∧Below w.heap.size w W':=by
 obtain⟨ex,hp⟩:=bY_ h1
 obtain⟨ey,hqs⟩:=bY_ h2
 have hy:(y.toList == [48])=false:=by
  rw[ey,hP_]
  exact decide_eq_false (by omega)
 have hg:=nF_ (p:=-p) (dT_ hqs) (by omega)
 have hg0:0<Nat.gcd (-p).natAbs (-q).natAbs:=aGD (by omega)
 have e01:subO ⟨#[48]⟩ x=some (-p):=by unfold subO;rw[qN_,h1];show some (0-p)=_;rw[Int.zero_sub]
 have e02:subO ⟨#[48]⟩ y=some (-q):=by unfold subO;rw[qN_,h2];show some (0-q)=_;rw[Int.zero_sub]
 have hp':=dT_ hp
 have hqs':=dT_ hqs
 have m1:aG_ (str (-p))=some (-p):=by rw[aW_,if_pos hp']
 have m2:aG_ (str (-q))=some (-q):=by rw[aW_,if_pos hqs']
 have zx':Sz (str (-p)):=by rw[←aH_ hp'];exact dL_ _
 have zy':Sz (str (-q)):=by rw[←aH_ hqs'];exact dL_ _
 have eg:gcdO (str (-p)) (str (-q))=some ((Nat.gcd (-p).natAbs (-q).natAbs:Nat):Int):=by unfold gcdO;rw[m1,m2]
 generalize Nat.gcd (-p).natAbs (-q).natAbs=g at eg hg hg0⊢
 have ng:aG_ (str (g:Int))=some (g:Int):=by rw[aW_,if_pos hg]
 have zg:Sz (str (g:Int)):=by rw[←aH_ hg];exact dL_ _
 have ed1:divO (str (-p)) (str (g:Int))=some (-p/g):=by unfold divO;rw[m1,ng];exact if_neg (by omega)
 have ed2:divO (str (-q)) (str (g:Int))=some (-q/g):=by unfold divO;rw[m2,ng];exact if_neg (by omega)
 have hR:=RdAt.start h 47
 have kc:=hid (fun W' (k:Below w.heap.size w W')=>by have:=hi.cmp zy mC_ W' k;rw[rE_ h2,show cmpI q 0 = -1 by unfold cmpI;rw[if_pos hq]] at this;exact this)
 have ks1:=hid (fun W' (k:WkAt w.heap.size N false w W')=>do_s 181 ⟨#[48]⟩ x k e01 hp' (enters_of Tryz.func181 (by kernel_rfl) rfl) ((hi.below k.bw).sub mC_ zx W' (Below.refl _ _)))
 have ks2:=hid (fun W' (k:WkAt w.heap.size N false w W')=>do_s 181 ⟨#[48]⟩ y k e02 hqs' (enters_of Tryz.func181 (by kernel_rfl) rfl) ((hi.below k.bw).sub mC_ zy W' (Below.refl _ _)))
 have kg:=hid (fun W' (k:WkAt w.heap.size N false w W')=>do_s 233 (str (-p)) (str (-q)) k eg hg (enters_of Tryz.func233 (by kernel_rfl) rfl) ((hi.below k.bw).gcd zx' zy' W' (Below.refl _ _)))
 have k1:=hid (fun W' (k:WkAt w.heap.size N false w W')=>gX_ zx' zg k (hi.below k.bw) ed1 (bD_ g hp'))
 have k2:=hid (fun W' (k:WkAt w.heap.size N false w W')=>gX_ zy' zg k (hi.below k.bw) ed2 (bD_ g hqs'))
 generalize str (g:Int)=sg at kg k1 k2
 generalize str (-p/(g:Int))=s1 at k1⊢
 generalize str (-q/(g:Int))=s2 at k2⊢
 generalize str (-p)=x' at ks1 kg k1
 generalize str (-q)=y' at ks2 kg k2
 clear ed1 ed2 ng zg eg hg hg0 ex ey hp hqs h1 h2 hi e01 e02 hp' hqs' m1 m2 zx' zy'
 have c0:=hR.wk.c
 have H0:=hid hR
 clear hR h hq
 go_enter Tryz.func200,Tryz.ntmps200
 go_wp2_with (first
  | (go_at_call 186;with_reducible refine(kc.out _ H0.out.wk.bw).mono ?_;rintro e w1 ⟨rfl,hb⟩;have H1:=hid (H0.out.to (WkTo.below H0.out.wk hb));clear hb)
  | (go_at_call 221;with_reducible refine(ks1.out _ H1.out.wk).mono ?_;rintro e w11 ⟨rfl,hb⟩;have H11:=hid (H1.out.to hb);clear hb)
  | (go_at_call 221;with_reducible refine(ks2.out _ H11.out.wk).mono ?_;rintro e w12 ⟨rfl,hb⟩;have H12:=hid (H11.out.to hb);clear hb)
  | (go_at_call 221;with_reducible refine(kg.out _ H12.out.wk).mono ?_;rintro e w2 ⟨rfl,hb⟩;have H2:=hid (H12.out.to hb);clear hb)
  | (go_at_call 244;with_reducible refine(k1.out _ H2.out.wk).mono ?_;rintro e w3 ⟨rfl,hb⟩;have H3:=hid (H2.out.to hb);clear hb)
  | (go_at_call 244;with_reducible refine(k2.out _ H3.out.wk).mono ?_;rintro e w4 ⟨rfl,hb⟩;have h4:=H3.out.to hb;obtain⟨c4,q1,q2,q3,q4⟩:=h4.al;have H4:=hid h4;clear hb h4)
  | fail)
 obtain⟨W5,hW5⟩:∃W5,(((w4.alloc (.cells #[.string s1,.string s2] 47)).setCell ⟨W.heap.size,0,none⟩ (.string s1)).setCell ⟨W.heap.size,1,none⟩ (.string s2))=W5:=⟨_,rfl⟩
 have p1:W5.cell? ⟨W.heap.size,1,none⟩=some (.string s2):=by
  rw[←hW5]
  exact World.cell?_setCell_same _ _ _ ((World.cell?_setCell_other _ _ _ _ (by simp)).trans (q2 _))
 have p0:W5.cell? ⟨W.heap.size,0,none⟩=some (.string s1):=by
  rw[←hW5]
  exact(World.cell?_setCell_other _ _ _ _ (by simp)).trans (World.cell?_setCell_same _ _ _ (q1 _))
 have hbl:Below w.heap.size w W5:=by
  rw[←hW5]
  have k:=H4.out.wk
  have:=H0.out.wk.le
  have:=H0.out.le
  exact((k.bw.alloc k.bw.size _).setCell (by simp;omega) _).setCell (by simp;omega) _
 rw[hW5]
 clear hW5
 refine bodyPost_ret (v:=.tuple #[.agg #[.string s1,.string s2],.int .i64 0]) ?_ rfl ⟨rfl,hbl⟩
 simp[results,Tryz.results200,go_sem,p0,p1,Result.andThen]
theorem mI_ {N:Nat} {b:Bool} {x y:ByteArray} {p q:Int} {w W:World} (h:WkAt w.heap.size N b w W) (hi:IOps w) (zx:Sz x) (zy:Sz y) (hx:b=false→aG_ x=some p∧aG_ y=some q) :
  Calls Tryz.prog 200 #[.pointer (some ⟨N,0,none⟩),.string x,.string y] W fun e W'=>e=.returned (.tuple #[.agg #[.string (qN (if b=true then none else bE_ p q)),.string (qD (if b=true then none else bE_ p q))],.int .i64 (qE (if b=true then none else bE_ p q))])∧Below w.heap.size w W':=by
 cases b with
 | true=>exact hU_ h (.inl rfl)
 | false=>
  obtain⟨h1,h2⟩:=hx rfl
  rw[if_neg (by decide)]
  unfold bE_
  rcases Int.lt_trichotomy q 0 with hq|hq|hq
  ·rw[if_neg (by omega),vE_,vF_,aDW,vK_ hq,wA_ hq]
   exact vD_ h hi zx zy h1 h2 hq
  ·rw[if_pos hq]
   refine hU_ h (.inr ⟨rfl,?_⟩)
   rw[(bY_ h2).1,hq]
   rfl
  ·rw[if_neg (by omega),vE_,vF_,aDW,mT_ hq,nL_ hq]
   exact vC_ h hi zx zy h1 h2 hq
theorem WkTo.trans {n N:Nat} {b b':Bool} {w W V U:World} (h:WkTo n N b w W V) (k:WkTo n N b' w V U):WkTo n N b' w W U:=
 ⟨k.wk,h.ag.trans (fun i h1 h2=>k.ag i h1 (Nat.lt_of_lt_of_le h2 h.size)),Nat.le_trans h.size k.size⟩
theorem WkAt.al {n N:Nat} {b:Bool} {w W:World} (h:WkAt n N b w W):(∀o,(W.alloc o).cell? ⟨N,0,none⟩=some (.bool b))∧(∀o,(W.alloc o).frozen? ⟨N,0,none⟩=false):=⟨fun o=>(h.alloc o).c,fun o=>(h.alloc o).f⟩
def chkB (b:Bool) (l:List (ByteArray×ByteArray)):Bool:=b || !(l.all fun p=>vR p.1 p.2)
theorem aHU (b:Bool) (l:List (ByteArray×ByteArray)):chkB b (l.take 0)=b:=by simp[chkB]
theorem aLX (b:Bool) (l:List (ByteArray×ByteArray)):chkB b (l.take l.length)=chkB b l:=by rw[List.take_length]
theorem aHV (b:Bool) (l:List (ByteArray×ByteArray)) (k:Nat) (h:k<l.length):chkB b (l.take (k+1))=(chkB b (l.take k) || !vR l[k].1 l[k].2):=by
 unfold chkB
 rw[List.take_add_one,List.getElem?_eq_getElem h,List.all_append]
 simp[Bool.not_and,Bool.or_assoc]
structure FrAt (S:Nat) (l:List (ByteArray×ByteArray)) (W:World):Prop where
 row:∀k (h:k<l.length),W.cell? ⟨S,k*2,none⟩=some (.string l[k].1)∧W.cell? ⟨S,k*2+1,none⟩=some (.string l[k].2)
 sz:S<W.heap.size
 szs:∀p∈l,Sz p.1∧Sz p.2
theorem aHW {N S:Nat} {b:Bool} {l:List (ByteArray×ByteArray)} {w W:World} (h:WkAt w.heap.size N b w W) (hi:IOps w) (hf:FrAt S l W) (hNS:N<S) (hl:l.length≤2) :
  Calls Tryz.prog 203 #[.pointer (some ⟨N,0,none⟩),.slice (some ⟨S,0,none⟩) l.length l.length] W fun e W'=>(∃v,e=.returned v)∧WkTo w.heap.size N (chkB b l) w W W':=by
 have HW:=hid (WkTo.refl h)
 have HF:=hid hf
 have HI:=hid hi
 clear h hf hi
 go_enter Tryz.func203,Tryz.ntmps203
 go_wp2
 go_loopw [8] (fun i wr=>∃k:Nat,k≤l.length∧i=.int .i64 (k:Int)∧WkTo w.heap.size N (chkB b (l.take k)) w W wr) (fun i _=>l.length-(intOf i).toNat)
 case atStart=>exact⟨0,by omega,rfl,by rw[aHU];exact HW.out⟩
 case round=>
  obtain⟨k,hk,rfl,hto⟩:=hrel
  by_cases hk2:k<l.length
  ·obtain⟨c0,f0⟩:=hto.wk.al
   obtain⟨hc,_⟩:=hto.keep hNS HF.out.sz
   obtain⟨r1,r2⟩:=HF.out.row k hk2
   have r1:=(hc _).trans r1
   have r2:=(hc _).trans r2
   have hst:=aHV b l k hk2
   obtain⟨z1,z2⟩:=HF.out.szs _ (List.getElem_mem hk2)
   generalize l[k].1=p1 at r1 hst z1
   generalize l[k].2=p2 at r2 hst z2
   have HT:=hid hto
   have HST:=hid hst
   clear hto hc hst
   have hv:=hid (fun W' (k:WkAt w.heap.size N (chkB b (l.take k)) w W')=>oA_ z1 z2 (HI.out.below k.bw))
   cases hcb:chkB b (l.take k) with
   | true=>
    rw[hcb] at c0 hv HT HST
    go_wp2
    exact⟨⟨k+1,by omega,by go_num,by rw[HST.out];exact HT.out.trans ⟨(HT.out.wk.alloc _).set _,((bG_.refl _ _ _).alloc (Nat.le_refl _) _).setCell (.inl (by simp)) _,by simp⟩⟩,by simp only[intOf];omega⟩
   | false=>
    rw[hcb] at c0 hv HT HST
    go_wp2_with (go_at_call 184;with_reducible refine(hv.out _ (HT.out.wk.alloc _)).mono ?_;rintro e w1 ⟨rfl,hb⟩;have h1:=(HT.out.wk.alloc (.cells #[.string p1,.string p2] 47)).below hb;have c1:=h1.c;have f1:=h1.f;have H1:=hid h1;clear h1)
    exact⟨⟨k+1,by omega,by go_num,by rw[HST.out];exact HT.out.trans ⟨H1.out.set _,((bG_.of_below ((Below.refl _ _).alloc (Nat.le_refl _) _) (Nat.le_refl _)).trans (bG_.of_below hb (by simp))).setCell (.inl (by simp)) _,by have:=hb.size;simp at this⊢;omega⟩⟩,by simp only[intOf];omega⟩
  ·obtain rfl:k=l.length:=by omega
   rw[aLX] at hto
   have HT:=hid hto
   clear hto
   go_wp2
   go_end0
   exact⟨⟨_,rfl⟩,HT.out⟩
structure RsAt (R:Nat) (w W:World):Prop where
 bw:Below w.heap.size w W
 r0:W.cell? ⟨R,0,none⟩=some (.string ⟨#[]⟩)
 r1:W.cell? ⟨R,1,none⟩=some (.string ⟨#[]⟩)
 f0:W.frozen? ⟨R,0,none⟩=false
 f1:W.frozen? ⟨R,1,none⟩=false
 le:w.heap.size≤R
 sz:R<W.heap.size
theorem RsAt.below {R:Nat} {w W W':World} (h:RsAt R w W) (hb:Below W.heap.size W W'):RsAt R w W':=by
 obtain⟨c,f⟩:=kZ_ hb
 exact⟨h.bw.trans (hb.mono h.bw.size),(c _ _ h.sz).trans h.r0,(c _ _ h.sz).trans h.r1,(f _ _ h.sz).trans h.f0,(f _ _ h.sz).trans h.f1,h.le,Nat.lt_of_lt_of_le h.sz hb.size⟩
theorem RsAt.start {w W:World} (h:Below w.heap.size w W) (t:TypeId):RsAt W.heap.size w (W.alloc (.cells #[.string ⟨#[]⟩,.string ⟨#[]⟩] t)):=
 ⟨h.alloc h.size _,by simp[go_sem],by simp[go_sem],by simp[go_sem],by simp[go_sem],h.size,by simp⟩
theorem RsAt.fin {R:Nat} {w W:World} (h:RsAt R w W) (s t:ByteArray):∃W5,((W.setCell ⟨R,0,none⟩ (.string s)).setCell ⟨R,1,none⟩ (.string t))=W5∧W5.cell? ⟨R,0,none⟩=some (.string s)∧W5.cell? ⟨R,1,none⟩=some (.string t)∧Below w.heap.size w W5:=by
 refine⟨_,rfl,?_,?_,?_⟩
 ·exact(World.cell?_setCell_other _ _ _ _ (by simp)).trans (World.cell?_setCell_same _ _ _ h.r0)
 ·exact World.cell?_setCell_same _ _ _ ((World.cell?_setCell_other _ _ _ _ (by simp)).trans h.r1)
 ·exact(h.bw.setCell h.le _).setCell h.le _
theorem Make_q {x y:ByteArray} {w:World} (hi:IOps w) (zx:Sz x) (zy:Sz y) :
  Calls Tryz.prog 156 #[.string x,.string y] w fun e W'=>e=.returned (.tuple #[.agg #[.string (qN (kW_ x y)),.string (qD (kW_ x y))],.int .i64 (qE (kW_ x y))])∧Below w.heap.size w W':=by
 have H0:=hid (RsAt.start (Below.refl _ w) 47)
 have v1:=fun W hk=>hi.val zx W hk
 have v2:=fun W hk=>hi.val zy W hk
 rw[←dB_] at v1 v2
 have key:∀(b:Bool) (W':World),RsAt w.heap.size w W'→(b=false→∃p q,aG_ x=some p∧aG_ y=some q)→(b=true→aG_ x=none∨aG_ y=none)→Calls Tryz.prog 200 #[.pointer (some ⟨W'.heap.size,0,none⟩),.string x,.string y] (W'.alloc (.cells #[.bool b] 198)) fun e W2=>e=.returned (.tuple #[.agg #[.string (qN (kW_ x y)),.string (qD (kW_ x y))],.int .i64 (qE (kW_ x y))])∧RsAt w.heap.size w W2:=by
  intro b W' hk h1 h2
  have hs:=WkAt.start (Below.refl W'.heap.size W') (Nat.le_refl _) b
  cases b with
  | true=>
   rw[aAO (h2 rfl)]
   refine(hU_ hs (.inl rfl)).mono ?_
   rintro e W2 ⟨rfl,hb⟩
   exact⟨rfl,hk.below hb⟩
  | false=>
   obtain⟨p,q,h3,h4⟩:=h1 rfl
   rw[oS_ h3 h4]
   refine(mI_ hs (hi.below hk.bw) zx zy (fun _=>⟨h3,h4⟩)).mono ?_
   rintro e W2 ⟨rfl,hb⟩
   exact⟨rfl,hk.below hb⟩
 generalize kW_ x y=o at key⊢
 cases h1:aG_ x with
 | none=>
  rw[h1] at v1
  have V1:=hid v1
  have K:=hid (fun W' hk=>key true W' hk (fun k=>by cases k) (fun _=>.inl h1))
  clear v1 v2 key h1
  go_enter Tryz.func156,Tryz.ntmps156
  go_wp2_with (first
   | (go_at_call 199;with_reducible refine(V1.out _ H0.out.bw).mono ?_;rintro e w1 ⟨rfl,hb1⟩;have H1:=hid (H0.out.below hb1);clear hb1)
   | (go_at_call 200;with_reducible refine(K.out _ H1.out).mono ?_;rintro e w2 ⟨rfl,h2⟩;obtain⟨_,q1,q2,q3,q4,_,_⟩:=id h2;have H2:=hid h2;clear h2)
   | fail)
  obtain⟨W5,hW5,p0,p1,hbl⟩:=H2.out.fin (qN o) (qD o)
  rw[hW5]
  clear hW5 q1 q2 q3 q4
  refine bodyPost_ret (v:=.tuple #[.agg #[.string (qN o),.string (qD o)],.int .i64 (qE o)]) ?_ rfl ⟨rfl,hbl⟩
  simp[results,Tryz.results156,go_sem,p0,p1,Result.andThen]
 | some p=>
  rw[h1] at v1
  cases h2:aG_ y with
  | none=>
   rw[h2] at v2
   have V1:=hid v1
   have V2:=hid v2
   have K:=hid (fun W' hk=>key true W' hk (fun k=>by cases k) (fun _=>.inr h2))
   clear v1 v2 key h1 h2
   go_enter Tryz.func156,Tryz.ntmps156
   go_wp2_with (first
    | (go_at_call 199;with_reducible refine(V1.out _ H0.out.bw).mono ?_;rintro e w1 ⟨rfl,hb1⟩;have H1:=hid (H0.out.below hb1);clear hb1)
    | (go_at_call 199;with_reducible refine(V2.out _ H1.out.bw).mono ?_;rintro e w2 ⟨rfl,hb1⟩;have H2:=hid (H1.out.below hb1);clear hb1)
    | (go_at_call 200;with_reducible refine(K.out _ H2.out).mono ?_;rintro e w3 ⟨rfl,h3⟩;obtain⟨_,q1,q2,q3,q4,_,_⟩:=id h3;have H3:=hid h3;clear h3)
    | fail)
   obtain⟨W5,hW5,p0,p1,hbl⟩:=H3.out.fin (qN o) (qD o)
   rw[hW5]
   clear hW5 q1 q2 q3 q4
   refine bodyPost_ret (v:=.tuple #[.agg #[.string (qN o),.string (qD o)],.int .i64 (qE o)]) ?_ rfl ⟨rfl,hbl⟩
   simp[results,Tryz.results156,go_sem,p0,p1,Result.andThen]
  | some q=>
   rw[h2] at v2
   have V1:=hid v1
   have V2:=hid v2
   have K:=hid (fun W' hk=>key false W' hk (fun _=>⟨p,q,h1,h2⟩) (fun k=>by cases k))
   clear v1 v2 key h1 h2
   go_enter Tryz.func156,Tryz.ntmps156
   go_wp2_with (first
    | (go_at_call 199;with_reducible refine(V1.out _ H0.out.bw).mono ?_;rintro e w1 ⟨rfl,hb1⟩;have H1:=hid (H0.out.below hb1);clear hb1)
    | (go_at_call 199;with_reducible refine(V2.out _ H1.out.bw).mono ?_;rintro e w2 ⟨rfl,hb1⟩;have H2:=hid (H1.out.below hb1);clear hb1)
    | (go_at_call 200;with_reducible refine(K.out _ H2.out).mono ?_;rintro e w3 ⟨rfl,h3⟩;obtain⟨_,q1,q2,q3,q4,_,_⟩:=id h3;have H3:=hid h3;clear h3)
    | fail)
   obtain⟨W5,hW5,p0,p1,hbl⟩:=H3.out.fin (qN o) (qD o)
   rw[hW5]
   clear hW5 q1 q2 q3 q4
   refine bodyPost_ret (v:=.tuple #[.agg #[.string (qN o),.string (qD o)],.int .i64 (qE o)]) ?_ rfl ⟨rfl,hbl⟩
   simp[results,Tryz.results156,go_sem,p0,p1,Result.andThen]
structure OpAt (a1 a2 b1 b2:ByteArray) (w W:World):Prop where
 bw:Below w.heap.size w W
 x0:W.cell? ⟨w.heap.size,0,none⟩=some (.string a1)
 x1:W.cell? ⟨w.heap.size,1,none⟩=some (.string a2)
 y0:W.cell? ⟨w.heap.size+1,0,none⟩=some (.string b1)
 y1:W.cell? ⟨w.heap.size+1,1,none⟩=some (.string b2)
 r0:W.cell? ⟨w.heap.size+1+1,0,none⟩=some (.string ⟨#[]⟩)
 r1:W.cell? ⟨w.heap.size+1+1,1,none⟩=some (.string ⟨#[]⟩)
 f0:W.frozen? ⟨w.heap.size+1+1,0,none⟩=false
 f1:W.frozen? ⟨w.heap.size+1+1,1,none⟩=false
 sz:w.heap.size+1+1+1≤W.heap.size
theorem OpAt.below {a1 a2 b1 b2:ByteArray} {w W W':World} (h:OpAt a1 a2 b1 b2 w W) (hb:Below W.heap.size W W'):OpAt a1 a2 b1 b2 w W':=by
 obtain⟨c,f⟩:=kZ_ hb
 have hs:=h.sz
 have hs':=hb.size
 exact⟨h.bw.trans (hb.mono (by omega)),(c _ _ (by omega)).trans h.x0,(c _ _ (by omega)).trans h.x1,(c _ _ (by omega)).trans h.y0,(c _ _ (by omega)).trans h.y1,(c _ _ (by omega)).trans h.r0,(c _ _ (by omega)).trans h.r1,(f _ _ (by omega)).trans h.f0,(f _ _ (by omega)).trans h.f1,by omega⟩
theorem OpAt.rs {a1 a2 b1 b2:ByteArray} {w W:World} (h:OpAt a1 a2 b1 b2 w W):RsAt (w.heap.size+1+1) w W:=⟨h.bw,h.r0,h.r1,h.f0,h.f1,by omega,by have:=h.sz;omega⟩
theorem OpAt.start (w:World) (a1 a2 b1 b2:ByteArray) (t:TypeId):OpAt a1 a2 b1 b2 w (((w.alloc (.cells #[.string a1,.string a2] t)).alloc (.cells #[.string b1,.string b2] t)).alloc (.cells #[.string ⟨#[]⟩,.string ⟨#[]⟩] t)):=by
 refine⟨(((Below.refl _ _).alloc (Nat.le_refl _) _).alloc (by simp) _).alloc (by simp;omega) _,?_,?_,?_,?_,?_,?_,?_,?_,by simp⟩ <;> simp[go_sem]
structure OwAt (a1 a2 b1 b2:ByteArray) (b:Bool) (w W0 W:World):Prop where
 op:OpAt a1 a2 b1 b2 w W0
 wk:WkAt W0.heap.size (w.heap.size+1+1+1) b W0 W
 size:W0.heap.size=w.heap.size+1+1+1
theorem OwAt.at {a1 a2 b1 b2:ByteArray} {b:Bool} {w W0 W:World} (h:OwAt a1 a2 b1 b2 b w W0 W):OpAt a1 a2 b1 b2 w W:=h.op.below h.wk.bw
theorem OwAt.to {a1 a2 b1 b2:ByteArray} {b b':Bool} {w W0 W W' V:World} (h:OwAt a1 a2 b1 b2 b w W0 W) (k:WkTo W0.heap.size (w.heap.size+1+1+1) b' W0 V W'):OwAt a1 a2 b1 b2 b' w W0 W':=⟨h.op,k.wk,h.size⟩
theorem OwAt.drew {a1 a2 b1 b2:ByteArray} {b:Bool} {w W0 W:World} (h:OwAt a1 a2 b1 b2 b w W0 W):OwAt a1 a2 b1 b2 b w W0 W.drew:=⟨h.op,h.wk.drew,h.size⟩
theorem OwAt.ops {a1 a2 b1 b2:ByteArray} {b:Bool} {w W0 W:World} (h:OwAt a1 a2 b1 b2 b w W0 W) (hi:IOps w):IOps W:=hi.below h.at.bw
theorem OwAt.start (w:World) (a1 a2 b1 b2:ByteArray) (t:TypeId) (b:Bool):∃W0,OwAt a1 a2 b1 b2 b w W0 ((((w.alloc (.cells #[.string a1,.string a2] t)).alloc (.cells #[.string b1,.string b2] t)).alloc (.cells #[.string ⟨#[]⟩,.string ⟨#[]⟩] t)).alloc (.cells #[.bool b] 198)):=by
 refine⟨_,OpAt.start w a1 a2 b1 b2 t,?_,by simp⟩
 have:=WkAt.start (Below.refl _ (((w.alloc (.cells #[.string a1,.string a2] t)).alloc (.cells #[.string b1,.string b2] t)).alloc (.cells #[.string ⟨#[]⟩,.string ⟨#[]⟩] t))) (Nat.le_refl _) b
 have e:(((w.alloc (.cells #[.string a1,.string a2] t)).alloc (.cells #[.string b1,.string b2] t)).alloc (.cells #[.string ⟨#[]⟩,.string ⟨#[]⟩] t)).heap.size=w.heap.size+1+1+1:=by simp
 rw[e] at this⊢
 exact this
theorem FrAt.two {a1 a2 b1 b2:ByteArray} (W:World) (t:TypeId) (z1:Sz a1) (z2:Sz a2) (z3:Sz b1) (z4:Sz b2):FrAt W.heap.size [(a1,a2),(b1,b2)] (W.alloc (.cells #[.string a1,.string a2,.string b1,.string b2] t)):=by
 refine⟨fun k h=>?_,by simp,fun p hp=>?_⟩
 ·rcases k with _|_|k
  ·exact⟨by simp[go_sem],by simp[go_sem]⟩
  ·exact⟨by simp[go_sem],by simp[go_sem]⟩
  ·simp at h;omega
 ·simp only[List.mem_cons,List.not_mem_nil,or_false] at hp
  rcases hp with rfl|rfl
  ·exact⟨z1,z2⟩
  ·exact⟨z3,z4⟩
theorem qJ_ {a1 a2 b1 b2:ByteArray} {b:Bool} {w W0 W:World} (hi:IOps w) (z1:Sz a1) (z2:Sz a2) (z3:Sz b1) (z4:Sz b2) (h:OwAt a1 a2 b1 b2 b w W0 W) (t:TypeId) (S:Nat) (hS:W.heap.size=S) :
  Calls Tryz.prog 203 #[.pointer (some ⟨w.heap.size+1+1+1,0,none⟩),.slice (some ⟨S,0,none⟩) 2 2] (W.alloc (.cells #[.string a1,.string a2,.string b1,.string b2] t)) fun e W'=>(∃v,e=.returned v)∧OwAt a1 a2 b1 b2 (chkB b [(a1,a2),(b1,b2)]) w W0 W':=by
 subst hS
 refine(aHW (h.wk.alloc _) (hi.below h.op.bw) (FrAt.two W t z1 z2 z3 z4) h.wk.sz (by simp)).mono ?_
 rintro e W' ⟨he,h2⟩
 exact⟨he,h.to h2⟩
theorem mQ_ {a1 a2 b1 b2 x y:ByteArray} {b:Bool} {w W0 W:World} (hi:IOps w) (zx:Sz x) (zy:Sz y) (h:OwAt a1 a2 b1 b2 b w W0 W) :
  Calls Tryz.prog 204 #[.pointer (some ⟨w.heap.size+1+1+1,0,none⟩),.string x,.string y] W fun e W'=>e=.returned (.string (stS b (mulO x y)))∧OwAt a1 a2 b1 b2 (stB b (mulO x y)) w W0 W':=by
 refine(mul_q zx zy h.wk (h.ops hi)).mono ?_
 rintro e W' ⟨he,h2⟩
 exact⟨he,h.to h2⟩
theorem jP_ {a1 a2 b1 b2 x y:ByteArray} {p q:Int} {o:Option Rat} {b:Bool} {w W0 W:World} (hi:IOps w) (zx:Sz x) (zy:Sz y) (h:OwAt a1 a2 b1 b2 b w W0 W) (hx:b=false→aG_ x=some p∧aG_ y=some q) (ho:(if b=true then none else bE_ p q)=o) :
  Calls Tryz.prog 200 #[.pointer (some ⟨w.heap.size+1+1+1,0,none⟩),.string x,.string y] W fun e W'=>e=.returned (.tuple #[.agg #[.string (qN o),.string (qD o)],.int .i64 (qE o)])∧RsAt (w.heap.size+1+1) w W':=by
 subst ho
 refine(mI_ h.wk (hi.below h.op.bw) zx zy hx).mono ?_
 rintro e W' ⟨he,h2⟩
 exact⟨he,(h.op.below h2).rs⟩
theorem Mul_w {a1 a2 b1 b2:ByteArray} {o:Option Rat} {p q:Int} {w:World} (hi:IOps w) (z1:Sz a1) (z2:Sz a2) (z3:Sz b1) (z4:Sz b2)
  (B1 B2 B3:Bool) (S1 S2:ByteArray) (e1:B1=chkB false [(a1,a2),(b1,b2)]) (e2:S1=stS B1 (mulO a1 b1)) (e3:B2=stB B1 (mulO a1 b1)) (e4:S2=stS B2 (mulO a2 b2)) (e5:B3=stB B2 (mulO a2 b2))
  (hx:B3=false→aG_ S1=some p∧aG_ S2=some q) (ho:(if B3=true then none else bE_ p q)=o) :
  Calls Tryz.prog 162 #[.agg #[.string a1,.string a2],.agg #[.string b1,.string b2]] w fun e W'=>e=.returned (.tuple #[.agg #[.string (qN o),.string (qD o)],.int .i64 (qE o)])∧Below w.heap.size w W':=by
 obtain⟨W0,hst⟩:=OwAt.start w a1 a2 b1 b2 47 false
 have zS1:Sz S1:=by rw[e2];exact kH_ _ _
 have zS2:Sz S2:=by rw[e4];exact kH_ _ _
 have kc:=hid (fun W (h:OwAt a1 a2 b1 b2 false w W0 W) (t:TypeId) (S:Nat) (hS:W.heap.size=S)=>by have:=qJ_ hi z1 z2 z3 z4 h t S hS;rw[←e1] at this;exact this)
 have k1:=hid (fun W (h:OwAt a1 a2 b1 b2 B1 w W0 W)=>by have:=mQ_ hi z1 z3 h;rw[←e2,←e3] at this;exact this)
 have k2:=hid (fun W (h:OwAt a1 a2 b1 b2 B2 w W0 W)=>by have:=mQ_ hi z2 z4 h;rw[←e4,←e5] at this;exact this)
 have kr:=hid (fun W (h:OwAt a1 a2 b1 b2 B3 w W0 W)=>jP_ hi zS1 zS2 h hx ho)
 clear hi z1 z2 z3 z4 zS1 zS2 e1 e2 e3 e4 e5 hx ho
 have H0:=hid hst
 clear hst
 go_enter Tryz.func162,Tryz.ntmps162
 go_wp2_with (first
  | (go_at_call 203;with_reducible refine(kc.out _ H0.out _ _ (by simp)).mono ?_;rintro e w1 ⟨⟨v,rfl⟩,h1⟩;obtain⟨_,x0,x1,y0,y1,_⟩:=h1.at;have H1:=hid h1;clear h1)
  | (go_at_call 204;with_reducible refine(k1.out _ H1.out).mono ?_;rintro e w2 ⟨rfl,h2⟩;obtain⟨_,x0',x1',y0',y1',_⟩:=h2.at;have H2:=hid h2;clear h2)
  | (go_at_call 204;with_reducible refine(k2.out _ H2.out).mono ?_;rintro e w3 ⟨rfl,h3⟩;have H3:=hid h3;clear h3)
  | (go_at_call 200;with_reducible refine(kr.out _ H3.out).mono ?_;rintro e w4 ⟨rfl,h4⟩;obtain⟨_,q1,q2,q3,q4,_,_⟩:=id h4;have H4:=hid h4;clear h4)
  | fail)
 obtain⟨W5,hW5,p0,p1,hbl⟩:=H4.out.fin (qN o) (qD o)
 rw[hW5]
 clear hW5 q1 q2 q3 q4
 refine bodyPost_ret (v:=.tuple #[.agg #[.string (qN o),.string (qD o)],.int .i64 (qE o)]) ?_ rfl ⟨rfl,hbl⟩
 simp[results,Tryz.results162,go_sem,p0,p1,Result.andThen]
theorem Div_w {a1 a2 b1 b2:ByteArray} {o:Option Rat} {p q:Int} {w:World} (hi:IOps w) (z1:Sz a1) (z2:Sz a2) (z3:Sz b1) (z4:Sz b2)
  (B1 B2 B3:Bool) (S1 S2:ByteArray) (e1:B1=chkB false [(a1,a2),(b1,b2)]) (e2:S1=stS B1 (mulO a1 b2)) (e3:B2=stB B1 (mulO a1 b2)) (e4:S2=stS B2 (mulO a2 b1)) (e5:B3=stB B2 (mulO a2 b1))
  (hx:B3=false→aG_ S1=some p∧aG_ S2=some q) (ho:(if B3=true then none else bE_ p q)=o) :
  Calls Tryz.prog 182 #[.agg #[.string a1,.string a2],.agg #[.string b1,.string b2]] w fun e W'=>e=.returned (.tuple #[.agg #[.string (qN o),.string (qD o)],.int .i64 (qE o)])∧Below w.heap.size w W':=by
 obtain⟨W0,hst⟩:=OwAt.start w a1 a2 b1 b2 47 false
 have zS1:Sz S1:=by rw[e2];exact kH_ _ _
 have zS2:Sz S2:=by rw[e4];exact kH_ _ _
 have kc:=hid (fun W (h:OwAt a1 a2 b1 b2 false w W0 W) (t:TypeId) (S:Nat) (hS:W.heap.size=S)=>by have:=qJ_ hi z1 z2 z3 z4 h t S hS;rw[←e1] at this;exact this)
 have k1:=hid (fun W (h:OwAt a1 a2 b1 b2 B1 w W0 W)=>by have:=mQ_ hi z1 z4 h;rw[←e2,←e3] at this;exact this)
 have k2:=hid (fun W (h:OwAt a1 a2 b1 b2 B2 w W0 W)=>by have:=mQ_ hi z2 z3 h;rw[←e4,←e5] at this;exact this)
 have kr:=hid (fun W (h:OwAt a1 a2 b1 b2 B3 w W0 W)=>jP_ hi zS1 zS2 h hx ho)
 clear hi z1 z2 z3 z4 zS1 zS2 e1 e2 e3 e4 e5 hx ho
 have H0:=hid hst
 clear hst
 go_enter Tryz.func182,Tryz.ntmps182
 go_wp2_with (first
  | (go_at_call 203;with_reducible refine(kc.out _ H0.out _ _ (by simp)).mono ?_;rintro e w1 ⟨⟨v,rfl⟩,h1⟩;obtain⟨_,x0,x1,y0,y1,_⟩:=h1.at;have H1:=hid h1;clear h1)
  | (go_at_call 204;with_reducible refine(k1.out _ H1.out).mono ?_;rintro e w2 ⟨rfl,h2⟩;obtain⟨_,x0',x1',y0',y1',_⟩:=h2.at;have H2:=hid h2;clear h2)
  | (go_at_call 204;with_reducible refine(k2.out _ H2.out).mono ?_;rintro e w3 ⟨rfl,h3⟩;have H3:=hid h3;clear h3)
  | (go_at_call 200;with_reducible refine(kr.out _ H3.out).mono ?_;rintro e w4 ⟨rfl,h4⟩;obtain⟨_,q1,q2,q3,q4,_,_⟩:=id h4;have H4:=hid h4;clear h4)
  | fail)
 obtain⟨W5,hW5,p0,p1,hbl⟩:=H4.out.fin (qN o) (qD o)
 rw[hW5]
 clear hW5 q1 q2 q3 q4
 refine bodyPost_ret (v:=.tuple #[.agg #[.string (qN o),.string (qD o)],.int .i64 (qE o)]) ?_ rfl ⟨rfl,hbl⟩
 simp[results,Tryz.results182,go_sem,p0,p1,Result.andThen]
theorem ow_do {a1 a2 b1 b2:ByteArray} {b:Bool} {w W0 W:World} (hi:IOps w) (K:Nat) (O:ByteArray→ByteArray→Option Int)
  (hent:∀(args:Array Value) (w:World),(callFunc K args).run Tryz.prog w=.ok (.enter K args) w) (x y:ByteArray)
  (hK:∀(W:World),IOps W→Calls Tryz.prog K #[.string x,.string y] W fun e W'=>e=.returned (.tuple #[.string (opS (O x y)),.int .i64 (opN (O x y))])∧Below W.heap.size W W') (h:OwAt a1 a2 b1 b2 b w W0 W) :
  Calls Tryz.prog 221 #[.pointer (some ⟨w.heap.size+1+1+1,0,none⟩),.func (.func K) #[] #[],.string x,.string y] W fun e W'=>e=.returned (.string (stS b (O x y)))∧OwAt a1 a2 b1 b2 (stB b (O x y)) w W0 W':=by
 refine(do_q K (O x y) x y h.wk hent (fun _=>hK W (h.ops hi))).mono ?_
 rintro e W' ⟨he,h2⟩
 exact⟨he,h.to h2⟩
theorem sum_w {a1 a2 b1 b2:ByteArray} {o:Option Rat} {p q:Int} {w:World} (hi:IOps w) (z1:Sz a1) (z2:Sz a2) (z3:Sz b1) (z4:Sz b2) (K:Nat) (O:ByteArray→ByteArray→Option Int)
  (hent:∀(args:Array Value) (w:World),(callFunc K args).run Tryz.prog w=.ok (.enter K args) w)
  (hK:∀(x y:ByteArray) (W:World),Sz x→Sz y→IOps W→Calls Tryz.prog K #[.string x,.string y] W fun e W'=>e=.returned (.tuple #[.string (opS (O x y)),.int .i64 (opN (O x y))])∧Below W.heap.size W W')
  (B1 B2 B3 B4 B5:Bool) (S1 S2 S3 S4:ByteArray) (e1:B1=chkB false [(a1,a2),(b1,b2)]) (e2:S1=stS B1 (mulO a1 b2)) (e3:B2=stB B1 (mulO a1 b2)) (e4:S2=stS B2 (mulO b1 a2)) (e5:B3=stB B2 (mulO b1 a2))
  (e6:S3=stS B3 (O S1 S2)) (e7:B4=stB B3 (O S1 S2)) (e8:S4=stS B4 (mulO a2 b2)) (e9:B5=stB B4 (mulO a2 b2))
  (hx:B5=false→aG_ S3=some p∧aG_ S4=some q) (ho:(if B5=true then none else bE_ p q)=o) :
  Calls Tryz.prog 180 #[.func (.func K) #[] #[],.agg #[.string a1,.string a2],.agg #[.string b1,.string b2]] w fun e W'=>e=.returned (.tuple #[.agg #[.string (qN o),.string (qD o)],.int .i64 (qE o)])∧Below w.heap.size w W':=by
 obtain⟨W0,hst⟩:=OwAt.start w a1 a2 b1 b2 47 false
 have zS1:Sz S1:=by rw[e2];exact kH_ _ _
 have zS2:Sz S2:=by rw[e4];exact kH_ _ _
 have zS3:Sz S3:=by rw[e6];exact kH_ _ _
 have zS4:Sz S4:=by rw[e8];exact kH_ _ _
 have kc:=hid (fun W (h:OwAt a1 a2 b1 b2 false w W0 W) (t:TypeId) (S:Nat) (hS:W.heap.size=S)=>by have:=qJ_ hi z1 z2 z3 z4 h t S hS;rw[←e1] at this;exact this)
 have k1:=hid (fun W (h:OwAt a1 a2 b1 b2 B1 w W0 W)=>by have:=mQ_ hi z1 z4 h;rw[←e2,←e3] at this;exact this)
 have k2:=hid (fun W (h:OwAt a1 a2 b1 b2 B2 w W0 W)=>by have:=mQ_ hi z3 z2 h;rw[←e4,←e5] at this;exact this)
 have k3:=hid (fun W (h:OwAt a1 a2 b1 b2 B3 w W0 W)=>by have:=ow_do hi K O hent S1 S2 (fun W hW=>hK S1 S2 W zS1 zS2 hW) h;rw[←e6,←e7] at this;exact this)
 have k4:=hid (fun W (h:OwAt a1 a2 b1 b2 B4 w W0 W)=>by have:=mQ_ hi z2 z4 h;rw[←e8,←e9] at this;exact this)
 have kr:=hid (fun W (h:OwAt a1 a2 b1 b2 B5 w W0 W)=>jP_ hi zS3 zS4 h hx ho)
 clear hi z1 z2 z3 z4 zS1 zS2 zS3 zS4 e1 e2 e3 e4 e5 e6 e7 e8 e9 hx ho hent hK
 have H0:=hid hst
 clear hst
 go_enter Tryz.func180,Tryz.ntmps180
 go_wp2_with (first
  | (go_at_call 203;with_reducible refine(kc.out _ H0.out _ _ (by simp)).mono ?_;rintro e w1 ⟨⟨v,rfl⟩,h1⟩;obtain⟨_,x0,x1,y0,y1,_⟩:=h1.at;have H1:=hid h1;clear h1)
  | fail)
 go_region_held3 (fun W=>W.cell? ⟨w.heap.size,0,none⟩=some (.string a1)∧W.cell? ⟨w.heap.size,1,none⟩=some (.string a2)∧W.cell? ⟨w.heap.size+1,0,none⟩=some (.string b1)∧W.cell? ⟨w.heap.size+1,1,none⟩=some (.string b2)) (first|exact⟨H4.out.at.x0,H4.out.at.x1,H4.out.at.y0,H4.out.at.y1⟩|exact⟨H3.out.at.x0,H3.out.at.x1,H3.out.at.y0,H3.out.at.y1⟩|exact⟨H2.out.at.x0,H2.out.at.x1,H2.out.at.y0,H2.out.at.y1⟩|exact⟨H1.out.at.x0,H1.out.at.x1,H1.out.at.y0,H1.out.at.y1⟩) (first
  | (go_at_call 204;refine(k1.out _ (by exact H1.out.drew)).mono ?_;rintro e w2 ⟨rfl,h2⟩;have H2:=hid h2;clear h2)
  | (go_at_call 204;refine(k2.out _ (by exact H2.out)).mono ?_;rintro e w3 ⟨rfl,h3⟩;have H3:=hid h3;clear h3)
  | (go_at_call 221;refine(k3.out _ (by exact H3.out)).mono ?_;rintro e w4 ⟨rfl,h4⟩;have H4:=hid h4;clear h4))
 all_goals (
  have h4:=H4.out.at
  obtain⟨_,x0,x1,y0,y1,_⟩:=h4
  go_wp2_with (first
   | (go_at_call 204;with_reducible refine(k4.out _ H4.out).mono ?_;rintro e w5 ⟨rfl,h5⟩;have H5:=hid h5;clear h5)
   | (go_at_call 200;with_reducible refine(kr.out _ H5.out).mono ?_;rintro e w6 ⟨rfl,h6⟩;obtain⟨_,q1,q2,q3,q4,_,_⟩:=id h6;have H6:=hid h6;clear h6)
   | fail)
  obtain⟨W5,hW5,p0,p1,hbl⟩:=H6.out.fin (qN o) (qD o)
  rw[hW5]
  clear hW5 q1 q2 q3 q4
  refine bodyPost_ret (v:=.tuple #[.agg #[.string (qN o),.string (qD o)],.int .i64 (qE o)]) ?_ rfl ⟨rfl,hbl⟩
  simp[results,Tryz.results180,go_sem,p0,p1,Result.andThen])
theorem oM_ (b:Bool) (z:Int):stB b (some z)=(b || !small z):=by
 by_cases h:small z=true
 ·rw[h]
  cases b
  ·rw[dH_ h];rfl
  ·rfl
 ·rw[gH_ h]
  simp[h]
theorem kG_ {b:Bool} {z:Int} (h:stB b (some z)=false):b=false∧small z=true∧stS b (some z)=str z∧aG_ (stS b (some z))=some z:=by
 rw[oM_] at h
 simp only[Bool.or_eq_false_iff,Bool.not_eq_false'] at h
 obtain⟨rfl,h2⟩:=h
 refine⟨rfl,h2,?_,?_⟩
 ·rw[eP_,aH_ h2]
 ·rw[eP_,aH_ h2,aW_,if_pos h2]
theorem dM_ {n d:ByteArray} {r:Rat} (h:ratO n d=some r):aG_ n=some r.num∧aG_ d=some (r.den:Int):=by
 obtain⟨e1,e2,h1,h2⟩:=cS_ h
 rw[e1,e2,aW_,aW_,if_pos h1,if_pos h2]
 exact⟨rfl,rfl⟩
theorem wL_ {a1 a2 b1 b2:ByteArray} (h:ratO a1 a2=none∨ratO b1 b2=none):chkB false [(a1,a2),(b1,b2)]=true:=by
 unfold chkB vR
 rcases h with h|h <;> simp[h]
theorem rI_ {a1 a2 b1 b2:ByteArray} {a b:Rat} (ha:ratO a1 a2=some a) (hb:ratO b1 b2=some b):chkB false [(a1,a2),(b1,b2)]=false:=by
 unfold chkB vR
 simp[ha,hb]
theorem Mul_q {a1 a2 b1 b2:ByteArray} {w:World} (hi:IOps w) (z1:Sz a1) (z2:Sz a2) (z3:Sz b1) (z4:Sz b2) :
  Calls Tryz.prog 162 #[.agg #[.string a1,.string a2],.agg #[.string b1,.string b2]] w fun e W'=>e=.returned (.tuple #[.agg #[.string (qN (op2 mulR a1 a2 b1 b2)),.string (qD (op2 mulR a1 a2 b1 b2))],.int .i64 (qE (op2 mulR a1 a2 b1 b2))])∧Below w.heap.size w W':=by
 by_cases hn:ratO a1 a2=none∨ratO b1 b2=none
 ·have hc:=wL_ hn
  refine Mul_w (p:=0) (q:=0) hi z1 z2 z3 z4 true true true _ _ hc.symm rfl rfl rfl rfl (fun k=>by cases k) ?_
  rw[qM_ hn]
  rfl
 ·obtain⟨a,ha⟩:∃a,ratO a1 a2=some a:=Option.ne_none_iff_exists'.1 (fun h=>hn (.inl h))
  obtain⟨b,hb⟩:∃b,ratO b1 b2=some b:=Option.ne_none_iff_exists'.1 (fun h=>hn (.inr h))
  obtain⟨m1,m2⟩:=dM_ ha
  obtain⟨m3,m4⟩:=dM_ hb
  have o1:mulO a1 b1=some (a.num*b.num):=by unfold mulO;rw[m1,m3]
  have o2:mulO a2 b2=some ((a.den:Int)*b.den):=by unfold mulO;rw[m2,m4]
  have hc:=rI_ ha hb
  refine Mul_w (p:=a.num*b.num) (q:=(a.den:Int)*b.den) hi z1 z2 z3 z4 false _ _ _ _ hc.symm rfl rfl rfl rfl ?_ ?_
  ·rw[o1,o2]
   intro h
   obtain⟨h1,_,_,k2⟩:=kG_ h
   obtain⟨_,_,_,k1⟩:=kG_ h1
   exact⟨k1,k2⟩
  ·rw[qL_ ha hb,tH_,o1,o2,oM_,oM_]
   cases small (a.num*b.num) <;> cases small ((a.den:Int)*b.den) <;> rfl
theorem Div_q {a1 a2 b1 b2:ByteArray} {w:World} (hi:IOps w) (z1:Sz a1) (z2:Sz a2) (z3:Sz b1) (z4:Sz b2) :
  Calls Tryz.prog 182 #[.agg #[.string a1,.string a2],.agg #[.string b1,.string b2]] w fun e W'=>e=.returned (.tuple #[.agg #[.string (qN (op2 divR a1 a2 b1 b2)),.string (qD (op2 divR a1 a2 b1 b2))],.int .i64 (qE (op2 divR a1 a2 b1 b2))])∧Below w.heap.size w W':=by
 by_cases hn:ratO a1 a2=none∨ratO b1 b2=none
 ·have hc:=wL_ hn
  refine Div_w (p:=0) (q:=0) hi z1 z2 z3 z4 true true true _ _ hc.symm rfl rfl rfl rfl (fun k=>by cases k) ?_
  rw[qM_ hn]
  rfl
 ·obtain⟨a,ha⟩:∃a,ratO a1 a2=some a:=Option.ne_none_iff_exists'.1 (fun h=>hn (.inl h))
  obtain⟨b,hb⟩:∃b,ratO b1 b2=some b:=Option.ne_none_iff_exists'.1 (fun h=>hn (.inr h))
  obtain⟨m1,m2⟩:=dM_ ha
  obtain⟨m3,m4⟩:=dM_ hb
  have o1:mulO a1 b2=some (a.num*b.den):=by unfold mulO;rw[m1,m4]
  have o2:mulO a2 b1=some ((a.den:Int)*b.num):=by unfold mulO;rw[m2,m3]
  have hc:=rI_ ha hb
  refine Div_w (p:=a.num*b.den) (q:=(a.den:Int)*b.num) hi z1 z2 z3 z4 false _ _ _ _ hc.symm rfl rfl rfl rfl ?_ ?_
  ·rw[o1,o2]
   intro h
   obtain⟨h1,_,_,k2⟩:=kG_ h
   obtain⟨_,_,_,k1⟩:=kG_ h1
   exact⟨k1,k2⟩
  ·rw[qL_ ha hb,tX_,o1,o2,oM_,oM_]
   cases small (a.num*b.den) <;> cases small ((a.den:Int)*b.num) <;> rfl
theorem sum_q (K:Nat) (O:ByteArray→ByteArray→Option Int) (f:Int→Int→Int) (F:Rat→Rat→Option Rat)
  (hO:∀(x y:ByteArray) (p q:Int),aG_ x=some p→aG_ y=some q→O x y=some (f p q))
  (hF:∀a b:Rat,F a b=if small (a.num*b.den)=true∧small (b.num*a.den)=true∧small (f (a.num*b.den) (b.num*a.den))=true∧small ((a.den:Int)*b.den)=true then bE_ (f (a.num*b.den) (b.num*a.den)) (a.den*b.den) else none)
  (hent:∀(args:Array Value) (w:World),(callFunc K args).run Tryz.prog w=.ok (.enter K args) w)
  (hK:∀(x y:ByteArray) (W:World),Sz x→Sz y→IOps W→Calls Tryz.prog K #[.string x,.string y] W fun e W'=>e=.returned (.tuple #[.string (opS (O x y)),.int .i64 (opN (O x y))])∧Below W.heap.size W W')
  {a1 a2 b1 b2:ByteArray} {w:World} (hi:IOps w) (z1:Sz a1) (z2:Sz a2) (z3:Sz b1) (z4:Sz b2) :
  Calls Tryz.prog 180 #[.func (.func K) #[] #[],.agg #[.string a1,.string a2],.agg #[.string b1,.string b2]] w fun e W'=>e=.returned (.tuple #[.agg #[.string (qN (op2 F a1 a2 b1 b2)),.string (qD (op2 F a1 a2 b1 b2))],.int .i64 (qE (op2 F a1 a2 b1 b2))])∧Below w.heap.size w W':=by
 by_cases hn:ratO a1 a2=none∨ratO b1 b2=none
 ·have hc:=wL_ hn
  refine sum_w (p:=0) (q:=0) hi z1 z2 z3 z4 K O hent hK true true true true true _ _ _ _ hc.symm rfl rfl rfl rfl rfl rfl rfl rfl (fun k=>by cases k) ?_
  rw[qM_ hn]
  rfl
 ·obtain⟨a,ha⟩:∃a,ratO a1 a2=some a:=Option.ne_none_iff_exists'.1 (fun h=>hn (.inl h))
  obtain⟨b,hb⟩:∃b,ratO b1 b2=some b:=Option.ne_none_iff_exists'.1 (fun h=>hn (.inr h))
  obtain⟨m1,m2⟩:=dM_ ha
  obtain⟨m3,m4⟩:=dM_ hb
  have o1:mulO a1 b2=some (a.num*b.den):=by unfold mulO;rw[m1,m4]
  have o2:mulO b1 a2=some (b.num*a.den):=by unfold mulO;rw[m3,m2]
  have o4:mulO a2 b2=some ((a.den:Int)*b.den):=by unfold mulO;rw[m2,m4]
  have hc:=rI_ ha hb
  have key:∃B4:Bool,stB (stB (stB false (mulO a1 b2)) (mulO b1 a2)) (O (stS false (mulO a1 b2)) (stS (stB false (mulO a1 b2)) (mulO b1 a2)))=B4∧(B4=false→small (a.num*b.den)=true∧small (b.num*a.den)=true∧small (f (a.num*b.den) (b.num*a.den))=true∧aG_ (stS (stB (stB false (mulO a1 b2)) (mulO b1 a2)) (O (stS false (mulO a1 b2)) (stS (stB false (mulO a1 b2)) (mulO b1 a2))))=some (f (a.num*b.den) (b.num*a.den)))∧(B4=true→¬(small (a.num*b.den)=true∧small (b.num*a.den)=true∧small (f (a.num*b.den) (b.num*a.den))=true)):=by
   rw[o1,o2]
   by_cases h1:small (a.num*b.den)=true
   ·by_cases h2:small (b.num*a.den)=true
    ·have e1:stB false (some (a.num*b.den))=false:=dH_ h1
     have e2:stB false (some (b.num*a.den))=false:=dH_ h2
     obtain⟨_,_,_,k1⟩:=kG_ e1
     obtain⟨_,_,_,k2⟩:=kG_ e2
     rw[e1,e2,hO _ _ _ _ k1 k2]
     by_cases h3:small (f (a.num*b.den) (b.num*a.den))=true
     ·exact⟨false,dH_ h3,fun _=>⟨h1,h2,h3,(kG_ (dH_ h3)).2.2.2⟩,fun k=>(nomatch k)⟩
     ·exact⟨true,gH_ h3 _,fun k=>(nomatch k),fun _ k=>h3 k.2.2⟩
    ·refine⟨true,?_,fun k=>(nomatch k),fun _ k=>h2 k.2.1⟩
     rw[gH_ h2]
     rfl
   ·refine⟨true,?_,fun k=>(nomatch k),fun _ k=>h1 k.1⟩
    rw[gH_ h1]
    rfl
  obtain⟨B4,hB4,hy,hno⟩:=key
  refine sum_w (p:=f (a.num*b.den) (b.num*a.den)) (q:=(a.den:Int)*b.den) hi z1 z2 z3 z4 K O hent hK false _ _ B4 _ _ _ _ _ hc.symm rfl rfl rfl rfl rfl hB4.symm rfl rfl ?_ ?_
  ·rw[o4]
   intro h
   obtain⟨h1,_,_,k2⟩:=kG_ h
   exact⟨(hy h1).2.2.2,k2⟩
  ·rw[qL_ ha hb,hF,o4,oM_]
   cases B4 with
   | true=>
    refine Eq.trans (if_pos (by rfl)) ?_
    exact(if_neg (fun k=>hno rfl ⟨k.1,k.2.1,k.2.2.1⟩)).symm
   | false=>
    obtain⟨h1,h2,h3,_⟩:=hy rfl
    by_cases h4:small ((a.den:Int)*b.den)=true
    ·refine Eq.trans (if_neg (by rw[h4];decide)) ?_
     exact(if_pos ⟨h1,h2,h3,h4⟩).symm
    ·refine Eq.trans (if_pos (by simp[h4])) ?_
     exact(if_neg (fun k=>h4 k.2.2.2)).symm
theorem sumA {a1 a2 b1 b2:ByteArray} {w:World} (hi:IOps w) (z1:Sz a1) (z2:Sz a2) (z3:Sz b1) (z4:Sz b2) :
  Calls Tryz.prog 180 #[.func (.func 187) #[] #[],.agg #[.string a1,.string a2],.agg #[.string b1,.string b2]] w fun e W'=>e=.returned (.tuple #[.agg #[.string (qN (op2 addR a1 a2 b1 b2)),.string (qD (op2 addR a1 a2 b1 b2))],.int .i64 (qE (op2 addR a1 a2 b1 b2))])∧Below w.heap.size w W':=
 sum_q 187 addO (fun p q=>p+q) addR (fun x y p q h1 h2=>by unfold addO;rw[h1,h2]) uR_ (enters_of Tryz.func187 (by kernel_rfl) rfl) (fun x y W zx zy h=>h.add zx zy W (Below.refl _ _)) hi z1 z2 z3 z4
theorem sumS {a1 a2 b1 b2:ByteArray} {w:World} (hi:IOps w) (z1:Sz a1) (z2:Sz a2) (z3:Sz b1) (z4:Sz b2) :
  Calls Tryz.prog 180 #[.func (.func 181) #[] #[],.agg #[.string a1,.string a2],.agg #[.string b1,.string b2]] w fun e W'=>e=.returned (.tuple #[.agg #[.string (qN (op2 subR a1 a2 b1 b2)),.string (qD (op2 subR a1 a2 b1 b2))],.int .i64 (qE (op2 subR a1 a2 b1 b2))])∧Below w.heap.size w W':=
 sum_q 181 subO (fun p q=>p-q) subR (fun x y p q h1 h2=>by unfold subO;rw[h1,h2]) sL_ (enters_of Tryz.func181 (by kernel_rfl) rfl) (fun x y W zx zy h=>h.sub zx zy W (Below.refl _ _)) hi z1 z2 z3 z4
theorem Add_q {a1 a2 b1 b2:ByteArray} {w:World} (hi:IOps w) (z1:Sz a1) (z2:Sz a2) (z3:Sz b1) (z4:Sz b2) :
  Calls Tryz.prog 145 #[.agg #[.string a1,.string a2],.agg #[.string b1,.string b2]] w fun e W'=>e=.returned (.tuple #[.agg #[.string (qN (op2 addR a1 a2 b1 b2)),.string (qD (op2 addR a1 a2 b1 b2))],.int .i64 (qE (op2 addR a1 a2 b1 b2))])∧Below w.heap.size w W':=by
 have H0:=hid (OpAt.start w a1 a2 b1 b2 47)
 have ks:=hid (fun W (h:OpAt a1 a2 b1 b2 w W)=>sumA (hi.below h.bw) z1 z2 z3 z4)
 clear hi z1 z2 z3 z4
 generalize op2 addR a1 a2 b1 b2=o at ks⊢
 go_enter Tryz.func145,Tryz.ntmps145
 go_wp2_with (first
  | (go_at_call 180;with_reducible refine(ks.out _ H0.out).mono ?_;rintro e w1 ⟨rfl,hb⟩;have h1:=H0.out.below hb;obtain⟨_,_,_,_,_,q1,q2,q3,q4,_⟩:=id h1;have H1:=hid h1.rs;clear h1)
  | fail)
 obtain⟨W5,hW5,p0,p1,hbl⟩:=H1.out.fin (qN o) (qD o)
 rw[hW5]
 clear hW5 q1 q2 q3 q4
 refine bodyPost_ret (v:=.tuple #[.agg #[.string (qN o),.string (qD o)],.int .i64 (qE o)]) ?_ rfl ⟨rfl,hbl⟩
 simp[results,Tryz.results145,go_sem,p0,p1,Result.andThen]
theorem Sub_q {a1 a2 b1 b2:ByteArray} {w:World} (hi:IOps w) (z1:Sz a1) (z2:Sz a2) (z3:Sz b1) (z4:Sz b2) :
  Calls Tryz.prog 136 #[.agg #[.string a1,.string a2],.agg #[.string b1,.string b2]] w fun e W'=>e=.returned (.tuple #[.agg #[.string (qN (op2 subR a1 a2 b1 b2)),.string (qD (op2 subR a1 a2 b1 b2))],.int .i64 (qE (op2 subR a1 a2 b1 b2))])∧Below w.heap.size w W':=by
 have H0:=hid (OpAt.start w a1 a2 b1 b2 47)
 have ks:=hid (fun W (h:OpAt a1 a2 b1 b2 w W)=>sumS (hi.below h.bw) z1 z2 z3 z4)
 clear hi z1 z2 z3 z4
 generalize op2 subR a1 a2 b1 b2=o at ks⊢
 go_enter Tryz.func136,Tryz.ntmps136
 go_wp2_with (first
  | (go_at_call 180;with_reducible refine(ks.out _ H0.out).mono ?_;rintro e w1 ⟨rfl,hb⟩;have h1:=H0.out.below hb;obtain⟨_,_,_,_,_,q1,q2,q3,q4,_⟩:=id h1;have H1:=hid h1.rs;clear h1)
  | fail)
 obtain⟨W5,hW5,p0,p1,hbl⟩:=H1.out.fin (qN o) (qD o)
 rw[hW5]
 clear hW5 q1 q2 q3 q4
 refine bodyPost_ret (v:=.tuple #[.agg #[.string (qN o),.string (qD o)],.int .i64 (qE o)]) ?_ rfl ⟨rfl,hbl⟩
 simp[results,Tryz.results136,go_sem,p0,p1,Result.andThen]
theorem aIU {n:Nat} (h:0<n):txtN (n*10)=txtN n++[48]:=by
 rw[cP_ (by omega),cP_ h,show n*10=0+10*n by omega,jH_ (by omega) (by omega) (by omega),List.reverse_cons,List.map_append]
 rfl
theorem xF_ (k:Nat):txtN (10^k)=49::List.replicate k 48:=by
 induction k with
 | zero=>decide
 | succ k ih=>
  rw[Nat.pow_succ,aIU (Nat.pow_pos (by omega)),ih,List.replicate_succ',List.cons_append]
theorem yC_ (k:Nat):((10:Int)^k)=((10^k:Nat):Int):=by rw[Int.natCast_pow];rfl
theorem aNL (n:Nat):txt (n:Int)=txtN n:=by
 unfold txt
 rw[if_neg (by omega),Int.natAbs_natCast]
theorem aNQ (k:Nat):(⟨#[49]⟩:ByteArray)++⟨(Lib.repeatL (⟨#[48]⟩:ByteArray).data.toList k).toArray⟩=str ((10:Int)^k):=by
 have e:((⟨#[49]⟩:ByteArray)++⟨(Lib.repeatL (⟨#[48]⟩:ByteArray).data.toList k).toArray⟩).data.toList=(str ((10:Int)^k)).data.toList:=by
  rw[dD_,yC_,aNL,xF_,nY_]
  show[49]++Lib.repeatL [48] k=_
  rw[gW_]
  rfl
 exact congrArg ByteArray.mk (Array.toList_inj.1 e)
theorem aDJ {k:Nat} (h:k<200):small ((10:Int)^k)=true:=by
 unfold small nDig
 rw[yC_,Int.natAbs_natCast,xF_]
 simp
 omega
theorem xC_ {n d:Int} (hd:0<d) (hn:small n=true) (hr:n%d≠0):small (n/d+1)=true:=by
 have h1:=Int.emod_nonneg n (show d≠0 by omega)
 have h2:=Int.emod_lt_of_pos n hd
 have h3:=Int.emod_add_mul_ediv n d
 have hd2:2≤d:=by omega
 by_cases hq:0≤n/d
 ·refine iN_ hn ?_
  have h4:2*(n/d)≤d*(n/d):=Int.mul_le_mul_of_nonneg_right hd2 hq
  omega
 ·refine iN_ (bD_ d hn) ?_
  omega
structure RpAt (a1 a2:ByteArray) (w W:World):Prop where
 bw:Below w.heap.size w W
 x0:W.cell? ⟨w.heap.size,0,none⟩=some (.string a1)
 x1:W.cell? ⟨w.heap.size,1,none⟩=some (.string a2)
 r0:W.cell? ⟨w.heap.size+1,0,none⟩=some (.string ⟨#[]⟩)
 r1:W.cell? ⟨w.heap.size+1,1,none⟩=some (.string ⟨#[]⟩)
 f0:W.frozen? ⟨w.heap.size+1,0,none⟩=false
 f1:W.frozen? ⟨w.heap.size+1,1,none⟩=false
 sz:w.heap.size+1+1≤W.heap.size
theorem RpAt.below {a1 a2:ByteArray} {w W W':World} (h:RpAt a1 a2 w W) (hb:Below W.heap.size W W'):RpAt a1 a2 w W':=by
 obtain⟨c,f⟩:=kZ_ hb
 have hs:=h.sz
 have hs':=hb.size
 exact⟨h.bw.trans (hb.mono (by omega)),(c _ _ (by omega)).trans h.x0,(c _ _ (by omega)).trans h.x1,(c _ _ (by omega)).trans h.r0,(c _ _ (by omega)).trans h.r1,(f _ _ (by omega)).trans h.f0,(f _ _ (by omega)).trans h.f1,by omega⟩
theorem RpAt.rs {a1 a2:ByteArray} {w W:World} (h:RpAt a1 a2 w W):RsAt (w.heap.size+1) w W:=⟨h.bw,h.r0,h.r1,h.f0,h.f1,by omega,by have:=h.sz;omega⟩
theorem RpAt.start (w:World) (a1 a2:ByteArray) (t:TypeId):RpAt a1 a2 w ((w.alloc (.cells #[.string a1,.string a2] t)).alloc (.cells #[.string ⟨#[]⟩,.string ⟨#[]⟩] t)):=by
 refine⟨((Below.refl _ _).alloc (Nat.le_refl _) _).alloc (by simp) _,?_,?_,?_,?_,?_,?_,by simp⟩ <;> simp[go_sem]
structure RqAt (a1 a2:ByteArray) (b:Bool) (w W0 W:World):Prop where
 op:RpAt a1 a2 w W0
 wk:WkAt W0.heap.size (w.heap.size+1+1) b W0 W
 size:W0.heap.size=w.heap.size+1+1
theorem RqAt.at {a1 a2:ByteArray} {b:Bool} {w W0 W:World} (h:RqAt a1 a2 b w W0 W):RpAt a1 a2 w W:=h.op.below h.wk.bw
theorem RqAt.to {a1 a2:ByteArray} {b b':Bool} {w W0 W W' V:World} (h:RqAt a1 a2 b w W0 W) (k:WkTo W0.heap.size (w.heap.size+1+1) b' W0 V W'):RqAt a1 a2 b' w W0 W':=⟨h.op,k.wk,h.size⟩
theorem RqAt.below {a1 a2:ByteArray} {b:Bool} {w W0 W W':World} (h:RqAt a1 a2 b w W0 W) (k:Below W.heap.size W W'):RqAt a1 a2 b w W0 W':=⟨h.op,h.wk.below k,h.size⟩
theorem RqAt.set {a1 a2:ByteArray} {b:Bool} {w W0 W:World} (h:RqAt a1 a2 b w W0 W) (b':Bool):RqAt a1 a2 b' w W0 (W.setCell ⟨w.heap.size+1+1,0,none⟩ (.bool b')):=⟨h.op,h.wk.set b',h.size⟩
theorem RqAt.start (w:World) (a1 a2:ByteArray) (t:TypeId) (b:Bool):∃W0,RqAt a1 a2 b w W0 (((w.alloc (.cells #[.string a1,.string a2] t)).alloc (.cells #[.string ⟨#[]⟩,.string ⟨#[]⟩] t)).alloc (.cells #[.bool b] 198)):=by
 refine⟨_,RpAt.start w a1 a2 t,?_,by simp⟩
 have:=WkAt.start (Below.refl _ ((w.alloc (.cells #[.string a1,.string a2] t)).alloc (.cells #[.string ⟨#[]⟩,.string ⟨#[]⟩] t))) (Nat.le_refl _) b
 have e:((w.alloc (.cells #[.string a1,.string a2] t)).alloc (.cells #[.string ⟨#[]⟩,.string ⟨#[]⟩] t)).heap.size=w.heap.size+1+1:=by simp
 rw[e] at this⊢
 exact this
theorem FrAt.one {a1 a2:ByteArray} (W:World) (t:TypeId) (z1:Sz a1) (z2:Sz a2):FrAt W.heap.size [(a1,a2)] (W.alloc (.cells #[.string a1,.string a2] t)):=by
 refine⟨fun k h=>?_,by simp,fun p hp=>?_⟩
 ·rcases k with _|k
  ·exact⟨by simp[go_sem],by simp[go_sem]⟩
  ·simp at h
 ·simp only[List.mem_cons,List.not_mem_nil,or_false] at hp
  subst hp
  exact⟨z1,z2⟩
theorem xV_ {a1 a2:ByteArray} {b:Bool} {w W0 W:World} (hi:IOps w) (z1:Sz a1) (z2:Sz a2) (h:RqAt a1 a2 b w W0 W) (t:TypeId) (S:Nat) (hS:W.heap.size=S) :
  Calls Tryz.prog 203 #[.pointer (some ⟨w.heap.size+1+1,0,none⟩),.slice (some ⟨S,0,none⟩) 1 1] (W.alloc (.cells #[.string a1,.string a2] t)) fun e W'=>(∃v,e=.returned v)∧RqAt a1 a2 (chkB b [(a1,a2)]) w W0 W':=by
 subst hS
 refine(aHW (h.wk.alloc _) (hi.below h.op.bw) (FrAt.one W t z1 z2) h.wk.sz (by simp)).mono ?_
 rintro e W' ⟨he,h2⟩
 exact⟨he,h.to h2⟩
theorem oN_ {a1 a2 x y:ByteArray} {p q:Int} {o:Option Rat} {w W0 W:World} (hi:IOps w) (zx:Sz x) (zy:Sz y) (h:RqAt a1 a2 false w W0 W) (h1:aG_ x=some p) (h2:aG_ y=some q) (ho:bE_ p q=o) :
  Calls Tryz.prog 200 #[.pointer (some ⟨w.heap.size+1+1,0,none⟩),.string x,.string y] W fun e W'=>e=.returned (.tuple #[.agg #[.string (qN o),.string (qD o)],.int .i64 (qE o)])∧RsAt (w.heap.size+1) w W':=by
 subst ho
 refine(mI_ h.wk (hi.below h.op.bw) zx zy (fun _=>⟨h1,h2⟩)).mono ?_
 rintro e W' ⟨he,h3⟩
 exact⟨he,(h.op.below h3).rs⟩
theorem aJM {a1 a2:ByteArray} {k:Int} {up:Bool} {w:World} (hi:IOps w) (z1:Sz a1) (z2:Sz a2) (hn:ratO a1 a2=none∨k<0∨30<k) (hk : -9223372036854775808≤k∧k≤9223372036854775807) :
  Calls Tryz.prog 205 #[.agg #[.string a1,.string a2],.int .i64 k,.bool up] w fun e W'=>e=.returned (.tuple #[.agg #[.string (qN none),.string (qD none)],.int .i64 (qE none)])∧Below w.heap.size w W':=by
 obtain⟨W0,hst⟩:=RqAt.start w a1 a2 47 (decide (k<0)||decide (30<k))
 have hc:chkB (decide (k<0)||decide (30<k)) [(a1,a2)]=true:=by
  unfold chkB vR
  rcases hn with h|h|h <;> simp[h]
 have kc:=hid (fun W (h:RqAt a1 a2 (decide (k<0)||decide (30<k)) w W0 W) (t:TypeId) (S:Nat) (hS:W.heap.size=S)=>by have:=xV_ hi z1 z2 h t S hS;rw[hc] at this;exact this)
 clear hc hi z1 z2 hn
 obtain⟨k1,k2⟩:=hk
 by_cases h1:k<0
 ·rw[decide_eq_true h1,Bool.true_or] at hst kc
  have H0:=hid hst
  clear hst
  go_enter Tryz.func205,Tryz.ntmps205
  go_wp2_with (first
   | (go_at_call 203;with_reducible refine(kc.out _ H0.out _ _ (by simp)).mono ?_;rintro e w1 ⟨⟨v,rfl⟩,h1⟩;obtain⟨_,_,_,q1,q2,q3,q4,_⟩:=h1.at;have c1:=h1.wk.c;have H1:=hid h1.at.rs;clear h1)
   | fail)
  obtain⟨W5,hW5,p0,p1,hbl⟩:=H1.out.fin ⟨#[]⟩ ⟨#[]⟩
  rw[hW5]
  clear hW5 q1 q2 q3 q4
  refine bodyPost_ret (v:=.tuple #[.agg #[.string ⟨#[]⟩,.string ⟨#[]⟩],.int .i64 40]) ?_ rfl ⟨rfl,hbl⟩
  simp[results,Tryz.results205,go_sem,p0,p1,Result.andThen]
 ·rw[decide_eq_false h1,Bool.false_or] at hst kc
  by_cases h2:30<k
  ·rw[decide_eq_true h2] at hst kc
   have H0:=hid hst
   clear hst
   go_enter Tryz.func205,Tryz.ntmps205
   go_wp2_with (first
    | (go_at_call 203;with_reducible refine(kc.out _ H0.out _ _ (by simp)).mono ?_;rintro e w1 ⟨⟨v,rfl⟩,h1⟩;obtain⟨_,_,_,q1,q2,q3,q4,_⟩:=h1.at;have c1:=h1.wk.c;have H1:=hid h1.at.rs;clear h1)
    | fail)
   obtain⟨W5,hW5,p0,p1,hbl⟩:=H1.out.fin ⟨#[]⟩ ⟨#[]⟩
   rw[hW5]
   clear hW5 q1 q2 q3 q4
   refine bodyPost_ret (v:=.tuple #[.agg #[.string ⟨#[]⟩,.string ⟨#[]⟩],.int .i64 40]) ?_ rfl ⟨rfl,hbl⟩
   simp[results,Tryz.results205,go_sem,p0,p1,Result.andThen]
  ·rw[decide_eq_false h2] at hst kc
   have H0:=hid hst
   clear hst
   go_enter Tryz.func205,Tryz.ntmps205
   go_wp2_with (first
    | (go_at_call 203;with_reducible refine(kc.out _ H0.out _ _ (by simp)).mono ?_;rintro e w1 ⟨⟨v,rfl⟩,h1⟩;obtain⟨_,_,_,q1,q2,q3,q4,_⟩:=h1.at;have c1:=h1.wk.c;have H1:=hid h1.at.rs;clear h1)
    | fail)
   obtain⟨W5,hW5,p0,p1,hbl⟩:=H1.out.fin ⟨#[]⟩ ⟨#[]⟩
   rw[hW5]
   clear hW5 q1 q2 q3 q4
   refine bodyPost_ret (v:=.tuple #[.agg #[.string ⟨#[]⟩,.string ⟨#[]⟩],.int .i64 40]) ?_ rfl ⟨rfl,hbl⟩
   simp[results,Tryz.results205,go_sem,p0,p1,Result.andThen]
theorem rep_k {k:Nat} (hk:k≤30) (W:World):Calls Tryz.prog 247 #[.string ⟨#[48]⟩,.int .i64 (k:Int)] W fun e w'=>(∃z:ByteArray,e=.returned (.string z)∧z.size≤30∧(⟨#[49]⟩:ByteArray)++z=str ((10:Int)^k))∧Below W.heap.size W w':=by
 refine(Tryz.strings_Repeat ⟨#[48]⟩ k W (by omega) (by show 1*_≤_;omega)).mono ?_
 rintro e w' ⟨rfl,hb⟩
 refine⟨⟨_,rfl,?_,aNQ k⟩,hb⟩
 rw[rM_]
 show(Lib.repeatL [48] k).length≤30
 rw[gW_,List.length_replicate]
 exact hk
theorem rq_mul {a1 a2 x y:ByteArray} {z:Int} {w W0 W:World} (hi:IOps w) (zx:Sz x) (zy:Sz y) (h:RqAt a1 a2 false w W0 W) (e:mulO x y=some z) :
  Calls Tryz.prog 204 #[.pointer (some ⟨w.heap.size+1+1,0,none⟩),.string x,.string y] W fun e W'=>e=.returned (.string (stS false (some z)))∧RqAt a1 a2 (stB false (some z)) w W0 W':=by
 have:=mul_q zx zy h.wk (hi.below h.at.bw)
 rw[e] at this
 refine this.mono ?_
 rintro e W' ⟨he,h2⟩
 exact⟨he,h.to h2⟩
theorem rq_add {a1 a2 x y:ByteArray} {z:Int} {w W0 W:World} (hi:IOps w) (zx:Sz x) (zy:Sz y) (h:RqAt a1 a2 false w W0 W) (e:addO x y=some z) (hs:small z=true) :
  Calls Tryz.prog 221 #[.pointer (some ⟨w.heap.size+1+1,0,none⟩),.func (.func 187) #[] #[],.string x,.string y] W fun e W'=>e=.returned (.string (str z))∧RqAt a1 a2 false w W0 W':=by
 refine(do_s 187 x y h.wk e hs (enters_of Tryz.func187 (by kernel_rfl) rfl) ((hi.below h.at.bw).add zx zy W (Below.refl _ _))).mono ?_
 rintro e W' ⟨he,h2⟩
 exact⟨he,h.to h2⟩
theorem aJL {a1 a2:ByteArray} {k:Nat} {a:Rat} {up:Bool} {w:World} (hi:IOps w) (ha:ratO a1 a2=some a) (hk:k≤30) :
  Calls Tryz.prog 205 #[.agg #[.string a1,.string a2],.int .i64 (k:Int),.bool up] w fun e W'=>e=.returned (.tuple #[.agg #[.string (qN (if up=true then upR a k else hG_ a k)),.string (qD (if up=true then upR a k else hG_ a k))],.int .i64 (qE (if up=true then upR a k else hG_ a k))])∧Below w.heap.size w W':=by
 have hf:=(cS_ ha).2.2
 have z12:Sz a1∧Sz a2:=by
  obtain⟨e1,e2,h1,h2⟩:=cS_ ha
  rw[e1,e2,←aH_ h1,←aH_ h2]
  exact⟨dL_ _,dL_ _⟩
 obtain⟨z1,z2⟩:=z12
 obtain⟨n1,n2⟩:=dM_ ha
 obtain⟨W0,hst⟩:=RqAt.start w a1 a2 47 false
 have hc:chkB false [(a1,a2)]=false:=by
  unfold chkB vR
  simp[ha]
 have kc:=hid (fun W (h:RqAt a1 a2 false w W0 W) (t:TypeId) (S:Nat) (hS:W.heap.size=S)=>by have:=xV_ hi z1 z2 h t S hS;rw[hc] at this;exact this)
 have kp:=fun(W:World)=>rep_k hk W
 obtain⟨K,hK⟩:∃K:Int,(k:Int)=K:=⟨_,rfl⟩
 rw[hK] at kp⊢
 have hk0:¬K<0:=by omega
 have hk30:¬30<K:=by omega
 clear hK
 have hts:small ((10:Int)^k)=true:=aDJ (by omega)
 have nt:aG_ (str ((10:Int)^k))=some ((10:Int)^k):=by rw[aW_,if_pos hts]
 have zt:Sz (str ((10:Int)^k)):=by rw[←aH_ hts];exact dL_ _
 have om:mulO a1 (str ((10:Int)^k))=some (a.num*10^k):=by unfold mulO;rw[n1,nt]
 have km:=fun W (h:RqAt a1 a2 false w W0 W)=>rq_mul hi z1 zt h om
 have hd:=bQ_ a
 have H0:=hid hst
 clear hst hc
 by_cases hsm:small (a.num*10^k)=true
 ·rw[eP_,aH_ hsm,dH_ hsm] at km
  have nn:aG_ (str (a.num*10^k))=some (a.num*10^k):=by rw[aW_,if_pos hsm]
  have zn:Sz (str (a.num*10^k)):=by rw[←aH_ hsm];exact dL_ _
  have od:divO (str (a.num*10^k)) a2=some (a.num*10^k/a.den):=by unfold divO;rw[nn,n2];exact if_neg (by omega)
  have or:modO (str (a.num*10^k)) a2=some (a.num*10^k%a.den):=by unfold modO;rw[nn,n2];exact if_neg (by omega)
  have sq:small (a.num*10^k/(a.den:Int))=true:=bD_ _ hsm
  have sr:small (a.num*10^k%(a.den:Int))=true:=eQ_ (by omega) hf.2
  have kd:=fun W (h:RqAt a1 a2 false w W0 W)=>hi.div zn z2 W h.at.bw
  rw[od,or,aH_ sq,aH_ sr,cU_ sq] at kd
  have zq:Sz (str (a.num*10^k/(a.den:Int))):=by rw[←aH_ sq];exact dL_ _
  have nq:aG_ (str (a.num*10^k/(a.den:Int)))=some (a.num*10^k/(a.den:Int)):=by rw[aW_,if_pos sq]
  have ka:=fun W (h:RqAt a1 a2 false w W0 W) (hr:a.num*10^k%(a.den:Int)≠0)=>rq_add (z:=a.num*10^k/(a.den:Int)+1) hi zq sz_one h (by unfold addO;rw[nq,aOO]) (xC_ hd hsm hr)
  have kr:=fun(o:Option Rat) W (h:RqAt a1 a2 false w W0 W) (ho:bE_ (a.num*10^k/(a.den:Int)) (10^k)=o)=>oN_ hi zq zt h nq nt ho
  have kr2:=fun(o:Option Rat) W (h:RqAt a1 a2 false w W0 W) (hr:a.num*10^k%(a.den:Int)≠0) (ho:bE_ (a.num*10^k/(a.den:Int)+1) (10^k)=o)=>by
   have hs':=xC_ hd hsm hr
   have nq':aG_ (str (a.num*10^k/(a.den:Int)+1))=some (a.num*10^k/(a.den:Int)+1):=by rw[aW_,if_pos hs']
   have zq':Sz (str (a.num*10^k/(a.den:Int)+1)):=by rw[←aH_ hs'];exact dL_ _
   exact oN_ hi zq' zt h nq' nt ho
  have zr:=hP_ (z:=a.num*10^k%(a.den:Int))
  have eu:upR a k=bE_ (if a.num*10^k%(a.den:Int)=0 then a.num*10^k/(a.den:Int) else a.num*10^k/(a.den:Int)+1) (10^k):=by unfold upR;rw[if_pos hsm]
  have ed:hG_ a k=bE_ (a.num*10^k/(a.den:Int)) (10^k):=by unfold hG_;rw[if_pos hsm]
  rw[eu,ed]
  clear eu ed od or sq sr zq nq nn zn hsm om nt zt hts hd ha hf n1 n2 z1 z2 hi
  generalize str (a.num*10^k/(a.den:Int)+1)=tq' at ka kr2
  generalize str (a.num*10^k/(a.den:Int))=tq at kd ka kr
  generalize str (a.num*10^k%(a.den:Int))=tr at kd zr
  generalize str (a.num*10^k)=tn at km kd
  generalize a.num*10^k%(a.den:Int)=r0 at *
  generalize a.num*10^k/(a.den:Int)=q0 at *
  obtain⟨tt,htt⟩:∃tt,str ((10:Int)^k)=tt:=⟨_,rfl⟩
  rw[htt] at kp km kr kr2
  have KM:=hid km
  have KD:=hid kd
  have kp:=hid kp
  clear km kd htt
  cases up with
  | false=>
   simp only[Bool.false_eq_true,if_false]
   generalize ho:bE_ q0 (10^k)=o at *
   have KR:=hid (fun W h=>kr o W h rfl)
   clear kr kr2 ka zr ho
   go_enter Tryz.func205,Tryz.ntmps205
   go_wp2_with (first
    | (go_at_call 203;with_reducible refine(kc.out _ H0.out _ _ (by simp)).mono ?_;rintro e w1 ⟨⟨v,rfl⟩,h1⟩;have c1:=h1.wk.c;have H1:=hid h1;clear h1)
    | (go_at_call 247;with_reducible refine(kp.out _).mono ?_;rintro e w2 ⟨⟨z,rfl,hz,hz2⟩,hb⟩;have h2:=H1.out.below hb;have c2:=h2.wk.c;have x0:=h2.at.x0;have x1:=h2.at.x1;have H2:=hid h2;clear h2 hb)
    | (go_at_call 204;with_reducible refine(KM.out _ H2.out).mono ?_;rintro e w3 ⟨rfl,h3⟩;have c3:=h3.wk.c;have x1':=h3.at.x1;have f3:=h3.wk.f;have H3:=hid h3;clear h3)
    | (go_at_call 185;with_reducible refine(KD.out _ H3.out).mono ?_;rintro e w4 ⟨rfl,hb⟩;have h4:=H3.out.below hb;have c4:=h4.wk.c;have f4:=h4.wk.f;have H4:=hid h4;clear h4 hb)
    | (go_at_call 200;with_reducible refine(KR.out _ (H4.out.set false)).mono ?_;rintro e w6 ⟨rfl,h6⟩;obtain⟨_,q1,q2,q3,q4,_,_⟩:=id h6;have H6:=hid h6;clear h6)
    | fail)
   obtain⟨W5,hW5,p0,p1,hbl⟩:=H6.out.fin (qN o) (qD o)
   rw[hW5]
   clear hW5 q1 q2 q3 q4
   refine bodyPost_ret (v:=.tuple #[.agg #[.string (qN o),.string (qD o)],.int .i64 (qE o)]) ?_ rfl ⟨rfl,hbl⟩
   simp[results,Tryz.results205,go_sem,p0,p1,Result.andThen]
  | true=>
   simp only[if_true]
   by_cases hr:r0=0
   ·rw[if_pos hr]
    rw[decide_eq_true hr] at zr
    generalize ho:bE_ q0 (10^k)=o at *
    have KR:=hid (fun W h=>kr o W h rfl)
    clear kr kr2 ka ho hr
    go_enter Tryz.func205,Tryz.ntmps205
    go_wp2_with (first
     | (go_at_call 203;with_reducible refine(kc.out _ H0.out _ _ (by simp)).mono ?_;rintro e w1 ⟨⟨v,rfl⟩,h1⟩;have c1:=h1.wk.c;have H1:=hid h1;clear h1)
     | (go_at_call 247;with_reducible refine(kp.out _).mono ?_;rintro e w2 ⟨⟨z,rfl,hz,hz2⟩,hb⟩;have h2:=H1.out.below hb;have c2:=h2.wk.c;have x0:=h2.at.x0;have x1:=h2.at.x1;have H2:=hid h2;clear h2 hb)
     | (go_at_call 204;with_reducible refine(KM.out _ H2.out).mono ?_;rintro e w3 ⟨rfl,h3⟩;have c3:=h3.wk.c;have x1':=h3.at.x1;have f3:=h3.wk.f;have H3:=hid h3;clear h3)
     | (go_at_call 185;with_reducible refine(KD.out _ H3.out).mono ?_;rintro e w4 ⟨rfl,hb⟩;have h4:=H3.out.below hb;have c4:=h4.wk.c;have f4:=h4.wk.f;have H4:=hid h4;clear h4 hb)
     | (go_at_call 200;with_reducible refine(KR.out _ (H4.out.set false)).mono ?_;rintro e w6 ⟨rfl,h6⟩;obtain⟨_,q1,q2,q3,q4,_,_⟩:=id h6;have H6:=hid h6;clear h6)
     | fail)
    obtain⟨W5,hW5,p0,p1,hbl⟩:=H6.out.fin (qN o) (qD o)
    rw[hW5]
    clear hW5 q1 q2 q3 q4
    refine bodyPost_ret (v:=.tuple #[.agg #[.string (qN o),.string (qD o)],.int .i64 (qE o)]) ?_ rfl ⟨rfl,hbl⟩
    simp[results,Tryz.results205,go_sem,p0,p1,Result.andThen]
   ·rw[if_neg hr]
    rw[decide_eq_false hr] at zr
    generalize ho:bE_ (q0+1) (10^k)=o at *
    have KR:=hid (fun W h=>kr2 o W h hr rfl)
    have KA:=hid (fun W h=>ka W h hr)
    clear kr kr2 ka ho hr
    go_enter Tryz.func205,Tryz.ntmps205
    go_wp2_with (first
     | (go_at_call 203;with_reducible refine(kc.out _ H0.out _ _ (by simp)).mono ?_;rintro e w1 ⟨⟨v,rfl⟩,h1⟩;have c1:=h1.wk.c;have H1:=hid h1;clear h1)
     | (go_at_call 247;with_reducible refine(kp.out _).mono ?_;rintro e w2 ⟨⟨z,rfl,hz,hz2⟩,hb⟩;have h2:=H1.out.below hb;have c2:=h2.wk.c;have x0:=h2.at.x0;have x1:=h2.at.x1;have H2:=hid h2;clear h2 hb)
     | (go_at_call 204;with_reducible refine(KM.out _ H2.out).mono ?_;rintro e w3 ⟨rfl,h3⟩;have c3:=h3.wk.c;have x1':=h3.at.x1;have f3:=h3.wk.f;have H3:=hid h3;clear h3)
     | (go_at_call 185;with_reducible refine(KD.out _ H3.out).mono ?_;rintro e w4 ⟨rfl,hb⟩;have h4:=H3.out.below hb;have c4:=h4.wk.c;have f4:=h4.wk.f;have H4:=hid h4;clear h4 hb)
     | (go_at_call 221;with_reducible refine(KA.out _ (H4.out.set false)).mono ?_;rintro e w5 ⟨rfl,h5⟩;have c5:=h5.wk.c;have H5:=hid h5;clear h5)
     | (go_at_call 200;with_reducible refine(KR.out _ H5.out).mono ?_;rintro e w6 ⟨rfl,h6⟩;obtain⟨_,q1,q2,q3,q4,_,_⟩:=id h6;have H6:=hid h6;clear h6)
     | fail)
    obtain⟨W5,hW5,p0,p1,hbl⟩:=H6.out.fin (qN o) (qD o)
    rw[hW5]
    clear hW5 q1 q2 q3 q4
    refine bodyPost_ret (v:=.tuple #[.agg #[.string (qN o),.string (qD o)],.int .i64 (qE o)]) ?_ rfl ⟨rfl,hbl⟩
    simp[results,Tryz.results205,go_sem,p0,p1,Result.andThen]
 ·rw[eP_,gH_ hsm] at km
  have e1:opS (some (a.num*10^k))=⟨#[]⟩:=by unfold opS;exact if_neg hsm
  rw[e1] at km
  have eo:(if up=true then upR a k else hG_ a k)=none:=by
   unfold upR hG_
   rw[if_neg hsm,if_neg hsm]
   cases up <;> rfl
  rw[eo]
  obtain⟨tt,htt⟩:∃tt,str ((10:Int)^k)=tt:=⟨_,rfl⟩
  rw[htt] at kp km
  have KM:=hid km
  have kp:=hid kp
  clear km htt om nt zt hts hd ha hf n1 n2 z1 z2 hi e1 eo hsm
  go_enter Tryz.func205,Tryz.ntmps205
  go_wp2_with (first
   | (go_at_call 203;with_reducible refine(kc.out _ H0.out _ _ (by simp)).mono ?_;rintro e w1 ⟨⟨v,rfl⟩,h1⟩;have c1:=h1.wk.c;have H1:=hid h1;clear h1)
   | (go_at_call 247;with_reducible refine(kp.out _).mono ?_;rintro e w2 ⟨⟨z,rfl,hz,hz2⟩,hb⟩;have h2:=H1.out.below hb;have c2:=h2.wk.c;have x0:=h2.at.x0;have x1:=h2.at.x1;have H2:=hid h2;clear h2 hb)
   | (go_at_call 204;with_reducible refine(KM.out _ H2.out).mono ?_;rintro e w3 ⟨rfl,h3⟩;have c3:=h3.wk.c;have x1':=h3.at.x1;obtain⟨_,_,_,q1,q2,q3,q4,_⟩:=h3.at;have H3:=hid h3.at.rs;clear h3)
   | fail)
  obtain⟨W5,hW5,p0,p1,hbl⟩:=H3.out.fin ⟨#[]⟩ ⟨#[]⟩
  rw[hW5]
  clear hW5 q1 q2 q3 q4
  refine bodyPost_ret (v:=.tuple #[.agg #[.string ⟨#[]⟩,.string ⟨#[]⟩],.int .i64 40]) ?_ rfl ⟨rfl,hbl⟩
  simp[results,Tryz.results205,go_sem,p0,p1,Result.andThen]
theorem oK_ {z:Int} (h:small z=true):Sz (str z):=by rw[←aH_ h];exact dL_ _
theorem jN_ {n d:ByteArray} {r:Rat} (h:ratO n d=some r):Sz n∧Sz d:=by
 obtain⟨e1,e2,h1,h2⟩:=cS_ h
 rw[e1,e2]
 exact⟨oK_ h1,oK_ h2⟩
theorem aR_ {r:Rat} (h:fN_ r):small r.floor=true:=by rw[jD_];exact bD_ _ h.1
theorem eS_ {r:Rat} (h:fN_ r):small (r.num%(r.den:Int))=true:=eQ_ (by have:=bQ_ r;omega) h.2
theorem lI_ {n d:ByteArray} {r:Rat} (h:ratO n d=some r):divO n d=some r.floor∧modO n d=some (r.num%(r.den:Int)):=by
 obtain⟨h1,h2⟩:=dM_ h
 have:=bQ_ r
 unfold divO modO
 rw[h1,h2,jD_]
 exact⟨if_neg (by omega),if_neg (by omega)⟩
theorem iP_ {n d:ByteArray} {r:Rat} (h:ratO n d=some r) (h0:r.num%(r.den:Int)≠0):ratO d (str (r.num%(r.den:Int)))=some (Rat.divInt r.den (r.num%r.den)):=by
 obtain⟨_,e2,hf⟩:=cS_ h
 obtain⟨k1,k2⟩:=yI_ h0
 have:=qB_ (r:=Rat.divInt r.den (r.num%r.den)) (by unfold fN_;rw[k1,k2];exact⟨hf.2,eS_ hf⟩)
 rw[k1,k2,←e2] at this
 exact this
theorem yJ_ {r:Rat} (h0:r.num%(r.den:Int)≠0):(Rat.divInt r.den (r.num%r.den)).den<r.den:=by
 obtain⟨_,k2⟩:=yI_ h0
 have:=(qA_ h0).2
 omega
theorem pJ_ (p q:Int):cmpI p q = -1∨cmpI p q=0∨cmpI p q=1:=by
 unfold cmpI
 split
 ·exact .inl rfl
 ·split
  ·exact .inr (.inr rfl)
  ·exact .inr (.inl rfl)
theorem uE_ {p q:Int} (h:cmpI p q=0):p=q:=by
 unfold cmpI at h
 split at h
 ·cases h
 ·split at h
  ·cases h
  ·omega
theorem qO_ {z:Int} (h:small z=true):aG_ (str z)=some z:=by rw[aW_,if_pos h]
structure CpAt (n1 d1 n2 d2:ByteArray) (w W:World):Prop where
 bw:Below w.heap.size w W
 x0:W.cell? ⟨w.heap.size,0,none⟩=some (.string n1)
 x1:W.cell? ⟨w.heap.size,1,none⟩=some (.string d1)
 y0:W.cell? ⟨w.heap.size+1,0,none⟩=some (.string n2)
 y1:W.cell? ⟨w.heap.size+1,1,none⟩=some (.string d2)
 f0:W.frozen? ⟨w.heap.size,0,none⟩=false
 f1:W.frozen? ⟨w.heap.size,1,none⟩=false
 g0:W.frozen? ⟨w.heap.size+1,0,none⟩=false
 g1:W.frozen? ⟨w.heap.size+1,1,none⟩=false
 sz:w.heap.size+1+1≤W.heap.size
theorem CpAt.below {n1 d1 n2 d2:ByteArray} {w W W':World} (h:CpAt n1 d1 n2 d2 w W) (hb:Below W.heap.size W W'):CpAt n1 d1 n2 d2 w W':=by
 obtain⟨c,f⟩:=kZ_ hb
 have hs:=h.sz
 have hs':=hb.size
 exact⟨h.bw.trans (hb.mono (by omega)),(c _ _ (by omega)).trans h.x0,(c _ _ (by omega)).trans h.x1,(c _ _ (by omega)).trans h.y0,(c _ _ (by omega)).trans h.y1,(f _ _ (by omega)).trans h.f0,(f _ _ (by omega)).trans h.f1,(f _ _ (by omega)).trans h.g0,(f _ _ (by omega)).trans h.g1,by omega⟩
theorem CpAt.start (w:World) (n1 d1 n2 d2:ByteArray) (t:TypeId):CpAt n1 d1 n2 d2 w ((w.alloc (.cells #[.string n1,.string d1] t)).alloc (.cells #[.string n2,.string d2] t)):=by
 refine⟨((Below.refl _ _).alloc (Nat.le_refl _) _).alloc (by simp) _,?_,?_,?_,?_,?_,?_,?_,?_,by simp⟩ <;> simp[go_sem]
theorem CpAt.set {n1 d1 n2 d2:ByteArray} {w W:World} (h:CpAt n1 d1 n2 d2 w W) (p1 q1 p2 q2:ByteArray) :
  CpAt p1 q1 p2 q2 w ((((W.setCell ⟨w.heap.size,0,none⟩ (.string p1)).setCell ⟨w.heap.size,1,none⟩ (.string q1)).setCell ⟨w.heap.size+1,0,none⟩ (.string p2)).setCell ⟨w.heap.size+1,1,none⟩ (.string q2)):=by
 have oth:∀(W:World) (x y:Addr) (u:Value),y≠x→(W.setCell x u).cell? y=W.cell? y:=fun W x y u h=>World.cell?_setCell_other _ _ _ _ (by first|exact h|exact fun e=>h e.symm)
 have sz:=h.sz
 obtain⟨hb,x0,x1,y0,y1,f0,f1,g0,g1,_⟩:=h
 refine⟨(((hb.setCell (by simp) _).setCell (by simp) _).setCell (by simp) _).setCell (by simp) _,?_,?_,?_,?_,?_,?_,?_,?_,by simpa using sz⟩
 ·rw[oth _ _ _ _ (by simp),oth _ _ _ _ (by simp),oth _ _ _ _ (by simp)]
  exact World.cell?_setCell_same _ _ _ x0
 ·rw[oth _ _ _ _ (by simp),oth _ _ _ _ (by simp)]
  exact World.cell?_setCell_same _ _ _ (by rw[oth _ _ _ _ (by simp)];exact x1)
 ·rw[oth _ _ _ _ (by simp)]
  exact World.cell?_setCell_same _ _ _ (by rw[oth _ _ _ _ (by simp),oth _ _ _ _ (by simp)];exact y0)
 ·exact World.cell?_setCell_same _ _ _ (by rw[oth _ _ _ _ (by simp),oth _ _ _ _ (by simp),oth _ _ _ _ (by simp)];exact y1)
 all_goals simpa[go_sem] using (by assumption)
def nV_ (N:Nat) (W:World):Nat:=match W.cell? ⟨N,1,none⟩ with|some (.string d)=>((aG_ d).getD 0).natAbs|_=>0
theorem pQ_ {N:Nat} {W:World} {n d:ByteArray} {r:Rat} (h:W.cell? ⟨N,1,none⟩=some (.string d)) (hr:ratO n d=some r):nV_ N W=r.den:=by
 unfold nV_
 rw[h]
 show((aG_ d).getD 0).natAbs=r.den
 rw[(dM_ hr).2]
 show(r.den:Int).natAbs=r.den
 omega
theorem CpAt.drew {n1 d1 n2 d2:ByteArray} {w W:World} (h:CpAt n1 d1 n2 d2 w W):CpAt n1 d1 n2 d2 w W.drew:=⟨h.bw.drew,h.x0,h.x1,h.y0,h.y1,h.f0,h.f1,h.g0,h.g1,h.sz⟩
theorem uC_ (a1 a2 b1 b2:ByteArray) (s:Int) (w:World) (x6 x7 x8 x9 x10 x11 x12 x13 x14 x15 x16 x17 x18 x19 x20 x21 x22 x23 x24 x25 x26 x27 x28 x29 x30 x31 x32 x33 x34 x35 x36 x37 x38 x39 x40 x41 x42 x43 x44 x45 x46 x47 x48 x49 x50 x51 x52 x53 x54 x55 x56 x57 x58 x59 x60 x61 x62 x63 x64 x65 x66 x67 x68 x69 x70 x71 x72 x73:Value):∃u:Nat→Value,({ tmps:=#[.agg #[.string a1,.string a2],.agg #[.string b1,.string b2],.pointer (some ⟨w.heap.size,0,none⟩),.pointer (some ⟨w.heap.size+1,0,none⟩),.int .i64 0,.int .i64 s,x6,x7,x8,x9,x10,x11,x12,x13,x14,x15,x16,x17,x18,x19,x20,x21,x22,x23,x24,x25,x26,x27,x28,x29,x30,x31,x32,x33,x34,x35,x36,x37,x38,x39,x40,x41,x42,x43,x44,x45,x46,x47,x48,x49,x50,x51,x52,x53,x54,x55,x56,x57,x58,x59,x60,x61,x62,x63,x64,x65,x66,x67,x68,x69,x70,x71,x72,x73],defers:=[] } : Act) = { tmps:=#[.agg #[.string a1,.string a2],.agg #[.string b1,.string b2],.pointer (some ⟨w.heap.size,0,none⟩),.pointer (some ⟨w.heap.size+1,0,none⟩),.int .i64 0,.int .i64 s,(u 6),(u 7),(u 8),(u 9),(u 10),(u 11),(u 12),(u 13),(u 14),(u 15),(u 16),(u 17),(u 18),(u 19),(u 20),(u 21),(u 22),(u 23),(u 24),(u 25),(u 26),(u 27),(u 28),(u 29),(u 30),(u 31),(u 32),(u 33),(u 34),(u 35),(u 36),(u 37),(u 38),(u 39),(u 40),(u 41),(u 42),(u 43),(u 44),(u 45),(u 46),(u 47),(u 48),(u 49),(u 50),(u 51),(u 52),(u 53),(u 54),(u 55),(u 56),(u 57),(u 58),(u 59),(u 60),(u 61),(u 62),(u 63),(u 64),(u 65),(u 66),(u 67),(u 68),(u 69),(u 70),(u 71),(u 72),(u 73)],defers:=[] }:=⟨fun i=>[x6,x7,x8,x9,x10,x11,x12,x13,x14,x15,x16,x17,x18,x19,x20,x21,x22,x23,x24,x25,x26,x27,x28,x29,x30,x31,x32,x33,x34,x35,x36,x37,x38,x39,x40,x41,x42,x43,x44,x45,x46,x47,x48,x49,x50,x51,x52,x53,x54,x55,x56,x57,x58,x59,x60,x61,x62,x63,x64,x65,x66,x67,x68,x69,x70,x71,x72,x73].getD (i-6) undef,rfl⟩
def CmpJ (a1 a2 b1 b2:ByteArray) (a b:Rat) (w:World) (a':Act) (W:World):Prop:=
 ∃(s:Int) (n1 d1 n2 d2:ByteArray) (A B:Rat),(∃u:Nat→Value,a' = { tmps:=#[.agg #[.string a1,.string a2],.agg #[.string b1,.string b2],.pointer (some ⟨w.heap.size,0,none⟩),.pointer (some ⟨w.heap.size+1,0,none⟩),.int .i64 0,.int .i64 s,(u 6),(u 7),(u 8),(u 9),(u 10),(u 11),(u 12),(u 13),(u 14),(u 15),(u 16),(u 17),(u 18),(u 19),(u 20),(u 21),(u 22),(u 23),(u 24),(u 25),(u 26),(u 27),(u 28),(u 29),(u 30),(u 31),(u 32),(u 33),(u 34),(u 35),(u 36),(u 37),(u 38),(u 39),(u 40),(u 41),(u 42),(u 43),(u 44),(u 45),(u 46),(u 47),(u 48),(u 49),(u 50),(u 51),(u 52),(u 53),(u 54),(u 55),(u 56),(u 57),(u 58),(u 59),(u 60),(u 61),(u 62),(u 63),(u 64),(u 65),(u 66),(u 67),(u 68),(u 69),(u 70),(u 71),(u 72),(u 73)],defers:=[] })∧CpAt n1 d1 n2 d2 w W∧ratO n1 d1=some A∧ratO n2 d2=some B∧(s=1∨s = -1)∧s*cmpR A B=cmpR a b
theorem uS_ {a1 a2 b1 b2:ByteArray} {a b:Rat} {w:World} (hi:IOps w) (ha:ratO a1 a2=some a) (hb:ratO b1 b2=some b) :
  Calls Tryz.prog 143 #[.agg #[.string a1,.string a2],.agg #[.string b1,.string b2]] w fun e W'=>e=.returned (.int .i64 (cmpR a b))∧Below w.heap.size w W':=by
 obtain⟨za1,za2⟩:=jN_ ha
 obtain⟨zb1,zb2⟩:=jN_ hb
 have v1:=hid (fun W (h:CpAt a1 a2 b1 b2 w W)=>by have:=oA_ za1 za2 (hi.below h.bw);rw[show vR a1 a2=true by unfold vR;rw[ha];rfl] at this;exact this)
 have v2:=hid (fun W (h:CpAt a1 a2 b1 b2 w W)=>by have:=oA_ zb1 zb2 (hi.below h.bw);rw[show vR b1 b2=true by unfold vR;rw[hb];rfl] at this;exact this)
 have H0:=hid (CpAt.start w a1 a2 b1 b2 47)
 have HI:=hid hi
 have HA:=hid ha
 have HB:=hid hb
 clear hi ha hb za1 za2 zb1 zb2
 go_enter Tryz.func143,Tryz.ntmps143
 go_wp2
 refine wp_scope_jumps 0 (CmpJ a1 a2 b1 b2 a b w) (fun _ W=>nV_ w.heap.size W) rfl ?_ ?_
 ·go_wp2_with (first
   | (go_at_call 184;with_reducible refine(v1.out _ H0.out).mono ?_;rintro e w1 ⟨rfl,hb⟩;have h1:=H0.out.below hb;obtain⟨_,x0,x1,y0,y1,_⟩:=id h1;have H1:=hid h1;clear h1 hb)
   | (go_at_call 184;with_reducible refine(v2.out _ H1.out).mono ?_;rintro e w2 ⟨rfl,hb⟩;have H2:=hid (H1.out.below hb);clear hb)
   | fail)
  go_step3
  have hc:=H2.out
  have h1:=HA.out
  have h2:=HB.out
  obtain⟨cc,hcc⟩:∃cc,cmpR a b=cc:=⟨_,rfl⟩
  have HCC:=hid hcc
  have hm:1*cmpR a b=cc:=by rw[hcc];omega
  clear hcc
  clear v1 v2
  obtain⟨za1,za2⟩:=jN_ h1
  obtain⟨zb1,zb2⟩:=jN_ h2
  obtain⟨e1,e2⟩:=lI_ h1
  obtain⟨e3,e4⟩:=lI_ h2
  have fA:=(cS_ h1).2.2
  have fB:=(cS_ h2).2.2
  have k1:=hid (fun W' (h:CpAt a1 a2 b1 b2 w W')=>by have:=HI.out.div za1 za2 W' h.bw;rw[e1,e2,aH_ (aR_ fA),aH_ (eS_ fA),cU_ (aR_ fA)] at this;exact this)
  have k2:=hid (fun W' (h:CpAt a1 a2 b1 b2 w W')=>by have:=HI.out.div zb1 zb2 W' h.bw;rw[e3,e4,aH_ (aR_ fB),aH_ (eS_ fB),cU_ (aR_ fB)] at this;exact this)
  have k3:=hid (fun W' (h:CpAt a1 a2 b1 b2 w W')=>by have:=HI.out.cmp (oK_ (aR_ fA)) (oK_ (aR_ fB)) W' h.bw;rw[show cmpO (str a.floor) (str b.floor)=cmpI a.floor b.floor by unfold cmpO;rw[qO_ (aR_ fA),qO_ (aR_ fB)]] at this;exact this)
  obtain⟨_,x0,x1,y0,y1,_⟩:=id hc
  have H1:=hid hc
  clear hc e1 e2 e3 e4 za1 zb1 za2 zb2
  have FF:=hid (pH_ (a:=a) (b:=b))
  have RR:=hid (uD_ (a:=a) (b:=b))
  have ZA:=hP_ (z:=a.num%(a.den:Int))
  have ZB:=hP_ (z:=b.num%(b.den:Int))
  have NA:=hid (iP_ h1)
  have NB:=hid (iP_ h2)
  have HA1:=hid h1
  have HB1:=hid h2
  have HM:=hid hm
  clear hm h1 h2 fA fB
  generalize str a.floor=tp at k1 k3
  generalize str b.floor=tq at k2 k3
  generalize hr1:str (a.num%(a.den:Int))=tr at k1 ZA NA
  generalize hr2:str (b.num%(b.den:Int))=ts at k2 ZB NB
  rcases pJ_ a.floor b.floor with hc|hc|hc
  ·have hres:=FF.out (by omega)
   rw[hc] at hres
   rw[hc] at k3
   have hfin:=HM.out
   rw[hres] at hfin
   replace hfin:cmpR a b = -1:=HCC.out.trans (show cc = -1 by omega)
   have hfin:=hid hfin
   clear hres ZA ZB
   go_wp2_with (first
    | (go_at_call 185;with_reducible refine(k1.out _ H1.out).mono ?_;rintro e w1 ⟨rfl,hb⟩;have h2:=H1.out.below hb;obtain⟨_,x0',x1',y0',y1',_⟩:=id h2;have H2:=hid h2;clear h2 hb)
    | (go_at_call 185;with_reducible refine(k2.out _ H2.out).mono ?_;rintro e w2 ⟨rfl,hb⟩;have H3:=hid (H2.out.below hb);clear hb)
    | (go_at_call 186;with_reducible refine(k3.out _ H3.out).mono ?_;rintro e w3 ⟨rfl,hb⟩;have h4:=H3.out.below hb;obtain⟨_,x0'',x1'',y0'',y1'',f0'',f1'',g0'',g1'',_⟩:=id h4;have H4:=hid h4;clear h4 hb)
    | fail)
   simp only[Exit.jump]
   go_ret
   exact⟨by rw[hfin.out];rfl,H4.out.bw⟩
  ·have hf:=uE_ hc
   have hres:=RR.out hf
   rw[hc] at k3
   have hm:=HM.out
   rw[hres] at hm
   clear hres hf hc
   by_cases hA:a.num%(a.den:Int)=0
   ·rw[decide_eq_true hA] at ZA
    rw[if_pos hA] at hm
    by_cases hB:b.num%(b.den:Int)=0
    ·rw[decide_eq_true hB] at ZB
     rw[if_pos hB] at hm
     replace hm:cmpR a b=0:=HCC.out.trans (show cc=0 by omega)
     have hfin:=hid hm
     clear hm hA hB
     go_wp2_with (first
      | (go_at_call 185;with_reducible refine(k1.out _ H1.out).mono ?_;rintro e w1 ⟨rfl,hb⟩;have h2:=H1.out.below hb;obtain⟨_,x0',x1',y0',y1',_⟩:=id h2;have H2:=hid h2;clear h2 hb)
      | (go_at_call 185;with_reducible refine(k2.out _ H2.out).mono ?_;rintro e w2 ⟨rfl,hb⟩;have H3:=hid (H2.out.below hb);clear hb)
      | (go_at_call 186;with_reducible refine(k3.out _ H3.out).mono ?_;rintro e w3 ⟨rfl,hb⟩;have h4:=H3.out.below hb;obtain⟨_,x0'',x1'',y0'',y1'',f0'',f1'',g0'',g1'',_⟩:=id h4;have H4:=hid h4;clear h4 hb)
      | fail)
     simp only[Exit.jump]
     go_ret
     exact⟨by rw[hfin.out];rfl,H4.out.bw⟩
    ·rw[decide_eq_false hB] at ZB
     rw[if_neg hB] at hm
     replace hm:cmpR a b = -1:=HCC.out.trans (show cc = -1 by omega)
     have hfin:=hid hm
     clear hm hA hB
     go_wp2_with (first
      | (go_at_call 185;with_reducible refine(k1.out _ H1.out).mono ?_;rintro e w1 ⟨rfl,hb⟩;have h2:=H1.out.below hb;obtain⟨_,x0',x1',y0',y1',_⟩:=id h2;have H2:=hid h2;clear h2 hb)
      | (go_at_call 185;with_reducible refine(k2.out _ H2.out).mono ?_;rintro e w2 ⟨rfl,hb⟩;have H3:=hid (H2.out.below hb);clear hb)
      | (go_at_call 186;with_reducible refine(k3.out _ H3.out).mono ?_;rintro e w3 ⟨rfl,hb⟩;have h4:=H3.out.below hb;obtain⟨_,x0'',x1'',y0'',y1'',f0'',f1'',g0'',g1'',_⟩:=id h4;have H4:=hid h4;clear h4 hb)
      | fail)
     simp only[Exit.jump]
     go_ret
     exact⟨by rw[hfin.out];rfl,H4.out.bw⟩
   ·rw[decide_eq_false hA] at ZA
    rw[if_neg hA] at hm
    by_cases hB:b.num%(b.den:Int)=0
    ·rw[decide_eq_true hB] at ZB
     rw[if_pos hB] at hm
     replace hm:cmpR a b=1:=HCC.out.trans (show cc=1 by omega)
     have hfin:=hid hm
     clear hm hA hB
     go_wp2_with (first
      | (go_at_call 185;with_reducible refine(k1.out _ H1.out).mono ?_;rintro e w1 ⟨rfl,hb⟩;have h2:=H1.out.below hb;obtain⟨_,x0',x1',y0',y1',_⟩:=id h2;have H2:=hid h2;clear h2 hb)
      | (go_at_call 185;with_reducible refine(k2.out _ H2.out).mono ?_;rintro e w2 ⟨rfl,hb⟩;have H3:=hid (H2.out.below hb);clear hb)
      | (go_at_call 186;with_reducible refine(k3.out _ H3.out).mono ?_;rintro e w3 ⟨rfl,hb⟩;have h4:=H3.out.below hb;obtain⟨_,x0'',x1'',y0'',y1'',f0'',f1'',g0'',g1'',_⟩:=id h4;have H4:=hid h4;clear h4 hb)
      | fail)
     simp only[Exit.jump]
     go_ret
     exact⟨by rw[hfin.out];rfl,H4.out.bw⟩
    ·rw[decide_eq_false hB] at ZB
     rw[if_neg hB] at hm
     have na:=NA.out hA
     have nb:=NB.out hB
     have nd:=yJ_ hA
     have HN:=hid (And.intro na (And.intro nb (And.intro nd hm)))
     clear hm na nb nd hA hB
     go_wp2_with (first
      | (go_at_call 185;with_reducible refine(k1.out _ H1.out).mono ?_;rintro e w1 ⟨rfl,hb⟩;have h2:=H1.out.below hb;obtain⟨_,x0',x1',y0',y1',_⟩:=id h2;have H2:=hid h2;clear h2 hb)
      | (go_at_call 185;with_reducible refine(k2.out _ H2.out).mono ?_;rintro e w2 ⟨rfl,hb⟩;have H3:=hid (H2.out.below hb);clear hb)
      | (go_at_call 186;with_reducible refine(k3.out _ H3.out).mono ?_;rintro e w3 ⟨rfl,hb⟩;have h4:=H3.out.below hb;obtain⟨_,x0'',x1'',y0'',y1'',f0'',f1'',g0'',g1'',_⟩:=id h4;have H4:=hid h4;clear h4 hb)
      | fail)
     go_region
     go_wp2
     go_step3
     obtain⟨na,nb,nd,hm⟩:=HN.out
     have h5:=(H4.out.set a2 tr b2 ts).drew
     refine⟨rfl,-1,a2,tr,b2,ts,_,_,?_,h5,na,nb,?_,?_⟩
     ·exact uC_ _ _ _ _ _ _ _ _ _ _ _ _ _ _ _ _ _ _ _ _ _ _ _ _ _ _ _ _ _ _ _ _ _ _ _ _ _ _ _ _ _ _ _ _ _ _ _ _ _ _ _ _ _ _ _ _ _ _ _ _ _ _ _ _ _ _ _ _ _ _ _ _ _ _
     ·exact .inr rfl
     ·rw[HCC.out,←hm];omega
  ·have hres:=FF.out (by omega)
   rw[hc] at hres
   rw[hc] at k3
   have hfin:=HM.out
   rw[hres] at hfin
   replace hfin:cmpR a b=1:=HCC.out.trans (show cc=1 by omega)
   have hfin:=hid hfin
   clear hres ZA ZB
   go_wp2_with (first
    | (go_at_call 185;with_reducible refine(k1.out _ H1.out).mono ?_;rintro e w1 ⟨rfl,hb⟩;have h2:=H1.out.below hb;obtain⟨_,x0',x1',y0',y1',_⟩:=id h2;have H2:=hid h2;clear h2 hb)
    | (go_at_call 185;with_reducible refine(k2.out _ H2.out).mono ?_;rintro e w2 ⟨rfl,hb⟩;have H3:=hid (H2.out.below hb);clear hb)
    | (go_at_call 186;with_reducible refine(k3.out _ H3.out).mono ?_;rintro e w3 ⟨rfl,hb⟩;have h4:=H3.out.below hb;obtain⟨_,x0'',x1'',y0'',y1'',f0'',f1'',g0'',g1'',_⟩:=id h4;have H4:=hid h4;clear h4 hb)
    | fail)
   simp only[Exit.jump]
   go_ret
   exact⟨by rw[hfin.out];rfl,H4.out.bw⟩
 ·rintro a' W ⟨s,n1,d1,n2,d2,A,B,⟨u,rfl⟩,hc,h1,h2,hs,hm⟩
  obtain⟨zn1,zd1⟩:=jN_ h1
  obtain⟨zn2,zd2⟩:=jN_ h2
  obtain⟨e1,e2⟩:=lI_ h1
  obtain⟨e3,e4⟩:=lI_ h2
  have fA:=(cS_ h1).2.2
  have fB:=(cS_ h2).2.2
  have k1:=hid (fun W' (h:CpAt n1 d1 n2 d2 w W')=>by have:=HI.out.div zn1 zd1 W' h.bw;rw[e1,e2,aH_ (aR_ fA),aH_ (eS_ fA),cU_ (aR_ fA)] at this;exact this)
  have k2:=hid (fun W' (h:CpAt n1 d1 n2 d2 w W')=>by have:=HI.out.div zn2 zd2 W' h.bw;rw[e3,e4,aH_ (aR_ fB),aH_ (eS_ fB),cU_ (aR_ fB)] at this;exact this)
  have k3:=hid (fun W' (h:CpAt n1 d1 n2 d2 w W')=>by have:=HI.out.cmp (oK_ (aR_ fA)) (oK_ (aR_ fB)) W' h.bw;rw[show cmpO (str A.floor) (str B.floor)=cmpI A.floor B.floor by unfold cmpO;rw[qO_ (aR_ fA),qO_ (aR_ fB)]] at this;exact this)
  obtain⟨_,x0,x1,y0,y1,_⟩:=id hc
  have H1:=hid hc
  clear hc e1 e2 e3 e4 zn1 zn2 zd1 zd2
  have hsb : -1≤s∧s≤1:=by rcases hs with rfl|rfl <;> omega
  obtain⟨sb1,sb2⟩:=hsb
  have FF:=hid (pH_ (a:=A) (b:=B))
  have RR:=hid (uD_ (a:=A) (b:=B))
  have ZA:=hP_ (z:=A.num%(A.den:Int))
  have ZB:=hP_ (z:=B.num%(B.den:Int))
  have NA:=hid (iP_ h1)
  have NB:=hid (iP_ h2)
  have hden:=hid (pQ_ H1.out.x1 h1)
  have HA1:=hid h1
  have HB1:=hid h2
  have HM:=hid hm
  have HSS:=hid hs
  clear hm h1 h2 hs fA fB
  generalize str A.floor=tp at k1 k3
  generalize str B.floor=tq at k2 k3
  generalize hr1:str (A.num%(A.den:Int))=tr at k1 ZA NA
  generalize hr2:str (B.num%(B.den:Int))=ts at k2 ZB NB
  rcases pJ_ A.floor B.floor with hc|hc|hc
  ·have hres:=FF.out (by omega)
   rw[hc] at hres
   rw[hc] at k3
   have hfin:=HM.out
   rw[hres] at hfin
   replace hfin:cmpR a b = -s:=by omega
   have hfin:=hid hfin
   clear hres ZA ZB
   go_wp2_with (first
    | (go_at_call 185;with_reducible refine(k1.out _ H1.out).mono ?_;rintro e w1 ⟨rfl,hb⟩;have h2:=H1.out.below hb;obtain⟨_,x0',x1',y0',y1',_⟩:=id h2;have H2:=hid h2;clear h2 hb)
    | (go_at_call 185;with_reducible refine(k2.out _ H2.out).mono ?_;rintro e w2 ⟨rfl,hb⟩;have H3:=hid (H2.out.below hb);clear hb)
    | (go_at_call 186;with_reducible refine(k3.out _ H3.out).mono ?_;rintro e w3 ⟨rfl,hb⟩;have h4:=H3.out.below hb;obtain⟨_,x0'',x1'',y0'',y1'',f0'',f1'',g0'',g1'',_⟩:=id h4;have H4:=hid h4;clear h4 hb)
    | fail)
   simp only[Exit.jump]
   go_ret
   exact⟨by rw[hfin.out];rfl,H4.out.bw⟩
  ·have hf:=uE_ hc
   have hres:=RR.out hf
   rw[hc] at k3
   have hm:=HM.out
   rw[hres] at hm
   clear hres hf hc
   by_cases hA:A.num%(A.den:Int)=0
   ·rw[decide_eq_true hA] at ZA
    rw[if_pos hA] at hm
    by_cases hB:B.num%(B.den:Int)=0
    ·rw[decide_eq_true hB] at ZB
     rw[if_pos hB] at hm
     replace hm:cmpR a b=0:=by omega
     have hfin:=hid hm
     clear hm hA hB
     go_wp2_with (first
      | (go_at_call 185;with_reducible refine(k1.out _ H1.out).mono ?_;rintro e w1 ⟨rfl,hb⟩;have h2:=H1.out.below hb;obtain⟨_,x0',x1',y0',y1',_⟩:=id h2;have H2:=hid h2;clear h2 hb)
      | (go_at_call 185;with_reducible refine(k2.out _ H2.out).mono ?_;rintro e w2 ⟨rfl,hb⟩;have H3:=hid (H2.out.below hb);clear hb)
      | (go_at_call 186;with_reducible refine(k3.out _ H3.out).mono ?_;rintro e w3 ⟨rfl,hb⟩;have h4:=H3.out.below hb;obtain⟨_,x0'',x1'',y0'',y1'',f0'',f1'',g0'',g1'',_⟩:=id h4;have H4:=hid h4;clear h4 hb)
      | fail)
     simp only[Exit.jump]
     go_ret
     exact⟨by rw[hfin.out];rfl,H4.out.bw⟩
    ·rw[decide_eq_false hB] at ZB
     rw[if_neg hB] at hm
     replace hm:cmpR a b = -s:=by omega
     have hfin:=hid hm
     clear hm hA hB
     go_wp2_with (first
      | (go_at_call 185;with_reducible refine(k1.out _ H1.out).mono ?_;rintro e w1 ⟨rfl,hb⟩;have h2:=H1.out.below hb;obtain⟨_,x0',x1',y0',y1',_⟩:=id h2;have H2:=hid h2;clear h2 hb)
      | (go_at_call 185;with_reducible refine(k2.out _ H2.out).mono ?_;rintro e w2 ⟨rfl,hb⟩;have H3:=hid (H2.out.below hb);clear hb)
      | (go_at_call 186;with_reducible refine(k3.out _ H3.out).mono ?_;rintro e w3 ⟨rfl,hb⟩;have h4:=H3.out.below hb;obtain⟨_,x0'',x1'',y0'',y1'',f0'',f1'',g0'',g1'',_⟩:=id h4;have H4:=hid h4;clear h4 hb)
      | fail)
     simp only[Exit.jump]
     go_ret
     exact⟨by rw[hfin.out];rfl,H4.out.bw⟩
   ·rw[decide_eq_false hA] at ZA
    rw[if_neg hA] at hm
    by_cases hB:B.num%(B.den:Int)=0
    ·rw[decide_eq_true hB] at ZB
     rw[if_pos hB] at hm
     replace hm:cmpR a b=s:=by omega
     have hfin:=hid hm
     clear hm hA hB
     go_wp2_with (first
      | (go_at_call 185;with_reducible refine(k1.out _ H1.out).mono ?_;rintro e w1 ⟨rfl,hb⟩;have h2:=H1.out.below hb;obtain⟨_,x0',x1',y0',y1',_⟩:=id h2;have H2:=hid h2;clear h2 hb)
      | (go_at_call 185;with_reducible refine(k2.out _ H2.out).mono ?_;rintro e w2 ⟨rfl,hb⟩;have H3:=hid (H2.out.below hb);clear hb)
      | (go_at_call 186;with_reducible refine(k3.out _ H3.out).mono ?_;rintro e w3 ⟨rfl,hb⟩;have h4:=H3.out.below hb;obtain⟨_,x0'',x1'',y0'',y1'',f0'',f1'',g0'',g1'',_⟩:=id h4;have H4:=hid h4;clear h4 hb)
      | fail)
     simp only[Exit.jump]
     go_ret
     exact⟨by rw[hfin.out];rfl,H4.out.bw⟩
    ·rw[decide_eq_false hB] at ZB
     rw[if_neg hB] at hm
     have na:=NA.out hA
     have nb:=NB.out hB
     have nd:=yJ_ hA
     have HN:=hid (And.intro na (And.intro nb (And.intro nd hm)))
     clear hm na nb nd hA hB
     go_wp2_with (first
      | (go_at_call 185;with_reducible refine(k1.out _ H1.out).mono ?_;rintro e w1 ⟨rfl,hb⟩;have h2:=H1.out.below hb;obtain⟨_,x0',x1',y0',y1',_⟩:=id h2;have H2:=hid h2;clear h2 hb)
      | (go_at_call 185;with_reducible refine(k2.out _ H2.out).mono ?_;rintro e w2 ⟨rfl,hb⟩;have H3:=hid (H2.out.below hb);clear hb)
      | (go_at_call 186;with_reducible refine(k3.out _ H3.out).mono ?_;rintro e w3 ⟨rfl,hb⟩;have h4:=H3.out.below hb;obtain⟨_,x0'',x1'',y0'',y1'',f0'',f1'',g0'',g1'',_⟩:=id h4;have H4:=hid h4;clear h4 hb)
      | fail)
     go_region
     go_wp2
     go_step3
     obtain⟨na,nb,nd,hm⟩:=HN.out
     have h5:=(H4.out.set d1 tr d2 ts).drew
     refine⟨rfl,⟨-s,d1,tr,d2,ts,_,_,?_,h5,na,nb,?_,?_⟩,?_⟩
     ·exact uC_ _ _ _ _ _ _ _ _ _ _ _ _ _ _ _ _ _ _ _ _ _ _ _ _ _ _ _ _ _ _ _ _ _ _ _ _ _ _ _ _ _ _ _ _ _ _ _ _ _ _ _ _ _ _ _ _ _ _ _ _ _ _ _ _ _ _ _ _ _ _ _ _ _ _
     ·rcases HSS.out with rfl|rfl
      ·exact .inr rfl
      ·exact .inl rfl
     ·rw[←hm,Int.neg_mul,Int.mul_neg]
     ·show nV_ w.heap.size _<nV_ w.heap.size W
      rw[hden.out,pQ_ h5.x1 na]
      exact nd
  ·have hres:=FF.out (by omega)
   rw[hc] at hres
   rw[hc] at k3
   have hfin:=HM.out
   rw[hres] at hfin
   replace hfin:cmpR a b=s:=by omega
   have hfin:=hid hfin
   clear hres ZA ZB
   go_wp2_with (first
    | (go_at_call 185;with_reducible refine(k1.out _ H1.out).mono ?_;rintro e w1 ⟨rfl,hb⟩;have h2:=H1.out.below hb;obtain⟨_,x0',x1',y0',y1',_⟩:=id h2;have H2:=hid h2;clear h2 hb)
    | (go_at_call 185;with_reducible refine(k2.out _ H2.out).mono ?_;rintro e w2 ⟨rfl,hb⟩;have H3:=hid (H2.out.below hb);clear hb)
    | (go_at_call 186;with_reducible refine(k3.out _ H3.out).mono ?_;rintro e w3 ⟨rfl,hb⟩;have h4:=H3.out.below hb;obtain⟨_,x0'',x1'',y0'',y1'',f0'',f1'',g0'',g1'',_⟩:=id h4;have H4:=hid h4;clear h4 hb)
    | fail)
   simp only[Exit.jump]
   go_ret
   exact⟨by rw[hfin.out];rfl,H4.out.bw⟩
theorem wV_ {a1 a2 b1 b2:ByteArray} {w:World} (hi:IOps w) (z1:Sz a1) (z2:Sz a2) (z3:Sz b1) (z4:Sz b2) (hn:ratO a1 a2=none∨ratO b1 b2=none) :
  Calls Tryz.prog 143 #[.agg #[.string a1,.string a2],.agg #[.string b1,.string b2]] w fun e W'=>e=.returned (.int .i64 0)∧Below w.heap.size w W':=by
 have v1:=fun W (h:CpAt a1 a2 b1 b2 w W)=>oA_ z1 z2 (hi.below h.bw)
 have v2:=fun W (h:CpAt a1 a2 b1 b2 w W)=>oA_ z3 z4 (hi.below h.bw)
 have H0:=hid (CpAt.start w a1 a2 b1 b2 47)
 have hv:vR a1 a2=false∨vR a1 a2=true∧vR b1 b2=false:=by
  unfold vR
  rcases hn with h|h
  ·rw[h];exact .inl rfl
  ·rw[h]
   cases ratO a1 a2
   ·exact .inl rfl
   ·exact .inr ⟨rfl,rfl⟩
 clear hi z1 z2 z3 z4 hn
 rcases hv with h|⟨h,h'⟩
 ·rw[h] at v1
  have V1:=hid v1
  clear v1 v2 h
  go_enter Tryz.func143,Tryz.ntmps143
  go_wp2
  go_step3
  go_wp2_with (first
   | (go_at_call 184;with_reducible refine(V1.out _ H0.out).mono ?_;rintro e w1 ⟨rfl,hb⟩;have H1:=hid (H0.out.below hb);clear hb)
   | fail)
  rw[Exit.noGoto_ret]
  go_ret
  exact⟨rfl,H1.out.bw⟩
 ·rw[h] at v1
  rw[h'] at v2
  have V1:=hid v1
  have V2:=hid v2
  clear v1 v2 h h'
  go_enter Tryz.func143,Tryz.ntmps143
  go_wp2
  go_step3
  go_wp2_with (first
   | (go_at_call 184;with_reducible refine(V1.out _ H0.out).mono ?_;rintro e w1 ⟨rfl,hb⟩;have h1:=H0.out.below hb;obtain⟨_,x0,x1,y0,y1,_⟩:=id h1;have H1:=hid h1;clear hb h1)
   | (go_at_call 184;with_reducible refine(V2.out _ H1.out).mono ?_;rintro e w2 ⟨rfl,hb⟩;have H2:=hid (H1.out.below hb);clear hb)
   | fail)
  rw[Exit.noGoto_ret]
  go_ret
  exact⟨rfl,H2.out.bw⟩
theorem pS_ {a1 a2 b1 b2:ByteArray} {w:World} (hi:IOps w) (z1:Sz a1) (z2:Sz a2) (z3:Sz b1) (z4:Sz b2) :
  Calls Tryz.prog 143 #[.agg #[.string a1,.string a2],.agg #[.string b1,.string b2]] w fun e W'=>e=.returned (.int .i64 (cmpS a1 a2 b1 b2))∧Below w.heap.size w W':=by
 by_cases hn:ratO a1 a2=none∨ratO b1 b2=none
 ·rw[aHQ hn]
  exact wV_ hi z1 z2 z3 z4 hn
 ·obtain⟨a,ha⟩:∃a,ratO a1 a2=some a:=Option.ne_none_iff_exists'.1 (fun h=>hn (.inl h))
  obtain⟨b,hb⟩:∃b,ratO b1 b2=some b:=Option.ne_none_iff_exists'.1 (fun h=>hn (.inr h))
  rw[aHP ha hb]
  exact uS_ hi ha hb
end Go.Proofs.YtlikmmpmnaaifaaGreatDoor
namespace Go.Proofs.YtlikmmpmnaaifaaGreatDoor
theorem vA_ {z:Int} : small z=decide (z.natAbs<10^200):=by
 unfold small
 exact decide_eq_decide.2 (jR_ (by decide))
def FO (o:Option Rat):Prop:=∀r,o=some r→fN_ r
theorem FO.of {r:Rat} (h:fN_ r):FO (some r):=fun _ k=>by cases k;exact h
theorem aEZ:aG_ ⟨#[]⟩=none:=by decide +kernel
theorem aJQ (d:ByteArray):ratO ⟨#[]⟩ d=none:=by unfold ratO;rw[aEZ]
theorem xX_ {o:Option Rat} (h:FO o):ratO (qN o) (qD o)=o:=by
 cases o with
 | none=>exact aJQ _
 | some r=>exact qB_ (h r rfl)
def cD_ (f:Rat→Rat→Option Rat) (x y:Option Rat):Option Rat:=match x,y with|some a,some b=>f a b|_,_=>none
theorem aEW {f:Rat→Rat→Option Rat} {x y:Option Rat} (hx:FO x) (hy:FO y):op2 f (qN x) (qD x) (qN y) (qD y)=cD_ f x y:=by
 unfold op2 cD_
 rw[xX_ hx,xX_ hy]
 try (cases x <;> cases y <;> rfl)
def rH_ (x y:Option Rat):Int:=match x,y with|some a,some b=>cmpR a b|_,_=>0
theorem aND {x y:Option Rat} (hx:FO x) (hy:FO y):cmpS (qN x) (qD x) (qN y) (qD y)=rH_ x y:=by
 unfold cmpS rH_
 rw[xX_ hx,xX_ hy]
 try (cases x <;> cases y <;> rfl)
theorem FO.lift {f:Rat→Rat→Option Rat} (hf:∀{a b r:Rat},f a b=some r→fN_ r) (x y:Option Rat):FO (cD_ f x y):=fun r h=>by
 unfold cD_ at h
 cases x with
 | none=>cases h
 | some a=>
  cases y with
  | none=>cases h
  | some b=>exact hf h
theorem FO.add (x y:Option Rat):FO (cD_ addR x y):=FO.lift aMH x y
theorem FO.sub (x y:Option Rat):FO (cD_ subR x y):=FO.lift aJE x y
theorem FO.mul (x y:Option Rat):FO (cD_ mulR x y):=FO.lift aKI x y
theorem FO.div (x y:Option Rat):FO (cD_ divR x y):=FO.lift aLK x y
theorem hV_ (o:Option Rat) (h:FO o):Sz (qN o):=by
 cases o with
 | none=>exact sG_
 | some r=>rw[vE_,←aH_ (h r rfl).1];exact dL_ _
theorem hW_ (o:Option Rat) (h:FO o):Sz (qD o):=by
 cases o with
 | none=>exact sG_
 | some r=>rw[vF_,←aH_ (h r rfl).2];exact dL_ _
instance:Inhabited Pl:=⟨⟨0,0⟩⟩
section
variable {α:Type} [Inhabited α] (lt:α→α→Bool)
def swpN (l:List α) (j:Nat):List α:=(l.set (j+1) (l[j]?.getD default)).set j (l[j+1]?.getD default)
def cL_ (l:List α):Nat→List α
 | 0=>l
 | j+1=>if lt (l[j+1]?.getD default) (l[j]?.getD default) then cL_ (swpN l j) j else l
def outN (l:List α) (i:Nat):Nat→List α
 | 0=>l
 | k+1=>outN (cL_ lt l i) (i+1) k
def cQ_ (l:List α):List α:=outN lt l 1 (l.length-1)
theorem mD_ (l:List α) (j:Nat):(swpN l j).length=l.length:=by simp[swpN]
theorem fL_ (l:List α) (j:Nat):(cL_ lt l j).length=l.length:=by
 induction j generalizing l with
 | zero=>rfl
 | succ j ih=>
  unfold cL_
  split
  ·rw[ih,mD_]
  ·rfl
theorem vJ_ (l:List α) (i k:Nat):(outN lt l i k).length=l.length:=by
 induction k generalizing l i with
 | zero=>rfl
 | succ k ih=>
  unfold outN
  rw[ih,fL_]
theorem gI_ (l:List α):(cQ_ lt l).length=l.length:=vJ_ lt l 1 _
variable {lt}
theorem aJA {l:List α} {j:Nat} (hj:j+1<l.length) {x:α} (h:x∈swpN l j):x∈l:=by
 unfold swpN at h
 have h0:l[j]?.getD default∈l:=by rw[List.getElem?_eq_getElem (by omega)];exact List.getElem_mem _
 have h1:l[j+1]?.getD default∈l:=by rw[List.getElem?_eq_getElem hj];exact List.getElem_mem _
 rcases List.mem_or_eq_of_mem_set h with h|rfl
 ·rcases List.mem_or_eq_of_mem_set h with h|rfl
  ·exact h
  ·exact h0
 ·exact h1
theorem aAQ {l:List α} {j:Nat} (hj:j<l.length) {x:α} (h:x∈cL_ lt l j):x∈l:=by
 induction j generalizing l with
 | zero=>exact h
 | succ j ih=>
  unfold cL_ at h
  split at h
  ·exact aJA hj (ih (by rw[mD_];omega) h)
  ·exact h
theorem aKD {l:List α} {i k:Nat} (hi:i+k≤l.length) {x:α} (h:x∈outN lt l i k):x∈l:=by
 induction k generalizing l i with
 | zero=>exact h
 | succ k ih=>
  unfold outN at h
  exact aAQ (lt:=lt) (by omega) (ih (by rw[fL_];omega) h)
theorem aDH {l:List α} {x:α} (h:x∈cQ_ lt l):x∈l:=by
 unfold cQ_ at h
 cases l with
 | nil=>exact h
 | cons y l=>exact aKD (by simp;omega) h
end
def ltP (a b:Pl):Bool:=decide (a.y<b.y)||(decide (a.y=b.y)&&decide (a.x<b.x))
def aD_ {α:Type} [DecidableEq α]:List α→List α
 | []=>[]
 | [x]=>[x]
 | x::y::l=>if x=y then aD_ (y::l) else x::aD_ (y::l)
def popL {α:Type} (ok:α→α→α→Bool) (x:α):List α→List α
 | b::a::l=>if ok a b x then b::a::l else popL ok x (a::l)
 | l=>l
def aU_ {α:Type} (ok:α→α→α→Bool) (l:List α):List α:=l.foldl (fun out x=>x::popL ok x out) []
def bF_ {α:Type} (ok:α→α→α→Bool) (l:List α):List α:=(aU_ ok l).reverse
def aI_ (a b c:Pl):Bool:=decide (0<aB_ a b c)
def aO_ (l:List Pl):List Pl:=
 let s:=aD_ (cQ_ ltP l)
 if s.length<3 then s else (bF_ aI_ s).dropLast++(bF_ aI_ s.reverse).dropLast
def whO (n:Int):Option Rat:=bE_ n 1
def plO (a b:Option Rat):Option Rat:=cD_ addR a b
def miO (a b:Option Rat):Option Rat:=cD_ subR a b
def tiO (a b:Option Rat):Option Rat:=cD_ mulR a b
def ovO (a b:Option Rat):Option Rat:=cD_ divR a b
def leO (a b:Option Rat):Bool:=decide (rH_ a b<0)
def mF_ (a b:Pl):Option Rat:=ovO (whO (b.y-a.y)) (whO (b.x-a.x))
def bS_ (a b:Pl) (x:Option Rat):Option Rat:=plO (whO a.y) (tiO (mF_ a b) (miO x (whO a.x)))
def dK_ (a b:Pl) (y:Int):Option Rat:=plO (whO a.x) (ovO (whO (y-a.y)) (mF_ a b))
def bU_ (r:Rc) (y:Option Rat):Option Rat:=
 let z:=miO y (whO r.y)
 if leO z (whO 0) then whO 0 else if leO (whO r.h) z then whO r.h else z
def kX_ (a:Pl) (r:Rc):Option Rat:=whO (max a.x r.x)
def fX_ (b:Pl) (r:Rc):Option Rat:=whO (min b.x (r.x+r.w))
def sM_ (a b:Pl) (r:Rc):List (Option Rat):=
 [kX_ a r,fX_ b r]++([r.y,r.y+r.h].filter fun y=>decide (a.y≠b.y)&&leO (kX_ a r) (dK_ a b y)&&leO (dK_ a b y) (fX_ b r)).map (dK_ a b)
def aKA (a b:Pl) (r:Rc) (s t:Option Rat):Option Rat:=
 tiO (ovO (plO (bU_ r (bS_ a b s)) (bU_ r (bS_ a b t))) (whO 2)) (miO t s)
def sumO (a b:Pl) (r:Rc):List (Option Rat)→Option Rat→Option Rat
 | s::t::l,acc=>sumO a b r (t::l) (plO acc (aKA a b r s t))
 | _,acc=>acc
def dR_ (a b:Pl) (r:Rc):Option Rat:=
 if leO (kX_ a r) (fX_ b r) then sumO a b r (cQ_ leO (sM_ a b r)) (whO 0) else whO 0
def aC_ (l:List Pl):List (Pl×Pl):=l.zip (l.drop 1++l.take 1)
def hN_ (r:Rc) (acc:Option Rat) (e:Pl×Pl):Option Rat:=
 if e.1.x≤e.2.x then miO acc (dR_ e.1 e.2 r) else plO acc (dR_ e.2 e.1 r)
def bT_ (l:List Pl) (r:Rc):Option Rat:=(aC_ l).foldl (hN_ r) (whO 0)
def zI_ (l:List Pl):Int:=((aC_ l).map fun e=>e.1.x*e.2.y-e.1.y*e.2.x).foldl (· + ·) 0
end Go.Proofs.YtlikmmpmnaaifaaGreatDoor
namespace Go.Proofs.YtlikmmpmnaaifaaGreatDoor
def kp (p:Pl):Int:=p.y*4096+p.x
theorem uV_ (a b c:Pl):aB_ a b c=(kp b-kp a)*(c.y-a.y)-(b.y-a.y)*(kp c-kp a):=by unfold aB_ kp;grind
theorem hR_ (u v a b p:Pl):(kp b-kp a)*aB_ u v p=(kp b-kp p)*aB_ u v a+(kp p-kp a)*aB_ u v b+(kp v-kp u)*aB_ a b p:=by unfold aB_ kp;grind
theorem lE_ (a b:Pl):aB_ a b a=0:=by unfold aB_;grind
theorem iF_ (a b:Pl):aB_ a b b=0:=by unfold aB_;grind
theorem aIW (a b:Pl):aB_ a a b=0:=by unfold aB_;grind
def crE (u v a b:Pl):Int:=(kp v-kp u)*(b.y-a.y)-(v.y-u.y)*(kp b-kp a)
theorem aIV (u v a b:Pl):aB_ u v b=aB_ u v a+crE u v a b:=by rw[uV_,uV_];unfold crE;grind
theorem aPR (a b c u v:Pl):crE a c u v=crE a b u v+crE b c u v:=by unfold crE;grind
theorem yZ_ (u v x:Pl):crE u v v x=aB_ u v x:=by rw[uV_];unfold crE;grind
theorem aHC {a b c d e f:Pl} (h1:kp a<kp b) (h2:kp c<kp d) (h3:kp e<kp f) (k1:0<crE a b c d) (k2:0<crE c d e f):0<crE a b e f:=by
 have e1:(kp d-kp c)*crE a b e f=(kp f-kp e)*crE a b c d+(kp b-kp a)*crE c d e f:=by unfold crE;grind
 have p1:=Int.mul_pos (show 0<kp f-kp e by omega) k1
 have p2:=Int.mul_pos (show 0<kp b-kp a by omega) k2
 exact Int.pos_of_mul_pos_right (a:=kp d-kp c) (by omega) (by omega)
theorem jL_ {u v a b p:Pl} (hab:kp a<kp b) (huv:kp u<kp v) (h1:kp a≤kp p) (h2:kp p≤kp b) (k1:0≤aB_ u v a) (k2:0≤aB_ u v b) (k3:0≤aB_ a b p) :
  0≤aB_ u v p:=by
 have e:=hR_ u v a b p
 have p1:=Int.mul_nonneg (show 0≤kp b-kp p by omega) k1
 have p2:=Int.mul_nonneg (show 0≤kp p-kp a by omega) k2
 have p3:=Int.mul_nonneg (show 0≤kp v-kp u by omega) k3
 exact Int.le_of_mul_le_mul_left (a:=kp b-kp a) (by omega) (by omega)
theorem uW_ {u v a b p:Pl} (hab:kp a<kp b) (huv:kp u<kp v) (h1:kp a≤kp p) (h2:kp p≤kp b) (k1:0≤aB_ u v a) (k2:0≤aB_ u v b) (k3:0≤aB_ a b p) (k:aB_ u v p=0) :
  (kp p=kp b∨aB_ u v a=0)∧(kp p=kp a∨aB_ u v b=0):=by
 have e:=hR_ u v a b p
 have p1:=Int.mul_nonneg (show 0≤kp b-kp p by omega) k1
 have p2:=Int.mul_nonneg (show 0≤kp p-kp a by omega) k2
 have p3:=Int.mul_nonneg (show 0≤kp v-kp u by omega) k3
 rw[k,Int.mul_zero] at e
 have q1:(kp b-kp p)*aB_ u v a=0:=by omega
 have q2:(kp p-kp a)*aB_ u v b=0:=by omega
 rcases Int.mul_eq_zero.1 q1 with q1|q1 <;> rcases Int.mul_eq_zero.1 q2 with q2|q2 <;> omega
def edR:List Pl→List (Pl×Pl)
 | b::a::l=>(a,b)::edR (a::l)
 | _=>[]
def hH_:List Pl→Prop
 | b::a::l=>kp a<kp b∧hH_ (a::l)
 | _=>True
def uA_:List Pl→Prop
 | c::b::a::l=>0<aB_ a b c∧uA_ (b::a::l)
 | _=>True
def covL (p:Pl):List Pl→Prop
 | b::a::l=>(kp a≤kp p∧kp p≤kp b∧0≤aB_ a b p)∨covL p (a::l)
 | [a]=>p=a
 | []=>False
theorem aBH {x:Pl} {l:List Pl} (h:uA_ (x::l)):uA_ l:=by
 match l,h with
 | [],_=>trivial
 | [_],_=>trivial
 | _::_::_,h=>exact h.2
theorem jZ_ {x:Pl} {l:List Pl} (h:hH_ (x::l)):hH_ l:=by
 match l,h with
 | [],_=>trivial
 | _::_,h=>exact h.2
theorem aHJ {p x:Pl} {l:List Pl} (h:covL p l):covL p (x::l):=by
 match l,h with
 | [],h=>exact h.elim
 | [_],h=>exact .inr h
 | _::_::_,h=>exact .inr h
theorem aHI (x:Pl) (l:List Pl) (h:∀a,l.head?=some a→kp a<kp x):covL x (x::l):=by
 match l,h with
 | [],_=>rfl
 | a::l,h=>exact .inl ⟨Int.le_of_lt (h a rfl),Int.le_refl _,by rw[iF_];exact Int.le_refl _⟩
theorem aED (x:Pl):∀r:List Pl,hH_ r→uA_ r→(∀a,r.head?=some a→kp a<kp x)→
  hH_ (x::popL aI_ x r)∧uA_ (x::popL aI_ x r)∧∀p,covL p (x::r)→covL p (x::popL aI_ x r)
 | [],_,_,_=>⟨trivial,trivial,fun _ h=>h⟩
 | [b],_,_,hx=>⟨⟨hx b rfl,trivial⟩,trivial,fun _ h=>h⟩
 | b::a::l,hd,hc,hx=>by
  have hbx:=hx b rfl
  have hab:=hd.1
  unfold popL
  split
  ·rename_i ho
   have ho:0<aB_ a b x:=of_decide_eq_true ho
   exact⟨⟨hbx,hd⟩,⟨ho,hc⟩,fun _ h=>h⟩
  ·rename_i ho
   have ho:aB_ a b x≤0:=by
    have:¬0<aB_ a b x:=fun h=>ho (decide_eq_true h)
    omega
   obtain⟨h1,h2,h3⟩:=aED x (a::l) hd.2 (aBH hc) (fun c hc=>by cases hc;omega)
   refine⟨h1,h2,fun p hp=>h3 p ?_⟩
   have hb:0≤aB_ a x b:=by rw[zR_];omega
   rcases hp with ⟨p1,p2,p3⟩|hp
   ·exact .inl ⟨by omega,p2,jL_ hbx (by omega) p1 p2 hb (by rw[iF_];exact Int.le_refl _) p3⟩
   ·rcases hp with ⟨p1,p2,p3⟩|hp
    ·exact .inl ⟨by omega,by omega,jL_ hab (by omega) p1 p2 (by rw[lE_];exact Int.le_refl _) hb p3⟩
    ·exact .inr hp
theorem kK_ (ok:Pl→Pl→Pl→Bool) (x:Pl):∀r:List Pl,(popL ok x r).getLast?=r.getLast?
 | []=>rfl
 | [_]=>rfl
 | b::a::l=>by
  unfold popL
  split
  ·rfl
  ·rw[kK_ ok x (a::l)];simp
theorem yD_ (ok:Pl→Pl→Pl→Bool) (x:Pl):∀(r:List Pl) (q:Pl),q∈popL ok x r→q∈r
 | [],_,h=>h
 | [_],_,h=>h
 | b::a::l,q,h=>by
  unfold popL at h
  split at h
  ·exact h
  ·exact List.mem_cons_of_mem _ (yD_ ok x (a::l) q h)
def eC_ (ok:Pl→Pl→Pl→Bool) (r l:List Pl):List Pl:=l.foldl (fun out x=>x::popL ok x out) r
theorem pO_:∀(l r done:List Pl),hH_ r→uA_ r→(∀p∈done,covL p r)→(∀x∈l,∀a,r.head?=some a→kp a<kp x)→l.Pairwise (kp · < kp ·)→
  hH_ (eC_ aI_ r l)∧uA_ (eC_ aI_ r l)∧∀p,p∈done∨p∈l→covL p (eC_ aI_ r l)
 | [],r,done,hd,hc,hv,_,_=>⟨hd,hc,fun p hp=>by rcases hp with hp | hp;exact hv p hp;cases hp⟩
 | x::l,r,done,hd,hc,hv,hx,hp=>by
  obtain⟨h1,h2,h3⟩:=aED x r hd hc (hx x (by simp))
  obtain⟨g1,g2,g3⟩:=pO_ l (x::popL aI_ x r) (x::done) h1 h2 (fun p hp=>by
   rcases List.mem_cons.1 hp with rfl|hp
   ·exact h3 p (aHI p r (hx p (by simp)))
   ·exact h3 p (aHJ (hv p hp))) (fun y hy a ha=>by cases ha;exact(List.pairwise_cons.1 hp).1 y hy) (List.pairwise_cons.1 hp).2
  refine⟨g1,g2,fun p hp=>g3 p ?_⟩
  rcases hp with hp|hp
  ·exact .inl (List.mem_cons_of_mem _ hp)
  ·rcases List.mem_cons.1 hp with rfl|hp
   ·exact .inl (by simp)
   ·exact .inr hp
theorem pN_ (ok:Pl→Pl→Pl→Bool):∀(l r:List Pl) (q:Pl),q∈eC_ ok r l→q∈r∨q∈l
 | [],_,_,h=>.inl h
 | x::l,r,q,h=>by
  rcases pN_ ok l (x::popL ok x r) q h with h|h
  ·rcases List.mem_cons.1 h with rfl|h
   ·exact .inr (by simp)
   ·exact .inl (yD_ ok x r q h)
  ·exact .inr (by simp[h])
theorem nT_ (ok:Pl→Pl→Pl→Bool):∀(l r:List Pl) (a:Pl),r.getLast?=some a→(eC_ ok r l).getLast?=some a
 | [],_,_,h=>h
 | x::l,r,a,h=>by
  refine nT_ ok l (x::popL ok x r) a ?_
  rw[←kK_ ok x r] at h
  cases hr:popL ok x r with
  | nil=>rw[hr] at h;cases h
  | cons b t=>rw[hr] at h;rw[List.getLast?_cons_cons];exact h
theorem nU_ (ok:Pl→Pl→Pl→Bool):∀(l r:List Pl),(eC_ ok r l).head?=(r.reverse++l).getLast?
 | [],r=>by show r.head?=_;simp
 | x::l,r=>by
  show(eC_ ok (x::popL ok x r) l).head?=_
  rw[nU_ ok l]
  simp[List.getLast?_cons]
theorem nI_:∀(r:List Pl) (e:Pl×Pl),e∈edR r→e.1∈r∧e.2∈r
 | [],_,h=>by cases h
 | [_],_,h=>by cases h
 | b::a::l,e,h=>by
  rcases List.mem_cons.1 h with rfl|h
  ·simp
  ·have:=nI_ (a::l) e h
   exact⟨List.mem_cons_of_mem _ this.1,List.mem_cons_of_mem _ this.2⟩
theorem pD_:∀(r:List Pl),hH_ r→∀e∈edR r,kp e.1<kp e.2
 | [],_,_,h=>by cases h
 | [_],_,_,h=>by cases h
 | b::a::l,hd,e,h=>by
  rcases List.mem_cons.1 h with rfl|h
  ·exact hd.1
  ·exact pD_ (a::l) hd.2 e h
def aAV:List Pl→Prop
 | x::h::l=>kp h<kp x∧(∀e∈edR (h::l),0<crE e.1 e.2 h x)∧aAV (h::l)
 | _=>True
theorem aGB:∀r:List Pl,hH_ r→uA_ r→aAV r
 | [],_,_=>trivial
 | [_],_,_=>trivial
 | [_,_],hd,_=>⟨hd.1,(fun _ h=>by cases h),trivial⟩
 | x::h::g::l,hd,hc=>by
  have ih:=aGB (h::g::l) hd.2 hc.2
  have e1:0<crE g h h x:=by rw[yZ_];exact hc.1
  refine⟨hd.1,fun e he=>?_,ih⟩
  rcases List.mem_cons.1 he with rfl|he
  ·exact e1
  ·exact aHC (pD_ (g::l) hd.2.2 e he) hd.2.1 hd.1 (ih.2.1 e he) e1
theorem aHB (u v:Pl):∀(l:List Pl) (h:Pl),(∀e∈edR (h::l),0<crE e.1 e.2 u v)→∀c∈l,0<crE c h u v
 | [],_,_,_,hc=>by cases hc
 | g::l,h,hE,c,hc=>by
  have h1:=hE (g,h) (by simp[edR])
  rcases List.mem_cons.1 hc with rfl|hc
  ·exact h1
  ·have h2:=aHB u v l g (fun e he=>hE e (by simp[edR,he])) c hc
   rw[aPR c g h u v]
   simp only at h1
   omega
theorem dY_:∀r:List Pl,aAV r→∀e∈edR r,∀c∈r,c=e.1∨c=e.2∨0<aB_ e.1 e.2 c
 | [],_,_,h,_,_=>by cases h
 | [_],_,_,h,_,_=>by cases h
 | x::h::l,hg,e,he,c,hc=>by
  obtain⟨h1,h2,h3⟩:=hg
  rcases List.mem_cons.1 he with rfl|he2
  ·rcases List.mem_cons.1 hc with rfl|hc
   ·exact .inr (.inl rfl)
   ·rcases List.mem_cons.1 hc with rfl|hc
    ·exact .inl rfl
    ·have:=aHB h x l h h2 c hc
     rw[yZ_,←xH_] at this
     exact .inr (.inr this)
  ·rcases List.mem_cons.1 hc with rfl|hc2
   ·refine .inr (.inr ?_)
    rw[aIV e.1 e.2 h c]
    have k:=h2 e he2
    rcases dY_ (h::l) h3 e he2 h (by simp) with q|q|q
    ·have:=lE_ e.1 e.2
     rw[←q] at this
     rw[←q] at k⊢
     omega
    ·have:=iF_ e.1 e.2
     rw[←q] at this
     rw[←q] at k⊢
     omega
    ·omega
   ·exact dY_ (h::l) h3 e he2 c hc2
theorem oZ_ {r:List Pl} (hg:aAV r) {e:Pl×Pl} (he:e∈edR r) {c:Pl} (hc:c∈r):0≤aB_ e.1 e.2 c:=by
 rcases dY_ r hg e he c hc with h|h|h
 ·rw[h,lE_];exact Int.le_refl _
 ·rw[h,iF_];exact Int.le_refl _
 ·omega
theorem zA_ (p:Pl):∀r:List Pl,hH_ r→covL p r→r=[p]∨∃e∈edR r,kp e.1≤kp p∧kp p≤kp e.2∧0≤aB_ e.1 e.2 p
 | [],_,h=>h.elim
 | [a],_,h=>.inl (by rw[show p=a from h])
 | b::a::l,hd,h=>by
  rcases h with h|h
  ·exact .inr ⟨(a,b),by simp[edR],h⟩
  ·rcases zA_ p (a::l) hd.2 h with h|⟨e,he,h⟩
   ·injection h with h1 h2
    subst h1
    exact .inr ⟨(a,b),by simp[edR],Int.le_refl _,Int.le_of_lt hd.1,by rw[lE_];exact Int.le_refl _⟩
   ·exact .inr ⟨e,by simp[edR,he],h⟩
def DomL (r s:List Pl):Prop:=∀e∈edR r,∀p∈s,0<aB_ e.1 e.2 p∨(aB_ e.1 e.2 p=0∧kp e.1≤kp p∧kp p≤kp e.2)
theorem aPT {r:List Pl} {p:Pl} (hd:hH_ r) (hg:aAV r) (hc:covL p r) {e:Pl×Pl} (he:e∈edR r):0<aB_ e.1 e.2 p∨(aB_ e.1 e.2 p=0∧kp e.1≤kp p∧kp p≤kp e.2):=by
 rcases zA_ p r hd hc with rfl|⟨⟨a,b⟩,hf,h1,h2,h3⟩
 ·cases he
 ·simp only at h1 h2 h3
  have hab:=pD_ r hd _ hf
  have huv:=pD_ r hd _ he
  obtain⟨ma,mb⟩:=nI_ r _ hf
  simp only at hab ma mb
  have ka:=oZ_ hg he ma
  have kb:=oZ_ hg he mb
  have h0:=jL_ hab huv h1 h2 ka kb h3
  rcases Int.lt_or_eq_of_le h0 with h|h
  ·exact .inl h
  ·have hz:aB_ e.1 e.2 p=0:=h.symm
   refine .inr ⟨hz,?_⟩
   obtain⟨q1,q2⟩:=uW_ hab huv h1 h2 ka kb h3 hz
   have ea:=dY_ r hg e he a ma
   have eb:=dY_ r hg e he b mb
   have ra:aB_ e.1 e.2 a=0→kp e.1≤kp a∧kp a≤kp e.2:=fun hz=>by
    rcases ea with q|q|q
    ·rw[q];omega
    ·rw[q];omega
    ·omega
   have rb:aB_ e.1 e.2 b=0→kp e.1≤kp b∧kp b≤kp e.2:=fun hz=>by
    rcases eb with q|q|q
    ·rw[q];omega
    ·rw[q];omega
    ·omega
   rcases q1 with q1|q1 <;> rcases q2 with q2|q2
   ·omega
   ·have:=rb q2;omega
   ·have:=ra q1;omega
   ·have:=ra q1;have:=rb q2;omega
theorem rK_ (ok:Pl→Pl→Pl→Bool) (l:List Pl):aU_ ok l=eC_ ok [] l:=rfl
structure ChainOf (r s:List Pl):Prop where
 desc:hH_ r
 good:aAV r
 dom:DomL r s
 sub:∀q∈r,q∈s
 head:r.head?=s.getLast?
 last:r.getLast?=s.head?
theorem rJ_ (l:List Pl) (hs:l.Pairwise (kp · < kp ·)):ChainOf (aU_ aI_ l) l:=by
 rw[rK_]
 obtain⟨h1,h2,h3⟩:=pO_ l [] [] trivial trivial (fun _ h=>by cases h) (fun _ _ _ h=>by cases h) hs
 have hg:=aGB _ h1 h2
 refine⟨h1,hg,fun e he p hp=>aPT h1 hg (h3 p (.inr hp)) he,fun q hq=>?_,by rw[nU_];rfl,?_⟩
 ·rcases pN_ aI_ l [] q hq with h|h
  ·cases h
  ·exact h
 ·cases l with
  | nil=>rfl
  | cons x l=>exact nT_ aI_ l [x] x rfl
theorem eZ_:∀(l:List Pl) (x:Pl),hH_ (x::l)→∀y∈l,kp y<kp x
 | [],_,_,_,h=>by cases h
 | z::l,x,hd,y,h=>by
  rcases List.mem_cons.1 h with rfl|h
  ·exact hd.1
  ·have:=eZ_ l z hd.2 y h
   have:=hd.1
   omega
theorem pL_:∀r r':List Pl,hH_ r→hH_ r'→r.head?=r'.head?→r.getLast?=r'.getLast?→DomL r r'→DomL r' r→(∀a∈r,∀b∈r',kp a=kp b→a=b)→r=r'
 | [],[],_,_,_,_,_,_,_=>rfl
 | [],_::_,_,_,h,_,_,_,_=>by cases h
 | _::_,[],_,_,h,_,_,_,_=>by cases h
 | [x],[y],_,_,h,_,_,_,_=>by cases h;rfl
 | [x],y::z::l,_,hd,h,hl,_,_,_=>by
  cases h
  rw[List.getLast?_cons_cons] at hl
  have hm:x∈z::l:=List.mem_of_getLast? hl.symm
  have:=eZ_ _ _ hd x hm
  omega
 | y::z::l,[x],hd,_,h,hl,_,_,_=>by
  cases h
  rw[List.getLast?_cons_cons] at hl
  have hm:y∈z::l:=List.mem_of_getLast? hl
  have:=eZ_ _ _ hd y hm
  omega
 | x::h::l,x'::h'::l',hd,hd',hh,hl,h1,h2,hi=>by
  cases hh
  have k1:=h1 (h,x) (by simp[edR]) h' (by simp)
  have k2:=h2 (h',x) (by simp[edR]) h (by simp)
  simp only at k1 k2
  have e:aB_ h' x h = -aB_ h x h':=by unfold aB_;grind
  rw[e] at k2
  have heq:h=h':=hi h (by simp) h' (by simp) (by omega)
  subst heq
  rw[List.getLast?_cons_cons,List.getLast?_cons_cons] at hl
  rw[pL_ (h::l) (h::l') hd.2 hd'.2 rfl hl (fun e he p hp=>h1 e (by simp[edR,he]) p (List.mem_cons_of_mem _ hp)) (fun e he p hp=>h2 e (by simp[edR,he]) p (List.mem_cons_of_mem _ hp)) (fun a ha b hb=>hi a (List.mem_cons_of_mem _ ha) b (List.mem_cons_of_mem _ hb))]
def ngP (p:Pl):Pl:=⟨-p.x,-p.y⟩
theorem oD_ (p:Pl):kp (ngP p) = -kp p:=by unfold kp ngP;simp only;omega
theorem pW_ (a b c:Pl):aB_ (ngP a) (ngP b) (ngP c)=aB_ a b c:=by unfold aB_ ngP;grind
theorem hZ_ (p:Pl):ngP (ngP p)=p:=by unfold ngP;simp
theorem aOV (a b c:Pl):aI_ (ngP a) (ngP b) (ngP c)=aI_ a b c:=by unfold aI_;rw[pW_]
theorem aEF (x:Pl):∀r:List Pl,popL aI_ (ngP x) (r.map ngP)=(popL aI_ x r).map ngP
 | []=>rfl
 | [_]=>rfl
 | b::a::l=>by
  show popL aI_ (ngP x) (ngP b::ngP a::l.map ngP)=_
  unfold popL
  rw[aOV]
  split
  ·rfl
  ·exact aEF x (a::l)
theorem uJ_:∀l r:List Pl,eC_ aI_ (r.map ngP) (l.map ngP)=(eC_ aI_ r l).map ngP
 | [],_=>rfl
 | x::l,r=>by
  show eC_ aI_ (ngP x::popL aI_ (ngP x) (r.map ngP)) (l.map ngP)=_
  rw[aEF]
  exact uJ_ l (x::popL aI_ x r)
theorem uF_ (l:List Pl):aU_ aI_ (l.map ngP)=(aU_ aI_ l).map ngP:=uJ_ l []
theorem aGV (f:Pl→Pl):∀r:List Pl,edR (r.map f)=(edR r).map fun e=>(f e.1,f e.2)
 | []=>rfl
 | [_]=>rfl
 | b::a::l=>by
  show(f a,f b)::edR ((a::l).map f)=_
  rw[aGV f (a::l)]
  rfl
section
variable {α:Type} [Inhabited α] (lt:α→α→Bool)
def insR (x:α):List α→List α
 | []=>[x]
 | b::r=>if lt x b then b::insR x r else x::b::r
theorem aNO (p post:List α) (b x:α):swpN (p++b::x::post) p.length=p++x::b::post:=by
 unfold swpN
 simp
theorem nC_ (x:α):∀(r post:List α),cL_ lt (r.reverse++x::post) r.length=(insR lt x r).reverse++post
 | [],_=>rfl
 | b::r,post=>by
  have e:(b::r).reverse++x::post=r.reverse++b::x::post:=by simp
  have h1:(r.reverse++b::x::post)[r.length+1]?.getD default=x:=by simp
  have h0:(r.reverse++b::x::post)[r.length]?.getD default=b:=by simp
  rw[e]
  show cL_ lt _ (r.length+1)=_
  unfold cL_ insR
  rw[h1,h0]
  split
  ·have hs:=aNO r.reverse post b x
   rw[List.length_reverse] at hs
   rw[hs,nC_ x r (b::post)]
   simp
  ·simp
theorem aET:∀(rest r:List α),outN lt (r.reverse++rest) r.length rest.length=(rest.foldl (fun r x=>insR lt x r) r).reverse
 | [],r=>by simp[outN]
 | x::rest,r=>by
  show outN lt (cL_ lt (r.reverse++x::rest) r.length) (r.length+1) rest.length=_
  rw[nC_]
  have hl:(insR lt x r).length=r.length+1:=by
   have:=fL_ lt (r.reverse++x::rest) r.length
   rw[nC_] at this
   simp at this
   omega
  rw[←hl,aET rest (insR lt x r)]
  rfl
theorem pZ_ (a:α) (l:List α):cQ_ lt (a::l)=(l.foldl (fun r x=>insR lt x r) [a]).reverse:=by
 unfold cQ_
 exact aET lt l [a]
omit [Inhabited α] in
theorem nA_ (x:α):∀r:List α,(insR lt x r).Perm (x::r)
 | []=>.refl _
 | b::r=>by
  unfold insR
  split
  ·exact(List.Perm.cons b (nA_ x r)).trans (.swap x b r)
  ·exact .refl _
variable {lt} (hirr:∀x y,lt x y=true→lt y x=false) (hnt:∀x y z,lt x y=false→lt y z=false→lt x z=false)
include hirr hnt
omit [Inhabited α] in
theorem mZ_ (x:α):∀r:List α,r.Pairwise (fun a b=>lt a b=false)→(insR lt x r).Pairwise (fun a b=>lt a b=false)
 | [],_=>by simp[insR]
 | b::r,h=>by
  obtain⟨h1,h2⟩:=List.pairwise_cons.1 h
  unfold insR
  split
  ·rename_i hx
   refine List.pairwise_cons.2 ⟨fun y hy=>?_,mZ_ x r h2⟩
   rcases List.mem_cons.1 ((nA_ lt x r).mem_iff.1 hy) with rfl|hy
   ·exact hirr _ _ hx
   ·exact h1 y hy
  ·rename_i hx
   have hx:lt x b=false:=by simpa using hx
   refine List.pairwise_cons.2 ⟨fun y hy=>?_,h⟩
   rcases List.mem_cons.1 hy with rfl|hy
   ·exact hx
   ·exact hnt _ _ _ hx (h1 y hy)
omit [Inhabited α] in
theorem nH_:∀l r:List α,r.Pairwise (fun a b=>lt a b=false)→(l.foldl (fun r x=>insR lt x r) r).Pairwise (fun a b=>lt a b=false)∧(l.foldl (fun r x=>insR lt x r) r).Perm (l++r)
 | [],r,h=>⟨h,.refl _⟩
 | x::l,r,h=>by
  obtain⟨h1,h2⟩:=nH_ l (insR lt x r) (mZ_ hirr hnt x r h)
  refine⟨h1,h2.trans ?_⟩
  exact((List.Perm.append_left l (nA_ lt x r)).trans List.perm_middle)
theorem kI_ (l:List α):(cQ_ lt l).Pairwise (fun a b=>lt b a=false)∧(cQ_ lt l).Perm l:=by
 cases l with
 | nil=>exact⟨by simp[cQ_,outN],by simp[cQ_,outN]⟩
 | cons a l=>
  rw[pZ_]
  obtain⟨h1,h2⟩:=nH_ hirr hnt l [a] (by simp)
  refine⟨List.pairwise_reverse.2 h1,(List.reverse_perm _).trans (h2.trans ?_)⟩
  exact List.perm_append_comm.trans (.refl _)
end
theorem aFE {a b:Pl} (ha:vP a=true) (hb:vP b=true):ltP a b=true↔kp a<kp b:=by
 unfold vP at ha hb
 simp only[Bool.and_eq_true,decide_eq_true_eq] at ha hb
 unfold ltP kp
 simp only[Bool.or_eq_true,Bool.and_eq_true,decide_eq_true_eq]
 omega
theorem aNB {a b:Pl} (ha:vP a=true) (hb:vP b=true) (h:kp a=kp b):a=b:=by
 unfold vP at ha hb
 simp only[Bool.and_eq_true,decide_eq_true_eq] at ha hb
 unfold kp at h
 have h1:a.x=b.x:=by omega
 have h2:a.y=b.y:=by omega
 cases a
 cases b
 simp only at h1 h2
 rw[h1,h2]
theorem aOT (x y:Pl) (h:ltP x y=true):ltP y x=false:=by
 unfold ltP at *
 simp only[Bool.or_eq_true,Bool.and_eq_true,decide_eq_true_eq,Bool.or_eq_false_iff,Bool.and_eq_false_iff,decide_eq_false_iff_not] at *
 omega
theorem ltP_nt (x y z:Pl) (h:ltP x y=false) (k:ltP y z=false):ltP x z=false:=by
 unfold ltP at *
 simp only[Bool.or_eq_false_iff,Bool.and_eq_false_iff,decide_eq_false_iff_not] at *
 omega
abbrev Asc (l:List Pl):Prop:=l.Pairwise (kp · < kp ·)
theorem gQ_:∀l:List Pl,(∀p∈l,vP p=true)→l.Pairwise (kp ·≤kp ·)→Asc (aD_ l)∧∀q,q∈aD_ l↔q∈l
 | [],_,_=>⟨List.Pairwise.nil,fun _=>Iff.rfl⟩
 | [x],_,_=>⟨by simp[aD_],fun _=>Iff.rfl⟩
 | x::y::l,hv,h=>by
  obtain⟨h1,h2⟩:=List.pairwise_cons.1 h
  obtain⟨k1,k2⟩:=gQ_ (y::l) (fun p hp=>hv p (List.mem_cons_of_mem _ hp)) h2
  unfold aD_
  split
  ·rename_i hxy
   subst hxy
   exact⟨k1,fun q=>(k2 q).trans (by simp)⟩
  ·rename_i hxy
   refine⟨List.pairwise_cons.2 ⟨fun q hq=>?_,k1⟩,fun q=>by rw[List.mem_cons,k2 q];exact List.mem_cons.symm⟩
   have hlt:kp x<kp y:=by
    have:=h1 y (by simp)
    rcases Int.lt_or_eq_of_le this with h|h
    ·exact h
    ·exact absurd (aNB (hv x (by simp)) (hv y (by simp)) h) hxy
   rcases List.mem_cons.1 ((k2 q).1 hq) with rfl|hq
   ·exact hlt
   ·have:=(List.pairwise_cons.1 h2).1 q hq
    omega
def sP (l:List Pl):List Pl:=aD_ (cQ_ ltP l)
theorem eR_ {l:List Pl} (hv:∀p∈l,vP p=true):Asc (sP l)∧∀q,q∈sP l↔q∈l:=by
 obtain⟨h1,h2⟩:=kI_ (lt:=ltP) aOT ltP_nt l
 have hv':∀p∈cQ_ ltP l,vP p=true:=fun p hp=>hv p (h2.mem_iff.1 hp)
 obtain⟨k1,k2⟩:=gQ_ (cQ_ ltP l) hv' (h1.imp_of_mem fun {a b} ha hb hab=>by
  have:¬kp b<kp a:=fun h=>by
   rw[(aFE (hv' b hb) (hv' a ha)).2 h] at hab
   cases hab
  omega)
 exact⟨k1,fun q=>(k2 q).trans h2.mem_iff⟩
theorem lV_:∀l l':List Pl,Asc l→Asc l'→(∀q,q∈l↔q∈l')→l=l'
 | [],[],_,_,_=>rfl
 | [],y::_,_,_,h=>by have:=(h y).2 (by simp);cases this
 | x::_,[],_,_,h=>by have:=(h x).1 (by simp);cases this
 | x::l,y::l',h1,h2,h=>by
  obtain⟨a1,a2⟩:=List.pairwise_cons.1 h1
  obtain⟨b1,b2⟩:=List.pairwise_cons.1 h2
  have hxy:x=y:=by
   rcases List.mem_cons.1 ((h x).1 (by simp)) with e|hx
   ·exact e
   ·rcases List.mem_cons.1 ((h y).2 (by simp)) with e|hy
    ·exact e.symm
    ·have:=a1 y hy
     have:=b1 x hx
     omega
  subst hxy
  rw[lV_ l l' a2 b2 fun q=>⟨fun hq=>by
   rcases List.mem_cons.1 ((h q).1 (List.mem_cons_of_mem _ hq)) with rfl|h'
   ·have:=a1 q hq;omega
   ·exact h',fun hq=>by
   rcases List.mem_cons.1 ((h q).2 (List.mem_cons_of_mem _ hq)) with rfl|h'
   ·have:=b1 q hq;omega
   ·exact h'⟩]
theorem sP_of {l t:List Pl} (hv:∀p∈l,vP p=true) (hm:∀q,q∈t↔q∈l) (hs:t.Pairwise (fun a b=>ltP b a=false)):aD_ t=sP l:=by
 have hv':∀p∈t,vP p=true:=fun p hp=>hv p ((hm p).1 hp)
 obtain⟨k1,k2⟩:=gQ_ t hv' (hs.imp_of_mem fun {a b} ha hb hab=>by
  have:¬kp b<kp a:=fun h=>by
   rw[(aFE (hv' b hb) (hv' a ha)).2 h] at hab
   cases hab
  omega)
 obtain⟨j1,j2⟩:=eR_ hv
 exact lV_ _ _ k1 j1 fun q=>((k2 q).trans (hm q)).trans (j2 q).symm
theorem zE_ {l:List Pl} (hv:∀p∈l,vP p=true) (h:Asc l):sP l=l:=by
 obtain⟨j1,j2⟩:=eR_ hv
 exact lV_ _ _ j1 h j2
theorem dF_ (l:List Pl):aO_ l=if (sP l).length<3 then sP l else (bF_ aI_ (sP l)).dropLast++(bF_ aI_ (sP l).reverse).dropLast:=rfl
theorem aFW {l:List Pl} (h:2≤(sP l).length):aO_ l=(bF_ aI_ (sP l)).dropLast++(bF_ aI_ (sP l).reverse).dropLast:=by
 rw[dF_]
 by_cases h3:(sP l).length<3
 ·rw[if_pos h3]
  match hs:sP l,h,h3 with
  | [],h,_=>simp at h
  | [_],h,_=>simp at h
  | [a,b],_,_=>rfl
  | _::_::_::_,_,h=>simp at h;omega
 ·rw[if_neg h3]
end Go.Proofs.YtlikmmpmnaaifaaGreatDoor
namespace Go.Proofs.YtlikmmpmnaaifaaGreatDoor
theorem zH_:∀{s:List Pl} {m:Pl},Asc s→s.head?=some m→∀p∈s,kp m≤kp p
 | x::s,m,h,hm,p,hp=>by
  cases hm
  rcases List.mem_cons.1 hp with rfl|hp
  ·exact Int.le_refl _
  ·exact Int.le_of_lt ((List.pairwise_cons.1 h).1 p hp)
theorem rO_ {s:List Pl} {m:Pl} (h:Asc s) (hm:s.getLast?=some m):∀p∈s,kp p≤kp m:=by
 rcases List.eq_nil_or_concat s with rfl|⟨k,x,rfl⟩
 ·cases hm
 ·rw[List.concat_eq_append,List.getLast?_append] at hm
  cases hm
  intro p hp
  rw[List.concat_eq_append] at hp h
  rcases List.mem_append.1 hp with hp|hp
  ·exact Int.le_of_lt ((List.pairwise_append.1 h).2.2 p hp _ (by simp))
  ·rw[List.mem_singleton.1 hp];exact Int.le_refl _
theorem lR_:∀(r:List Pl) (c:Pl),c∈r→r.getLast?≠some c→∃a,(a,c)∈edR r
 | [],_,h,_=>by cases h
 | [x],c,h,hl=>by
  rcases List.mem_cons.1 h with rfl|h
  ·exact absurd rfl hl
  ·cases h
 | b::a::l,c,h,hl=>by
  rcases List.mem_cons.1 h with rfl|h
  ·exact⟨a,by simp[edR]⟩
  ·rw[List.getLast?_cons_cons] at hl
   obtain⟨d,hd⟩:=lR_ (a::l) c h hl
   exact⟨d,by simp[edR,hd]⟩
theorem zG_ {s:List Pl} (h:Asc s):Asc (s.map ngP).reverse:=by
 refine List.pairwise_reverse.2 (List.pairwise_map.2 (h.imp ?_))
 intro a b hab
 rw[oD_,oD_]
 omega
theorem iX_ (s:List Pl):(s.map ngP).map ngP=s:=by
 rw[List.map_map]
 conv=>rhs;rw[←List.map_id s]
 exact List.map_congr_left fun p _=>hZ_ p
structure Pair (r r' s:List Pl):Prop where
 asc:Asc s
 one:ChainOf r s
 two:ChainOf (r'.map ngP) (s.map ngP).reverse
theorem aEM {s:List Pl} (h:Asc s):Pair (aU_ aI_ s) (aU_ aI_ s.reverse) s:=by
 refine⟨h,rJ_ s h,?_⟩
 rw[←uF_,List.map_reverse]
 exact rJ_ _ (zG_ h)
theorem Pair.sym {r r' s:List Pl} (h:Pair r r' s):Pair (r'.map ngP) (r.map ngP) (s.map ngP).reverse:=by
 refine⟨zG_ h.asc,h.two,?_⟩
 rw[iX_,List.map_reverse,iX_,List.reverse_reverse]
 exact h.one
theorem xD_ {r':List Pl} {e:Pl×Pl} (he:e∈edR r'):(ngP e.1,ngP e.2)∈edR (r'.map ngP):=by
 rw[aGV]
 exact List.mem_map_of_mem he
section
variable {r r' s:List Pl} (h:Pair r r' s)
include h
theorem Pair.up_lt {e:Pl×Pl} (he:e∈edR r'):kp e.2<kp e.1:=by
 have:=pD_ _ h.two.desc _ (xD_ he)
 simp only[oD_] at this
 omega
theorem Pair.up_dom {e:Pl×Pl} (he:e∈edR r') {p:Pl} (hp:p∈s):0<aB_ e.1 e.2 p∨(aB_ e.1 e.2 p=0∧kp e.2≤kp p∧kp p≤kp e.1):=by
 have:=h.two.dom _ (xD_ he) (ngP p) (List.mem_reverse.2 (List.mem_map_of_mem hp))
 simp only[oD_,pW_] at this
 omega
theorem Pair.up_sub {q:Pl} (hq:q∈r'):q∈s:=by
 have:=List.mem_reverse.1 (h.two.sub (ngP q) (List.mem_map_of_mem hq))
 obtain⟨p,hp,e⟩:=List.mem_map.1 this
 have e2:=congrArg ngP e
 rw[hZ_,hZ_] at e2
 rwa[←e2]
theorem Pair.up_good {e:Pl×Pl} (he:e∈edR r') {c:Pl} (hc:c∈r'):c=e.1∨c=e.2∨0<aB_ e.1 e.2 c:=by
 have:=dY_ _ h.two.good _ (xD_ he) (ngP c) (List.mem_map_of_mem hc)
 simp only[pW_] at this
 rcases this with q|q|q
 ·exact .inl (by rw[←hZ_ c,q,hZ_])
 ·exact .inr (.inl (by rw[←hZ_ c,q,hZ_]))
 ·exact .inr (.inr q)
theorem Pair.up_head:r'.head?=s.head?:=by
 have:=h.two.head
 rw[List.getLast?_reverse,List.head?_map,List.head?_map] at this
 cases hr:r'.head? <;> cases hs:s.head? <;> rw[hr,hs] at this <;> simp at this⊢
 have:=congrArg ngP this
 rwa[hZ_,hZ_] at this
theorem Pair.up_last:r'.getLast?=s.getLast?:=by
 have:=h.two.last
 rw[List.head?_reverse,List.getLast?_map,List.getLast?_map] at this
 cases hr:r'.getLast? <;> cases hs:s.getLast? <;> rw[hr,hs] at this <;> simp at this⊢
 have:=congrArg ngP this
 rwa[hZ_,hZ_] at this
theorem Pair.cross (hv:∀p∈s,∀q∈s,kp p=kp q→p=q) {e:Pl×Pl} (he:e∈edR r) {c:Pl} (hc:c∈r'):c=e.1∨c=e.2∨0<aB_ e.1 e.2 c:=by
 have hcs:=h.up_sub hc
 have hm:=nI_ r e he
 have m1:=h.one.sub _ hm.1
 have m2:=h.one.sub _ hm.2
 rcases h.one.dom e he c hcs with k|⟨k,k1,k2⟩
 ·exact .inr (.inr k)
 ·by_cases e1:c=e.1
  ·exact .inl e1
  by_cases e2:c=e.2
  ·exact .inr (.inl e2)
  exfalso
  have n1:kp e.1≠kp c:=fun x=>e1 (hv _ m1 _ hcs x).symm
  have n2:kp c≠kp e.2:=fun x=>e2 (hv _ hcs _ m2 x)
  have hl:r'.getLast?≠some c:=fun x=>by
   rw[h.up_last] at x
   have:=rO_ h.asc x _ m2
   omega
  obtain⟨a,ha⟩:=lR_ r' c hc hl
  have q1:=h.up_dom ha m1
  have q2:=h.up_dom ha m2
  have q3:=h.up_lt ha
  simp only at q1 q2 q3
  have id:=hR_ a c e.1 e.2 c
  rw[iF_,k] at id
  have p1:=Int.mul_pos (show 0<kp e.2-kp c by omega) (show 0<aB_ a c e.1 by omega)
  have p2:=Int.mul_nonneg (show 0≤kp c-kp e.1 by omega) (show 0≤aB_ a c e.2 by omega)
  omega
theorem Pair.apart {c:Pl} (hc:c∈r) (hc':c∈r') (h1:r.getLast?≠some c) (h2:r'.getLast?≠some c):False:=by
 obtain⟨a,ha⟩:=lR_ r c hc h1
 obtain⟨b,hb⟩:=lR_ r' c hc' h2
 have k1:=h.one.dom _ ha b (h.up_sub (nI_ r' _ hb).1)
 have k2:=h.up_dom hb (h.one.sub _ (nI_ r _ ha).1)
 have k3:=h.up_lt hb
 have k4:=pD_ _ h.one.desc _ ha
 simp only at k1 k2 k3 k4
 have e:aB_ b c a = -aB_ a c b:=by unfold aB_;grind
 omega
end
theorem Pair.cross2 {r r' s:List Pl} (h:Pair r r' s) (hv:∀p∈s,∀q∈s,kp p=kp q→p=q) {e:Pl×Pl} (he:e∈edR r') {c:Pl} (hc:c∈r):c=e.1∨c=e.2∨0<aB_ e.1 e.2 c:=by
 have:=h.sym.cross (fun p hp q hq hk=>by
  obtain⟨p',hp',rfl⟩:=List.mem_map.1 (List.mem_reverse.1 hp)
  obtain⟨q',hq',rfl⟩:=List.mem_map.1 (List.mem_reverse.1 hq)
  rw[oD_,oD_] at hk
  rw[hv p' hp' q' hq' (by omega)]) (xD_ he) (List.mem_map_of_mem hc)
 simp only[pW_] at this
 rcases this with q|q|q
 ·exact .inl (by rw[←hZ_ c,q,hZ_])
 ·exact .inr (.inl (by rw[←hZ_ c,q,hZ_]))
 ·exact .inr (.inr q)
def edF:List Pl→List (Pl×Pl)
 | a::b::l=>(a,b)::edF (b::l)
 | _=>[]
theorem aGW (y:Pl):∀(t:List Pl) (x:Pl),edF (x::(t++[y]))=(x::t).zip (t++[y])
 | [],_=>rfl
 | z::t,x=>by
  show(x,z)::edF (z::(t++[y]))=_
  rw[aGW y t z]
  rfl
theorem yX_ (x:Pl) (t:List Pl):aC_ (x::t)=edF (x::(t++[x])):=by
 rw[aGW]
 rfl
theorem jX_ (b:Pl) (C:List Pl):∀A:List Pl,edF (A++b::C)=edF (A++[b])++edF (b::C)
 | []=>rfl
 | [a]=>rfl
 | a::a'::A=>by
  show(a,a')::edF ((a'::A)++b::C)=(a,a')::edF ((a'::A)++[b])++_
  rw[jX_ b C (a'::A)]
  rfl
theorem vY_:∀(r:List Pl) (e:Pl×Pl),e∈edF r.reverse↔e∈edR r
 | [],_=>Iff.rfl
 | [_],_=>Iff.rfl
 | b::a::l,e=>by
  have e1:(b::a::l).reverse=l.reverse++a::[b]:=by simp
  rw[e1,jX_,List.mem_append]
  have e2:l.reverse++[a]=(a::l).reverse:=by simp
  rw[e2,vY_ (a::l) e]
  show e∈edR (a::l)∨e∈[(a,b)]↔e∈(a,b)::edR (a::l)
  simp only[List.mem_cons,List.not_mem_nil,or_false]
  exact Or.comm
theorem tF_ {l:List Pl} (h:l.Nodup):l.reverse.Nodup:=List.pairwise_reverse.2 (h.imp fun hne e=>hne e.symm)
structure HullOf (h s:List Pl):Prop where
 sub:∀q∈h,q∈s
 nodup:h.Nodup
 head:h.head?=s.head?
 edge:∀e∈aC_ h,∀p∈s,0<aB_ e.1 e.2 p∨(aB_ e.1 e.2 p=0∧min (kp e.1) (kp e.2)≤kp p∧kp p≤max (kp e.1) (kp e.2))
 vert:∀e∈aC_ h,∀c∈h,c=e.1∨c=e.2∨0<aB_ e.1 e.2 c
theorem jY_:∀r:List Pl,hH_ r→r.Nodup
 | [],_=>List.nodup_nil
 | x::l,h=>List.nodup_cons.2 ⟨fun hx=>by have:=eZ_ l x h x hx;omega,jY_ l (jZ_ h)⟩
theorem oP_ {r r' s:List Pl} (h:Pair r r' s) (h2:2≤s.length):∃lo hi t t',r=hi::t∧r'=lo::t'∧s.head?=some lo∧s.getLast?=some hi∧kp lo<kp hi∧t.getLast?=some lo∧t'.getLast?=some hi:=by
 obtain⟨lo,s',hs⟩:∃lo s',s=lo::s':=by
  cases s with
  | nil=>simp at h2
  | cons lo s'=>exact⟨lo,s',rfl⟩
 obtain⟨hi,hhi⟩:∃hi,s.getLast?=some hi:=by
  rw[hs]
  exact⟨_,List.getLast?_cons⟩
 have hlo:s.head?=some lo:=by rw[hs];rfl
 have hne:kp lo<kp hi:=by
  have hs2:s'≠[]:=by rintro rfl;rw[hs] at h2;simp at h2
  have hm:hi∈s':=by
   rw[hs] at hhi
   cases s' with
   | nil=>exact absurd rfl hs2
   | cons a s'=>rw[List.getLast?_cons_cons] at hhi;exact List.mem_of_getLast? hhi
  have:=h.asc
  rw[hs] at this
  exact(List.pairwise_cons.1 this).1 hi hm
 have hd:=h.one.head
 have hl:=h.one.last
 have ud:=h.up_head
 have ul:=h.up_last
 rw[hhi] at hd
 rw[hlo] at hl
 rw[hlo] at ud
 rw[hhi] at ul
 cases r with
 | nil=>cases hd
 | cons a t=>
  cases hd
  cases r' with
  | nil=>cases ud
  | cons b t'=>
   cases ud
   refine⟨lo,hi,t,t',rfl,rfl,hlo,hhi,hne,?_,?_⟩
   ·cases t with
    | nil=>simp at hl;rw[hl] at hne;omega
    | cons c t=>rw[List.getLast?_cons_cons] at hl;exact hl
   ·cases t' with
    | nil=>simp at ul;rw[ul] at hne;omega
    | cons c t'=>rw[List.getLast?_cons_cons] at ul;exact ul
theorem tQ_ {r r' s:List Pl} (h:Pair r r' s) (h2:2≤s.length) (hv:∀p∈s,∀q∈s,kp p=kp q→p=q):HullOf (r.reverse.dropLast++r'.reverse.dropLast) s∧(∀e∈aC_ (r.reverse.dropLast++r'.reverse.dropLast),e∈edR r∨e∈edR r')∧∀q,q∈r.reverse.dropLast++r'.reverse.dropLast↔q∈r∨q∈r':=by
 obtain⟨lo,hi,t,t',e1,e2,hlo,hhi,hne,ht,ht'⟩:=oP_ h h2
 have hr:r.reverse.dropLast=t.reverse:=by rw[e1,List.reverse_cons,List.dropLast_concat]
 have hr':r'.reverse.dropLast=t'.reverse:=by rw[e2,List.reverse_cons,List.dropLast_concat]
 rw[hr,hr']
 have hth:t.reverse.head?=some lo:=by rw[List.head?_reverse,ht]
 have hth':t'.reverse.head?=some hi:=by rw[List.head?_reverse,ht']
 obtain⟨T,hT⟩:∃T,t.reverse=lo::T:=by
  cases hh:t.reverse with
  | nil=>rw[hh] at hth;cases hth
  | cons a T=>rw[hh] at hth;cases hth;exact⟨T,rfl⟩
 obtain⟨T',hT'⟩:∃T',t'.reverse=hi::T':=by
  cases hh:t'.reverse with
  | nil=>rw[hh] at hth';cases hth'
  | cons a T=>rw[hh] at hth';cases hth';exact⟨T,rfl⟩
 have hmem:∀q,q∈t.reverse++t'.reverse↔q∈r∨q∈r':=by
  intro q
  have hl:lo∈t:=List.mem_of_getLast? ht
  have hh:hi∈t':=List.mem_of_getLast? ht'
  rw[e1,e2,List.mem_append,List.mem_reverse,List.mem_reverse,List.mem_cons,List.mem_cons]
  constructor
  ·rintro(k|k)
   ·exact .inl (.inr k)
   ·exact .inr (.inr k)
  ·rintro((rfl|k)|(rfl|k))
   ·exact .inr hh
   ·exact .inl k
   ·exact .inl hl
   ·exact .inr k
 have hed:∀e∈aC_ (t.reverse++t'.reverse),e∈edR r∨e∈edR r':=by
  intro e he
  have x1:aC_ (t.reverse++t'.reverse)=edF ((t.reverse++t'.reverse)++[lo]):=by
   rw[hT,List.cons_append,yX_]
   rfl
  have x2:(t.reverse++t'.reverse)++[lo]=t.reverse++hi::(T'++[lo]):=by rw[hT'];simp
  have x3:t.reverse++[hi]=r.reverse:=by rw[e1,List.reverse_cons]
  have x4:hi::(T'++[lo])=r'.reverse:=by rw[e2,List.reverse_cons,hT'];rfl
  rw[x1,x2,jX_,x3,x4,List.mem_append,vY_,vY_] at he
  exact he
 refine⟨⟨fun q hq=>?_,?_,by rw[hT,hlo];rfl,fun e he p hp=>?_,fun e he c hc=>?_⟩,hed,hmem⟩
 ·rcases(hmem q).1 hq with k|k
  ·exact h.one.sub q k
  ·exact h.up_sub k
 ·have d1:=h.one.desc
  have d2:=h.two.desc
  rw[e1] at d1
  rw[e2] at d2
  refine List.nodup_append.2 ⟨tF_ (jY_ _ (jZ_ d1)),tF_ ?_,fun a ha b hb hab=>?_⟩
  ·have:=jY_ _ (jZ_ d2)
   exact List.Pairwise.of_map ngP (fun a b k e=>k (by rw[e])) this
  ·subst hab
   have m1:=List.mem_reverse.1 ha
   have m2:=List.mem_reverse.1 hb
   have k1:=eZ_ _ _ d1 a m1
   have k2:=eZ_ _ _ d2 (ngP a) (List.mem_map_of_mem m2)
   rw[oD_,oD_] at k2
   refine h.apart (c:=a) (by rw[e1];exact List.mem_cons_of_mem _ m1) (by rw[e2];exact List.mem_cons_of_mem _ m2) ?_ ?_
   ·rw[h.one.last,hlo]
    intro e
    cases e
    omega
   ·rw[h.up_last,hhi]
    intro e
    cases e
    omega
 ·rcases hed e he with k|k
  ·have:=h.one.dom e k p hp
   omega
  ·have:=h.up_dom k hp
   omega
 ·rcases hed e he with k|k <;> rcases(hmem c).1 hc with m|m
  ·exact dY_ _ h.one.good e k c m
  ·exact h.cross hv k m
  ·exact h.cross2 hv k m
  ·exact h.up_good k m
end Go.Proofs.YtlikmmpmnaaifaaGreatDoor
namespace Go.Proofs.YtlikmmpmnaaifaaGreatDoor
def phi (u v:Rat):Rat:=if 0≤u then (if 0≤v then (u+v)/2 else u*u/(2*(u-v))) else (if 0≤v then v*v/(2*(v-u)) else 0)
theorem nK_ {a b c:Rat} (hb:0<b) (h:a≤c*b):a/b≤c:=by
 rw[←Rat.not_lt,Rat.lt_div_iff hb,Rat.not_lt];exact h
theorem iY_ {a b c:Rat} (hb:0<b) (h:c*b≤a):c≤a/b:=by
 rw[←Rat.not_lt,Rat.div_lt_iff hb,Rat.not_lt];exact h
theorem fP_ {a b c d:Rat} (hb:0<b) (hd:0<d) (h:a*d≤c*b):a/b≤c/d:=by
 refine nK_ hb ?_
 have e:c/d*b=(c*b)/d:=by grind
 rw[e]
 exact iY_ hd h
theorem lM_ (u v:Rat):phi u v=phi v u:=by
 unfold phi
 split <;> split <;> first|rfl|grind
theorem qH_ {u u':Rat} (v:Rat) (h:u≤u'):phi u v≤phi u' v:=by
 unfold phi
 by_cases hv:0≤v
 ·simp only[hv,if_true]
  by_cases hu:0≤u
  ·have hu':0≤u':=by grind
   rw[if_pos hu,if_pos hu']
   grind
  ·rw[if_neg hu]
   by_cases hu':0≤u'
   ·rw[if_pos hu']
    refine nK_ (by grind) ?_
    have:=Rat.mul_nonneg hv (show 0≤-u by grind)
    have:=Rat.mul_nonneg hu' (show 0≤v-u by grind)
    grind
   ·rw[if_neg hu']
    refine fP_ (by grind) (by grind) ?_
    have:=Rat.mul_nonneg (Rat.mul_nonneg hv hv) (show 0≤u'-u by grind)
    grind
 ·simp only[hv,if_false]
  by_cases hu':0≤u'
  ·rw[if_pos hu']
   by_cases hu:0≤u
   ·rw[if_pos hu]
    refine fP_ (by grind) (by grind) ?_
    have p1:=Rat.mul_nonneg (Rat.mul_nonneg hu hu') (show 0≤u'-u by grind)
    have p2:=Rat.mul_nonneg (Rat.mul_nonneg (show 0≤u'-u by grind) (show 0≤u'+u by grind)) (show 0≤-v by grind)
    grind
   ·rw[if_neg hu]
    refine iY_ (by grind) ?_
    have:=Rat.mul_nonneg hu' hu'
    grind
  ·have hu:¬0≤u:=by grind
   rw[if_neg hu,if_neg hu']
   exact Rat.le_refl
theorem mN_ (u v:Rat):phi u v=(u+v)/2+phi (-u) (-v):=by
 unfold phi
 by_cases hu:0≤u <;> by_cases hv:0≤v <;> by_cases hu':0≤-u <;> by_cases hv':0≤-v <;> simp only[hu,hv,hu',hv',if_true,if_false] <;> grind
theorem fI_ {u v:Rat} (hu:0≤u) (hv:0≤v):phi u v=(u+v)/2:=by unfold phi;rw[if_pos hu,if_pos hv]
theorem cG_ {u v:Rat} (hu:u≤0) (hv:v≤0):phi u v=0:=by
 rw[mN_,fI_ (by grind) (by grind)];grind
theorem nM_ {d k x:Rat} (hd:d≠0):d*(x/(2*(k*d)))=x/(2*k):=by
 by_cases hk:k=0
 ·subst hk;grind
 ·grind
theorem yG_ {p q L M R:Rat} (h1:L≤M) (h2:M≤R):(R-L)*phi (p+q*L) (p+q*R)=(M-L)*phi (p+q*L) (p+q*M)+(R-M)*phi (p+q*M) (p+q*R):=by
 by_cases e1:L=M
 ·subst e1;grind
 by_cases e2:M=R
 ·subst e2;grind
 have l1:0<M-L:=by grind
 have l2:0<R-M:=by grind
 have l3:0<R-L:=by grind
 have n1:M-L≠0:=by grind
 have n2:R-M≠0:=by grind
 have n3:R-L≠0:=by grind
 have d1:p+q*L-(p+q*R) = -q*(R-L):=by grind
 have d2:p+q*M-(p+q*R) = -q*(R-M):=by grind
 have d3:p+q*L-(p+q*M) = -q*(M-L):=by grind
 have d4:p+q*R-(p+q*L)=q*(R-L):=by grind
 have d5:p+q*R-(p+q*M)=q*(R-M):=by grind
 have d6:p+q*M-(p+q*L)=q*(M-L):=by grind
 have c1:∀k x:Rat,(R-L)*(x/(2*(k*(R-L))))=x/(2*k):=fun k x=>nM_ n3
 have c2:∀k x:Rat,(R-M)*(x/(2*(k*(R-M))))=x/(2*k):=fun k x=>nM_ n2
 have c3:∀k x:Rat,(M-L)*(x/(2*(k*(M-L))))=x/(2*k):=fun k x=>nM_ n1
 have q1:q*(M-L)=(p+q*M)-(p+q*L):=by grind
 have q2:q*(R-M)=(p+q*R)-(p+q*M):=by grind
 have qm:0<q→0<q*(M-L)∧0<q*(R-M):=fun h=>⟨Rat.mul_pos h l1,Rat.mul_pos h l2⟩
 have qn:q<0→q*(M-L)<0∧q*(R-M)<0:=fun h=>by
  have:=Rat.mul_pos (show 0 < -q by grind) l1
  have:=Rat.mul_pos (show 0 < -q by grind) l2
  grind
 have qz:q=0→p+q*L=p∧p+q*M=p∧p+q*R=p:=fun h=>by subst h;grind
 unfold phi
 by_cases hu:0≤p+q*L <;> by_cases hw:0≤p+q*M <;> by_cases hv:0≤p+q*R <;> simp only[hu,hw,hv,if_true,if_false]
 ·grind
 ·have hq:q≠0:=by grind
  rw[d1,d2,c1,c2]
  grind
 ·exfalso
  rcases Rat.le_total (a:=q) (b:=0) with k|k <;> by_cases h0:q=0 <;> grind
 ·have hq:q≠0:=by grind
  rw[d1,d3,c1,c3]
  grind
 ·have hq:q≠0:=by grind
  rw[d4,d6,c1,c3]
  grind
 ·exfalso
  rcases Rat.le_total (a:=q) (b:=0) with k|k <;> by_cases h0:q=0 <;> grind
 ·have hq:q≠0:=by grind
  rw[d4,d5,c1,c2]
  grind
 ·grind
def psi (H u v:Rat):Rat:=phi u v-phi (u-H) (v-H)
theorem qD_ (H u v:Rat):psi H u v=psi H v u:=by unfold psi;rw[lM_,lM_ (u-H)]
theorem iQ_ (H u v:Rat):psi H u v=H-psi H (H-u) (H-v):=by
 unfold psi
 have h1:=mN_ u v
 have h2:=mN_ (u-H) (v-H)
 have e1:H-u-H = -u:=by grind
 have e2:H-v-H = -v:=by grind
 have e3 : -(u-H)=H-u:=by grind
 have e4 : -(v-H)=H-v:=by grind
 rw[e3,e4] at h2
 rw[e1,e2]
 grind
theorem aDY {H u u' v:Rat} (hv:v≤H) (h:u≤u') (hu:u'≤H):psi H u v≤psi H u' v:=by
 unfold psi
 rw[cG_ (u:=u-H) (v:=v-H) (by grind) (by grind),cG_ (u:=u'-H) (v:=v-H) (by grind) (by grind)]
 have:=qH_ v h
 grind
theorem yB_ {H u u' v:Rat} (hv:0≤v) (h:u≤u') (hu:0≤u):psi H u v≤psi H u' v:=by
 have:=aDY (H:=H) (u:=H-u') (u':=H-u) (v:=H-v) (by grind) (by grind) (by grind)
 rw[iQ_ H u v,iQ_ H u' v]
 grind
theorem aDX {H u v:Rat} (hH:0≤H) (hv:v≤0) (hu:H≤u) (hne:v<u):psi H u v=H*(2*u-H)/(2*(u-v)):=by
 unfold psi phi
 by_cases v0:v=0
 ·subst v0
  rw[if_pos (by grind),if_pos (by grind),if_pos (by grind)]
  by_cases h0:H=0
  ·rw[if_pos (by grind)];grind
  ·rw[if_neg (by grind)];grind
 ·rw[if_pos (by grind),if_neg (by grind),if_pos (by grind),if_neg (by grind)]
  have e:u-H-(v-H)=u-v:=by grind
  rw[e]
  grind
theorem aOH {H u u' v:Rat} (hH:0≤H) (hv:v≤0) (hu:H≤u) (h:u≤u'):psi H u v≤psi H u' v:=by
 by_cases hne:v<u
 ·rw[aDX hH hv hu hne,aDX hH hv (by grind) (by grind)]
  refine fP_ (by grind) (by grind) ?_
  have p1:=Rat.mul_nonneg (Rat.mul_nonneg hH (show 0≤u'-u by grind)) (show 0≤H-2*v by grind)
  grind
 ·have hu0:u=0:=by grind
  have hv0:v=0:=by grind
  have h0:H=0:=by grind
  subst hu0 hv0 h0
  unfold psi
  have e1:(0:Rat)-0=0:=by grind
  have e2:u'-0=u':=by grind
  rw[e1,e2]
  grind
theorem aMX {H u u' v:Rat} (hH:0≤H) (hv:H≤v) (hu:u'≤0) (h:u≤u'):psi H u v≤psi H u' v:=by
 have:=aOH (H:=H) (u:=H-u') (u':=H-u) (v:=H-v) hH (by grind) (by grind) (by grind)
 rw[iQ_ H u v,iQ_ H u' v]
 grind
theorem sV_ {H u u':Rat} (v:Rat) (hH:0≤H) (h:u≤u'):psi H u v≤psi H u' v:=by
 by_cases v0:v≤0
 ·by_cases h1:u'≤H
  ·exact aDY (by grind) h h1
  ·by_cases h2:H≤u
   ·exact aOH hH v0 h2 h
   ·exact Rat.le_trans (aDY (by grind) (by grind) Rat.le_refl) (aOH hH v0 Rat.le_refl (by grind))
 ·by_cases v1:H≤v
  ·by_cases h1:0≤u
   ·exact yB_ (by grind) h h1
   ·by_cases h2:u'≤0
    ·exact aMX hH v1 h2 h
    ·exact Rat.le_trans (aMX hH v1 Rat.le_refl (by grind)) (yB_ (by grind) (by grind) Rat.le_refl)
  ·by_cases h1:0≤u
   ·exact yB_ (by grind) h h1
   ·by_cases h2:u'≤H
    ·exact aDY (by grind) h h2
    ·exact Rat.le_trans (aDY (u':=H) (by grind) (by grind) Rat.le_refl) (yB_ (by grind) (by grind) hH)
theorem xZ_ {H u u' v v':Rat} (hH:0≤H) (h:u≤u') (k:v≤v'):psi H u v≤psi H u' v':=by
 refine Rat.le_trans (sV_ v hH h) ?_
 rw[qD_,qD_ H u' v']
 exact sV_ u' hH k
theorem jO_ {H:Rat} (u v:Rat) (hH:0≤H):0≤psi H u v:=by
 have h1:psi H (-(if 0≤u then u else -u)) (-(if 0≤v then v else -v))=0:=by
  unfold psi
  rw[cG_ (by grind) (by grind),cG_ (by grind) (by grind)]
  grind
 rw[←h1]
 exact xZ_ hH (by grind) (by grind)
theorem aMW {H:Rat} (u v:Rat) (hH:0≤H):psi H u v≤H:=by
 rw[iQ_]
 have:=jO_ (H-u) (H-v) hH
 grind
theorem aOG {H u u' v v':Rat} (h:u≤u') (k:v≤v'):psi H u' v'-psi H u v≤(u'-u+(v'-v))/2:=by
 have m:∀{a a' b b':Rat},a≤a'→b≤b'→phi a b≤phi a' b':=fun {a a' b b'} h k=>by
  refine Rat.le_trans (qH_ b h) ?_
  rw[lM_,lM_ a' b']
  exact qH_ a' k
 have e1:=mN_ u v
 have e2:=mN_ u' v'
 have m1:=m (show u-H≤u'-H by grind) (show v-H≤v'-H by grind)
 have m2:=m (show -u'≤-u by grind) (show -v'≤-v by grind)
 unfold psi
 grind
theorem aOI (H K u v:Rat):psi (H+K) u v=psi H u v+psi K (u-H) (v-H):=by
 unfold psi
 have e1:u-(H+K)=u-H-K:=by grind
 have e2:v-(H+K)=v-H-K:=by grind
 rw[e1,e2]
 grind
def arS (H p q L R:Rat):Rat:=(R-L)*psi H (p+q*L) (p+q*R)
theorem bH_ (H p q L R:Rat):arS H p q R L = -arS H p q L R:=by
 unfold arS
 rw[qD_]
 grind
theorem gT_ {H p q L M R:Rat} (h1:L≤M) (h2:M≤R):arS H p q L R=arS H p q L M+arS H p q M R:=by
 unfold arS psi
 have e1:=yG_ (p:=p) (q:=q) h1 h2
 have e2:=yG_ (p:=p-H) (q:=q) h1 h2
 have f:∀x,p-H+q*x=p+q*x-H:=fun x=>by grind
 rw[f,f,f] at e2
 grind
theorem rP_ (H p q L M R:Rat):arS H p q L R=arS H p q L M+arS H p q M R:=by
 rcases Rat.le_total (a:=L) (b:=M) with a|a <;> rcases Rat.le_total (a:=M) (b:=R) with b|b <;> rcases Rat.le_total (a:=L) (b:=R) with c|c
 ·exact gT_ a b
 ·have:=gT_ (H:=H) (p:=p) (q:=q) a b;exact this
 ·have:=gT_ (H:=H) (p:=p) (q:=q) c b
  rw[bH_ H p q R M]
  grind
 ·have:=gT_ (H:=H) (p:=p) (q:=q) c a
  rw[bH_ H p q R M,bH_ H p q R L]
  have x:=bH_ H p q R M
  grind
 ·have:=gT_ (H:=H) (p:=p) (q:=q) a c
  rw[bH_ H p q M L]
  grind
 ·have:=gT_ (H:=H) (p:=p) (q:=q) b c
  rw[bH_ H p q M L,bH_ H p q R L]
  grind
 ·have:=gT_ (H:=H) (p:=p) (q:=q) b a
  have x1:=bH_ H p q R L
  have x2:=bH_ H p q R M
  have x3:=bH_ H p q M L
  grind
 ·have:=gT_ (H:=H) (p:=p) (q:=q) b a
  have x1:=bH_ H p q R L
  have x2:=bH_ H p q R M
  have x3:=bH_ H p q M L
  grind
theorem aQ_ (H p q L:Rat):arS H p q L L=0:=by unfold arS;grind
theorem aIJ {H p q p' q' A B L R:Rat} (hH:0≤H) (hA:p+q*A≤p'+q'*A) (hB:p+q*B≤p'+q'*B) (h1:A≤L) (h2:L≤R) (h3:R≤B) :
  0≤arS H p' q' L R-arS H p q L R∧arS H p' q' L R-arS H p q L R≤(B-A)*((p'+q'*A-(p+q*A))+(p'+q'*B-(p+q*B)))/2:=by
 by_cases hAB:A=B
 ·have e1:L=A:=by grind
  have e2:R=A:=by grind
  rw[e1,e2,aQ_,aQ_,←hAB]
  grind
 have d:∀x,A≤x→x≤B→0≤(p'+q'*x)-(p+q*x):=fun x a b=>by
  have m1:=Rat.mul_nonneg (show 0≤B-x by grind) (show 0≤(p'+q'*A)-(p+q*A) by grind)
  have m2:=Rat.mul_nonneg (show 0≤x-A by grind) (show 0≤(p'+q'*B)-(p+q*B) by grind)
  have e:(B-A)*((p'+q'*x)-(p+q*x))=(B-x)*((p'+q'*A)-(p+q*A))+(x-A)*((p'+q'*B)-(p+q*B)):=by grind
  exact Rat.le_of_mul_le_mul_left (c:=B-A) (by grind) (by grind)
 have dL:=d L h1 (by grind)
 have dR:=d R (by grind) h3
 have dA:=d A (by grind) (by grind)
 have dB:=d B (by grind) (by grind)
 have m1:=xZ_ (H:=H) (u:=p+q*L) (u':=p'+q'*L) (v:=p+q*R) (v':=p'+q'*R) hH (by grind) (by grind)
 have m2:=aOG (H:=H) (u:=p+q*L) (u':=p'+q'*L) (v:=p+q*R) (v':=p'+q'*R) (by grind) (by grind)
 have k1:=Rat.mul_nonneg (show 0≤R-L by grind) (show 0≤psi H (p'+q'*L) (p'+q'*R)-psi H (p+q*L) (p+q*R) by grind)
 have k2:=Rat.mul_nonneg (show 0≤R-L by grind) (show 0≤(p'+q'*L-(p+q*L)+(p'+q'*R-(p+q*R)))/2-(psi H (p'+q'*L) (p'+q'*R)-psi H (p+q*L) (p+q*R)) by grind)
 have k3:=Rat.mul_nonneg (show 0≤L-A by grind) (show 0≤(p'+q'*A-(p+q*A))+(p'+q'*L-(p+q*L)) by grind)
 have k4:=Rat.mul_nonneg (show 0≤B-R by grind) (show 0≤(p'+q'*B-(p+q*B))+(p'+q'*R-(p+q*R)) by grind)
 unfold arS
 generalize psi H (p'+q'*L) (p'+q'*R)=P' at *
 generalize psi H (p+q*L) (p+q*R)=P at *
 clear m1 m2 d hA hB
 constructor
 ·grind
 ·grind
def slQ (a b:Pl):Rat:=((b.y:Rat)-a.y)/((b.x:Rat)-a.x)
def icQ (a b:Pl) (Y:Int):Rat:=(a.y:Rat)-Y-slQ a b*a.x
theorem oU_ (a b:Pl) (Y:Int):icQ a b Y+slQ a b*a.x=(a.y:Rat)-Y:=by unfold icQ;grind
theorem nW_ {a b:Int} (h:a≠b):(b:Rat)-a≠0:=fun e=>h (by
 have:(b:Rat)=a:=by grind
 exact(Rat.intCast_inj.1 this).symm)
theorem oT_ {a b:Pl} (Y:Int) (h:a.x≠b.x):icQ a b Y+slQ a b*b.x=(b.y:Rat)-Y:=by
 have:=nW_ h
 unfold icQ slQ
 grind
def clI (X W x:Int):Int:=max X (min x (X+W))
def covK (r:Rc) (a b:Pl):Rat:=arS r.h (icQ a b r.y) (slQ a b) (clI r.x r.w b.x) (clI r.x r.w a.x)
theorem aMR (a b:Pl):slQ b a=slQ a b:=by
 unfold slQ
 by_cases h:(b.x:Rat)-a.x=0
 ·have:(a.x:Rat)-b.x=0:=by grind
  rw[h,this];grind
 ·have:(a.x:Rat)-b.x≠0:=by grind
  grind
theorem eA_ (r:Rc) (a b:Pl):covK r b a = -covK r a b:=by
 unfold covK
 by_cases h:a.x=b.x
 ·rw[h,aQ_,aQ_];grind
 ·rw[bH_,aMR]
  have e:icQ b a r.y=icQ a b r.y:=by
   have h1:=oT_ r.y h
   have h2:=oU_ b a r.y
   rw[aMR] at h2
   grind
  rw[e]
theorem aHK (r:Rc) (a:Pl):covK r a a=0:=by unfold covK;exact aQ_ _ _ _ _
def triK (r:Rc) (a b c:Pl):Rat:=covK r a b+covK r b c+covK r c a
theorem xJ_ (r:Rc) (a b c:Pl):triK r b c a=triK r a b c:=by unfold triK;grind
theorem lY_ (r:Rc) (a b c:Pl):triK r b a c = -triK r a b c:=by
 unfold triK
 rw[eA_ r a b,eA_ r c a,eA_ r b c]
 grind
theorem aE_ {a b:Int} (h:a≤b):(a:Rat)≤b:=Rat.intCast_le_intCast.2 h
theorem aIC (a b c:Pl):((aB_ a b c:Int):Rat)=((b.x:Rat)-a.x)*((c.y:Rat)-a.y)-((b.y:Rat)-a.y)*((c.x:Rat)-a.x):=by
 unfold aB_
 simp only[Rat.intCast_sub,Rat.intCast_mul]
theorem aLV {X W x:Int} (h1:X≤x) (h2:x≤X+W):clI X W x=x:=by unfold clI;omega
theorem pK_ {X W x y:Int} (h:x≤y):clI X W x=clI X W y∨(x≤clI X W x∧clI X W x≤clI X W y∧clI X W y≤y):=by unfold clI;omega
theorem xI_ {r:Rc} {p q:Rat} {a b:Pl} (hH:0≤r.h) (hab:a.x≤b.x) (d:Rat) (hd:0≤d) (h1:(p+q*a.x)-((a.y:Rat)-r.y)+((p+q*b.x)-((b.y:Rat)-r.y))=d) (k1:(a.y:Rat)-r.y≤p+q*a.x) (k2:(b.y:Rat)-r.y≤p+q*b.x) :
  0≤arS r.h p q (clI r.x r.w a.x) (clI r.x r.w b.x)+covK r a b∧arS r.h p q (clI r.x r.w a.x) (clI r.x r.w b.x)+covK r a b≤((b.x:Rat)-a.x)*d/2:=by
 have hx:=aE_ hab
 have m:=Rat.mul_nonneg (show 0≤(b.x:Rat)-a.x by grind) hd
 rcases pK_ (X:=r.x) (W:=r.w) hab with e|⟨c1,c2,c3⟩
 ·unfold covK
  rw[e,aQ_,aQ_]
  grind
 ·by_cases hne:a.x=b.x
  ·have e:clI r.x r.w a.x=clI r.x r.w b.x:=by rw[hne]
   unfold covK
   rw[e,aQ_,aQ_]
   grind
  ·have la:=oU_ a b r.y
   have lb:=oT_ r.y hne
   have hh:=aE_ hH
   have:=aIJ (H:=r.h) (p:=icQ a b r.y) (q:=slQ a b) (p':=p) (q':=q) (A:=a.x) (B:=b.x) (L:=clI r.x r.w a.x) (R:=clI r.x r.w b.x) (by grind) (by grind) (by grind) (aE_ c1) (aE_ c2) (aE_ c3)
   have hX:p+q*a.x-(icQ a b r.y+slQ a b*a.x)+(p+q*b.x-(icQ a b r.y+slQ a b*b.x))=d:=by rw[la,lb];exact h1
   rw[hX] at this
   have e:covK r a b = -arS r.h (icQ a b r.y) (slQ a b) (clI r.x r.w a.x) (clI r.x r.w b.x):=by unfold covK;rw[bH_]
   rw[e]
   grind
theorem sE_ {r:Rc} {p q:Rat} {a b:Pl} (hH:0≤r.h) (hab:a.x≤b.x) (d:Rat) (hd:0≤d) (h1:((a.y:Rat)-r.y)-(p+q*a.x)+(((b.y:Rat)-r.y)-(p+q*b.x))=d) (k1:p+q*a.x≤(a.y:Rat)-r.y) (k2:p+q*b.x≤(b.y:Rat)-r.y) :
  arS r.h p q (clI r.x r.w a.x) (clI r.x r.w b.x)+covK r a b≤0∧-(((b.x:Rat)-a.x)*d/2)≤arS r.h p q (clI r.x r.w a.x) (clI r.x r.w b.x)+covK r a b:=by
 have hx:=aE_ hab
 have m:=Rat.mul_nonneg (show 0≤(b.x:Rat)-a.x by grind) hd
 rcases pK_ (X:=r.x) (W:=r.w) hab with e|⟨c1,c2,c3⟩
 ·unfold covK
  rw[e,aQ_,aQ_]
  grind
 ·by_cases hne:a.x=b.x
  ·have e:clI r.x r.w a.x=clI r.x r.w b.x:=by rw[hne]
   unfold covK
   rw[e,aQ_,aQ_]
   grind
  ·have la:=oU_ a b r.y
   have lb:=oT_ r.y hne
   have hh:=aE_ hH
   have:=aIJ (H:=r.h) (p':=icQ a b r.y) (q':=slQ a b) (p:=p) (q:=q) (A:=a.x) (B:=b.x) (L:=clI r.x r.w a.x) (R:=clI r.x r.w b.x) (by grind) (by grind) (by grind) (aE_ c1) (aE_ c2) (aE_ c3)
   have hX:icQ a b r.y+slQ a b*a.x-(p+q*a.x)+(icQ a b r.y+slQ a b*b.x-(p+q*b.x))=d:=by rw[la,lb];exact h1
   rw[hX] at this
   have e:covK r a b = -arS r.h (icQ a b r.y) (slQ a b) (clI r.x r.w a.x) (clI r.x r.w b.x):=by unfold covK;rw[bH_]
   rw[e]
   grind
theorem cI_ {r:Rc} {a b c:Pl} (hH:0≤r.h) (h1:a.x≤b.x) (h2:b.x≤c.x) :
  (0≤aB_ a b c→0≤triK r a b c∧triK r a b c≤(aB_ a b c:Rat)/2)∧(aB_ a b c≤0→triK r a b c≤0∧(aB_ a b c:Rat)/2≤triK r a b c):=by
 by_cases hac:a.x=c.x
 ·have e1:a.x=b.x:=by omega
  have t0:aB_ a b c=0:=by unfold aB_;rw[←e1,←hac];grind
  have k0:triK r a b c=0:=by
   unfold triK covK
   rw[←e1,←hac,aQ_,aQ_,aQ_]
   grind
  rw[t0,k0]
  grind
 ·have la:=oU_ a c r.y
  have lc:=oT_ r.y hac
  have ht:=aIC a b c
  have hn:=nW_ hac
  have e:triK r a b c=(arS r.h (icQ a c r.y) (slQ a c) (clI r.x r.w a.x) (clI r.x r.w b.x)+covK r a b)+(arS r.h (icQ a c r.y) (slQ a c) (clI r.x r.w b.x) (clI r.x r.w c.x)+covK r b c):=by
   have e1:covK r c a=arS r.h (icQ a c r.y) (slQ a c) (clI r.x r.w a.x) (clI r.x r.w c.x):=by
    rw[eA_]
    unfold covK
    rw[bH_]
    grind
   unfold triK
   rw[e1,rP_ r.h _ _ (clI r.x r.w a.x) (clI r.x r.w b.x)]
   grind
  have hx1:=aE_ h1
  have hx2:=aE_ h2
  have hx:(0:Rat)<(c.x:Rat)-a.x:=by grind
  generalize hD:(icQ a c r.y+slQ a c*b.x)-((b.y:Rat)-r.y)=D at *
  have hturn:(aB_ a b c:Rat)=((c.x:Rat)-a.x)*D:=by grind
  rw[e,hturn]
  constructor
  ·intro t
   have ht0:(0:Rat)≤aB_ a b c:=by have:=aE_ t;grind
   have hD0:0≤D:=by
    rw[hturn] at ht0
    exact Rat.le_of_mul_le_mul_left (c:=(c.x:Rat)-a.x) (by grind) hx
   have p1:=xI_ (r:=r) (p:=icQ a c r.y) (q:=slQ a c) hH h1 D hD0 (by grind) (by grind) (by grind)
   have p2:=xI_ (r:=r) (p:=icQ a c r.y) (q:=slQ a c) hH h2 D hD0 (by grind) (by grind) (by grind)
   grind
  ·intro t
   have ht0:(aB_ a b c:Rat)≤0:=by have:=aE_ t;grind
   have hD0:0≤-D:=by
    rw[hturn] at ht0
    exact Rat.le_of_mul_le_mul_left (c:=(c.x:Rat)-a.x) (by grind) hx
   have p1:=sE_ (r:=r) (p:=icQ a c r.y) (q:=slQ a c) hH h1 (-D) hD0 (by grind) (by grind) (by grind)
   have p2:=sE_ (r:=r) (p:=icQ a c r.y) (q:=slQ a c) hH h2 (-D) hD0 (by grind) (by grind) (by grind)
   grind
theorem aMN {r:Rc} {a b c:Pl} (hH:0≤r.h) (ht:0≤aB_ a b c):0≤triK r a b c∧triK r a b c≤(aB_ a b c:Rat)/2:=by
 have t1:aB_ b c a=aB_ a b c:=by unfold aB_;grind
 have t2:aB_ c a b=aB_ a b c:=by unfold aB_;grind
 have t3:aB_ b a c = -aB_ a b c:=by unfold aB_;grind
 have t4:aB_ c b a = -aB_ a b c:=by unfold aB_;grind
 have t5:aB_ a c b = -aB_ a b c:=by unfold aB_;grind
 have k1:=xJ_ r a b c
 have k2:=xJ_ r b c a
 have k3:=lY_ r a b c
 have k4:triK r c b a = -triK r a b c:=by rw[lY_,k1]
 have k5:triK r a c b = -triK r a b c:=by rw[lY_,k2,k1]
 have cs:∀n m:Int,m = -n→(m:Rat) = -(n:Rat):=fun n m e=>by rw[e,Rat.intCast_neg]
 have cz:(0:Rat)≤aB_ a b c:=by have:=aE_ ht;grind
 rcases Int.le_total a.x b.x with o1|o1 <;> rcases Int.le_total b.x c.x with o2|o2 <;> rcases Int.le_total a.x c.x with o3|o3
 ·exact(cI_ hH o1 o2).1 ht
 ·exact(cI_ hH o1 o2).1 ht
 ·have:=(cI_ hH o3 o2).2 (by omega)
  rw[k5,cs _ _ t5] at this
  grind
 ·have:=(cI_ hH o3 o1).1 (by omega)
  rw[k2,k1,t2] at this
  exact this
 ·have:=(cI_ hH o1 o3).2 (by omega)
  rw[k3,cs _ _ t3] at this
  grind
 ·have:=(cI_ hH o2 o3).1 (by omega)
  rw[k1,t1] at this
  exact this
 ·have:=(cI_ hH o2 o1).2 (by omega)
  rw[k4,cs _ _ t4] at this
  grind
 ·have:=(cI_ hH o2 o1).2 (by omega)
  rw[k4,cs _ _ t4] at this
  grind
def sumE (f:Pl→Pl→Rat):List (Pl×Pl)→Rat
 | []=>0
 | e::l=>f e.1 e.2+sumE f l
theorem iK_ (f g:Pl→Pl→Rat):∀l,sumE (fun a b=>f a b+g a b) l=sumE f l+sumE g l
 | []=>by unfold sumE;grind
 | e::l=>by
  unfold sumE
  rw[iK_ f g l]
  grind
theorem cJ_ {f g:Pl→Pl→Rat} : ∀l,(∀e∈l,f e.1 e.2=g e.1 e.2)→sumE f l=sumE g l
 | [],_=>rfl
 | e::l,h=>by
  unfold sumE
  rw[h e (by simp),cJ_ l fun x hx=>h x (by simp[hx])]
theorem uZ_ {f g:Pl→Pl→Rat} : ∀l,(∀e∈l,f e.1 e.2≤g e.1 e.2)→sumE f l≤sumE g l
 | [],_=>Rat.le_refl
 | e::l,h=>by
  unfold sumE
  have h1:=h e (by simp)
  have h2:=uZ_ l fun x hx=>h x (by simp[hx])
  grind
theorem sK_ (g:Pl→Rat) (y:Pl):∀(t:List Pl) (x:Pl),sumE (fun a b=>g b-g a) (edF (x::(t++[y])))=g y-g x
 | [],x=>by
  show(g y-g x)+0=_
  grind
 | z::t,x=>by
  show(g z-g x)+sumE _ (edF (z::(t++[y])))=_
  rw[sK_ g y t z]
  grind
theorem gV_ (g:Pl→Rat) (l:List Pl):sumE (fun a b=>g b-g a) (aC_ l)=0:=by
 cases l with
 | nil=>rfl
 | cons x t=>rw[yX_,sK_];grind
def aL_ (l:List Pl) (r:Rc):Rat:=sumE (covK r) (aC_ l)
theorem aHF (x:Pl) (l:List Pl) (r:Rc):aL_ l r=sumE (triK r x) (aC_ l):=by
 have h:=gV_ (fun p=>covK r p x) l
 have e:sumE (triK r x) (aC_ l)=sumE (covK r) (aC_ l)+sumE (fun a b=>covK r b x-covK r a x) (aC_ l):=by
  rw[←iK_]
  refine cJ_ _ fun e _=>?_
  unfold triK
  rw[eA_ r e.1 x]
  grind
 rw[e,h]
 unfold aL_
 grind
theorem qY_:∀(l:List Int) (n:Int),l.foldl (· + ·) n=n+l.foldl (· + ·) 0
 | [],n=>by simp
 | x::l,n=>by
  show l.foldl (· + ·) (n+x)=n+l.foldl (· + ·) (0+x)
  rw[qY_ l (n+x),qY_ l (0+x)]
  omega
theorem xM_ (f:Pl→Pl→Int):∀l:List (Pl×Pl),sumE (fun a b=>(f a b:Rat)) l=(((l.map fun e=>f e.1 e.2).foldl (· + ·) 0:Int):Rat)
 | []=>rfl
 | e::l=>by
  unfold sumE
  rw[List.map_cons,List.foldl_cons,qY_,xM_ f l,Rat.intCast_add,Int.zero_add]
theorem aMG (l:List Pl):((zI_ l:Int):Rat)=sumE (fun a b=>((a.x*b.y-a.y*b.x:Int):Rat)) (aC_ l):=by
 rw[xM_]
 rfl
theorem aII (x:Pl) (l:List Pl):((zI_ l:Int):Rat)=sumE (fun a b=>((aB_ x a b:Int):Rat)) (aC_ l):=by
 have h:=gV_ (fun p=>(((x.y*p.x-x.x*p.y:Int)):Rat)) l
 rw[aMG]
 have e:sumE (fun a b=>((aB_ x a b:Int):Rat)) (aC_ l)=sumE (fun a b=>((a.x*b.y-a.y*b.x:Int):Rat)) (aC_ l)+sumE (fun a b=>(((x.y*b.x-x.x*b.y:Int)):Rat)-(((x.y*a.x-x.x*a.y:Int)):Rat)) (aC_ l):=by
  rw[←iK_]
  refine cJ_ _ fun e _=>?_
  have:aB_ x e.1 e.2=(e.1.x*e.2.y-e.1.y*e.2.x)+((x.y*e.2.x-x.x*e.2.y)-(x.y*e.1.x-x.x*e.1.y)):=by unfold aB_;grind
  rw[this,Rat.intCast_add,Rat.intCast_sub (x.y*e.2.x-x.x*e.2.y)]
 rw[e,h]
 grind
theorem wF_ {l:List Pl} {r:Rc} (hH:0≤r.h) (x:Pl) (h:∀e∈aC_ l,0≤aB_ x e.1 e.2):0≤aL_ l r∧aL_ l r≤(zI_ l:Rat)/2:=by
 rw[aHF x,aII x]
 constructor
 ·have h0:sumE (fun _ _=>(0:Rat)) (aC_ l)=0:=by
   have:=gV_ (fun _=>(0:Rat)) l
   have e:sumE (fun _ _=>(0:Rat)) (aC_ l)=sumE (fun _ _=>(0:Rat)-0) (aC_ l):=cJ_ _ fun _ _=>by grind
   rw[e,this]
  rw[←h0]
  exact uZ_ _ fun e he=>(aMN hH (h e he)).1
 ·have e:sumE (fun a b=>((aB_ x a b:Int):Rat)) (aC_ l)/2=sumE (fun a b=>((aB_ x a b:Int):Rat)/2) (aC_ l):=by
   generalize aC_ l=k
   induction k with
   | nil=>unfold sumE;grind
   | cons y k ih=>unfold sumE;rw[←ih];grind
  rw[e]
  exact uZ_ _ fun e he=>(aMN hH (h e he)).2
theorem covK_x (r:Rc) (k:Int) (h0:0≤k) (h1:k≤r.w) (a b:Pl):covK r a b=covK { r with w:=k } a b+covK { r with x:=r.x+k,w:=r.w-k } a b:=by
 unfold covK
 simp only
 have e:∀x,(clI r.x r.w x=clI r.x k x∧clI (r.x+k) (r.w-k) x=r.x+k)∨(clI r.x r.w x=clI (r.x+k) (r.w-k) x∧clI r.x k x=r.x+k):=fun x=>by unfold clI;omega
 rcases e a.x with ⟨a1,a2⟩|⟨a1,a2⟩ <;> rcases e b.x with ⟨b1,b2⟩|⟨b1,b2⟩
 ·rw[a1,b1,a2,b2,aQ_];grind
 ·rw[a1,b1,a2,b2,rP_ _ _ _ _ ((r.x+k:Int):Rat)];grind
 ·rw[a1,b1,a2,b2,rP_ _ _ _ _ ((r.x+k:Int):Rat)]
 ·rw[a1,b1,a2,b2,aQ_];grind
theorem covK_y (r:Rc) (k:Int) (a b:Pl):covK r a b=covK { r with h:=k } a b+covK { r with y:=r.y+k,h:=r.h-k } a b:=by
 unfold covK
 simp only
 have e1:icQ a b (r.y+k)=icQ a b r.y-k:=by unfold icQ;rw[Rat.intCast_add];grind
 have e2:((r.h-k:Int):Rat)=(r.h:Rat)-k:=Rat.intCast_sub _ _
 rw[e1,e2]
 unfold arS
 have h:=aOI (k:Rat) ((r.h:Rat)-k) (icQ a b r.y+slQ a b*clI r.x r.w b.x) (icQ a b r.y+slQ a b*clI r.x r.w a.x)
 have e3:(k:Rat)+((r.h:Rat)-k)=r.h:=by grind
 have e4:∀x,icQ a b r.y-k+x=icQ a b r.y+x-k:=fun x=>by grind
 rw[e3] at h
 rw[h,e4,e4]
 grind
theorem aPS (l:List Pl) (r:Rc) (k:Int) (h0:0≤k) (h1:k≤r.w):aL_ l r=aL_ l { r with w:=k } + aL_ l { r with x:=r.x+k,w:=r.w-k }:=by
 unfold aL_
 rw[←iK_]
 exact cJ_ _ fun e _=>covK_x r k h0 h1 e.1 e.2
theorem aHE (l:List Pl) (r:Rc) (k:Int):aL_ l r=aL_ l { r with h:=k } + aL_ l { r with y:=r.y+k,h:=r.h-k }:=by
 unfold aL_
 rw[←iK_]
 exact cJ_ _ fun e _=>covK_y r k e.1 e.2
theorem fU_ {P Q c d k:Int} (h1:d≤k) (h2:k≤c) (h:d<c) (hc:0≤P+Q*c) (hd:0≤P+Q*d):0≤P+Q*k:=by
 have e:(c-d)*(P+Q*k)=(c-k)*(P+Q*d)+(k-d)*(P+Q*c):=by grind
 have m1:=Int.mul_nonneg (show 0≤c-k by omega) hd
 have m2:=Int.mul_nonneg (show 0≤k-d by omega) hc
 exact Int.le_of_mul_le_mul_left (a:=c-d) (by omega) (by omega)
theorem sA_ {a b c d:Pl} {k:Int} (b1:b.x≤k) (b2:k+1≤a.x) (b3:d.x≤k) (b4:k+1≤c.x) (t1:0≤aB_ a b c) (t2:0≤aB_ a b d) (t3:0≤aB_ c d a) (t4:0≤aB_ c d b) :
  aB_ a b c=0∧aB_ a b d=0:=by
 obtain⟨Q,hQ⟩:∃Q,Q=(a.x-b.x)*(d.y-c.y)-(c.x-d.x)*(b.y-a.y):=⟨_,rfl⟩
 obtain⟨P,hP⟩:∃P,P=(c.x-d.x)*((a.x-b.x)*a.y+(b.y-a.y)*a.x)-(a.x-b.x)*((c.x-d.x)*c.y+(d.y-c.y)*c.x):=⟨_,rfl⟩
 have f1:P+Q*c.x=(c.x-d.x)*aB_ a b c:=by unfold aB_;grind
 have f2:P+Q*d.x=(c.x-d.x)*aB_ a b d:=by unfold aB_;grind
 have f3:P+Q*a.x = -((a.x-b.x)*aB_ c d a):=by unfold aB_;grind
 have f4:P+Q*b.x = -((a.x-b.x)*aB_ c d b):=by unfold aB_;grind
 have m1:=Int.mul_nonneg (show 0≤c.x-d.x by omega) t1
 have m2:=Int.mul_nonneg (show 0≤c.x-d.x by omega) t2
 have m3:=Int.mul_nonneg (show 0≤a.x-b.x by omega) t3
 have m4:=Int.mul_nonneg (show 0≤a.x-b.x by omega) t4
 have g1:=fU_ (P:=P) (Q:=Q) b3 (by omega:k≤c.x) (by omega) (by omega) (by omega)
 have g2:=fU_ (P:=P) (Q:=Q) (by omega:d.x≤k+1) b4 (by omega) (by omega) (by omega)
 have n:∀x,-P + -Q*x = -(P+Q*x):=fun x=>by grind
 have g3:=fU_ (P:=-P) (Q:=-Q) b1 (by omega:k≤a.x) (by omega) (by rw[n];omega) (by rw[n];omega)
 have g4:=fU_ (P:=-P) (Q:=-Q) (by omega:b.x≤k+1) b2 (by omega) (by rw[n];omega) (by rw[n];omega)
 rw[n] at g3 g4
 rw[Int.mul_add,Int.mul_one] at g2 g4
 have q0:Q=0:=by omega
 subst q0
 rw[Int.zero_mul,Int.add_zero] at f1 f2 g1 g3
 have p0:P=0:=by omega
 rw[p0] at f1 f2
 constructor
 ·rcases Int.mul_eq_zero.1 f1.symm with h|h
  ·omega
  ·exact h
 ·rcases Int.mul_eq_zero.1 f2.symm with h|h
  ·omega
  ·exact h
def lenI (X W:Int) (e:Pl×Pl):Int:=max 0 (clI X W e.1.x-clI X W e.2.x)
def lenZ (X W:Int):List (Pl×Pl)→Int
 | []=>0
 | e::l=>lenI X W e+lenZ X W l
def aMM (e f:Pl×Pl):Prop:=∀k:Int,¬(e.2.x≤k∧k+1≤e.1.x∧f.2.x≤k∧k+1≤f.1.x)
theorem aKK (X:Int) (w:Nat) (e:Pl×Pl):lenI X (w+1:Nat) e=lenI X w e+(if e.2.x≤X+w∧X+w+1≤e.1.x then 1 else 0):=by
 unfold lenI clI
 split <;> omega
theorem tK_ (X:Int) (w:Nat):∀l:List (Pl×Pl),l.Pairwise aMM→lenZ X (w+1:Nat) l≤lenZ X w l+1∧((∀e∈l,¬(e.2.x≤X+w∧X+w+1≤e.1.x))→lenZ X (w+1:Nat) l=lenZ X w l)
 | [],_=>⟨by unfold lenZ;omega,fun _=>rfl⟩
 | e::l,h=>by
  obtain⟨h1,h2⟩:=List.pairwise_cons.1 h
  obtain⟨k1,k2⟩:=tK_ X w l h2
  unfold lenZ
  rw[aKK]
  constructor
  ·split
   ·rename_i hc
    have:=k2 fun f hf hc'=>h1 f hf (X+w) ⟨hc.1,hc.2,hc'.1,hc'.2⟩
    omega
   ·omega
  ·intro ha
   rw[if_neg (ha e (by simp)),k2 fun f hf=>ha f (by simp[hf])]
   omega
theorem aFI (X:Int) (l:List (Pl×Pl)) (h:l.Pairwise aMM):∀w:Nat,lenZ X w l≤w
 | 0=>by
  have z:∀l:List (Pl×Pl),lenZ X (0:Nat) l=0:=by
   intro l
   induction l with
   | nil=>rfl
   | cons e l ih=>unfold lenZ;rw[ih];unfold lenI clI;omega
  rw[z]
  omega
 | w+1=>by
  have:=(tK_ X w l h).1
  have:=aFI X l h w
  omega
theorem aLP {r:Rc} (hH:0≤r.h) (a b:Pl):covK r a b≤((lenI r.x r.w (a,b):Int):Rat)*r.h:=by
 have hh:=aE_ hH
 unfold covK arS lenI
 generalize hA:clI r.x r.w a.x=A
 generalize hB:clI r.x r.w b.x=B
 have p1:=jO_ (H:=(r.h:Rat)) (icQ a b r.y+slQ a b*B) (icQ a b r.y+slQ a b*A) (by grind)
 have p2:=aMW (H:=(r.h:Rat)) (icQ a b r.y+slQ a b*B) (icQ a b r.y+slQ a b*A) (by grind)
 generalize psi _ _ _=P at *
 rcases Int.le_total A B with h|h
 ·rw[show max 0 (A-B)=0 by omega]
  have hc:=aE_ h
  have:=Rat.mul_nonneg (show 0≤(B:Rat)-A by grind) p1
  grind
 ·rw[show max 0 (A-B)=A-B by omega,Rat.intCast_sub]
  have hc:=aE_ h
  have:=Rat.mul_nonneg (show 0≤(A:Rat)-B by grind) (show 0≤(r.h:Rat)-P by grind)
  grind
theorem aBE {l:List Pl} {r:Rc} (hH:0≤r.h) (hW:0≤r.w) (h:(aC_ l).Pairwise aMM):aL_ l r≤(r.w:Rat)*r.h:=by
 have h1:aL_ l r≤((lenZ r.x r.w (aC_ l):Int):Rat)*r.h:=by
  unfold aL_
  generalize aC_ l=k
  induction k with
  | nil=>unfold sumE lenZ;grind
  | cons e k ih=>
   unfold sumE lenZ
   have:=aLP hH (r:=r) e.1 e.2
   rw[Rat.intCast_add]
   grind
 have h2:=aFI r.x (aC_ l) h r.w.toNat
 rw[Int.toNat_of_nonneg hW] at h2
 have h3:=aE_ h2
 have h4:=aE_ hH
 have:=Rat.mul_nonneg (show 0≤(r.w:Rat)-(lenZ r.x r.w (aC_ l):Int) by grind) (show 0≤(r.h:Rat) by grind)
 grind
end Go.Proofs.YtlikmmpmnaaifaaGreatDoor
