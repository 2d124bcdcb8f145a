/- - -/
import Derived.Deep.RegionHeld3
import Derived.Test.YtdkaohphbgdkpaaGreatDoorZPad
import Derived.Test.YtdkaohphbgdkpaaGreatDoorZOver2
import Derived.Test.YtdkaohphbgdkpaaGreatDoorZBack
import Derived.Test.YtdkaohphbgdkpaaGreatDoorZNum
import Derived.Test.YtdkaohphbgdkpaaGreatDoorZShelf
set_option maxHeartbeats 40000000
set_option maxRecDepth 1000000
namespace Go.Proofs.YtdkaohphbgdkpaaGreatDoor
open Go.RowKit Go.Shelf
attribute [local go_sem] Oper.semAt_some
def valZ (l:List UInt8):Int:=if l.head?=some 45 then -(valB l.tail:Int) else valB l
def aK_ (s:ByteArray):Option Int:=if aX_ s.data.toList=true then some (valZ s.data.toList) else none
def aG_ (z:Int):Bool:=decide (nDig z.natAbs≤200)
theorem qB_ (z:Int):valZ (txt z)=z:=by
 have h:=gW_ z
 unfold valZ
 unfold bP_ at h
 by_cases hh:(txt z).head?=some 45
 ·rw[if_pos hh] at h⊢
  rw[h,bO_]
  unfold txt at hh
  by_cases hz:z<0
  ·omega
  ·rw[if_neg hz] at hh
   have:=aZ_ z.natAbs 45 (List.mem_of_head? hh)
   exact absurd this (by decide)
 ·rw[if_neg hh] at h⊢
  rw[h,bO_]
  unfold txt at hh
  by_cases hz:z<0
  ·rw[if_pos hz] at hh;simp at hh
  ·omega
theorem dJ_ (z:Int):aK_ (str z)=if aG_ z=true then some z else none:=by
 unfold aK_ aG_
 rw[cY_,fD_,qB_]
theorem dF_ {s:ByteArray} {z:Int} (h:aK_ s=some z):s=str z∧aG_ z=true:=by
 unfold aK_ at h
 split at h
 case isTrue hv=>
  obtain⟨y,hy,hd⟩:=tM_ hv
  rw[hy,qB_] at h
  cases h
  refine⟨?_,by simpa[aG_] using hd⟩
  apply ByteArray.ext
  apply Array.toList_inj.1
  rw[hy,cY_]
 case isFalse=>cases h
theorem dI_ (s:ByteArray):(aK_ s).isSome=aX_ s.data.toList:=by
 unfold aK_
 cases aX_ s.data.toList <;> rfl
theorem dG_ {z:Int} (h:aG_ z=true):(dig 10000 z.natAbs).length≤50:=by
 rw[aQ_ (by omega)]
 have:=(hB_ (n:=z.natAbs) (k:=200) (by omega)).1 (by simpa[aG_] using h)
 rw[show(10000:Nat)=10^4 from rfl,←Nat.pow_mul]
 exact this
def outZ (z:Int):Array Value:=if aG_ z=true then #[.string (str z),.int .i64 0] else #[.string ⟨#[]⟩,.int .i64 30]
theorem lH_ (v:Value) (z:Int) (lo hi:Nat) (w:World) (hG:Glob w) (h:Zg w v z lo hi) (b:hi≤w.heap.size) (hf:Few z.natAbs) :
  Calls Tryz.prog 213 #[v] w fun e w'=>(∃s n,outZ z=#[.string s,.int .i64 n]∧e=.returned (.tuple #[.string s,.int .i64 n]))∧Below w.heap.size w w':=by
 obtain⟨neg,n,a,c,rfl,hn,rfl⟩:=h.form
 have e1:(if neg=true then -(n:Int) else n).natAbs=n:=by split <;> omega
 rw[e1] at hf
 rcases Nat.eq_zero_or_pos n with h0|h0
 ·subst h0
  refine(tT_ neg a c w).mono ?_
  rintro e w' ⟨rfl,hb⟩
  refine⟨⟨⟨#[48]⟩,0,?_,rfl⟩,hb⟩
  have:(if neg=true then -((0:Nat):Int) else (0:Nat))=0:=by split <;> simp
  rw[this]
  have:aG_ 0=true:=by decide
  unfold outZ
  rw[if_pos this]
  rfl
 ·refine(yU_ neg a c n lo hi w hG hn b hf h0).mono ?_
  rintro e w' ⟨rfl,hb⟩
  refine⟨?_,hb⟩
  unfold outZ aG_
  rw[e1]
  by_cases hd:nDig n≤200
  ·rw[if_pos hd,if_pos (by simpa using hd)]
   refine⟨_,_,rfl,?_⟩
   have:str (if neg=true then -(n:Int) else n)=⟨((if neg then [45] else [])++txtN n).toArray⟩:=by
    unfold str txt
    rw[e1]
    cases neg
    ·simp
    ·simp;omega
   rw[this]
  ·rw[if_neg hd,if_neg (by simpa using hd)]
   exact⟨_,_,rfl,rfl⟩
theorem Zg.neg {w:World} {n:Bool} {s:Value} {y:Int} {lo hi:Nat} (h:Zg w (.agg #[.bool n,s]) y lo hi):Zg w (.agg #[.bool !n,s]) (-y) lo hi:=by
 obtain⟨neg,k,s',e,h1,h2⟩:=h
 simp only[Value.agg.injEq,Array.mk.injEq,List.cons.injEq,Value.bool.injEq,and_true] at e
 obtain⟨rfl,rfl⟩:=e
 refine⟨!n,k,s,rfl,h1,?_⟩
 cases n <;> simp at h2⊢<;> omega
theorem Zg.of {w:World} {neg:Bool} {n:Nat} {s:Value} {z:Int} {lo hi:Nat} (h:Nm w s n lo hi) (hz:z=if neg=true then -(n:Int) else n):Zg w (.agg #[.bool neg,s]) z lo hi:=⟨neg,n,s,rfl,h,hz⟩
structure PairAt (N:Nat) (n1:Bool) (s1:Value) (n2:Bool) (s2:Value) (W:World):Prop where
 x0:W.cell? ⟨N,0,none⟩=some (.bool n1)
 x1:W.cell? ⟨N,1,none⟩=some s1
 y0:W.cell? ⟨N+1,0,none⟩=some (.bool n2)
 y1:W.cell? ⟨N+1,1,none⟩=some s2
 sz:N+2≤W.heap.size
theorem PairAt.start (w:World) (n1 n2:Bool) (s1 s2:Value):PairAt w.heap.size n1 s1 n2 s2 ((w.alloc (.cells #[.bool n1,s1] 245)).alloc (.cells #[.bool n2,s2] 245)):=by
 refine⟨?_,?_,?_,?_,by simp⟩ <;> simp[go_sem]
theorem PairAt.below {N:Nat} {n1 n2:Bool} {s1 s2:Value} {W W':World} (h:PairAt N n1 s1 n2 s2 W) (hb:Below W.heap.size W W'):PairAt N n1 s1 n2 s2 W':=by
 have hs:=h.sz
 obtain⟨c,_⟩:=mM_ hb
 exact⟨(c _ _ (by omega)).trans h.x0,(c _ _ (by omega)).trans h.x1,(c _ _ (by omega)).trans h.y0,(c _ _ (by omega)).trans h.y1,Nat.le_trans hs hb.size⟩
theorem PairAt.drew {N:Nat} {n1 n2:Bool} {s1 s2:Value} {W:World} (h:PairAt N n1 s1 n2 s2 W):PairAt N n1 s1 n2 s2 W.drew:=⟨h.x0,h.x1,h.y0,h.y1,h.sz⟩
theorem B2d (w:World) (o1 o2:Obj):Below w.heap.size w ((w.alloc o1).alloc o2).drew:=(((Below.refl _ _).alloc (Nat.le_refl _) _).alloc (by simp) _).drew
theorem B2 (w:World) (o1 o2:Obj):Below w.heap.size w ((w.alloc o1).alloc o2):=((Below.refl _ _).alloc (Nat.le_refl _) _).alloc (by simp) _
theorem aCH {n k:Nat} (h:n<10000^k) (hk:k≤1000000):Few n:=by
 have:=(aQ_ (B:=10000) (by omega) n k).2 h
 unfold Few
 omega
theorem gI_ {z:Int} (h:aG_ z=true):z.natAbs<10000^50:=(aQ_ (by omega) _ _).1 (dG_ h)
theorem oU_ {z:Int} (h:aG_ z=true):Few z.natAbs:=aCH (gI_ h) (by omega)
theorem add_F {x y:Int} (hx:aG_ x=true) (hy:aG_ y=true):Few (x+y).natAbs:=by
 have h1:=gI_ hx
 have h2:=gI_ hy
 refine aCH (k:=51) ?_ (by omega)
 rw[Nat.pow_succ]
 omega
theorem eS_ {y:Int} (h:aG_ y=true):aG_ (-y)=true:=by unfold aG_ at h⊢;rw[Int.natAbs_neg];exact h
theorem Sub_ok (x y:Int) (w:World) (hG:Glob w) (hx:aG_ x=true) (hy:aG_ y=true) :
  Calls Tryz.prog 191 #[.string (str x),.string (str y)] w fun e w'=>(∃s n,outZ (x-y)=#[.string s,.int .i64 n]∧e=.returned (.tuple #[.string s,.int .i64 n]))∧Below w.heap.size w w':=by
 rw[Int.sub_eq_add_neg]
 have hB:=fun W=>gD_ x y W (by simpa[aG_] using hx) (by simpa[aG_] using hy)
 generalize str x=sx at hB⊢
 generalize str y=sy at hB⊢
 go_enter Tryz.func191,Tryz.ntmps191
 go_wp2_with (first
  | (go_at_call 210;with_reducible refine(hB _).mono ?_;rintro e w1 ⟨⟨va,vb,rfl,ha,hb⟩,hb1⟩;obtain⟨n1,m1,a1,c1,rfl,hna,hza⟩:=ha.form;obtain⟨n2,m2,a2,c2,rfl,hnb,hzb⟩:=hb.form;have HA:=Lib.hid ha.zg;have HB:=Lib.hid hb.zg;have HNA:=Lib.hid hna;have HNB:=Lib.hid hnb;have HZA:=Lib.hid (gV_ hza);have HZB:=Lib.hid (gV_ hzb);have HSA:=Lib.hid hza;have HSB:=Lib.hid hzb;have HG1:=Lib.hid (hG.below hb1);clear ha hb hna hnb hza hzb)
  | (go_at_call 212;refine(oV_ _ _ x (-y) _ _ _ _ _ (by exact HA.out.below (B2 w1 _ _) (Nat.le_refl _)) (by exact HB.out.neg.below (B2 w1 _ _) (Nat.le_refl _)) (by exact(B2 w1 _ _).size) (by exact(B2 w1 _ _).size) (by exact oU_ hx) (by exact oU_ (eS_ hy))).mono ?_;rintro e w2 ⟨⟨v,rfl,hv⟩,hb2⟩;have HV:=Lib.hid hv;clear hv;have hbw:Below w1.heap.size w1 w2:=(B2 w1 _ _).trans (hb2.mono (B2 w1 _ _).size);have HG2:=Lib.hid (HG1.out.below hbw))
  | (go_at_call 213;refine(lH_ _ (x + -y) _ _ _ (by exact HG2.out) (by exact HV.out) (Nat.le_refl _) (by exact add_F hx (eS_ hy))).mono ?_;rintro e w3 ⟨⟨s,n,hs,rfl⟩,hb3⟩))
 refine bodyPost_ret (v:=.tuple #[.string s,.int .i64 n]) ?_ rfl ⟨⟨s,n,hs,rfl⟩,(hb1.trans (hbw.mono hb1.size)).trans (hb3.mono (Nat.le_trans hb1.size hbw.size))⟩
 simp[results,Tryz.results191,go_sem]
theorem iJ_ {x y:Int} {n1 n2 b1 b2:Bool} {m1 m2:Nat} (h1:n1=decide (x<0)∧m1=x.natAbs) (h2:n2=decide (y<0)∧m2=y.natAbs) (k1:n1=b1) (k2:n2=b2) :
  (if b1=true then (if b2=true then cmpI m2 m1 else -1) else if b2=true then 1 else cmpI m1 m2)=cmpI x y:=by
 obtain⟨h1,rfl⟩:=h1
 obtain⟨h2,rfl⟩:=h2
 subst k1 k2
 unfold cmpI
 by_cases e1:x<0 <;> by_cases e2:y<0
 ·have f1:n1=true:=by rw[h1];exact decide_eq_true e1
  have f2:n2=true:=by rw[h2];exact decide_eq_true e2
  rw[if_pos f1,if_pos f2]
  rcases Int.lt_trichotomy x y with h|h|h
  ·rw[if_pos h,if_pos (by omega)]
  ·rw[if_neg (by omega),if_neg (by omega),if_neg (by omega),if_neg (by omega)]
  ·rw[if_neg (by omega),if_pos (by omega),if_neg (by omega),if_pos (by omega)]
 ·have f1:n1=true:=by rw[h1];exact decide_eq_true e1
  have f2:n2=false:=by rw[h2];exact decide_eq_false e2
  rw[if_pos f1,if_neg (by rw[f2];simp),if_pos (by omega)]
 ·have f1:n1=false:=by rw[h1];exact decide_eq_false e1
  have f2:n2=true:=by rw[h2];exact decide_eq_true e2
  rw[if_neg (by rw[f1];simp),if_pos f2,if_neg (by omega),if_pos (by omega)]
 ·have f1:n1=false:=by rw[h1];exact decide_eq_false e1
  have f2:n2=false:=by rw[h2];exact decide_eq_false e2
  rw[if_neg (by rw[f1];simp),if_neg (by rw[f2];simp)]
  rcases Int.lt_trichotomy x y with h|h|h
  ·rw[if_pos h,if_pos (by omega)]
  ·rw[if_neg (by omega),if_neg (by omega),if_neg (by omega),if_neg (by omega)]
  ·rw[if_neg (by omega),if_pos (by omega),if_neg (by omega),if_pos (by omega)]
theorem Sub_no (a b:ByteArray) (w:World) (ha:a.size≤9223372036854775807) (hb:b.size≤9223372036854775807) (hn:(aX_ a.data.toList&&aX_ b.data.toList)=false) :
  Calls Tryz.prog 191 #[.string a,.string b] w fun e w'=>e=.returned (.tuple #[.string ⟨#[]⟩,.int .i64 30])∧Below w.heap.size w w':=by
 have hB:=fun W=>mL_ a b W ha hb hn
 go_enter Tryz.func191,Tryz.ntmps191
 go_wp2_with (go_at_call 210;with_reducible refine(hB _).mono ?_;rintro e w1 ⟨rfl,hb1⟩)
 refine bodyPost_ret (v:=.tuple #[.string ⟨#[]⟩,.int .i64 30]) ?_ rfl ⟨rfl,hb1.trans ((B2 w1 _ _).mono hb1.size)⟩
 simp[results,Tryz.results191,go_sem]
theorem Gcd_no (a b:ByteArray) (w:World) (ha:a.size≤9223372036854775807) (hb:b.size≤9223372036854775807) (hn:(aX_ a.data.toList&&aX_ b.data.toList)=false) :
  Calls Tryz.prog 192 #[.string a,.string b] w fun e w'=>e=.returned (.tuple #[.string ⟨#[]⟩,.int .i64 30])∧Below w.heap.size w w':=by
 have hB:=fun W=>mL_ a b W ha hb hn
 go_enter Tryz.func192,Tryz.ntmps192
 go_wp2_with (go_at_call 210;with_reducible refine(hB _).mono ?_;rintro e w1 ⟨rfl,hb1⟩)
 refine bodyPost_ret (v:=.tuple #[.string ⟨#[]⟩,.int .i64 30]) ?_ rfl ⟨rfl,hb1.trans ((B2 w1 _ _).mono hb1.size)⟩
 simp[results,Tryz.results192,go_sem]
theorem Div_no (a b:ByteArray) (w:World) (ha:a.size≤9223372036854775807) (hb:b.size≤9223372036854775807) (hn:(aX_ a.data.toList&&aX_ b.data.toList)=false) :
  Calls Tryz.prog 216 #[.string a,.string b] w fun e w'=>e=.returned (.tuple #[.string ⟨#[]⟩,.string ⟨#[]⟩,.int .i64 30])∧Below w.heap.size w w':=by
 have hB:=fun W=>mL_ a b W ha hb hn
 go_enter Tryz.func216,Tryz.ntmps216
 go_wp2_with (go_at_call 210;with_reducible refine(hB _).mono ?_;rintro e w1 ⟨rfl,hb1⟩)
 refine bodyPost_ret (v:=.tuple #[.string ⟨#[]⟩,.string ⟨#[]⟩,.int .i64 30]) ?_ rfl ⟨rfl,hb1.trans ((B2 w1 _ _).mono hb1.size)⟩
 simp[results,Tryz.results216,go_sem]
theorem tG_ (a b:ByteArray) (w:World) (ha:a.size≤9223372036854775807) (hb:b.size≤9223372036854775807) (hn:(aX_ a.data.toList&&aX_ b.data.toList)=false) :
  Calls Tryz.prog 189 #[.string a,.string b] w fun e w'=>e=.returned (.int .i64 0)∧Below w.heap.size w w':=by
 have hB:=fun W=>mL_ a b W ha hb hn
 go_enter Tryz.func189,Tryz.ntmps189
 go_wp2_with (go_at_call 210;with_reducible refine(hB _).mono ?_;rintro e w1 ⟨rfl,hb1⟩)
 refine bodyPost_ret (v:=.int .i64 0) ?_ rfl ⟨rfl,hb1.trans ((B2 w1 _ _).mono hb1.size)⟩
 simp[results,Tryz.results189,go_sem]
theorem tF_ (x y:Int) (w:World) (hx:aG_ x=true) (hy:aG_ y=true) :
  Calls Tryz.prog 189 #[.string (str x),.string (str y)] w fun e w'=>e=.returned (.int .i64 (cmpI x y))∧Below w.heap.size w w':=by
 have hB:=fun W=>gD_ x y W (by simpa[aG_] using hx) (by simpa[aG_] using hy)
 generalize str x=sx at hB⊢
 generalize str y=sy at hB⊢
 go_enter Tryz.func189,Tryz.ntmps189
 go_wp2_with (first
  | (go_at_call 210;with_reducible refine(hB _).mono ?_;rintro e w1 ⟨⟨va,vb,rfl,ha,hb⟩,hb1⟩;obtain⟨n1,m1,a1,c1,rfl,hna,hza⟩:=ha.form;obtain⟨n2,m2,a2,c2,rfl,hnb,hzb⟩:=hb.form;have HA:=Lib.hid ha.zg;have HB:=Lib.hid hb.zg;have HNA:=Lib.hid hna;have HNB:=Lib.hid hnb;have HZA:=Lib.hid (gV_ hza);have HZB:=Lib.hid (gV_ hzb);have HSA:=Lib.hid hza;have HSB:=Lib.hid hzb;clear ha hb hna hnb hza hzb)
  | (go_at_call 211;refine(eL_ _ _ m1 m2 _ _ _ _ _ (by exact HNA.out.below (B2 w1 _ _) (Nat.le_refl _)) (by exact HNB.out.below (B2 w1 _ _) (Nat.le_refl _)) (by exact(B2 w1 _ _).size) (by exact(B2 w1 _ _).size)).mono ?_;rintro e w2 ⟨rfl,hb2⟩)
  | (go_at_call 211;refine(eL_ _ _ m2 m1 _ _ _ _ _ (by exact HNB.out.below (B2 w1 _ _) (Nat.le_refl _)) (by exact HNA.out.below (B2 w1 _ _) (Nat.le_refl _)) (by exact(B2 w1 _ _).size) (by exact(B2 w1 _ _).size)).mono ?_;rintro e w2 ⟨rfl,hb2⟩))
 all_goals
  have hc:=iJ_ (b1:=true) (b2:=true) HSA.out HSB.out
  have hc2:=iJ_ (b1:=true) (b2:=false) HSA.out HSB.out
  have hc3:=iJ_ (b1:=false) (b2:=true) HSA.out HSB.out
  have hc4:=iJ_ (b1:=false) (b2:=false) HSA.out HSB.out
 ·refine bodyPost_ret (v:=.int .i64 (cmpI m2 m1)) (by simp[results,Tryz.results189,go_sem]) rfl ⟨cV_ (by simpa using hc (by first|assumption|(cases n1 <;> simp_all;done)) (by assumption)),hb1.trans (((B2 w1 _ _).trans (hb2.mono (B2 w1 _ _).size)).mono hb1.size)⟩
 ·refine bodyPost_ret (v:=.int .i64 (-1)) (by simp[results,Tryz.results189,go_sem]) rfl ⟨cV_ (by simpa using hc2 (by first|assumption|(cases n1 <;> simp_all;done)) (by assumption)),hb1.trans ((B2 w1 _ _).mono hb1.size)⟩
 ·refine bodyPost_ret (v:=.int .i64 1) (by simp[results,Tryz.results189,go_sem]) rfl ⟨cV_ (by simpa using hc3 (by first|assumption|(cases n1 <;> simp_all;done)) (by assumption)),hb1.trans ((B2 w1 _ _).mono hb1.size)⟩
 ·refine bodyPost_ret (v:=.int .i64 (cmpI m1 m2)) (by simp[results,Tryz.results189,go_sem]) rfl ⟨cV_ (by simpa using hc4 (by first|assumption|(cases n1 <;> simp_all;done)) (by assumption)),hb1.trans (((B2 w1 _ _).trans (hb2.mono (B2 w1 _ _).size)).mono hb1.size)⟩
theorem xZ_ (s:ByteArray) (w:World) (hs:s.size≤9223372036854775807) :
  Calls Tryz.prog 160 #[.string s] w fun e w'=>e=.returned (.bool (aK_ s).isSome)∧Below w.heap.size w w':=by
 rw[dI_]
 have hV:=fun W=>dK_ s W hs
 go_enter Tryz.func160,Tryz.ntmps160
 go_wp2_with (go_at_call 188;with_reducible refine(hV _).mono ?_;rintro e w1 ⟨rfl,hb1⟩)
 go_ret
 exact⟨rfl,hb1⟩
theorem pV_ (z:Int) (w:World) (hG:Glob w) (h0 : -9223372036854775808≤z) (h1:z≤9223372036854775807) :
  Calls Tryz.prog 128 #[.int .i64 z] w fun e w'=>e=.returned (.string (str z))∧Below w.heap.size w w':=by
 have hI:=fun W hG=>dC_ z W hG h0 h1
 generalize str z=s at hI⊢
 go_enter Tryz.func128,Tryz.ntmps128
 go_wp2_with (go_at_call 51;with_reducible refine(hI _ hG).mono ?_;rintro e w1 ⟨rfl,hb1⟩)
 go_ret
 exact⟨rfl,hb1⟩
theorem ns_inj {w:World} {v:Value} {xs ys:List Nat} {lo hi lo' hi':Nat} (h:Ns w v xs lo hi) (k:Ns w v ys lo' hi'):xs=ys:=by
 obtain⟨a,cap,rfl,_⟩:=id h
 have hl:xs.length=ys.length:=by
  obtain⟨a',cap',e,_⟩:=id k
  simp only[Value.slice.injEq] at e
  omega
 apply List.ext_getElem hl
 intro i h1 h2
 obtain⟨b,off,rfl,_,_,e1⟩:=h.at (k:=i) h1
 obtain⟨b',off',e,_,_,e2⟩:=k.at (k:=i) h2
 simp only[Option.some.injEq,Addr.mk.injEq,and_true] at e
 obtain⟨rfl,rfl⟩:=e
 rw[e1] at e2
 simp only[Option.some.injEq,Value.int.injEq,true_and] at e2
 omega
theorem sD_:∃μ:World→Value→Nat,∀w v n lo hi,Nm w v n lo hi→μ w v=n:=by
 refine⟨fun w v=>Classical.epsilon (fun n=>∃lo hi,Nm w v n lo hi),?_⟩
 intro w v n lo hi h
 obtain⟨lo',hi',h'⟩:=Classical.epsilon_spec (p:=fun n=>∃lo hi,Nm w v n lo hi) ⟨n,lo,hi,h⟩
 exact xJ_ (B:=10000) (by omega) (ns_inj h' h)
theorem jB_ {w:World} {v:Value} {n lo hi:Nat} (_h:Nm w v n lo hi):(dig 10000 n).length=0↔n=0:=by
 rw[List.length_eq_zero_iff,pN_ (by omega)]
theorem Gcd_ok (x y:Int) (w:World) (hG:Glob w) (hx:aG_ x=true) (hy:aG_ y=true) :
  Calls Tryz.prog 192 #[.string (str x),.string (str y)] w fun e w'=>(∃s n,outZ ((Nat.gcd x.natAbs y.natAbs:Nat):Int)=#[.string s,.int .i64 n]∧e=.returned (.tuple #[.string s,.int .i64 n]))∧Below w.heap.size w w':=by
 have hB:=fun W=>gD_ x y W (by simpa[aG_] using hx) (by simpa[aG_] using hy)
 obtain⟨μ,hμ⟩:=sD_
 have hMU:=Lib.hid hμ
 have hX:=gI_ hx
 have hY:=gI_ hy
 clear hμ
 generalize str x=sx at hB⊢
 generalize str y=sy at hB⊢
 go_enter Tryz.func192,Tryz.ntmps192
 go_wp2_with (go_at_call 210;with_reducible refine(hB _).mono ?_;rintro e w1 ⟨⟨va,vb,rfl,ha,hb⟩,hb1⟩;obtain⟨n1,m1,a1,c1,rfl,hna,hza⟩:=ha.form;obtain⟨n2,m2,a2,c2,rfl,hnb,hzb⟩:=hb.form;have HA:=Lib.hid ha.zg;have HB:=Lib.hid hb.zg;have HNA:=Lib.hid hna;have HNB:=Lib.hid hnb;have HZA:=Lib.hid (gV_ hza);have HZB:=Lib.hid (gV_ hzb);have HSA:=Lib.hid hza;have HSB:=Lib.hid hzb;have HG1:=Lib.hid (hG.below hb1);clear ha hb hna hnb hza hzb)
 have HP:=Lib.hid (PairAt.start w1 n1 n2 (.slice a1 (dig 10000 m1).length c1) (.slice a2 (dig 10000 m2).length c2)).drew
 go_region_held3 (fun W=>W.cell? ⟨w1.heap.size,1,none⟩=some (.slice a1 (dig 10000 m1).length c1)∧W.cell? ⟨w1.heap.size+1,1,none⟩=some (.slice a2 (dig 10000 m2).length c2)) (first|exact⟨HP.out.x1,HP.out.y1⟩) (first|fail)
 go_wp2
 obtain⟨W0,hW0⟩:∃W0,((w1.alloc (Obj.cells #[Value.bool n1,Value.slice a1 (dig 10000 m1).length c1] 245)).alloc (Obj.cells #[Value.bool n2,Value.slice a2 (dig 10000 m2).length c2] 245)).drew=W0:=⟨_,rfl⟩
 have hbW:Below w1.heap.size w1 W0:=by rw[←hW0];exact B2d w1 _ _
 have hw1:=hb1.size
 rw[hW0]
 clear hW0
 go_loopw [9,10,11,12] (fun k l _ _ wr=>∃(K L:Nat) (ka la:Option Addr) (kc lc:Nat),k=.slice ka (dig 10000 K).length kc∧l=.slice la (dig 10000 L).length lc∧Nm wr k K w.heap.size wr.heap.size∧Nm wr l L w.heap.size wr.heap.size∧K<10000^50∧L<10000^50∧Nat.gcd K L=Nat.gcd x.natAbs y.natAbs∧Below w.heap.size w wr)
  (fun _ l _ _ wr=>μ wr l)
 case atStart=>
  refine⟨m1,m2,a1,a2,c1,c2,rfl,rfl,(HNA.out.below hbW (Nat.le_refl _)).mono (Nat.le_refl _) hbW.size,(HNB.out.below hbW (Nat.le_refl _)).mono (Nat.le_refl _) hbW.size,?_,?_,?_,hb1.trans (hbW.mono hw1)⟩
  ·rw[HSA.out.2];exact hX
  ·rw[HSB.out.2];exact hY
  ·rw[HSA.out.2,HSB.out.2]
 case round=>
  obtain⟨K,L,ka,la,kc,lc,rfl,rfl,hk,hl,hK,hL,hgcd,hb⟩:=hrel
  have hfK:(dig 10000 K).length≤50:=(aQ_ (by omega) _ _).2 hK
  have hfL:(dig 10000 L).length≤50:=(aQ_ (by omega) _ _).2 hL
  have hpos:=jB_ hl
  have HK:=Lib.hid hk
  have HL:=Lib.hid hl
  have HGC:=Lib.hid hgcd
  have HKb:=Lib.hid hK
  have HLb:=Lib.hid hL
  have HGw:=Lib.hid (hG.below hb)
  have hwr:=hb.size
  clear hk hl hgcd hK hL
  rcases Nat.eq_zero_or_pos L with h0|h0
  ·have hz:=hpos.2 h0
   clear hpos
   rw[hz]
   go_wp2_with (go_at_call 213;refine(lH_ _ (K:Int) _ _ _ (by exact HGw.out) (by exact Zg.of (neg:=false) HK.out rfl) (Nat.le_refl _) (by show(dig 10000 K).length≤1000000;omega)).mono ?_;rintro e w3 ⟨⟨s,n,hs,rfl⟩,hb3⟩)
   have e:Nat.gcd x.natAbs y.natAbs=K:=by rw[←HGC.out,h0,Nat.gcd_zero_right]
   refine bodyPost_ret (v:=.tuple #[.string s,.int .i64 n]) ?_ rfl ⟨⟨s,n,by rw[e];exact hs,rfl⟩,hb.trans (hb3.mono hwr)⟩
   simp[results,Tryz.results192,go_sem]
  ·have hz:0<(dig 10000 L).length:=by omega
   clear hpos
   go_wp2_with (go_at_call 214;refine(iA_ _ _ K L _ _ _ _ _ (by exact HK.out) (by exact HL.out) (Nat.le_refl _) (Nat.le_refl _) (by omega) (by omega) h0).mono ?_;rintro e w3 ⟨⟨q,r,rfl,hq,hr⟩,hb3⟩;obtain⟨qa,qc,rfl⟩:∃a cap,q=.slice a (dig 10000 (K/L)).length cap:=(by obtain⟨a,cap,e,_⟩:=hq;exact⟨a,cap,e⟩);obtain⟨ra,rc,rfl⟩:∃a cap,r=.slice a (dig 10000 (K%L)).length cap:=(by obtain⟨a,cap,e,_⟩:=hr;exact⟨a,cap,e⟩);have HR:=Lib.hid hr;clear hq hr)
   have hlt:K%L<L:=Nat.mod_lt _ h0
   refine⟨⟨L,K%L,la,ra,lc,rc,rfl,rfl,(HL.out.below hb3 (Nat.le_refl _)).mono (Nat.le_refl _) hb3.size,HR.out.mono hwr (Nat.le_refl _),HLb.out,Nat.lt_trans hlt HLb.out,?_,hb.trans (hb3.mono hwr)⟩,?_⟩
   ·rw[←HGC.out,Nat.gcd_comm K L,Nat.gcd_rec L K,Nat.gcd_comm]
   ·rw[hMU.out _ _ _ _ _ HR.out,hMU.out _ _ _ _ _ HL.out];exact hlt
theorem yE_ {m:Nat} (h:m=(0:Int).natAbs):(dig 10000 m).length=0:=by
 rw[h];rfl
theorem hO_ {x b q r:Int} (h:x=b*q+r) (h0:0≤r) (h1:r<b):x/b=q∧x%b=r:=
 (Int.ediv_emod_unique (by omega)).2 ⟨by omega,h0,h1⟩
theorem eZ_ {x y q r:Int} (h:x=(y.natAbs:Int)*q+r) (h0:0≤r) (h1:r<y.natAbs):x/y=(if y<0 then -q else q)∧x%y=r:=by
 by_cases hy:y<0
 ·have hb:((y.natAbs:Nat):Int) = -y:=by omega
  rw[hb] at h h1
  have:=hO_ h h0 h1
  rw[Int.ediv_neg,Int.emod_neg] at this
  rw[if_pos hy]
  exact⟨by omega,this.2⟩
 ·have hb:((y.natAbs:Nat):Int)=y:=by omega
  rw[hb] at h h1
  rw[if_neg hy]
  exact hO_ h h0 h1
theorem oM_ {x y:Int} {n1 n2:Bool} {K L:Nat} (hx:n1=decide (x<0)∧K=x.natAbs) (hy:n2=decide (y<0)∧L=y.natAbs) (h0:0<L) (hc:n1=false∨K%L=0) :
  x/y=(if (n1 != n2)=true then -((K/L:Nat):Int) else ((K/L:Nat):Int))∧x%y=((K%L:Nat):Int):=by
 obtain⟨rfl,rfl⟩:=hx
 obtain⟨rfl,rfl⟩:=hy
 have hK:=Nat.div_add_mod x.natAbs y.natAbs
 have hr:=Nat.mod_lt x.natAbs h0
 generalize x.natAbs/y.natAbs=q at *
 generalize x.natAbs%y.natAbs=r at *
 have hKi:((y.natAbs:Nat):Int)*(q:Int)+r=x.natAbs:=by exact_mod_cast hK
 by_cases hx0:x<0
 ·have hr0:r=0:=by
   rcases hc with h|h
   ·simp at h;omega
   ·exact h
  subst hr0
  have:=eZ_ (x:=x) (y:=y) (q:=-(q:Int)) (r:=0) (by rw[Int.mul_neg];omega) (by omega) (by omega)
  refine⟨?_,by simpa using this.2⟩
  rw[this.1]
  by_cases hy0:y<0 <;> simp[hx0,hy0]
 ·have:=eZ_ (x:=x) (y:=y) (q:=(q:Int)) (r:=r) (by omega) (by omega) (by omega)
  refine⟨?_,this.2⟩
  rw[this.1]
  by_cases hy0:y<0 <;> simp[hx0,hy0]
theorem div_up {x y:Int} {n1 n2:Bool} {K L:Nat} (hx:n1=decide (x<0)∧K=x.natAbs) (hy:n2=decide (y<0)∧L=y.natAbs) (h0:0<L) (hc:n1=true) (hr1:K%L≠0) :
  x/y=(if (n1 != n2)=true then -((K/L+1:Nat):Int) else ((K/L+1:Nat):Int))∧x%y=((L-K%L:Nat):Int):=by
 obtain⟨rfl,rfl⟩:=hx
 obtain⟨rfl,rfl⟩:=hy
 have hK:=Nat.div_add_mod x.natAbs y.natAbs
 have hr:=Nat.mod_lt x.natAbs h0
 generalize x.natAbs/y.natAbs=q at *
 generalize x.natAbs%y.natAbs=r at *
 have hKi:((y.natAbs:Nat):Int)*(q:Int)+r=x.natAbs:=by exact_mod_cast hK
 have hx0:x<0:=by simpa using hc
 have:=eZ_ (x:=x) (y:=y) (q:=-((q+1:Nat):Int)) (r:=((y.natAbs-r:Nat):Int)) (by
  rw[Int.mul_neg,show((q+1:Nat):Int)=(q:Int)+1 from by omega,Int.mul_add,Int.mul_one];omega) (by omega) (by omega)
 refine⟨?_,this.2⟩
 rw[this.1]
 by_cases hy0:y<0 <;> simp[hx0,hy0]
theorem aDP (w:World):Calls Tryz.prog 237 #[] w fun e w'=>(∃v,e=.returned v∧Nm w' v 1 w.heap.size w'.heap.size)∧Below w.heap.size w w':=by
 go_enter Tryz.func237,Tryz.ntmps237
 go_wp2
 go_ret
 refine⟨⟨_,rfl,?_⟩,(Below.refl _ _).alloc (Nat.le_refl _) _⟩
 have h1:dig 10000 1=[1]:=by decide
 show Ns _ _ (dig 10000 1) _ _
 rw[h1]
 refine⟨_,1,rfl,by decide,by decide,by decide,fun h=>by simp at h,fun ad ha=>?_⟩
 simp only[Option.some.injEq] at ha
 subst ha
 refine⟨w.heap.size,0,rfl,Nat.le_refl _,by simp,?_⟩
 intro i u hu
 cases i with
 | zero=>simp at hu;subst hu;simp[go_sem]
 | succ i=>simp at hu
theorem dE_ (v:Value) (z:Int) (lo hi:Nat) (w:World) (hG:Glob w) (h:Zg w v z lo hi) (b:hi≤w.heap.size) (hs:aG_ z=true) :
  Calls Tryz.prog 213 #[v] w fun e w'=>(∃s,s=str z∧e=.returned (.tuple #[.string s,.int .i64 0]))∧Below w.heap.size w w':=by
 refine(lH_ v z lo hi w hG h b (oU_ hs)).mono ?_
 rintro e w' ⟨⟨s,n,h1,rfl⟩,hb⟩
 unfold outZ at h1
 rw[if_pos hs] at h1
 simp only[Array.mk.injEq,List.cons.injEq,Value.string.injEq,Value.int.injEq,true_and,and_true] at h1
 obtain⟨rfl,rfl⟩:=h1
 exact⟨⟨_,rfl,rfl⟩,hb⟩
theorem lK_ {z y:Int} (h:aG_ y=true) (hl:z.natAbs≤y.natAbs):aG_ z=true:=by
 unfold aG_ at h⊢
 simp only[decide_eq_true_eq] at h⊢
 rw[hB_ (by omega)] at h⊢
 omega
theorem cB_ {x:Int} (y:Int) (h:aG_ x=true):aG_ (x/y)=true:=lK_ h (Int.natAbs_ediv_le_natAbs x y)
theorem gH_ {x y:Int} (hy:y≠0) (h:aG_ y=true):aG_ (x%y)=true:=by
 refine lK_ h ?_
 have h1:=Int.emod_nonneg x hy
 have h2:=Int.emod_lt x hy
 omega
theorem div_A {x y:Int} {n2:Bool} {K L:Nat} (hx:false=decide (x<0)∧K=x.natAbs) (hy:n2=decide (y<0)∧L=y.natAbs) (h0:0<L) :
  x/y=(if n2=true then -((K/L:Nat):Int) else ((K/L:Nat):Int))∧x%y=if false=true then -((K%L:Nat):Int) else ((K%L:Nat):Int):=by
 have:=oM_ hx hy h0 (.inl rfl)
 cases n2 <;> simpa using this
theorem div_B {x y:Int} {n2:Bool} {K L:Nat} (hx:true=decide (x<0)∧K=x.natAbs) (hy:n2=decide (y<0)∧L=y.natAbs) (h0:0<L) (hm:K%L=0) :
  x/y=(if (!n2)=true then -((K/L:Nat):Int) else ((K/L:Nat):Int))∧x%y=if false=true then -((K%L:Nat):Int) else ((K%L:Nat):Int):=by
 have:=oM_ hx hy h0 (.inr hm)
 cases n2 <;> simpa using this
theorem div_C {x y:Int} {n2:Bool} {K L:Nat} (hx:true=decide (x<0)∧K=x.natAbs) (hy:n2=decide (y<0)∧L=y.natAbs) (h0:0<L) (hm:K%L≠0) :
  x/y=(if (!n2)=true then -((K/L+1:Nat):Int) else ((K/L+1:Nat):Int))∧x%y=if false=true then -((L-K%L:Nat):Int) else ((L-K%L:Nat):Int):=by
 have:=div_up hx hy h0 rfl hm
 cases n2 <;> simpa using this
theorem aBT (x:Int) (w:World) (_hG:Glob w) (hx:aG_ x=true) :
  Calls Tryz.prog 216 #[.string (str x),.string (str 0)] w fun e w'=>e=.returned (.tuple #[.string ⟨#[]⟩,.string ⟨#[]⟩,.int .i64 30])∧Below w.heap.size w w':=by
 have hB:=fun W=>gD_ x 0 W (by simpa[aG_] using hx) (by decide)
 generalize str x=sx at hB⊢
 generalize str 0=sy at hB⊢
 go_enter Tryz.func216,Tryz.ntmps216
 go_wp2_with (go_at_call 210;with_reducible refine(hB _).mono ?_;rintro e w1 ⟨⟨va,vb,rfl,ha,hb⟩,hb1⟩;obtain⟨n1,m1,a1,c1,rfl,hna,hza⟩:=ha.form;obtain⟨n2,m2,a2,c2,rfl,hnb,hzb⟩:=hb.form;have hm2:=yE_ hzb.2;clear ha hb hza hzb hna hnb)
 refine bodyPost_ret (v:=.tuple #[.string ⟨#[]⟩,.string ⟨#[]⟩,.int .i64 30]) ?_ rfl ⟨rfl,hb1.trans ((B2 w1 _ _).mono hb1.size)⟩
 simp[results,Tryz.results216,go_sem]
theorem Div_A (x y:Int) (w:World) (hG:Glob w) (hx:aG_ x=true) (hy:aG_ y=true) (hy0:y≠0) (hneg:¬x<0) :
  Calls Tryz.prog 216 #[.string (str x),.string (str y)] w fun e w'=>e=.returned (.tuple #[.string (str (x/y)),.string (str (x%y)),.int .i64 0])∧Below w.heap.size w w':=by
 have hB:=fun W=>gD_ x y W (by simpa[aG_] using hx) (by simpa[aG_] using hy)
 have hsd:=cB_ y hx
 have hsm:=gH_ (x:=x) hy0 hy
 have hL0:0<y.natAbs:=by omega
 generalize str x=sx at hB⊢
 generalize str y=sy at hB⊢
 obtain⟨sq,hsq⟩:∃s,s=str (x/y):=⟨_,rfl⟩
 obtain⟨sr,hsr⟩:∃s,s=str (x%y):=⟨_,rfl⟩
 rw[←hsq,←hsr]
 have HSQ:=Lib.hid hsq
 have HSR:=Lib.hid hsr
 clear hsq hsr
 have HX:=Lib.hid (dG_ hx)
 have HY:=Lib.hid (dG_ hy)
 go_enter Tryz.func216,Tryz.ntmps216
 go_wp2_with (first
  | (go_at_call 210;with_reducible refine(hB _).mono ?_;rintro e w1 ⟨⟨va,vb,rfl,ha,hb⟩,hb1⟩;obtain⟨n1,m1,a1,c1,rfl,hna,hza⟩:=ha.form;obtain⟨n2,m2,a2,c2,rfl,hnb,hzb⟩:=hb.form;have HA:=Lib.hid ha.zg;have HB:=Lib.hid hb.zg;have HNA:=Lib.hid hna;have HNB:=Lib.hid hnb;have HZA:=Lib.hid (gV_ hza);have HZB:=Lib.hid (gV_ hzb);have HSA:=Lib.hid hza;have HSB:=Lib.hid hzb;have HG1:=Lib.hid (hG.below hb1);have hm2:0<(dig 10000 m2).length:=(by have h1:=jB_ hnb;have h2:=hzb.2;omega);have hf1:(dig 10000 m1).length≤50:=(by rw[hza.2];exact HX.out);have hf2:(dig 10000 m2).length≤50:=(by rw[hzb.2];exact HY.out);obtain rfl:n1=false:=(by rw[hza.1];exact decide_eq_false hneg);clear ha hb hna hnb hza hzb)
  | (go_at_call 214;refine(iA_ _ _ m1 m2 _ _ _ _ _ (by exact HNA.out.below (B2 w1 _ _) (Nat.le_refl _)) (by exact HNB.out.below (B2 w1 _ _) (Nat.le_refl _)) (by exact(B2 w1 _ _).size) (by exact(B2 w1 _ _).size) (by omega) (by omega) (by rw[HSB.out.2];exact hL0)).mono ?_;rintro e w2 ⟨⟨q,r,rfl,hq,hr⟩,hb2⟩;obtain⟨qa,qc,rfl⟩:∃a cap,q=.slice a (dig 10000 (m1/m2)).length cap:=(by obtain⟨a,cap,e,_⟩:=hq;exact⟨a,cap,e⟩);obtain⟨ra,rc,rfl⟩:∃a cap,r=.slice a (dig 10000 (m1%m2)).length cap:=(by obtain⟨a,cap,e,_⟩:=hr;exact⟨a,cap,e⟩);have hrz:=jB_ hr;have hrr:True:=trivial;have HQ:=Lib.hid hq;have HR:=Lib.hid hr;clear hq hr;have hbw:Below w1.heap.size w1 w2:=(B2 w1 _ _).trans (hb2.mono (B2 w1 _ _).size);have HG2:=Lib.hid (HG1.out.below hbw);have HP2:=Lib.hid ((PairAt.start w1 false n2 (.slice a1 (dig 10000 m1).length c1) (.slice a2 (dig 10000 m2).length c2)).below hb2);have q1:=HP2.out.x0;have q2:=HP2.out.x1;have q3:=HP2.out.y0;have q4:=HP2.out.y1;clear hrz;have HD:=Lib.hid (div_A HSA.out HSB.out (by rw[HSB.out.2];exact hL0)))
  | (go_at_call 213;refine(dE_ _ (x/y) _ _ _ (by exact HG2.out) (by exact Zg.of HQ.out HD.out.1) (Nat.le_refl _) hsd).mono ?_;rintro e w3 ⟨⟨s,hs,rfl⟩,hb3⟩;obtain rfl:s=sq:=hs.trans HSQ.out.symm;clear hs;have HG3:=Lib.hid (HG2.out.below hb3);have HR3:=Lib.hid (HR.out.below hb3 (Nat.le_refl _)))
  | (go_at_call 213;refine(dE_ _ (x%y) _ _ _ (by exact HG3.out) (by exact Zg.of (neg:=false) HR3.out HD.out.2) (by exact hb3.size) hsm).mono ?_;rintro e w4 ⟨⟨s',hs,rfl⟩,hb4⟩;obtain rfl:s'=sr:=hs.trans HSR.out.symm;clear hs))
 refine bodyPost_ret (v:=.tuple #[.string s,.string s',.int .i64 0]) ?_ rfl ⟨rfl,(hb1.trans (hbw.mono hb1.size)).trans ((hb3.trans (hb4.mono hb3.size)).mono (Nat.le_trans hb1.size hbw.size))⟩
 simp[results,Tryz.results216,go_sem]
theorem Div_B (x y:Int) (w:World) (hG:Glob w) (hx:aG_ x=true) (hy:aG_ y=true) (hy0:y≠0) (hneg:x<0) (hmod:x.natAbs%y.natAbs=0) :
  Calls Tryz.prog 216 #[.string (str x),.string (str y)] w fun e w'=>e=.returned (.tuple #[.string (str (x/y)),.string (str (x%y)),.int .i64 0])∧Below w.heap.size w w':=by
 have hB:=fun W=>gD_ x y W (by simpa[aG_] using hx) (by simpa[aG_] using hy)
 have hsd:=cB_ y hx
 have hsm:=gH_ (x:=x) hy0 hy
 have hL0:0<y.natAbs:=by omega
 generalize str x=sx at hB⊢
 generalize str y=sy at hB⊢
 obtain⟨sq,hsq⟩:∃s,s=str (x/y):=⟨_,rfl⟩
 obtain⟨sr,hsr⟩:∃s,s=str (x%y):=⟨_,rfl⟩
 rw[←hsq,←hsr]
 have HSQ:=Lib.hid hsq
 have HSR:=Lib.hid hsr
 clear hsq hsr
 have HX:=Lib.hid (dG_ hx)
 have HY:=Lib.hid (dG_ hy)
 go_enter Tryz.func216,Tryz.ntmps216
 go_wp2_with (first
  | (go_at_call 210;with_reducible refine(hB _).mono ?_;rintro e w1 ⟨⟨va,vb,rfl,ha,hb⟩,hb1⟩;obtain⟨n1,m1,a1,c1,rfl,hna,hza⟩:=ha.form;obtain⟨n2,m2,a2,c2,rfl,hnb,hzb⟩:=hb.form;have HA:=Lib.hid ha.zg;have HB:=Lib.hid hb.zg;have HNA:=Lib.hid hna;have HNB:=Lib.hid hnb;have HZA:=Lib.hid (gV_ hza);have HZB:=Lib.hid (gV_ hzb);have HSA:=Lib.hid hza;have HSB:=Lib.hid hzb;have HG1:=Lib.hid (hG.below hb1);have hm2:0<(dig 10000 m2).length:=(by have h1:=jB_ hnb;have h2:=hzb.2;omega);have hf1:(dig 10000 m1).length≤50:=(by rw[hza.2];exact HX.out);have hf2:(dig 10000 m2).length≤50:=(by rw[hzb.2];exact HY.out);obtain rfl:n1=true:=(by rw[hza.1];exact decide_eq_true hneg);clear ha hb hna hnb hza hzb)
  | (go_at_call 214;refine(iA_ _ _ m1 m2 _ _ _ _ _ (by exact HNA.out.below (B2 w1 _ _) (Nat.le_refl _)) (by exact HNB.out.below (B2 w1 _ _) (Nat.le_refl _)) (by exact(B2 w1 _ _).size) (by exact(B2 w1 _ _).size) (by omega) (by omega) (by rw[HSB.out.2];exact hL0)).mono ?_;rintro e w2 ⟨⟨q,r,rfl,hq,hr⟩,hb2⟩;obtain⟨qa,qc,rfl⟩:∃a cap,q=.slice a (dig 10000 (m1/m2)).length cap:=(by obtain⟨a,cap,e,_⟩:=hq;exact⟨a,cap,e⟩);obtain⟨ra,rc,rfl⟩:∃a cap,r=.slice a (dig 10000 (m1%m2)).length cap:=(by obtain⟨a,cap,e,_⟩:=hr;exact⟨a,cap,e⟩);have hrz:=jB_ hr;have hrr:(dig 10000 (m1%m2)).length=0:=(by rw[hrz,HSA.out.2,HSB.out.2];exact hmod);rw[hrr] at hr;have HQ:=Lib.hid hq;have HR:=Lib.hid hr;clear hq hr;have hbw:Below w1.heap.size w1 w2:=(B2 w1 _ _).trans (hb2.mono (B2 w1 _ _).size);have HG2:=Lib.hid (HG1.out.below hbw);have HP2:=Lib.hid ((PairAt.start w1 true n2 (.slice a1 (dig 10000 m1).length c1) (.slice a2 (dig 10000 m2).length c2)).below hb2);have q1:=HP2.out.x0;have q2:=HP2.out.x1;have q3:=HP2.out.y0;have q4:=HP2.out.y1;clear hrz;have HD:=Lib.hid (div_B HSA.out HSB.out (by rw[HSB.out.2];exact hL0) (by rw[HSA.out.2,HSB.out.2];exact hmod)))
  | (go_at_call 213;refine(dE_ _ (x/y) _ _ _ (by exact HG2.out) (by exact Zg.of HQ.out HD.out.1) (Nat.le_refl _) hsd).mono ?_;rintro e w3 ⟨⟨s,hs,rfl⟩,hb3⟩;obtain rfl:s=sq:=hs.trans HSQ.out.symm;clear hs;have HG3:=Lib.hid (HG2.out.below hb3);have HR3:=Lib.hid (HR.out.below hb3 (Nat.le_refl _)))
  | (go_at_call 213;refine(dE_ _ (x%y) _ _ _ (by exact HG3.out) (by exact Zg.of (neg:=false) HR3.out HD.out.2) (by exact hb3.size) hsm).mono ?_;rintro e w4 ⟨⟨s',hs,rfl⟩,hb4⟩;obtain rfl:s'=sr:=hs.trans HSR.out.symm;clear hs))
 refine bodyPost_ret (v:=.tuple #[.string s,.string s',.int .i64 0]) ?_ rfl ⟨rfl,(hb1.trans (hbw.mono hb1.size)).trans ((hb3.trans (hb4.mono hb3.size)).mono (Nat.le_trans hb1.size hbw.size))⟩
 simp[results,Tryz.results216,go_sem]
theorem Div_C (x y:Int) (w:World) (hG:Glob w) (hx:aG_ x=true) (hy:aG_ y=true) (hy0:y≠0) (hneg:x<0) (hmod:x.natAbs%y.natAbs≠0) :
  Calls Tryz.prog 216 #[.string (str x),.string (str y)] w fun e w'=>e=.returned (.tuple #[.string (str (x/y)),.string (str (x%y)),.int .i64 0])∧Below w.heap.size w w':=by
 have hB:=fun W=>gD_ x y W (by simpa[aG_] using hx) (by simpa[aG_] using hy)
 have hsd:=cB_ y hx
 have hsm:=gH_ (x:=x) hy0 hy
 have hL0:0<y.natAbs:=by omega
 generalize str x=sx at hB⊢
 generalize str y=sy at hB⊢
 obtain⟨sq,hsq⟩:∃s,s=str (x/y):=⟨_,rfl⟩
 obtain⟨sr,hsr⟩:∃s,s=str (x%y):=⟨_,rfl⟩
 rw[←hsq,←hsr]
 have HSQ:=Lib.hid hsq
 have HSR:=Lib.hid hsr
 clear hsq hsr
 have HX:=Lib.hid (dG_ hx)
 have HY:=Lib.hid (dG_ hy)
 go_enter Tryz.func216,Tryz.ntmps216
 go_wp2_with (first
  | (go_at_call 210;with_reducible refine(hB _).mono ?_;rintro e w1 ⟨⟨va,vb,rfl,ha,hb⟩,hb1⟩;obtain⟨n1,m1,a1,c1,rfl,hna,hza⟩:=ha.form;obtain⟨n2,m2,a2,c2,rfl,hnb,hzb⟩:=hb.form;have HA:=Lib.hid ha.zg;have HB:=Lib.hid hb.zg;have HNA:=Lib.hid hna;have HNB:=Lib.hid hnb;have HZA:=Lib.hid (gV_ hza);have HZB:=Lib.hid (gV_ hzb);have HSA:=Lib.hid hza;have HSB:=Lib.hid hzb;have HG1:=Lib.hid (hG.below hb1);have hm2:0<(dig 10000 m2).length:=(by have h1:=jB_ hnb;have h2:=hzb.2;omega);have hf1:(dig 10000 m1).length≤50:=(by rw[hza.2];exact HX.out);have hf2:(dig 10000 m2).length≤50:=(by rw[hzb.2];exact HY.out);obtain rfl:n1=true:=(by rw[hza.1];exact decide_eq_true hneg);clear ha hb hna hnb hza hzb)
  | (go_at_call 214;refine(iA_ _ _ m1 m2 _ _ _ _ _ (by exact HNA.out.below (B2 w1 _ _) (Nat.le_refl _)) (by exact HNB.out.below (B2 w1 _ _) (Nat.le_refl _)) (by exact(B2 w1 _ _).size) (by exact(B2 w1 _ _).size) (by omega) (by omega) (by rw[HSB.out.2];exact hL0)).mono ?_;rintro e w2 ⟨⟨q,r,rfl,hq,hr⟩,hb2⟩;obtain⟨qa,qc,rfl⟩:∃a cap,q=.slice a (dig 10000 (m1/m2)).length cap:=(by obtain⟨a,cap,e,_⟩:=hq;exact⟨a,cap,e⟩);obtain⟨ra,rc,rfl⟩:∃a cap,r=.slice a (dig 10000 (m1%m2)).length cap:=(by obtain⟨a,cap,e,_⟩:=hr;exact⟨a,cap,e⟩);have hrz:=jB_ hr;have hrr:0<(dig 10000 (m1%m2)).length:=(by rw[HSA.out.2,HSB.out.2] at hrz⊢;omega);have HQ:=Lib.hid hq;have HR:=Lib.hid hr;clear hq hr;have hbw:Below w1.heap.size w1 w2:=(B2 w1 _ _).trans (hb2.mono (B2 w1 _ _).size);have HG2:=Lib.hid (HG1.out.below hbw);have HP2:=Lib.hid ((PairAt.start w1 true n2 (.slice a1 (dig 10000 m1).length c1) (.slice a2 (dig 10000 m2).length c2)).below hb2);have q1:=HP2.out.x0;have q2:=HP2.out.x1;have q3:=HP2.out.y0;have q4:=HP2.out.y1;clear hrz;have HD:=Lib.hid (div_C HSA.out HSB.out (by rw[HSB.out.2];exact hL0) (by rw[HSA.out.2,HSB.out.2];exact hmod)))
  | fail)
 have hm2p:0<m2:=by rw[HSB.out.2];exact hL0
 have hle:Hid (m1%m2≤m2):=Nat.le_of_lt (Nat.mod_lt _ hm2p)
 have HF1:Hid (Few 1):=by show _≤_;decide
 have HF2:Hid (Few m2):=by show _≤_;omega
 have HFR:Hid (Few (m1%m2)):=by
  have:=aR_ (B:=10000) (by omega) hle.out
  show _≤_;omega
 have HFQ:Hid (Few (m1/m2)):=by
  have:=aR_ (B:=10000) (by omega) (Nat.div_le_self m1 m2)
  show _≤_;omega
 have hS:w2.drew.cell? ⟨w1.heap.size+1,1,none⟩=some (.slice a2 (dig 10000 m2).length c2)∧Below w2.heap.size w2 w2.drew:=⟨q4,(Below.refl _ _).drew⟩
 go_region_held3 (fun W=>W.cell? ⟨w1.heap.size+1,1,none⟩=some (.slice a2 (dig 10000 m2).length c2)∧Below w2.heap.size w2 W) (first|exact hS) (first
  | (go_at_call 237;refine(aDP _).mono ?_;rintro e wo ⟨⟨vo,rfl,hvo⟩,hbo⟩;obtain⟨oa,oc,rfl⟩:∃a cap,vo=.slice a (dig 10000 1).length cap:=(by obtain⟨a,cap,e,_⟩:=hvo;exact⟨a,cap,e⟩);have HO:=Lib.hid hvo;clear hvo;have hS:=(⟨(hbo.cell (p:=⟨w1.heap.size+1,1,none⟩) (World.block_lt_of_cell? _ _ hS.1)).trans hS.1,hS.2.trans (hbo.mono hS.2.size)⟩:wo.cell? ⟨w1.heap.size+1,1,none⟩=some (.slice a2 (dig 10000 m2).length c2)∧Below w2.heap.size w2 wo))
  | (go_at_call 230;refine(qQ_ _ _ (m1/m2) 1 _ _ _ _ _ (by exact HQ.out.below hS.2 (Nat.le_refl _)) (by first | exact HO.out | exact HO.out.below hbm (Nat.le_refl _)) (by exact hS.2.size) (by first | exact Nat.le_refl _ | exact hbm.size) (by exact HFQ.out) (by exact HF1.out)).mono ?_;rintro e wp ⟨⟨vp,rfl,hvp⟩,hbp⟩;obtain⟨pa,pc,rfl⟩:∃a cap,vp=.slice a (dig 10000 (m1/m2+1)).length cap:=(by obtain⟨a,cap,e,_⟩:=hvp;exact⟨a,cap,e⟩);have HPl:=Lib.hid hvp;clear hvp;have hS:=(⟨(hbp.cell (p:=⟨w1.heap.size+1,1,none⟩) (World.block_lt_of_cell? _ _ hS.1)).trans hS.1,hS.2.trans (hbp.mono hS.2.size)⟩:wp.cell? ⟨w1.heap.size+1,1,none⟩=some (.slice a2 (dig 10000 m2).length c2)∧Below w2.heap.size w2 wp))
  | (go_at_call 231;refine(gQ_ _ _ m2 (m1%m2) _ _ _ _ _ (by exact(HNB.out.below hbw (Nat.le_refl _)).below hS.2 hbw.size) (by exact HR.out.below hS.2 (Nat.le_refl _)) (by exact Nat.le_trans hbw.size hS.2.size) (by exact hS.2.size) (by exact HF2.out) (by exact HFR.out) (by exact hle.out)).mono ?_;rintro e wm ⟨⟨vm,rfl,hvm⟩,hbm⟩;obtain⟨ma,mc,rfl⟩:∃a cap,vm=.slice a (dig 10000 (m2-m1%m2)).length cap:=(by obtain⟨a,cap,e,_⟩:=hvm;exact⟨a,cap,e⟩);have HM:=Lib.hid hvm;clear hvm;have hS:=(⟨(hbm.cell (p:=⟨w1.heap.size+1,1,none⟩) (World.block_lt_of_cell? _ _ hS.1)).trans hS.1,hS.2.trans (hbm.mono hS.2.size)⟩:wm.cell? ⟨w1.heap.size+1,1,none⟩=some (.slice a2 (dig 10000 m2).length c2)∧Below w2.heap.size w2 wm)))
 all_goals
  have HP4:=HP2.out.below hS.2
  have q5:=HP4.x0
  have q6:=HP4.y0
  clear q1 q2 q3 q4
  go_wp2_with (first
   | (go_at_call 213;refine(dE_ _ (x/y) _ _ _ (by exact HG2.out.below hS.2) (by first | exact Zg.of HPl.out HD.out.1 | exact Zg.of (HPl.out.below hbm (Nat.le_refl _)) HD.out.1) (by first | exact Nat.le_refl _ | exact hbm.size) hsd).mono ?_;rintro e w3 ⟨⟨s,hs,rfl⟩,hb3⟩;obtain rfl:s=sq:=hs.trans HSQ.out.symm;clear hs;have HG3:=Lib.hid ((HG2.out.below hS.2).below hb3);have HR3:Hid (Nm w3 (.slice ma (dig 10000 (m2-m1%m2)).length mc) (m2-m1%m2) 0 w3.heap.size):=(by first | exact((HM.out.mono (Nat.zero_le _) (Nat.le_refl _)).below hb3 (Nat.le_refl _)).mono (Nat.le_refl _) hb3.size | exact(((HM.out.below hbp (Nat.le_refl _)).mono (Nat.zero_le _) hbp.size).below hb3 (Nat.le_refl _)).mono (Nat.le_refl _) hb3.size | exact(((HM.out.below (hbo.trans (hbp.mono hbo.size)) (Nat.le_refl _)).mono (Nat.zero_le _) (Nat.le_trans hbo.size hbp.size)).below hb3 (Nat.le_refl _)).mono (Nat.le_refl _) hb3.size))
   | (go_at_call 213;refine(dE_ _ (x%y) _ _ _ (by exact HG3.out) (by exact Zg.of (neg:=false) HR3.out HD.out.2) (Nat.le_refl _) hsm).mono ?_;rintro e w4 ⟨⟨s',hs,rfl⟩,hb4⟩;obtain rfl:s'=sr:=hs.trans HSR.out.symm;clear hs))
  refine bodyPost_ret (v:=.tuple #[.string s,.string s',.int .i64 0]) ?_ rfl ⟨rfl,(hb1.trans (hbw.mono hb1.size)).trans ((hS.2.trans ((hb3.trans (hb4.mono hb3.size)).mono hS.2.size)).mono (Nat.le_trans hb1.size hbw.size))⟩
  simp[results,Tryz.results216,go_sem]
theorem Div_ok (x y:Int) (w:World) (hG:Glob w) (hx:aG_ x=true) (hy:aG_ y=true) (hy0:y≠0) :
  Calls Tryz.prog 216 #[.string (str x),.string (str y)] w fun e w'=>e=.returned (.tuple #[.string (str (x/y)),.string (str (x%y)),.int .i64 0])∧Below w.heap.size w w':=by
 by_cases hneg:x<0
 ·by_cases hmod:x.natAbs%y.natAbs=0
  ·exact Div_B x y w hG hx hy hy0 hneg hmod
  ·exact Div_C x y w hG hx hy hy0 hneg hmod
 ·exact Div_A x y w hG hx hy hy0 hneg
end Go.Proofs.YtdkaohphbgdkpaaGreatDoor
namespace Go.Proofs.YtdkaohphbgdkpaaGreatDoor
theorem vN_ {p q:Int} (hq:0<q):(Rat.divInt p q).num=p/((Nat.gcd p.natAbs q.natAbs:Nat):Int):=by
 rw[Rat.num_divInt,Int.sign_eq_one_of_pos hq,Int.one_mul,Int.gcd_comm]
 rfl
theorem xL_ {p q:Int} (hq:0<q):((Rat.divInt p q).den:Int)=q/((Nat.gcd p.natAbs q.natAbs:Nat):Int):=by
 rw[Rat.den_divInt,if_neg (by omega),Int.natCast_ediv,Int.gcd_comm]
 congr 1
 omega
theorem aDR {p q:Int} (hq:q<0):(Rat.divInt p q).num = -p/((Nat.gcd (-p).natAbs (-q).natAbs:Nat):Int):=by
 rw[←Rat.neg_divInt_neg]
 exact vN_ (by omega)
theorem aEL {p q:Int} (hq:q<0):((Rat.divInt p q).den:Int) = -q/((Nat.gcd (-p).natAbs (-q).natAbs:Nat):Int):=by
 rw[←Rat.neg_divInt_neg]
 exact xL_ (by omega)
def qN (o:Option Rat):ByteArray:=match o with|some r=>str r.num|none=>⟨#[]⟩
def qD (o:Option Rat):ByteArray:=match o with|some r=>str (r.den:Int)|none=>⟨#[]⟩
def qE (o:Option Rat):Int:=match o with|some _=>0|none=>40
theorem wT_ {p q:Int} (hq:q≠0):0<Nat.gcd p.natAbs q.natAbs:=Nat.gcd_pos_of_pos_right _ (by omega)
theorem aAU {p q:Int} (hq:q≠0):Nat.gcd p.natAbs q.natAbs≤q.natAbs:=Nat.gcd_le_right _ (by omega)
def jD_ (p q:Int):Option Rat:=if q=0 then none else some (Rat.divInt p q)
def opS (o:Option Int):ByteArray:=match o with|some z=>if aG_ z=true then str z else ⟨#[]⟩|none=>⟨#[]⟩
def opN (o:Option Int):Int:=match o with|some z=>if aG_ z=true then 0 else 30|none=>30
theorem iB_:opS none=⟨#[]⟩:=rfl
theorem iC_:opN none=30:=rfl
theorem bK_ {z:Int} (h:aG_ z=true):opS (some z)=str z:=by unfold opS;exact if_pos h
theorem jA_ {z:Int} (h:aG_ z=true):opN (some z)=0:=by unfold opN;exact if_pos h
def addO (a b:ByteArray):Option Int:=match aK_ a,aK_ b with|some x,some y=>some (x+y)|_,_=>none
def subO (a b:ByteArray):Option Int:=match aK_ a,aK_ b with|some x,some y=>some (x-y)|_,_=>none
def gcdO (a b:ByteArray):Option Int:=match aK_ a,aK_ b with|some x,some y=>some ((Nat.gcd x.natAbs y.natAbs:Nat):Int)|_,_=>none
def divO (a b:ByteArray):Option Int:=match aK_ a,aK_ b with|some x,some y=>if y=0 then none else some (x/y)|_,_=>none
def modO (a b:ByteArray):Option Int:=match aK_ a,aK_ b with|some x,some y=>if y=0 then none else some (x%y)|_,_=>none
def cmpO (a b:ByteArray):Int:=match aK_ a,aK_ b with|some x,some y=>cmpI x y|_,_=>0
def Sz (a:ByteArray):Prop:=a.size≤281474976710656
theorem Sz.le {a:ByteArray} (h:Sz a):a.size≤9223372036854775807:=by unfold Sz at h;omega
def hR_ (a b:ByteArray):Option Rat:=match aK_ a,aK_ b with|some p,some q=>jD_ p q|_,_=>none
theorem uY_ (r:Rat):qN (some r)=str r.num:=rfl
theorem vA_ (r:Rat):qD (some r)=str (r.den:Int):=rfl
theorem uZ_ (r:Rat):qE (some r)=0:=rfl
theorem kJ_ {a b:ByteArray} {p q:Int} (ha:aK_ a=some p) (hb:aK_ b=some q):hR_ a b=jD_ p q:=by unfold hR_;rw[ha,hb]
theorem sG_ {a b:ByteArray} (h:aK_ a=none∨aK_ b=none):hR_ a b=none:=by
 unfold hR_
 rcases h with h|h
 ·rw[h]
 ·cases aK_ a <;> rw[h]
end Go.Proofs.YtdkaohphbgdkpaaGreatDoor
namespace Go.Proofs.YtdkaohphbgdkpaaGreatDoor
open Go.RowKit Go.Shelf
attribute [local go_sem] Oper.semAt_some
structure IOps (w:World):Prop where
 val:∀{a:ByteArray},Sz a→∀W,Below w.heap.size w W→Calls Tryz.prog 160 #[.string a] W fun e W'=>e=.returned (.bool (aX_ a.data.toList))∧Below W.heap.size W W'
 cmp:∀{a b:ByteArray},Sz a→Sz b→∀W,Below w.heap.size w W→Calls Tryz.prog 189 #[.string a,.string b] W fun e W'=>e=.returned (.int .i64 (cmpO a b))∧Below W.heap.size W W'
 gcd:∀{a b:ByteArray},Sz a→Sz b→∀W,Below w.heap.size w W→Calls Tryz.prog 192 #[.string a,.string b] W fun e W'=>e=.returned (.tuple #[.string (opS (gcdO a b)),.int .i64 (opN (gcdO a b))])∧Below W.heap.size W W'
 sub:∀{a b:ByteArray},Sz a→Sz b→∀W,Below w.heap.size w W→Calls Tryz.prog 191 #[.string a,.string b] W fun e W'=>e=.returned (.tuple #[.string (opS (subO a b)),.int .i64 (opN (subO a b))])∧Below W.heap.size W W'
 div:∀{a b:ByteArray},Sz a→Sz b→∀W,Below w.heap.size w W→Calls Tryz.prog 216 #[.string a,.string b] W fun e W'=>e=.returned (.tuple #[.string (opS (divO a b)),.string (opS (modO a b)),.int .i64 (opN (divO a b))])∧Below W.heap.size W W'
theorem IOps.below {w w':World} (h:IOps w) (hb:Below w.heap.size w w'):IOps w' where
 val ha W hk:=h.val ha W (hb.trans (hk.mono hb.size))
 cmp ha hb' W hk:=h.cmp ha hb' W (hb.trans (hk.mono hb.size))
 gcd ha hb' W hk:=h.gcd ha hb' W (hb.trans (hk.mono hb.size))
 sub ha hb' W hk:=h.sub ha hb' W (hb.trans (hk.mono hb.size))
 div ha hb' W hk:=h.div ha hb' W (hb.trans (hk.mono hb.size))
theorem lI_:Sz ⟨#[48]⟩:=by unfold Sz;decide
theorem aBW:Sz ⟨#[]⟩:=by unfold Sz;decide
theorem uB_:(⟨#[48]⟩:ByteArray)=str 0:=by rfl
theorem lS_:aK_ ⟨#[48]⟩=some 0:=by rw[uB_,dJ_,if_pos (by decide)]
theorem rE_ {d:ByteArray} {q:Int} (h:aK_ d=some q):cmpO d ⟨#[48]⟩=cmpI q 0:=by unfold cmpO;rw[h,lS_]
theorem oK_ {p q:Int} (hq:aG_ q=true) (h:q≠0):aG_ ((Nat.gcd p.natAbs q.natAbs:Nat):Int)=true:=lK_ hq (by rw[Int.natAbs_natCast];exact aAU h)
theorem aAA (z:Int):(str z).toList=txt z:=by
 rw[Lib.toList_data,cY_]
theorem tI_ {z:Int} : ((str z).toList == [48])=decide (z=0):=by
 rw[aAA,show([48]:List UInt8)=txt 0 by decide]
 by_cases h:z=0
 ·rw[h];decide
 ·rw[decide_eq_false h]
  exact beq_eq_false_iff_ne.2 fun e=>h (aCU e)
def stS (b:Bool) (o:Option Int):ByteArray:=if b=true then ⟨#[]⟩ else opS o
def stB (b:Bool) (o:Option Int):Bool:=b||(opN o != 0)
theorem kI_ (o:Option Int):Sz (opS o):=by
 unfold opS
 cases o with
 | none=>exact aBW
 | some z=>
  by_cases h:aG_ z=true
  ·simp only[h]
   unfold Sz
   rw[if_pos trivial,hV_]
   have:=kA_ z
   have:nDig z.natAbs≤200:=by simpa[aG_] using h
   omega
  ·simp only[h]
   exact aBW
theorem nB_ (o:Option Int):stS false o=opS o:=rfl
theorem nC_ {z:Int} (h:aG_ z=true):stB false (some z)=false:=by unfold stB;rw[jA_ h];rfl
theorem do_q (K:Nat) (o:Option Int) {n N:Nat} {b:Bool} {w W:World} (x y:ByteArray) (h:WkAt n N b w W)
  (hent:∀(args:Array Value) (w:World),(callFunc K args).run Tryz.prog w=.ok (.enter K args) w)
  (hK:b=false→Calls Tryz.prog K #[.string x,.string y] W fun e W'=>e=.returned (.tuple #[.string (opS o),.int .i64 (opN o)])∧Below W.heap.size W W') :
  Calls Tryz.prog 190 #[.pointer (some ⟨N,0,none⟩),.func (.func K) #[] #[],.string x,.string y] W fun e W'=>e=.returned (.string (stS b o))∧WkTo n N (stB b o) w W W':=
 do_any K x y (opS o) (opN o) h hent hK
theorem quot1 {x y:ByteArray} {w:World} (zx:Sz x) (zy:Sz y) (hi:IOps w) :
  Calls Tryz.prog 215 #[.string x,.string y] w fun e W'=>e=.returned (.tuple #[.string (opS (divO x y)),.int .i64 (opN (divO x y))])∧Below w.heap.size w W':=by
 have hd:=Lib.hid (hi.div zx zy w (Below.refl _ _))
 clear hi
 go_enter Tryz.func215,Tryz.ntmps215
 go_wp2_with (go_at_call 216;with_reducible refine(hd.out).mono ?_;rintro e w1 ⟨rfl,h1⟩)
 refine bodyPost_ret (v:=.tuple #[.string (opS (divO x y)),.int .i64 (opN (divO x y))]) ?_ rfl ⟨rfl,h1⟩
 simp[results,Tryz.results215,go_sem]
theorem rW_ {n N:Nat} {b:Bool} {x y:ByteArray} {w W:World} (zx:Sz x) (zy:Sz y) (h:WkAt n N b w W) (hi:IOps W) :
  Calls Tryz.prog 193 #[.pointer (some ⟨N,0,none⟩),.string x,.string y] W fun e W'=>e=.returned (.string (stS b (divO x y)))∧WkTo n N (stB b (divO x y)) w W W':=by
 have hd:=Lib.hid (do_q 215 (divO x y) x y h (enters_of Tryz.func215 (by kernel_rfl) rfl) (fun _=>quot1 zx zy hi))
 clear h hi
 go_enter Tryz.func193,Tryz.ntmps193
 go_wp2_with (go_at_call 190;with_reducible refine(hd.out).mono ?_;rintro e w1 ⟨rfl,h1⟩)
 go_ret
 exact⟨rfl,h1⟩
theorem do_s (K:Nat) {z:Int} {o:Option Int} {n N:Nat} {w W:World} (x y:ByteArray) (h:WkAt n N false w W) (e:o=some z) (hs:aG_ z=true)
  (hent:∀(args:Array Value) (w:World),(callFunc K args).run Tryz.prog w=.ok (.enter K args) w)
  (hK:Calls Tryz.prog K #[.string x,.string y] W fun e W'=>e=.returned (.tuple #[.string (opS o),.int .i64 (opN o)])∧Below W.heap.size W W') :
  Calls Tryz.prog 190 #[.pointer (some ⟨N,0,none⟩),.func (.func K) #[] #[],.string x,.string y] W fun e W'=>e=.returned (.string (str z))∧WkTo n N false w W W':=by
 have hd:=do_q K o x y h hent (fun _=>hK)
 rw[e,nB_,bK_ hs,nC_ hs] at hd
 exact hd
theorem fG_ {z:Int} {n N:Nat} {x y:ByteArray} {w W:World} (zx:Sz x) (zy:Sz y) (h:WkAt n N false w W) (hi:IOps W) (e:divO x y=some z) (hs:aG_ z=true) :
  Calls Tryz.prog 193 #[.pointer (some ⟨N,0,none⟩),.string x,.string y] W fun e W'=>e=.returned (.string (str z))∧WkTo n N false w W W':=by
 have hd:=rW_ zx zy h hi
 rw[e,nB_,bK_ hs,nC_ hs] at hd
 exact hd
structure RdAt (N R:Nat) (w W:World):Prop where
 wk:WkAt w.heap.size N false w W
 r0:W.cell? ⟨R,0,none⟩=some (.string ⟨#[]⟩)
 r1:W.cell? ⟨R,1,none⟩=some (.string ⟨#[]⟩)
 f0:W.frozen? ⟨R,0,none⟩=false
 f1:W.frozen? ⟨R,1,none⟩=false
 le:N<R
 sz:R<W.heap.size
theorem RdAt.to {N R:Nat} {w W W':World} (h:RdAt N R w W) (h2:WkTo w.heap.size N false w W W'):RdAt N R w W':=by
 obtain⟨c,f⟩:=h2.keep h.le h.sz
 exact⟨h2.wk,(c _).trans h.r0,(c _).trans h.r1,(f _).trans h.f0,(f _).trans h.f1,h.le,Nat.lt_of_lt_of_le h.sz h2.size⟩
theorem RdAt.al {N R:Nat} {w W:World} (h:RdAt N R w W):(∀o,(W.alloc o).cell? ⟨N,0,none⟩=some (.bool false))∧(∀o,(W.alloc o).cell? ⟨R,0,none⟩=some (.string ⟨#[]⟩))∧(∀o,(W.alloc o).cell? ⟨R,1,none⟩=some (.string ⟨#[]⟩))∧
  (∀o,(W.alloc o).frozen? ⟨R,0,none⟩=false)∧(∀o,(W.alloc o).frozen? ⟨R,1,none⟩=false):=by
 have hb:=fun o=>mM_ ((Below.refl W.heap.size W).alloc (Nat.le_refl _) o)
 exact⟨fun o=>((hb o).1 _ _ h.wk.sz).trans h.wk.c,fun o=>((hb o).1 _ _ h.sz).trans h.r0,fun o=>((hb o).1 _ _ h.sz).trans h.r1,fun o=>((hb o).2 _ _ h.sz).trans h.f0,fun o=>((hb o).2 _ _ h.sz).trans h.f1⟩
theorem RdAt.start {N:Nat} {w W:World} (h:WkAt w.heap.size N false w W) (t:TypeId):RdAt N W.heap.size w (W.alloc (.cells #[.string ⟨#[]⟩,.string ⟨#[]⟩] t)):=
 ⟨h.alloc _,by simp[go_sem],by simp[go_sem],by simp[go_sem],by simp[go_sem],h.sz,by simp⟩
theorem fY_ {N:Nat} {b:Bool} {x y:ByteArray} {w W:World} (h:WkAt w.heap.size N b w W) (hx:b=true∨b=false∧y=⟨#[48]⟩) :
  Calls Tryz.prog 161 #[.pointer (some ⟨N,0,none⟩),.string x,.string y] W fun e W'=>e=.returned (.tuple #[.agg #[.string ⟨#[]⟩,.string ⟨#[]⟩],.int .i64 40])∧Below w.heap.size w W':=by
 have c0:=h.c
 have hs:=h.sz
 have hl:=h.le
 have hb:=h.bw
 obtain⟨c,f⟩:=mM_ ((Below.refl W.heap.size W).alloc (Nat.le_refl _) (.cells #[.string ⟨#[]⟩,.string ⟨#[]⟩] 155))
 have c1:=(c N 0 hs).trans c0
 clear h c f
 rcases hx with rfl|⟨rfl,rfl⟩
 all_goals
  go_enter Tryz.func161,Tryz.ntmps161
  go_wp2
  refine bodyPost_ret (v:=.tuple #[.agg #[.string ⟨#[]⟩,.string ⟨#[]⟩],.int .i64 40]) ?_ rfl ⟨rfl,hb.alloc (by omega) _⟩
  simp[results,Tryz.results161,go_sem,Result.andThen]
theorem oX_ {N:Nat} {x y:ByteArray} {p q:Int} {w W:World} (h:WkAt w.heap.size N false w W) (hi:IOps w) (zx:Sz x) (zy:Sz y) (h1:aK_ x=some p) (h2:aK_ y=some q) (hq:0<q) :
  Calls Tryz.prog 161 #[.pointer (some ⟨N,0,none⟩),.string x,.string y] W fun e W'=>e=.returned (.tuple #[.agg #[.string (str (p/((Nat.gcd p.natAbs q.natAbs:Nat):Int))),.string (str (q/((Nat.gcd p.natAbs q.natAbs:Nat):Int)))],.int .i64 0])∧Below w.heap.size w W':=by
 obtain⟨ex,hp⟩:=dF_ h1
 obtain⟨ey,hqs⟩:=dF_ h2
 have hy:(y.toList == [48])=false:=by
  rw[ey,tI_]
  exact decide_eq_false (by omega)
 have hg:=oK_ (p:=p) hqs (by omega)
 have hg0:0<Nat.gcd p.natAbs q.natAbs:=wT_ (by omega)
 have eg:gcdO x y=some ((Nat.gcd p.natAbs q.natAbs:Nat):Int):=by unfold gcdO;rw[h1,h2]
 generalize Nat.gcd p.natAbs q.natAbs=g at eg hg hg0⊢
 have ng:aK_ (str (g:Int))=some (g:Int):=by rw[dJ_,if_pos hg]
 have zg:Sz (str (g:Int)):=by rw[←bK_ hg];exact kI_ _
 have ed1:divO x (str (g:Int))=some (p/g):=by unfold divO;rw[h1,ng];exact if_neg (by omega)
 have ed2:divO y (str (g:Int))=some (q/g):=by unfold divO;rw[h2,ng];exact if_neg (by omega)
 have hR:=RdAt.start h 155
 have kc:=Lib.hid (fun W' (k:Below w.heap.size w W')=>by have:=hi.cmp zy lI_ W' k;rw[rE_ h2,show cmpI q 0=1 by unfold cmpI;rw[if_neg (by omega),if_pos hq]] at this;exact this)
 have kg:=Lib.hid (fun W' (k:WkAt w.heap.size N false w W')=>do_s 192 x y k eg hg (enters_of Tryz.func192 (by kernel_rfl) rfl) ((hi.below k.bw).gcd zx zy W' (Below.refl _ _)))
 have k1:=Lib.hid (fun W' (k:WkAt w.heap.size N false w W')=>fG_ zx zg k (hi.below k.bw) ed1 (cB_ g hp))
 have k2:=Lib.hid (fun W' (k:WkAt w.heap.size N false w W')=>fG_ zy zg k (hi.below k.bw) ed2 (cB_ g hqs))
 generalize str (g:Int)=sg at kg k1 k2
 generalize str (p/(g:Int))=s1 at k1⊢
 generalize str (q/(g:Int))=s2 at k2⊢
 clear ed1 ed2 ng zg eg hg hg0 ex ey hp hqs h1 h2 hi
 have c0:=hR.wk.c
 have H0:=Lib.hid hR
 clear hR h hq
 go_enter Tryz.func161,Tryz.ntmps161
 go_wp2_with (first
  | (go_at_call 189;with_reducible refine(kc.out _ H0.out.wk.bw).mono ?_;rintro e w1 ⟨rfl,hb⟩;have H1:=Lib.hid (H0.out.to (WkTo.below H0.out.wk hb));clear hb)
  | (go_at_call 190;with_reducible refine(kg.out _ H1.out.wk).mono ?_;rintro e w2 ⟨rfl,hb⟩;have H2:=Lib.hid (H1.out.to hb);clear hb)
  | (go_at_call 193;with_reducible refine(k1.out _ H2.out.wk).mono ?_;rintro e w3 ⟨rfl,hb⟩;have H3:=Lib.hid (H2.out.to hb);clear hb)
  | (go_at_call 193;with_reducible refine(k2.out _ H3.out.wk).mono ?_;rintro e w4 ⟨rfl,hb⟩;have h4:=H3.out.to hb;obtain⟨c4,q1,q2,q3,q4⟩:=h4.al;have H4:=Lib.hid h4;clear hb h4)
  | fail)
 obtain⟨W5,hW5⟩:∃W5,(((w4.alloc (.cells #[.string s1,.string s2] 155)).setCell ⟨W.heap.size,0,none⟩ (.string s1)).setCell ⟨W.heap.size,1,none⟩ (.string s2))=W5:=⟨_,rfl⟩
 have p1:W5.cell? ⟨W.heap.size,1,none⟩=some (.string s2):=by
  rw[←hW5]
  exact World.cell?_setCell_same _ _ _ ((World.cell?_setCell_other _ _ _ _ (by simp)).trans (q2 _))
 have p0:W5.cell? ⟨W.heap.size,0,none⟩=some (.string s1):=by
  rw[←hW5]
  exact(World.cell?_setCell_other _ _ _ _ (by simp)).trans (World.cell?_setCell_same _ _ _ (q1 _))
 have hbl:Below w.heap.size w W5:=by
  rw[←hW5]
  have k:=H4.out.wk
  have:=H0.out.wk.le
  have:=H0.out.le
  exact((k.bw.alloc k.bw.size _).setCell (by simp;omega) _).setCell (by simp;omega) _
 rw[hW5]
 clear hW5
 refine bodyPost_ret (v:=.tuple #[.agg #[.string s1,.string s2],.int .i64 0]) ?_ rfl ⟨rfl,hbl⟩
 simp[results,Tryz.results161,go_sem,p0,p1,Result.andThen]
theorem oY_ {N:Nat} {x y:ByteArray} {p q:Int} {w W:World} (h:WkAt w.heap.size N false w W) (hi:IOps w) (zx:Sz x) (zy:Sz y) (h1:aK_ x=some p) (h2:aK_ y=some q) (hq:q<0) :
  Calls Tryz.prog 161 #[.pointer (some ⟨N,0,none⟩),.string x,.string y] W fun e W'=>e=.returned (.tuple #[.agg #[.string (str (-p/((Nat.gcd (-p).natAbs (-q).natAbs:Nat):Int))),.string (str (-q/((Nat.gcd (-p).natAbs (-q).natAbs:Nat):Int)))],.int .i64 0])∧Below w.heap.size w W':=by
 obtain⟨ex,hp⟩:=dF_ h1
 obtain⟨ey,hqs⟩:=dF_ h2
 have hy:(y.toList == [48])=false:=by
  rw[ey,tI_]
  exact decide_eq_false (by omega)
 have hg:=oK_ (p:=-p) (eS_ hqs) (by omega)
 have hg0:0<Nat.gcd (-p).natAbs (-q).natAbs:=wT_ (by omega)
 have e01:subO ⟨#[48]⟩ x=some (-p):=by unfold subO;rw[lS_,h1];show some (0-p)=_;rw[Int.zero_sub]
 have e02:subO ⟨#[48]⟩ y=some (-q):=by unfold subO;rw[lS_,h2];show some (0-q)=_;rw[Int.zero_sub]
 have hp':=eS_ hp
 have hqs':=eS_ hqs
 have m1:aK_ (str (-p))=some (-p):=by rw[dJ_,if_pos hp']
 have m2:aK_ (str (-q))=some (-q):=by rw[dJ_,if_pos hqs']
 have zx':Sz (str (-p)):=by rw[←bK_ hp'];exact kI_ _
 have zy':Sz (str (-q)):=by rw[←bK_ hqs'];exact kI_ _
 have eg:gcdO (str (-p)) (str (-q))=some ((Nat.gcd (-p).natAbs (-q).natAbs:Nat):Int):=by unfold gcdO;rw[m1,m2]
 generalize Nat.gcd (-p).natAbs (-q).natAbs=g at eg hg hg0⊢
 have ng:aK_ (str (g:Int))=some (g:Int):=by rw[dJ_,if_pos hg]
 have zg:Sz (str (g:Int)):=by rw[←bK_ hg];exact kI_ _
 have ed1:divO (str (-p)) (str (g:Int))=some (-p/g):=by unfold divO;rw[m1,ng];exact if_neg (by omega)
 have ed2:divO (str (-q)) (str (g:Int))=some (-q/g):=by unfold divO;rw[m2,ng];exact if_neg (by omega)
 have hR:=RdAt.start h 155
 have kc:=Lib.hid (fun W' (k:Below w.heap.size w W')=>by have:=hi.cmp zy lI_ W' k;rw[rE_ h2,show cmpI q 0 = -1 by unfold cmpI;rw[if_pos hq]] at this;exact this)
 have ks1:=Lib.hid (fun W' (k:WkAt w.heap.size N false w W')=>do_s 191 ⟨#[48]⟩ x k e01 hp' (enters_of Tryz.func191 (by kernel_rfl) rfl) ((hi.below k.bw).sub lI_ zx W' (Below.refl _ _)))
 have ks2:=Lib.hid (fun W' (k:WkAt w.heap.size N false w W')=>do_s 191 ⟨#[48]⟩ y k e02 hqs' (enters_of Tryz.func191 (by kernel_rfl) rfl) ((hi.below k.bw).sub lI_ zy W' (Below.refl _ _)))
 have kg:=Lib.hid (fun W' (k:WkAt w.heap.size N false w W')=>do_s 192 (str (-p)) (str (-q)) k eg hg (enters_of Tryz.func192 (by kernel_rfl) rfl) ((hi.below k.bw).gcd zx' zy' W' (Below.refl _ _)))
 have k1:=Lib.hid (fun W' (k:WkAt w.heap.size N false w W')=>fG_ zx' zg k (hi.below k.bw) ed1 (cB_ g hp'))
 have k2:=Lib.hid (fun W' (k:WkAt w.heap.size N false w W')=>fG_ zy' zg k (hi.below k.bw) ed2 (cB_ g hqs'))
 generalize str (g:Int)=sg at kg k1 k2
 generalize str (-p/(g:Int))=s1 at k1⊢
 generalize str (-q/(g:Int))=s2 at k2⊢
 generalize str (-p)=x' at ks1 kg k1
 generalize str (-q)=y' at ks2 kg k2
 clear ed1 ed2 ng zg eg hg hg0 ex ey hp hqs h1 h2 hi e01 e02 hp' hqs' m1 m2 zx' zy'
 have c0:=hR.wk.c
 have H0:=Lib.hid hR
 clear hR h hq
 go_enter Tryz.func161,Tryz.ntmps161
 go_wp2_with (first
  | (go_at_call 189;with_reducible refine(kc.out _ H0.out.wk.bw).mono ?_;rintro e w1 ⟨rfl,hb⟩;have H1:=Lib.hid (H0.out.to (WkTo.below H0.out.wk hb));clear hb)
  | (go_at_call 190;with_reducible refine(ks1.out _ H1.out.wk).mono ?_;rintro e w11 ⟨rfl,hb⟩;have H11:=Lib.hid (H1.out.to hb);clear hb)
  | (go_at_call 190;with_reducible refine(ks2.out _ H11.out.wk).mono ?_;rintro e w12 ⟨rfl,hb⟩;have H12:=Lib.hid (H11.out.to hb);clear hb)
  | (go_at_call 190;with_reducible refine(kg.out _ H12.out.wk).mono ?_;rintro e w2 ⟨rfl,hb⟩;have H2:=Lib.hid (H12.out.to hb);clear hb)
  | (go_at_call 193;with_reducible refine(k1.out _ H2.out.wk).mono ?_;rintro e w3 ⟨rfl,hb⟩;have H3:=Lib.hid (H2.out.to hb);clear hb)
  | (go_at_call 193;with_reducible refine(k2.out _ H3.out.wk).mono ?_;rintro e w4 ⟨rfl,hb⟩;have h4:=H3.out.to hb;obtain⟨c4,q1,q2,q3,q4⟩:=h4.al;have H4:=Lib.hid h4;clear hb h4)
  | fail)
 obtain⟨W5,hW5⟩:∃W5,(((w4.alloc (.cells #[.string s1,.string s2] 155)).setCell ⟨W.heap.size,0,none⟩ (.string s1)).setCell ⟨W.heap.size,1,none⟩ (.string s2))=W5:=⟨_,rfl⟩
 have p1:W5.cell? ⟨W.heap.size,1,none⟩=some (.string s2):=by
  rw[←hW5]
  exact World.cell?_setCell_same _ _ _ ((World.cell?_setCell_other _ _ _ _ (by simp)).trans (q2 _))
 have p0:W5.cell? ⟨W.heap.size,0,none⟩=some (.string s1):=by
  rw[←hW5]
  exact(World.cell?_setCell_other _ _ _ _ (by simp)).trans (World.cell?_setCell_same _ _ _ (q1 _))
 have hbl:Below w.heap.size w W5:=by
  rw[←hW5]
  have k:=H4.out.wk
  have:=H0.out.wk.le
  have:=H0.out.le
  exact((k.bw.alloc k.bw.size _).setCell (by simp;omega) _).setCell (by simp;omega) _
 rw[hW5]
 clear hW5
 refine bodyPost_ret (v:=.tuple #[.agg #[.string s1,.string s2],.int .i64 0]) ?_ rfl ⟨rfl,hbl⟩
 simp[results,Tryz.results161,go_sem,p0,p1,Result.andThen]
theorem uT_ {N:Nat} {b:Bool} {x y:ByteArray} {p q:Int} {w W:World} (h:WkAt w.heap.size N b w W) (hi:IOps w) (zx:Sz x) (zy:Sz y) (hx:b=false→aK_ x=some p∧aK_ y=some q) :
  Calls Tryz.prog 161 #[.pointer (some ⟨N,0,none⟩),.string x,.string y] W fun e W'=>e=.returned (.tuple #[.agg #[.string (qN (if b=true then none else jD_ p q)),.string (qD (if b=true then none else jD_ p q))],.int .i64 (qE (if b=true then none else jD_ p q))])∧Below w.heap.size w W':=by
 cases b with
 | true=>exact fY_ h (.inl rfl)
 | false=>
  obtain⟨h1,h2⟩:=hx rfl
  rw[if_neg (by decide)]
  unfold jD_
  rcases Int.lt_trichotomy q 0 with hq|hq|hq
  ·rw[if_neg (by omega),uY_,vA_,uZ_,aDR hq,aEL hq]
   exact oY_ h hi zx zy h1 h2 hq
  ·rw[if_pos hq]
   refine fY_ h (.inr ⟨rfl,?_⟩)
   rw[(dF_ h2).1,hq]
   rfl
  ·rw[if_neg (by omega),uY_,vA_,uZ_,vN_ hq,xL_ hq]
   exact oX_ h hi zx zy h1 h2 hq
structure RsAt (R:Nat) (w W:World):Prop where
 bw:Below w.heap.size w W
 r0:W.cell? ⟨R,0,none⟩=some (.string ⟨#[]⟩)
 r1:W.cell? ⟨R,1,none⟩=some (.string ⟨#[]⟩)
 f0:W.frozen? ⟨R,0,none⟩=false
 f1:W.frozen? ⟨R,1,none⟩=false
 le:w.heap.size≤R
 sz:R<W.heap.size
theorem RsAt.below {R:Nat} {w W W':World} (h:RsAt R w W) (hb:Below W.heap.size W W'):RsAt R w W':=by
 obtain⟨c,f⟩:=mM_ hb
 exact⟨h.bw.trans (hb.mono h.bw.size),(c _ _ h.sz).trans h.r0,(c _ _ h.sz).trans h.r1,(f _ _ h.sz).trans h.f0,(f _ _ h.sz).trans h.f1,h.le,Nat.lt_of_lt_of_le h.sz hb.size⟩
theorem RsAt.start {w W:World} (h:Below w.heap.size w W) (t:TypeId):RsAt W.heap.size w (W.alloc (.cells #[.string ⟨#[]⟩,.string ⟨#[]⟩] t)):=
 ⟨h.alloc h.size _,by simp[go_sem],by simp[go_sem],by simp[go_sem],by simp[go_sem],h.size,by simp⟩
theorem RsAt.fin {R:Nat} {w W:World} (h:RsAt R w W) (s t:ByteArray):∃W5,((W.setCell ⟨R,0,none⟩ (.string s)).setCell ⟨R,1,none⟩ (.string t))=W5∧W5.cell? ⟨R,0,none⟩=some (.string s)∧W5.cell? ⟨R,1,none⟩=some (.string t)∧Below w.heap.size w W5:=by
 refine⟨_,rfl,?_,?_,?_⟩
 ·exact(World.cell?_setCell_other _ _ _ _ (by simp)).trans (World.cell?_setCell_same _ _ _ h.r0)
 ·exact World.cell?_setCell_same _ _ _ ((World.cell?_setCell_other _ _ _ _ (by simp)).trans h.r1)
 ·exact(h.bw.setCell h.le _).setCell h.le _
theorem Make_q {x y:ByteArray} {w:World} (hi:IOps w) (zx:Sz x) (zy:Sz y) :
  Calls Tryz.prog 127 #[.string x,.string y] w fun e W'=>e=.returned (.tuple #[.agg #[.string (qN (hR_ x y)),.string (qD (hR_ x y))],.int .i64 (qE (hR_ x y))])∧Below w.heap.size w W':=by
 have H0:=Lib.hid (RsAt.start (Below.refl _ w) 155)
 have v1:=fun W hk=>hi.val zx W hk
 have v2:=fun W hk=>hi.val zy W hk
 rw[←dI_] at v1 v2
 have key:∀(b:Bool) (W':World),RsAt w.heap.size w W'→(b=false→∃p q,aK_ x=some p∧aK_ y=some q)→(b=true→aK_ x=none∨aK_ y=none)→Calls Tryz.prog 161 #[.pointer (some ⟨W'.heap.size,0,none⟩),.string x,.string y] (W'.alloc (.cells #[.bool b] 201)) fun e W2=>e=.returned (.tuple #[.agg #[.string (qN (hR_ x y)),.string (qD (hR_ x y))],.int .i64 (qE (hR_ x y))])∧RsAt w.heap.size w W2:=by
  intro b W' hk h1 h2
  have hs:=WkAt.start (Below.refl W'.heap.size W') (Nat.le_refl _) b
  cases b with
  | true=>
   rw[sG_ (h2 rfl)]
   refine(fY_ hs (.inl rfl)).mono ?_
   rintro e W2 ⟨rfl,hb⟩
   exact⟨rfl,hk.below hb⟩
  | false=>
   obtain⟨p,q,h3,h4⟩:=h1 rfl
   rw[kJ_ h3 h4]
   refine(uT_ hs (hi.below hk.bw) zx zy (fun _=>⟨h3,h4⟩)).mono ?_
   rintro e W2 ⟨rfl,hb⟩
   exact⟨rfl,hk.below hb⟩
 generalize hR_ x y=o at key⊢
 cases h1:aK_ x with
 | none=>
  rw[h1] at v1
  have V1:=Lib.hid v1
  have K:=Lib.hid (fun W' hk=>key true W' hk (fun k=>by cases k) (fun _=>.inl h1))
  clear v1 v2 key h1
  go_enter Tryz.func127,Tryz.ntmps127
  go_wp2_with (first
   | (go_at_call 160;with_reducible refine(V1.out _ H0.out.bw).mono ?_;rintro e w1 ⟨rfl,hb1⟩;have H1:=Lib.hid (H0.out.below hb1);clear hb1)
   | (go_at_call 161;with_reducible refine(K.out _ H1.out).mono ?_;rintro e w2 ⟨rfl,h2⟩;obtain⟨_,q1,q2,q3,q4,_,_⟩:=id h2;have H2:=Lib.hid h2;clear h2)
   | fail)
  obtain⟨W5,hW5,p0,p1,hbl⟩:=H2.out.fin (qN o) (qD o)
  rw[hW5]
  clear hW5 q1 q2 q3 q4
  refine bodyPost_ret (v:=.tuple #[.agg #[.string (qN o),.string (qD o)],.int .i64 (qE o)]) ?_ rfl ⟨rfl,hbl⟩
  simp[results,Tryz.results127,go_sem,p0,p1,Result.andThen]
 | some p=>
  rw[h1] at v1
  cases h2:aK_ y with
  | none=>
   rw[h2] at v2
   have V1:=Lib.hid v1
   have V2:=Lib.hid v2
   have K:=Lib.hid (fun W' hk=>key true W' hk (fun k=>by cases k) (fun _=>.inr h2))
   clear v1 v2 key h1 h2
   go_enter Tryz.func127,Tryz.ntmps127
   go_wp2_with (first
    | (go_at_call 160;with_reducible refine(V1.out _ H0.out.bw).mono ?_;rintro e w1 ⟨rfl,hb1⟩;have H1:=Lib.hid (H0.out.below hb1);clear hb1)
    | (go_at_call 160;with_reducible refine(V2.out _ H1.out.bw).mono ?_;rintro e w2 ⟨rfl,hb1⟩;have H2:=Lib.hid (H1.out.below hb1);clear hb1)
    | (go_at_call 161;with_reducible refine(K.out _ H2.out).mono ?_;rintro e w3 ⟨rfl,h3⟩;obtain⟨_,q1,q2,q3,q4,_,_⟩:=id h3;have H3:=Lib.hid h3;clear h3)
    | fail)
   obtain⟨W5,hW5,p0,p1,hbl⟩:=H3.out.fin (qN o) (qD o)
   rw[hW5]
   clear hW5 q1 q2 q3 q4
   refine bodyPost_ret (v:=.tuple #[.agg #[.string (qN o),.string (qD o)],.int .i64 (qE o)]) ?_ rfl ⟨rfl,hbl⟩
   simp[results,Tryz.results127,go_sem,p0,p1,Result.andThen]
  | some q=>
   rw[h2] at v2
   have V1:=Lib.hid v1
   have V2:=Lib.hid v2
   have K:=Lib.hid (fun W' hk=>key false W' hk (fun _=>⟨p,q,h1,h2⟩) (fun k=>by cases k))
   clear v1 v2 key h1 h2
   go_enter Tryz.func127,Tryz.ntmps127
   go_wp2_with (first
    | (go_at_call 160;with_reducible refine(V1.out _ H0.out.bw).mono ?_;rintro e w1 ⟨rfl,hb1⟩;have H1:=Lib.hid (H0.out.below hb1);clear hb1)
    | (go_at_call 160;with_reducible refine(V2.out _ H1.out.bw).mono ?_;rintro e w2 ⟨rfl,hb1⟩;have H2:=Lib.hid (H1.out.below hb1);clear hb1)
    | (go_at_call 161;with_reducible refine(K.out _ H2.out).mono ?_;rintro e w3 ⟨rfl,h3⟩;obtain⟨_,q1,q2,q3,q4,_,_⟩:=id h3;have H3:=Lib.hid h3;clear h3)
    | fail)
   obtain⟨W5,hW5,p0,p1,hbl⟩:=H3.out.fin (qN o) (qD o)
   rw[hW5]
   clear hW5 q1 q2 q3 q4
   refine bodyPost_ret (v:=.tuple #[.agg #[.string (qN o),.string (qD o)],.int .i64 (qE o)]) ?_ rfl ⟨rfl,hbl⟩
   simp[results,Tryz.results127,go_sem,p0,p1,Result.andThen]
def FrOp (w:World):Prop:=∀(n:Int),-9223372036854775808≤n→n≤9223372036854775807→∀W,Below w.heap.size w W→Calls Tryz.prog 128 #[.int .i64 n] W fun e W'=>e=.returned (.string (str n))∧Below W.heap.size W W'
theorem nE_ {n:Int} (h1 : -9223372036854775808≤n) (h2:n≤9223372036854775807):aG_ n=true:=by
 unfold aG_
 rw[decide_eq_true_iff,hB_ (by omega)]
 have:(10:Nat)^19≤10^200:=Nat.pow_le_pow_right (by omega) (by omega)
 have e:(10:Nat)^19=10000000000000000000:=by decide
 omega
theorem Of_q {n d:Int} {w:World} (hi:IOps w) (hf:FrOp w) (n1 : -9223372036854775808≤n) (n2:n≤9223372036854775807) (d1 : -9223372036854775808≤d) (d2:d≤9223372036854775807) :
  Calls Tryz.prog 107 #[.int .i64 n,.int .i64 d] w fun e W'=>e=.returned (.tuple #[.agg #[.string (qN (jD_ n d)),.string (qD (jD_ n d))],.int .i64 (qE (jD_ n d))])∧Below w.heap.size w W':=by
 have H0:=Lib.hid (RsAt.start (Below.refl _ w) 155)
 have sn:=nE_ n1 n2
 have sd:=nE_ d1 d2
 have zn:Sz (str n):=by rw[←bK_ sn];exact kI_ _
 have zd:Sz (str d):=by rw[←bK_ sd];exact kI_ _
 have em:hR_ (str n) (str d)=jD_ n d:=kJ_ (by rw[dJ_,if_pos sn]) (by rw[dJ_,if_pos sd])
 have k1:=Lib.hid (fun W hk=>hf n n1 n2 W hk)
 have k2:=Lib.hid (fun W hk=>hf d d1 d2 W hk)
 have km:=Lib.hid (fun W (hk:Below w.heap.size w W)=>by have:=Make_q (hi.below hk) zn zd;rw[em] at this;exact this)
 generalize jD_ n d=o at km⊢
 generalize str n=sn' at k1 km
 generalize str d=sd' at k2 km
 clear hi hf sn sd zn zd em n1 n2 d1 d2
 go_enter Tryz.func107,Tryz.ntmps107
 go_wp2_with (first
  | (go_at_call 128;with_reducible refine(k1.out _ H0.out.bw).mono ?_;rintro e w1 ⟨rfl,hb⟩;have H1:=Lib.hid (H0.out.below hb);clear hb)
  | (go_at_call 128;with_reducible refine(k2.out _ H1.out.bw).mono ?_;rintro e w2 ⟨rfl,hb⟩;have H2:=Lib.hid (H1.out.below hb);clear hb)
  | (go_at_call 127;with_reducible refine(km.out _ H2.out.bw).mono ?_;rintro e w3 ⟨rfl,hb⟩;have h3:=H2.out.below hb;obtain⟨_,q1,q2,q3,q4,_,_⟩:=id h3;have H3:=Lib.hid h3;clear hb h3)
  | fail)
 obtain⟨W5,hW5,p0,p1,hbl⟩:=H3.out.fin (qN o) (qD o)
 rw[hW5]
 clear hW5 q1 q2 q3 q4
 refine bodyPost_ret (v:=.tuple #[.agg #[.string (qN o),.string (qD o)],.int .i64 (qE o)]) ?_ rfl ⟨rfl,hbl⟩
 simp[results,Tryz.results107,go_sem,p0,p1,Result.andThen]
end Go.Proofs.YtdkaohphbgdkpaaGreatDoor
