/- - -/
import Derived.Deep.RegionHeld3
import Derived.IntWalk
import Derived.Test.YtlikmmpmnaaifaaGreatDoorZPlB
import Derived.Test.YtlikmmpmnaaifaaGreatDoorZMade
import Derived.Test.YtlikmmpmnaaifaaGreatDoorZOut
import Derived.Test.YtlikmmpmnaaifaaGreatDoorZParse
import Derived.Test.YtlikmmpmnaaifaaGreatDoorZShelf
import Derived.Test.YtlikmmpmnaaifaaGreatDoorZPl2
import Derived.Test.YtlikmmpmnaaifaaGreatDoorZRTim
import Derived.Test.YtlikmmpmnaaifaaGreatDoorZNum
import Derived.Test.YtlikmmpmnaaifaaGreatDoorZBack
set_option maxHeartbeats 40000000
set_option maxRecDepth 1000000
open Go.Lib (hid)
namespace Go.Proofs.YtlikmmpmnaaifaaGreatDoor
open Go.RowKit Go.Shelf
attribute [local go_sem] Oper.semAt_some
theorem aAJ {z:Int} {s:ByteArray} {n:Int} (hs:small z=true) (h:outZ z=#[.string s,.int .i64 n]):s=str z∧n=0:=by
 unfold outZ at h
 rw[if_pos hs] at h
 simp only[Array.mk.injEq,List.cons.injEq,Value.string.injEq,Value.int.injEq,true_and,and_true] at h
 exact⟨h.1.symm,h.2.symm⟩
theorem aAK {z:Int} {s:ByteArray} {n:Int} (hs:small z=false) (h:outZ z=#[.string s,.int .i64 n]):s=⟨#[]⟩∧n=30:=by
 unfold outZ at h
 rw[if_neg (by rw[hs];simp)] at h
 simp only[Array.mk.injEq,List.cons.injEq,Value.string.injEq,Value.int.injEq,true_and,and_true] at h
 exact⟨h.1.symm,h.2.symm⟩
theorem zU_ {x:Int} (h:small x=true):(str x).size≤9223372036854775807:=by
 rw[iL_]
 have:=gU_ x
 have:nDig x.natAbs≤200:=by simpa[small] using h
 omega
theorem aQC {w:World} {s:ByteArray} {b:Bool} (hs:s.size≤9223372036854775807) (hb:aY_ s.data.toList=b) (W:World) (hk:Below w.heap.size w W) :
  Calls Tryz.prog 199 #[.string s] W fun e W'=>e=.returned (.bool b)∧Below w.heap.size w W':=by
 refine(aIN s W hs).mono ?_
 rintro e w' ⟨rfl,h⟩
 rw[dB_,hb]
 exact⟨rfl,hk.trans (h.mono hk.size)⟩
def Bd (z:Int) (k:Nat):Prop:=z.natAbs<10^k
theorem Bd.mono {z:Int} {k l:Nat} (h:Bd z k) (hk:k≤l):Bd z l:=Nat.lt_of_lt_of_le h (Nat.pow_le_pow_right (by omega) hk)
theorem Bd.small {z:Int} {k:Nat} (h:Bd z k) (hk:k≤200):small z=true:=by
 unfold Go.Proofs.YtlikmmpmnaaifaaGreatDoor.small
 exact decide_eq_true ((jR_ (by omega)).2 (h.mono hk))
theorem aQD (s:ByteArray) (hs:s.size≤281474976710656) (v:Int) (h:Lib.atoiAll s.data.toList=.ok v) (w:World) :
  Calls Tryz.prog 206 #[.string s] w fun e w'=>e=.returned (.tuple #[.int .i64 v,.nilIface])∧Below w.heap.size w w':=by
 have hc:Calls Tryz.prog 206 #[.string s] w fun e w'=>e=.returned (.tuple #[.int .i64 v,.nilIface])∧(w'=w∨∃t,w'=Lib.bytesWorld w 5 t):=Any.strconv_Atoi_ok Tryz.laysC172 s (by omega) v h w
 refine hc.mono ?_
 rintro e w' ⟨rfl,rfl|⟨t,rfl⟩⟩
 ·exact⟨rfl,Below.refl _ _⟩
 ·exact⟨rfl,Lib.bytesWorld_below _ _ _⟩
theorem aMI (s:ByteArray) (x:Int) (w:World) (es:s=str x) (hx:small x=true) (h:aFP x=true) :
  Calls Tryz.prog 164 #[.string s] w fun e w'=>e=.returned (.tuple #[.int .i64 x,.int .i64 0])∧Below w.heap.size w w':=by
 have hsz:=zU_ hx
 rw[←es] at hsz
 have h200:s.size≤201:=by
  rw[es,iL_]
  have:=gU_ x
  have:nDig x.natAbs≤200:=by simpa[small] using hx
  omega
 have hl:s.data.toList=txt x:=by rw[es,dD_]
 have hat:=fun W=>aQD s (by omega) x (by rw[hl,wQ_,if_pos h]) W
 have hvd:aY_ s.data.toList=true:=by rw[hl,eM_];exact hx
 have hv:=fun W=>dC_ s W hsz
 rw[hvd] at hv
 have HAT:=hid hat
 have HV:=hid hv
 clear hat hv hl hvd es hx h
 go_enter Tryz.func164,Tryz.ntmps164
 go_wp2_with (first
  | (go_at_call 206;with_reducible refine(HAT.out _).mono ?_;rintro e w1 ⟨rfl,hb1⟩)
  | (go_at_call 207;with_reducible refine(HV.out _).mono ?_;rintro e w2 ⟨rfl,hb2⟩))
 go_ret2
 exact⟨rfl,hb1.trans (hb2.mono hb1.size)⟩
theorem mE_ {z:Int} (h0 : -9223372036854775808≤z) (h1:z≤9223372036854775807):small z=true:=by
 have h:z.natAbs<10^19:=by
  have:(10:Nat)^19=10000000000000000000:=by decide
  omega
 exact Bd.small (k:=19) h (by decide)
theorem aIO {w:World} (hG:Glob w) {z:Int} {s:ByteArray} (h0 : -9223372036854775808≤z) (h1:z≤9223372036854775807) (es:s=str z) (W:World) (hk:Below w.heap.size w W) :
  Calls Tryz.prog 157 #[.int .i64 z] W fun e W'=>e=.returned (.string s)∧Below w.heap.size w W':=by
 subst es
 refine(wX_ z W (hG.below hk) h0 h1).mono ?_
 rintro e w' ⟨rfl,hb⟩
 exact⟨rfl,hk.trans (hb.mono hk.size)⟩
theorem cX_ {n:Int} (h1 : -9223372036854775808≤n) (h2:n≤9223372036854775807):FO (whO n):=fun _ hr=>eX_ (mE_ h1 h2) (by decide) hr
theorem yS_ {a:Pl} {s x:Option Rat} {A S:Nat} (ha:vP a=true) (fs:FO s) (fx:FO x) {w:World} (hi:IOps w) (hf:FrOp w) (cA:ArAt A [.int .i64 a.x,.int .i64 a.y] w) (cS:ArAt S [.string (qN s),.string (qD s)] w) :
  Calls Tryz.prog 139 #[.agg #[.string (qN x),.string (qD x)],.pointer (some ⟨A,0,none⟩),.pointer (some ⟨S,0,none⟩)] w fun e W'=>e=.returned (.agg #[.string (qN (plO (whO a.y) (tiO s (miO x (whO a.x))))),.string (qD (plO (whO a.y) (tiO s (miO x (whO a.x)))))])∧Below w.heap.size w W':=by
 obtain⟨⟨a1,a2⟩,a3,a4⟩:=vP_b ha
 have f1:FO (whO a.y):=cX_ (by omega) (by omega)
 have f2:FO (whO a.x):=cX_ (by omega) (by omega)
 have f3:FO (miO x (whO a.x)):=FO.sub _ _
 have f4:FO (tiO s (miO x (whO a.x))):=FO.mul _ _
 have K1:=hid (fun(W:World) (h:Below w.heap.size w W)=>cO_ (n:=a.y) (by omega) (by omega) (hi.below h) (hf.below h))
 have K2:=hid (fun(W:World) (h:Below w.heap.size w W)=>cO_ (n:=a.x) (by omega) (by omega) (hi.below h) (hf.below h))
 have K3:=hid (fun(W:World) (h:Below w.heap.size w W)=>qQ_ fx f2 (hi.below h))
 have K4:=hid (fun(W:World) (h:Below w.heap.size w W)=>aCS fs f3 (hi.below h))
 have K5:=hid (fun(W:World) (h:Below w.heap.size w W)=>sX_ f1 f4 (hi.below h))
 have H0:=hid (show AzAt [(w.heap.size+1,[.string ⟨#[]⟩,.string ⟨#[]⟩]),(w.heap.size,[.string (qN x),.string (qD x)]),(A,[.int .i64 a.x,.int .i64 a.y]),(S,[.string (qN s),.string (qD s)])] w _ from by have hp:=((AzAt.mk (L:=[(A,[.int .i64 a.x,.int .i64 a.y]),(S,[.string (qN s),.string (qD s)])]) (Below.refl _ w) (fun y hy=>by rcases List.mem_cons.1 hy with rfl|hy;exact cA;rcases List.mem_cons.1 hy with rfl|hy;exact cS;cases hy)).push [.string (qN x),.string (qD x)] 109).push [.string ⟨#[]⟩,.string ⟨#[]⟩] 109;simp only[World.size_alloc] at hp;exact hp)
 have sA:=cA.sz
 have sS:=cS.sz
 clear ha fs fx f1 f2 f3 f4 hi hf cA cS
 generalize qN (plO (whO a.y) (tiO s (miO x (whO a.x))))=rn at K5⊢
 generalize qD (plO (whO a.y) (tiO s (miO x (whO a.x))))=rd at K5⊢
 generalize qN (tiO s (miO x (whO a.x)))=n4 at K4 K5
 generalize qD (tiO s (miO x (whO a.x)))=d4 at K4 K5
 generalize qN (miO x (whO a.x))=n3 at K3 K4
 generalize qD (miO x (whO a.x))=d3 at K3 K4
 generalize qN (whO a.x)=n2 at K2 K3
 generalize qD (whO a.x)=d2 at K2 K3
 generalize qN (whO a.y)=n1 at K1 K5
 generalize qD (whO a.y)=d1 at K1 K5
 generalize qN s=sn at K4 H0
 generalize qD s=sd at K4 H0
 generalize qN x=xn at K3 H0⊢
 generalize qD x=xd at K3 H0⊢
 go_enter Tryz.func139,Tryz.ntmps139
 go_wp2
 go_region_held3 (fun W=>W.cell? ⟨w.heap.size,0,none⟩=some (.string xn)∧W.cell? ⟨w.heap.size,1,none⟩=some (.string xd)∧W.cell? ⟨A,0,none⟩=some (.int .i64 a.x)∧W.cell? ⟨A,1,none⟩=some (.int .i64 a.y)∧W.cell? ⟨S,0,none⟩=some (.string sn)∧W.cell? ⟨S,1,none⟩=some (.string sd)) (first|with_reducible exact⟨((W5.out.set2 (by omega) (by simp <;> omega) (.string rn) (.string rd)).row (w.heap.size,[.string xn,.string xd]) (by simp)).row 0 _ rfl,((W5.out.set2 (by omega) (by simp <;> omega) (.string rn) (.string rd)).row (w.heap.size,[.string xn,.string xd]) (by simp)).row 1 _ rfl,((W5.out.set2 (by omega) (by simp <;> omega) (.string rn) (.string rd)).row (A,[.int .i64 a.x,.int .i64 a.y]) (by simp)).row 0 _ rfl,((W5.out.set2 (by omega) (by simp <;> omega) (.string rn) (.string rd)).row (A,[.int .i64 a.x,.int .i64 a.y]) (by simp)).row 1 _ rfl,((W5.out.set2 (by omega) (by simp <;> omega) (.string rn) (.string rd)).row (S,[.string sn,.string sd]) (by simp)).row 0 _ rfl,((W5.out.set2 (by omega) (by simp <;> omega) (.string rn) (.string rd)).row (S,[.string sn,.string sd]) (by simp)).row 1 _ rfl⟩|with_reducible exact⟨(W5.out.row (w.heap.size,[.string xn,.string xd]) (by simp)).row 0 _ rfl,(W5.out.row (w.heap.size,[.string xn,.string xd]) (by simp)).row 1 _ rfl,(W5.out.row (A,[.int .i64 a.x,.int .i64 a.y]) (by simp)).row 0 _ rfl,(W5.out.row (A,[.int .i64 a.x,.int .i64 a.y]) (by simp)).row 1 _ rfl,(W5.out.row (S,[.string sn,.string sd]) (by simp)).row 0 _ rfl,(W5.out.row (S,[.string sn,.string sd]) (by simp)).row 1 _ rfl⟩|with_reducible exact⟨(W4.out.row (w.heap.size,[.string xn,.string xd]) (by simp)).row 0 _ rfl,(W4.out.row (w.heap.size,[.string xn,.string xd]) (by simp)).row 1 _ rfl,(W4.out.row (A,[.int .i64 a.x,.int .i64 a.y]) (by simp)).row 0 _ rfl,(W4.out.row (A,[.int .i64 a.x,.int .i64 a.y]) (by simp)).row 1 _ rfl,(W4.out.row (S,[.string sn,.string sd]) (by simp)).row 0 _ rfl,(W4.out.row (S,[.string sn,.string sd]) (by simp)).row 1 _ rfl⟩|with_reducible exact⟨(W3.out.row (w.heap.size,[.string xn,.string xd]) (by simp)).row 0 _ rfl,(W3.out.row (w.heap.size,[.string xn,.string xd]) (by simp)).row 1 _ rfl,(W3.out.row (A,[.int .i64 a.x,.int .i64 a.y]) (by simp)).row 0 _ rfl,(W3.out.row (A,[.int .i64 a.x,.int .i64 a.y]) (by simp)).row 1 _ rfl,(W3.out.row (S,[.string sn,.string sd]) (by simp)).row 0 _ rfl,(W3.out.row (S,[.string sn,.string sd]) (by simp)).row 1 _ rfl⟩|with_reducible exact⟨(W2.out.row (w.heap.size,[.string xn,.string xd]) (by simp)).row 0 _ rfl,(W2.out.row (w.heap.size,[.string xn,.string xd]) (by simp)).row 1 _ rfl,(W2.out.row (A,[.int .i64 a.x,.int .i64 a.y]) (by simp)).row 0 _ rfl,(W2.out.row (A,[.int .i64 a.x,.int .i64 a.y]) (by simp)).row 1 _ rfl,(W2.out.row (S,[.string sn,.string sd]) (by simp)).row 0 _ rfl,(W2.out.row (S,[.string sn,.string sd]) (by simp)).row 1 _ rfl⟩|with_reducible exact⟨(W1.out.row (w.heap.size,[.string xn,.string xd]) (by simp)).row 0 _ rfl,(W1.out.row (w.heap.size,[.string xn,.string xd]) (by simp)).row 1 _ rfl,(W1.out.row (A,[.int .i64 a.x,.int .i64 a.y]) (by simp)).row 0 _ rfl,(W1.out.row (A,[.int .i64 a.x,.int .i64 a.y]) (by simp)).row 1 _ rfl,(W1.out.row (S,[.string sn,.string sd]) (by simp)).row 0 _ rfl,(W1.out.row (S,[.string sn,.string sd]) (by simp)).row 1 _ rfl⟩|with_reducible exact⟨(H0.out.drew.row (w.heap.size,[.string xn,.string xd]) (by simp)).row 0 _ rfl,(H0.out.drew.row (w.heap.size,[.string xn,.string xd]) (by simp)).row 1 _ rfl,(H0.out.drew.row (A,[.int .i64 a.x,.int .i64 a.y]) (by simp)).row 0 _ rfl,(H0.out.drew.row (A,[.int .i64 a.x,.int .i64 a.y]) (by simp)).row 1 _ rfl,(H0.out.drew.row (S,[.string sn,.string sd]) (by simp)).row 0 _ rfl,(H0.out.drew.row (S,[.string sn,.string sd]) (by simp)).row 1 _ rfl⟩) (first
  | (go_at_call 84;(with_reducible refine(K1.out _ (by first | with_reducible exact W5.out.bw | with_reducible exact W4.out.bw | with_reducible exact W3.out.bw | with_reducible exact W2.out.bw | with_reducible exact W1.out.bw | with_reducible exact H0.out.drew.bw)).mono ?_);rintro e u1 ⟨rfl,hb⟩;have W1:=hid (show AzAt [(w.heap.size+1,[.string ⟨#[]⟩,.string ⟨#[]⟩]),(w.heap.size,[.string xn,.string xd]),(A,[.int .i64 a.x,.int .i64 a.y]),(S,[.string sn,.string sd])] w _ from by first | with_reducible exact AzAt.below W5.out hb | with_reducible exact AzAt.below W4.out hb | with_reducible exact AzAt.below W3.out hb | with_reducible exact AzAt.below W2.out hb | with_reducible exact AzAt.below W1.out hb | with_reducible exact AzAt.below H0.out.drew hb);clear hb)
  | (go_at_call 84;(with_reducible refine(K2.out _ (by first | with_reducible exact W5.out.bw | with_reducible exact W4.out.bw | with_reducible exact W3.out.bw | with_reducible exact W2.out.bw | with_reducible exact W1.out.bw | with_reducible exact H0.out.drew.bw)).mono ?_);rintro e u2 ⟨rfl,hb⟩;have W2:=hid (show AzAt [(w.heap.size+1,[.string ⟨#[]⟩,.string ⟨#[]⟩]),(w.heap.size,[.string xn,.string xd]),(A,[.int .i64 a.x,.int .i64 a.y]),(S,[.string sn,.string sd])] w _ from by first | with_reducible exact AzAt.below W5.out hb | with_reducible exact AzAt.below W4.out hb | with_reducible exact AzAt.below W3.out hb | with_reducible exact AzAt.below W2.out hb | with_reducible exact AzAt.below W1.out hb | with_reducible exact AzAt.below H0.out.drew hb);clear hb)
  | (go_at_call 85;(with_reducible refine(K3.out _ (by first | with_reducible exact W5.out.bw | with_reducible exact W4.out.bw | with_reducible exact W3.out.bw | with_reducible exact W2.out.bw | with_reducible exact W1.out.bw | with_reducible exact H0.out.drew.bw)).mono ?_);rintro e u3 ⟨rfl,hb⟩;have W3:=hid (show AzAt [(w.heap.size+1,[.string ⟨#[]⟩,.string ⟨#[]⟩]),(w.heap.size,[.string xn,.string xd]),(A,[.int .i64 a.x,.int .i64 a.y]),(S,[.string sn,.string sd])] w _ from by first | with_reducible exact AzAt.below W5.out hb | with_reducible exact AzAt.below W4.out hb | with_reducible exact AzAt.below W3.out hb | with_reducible exact AzAt.below W2.out hb | with_reducible exact AzAt.below W1.out hb | with_reducible exact AzAt.below H0.out.drew hb);clear hb)
  | (go_at_call 140;(with_reducible refine(K4.out _ (by first | with_reducible exact W5.out.bw | with_reducible exact W4.out.bw | with_reducible exact W3.out.bw | with_reducible exact W2.out.bw | with_reducible exact W1.out.bw | with_reducible exact H0.out.drew.bw)).mono ?_);rintro e u4 ⟨rfl,hb⟩;have W4:=hid (show AzAt [(w.heap.size+1,[.string ⟨#[]⟩,.string ⟨#[]⟩]),(w.heap.size,[.string xn,.string xd]),(A,[.int .i64 a.x,.int .i64 a.y]),(S,[.string sn,.string sd])] w _ from by first | with_reducible exact AzAt.below W5.out hb | with_reducible exact AzAt.below W4.out hb | with_reducible exact AzAt.below W3.out hb | with_reducible exact AzAt.below W2.out hb | with_reducible exact AzAt.below W1.out hb | with_reducible exact AzAt.below H0.out.drew hb);clear hb)
  | (go_at_call 87;(with_reducible refine(K5.out _ (by first | with_reducible exact W5.out.bw | with_reducible exact W4.out.bw | with_reducible exact W3.out.bw | with_reducible exact W2.out.bw | with_reducible exact W1.out.bw | with_reducible exact H0.out.drew.bw)).mono ?_);rintro e u5 ⟨rfl,hb⟩;have W5:=hid (show AzAt [(w.heap.size+1,[.string ⟨#[]⟩,.string ⟨#[]⟩]),(w.heap.size,[.string xn,.string xd]),(A,[.int .i64 a.x,.int .i64 a.y]),(S,[.string sn,.string sd])] w _ from by first | with_reducible exact AzAt.below W5.out hb | with_reducible exact AzAt.below W4.out hb | with_reducible exact AzAt.below W3.out hb | with_reducible exact AzAt.below W2.out hb | with_reducible exact AzAt.below W1.out hb | with_reducible exact AzAt.below H0.out.drew hb);have h_:=W5.out.row (w.heap.size+1,[.string ⟨#[]⟩,.string ⟨#[]⟩]) (by simp);have zq0:=h_.row 0 _ rfl;have zf0:=h_.fz 0 (by simp);have zq1:=h_.row 1 _ rfl;have zf1:=h_.fz 1 (by simp);clear h_;clear hb)
  | fail)
 all_goals
  go_wp2
  have hp:=W5.out.set2 (by omega) (by simp <;> omega) (.string rn) (.string rd)
  generalize ((u5.setCell ⟨w.heap.size+1,0,none⟩ (.string rn)).setCell ⟨w.heap.size+1,1,none⟩ (.string rd))=WF at hp⊢
  have h_:=hp.row (w.heap.size+1,[.string rn,.string rd]) (by simp)
  have q0:=h_.row 0 _ rfl
  have q1:=h_.row 1 _ rfl
  clear h_
  refine bodyPost_ret (v:=.agg #[.string rn,.string rd]) ?_ rfl ⟨rfl,hp.bw⟩
  simp[results,Tryz.results139,go_sem,Result.andThen,q0,q1]
end Go.Proofs.YtlikmmpmnaaifaaGreatDoor
namespace Go.Proofs.YtlikmmpmnaaifaaGreatDoor
open Go.RowKit Go.Shelf
end Go.Proofs.YtlikmmpmnaaifaaGreatDoor
namespace Go.Proofs.YtlikmmpmnaaifaaGreatDoor
open Go.RowKit Go.Shelf
attribute [local go_sem] Oper.semAt_some
theorem qK_ {z:Int} {s:ByteArray} {k:Int} (h:outZ z=#[.string s,.int .i64 k]):s=opS (some z)∧k=opN (some z):=by
 by_cases hs:small z=true
 ·rw[aH_ hs,cU_ hs]
  exact aAJ hs h
 ·have hs':small z=false:=by simpa using hs
  have e1:opS (some z)=⟨#[]⟩:=by unfold opS;exact if_neg hs
  have e2:opN (some z)=30:=by unfold opN;exact if_neg hs
  rw[e1,e2]
  exact aAK hs' h
theorem oR_ {a b:ByteArray} (h:aG_ a=none∨aG_ b=none):(aY_ a.data.toList&&aY_ b.data.toList)=false:=by
 rw[←dB_,←dB_]
 rcases h with h|h
 ·rw[h];rfl
 ·rw[h];simp
theorem fY_ {a:ByteArray} {x:Int} (h:aG_ a=some x):a=str x∧small x=true:=bY_ h
theorem aKZ {w:World} (hG:Glob w) {a b:ByteArray} (ha:Sz a) (hb:Sz b) (W:World) (hk:Below w.heap.size w W) :
  Calls Tryz.prog 187 #[.string a,.string b] W fun e W'=>e=.returned (.tuple #[.string (opS (addO a b)),.int .i64 (opN (addO a b))])∧Below w.heap.size w W':=by
 have hno:(aG_ a=none∨aG_ b=none)→addO a b=none→Calls Tryz.prog 187 #[.string a,.string b] W fun e W'=>e=.returned (.tuple #[.string (opS (addO a b)),.int .i64 (opN (addO a b))])∧Below w.heap.size w W':=fun h ho=>by
  rw[ho,hA_,hB_]
  refine(Add_no a b W ha.le hb.le (oR_ h)).mono ?_
  rintro e w2 ⟨rfl,h2⟩
  exact⟨rfl,hk.trans (h2.mono hk.size)⟩
 cases h1:aG_ a with
 | none=>exact hno (.inl h1) (by unfold addO;rw[h1])
 | some x=>
  cases h2:aG_ b with
  | none=>exact hno (.inr h2) (by unfold addO;rw[h1,h2])
  | some y=>
   obtain⟨ea,hx⟩:=fY_ h1
   obtain⟨eb,hy⟩:=fY_ h2
   have ho:addO a b=some (x+y):=by unfold addO;rw[h1,h2]
   rw[ho]
   subst ea eb
   refine(Add_ok x y W (hG.below hk) hx hy).mono ?_
   rintro e w2 ⟨⟨s,n,h3,rfl⟩,h4⟩
   obtain⟨rfl,rfl⟩:=qK_ h3
   exact⟨rfl,hk.trans (h4.mono hk.size)⟩
theorem aKV {w:World} (hG:Glob w) {a b:ByteArray} (ha:Sz a) (hb:Sz b) (W:World) (hk:Below w.heap.size w W) :
  Calls Tryz.prog 181 #[.string a,.string b] W fun e W'=>e=.returned (.tuple #[.string (opS (subO a b)),.int .i64 (opN (subO a b))])∧Below w.heap.size w W':=by
 have hno:(aG_ a=none∨aG_ b=none)→subO a b=none→Calls Tryz.prog 181 #[.string a,.string b] W fun e W'=>e=.returned (.tuple #[.string (opS (subO a b)),.int .i64 (opN (subO a b))])∧Below w.heap.size w W':=fun h ho=>by
  rw[ho,hA_,hB_]
  refine(Sub_no a b W ha.le hb.le (oR_ h)).mono ?_
  rintro e w2 ⟨rfl,h2⟩
  exact⟨rfl,hk.trans (h2.mono hk.size)⟩
 cases h1:aG_ a with
 | none=>exact hno (.inl h1) (by unfold subO;rw[h1])
 | some x=>
  cases h2:aG_ b with
  | none=>exact hno (.inr h2) (by unfold subO;rw[h1,h2])
  | some y=>
   obtain⟨ea,hx⟩:=fY_ h1
   obtain⟨eb,hy⟩:=fY_ h2
   have ho:subO a b=some (x-y):=by unfold subO;rw[h1,h2]
   rw[ho]
   subst ea eb
   refine(Sub_ok x y W (hG.below hk) hx hy).mono ?_
   rintro e w2 ⟨⟨s,n,h3,rfl⟩,h4⟩
   obtain⟨rfl,rfl⟩:=qK_ h3
   exact⟨rfl,hk.trans (h4.mono hk.size)⟩
theorem aKW {w:World} (hG:Glob w) {a b:ByteArray} (ha:Sz a) (hb:Sz b) (W:World) (hk:Below w.heap.size w W) :
  Calls Tryz.prog 246 #[.string a,.string b] W fun e W'=>e=.returned (.tuple #[.string (opS (mulO a b)),.int .i64 (opN (mulO a b))])∧Below w.heap.size w W':=by
 have hno:(aG_ a=none∨aG_ b=none)→mulO a b=none→Calls Tryz.prog 246 #[.string a,.string b] W fun e W'=>e=.returned (.tuple #[.string (opS (mulO a b)),.int .i64 (opN (mulO a b))])∧Below w.heap.size w W':=fun h ho=>by
  rw[ho,hA_,hB_]
  refine(Mul_no a b W ha.le hb.le (oR_ h)).mono ?_
  rintro e w2 ⟨rfl,h2⟩
  exact⟨rfl,hk.trans (h2.mono hk.size)⟩
 cases h1:aG_ a with
 | none=>exact hno (.inl h1) (by unfold mulO;rw[h1])
 | some x=>
  cases h2:aG_ b with
  | none=>exact hno (.inr h2) (by unfold mulO;rw[h1,h2])
  | some y=>
   obtain⟨ea,hx⟩:=fY_ h1
   obtain⟨eb,hy⟩:=fY_ h2
   have ho:mulO a b=some (x*y):=by unfold mulO;rw[h1,h2]
   rw[ho]
   subst ea eb
   refine(Mul_ok x y W (hG.below hk) hx hy).mono ?_
   rintro e w2 ⟨⟨s,n,h3,rfl⟩,h4⟩
   obtain⟨rfl,rfl⟩:=qK_ h3
   exact⟨rfl,hk.trans (h4.mono hk.size)⟩
theorem aKX {w:World} (hG:Glob w) {a b:ByteArray} (ha:Sz a) (hb:Sz b) (W:World) (hk:Below w.heap.size w W) :
  Calls Tryz.prog 233 #[.string a,.string b] W fun e W'=>e=.returned (.tuple #[.string (opS (gcdO a b)),.int .i64 (opN (gcdO a b))])∧Below w.heap.size w W':=by
 have hno:(aG_ a=none∨aG_ b=none)→gcdO a b=none→Calls Tryz.prog 233 #[.string a,.string b] W fun e W'=>e=.returned (.tuple #[.string (opS (gcdO a b)),.int .i64 (opN (gcdO a b))])∧Below w.heap.size w W':=fun h ho=>by
  rw[ho,hA_,hB_]
  refine(Gcd_no a b W ha.le hb.le (oR_ h)).mono ?_
  rintro e w2 ⟨rfl,h2⟩
  exact⟨rfl,hk.trans (h2.mono hk.size)⟩
 cases h1:aG_ a with
 | none=>exact hno (.inl h1) (by unfold gcdO;rw[h1])
 | some x=>
  cases h2:aG_ b with
  | none=>exact hno (.inr h2) (by unfold gcdO;rw[h1,h2])
  | some y=>
   obtain⟨ea,hx⟩:=fY_ h1
   obtain⟨eb,hy⟩:=fY_ h2
   have ho:gcdO a b=some (((Nat.gcd x.natAbs y.natAbs:Nat):Int)):=by unfold gcdO;rw[h1,h2]
   rw[ho]
   subst ea eb
   refine(Gcd_ok x y W (hG.below hk) hx hy).mono ?_
   rintro e w2 ⟨⟨s,n,h3,rfl⟩,h4⟩
   obtain⟨rfl,rfl⟩:=qK_ h3
   exact⟨rfl,hk.trans (h4.mono hk.size)⟩
theorem aKY {w:World} (hG:Glob w) {a b:ByteArray} (ha:Sz a) (hb:Sz b) (W:World) (hk:Below w.heap.size w W) :
  Calls Tryz.prog 185 #[.string a,.string b] W fun e W'=>e=.returned (.tuple #[.string (opS (divO a b)),.string (opS (modO a b)),.int .i64 (opN (divO a b))])∧Below w.heap.size w W':=by
 have hno:(aG_ a=none∨aG_ b=none)→divO a b=none→modO a b=none→Calls Tryz.prog 185 #[.string a,.string b] W fun e W'=>e=.returned (.tuple #[.string (opS (divO a b)),.string (opS (modO a b)),.int .i64 (opN (divO a b))])∧Below w.heap.size w W':=fun h ho hm=>by
  rw[ho,hm,hA_,hB_]
  refine(Div_no a b W ha.le hb.le (oR_ h)).mono ?_
  rintro e w2 ⟨rfl,h2⟩
  exact⟨rfl,hk.trans (h2.mono hk.size)⟩
 cases h1:aG_ a with
 | none=>exact hno (.inl h1) (by unfold divO;rw[h1]) (by unfold modO;rw[h1])
 | some x=>
  cases h2:aG_ b with
  | none=>exact hno (.inr h2) (by unfold divO;rw[h1,h2]) (by unfold modO;rw[h1,h2])
  | some y=>
   obtain⟨ea,hx⟩:=fY_ h1
   obtain⟨eb,hy⟩:=fY_ h2
   by_cases hy0:y=0
   ·have ho:divO a b=none:=by unfold divO;rw[h1,h2];exact if_pos hy0
    have hm:modO a b=none:=by unfold modO;rw[h1,h2];exact if_pos hy0
    rw[ho,hm,hA_,hB_]
    subst hy0
    subst ea eb
    refine(aML x W (hG.below hk) hx).mono ?_
    rintro e w2 ⟨rfl,h4⟩
    exact⟨rfl,hk.trans (h4.mono hk.size)⟩
   ·have ho:divO a b=some (x/y):=by unfold divO;rw[h1,h2];exact if_neg hy0
    have hm:modO a b=some (x%y):=by unfold modO;rw[h1,h2];exact if_neg hy0
    rw[ho,hm,aH_ (bD_ y hx),aH_ (eQ_ hy0 hy),cU_ (bD_ y hx)]
    subst ea eb
    refine(Div_ok x y W (hG.below hk) hx hy hy0).mono ?_
    rintro e w2 ⟨rfl,h4⟩
    exact⟨rfl,hk.trans (h4.mono hk.size)⟩
theorem tP_ {w:World} {a b:ByteArray} (ha:Sz a) (hb:Sz b) (W:World) (hk:Below w.heap.size w W) :
  Calls Tryz.prog 186 #[.string a,.string b] W fun e W'=>e=.returned (.int .i64 (cmpO a b))∧Below w.heap.size w W':=by
 have hno:(aG_ a=none∨aG_ b=none)→cmpO a b=0→Calls Tryz.prog 186 #[.string a,.string b] W fun e W'=>e=.returned (.int .i64 (cmpO a b))∧Below w.heap.size w W':=fun h ho=>by
  rw[ho]
  refine(aCD a b W ha.le hb.le (oR_ h)).mono ?_
  rintro e w2 ⟨rfl,h2⟩
  exact⟨rfl,hk.trans (h2.mono hk.size)⟩
 cases h1:aG_ a with
 | none=>exact hno (.inl h1) (by unfold cmpO;rw[h1])
 | some x=>
  cases h2:aG_ b with
  | none=>exact hno (.inr h2) (by unfold cmpO;rw[h1,h2])
  | some y=>
   obtain⟨ea,hx⟩:=fY_ h1
   obtain⟨eb,hy⟩:=fY_ h2
   have ho:cmpO a b=cmpI x y:=by unfold cmpO;rw[h1,h2]
   rw[ho]
   subst ea eb
   refine(aCC x y W hx hy).mono ?_
   rintro e w2 ⟨rfl,h4⟩
   exact⟨rfl,hk.trans (h4.mono hk.size)⟩
theorem aAR {w:World} {a:ByteArray} (ha:Sz a) (W:World) (hk:Below w.heap.size w W) :
  Calls Tryz.prog 199 #[.string a] W fun e W'=>e=.returned (.bool (aY_ a.data.toList))∧Below w.heap.size w W':=aQC ha.le rfl W hk
theorem IOps.of_glob {w:World} (hG:Glob w):IOps w where
 val ha W _:=aAR ha W (Below.refl _ _)
 cmp ha hb W _:=tP_ ha hb W (Below.refl _ _)
 gcd ha hb W hk:=aKX (hG.below hk) ha hb W (Below.refl _ _)
 add ha hb W hk:=aKZ (hG.below hk) ha hb W (Below.refl _ _)
 sub ha hb W hk:=aKV (hG.below hk) ha hb W (Below.refl _ _)
 mul ha hb W hk:=aKW (hG.below hk) ha hb W (Below.refl _ _)
 div ha hb W hk:=aKY (hG.below hk) ha hb W (Below.refl _ _)
theorem FrOp.of_glob {w:World} (hG:Glob w):FrOp w:=fun _ h1 h2 W hk=>aIO (hG.below hk) h1 h2 rfl W (Below.refl _ _)
end Go.Proofs.YtlikmmpmnaaifaaGreatDoor
