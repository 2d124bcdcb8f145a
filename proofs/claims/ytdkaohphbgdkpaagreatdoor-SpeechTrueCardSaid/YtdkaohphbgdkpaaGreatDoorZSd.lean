/- - -/
import Derived.Lib.QuietBelow
import Derived.BigQuiet
import Derived.Deep.CutRange
import Derived.Test.YtdkaohphbgdkpaaGreatDoorZPl2
import Derived.Test.YtdkaohphbgdkpaaGreatDoorZSo
import Derived.Test.YtdkaohphbgdkpaaGreatDoorZSb
set_option maxHeartbeats 40000000
set_option maxRecDepth 1000000
namespace Go.Proofs.YtdkaohphbgdkpaaGreatDoor
open Go.RowKit Go.Shelf
attribute [local go_sem] Oper.semAt_some
abbrev shV (s:Sh):Value:=.agg #[.int .i64 s.code,.int .i64 s.kind,.int .i64 s.rect.x,.int .i64 s.rect.y,.int .i64 s.rect.w,.int .i64 s.rect.h,.int .i64 s.a.x,.int .i64 s.a.y,.int .i64 s.b.x,.int .i64 s.b.y,.string s.word]
theorem oD_ (n lo hi:Int) (w:World) :
  Calls Tryz.prog 96 #[.int .i64 n,.int .i64 lo,.int .i64 hi] w fun e w'=>e=.returned (.bool (decide (lo≤n)&&decide (n≤hi)))∧w'=w:=by
 cases h1:decide (lo≤n) <;> cases h2:decide (n≤hi)
 all_goals
  go_enter Tryz.func96,Tryz.ntmps96
  go_wp2
  go_ret
  exact⟨rfl,rfl⟩
theorem wIn_s (n lo hi:Int) (w:World) :
  Calls Tryz.prog 126 #[.int .i64 n,.int .i64 lo,.int .i64 hi] w fun e w'=>e=.returned (.bool (decide (lo≤n)&&decide (n≤hi)))∧w'=w:=by
 cases h1:decide (lo≤n) <;> cases h2:decide (n≤hi)
 all_goals
  go_enter Tryz.func126,Tryz.ntmps126
  go_wp2
  go_ret
  exact⟨rfl,rfl⟩
theorem gIn_s (n lo hi:Int) (w:World) :
  Calls Tryz.prog 108 #[.int .i64 n,.int .i64 lo,.int .i64 hi] w fun e w'=>e=.returned (.bool (decide (lo≤n)&&decide (n≤hi)))∧w'=w:=by
 cases h1:decide (lo≤n) <;> cases h2:decide (n≤hi)
 all_goals
  go_enter Tryz.func108,Tryz.ntmps108
  go_wp2
  go_ret
  exact⟨rfl,rfl⟩
theorem oN_ (w:World) (a b:Obj):Below w.heap.size w ((w.alloc a).alloc b):=((Below.refl _ _).alloc (Nat.le_refl _) _).alloc (by simp) _
theorem aT_ {w V W:World} (h:Below w.heap.size w V) (hb:Below V.heap.size V W):Below w.heap.size w W:=h.trans (hb.mono h.size)
theorem aED (b s:Sh) (w:World) :
  Calls Tryz.prog 71 #[shV b,shV s] w fun e W'=>e=.returned (.bool (bQ_ b s))∧Below w.heap.size w W':=by
 have KI:=Lib.hid (fun W=>aAJ s.rect b.rect W)
 have t3:∀W,(Op.equalIn 10000 26 (.agg #[.int .i64 b.rect.x,.int .i64 b.rect.y,.int .i64 b.rect.w,.int .i64 b.rect.h]) (.agg #[.int .i64 s.rect.x,.int .i64 s.rect.y,.int .i64 s.rect.w,.int .i64 s.rect.h])).run Tryz.prog W=Result.ok (decide (b.rect=s.rect)) W:=fun W=>eq_rc 9998 b.rect s.rect W
 have e3:decide (b.rect≠s.rect) = !decide (b.rect=s.rect):=by simp
 unfold bQ_ vK_
 rw[e3]
 obtain⟨c3,hc3⟩:∃c,c=decide (b.rect=s.rect):=⟨_,rfl⟩
 rw[←hc3]
 simp only[←hc3] at t3
 obtain⟨ki,hki⟩:∃c,c=jG_ s.rect b.rect:=⟨_,rfl⟩
 rw[←hki]
 rw[←hki] at KI
 obtain⟨k0,hk0⟩:∃c,c=decide (b.kind=2):=⟨_,rfl⟩
 have t0:(b.kind==2)=k0:=by rw[hk0];rfl
 rw[←hk0]
 clear hc3 hki e3 hk0
 cases c1:decide (b.code<s.code) <;> cases c2:decide (s.code<b.code) <;> cases k0
 all_goals try cases c3
 all_goals
  go_enter Tryz.func71,Tryz.ntmps71
  go_wp2_with (go_at_call 30;(with_reducible refine(KI.out _).mono ?_);rintro e w1 ⟨rfl,hb⟩;have H1:=Lib.hid (aT_ (oN_ _ _ _) hb))
  go_ret
  first
   | exact⟨rfl,H1.out⟩
   | exact⟨rfl,oN_ _ _ _⟩
def parP (ss:List Sh) (s:Sh) (k:Nat):Option Sh:=(ss.take k).foldl (parF s) none
def zSh:Sh:=⟨0,0,⟨0,0,0,0⟩,⟨0,0⟩,⟨0,0⟩,⟨#[]⟩⟩
def orZ (p:Option Sh):Sh:=p.getD zSh
theorem vD_ {ss:List Sh} {s b:Sh} {k:Nat} (h:ss[k]?=some b):parP ss s (k+1)=parF s (parP ss s k) b:=by
 unfold parP
 rw[List.take_add_one,h,Option.toList_some,List.foldl_append]
 rfl
theorem zO_ (ss:List Sh) (s:Sh):parP ss s ss.length=parK ss s:=by unfold parP;rw[List.take_length];rfl
theorem zN_ {ss:List Sh} {s q:Sh} {k:Nat} (h:parP ss s k=some q):q∈ss:=List.mem_of_mem_take (eH_ (l:=ss.take k) h).1
theorem ExAt.putSh {P:World→Prop} {L:List (Nat×List Value)} {w W:World} {B:Nat} {q:Sh} (h:ExAt ((B,shC q)::L) P w W) (hp:P w) (hB:w.heap.size≤B) (hd:∀x∈L,B≠x.1) (x:Sh) :
  ExAt ((B,shC x)::L) P w (((((((((((W.setCell ⟨B,0,none⟩ (.int .i64 x.code)).setCell ⟨B,1,none⟩ (.int .i64 x.kind)).setCell ⟨B,2,none⟩ (.int .i64 x.rect.x)).setCell ⟨B,3,none⟩ (.int .i64 x.rect.y)).setCell ⟨B,4,none⟩ (.int .i64 x.rect.w)).setCell ⟨B,5,none⟩ (.int .i64 x.rect.h)).setCell ⟨B,6,none⟩ (.int .i64 x.a.x)).setCell ⟨B,7,none⟩ (.int .i64 x.a.y)).setCell ⟨B,8,none⟩ (.int .i64 x.b.x)).setCell ⟨B,9,none⟩ (.int .i64 x.b.y)).setCell ⟨B,10,none⟩ (.string x.word)):=
 ((((((((((h.set hp hB hd (i:=0) rfl _).set hp hB hd (i:=1) rfl _).set hp hB hd (i:=2) rfl _).set hp hB hd (i:=3) rfl _).set hp hB hd (i:=4) rfl _).set hp hB hd (i:=5) rfl _).set hp hB hd (i:=6) rfl _).set hp hB hd (i:=7) rfl _).set hp hB hd (i:=8) rfl _).set hp hB hd (i:=9) rfl _).set hp hB hd (i:=10) rfl _
theorem AzAt.sh {L:List (Nat×List Value)} {w W:World} (h:AzAt L w W) (k:Nat) {B:Nat} {x:Sh} (h1:L[k]?=some (B,shC x)):W.cell? ⟨B,0,none⟩=some (.int .i64 x.code)∧W.cell? ⟨B,1,none⟩=some (.int .i64 x.kind)∧W.cell? ⟨B,2,none⟩=some (.int .i64 x.rect.x)∧W.cell? ⟨B,3,none⟩=some (.int .i64 x.rect.y)∧W.cell? ⟨B,4,none⟩=some (.int .i64 x.rect.w)∧W.cell? ⟨B,5,none⟩=some (.int .i64 x.rect.h)∧W.cell? ⟨B,6,none⟩=some (.int .i64 x.a.x)∧W.cell? ⟨B,7,none⟩=some (.int .i64 x.a.y)∧W.cell? ⟨B,8,none⟩=some (.int .i64 x.b.x)∧W.cell? ⟨B,9,none⟩=some (.int .i64 x.b.y)∧W.cell? ⟨B,10,none⟩=some (.string x.word):=
 ⟨h.ce k 0 h1 rfl,h.ce k 1 h1 rfl,h.ce k 2 h1 rfl,h.ce k 3 h1 rfl,h.ce k 4 h1 rfl,h.ce k 5 h1 rfl,h.ce k 6 h1 rfl,h.ce k 7 h1 rfl,h.ce k 8 h1 rfl,h.ce k 9 h1 rfl,h.ce k 10 h1 rfl⟩
theorem AzAt.shf {L:List (Nat×List Value)} {w W:World} (h:AzAt L w W) (k:Nat) {B:Nat} {x:Sh} (h1:L[k]?=some (B,shC x)):W.frozen? ⟨B,0,none⟩=false∧W.frozen? ⟨B,1,none⟩=false∧W.frozen? ⟨B,2,none⟩=false∧W.frozen? ⟨B,3,none⟩=false∧W.frozen? ⟨B,4,none⟩=false∧W.frozen? ⟨B,5,none⟩=false∧W.frozen? ⟨B,6,none⟩=false∧W.frozen? ⟨B,7,none⟩=false∧W.frozen? ⟨B,8,none⟩=false∧W.frozen? ⟨B,9,none⟩=false∧W.frozen? ⟨B,10,none⟩=false:=
 ⟨h.cf k 0 h1 rfl,h.cf k 1 h1 rfl,h.cf k 2 h1 rfl,h.cf k 3 h1 rfl,h.cf k 4 h1 rfl,h.cf k 5 h1 rfl,h.cf k 6 h1 rfl,h.cf k 7 h1 rfl,h.cf k 8 h1 rfl,h.cf k 9 h1 rfl,h.cf k 10 h1 rfl⟩
theorem ShsAt.sh {a:Option Addr} {ss:List Sh} {W:World} (h:ShsAt a ss W) {k:Nat} {x:Sh} (hk:ss[k]?=some x):∃b o:Nat,a=some ⟨b,o,none⟩∧b<W.heap.size∧W.cell? ⟨b,o+k*11,none⟩=some (.int .i64 x.code)∧W.cell? ⟨b,o+k*11+1,none⟩=some (.int .i64 x.kind)∧W.cell? ⟨b,o+k*11+2,none⟩=some (.int .i64 x.rect.x)∧W.cell? ⟨b,o+k*11+3,none⟩=some (.int .i64 x.rect.y)∧W.cell? ⟨b,o+k*11+4,none⟩=some (.int .i64 x.rect.w)∧W.cell? ⟨b,o+k*11+5,none⟩=some (.int .i64 x.rect.h)∧W.cell? ⟨b,o+k*11+6,none⟩=some (.int .i64 x.a.x)∧W.cell? ⟨b,o+k*11+7,none⟩=some (.int .i64 x.a.y)∧W.cell? ⟨b,o+k*11+8,none⟩=some (.int .i64 x.b.x)∧W.cell? ⟨b,o+k*11+9,none⟩=some (.int .i64 x.b.y)∧W.cell? ⟨b,o+k*11+10,none⟩=some (.string x.word):=by
 obtain⟨b,o,e,h1,h2⟩:=h.row k x hk
 exact⟨b,o,e,h1,h2 0 _ rfl,h2 1 _ rfl,h2 2 _ rfl,h2 3 _ rfl,h2 4 _ rfl,h2 5 _ rfl,h2 6 _ rfl,h2 7 _ rfl,h2 8 _ rfl,h2 9 _ rfl,h2 10 _ rfl⟩
theorem aCM {s:Sh} (h:bd s):0≤s.rect.w*s.rect.h∧s.rect.w*s.rect.h≤16769025:=by
 have:=mT_ h.1
 have h1:=Int.mul_le_mul (show s.rect.w≤4095 by omega) (show s.rect.h≤4095 by omega) (by omega) (by omega)
 have h2:=Int.mul_nonneg (show 0≤s.rect.w by omega) (show 0≤s.rect.h by omega)
 omega
theorem lR_ {a:Option Addr} {n cap:Nat} {ss:List Sh} (s:Sh) (hn:ss.length=n) (hn6:n≤1000000) (hb:∀x∈ss,bd x) (w:World) (hS:ShsAt a ss w) :
  Calls Tryz.prog 36 #[.slice a n cap,shV s] w fun e W'=>e=.returned (.tuple #[shV (orZ (parK ss s)),.bool (parK ss s).isSome])∧Below w.heap.size w W':=by
 have KH:=Lib.hid (fun b W=>aED b s W)
 have H0:=Lib.hid (show ExAt [(w.heap.size+1,shC zSh),(w.heap.size,shC s)] (ShsAt a ss) w _ from by have hp:=((show ExAt [] (ShsAt a ss) w w from⟨AzAt.start w,hS,fun A C h hb=>h.below hb⟩).push (shC s) 30).push (shC zSh) 30;simp only[World.size_alloc] at hp;exact hp)
 have HN:=Lib.hid hn
 have HB:=Lib.hid hb
 have HP:=Lib.hid hS
 clear hn hb hS
 obtain⟨X,hX⟩:∃X,X=w.heap.size+1:=⟨_,rfl⟩
 have HX:=Lib.hid hX
 go_enter Tryz.func36,Tryz.ntmps36
 go_wp2
 rw[←hX] at H0⊢
 clear hX
 go_loopw [5,10] (fun v5 v10 wr=>∃k:Nat,k≤n∧v10=.int .i64 (k:Int)∧v5=.bool (parP ss s k).isSome∧ExAt [(X,shC (orZ (parP ss s k))),(w.heap.size,shC s)] (ShsAt a ss) w wr) (fun _ v10 _=>n-(intOf v10).toNat)
 case atStart=>exact⟨0,Nat.zero_le _,rfl,rfl,H0.out⟩
 case round=>
  obtain⟨k,hk,rfl,rfl,ho⟩:=hrel
  have H1:=Lib.hid ho
  clear ho H0
  by_cases hkn:k<n
  case neg=>
   obtain rfl:k=n:=by omega
   have t9:decide ((k:Int)<(k:Int))=false:=decide_eq_false (by omega)
   have e1:parP ss s k=parK ss s:=by rw[←HN.out];exact zO_ ss s
   rw[e1] at H1⊢
   clear e1
   have hd:∀y∈[(w.heap.size,shC s)],X≠y.1:=fun y hy=>by rw[List.mem_singleton.1 hy];have:=HX.out;simp only;omega
   obtain⟨x0,x1,x2,x3,x4,x5,x6,x7,x8,x9,x10⟩:=H1.out.az.sh 0 rfl
   obtain⟨f0,f1,f2,f3,f4,f5,f6,f7,f8,f9,f10⟩:=H1.out.az.shf 0 rfl
   have H2:=Lib.hid (H1.out.putSh HP.out (by have:=HX.out;omega) hd (orZ (parK ss s)))
   go_wp2
   obtain⟨y0,y1,y2,y3,y4,y5,y6,y7,y8,y9,y10⟩:=H2.out.az.sh 0 rfl
   refine bodyPost_ret (v:=.tuple #[shV (orZ (parK ss s)),.bool (parK ss s).isSome]) ?_ rfl ⟨rfl,H2.out.az.bw⟩
   simp[results,Tryz.results36,go_sem,y0,y1,y2,y3,y4,y5,y6,y7,y8,y9,y10,Result.andThen]
  have t9:decide ((k:Int)<(n:Int))=true:=decide_eq_true (by omega)
  obtain⟨x,hx⟩:∃x,ss[k]?=some x:=⟨_,List.getElem?_eq_getElem (by rw[HN.out];exact hkn)⟩
  have hstep:=vD_ (s:=s) hx
  have hbx:=aCM (HB.out x (List.mem_of_getElem? hx))
  obtain⟨b,o,rfl,hb7,c0,c1,c2,c3,c4,c5,c6,c7,c8,c9,c10⟩:=H1.out.p.sh hx
  have hd:∀y∈[(w.heap.size,shC s)],X≠y.1:=fun y hy=>by rw[List.mem_singleton.1 hy];have:=HX.out;simp only;omega
  obtain⟨b1,b2⟩:=hbx
  have KX:=Lib.hid (fun W=>KH.out x W)
  obtain⟨s0,s1,s2,s3,s4,s5,s6,s7,s8,s9,s10⟩:=H1.out.az.sh 1 rfl
  have hsw:w.heap.size<wr.heap.size:=(H1.out.az.row (w.heap.size,shC s) (by simp)).sz
  have H2:=Lib.hid (H1.out.push (shC x) 30)
  replace hstep:=Lib.hid hstep
  replace hd:=Lib.hid hd
  cases hh:bQ_ x s with
  | false=>
   rw[hh] at KX
   go_wp2_with (go_at_call 71;(with_reducible refine(KX.out _).mono ?_);rintro e w1 ⟨rfl,hb⟩;have H3:=Lib.hid ((H2.out.below hb).sub (L':=[(X,shC (orZ (parP ss s k))),(w.heap.size,shC s)]) (by simp)))
   have e:parP ss s (k+1)=parP ss s k:=by rw[hstep.out];unfold parF;rw[if_neg (by rw[hh];simp)]
   exact⟨⟨k+1,by omega,by go_num,by rw[e],by rw[e];exact H3.out⟩,by simp only[intOf];omega⟩
  | true=>
   rw[hh] at KX
   have hxp:wr.heap.size<(wr.alloc (Obj.cells (shC x).toArray 30)).heap.size:=by simp
   cases hp:parP ss s k with
   | none=>
    rw[hp] at H1 H2
    have e:parP ss s (k+1)=some x:=by rw[hstep.out,hp];unfold parF;rw[if_pos hh]
    go_wp2_with (go_at_call 71;(with_reducible refine(KX.out _).mono ?_);rintro e w1 ⟨rfl,hb⟩;have H3:=Lib.hid ((H2.out.below hb).sub (L':=[(X,shC (orZ none)),(w.heap.size,shC s)]) (by simp));obtain⟨d0,d1,d2,d3,d4,d5,d6,d7,d8,d9,d10⟩:=(H2.out.below hb).az.sh 0 rfl;obtain⟨p0,p1,p2,p3,p4,p5,p6,p7,p8,p9,p10⟩:=H3.out.az.sh 0 rfl;obtain⟨f0,f1,f2,f3,f4,f5,f6,f7,f8,f9,f10⟩:=H3.out.az.shf 0 rfl;have hxw:X<w1.heap.size:=(H3.out.az.row (X,shC (orZ none)) (by simp)).sz)
    have H4:=Lib.hid (H3.out.putSh HP.out (by have:=HX.out;omega) hd.out x)
    exact⟨⟨k+1,by omega,by go_num,by rw[e];rfl,by rw[e];exact H4.out⟩,by simp only[intOf];omega⟩
   | some q=>
    rw[hp] at H2
    replace H2:Hid (ExAt [(wr.heap.size,shC x),(X,shC q),(w.heap.size,shC s)] (ShsAt (some ⟨b,o,none⟩) ss) w _):=H2
    have hbq:=aCM (HB.out q (zN_ hp))
    obtain⟨b3,b4⟩:=hbq
    cases hle:decide (x.rect.w*x.rect.h≤q.rect.w*q.rect.h) with
    | true=>
     have e:parP ss s (k+1)=some x:=by rw[hstep.out,hp];unfold parF;rw[if_pos hh];exact if_pos (of_decide_eq_true hle)
     go_wp2_with (go_at_call 71;(with_reducible refine(KX.out _).mono ?_);rintro e w1 ⟨rfl,hb⟩;have H3:=Lib.hid ((H2.out.below hb).sub (L':=[(X,shC q),(w.heap.size,shC s)]) (by simp));obtain⟨d0,d1,d2,d3,d4,d5,d6,d7,d8,d9,d10⟩:=(H2.out.below hb).az.sh 0 rfl;obtain⟨p0,p1,p2,p3,p4,p5,p6,p7,p8,p9,p10⟩:=H3.out.az.sh 0 rfl;obtain⟨f0,f1,f2,f3,f4,f5,f6,f7,f8,f9,f10⟩:=H3.out.az.shf 0 rfl;have hxw:X<w1.heap.size:=(H3.out.az.row (X,shC q) (by simp)).sz)
     have H4:=Lib.hid (H3.out.putSh HP.out (by have:=HX.out;omega) hd.out x)
     exact⟨⟨k+1,by omega,by go_num,by rw[e];rfl,by rw[e];exact H4.out⟩,by simp only[intOf];omega⟩
    | false=>
     have e:parP ss s (k+1)=some q:=by rw[hstep.out,hp];unfold parF;rw[if_pos hh];exact if_neg (of_decide_eq_false hle)
     go_wp2_with (go_at_call 71;(with_reducible refine(KX.out _).mono ?_);rintro e w1 ⟨rfl,hb⟩;have H3:=Lib.hid ((H2.out.below hb).sub (L':=[(X,shC q),(w.heap.size,shC s)]) (by simp));obtain⟨d0,d1,d2,d3,d4,d5,d6,d7,d8,d9,d10⟩:=(H2.out.below hb).az.sh 0 rfl;obtain⟨p0,p1,p2,p3,p4,p5,p6,p7,p8,p9,p10⟩:=H3.out.az.sh 0 rfl;obtain⟨f0,f1,f2,f3,f4,f5,f6,f7,f8,f9,f10⟩:=H3.out.az.shf 0 rfl;have hxw:X<w1.heap.size:=(H3.out.az.row (X,shC q) (by simp)).sz)
     exact⟨⟨k+1,by omega,by go_num,by rw[e];rfl,by rw[e];exact H3.out⟩,by simp only[intOf];omega⟩
theorem wU_ (c:UInt8):bS_ 4 [c]=(decide (65≤c.toNat)&&decide (c.toNat≤90)):=by unfold bS_;rw[if_pos rfl]
theorem wV_ {k:Int} (h:(k==4)=false) (w:Bs):bS_ k w=(decide (1≤k)&&decide (k≤5)&&decide (w=[])):=by unfold bS_;rw[if_neg (by simpa using h)]
theorem wW_ {w:Bs} (h:w.length≠1):bS_ 4 w=false:=by
 unfold bS_
 rw[if_pos rfl]
 split
 ·exact absurd rfl h
 ·rfl
theorem mD_ (s:Sh) (w:World) :
  Calls Tryz.prog 63 #[shV s] w fun e W'=>e=.returned (.bool (bS_ s.kind s.word.data.toList))∧Below w.heap.size w W':=by
 have hB:=fun o:Obj=>(Below.refl w.heap.size w).alloc (Nat.le_refl _) o
 obtain⟨sc,kd,rc,pa,pb,wd⟩:=s
 simp only
 cases k0:(kd==4) with
 | true=>
  obtain rfl:kd=4:=by simpa using k0
  clear k0
  by_cases hl:wd.size=1
  ·obtain⟨⟨l⟩⟩:=wd
   obtain⟨c,rfl⟩:∃c,l=[c]:=by
    match l,hl with
    | [c],_=>exact⟨c,rfl⟩
   clear hl
   rw[wU_]
   have KI:=Lib.hid (fun W=>oD_ (c.toNat:Int) 65 90 W)
   have e1:decide ((65:Int)≤(c.toNat:Int))=decide (65≤c.toNat):=by by_cases h:65≤c.toNat <;> simp[h] <;> omega
   have e2:decide ((c.toNat:Int)≤90)=decide (c.toNat≤90):=by by_cases h:c.toNat≤90 <;> simp[h] <;> omega
   rw[e1,e2] at KI
   clear e1 e2
   generalize (decide (65≤c.toNat)&&decide (c.toNat≤90))=r at *
   have HC:=Lib.hid (show wrap64 (((⟨⟨[c]⟩⟩:ByteArray)[0]'(by show 0<1;omega)).toNat:Int)=(c.toNat:Int) from IntWalk.wrap64_in _ (by have:=c.toNat_lt;show -9223372036854775808≤(c.toNat:Int)∧(c.toNat:Int)≤9223372036854775807;omega))
   go_enter Tryz.func63,Tryz.ntmps63
   go_wp2_with (go_at_call 96;rw[HC.out];(with_reducible refine(KI.out _).mono ?_);rintro e w1 ⟨rfl,rfl⟩)
   go_ret
   exact⟨by cases r <;> rfl,hB _⟩
  ·rw[wW_ (w:=wd.data.toList) (by rw[Array.length_toList];exact hl)]
   have t1:((wd.size:Int)==1)=false:=by simp;omega
   clear hl
   go_enter Tryz.func63,Tryz.ntmps63
   go_wp2
   go_ret
   exact⟨rfl,hB _⟩
 | false=>
  rw[wV_ k0]
  have KI:=Lib.hid (fun W=>oD_ kd 1 5 W)
  have e1:(wd.toList == [])=decide (wd.data.toList=[]):=by rw[ByteArray.toList_eq];cases wd.data.toList <;> rfl
  generalize (decide (1≤kd)&&decide (kd≤5))=r at *
  generalize decide (wd.data.toList=[])=q at *
  cases r
  all_goals
   go_enter Tryz.func63,Tryz.ntmps63
   go_wp2_with (go_at_call 96;(with_reducible refine(KI.out _).mono ?_);rintro e w1 ⟨rfl,rfl⟩)
   go_ret
   exact⟨by cases q <;> rfl,hB _⟩
def yB_ (g:Nat) (lb:Array Value) (p:Sh→Bool) (w:World):Prop:=∀(s:Sh) (W:World),Below w.heap.size w W→Calls Tryz.prog g (#[shV s]++lb) W fun e W'=>e=.returned (.bool (p s))∧Below W.heap.size W W'
def ixF (p:Sh→Bool) (ss:List Sh):Int:=match ss.findIdx? p with|none=>-1|some i=>(i:Int)
theorem aCE {p:Sh→Bool} {ss:List Sh} {k:Nat} {x:Sh} (hk:ss[k]?=some x) (hno:∀j,j<k→∀y,ss[j]?=some y→p y=false) (hp:p x=true):ixF p ss=(k:Int):=by
 have:ss.findIdx? p=some k:=by
  rw[List.findIdx?_eq_some_iff_getElem]
  obtain⟨h,e⟩:=List.getElem?_eq_some_iff.1 hk
  exact⟨h,by rw[e];exact hp,fun j hj=>by
   have:=hno j hj _ (List.getElem?_eq_getElem (by omega))
   simp[this]⟩
 unfold ixF
 rw[this]
theorem ixF_no {p:Sh→Bool} {ss:List Sh} (hno:∀j,j<ss.length→∀y,ss[j]?=some y→p y=false):ixF p ss = -1:=by
 have:ss.findIdx? p=none:=by
  rw[List.findIdx?_eq_none_iff]
  intro x hx
  obtain⟨j,hj,e⟩:=List.getElem_of_mem hx
  exact hno j hj x (by rw[List.getElem?_eq_getElem hj,e])
 unfold ixF
 rw[this]
theorem mB_ {a:Option Addr} {n cap g:Nat} {lb:Array Value} {ss:List Sh} {p:Sh→Bool} (eg:∀args w,(callFunc g args).run Tryz.prog w=.ok (.enter g args) w) (hn:ss.length=n) (hn6:n≤1000000) (w:World) (hS:ShsAt a ss w) (hg:yB_ g lb p w) :
  Calls Tryz.prog 42 #[.slice a n cap,.func (.func g) #[] lb] w fun e W'=>e=.returned (.int .i64 (ixF p ss))∧Below w.heap.size w W':=by
 have H0:=Lib.hid (show ExAt [] (ShsAt a ss) w w from⟨AzAt.start w,hS,fun A C h hb=>h.below hb⟩)
 have HN:=Lib.hid hn
 have HG:=Lib.hid hg
 have HE:=Lib.hid eg
 clear hn hS hg
 go_enter Tryz.func42,Tryz.ntmps42
 go_wp2
 go_loopw [8] (fun v8 wr=>∃k:Nat,k≤n∧v8=.int .i64 (k:Int)∧Hid (∀j,j<k→∀y,ss[j]?=some y→p y=false)∧ExAt [] (ShsAt a ss) w wr) (fun v8 _=>n-(intOf v8).toNat)
 case atStart=>exact⟨0,Nat.zero_le _,rfl,Lib.hid (fun j hj=>absurd hj (by omega)),H0.out⟩
 case round=>
  obtain⟨k,hk,rfl,HNO,ho⟩:=hrel
  have H1:=Lib.hid ho
  clear ho H0
  by_cases hkn:k<n
  case neg=>
   obtain rfl:k=n:=by omega
   have t9:decide ((k:Int)<(k:Int))=false:=decide_eq_false (by omega)
   go_wp2
   go_ret
   exact⟨by rw[ixF_no (fun j hj=>HNO.out j (by rw[←HN.out];exact hj))];rfl,H1.out.az.bw⟩
  case pos=>
   have t9:decide ((k:Int)<(n:Int))=true:=decide_eq_true (by omega)
   obtain⟨x,hx⟩:∃x,ss[k]?=some x:=⟨_,List.getElem?_eq_getElem (by rw[HN.out];exact hkn)⟩
   have KX:=Lib.hid (HG.out x wr H1.out.az.bw)
   obtain⟨b,o,rfl,hb7,c0,c1,c2,c3,c4,c5,c6,c7,c8,c9,c10⟩:=H1.out.p.sh hx
   have HX:=Lib.hid hx
   clear hx
   cases hp:p x with
   | true=>
    rw[hp] at KX
    go_wp2_with (go_at_fn g;(with_reducible refine(KX.out).mono ?_);rintro e w1 ⟨rfl,hb⟩;have H3:=Lib.hid (H1.out.below hb))
    go_ret
    exact⟨by rw[aCE HX.out HNO.out hp];rfl,H3.out.az.bw⟩
   | false=>
    rw[hp] at KX
    go_wp2_with (go_at_fn g;(with_reducible refine(KX.out).mono ?_);rintro e w1 ⟨rfl,hb⟩;have H3:=Lib.hid (H1.out.below hb))
    exact⟨⟨k+1,by omega,by go_num,Lib.hid (fun j hj y hy=>by
     rcases Nat.lt_or_ge j k with h|h
     ·exact HNO.out j h y hy
     ·obtain rfl:j=k:=by omega
      rw[HX.out] at hy
      cases hy
      exact hp),H3.out⟩,by simp only[intOf];omega⟩
theorem ixF_ge (p:Sh→Bool) (ss:List Sh):decide (0≤ixF p ss)=ss.any p:=by
 unfold ixF
 cases h:ss.findIdx? p with
 | none=>
  rw[List.findIdx?_eq_none_iff] at h
  have:ss.any p=false:=by rw[List.any_eq_false];intro x hx;simp[h x hx]
  rw[this];rfl
 | some i=>
  obtain⟨hi,hp,_⟩:=List.findIdx?_eq_some_iff_getElem.1 h
  rw[List.any_eq_true.2 ⟨ss[i],List.getElem_mem hi,hp⟩]
  exact decide_eq_true (by show(0:Int)≤(i:Int);omega)
theorem pO_ {a:Option Addr} {n cap g:Nat} {lb:Array Value} {ss:List Sh} {p:Sh→Bool} (eg:∀args w,(callFunc g args).run Tryz.prog w=.ok (.enter g args) w) (hn:ss.length=n) (hn6:n≤1000000) (w:World) (hS:ShsAt a ss w) (hg:yB_ g lb p w) :
  Calls Tryz.prog 61 #[.slice a n cap,.func (.func g) #[] lb] w fun e W'=>e=.returned (.bool (ss.any p))∧Below w.heap.size w W':=by
 have KX:=Lib.hid (mB_ (cap:=cap) eg hn hn6 w hS hg)
 have hx:=ixF_ge p ss
 generalize ixF p ss=z at *
 generalize ss.any p=r at *
 go_enter Tryz.func61,Tryz.ntmps61
 go_wp2_with (go_at_call 42;(with_reducible refine(KX.out).mono ?_);rintro e w1 ⟨rfl,hb⟩;have H3:=Lib.hid hb)
 go_ret
 exact⟨rfl,H3.out⟩
theorem rO_ (w:World):yB_ 62 #[] (fun s=>!bS_ s.kind s.word.data.toList) w:=by
 intro s W _
 have KF:=Lib.hid (fun V=>mD_ s V)
 have hB:=fun o:Obj=>(Below.refl W.heap.size W).alloc (Nat.le_refl _) o
 show Calls Tryz.prog 62 #[shV s] W fun e W'=>e=.returned (.bool (!bS_ s.kind s.word.data.toList))∧Below W.heap.size W W'
 generalize bS_ s.kind s.word.data.toList=r at *
 go_enter Tryz.func62,Tryz.ntmps62
 go_wp2_with (go_at_call 63;(with_reducible refine(KF.out _).mono ?_);rintro e w1 ⟨rfl,hb⟩;have H3:=Lib.hid (aT_ (hB _) hb))
 go_ret
 exact⟨rfl,H3.out⟩
theorem aAG (c:Int) {B:Nat} {w:World} (hc:w.cell? ⟨B,0,none⟩=some (.int .i64 c)) (hB:B<w.heap.size):yB_ 43 #[.pointer (some ⟨B,0,none⟩)] (fun s=>s.code==c) w:=by
 intro s W hb
 have hB':=fun o:Obj=>(Below.refl W.heap.size W).alloc (Nat.le_refl _) o
 have c0:=(hb.cell (p:=⟨B,0,none⟩) hB).trans hc
 have c1:B<W.heap.size:=Nat.lt_of_lt_of_le hB hb.size
 clear hc hb hB
 show Calls _ _ #[shV s,.pointer (some ⟨B,0,none⟩)] _ _
 go_enter Tryz.func43,Tryz.ntmps43
 go_wp2
 go_ret
 exact⟨rfl,hB' _⟩
theorem wJ_ (c:Int) {B:Nat} {w:World} (hc:w.cell? ⟨B,0,none⟩=some (.int .i64 c)) (hB:B<w.heap.size):yB_ 122 #[.pointer (some ⟨B,0,none⟩)] (fun s=>s.code==c) w:=by
 intro s W hb
 have hB':=fun o:Obj=>(Below.refl W.heap.size W).alloc (Nat.le_refl _) o
 have c0:=(hb.cell (p:=⟨B,0,none⟩) hB).trans hc
 have c1:B<W.heap.size:=Nat.lt_of_lt_of_le hB hb.size
 clear hc hb hB
 show Calls _ _ #[shV s,.pointer (some ⟨B,0,none⟩)] _ _
 go_enter Tryz.func122,Tryz.ntmps122
 go_wp2
 go_ret
 exact⟨rfl,hB' _⟩
theorem mA_ (c:Int) {a:Option Addr} {n cap:Nat} {ss:List Sh} (hn:ss.length=n) (hn6:n≤1000000) (w:World) (hS:ShsAt a ss w) :
  Calls Tryz.prog 87 #[.slice a n cap,.int .i64 c] w fun e W'=>e=.returned (.int .i64 (ixF (fun s=>s.code==c) ss))∧Below w.heap.size w W':=by
 have KX:=Lib.hid (show Calls Tryz.prog 42 #[.slice a n cap,.func (.func 122) #[] #[.pointer (some ⟨w.heap.size,0,none⟩)]] (w.alloc (.cells #[.int .i64 c] 3)) fun e W'=>e=.returned (.int .i64 (ixF (fun s=>s.code==c) ss))∧Below (w.alloc (.cells #[.int .i64 c] 3)).heap.size (w.alloc (.cells #[.int .i64 c] 3)) W' from
  mB_ (cap:=cap) (enters_of Tryz.func122 (by kernel_rfl) rfl) hn hn6 _ (hS.below ((Below.refl _ _).alloc (Nat.le_refl _) _)) (wJ_ c ((ArAt.mk' w [.int .i64 c] 3).row 0 _ rfl) (by simp)))
 have hB:=fun o:Obj=>(Below.refl w.heap.size w).alloc (Nat.le_refl _) o
 clear hS
 go_enter Tryz.func87,Tryz.ntmps87
 go_wp2_with (go_at_call 42;(with_reducible refine(KX.out).mono ?_);rintro e w1 ⟨rfl,hb⟩;have H3:=Lib.hid (aT_ (hB _) hb))
 go_ret
 exact⟨rfl,H3.out⟩
end Go.Proofs.YtdkaohphbgdkpaaGreatDoor
namespace Go.Proofs.YtdkaohphbgdkpaaGreatDoor
open Go.RowKit Go.Shelf Go.Sort
attribute [local go_sem] Oper.semAt_some
def oP_ (p:Option Int) (c:Int):Bool:=match p with|none=>true|some q=>decide (q<c)
def ascB:Option Int→List Sh→Bool
 | _,[]=>true
 | p,s::l=>aN_ s.code&&vRc s.rect&&oP_ p s.code&&ascB (some s.code) l
def gS_ (ss:List Sh):Bool:=ascB none ss&&decide (ss.length≤60)
def gA_ (ss:List Sh) (k:Nat):Option Int:=if k=0 then none else (ss[k-1]?).map (·.code)
theorem xV_ {ss:List Sh} {k:Nat} {x:Sh} (hx:ss[k]?=some x):ascB (gA_ ss k) (ss.drop k)=(aN_ x.code&&vRc x.rect&&oP_ (gA_ ss k) x.code&&ascB (gA_ ss (k+1)) (ss.drop (k+1))):=by
 obtain⟨h,e⟩:=List.getElem?_eq_some_iff.1 hx
 rw[List.drop_eq_getElem_cons h,e]
 have:gA_ ss (k+1)=some x.code:=by unfold gA_;rw[if_neg (by omega),Nat.add_sub_cancel,hx];rfl
 rw[this]
 rfl
theorem aBQ {ss:List Sh} {k:Nat} (h:ss.length≤k) (p:Option Int):ascB p (ss.drop k)=true:=by rw[List.drop_eq_nil_of_le h];rfl
theorem ShsAt.code {b o:Nat} {ss:List Sh} {W:World} (h:ShsAt (some ⟨b,o,none⟩) ss W) {k:Nat} {x:Sh} (hk:ss[k]?=some x):b<W.heap.size∧W.cell? ⟨b,o+k*11,none⟩=some (.int .i64 x.code):=by
 obtain⟨b',o',e,h1,h2,_⟩:=h.sh hk
 injection e with e
 injection e with e1 e2
 subst e1 e2
 exact⟨h1,h2⟩
theorem wIn_b (n lo hi:Int) (w:World) :
  Calls Tryz.prog 126 #[.int .i64 n,.int .i64 lo,.int .i64 hi] w fun e w'=>e=.returned (.bool (decide (lo≤n)&&decide (n≤hi)))∧Below w.heap.size w w':=(wIn_s n lo hi w).mono fun _ _ ⟨h,h'⟩=>⟨h,h'▸Below.refl _ _⟩
theorem laid_s {a:Option Addr} {n cap:Nat} {ss:List Sh} (hn:ss.length=n) (hn6:n≤1000000) (w:World) (hS:ShsAt a ss w) :
  Calls Tryz.prog 106 #[.slice a n cap] w fun e W'=>e=.returned (.bool (gS_ ss))∧Below w.heap.size w W':=by
 have H0:=Lib.hid (show ExAt [] (ShsAt a ss) w w from⟨AzAt.start w,hS,fun A C h hb=>h.below hb⟩)
 have HN:=Lib.hid hn
 have HL:=Lib.hid (show gS_ ss=(ascB (gA_ ss 0) (ss.drop 0)&&decide (n≤60)) from by rw[←hn];rfl)
 clear hn hS
 go_enter Tryz.func106,Tryz.ntmps106
 go_wp2
 go_loopw [7] (fun v7 wr=>∃k:Nat,k≤n∧v7=.int .i64 (k:Int)∧Hid (ascB (gA_ ss 0) (ss.drop 0)=ascB (gA_ ss k) (ss.drop k))∧ExAt [] (ShsAt a ss) w wr) (fun v7 _=>n-(intOf v7).toNat)
 case atStart=>exact⟨0,Nat.zero_le _,rfl,Lib.hid rfl,H0.out⟩
 case round=>
  obtain⟨k,hk,rfl,HA,ho⟩:=hrel
  have H1:=Lib.hid ho
  clear ho H0
  by_cases hkn:k<n
  case neg=>
   obtain rfl:k=n:=by omega
   have t9:decide ((k:Int)<(k:Int))=false:=decide_eq_false (by omega)
   have HR:=Lib.hid (show gS_ ss=decide (k≤60) from by rw[HL.out,HA.out,aBQ (by rw[HN.out];exact Nat.le_refl _)];rfl)
   have t8:decide ((k:Int)≤60)=decide (k≤60):=by by_cases h:k≤60 <;> simp[h] <;> omega
   go_wp2
   go_ret
   exact⟨by rw[HR.out,←t8];rfl,H1.out.az.bw⟩
  case pos=>
   have t9:decide ((k:Int)<(n:Int))=true:=decide_eq_true (by omega)
   obtain⟨x,hx⟩:∃x,ss[k]?=some x:=⟨_,List.getElem?_eq_getElem (by rw[HN.out];exact hkn)⟩
   have HST:=Lib.hid (HA.out.trans (xV_ hx))
   have HX:=Lib.hid hx
   have HY:=Lib.hid (show 0<k→∃y,ss[k-1]?=some y from fun h=>⟨_,List.getElem?_eq_getElem (by rw[HN.out];omega)⟩)
   obtain⟨b,o,rfl,hb7,c0,c1,c2,c3,c4,c5,c6,c7,c8,c9,c10⟩:=H1.out.p.sh hx
   clear hx HA
   have H2:=Lib.hid (H1.out.push (shC x) 30)
   go_upto_region 4 with fail
   obtain⟨X,hX⟩:∃X,X=wr.heap.size:=⟨_,rfl⟩
   obtain⟨W0,hW0⟩:∃V,V=wr.alloc (.cells (shC x).toArray 30):=⟨_,rfl⟩
   rw[←hX,←hW0] at H2
   change Code.wp _ _ _ _ (wr.alloc (.cells (shC x).toArray 30))
   rw[←hX,←hW0]
   clear c0 c1 c2 c3 c4 c5 c6 c7 c8 c9 c10 hX hW0 hb7
   have y0:=cell_regrown (H2.out.az.ce 0 0 rfl rfl)
   have y2:=cell_regrown (H2.out.az.ce 0 2 rfl rfl)
   have y3:=cell_regrown (H2.out.az.ce 0 3 rfl rfl)
   have y4:=cell_regrown (H2.out.az.ce 0 4 rfl rfl)
   have y5:=cell_regrown (H2.out.az.ce 0 5 rfl rfl)
   have K1:=Lib.hid (fun W=>wIn_b x.code 1 39999 W)
   have K2:=Lib.hid (fun W=>oR_ x.rect W)
   rw[show(decide ((1:Int)≤x.code)&&decide (x.code≤39999))=aN_ x.code from rfl] at K1
   generalize aN_ x.code=q1 at *
   generalize vRc x.rect=q2 at *
   have cc1:=fun d os=>Calls.regrown_of (d:=d) (os:=os) (K1.out (grow (redrawn W0 d) os))
   have cc2:=fun d os=>Calls.regrown_of (d:=d) (os:=os) (K2.out (grow (redrawn W0 d) os))
   by_cases hq:q1=true∧q2=true
   case neg=>
    have HF:=Lib.hid (show gS_ ss=false from by rw[HL.out,HST.out];cases q1 <;> cases q2 <;> first|rfl|exact absurd ⟨rfl,rfl⟩ hq)
    clear HST
    cases q1
    ·clear hq
     refine wp_region_quiet_below (by kernel_rfl) (by kernel_rfl) ?_
     repeat (go_big_quiet_step (with_reducible first|exact cc1 _ _|exact cc2 _ _))
     refine wpQuiet_nil ?_
     intro W2 hw2
     have hb2:Below W0.heap.size W0 W2:=by obtain⟨⟨dq,osq⟩,hw7⟩:=hw2;rw[hw7];exact below_regrown W0 dq osq
     have H3:=Lib.hid ((H2.out.below hb2).sub (L':=[]) (by simp))
     clear hw2 hb2
     go_wp2
     go_ret
     exact⟨by rw[HF.out];rfl,H3.out.az.bw⟩
    ·obtain rfl:q2=false:=by cases q2;rfl;exact absurd ⟨rfl,rfl⟩ hq
     clear hq
     refine wp_region_quiet_below (by kernel_rfl) (by kernel_rfl) ?_
     repeat (go_big_quiet_step (with_reducible first|exact cc1 _ _|exact cc2 _ _))
     refine wpQuiet_nil ?_
     intro W2 hw2
     have hb2:Below W0.heap.size W0 W2:=by obtain⟨⟨dq,osq⟩,hw7⟩:=hw2;rw[hw7];exact below_regrown W0 dq osq
     have H3:=Lib.hid ((H2.out.below hb2).sub (L':=[]) (by simp))
     clear hw2 hb2
     go_wp2
     go_ret
     exact⟨by rw[HF.out];rfl,H3.out.az.bw⟩
   case pos=>
    obtain⟨rfl,rfl⟩:=hq
    have HS2:=Lib.hid (show ascB (gA_ ss 0) (ss.drop 0)=(oP_ (gA_ ss k) x.code&&ascB (gA_ ss (k+1)) (ss.drop (k+1))) from HST.out)
    clear HST
    cases k with
    | zero=>
     have t0:decide ((0:Int)<((0:Nat):Int))=false:=by decide
     refine wp_region_quiet_below (by kernel_rfl) (by kernel_rfl) ?_
     repeat (go_big_quiet_step (with_reducible first|exact cc1 _ _|exact cc2 _ _))
     refine wpQuiet_nil ?_
     intro W2 hw2
     have hb2:Below W0.heap.size W0 W2:=by obtain⟨⟨dq,osq⟩,hw7⟩:=hw2;rw[hw7];exact below_regrown W0 dq osq
     have H3:=Lib.hid ((H2.out.below hb2).sub (L':=[]) (by simp))
     clear hw2 hb2
     go_wp2
     exact⟨⟨1,by omega,by go_num,Lib.hid HS2.out,H3.out⟩,by simp only[intOf];omega⟩
    | succ j=>
     obtain⟨y,hy⟩:=HY.out (by omega)
     rw[Nat.add_sub_cancel] at hy
     obtain⟨z6,z0⟩:=H2.out.p.code hy
     have z1:=cell_regrown z0
     have z3:IntKind.i64.wrap (((j+1:Nat):Int)-1)=(j:Int):=by rw[IntWalk.i64_in _ (by omega)];omega
     have t0:decide ((0:Int)<((j+1:Nat):Int))=true:=decide_eq_true (by omega)
     have t1:(j:Int)<(n:Int):=by omega
     have e3:oP_ (gA_ ss (j+1)) x.code = !decide (x.code≤y.code):=by
      unfold gA_
      rw[if_neg (by omega),Nat.add_sub_cancel,hy]
      show decide (y.code<x.code)=_
      by_cases h:x.code≤y.code
      ·rw[decide_eq_true h,decide_eq_false (by omega)];rfl
      ·rw[decide_eq_false h,decide_eq_true (by omega)];rfl
     rw[e3] at HS2
     clear z0 e3 hy
     refine wp_region_quiet_below (by kernel_rfl) (by kernel_rfl) ?_
     repeat (go_big_quiet_step (with_reducible first|exact cc1 _ _|exact cc2 _ _))
     refine wpQuiet_nil ?_
     intro W2 hw2
     have hb2:Below W0.heap.size W0 W2:=by obtain⟨⟨dq,osq⟩,hw7⟩:=hw2;rw[hw7];exact below_regrown W0 dq osq
     have H3:=Lib.hid ((H2.out.below hb2).sub (L':=[]) (by simp))
     clear hw2 hb2 z1 z3 z6 cc1 cc2
     cases e4:decide (x.code≤y.code) with
     | true=>
      have HF:=Lib.hid (show gS_ ss=false from by rw[HL.out,HS2.out,e4];rfl)
      go_wp2
      go_ret
      exact⟨by rw[HF.out];rfl,H3.out.az.bw⟩
     | false=>
      have HF:=Lib.hid (show ascB (gA_ ss 0) (ss.drop 0)=ascB (gA_ ss (j+1+1)) (ss.drop (j+1+1)) from by rw[HS2.out,e4];rfl)
      go_wp2
      exact⟨⟨j+1+1,by omega,by go_num,HF,H3.out⟩,by simp only[intOf];omega⟩
end Go.Proofs.YtdkaohphbgdkpaaGreatDoor
