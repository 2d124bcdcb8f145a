/- - -/
import Derived.Deep.CutRange
import Derived.ArgAppend
import Derived.Test.YtdkaohphbgdkpaaGreatDoorZParse
import Derived.Test.YtdkaohphbgdkpaaGreatDoorZPad
import Derived.Test.YtdkaohphbgdkpaaGreatDoorZSd
import Derived.Test.YtdkaohphbgdkpaaGreatDoorZTa
import Derived.Test.YtdkaohphbgdkpaaGreatDoorZSb
import Derived.Test.YtdkaohphbgdkpaaGreatDoorZSo
import Derived.Test.YtdkaohphbgdkpaaGreatDoorZShelf
import Derived.Test.YtdkaohphbgdkpaaGreatDoorZQT
set_option maxHeartbeats 40000000
set_option maxRecDepth 1000000
namespace Go.Proofs.YtdkaohphbgdkpaaGreatDoor
open Go.RowKit Go.Shelf
attribute [local go_sem] Oper.semAt_some
theorem vO_ {b:Bs} {v:Int} (h:Lib.atoiAll b=.ok v):(numK b).isSome=(decide (txt v=b)&&(decide (0≤v)&&decide (v≤39999)))∧∀n,numK b=some n→n=v:=by
 have key:∀n,numK b=some n→n=v:=fun n hn=>by
  obtain⟨h0,h1,e⟩:=numK_some hn
  rw[e,jQ_,if_pos (by rw[cS_];omega)] at h
  injection h
 refine⟨?_,key⟩
 cases hn:numK b with
 | some n=>
  obtain⟨h0,h1,e⟩:=numK_some hn
  have:=key n hn
  subst this
  simp[h0,h1,e]
 | none=>
  have:¬(0≤v∧v≤39999∧b=txt v):=fun hc=>by
   rw[zW_.2 hc] at hn
   cases hn
  by_cases h1:txt v=b
  ·by_cases h0:0≤v
   ·have h2:¬v≤39999:=fun h2=>this ⟨h0,h2,h1.symm⟩
    simp[h2]
   ·simp[h0]
  ·simp[h1]
theorem nS_ {b:Bs} (h:∀v,¬Lib.atoiAll b=.ok v):numK b=none:=by
 cases hn:numK b with
 | none=>rfl
 | some n=>
  obtain⟨h0,h1,e⟩:=numK_some hn
  exact absurd (by rw[e,jQ_,if_pos (by rw[cS_];omega)]) (h n)
theorem zV_ (s:ByteArray) (hs:s.size≤1000000) (w:World) (hG:GlobE w) (hT:Glob w) :
  Calls Tryz.prog 85 #[.string s] w fun e W'=>(∃v,e=.returned (.tuple #[.int .i64 v,.bool (numK s.data.toList).isSome])∧∀n,numK s.data.toList=some n→n=v)∧Below w.heap.size w W':=by
 by_cases h:∃v,Lib.atoiAll s.data.toList=.ok v
 ·obtain⟨v,hv⟩:=h
  obtain⟨h0,h1⟩:=Lib.atoiAll_bounds hv
  have KA:=Lib.hid (aEW s (by omega) v hv w)
  have KT:=Lib.hid (fun(W:World) (hb:Below w.heap.size w W)=>dC_ v W (hT.below hb) h0 h1)
  have KI:=Lib.hid (fun W=>oD_ v 0 39999 W)
  obtain⟨e1,e2⟩:=vO_ hv
  have HE2:=Lib.hid e2
  have e3:decide (txt v=s.data.toList)=((str v).toList==s.toList):=by
   rw[Lib.toList_data,Lib.toList_data,cY_]
   by_cases h:txt v=s.data.toList <;> simp[h]
  rw[e1,e3]
  obtain⟨sv,hsv⟩:∃sv,sv=str v:=⟨_,rfl⟩
  rw[←hsv] at KT⊢
  obtain⟨q,hq⟩:∃q,q=(sv.toList==s.toList):=⟨_,rfl⟩
  rw[←hq]
  obtain⟨r,hr⟩:∃r,r=(decide (0≤v)&&decide (v≤39999)):=⟨_,rfl⟩
  rw[←hr] at KI⊢
  clear e1 e2 e3 hv hr hsv h0 h1
  have hq':=hq.symm
  clear hq
  cases q
  all_goals
   go_enter Tryz.func85,Tryz.ntmps85
   go_wp2_with (first
    | (go_at_call 119;(with_reducible refine(KA.out).mono ?_);rintro e w1 ⟨rfl,hb1⟩;have H1:=Lib.hid hb1)
    | (go_at_call 51;(with_reducible refine(KT.out _ H1.out).mono ?_);rintro e w2 ⟨rfl,hb2⟩;have H2:=Lib.hid (aT_ H1.out hb2))
    | (go_at_call 96;(with_reducible refine(KI.out _).mono ?_);rintro e w3 ⟨rfl,rfl⟩))
   go_ret2
   exact⟨⟨_,rfl,HE2.out⟩,by first|exact H2.out|exact H1.out⟩
 ·have KA:=Lib.hid (aBU s (by omega) (fun v hv=>h ⟨v,hv⟩) w hG)
  rw[nS_ (fun v hv=>h ⟨v,hv⟩)]
  clear h
  go_enter Tryz.func85,Tryz.ntmps85
  go_wp2_with (first
   | (go_at_call 119;(with_reducible refine(KA.out).mono ?_);rintro e w1 ⟨⟨m,t,b,rfl⟩,hb1⟩;have H1:=Lib.hid hb1))
  go_ret2
  exact⟨⟨_,rfl,fun n hn=>(nomatch hn)⟩,H1.out⟩
def aCO (g:Nat) (p:Int→Bool):Prop:=∀(c:Int) (W:World),Calls Tryz.prog g #[.int .i64 c] W fun e W'=>e=.returned (.bool (p c))∧Below W.heap.size W W'
theorem mO_ {p:Int→Bool} {l:List Int} {k:Nat} {c:Int} (hc:l[k]?=some c) (h:(l.take k).any p=false):(l.take (k+1)).any p=p c:=by
 rw[List.take_add_one,hc,Option.toList_some,List.any_append,h]
 simp
theorem xY_ {p:Int→Bool} {l:List Int} {k:Nat} {c:Int} (hc:l[k]?=some c) (h:p c=true):l.any p=true:=List.any_eq_true.2 ⟨c,List.mem_of_getElem? hc,h⟩
theorem aAL {a:Option Addr} {n cap g:Nat} {l:List Int} {p:Int→Bool} (eg:∀args w,(callFunc g args).run Tryz.prog w=.ok (.enter g args) w) (hn:l.length=n) (hn6:n≤1000000) (w:World) (hS:CsAt a (icC l) w) (hg:aCO g p) :
  Calls Tryz.prog 153 #[.slice a n cap,.func (.func g) #[] #[]] w fun e W'=>(∃z:Int,e=.returned (.int .i64 z)∧decide (0≤z)=l.any p)∧Below w.heap.size w W':=by
 have H0:=Lib.hid (show ExAt [] (CsAt a (icC l)) w w from⟨AzAt.start w,hS,fun A C h hb=>h.below hb⟩)
 have HN:=Lib.hid hn
 have HG:=Lib.hid hg
 have HE:=Lib.hid eg
 clear hn hS hg
 go_enter Tryz.func153,Tryz.ntmps153
 go_wp2
 go_loopw [8] (fun v8 wr=>∃k:Nat,k≤n∧v8=.int .i64 (k:Int)∧Hid ((l.take k).any p=false)∧ExAt [] (CsAt a (icC l)) w wr) (fun v8 _=>n-(intOf v8).toNat)
 case atStart=>exact⟨0,Nat.zero_le _,rfl,Lib.hid rfl,H0.out⟩
 case round=>
  obtain⟨k,hk,rfl,HNO,ho⟩:=hrel
  have H1:=Lib.hid ho
  clear ho H0
  by_cases hkn:k<n
  case neg=>
   obtain rfl:k=n:=by omega
   have t9:decide ((k:Int)<(k:Int))=false:=decide_eq_false (by omega)
   go_wp2
   go_ret
   exact⟨⟨_,rfl,by have h:=HNO.out;rw[List.take_of_length_le (Nat.le_of_eq HN.out)] at h;rw[h];rfl⟩,H1.out.az.bw⟩
  case pos=>
   have t9:decide ((k:Int)<(n:Int))=true:=decide_eq_true (by omega)
   obtain⟨x,hx⟩:∃x,l[k]?=some x:=⟨_,List.getElem?_eq_getElem (by rw[HN.out];exact hkn)⟩
   have KX:=Lib.hid (HG.out x wr)
   obtain⟨b,o,rfl,hb7,c0⟩:=H1.out.p.row k _ (wN_ hx)
   have HX:=Lib.hid hx
   clear hx
   cases hp:p x with
   | true=>
    rw[hp] at KX
    go_wp2_with (go_at_fn g;(with_reducible refine(KX.out).mono ?_);rintro e w1 ⟨rfl,hb⟩;have H3:=Lib.hid (H1.out.below hb))
    go_ret
    exact⟨⟨_,rfl,by rw[xY_ HX.out hp];exact decide_eq_true (by omega)⟩,H3.out.az.bw⟩
   | false=>
    rw[hp] at KX
    go_wp2_with (go_at_fn g;(with_reducible refine(KX.out).mono ?_);rintro e w1 ⟨rfl,hb⟩;have H3:=Lib.hid (H1.out.below hb))
    exact⟨⟨k+1,by omega,by go_num,Lib.hid (by rw[mO_ HX.out HNO.out,hp]),H3.out⟩,by simp only[intOf];omega⟩
theorem aEU (l:List Int):(!l.any fun n=>!aN_ n)=l.all aN_:=by
 induction l with
 | nil=>rfl
 | cons a l ih=>simp only[List.any_cons,List.all_cons,←ih];cases aN_ a <;> simp
theorem vP_:aCO 121 (fun n=>!aN_ n):=by
 intro c W
 have KI:=Lib.hid (fun W=>oD_ c 1 39999 W)
 show Calls Tryz.prog 121 #[.int .i64 c] W fun e W'=>e=.returned (.bool (!aN_ c))∧Below W.heap.size W W'
 have e:(decide (1≤c)&&decide (c≤39999))=aN_ c:=rfl
 rw[e] at KI
 generalize aN_ c=r at *
 clear e
 go_enter Tryz.func121,Tryz.ntmps121
 go_wp2_with (go_at_call 96;(with_reducible refine(KI.out _).mono ?_);rintro e w1 ⟨rfl,rfl⟩)
 go_ret
 exact⟨rfl,Below.refl _ _⟩
theorem fO_ {a:Option Addr} {n cap:Nat} {l:List Int} (hn:l.length=n) (hn6:n≤1000000) (w:World) (hS:CsAt a (icC l) w) :
  Calls Tryz.prog 86 #[.slice a n cap] w fun e W'=>e=.returned (.bool (l.all aN_))∧Below w.heap.size w W':=by
 have KC:=Lib.hid (show Calls Tryz.prog 120 #[.slice a n cap,.func (.func 121) #[] #[]] w fun e W'=>e=.returned (.bool (l.any fun n=>!aN_ n))∧Below w.heap.size w W' from by
  have KX:=Lib.hid (aAL (cap:=cap) (enters_of Tryz.func121 (by kernel_rfl) rfl) hn hn6 w hS vP_)
  generalize (l.any fun n=>!aN_ n)=r at *
  go_enter Tryz.func120,Tryz.ntmps120
  go_wp2_with (go_at_call 153;(with_reducible refine(KX.out).mono ?_);rintro e w1 ⟨⟨z,rfl,hz⟩,hb⟩;have H3:=Lib.hid (And.intro hz hb);clear hz)
  go_ret
  exact⟨by rw[←H3.out.1];rfl,H3.out.2⟩)
 rw[←aEU]
 generalize (l.any fun n=>!aN_ n)=r at *
 clear hS
 go_enter Tryz.func86,Tryz.ntmps86
 go_wp2_with (go_at_call 120;(with_reducible refine(KC.out).mono ?_);rintro e w1 ⟨rfl,hb⟩;have H3:=Lib.hid hb)
 go_ret
 exact⟨rfl,H3.out⟩
theorem qW_ (c:Int):∀ss:List Sh,ss.findIdx? (fun s=>s.code==c)=ixS c ss
 | []=>rfl
 | s::ss=>by
  rw[List.findIdx?_cons,qW_ c ss]
  show _=if s.code=c then some 0 else (ixS c ss).map (· + 1)
  by_cases h:s.code=c
  ·rw[if_pos h,if_pos (by simpa using h)]
  ·rw[if_neg h,if_neg (by simpa using h)]
def ixZ (o:Option Nat):Int:=match o with|none=>-1|some i=>(i:Int)
theorem lY_ (c:Int) (ss:List Sh):ixF (fun s=>s.code==c) ss=ixZ (ixS c ss):=by
 unfold ixF ixZ
 rw[qW_]
 cases ixS c ss <;> rfl
theorem wH_ {c:Int} {ss:List Sh} {i:Nat} (h:ixS c ss=some i):i<ss.length:=by
 obtain⟨a,s,b,rfl,rfl,_⟩:=dP_.1 h
 simp
theorem wK_ (c:Int) {a:Option Addr} {n cap:Nat} {ss:List Sh} (hn:ss.length=n) (hn6:n≤1000000) (w:World) (hS:ShsAt a ss w) :
  Calls Tryz.prog 88 #[.slice a n cap,.int .i64 c] w fun e W'=>e=.returned (.bool (boxB ss c))∧Below w.heap.size w W':=by
 have KI:=Lib.hid (mA_ (cap:=cap) c hn hn6 w hS)
 rw[lY_] at KI
 unfold boxB
 cases hi:ixS c ss with
 | none=>
  rw[hi] at KI
  have t1:decide ((0:Int)≤-1)=false:=rfl
  clear hS
  simp only[ixZ] at KI
  go_enter Tryz.func88,Tryz.ntmps88
  go_wp2_with (go_at_call 87;(with_reducible refine(KI.out).mono ?_);rintro e w1 ⟨rfl,hb⟩;have H3:=Lib.hid hb)
  go_ret
  exact⟨rfl,H3.out⟩
 | some i=>
  rw[hi] at KI
  have hlt:=wH_ hi
  obtain⟨s,hs⟩:∃s,ss[i]?=some s:=⟨_,List.getElem?_eq_getElem hlt⟩
  simp only[hs]
  obtain⟨b,o,rfl,hb7,-,c1,-⟩:=hS.sh hs
  obtain⟨r,hr⟩:∃r,r=decide (s.kind=2):=⟨_,rfl⟩
  have t1:(s.kind==2)=r:=by rw[hr];rfl
  rw[←hr]
  have t2:decide ((0:Int)≤(i:Int))=true:=decide_eq_true (by omega)
  have t3:(i:Int)<(n:Int):=by omega
  have HB:=Lib.hid hb7
  clear hS hr hi hs
  simp only[ixZ] at KI
  go_enter Tryz.func88,Tryz.ntmps88
  go_wp2_with (go_at_call 87;(with_reducible refine(KI.out).mono ?_);rintro e w1 ⟨rfl,hb⟩;have H3:=Lib.hid hb;have c2:=(hb.cell (p:=⟨b,o+i*11+1,none⟩) HB.out).trans c1)
  go_ret
  exact⟨rfl,H3.out⟩
def yA_ (g:Nat) (lb:Array Value) (right:Nat→Int→Bool) (N:Nat) (w:World):Prop:=∀(i:Nat) (n:Int) (W:World),i<N→Below w.heap.size w W→Calls Tryz.prog g (#[.int .i64 (i:Int),.int .i64 n]++lb) W fun e W'=>e=.returned (.bool (right i n))∧Below W.heap.size W W'
theorem oZ_ {ss:List Sh} {right:Nat→Int→Bool} {q k:Nat} {ps:List (Int×Int)} {p:Int×Int} (hp:ps[k]?=some p):cQ_ ss right q (ps.drop k)=match ixS p.1 ss with|none=>false|some i=>decide (q≤i)&&right i p.2&&cQ_ ss right (i+1) (ps.drop (k+1)):=by
 obtain⟨hk,he⟩:=List.getElem?_eq_some_iff.1 hp
 rw[List.drop_eq_getElem_cons hk,he]
 rfl
structure PrsAt (a:Option Addr) (ps:List (Int×Int)) (W:World):Prop where
 row:∀(k:Nat) (p:Int×Int),ps[k]?=some p→∃b o:Nat,a=some ⟨b,o,none⟩∧b<W.heap.size∧W.cell? ⟨b,o+k*2,none⟩=some (.int .i64 p.1)∧W.cell? ⟨b,o+k*2+1,none⟩=some (.int .i64 p.2)
theorem PrsAt.below {a:Option Addr} {ps:List (Int×Int)} {W W':World} (h:PrsAt a ps W) (hb:Below W.heap.size W W'):PrsAt a ps W':=⟨fun k p hp=>by
 obtain⟨b,o,h1,h2,h3,h4⟩:=h.row k p hp
 exact⟨b,o,h1,Nat.lt_of_lt_of_le h2 hb.size,(hb.cell (p:=⟨b,o+k*2,none⟩) h2).trans h3,(hb.cell (p:=⟨b,o+k*2+1,none⟩) h2).trans h4⟩⟩
theorem PrsAt.of {a:Option Addr} {ps:List (Int×Int)} {W:World} (h:CsAt a (psC ps) W):PrsAt a ps W:=⟨fun k p hp=>by
 obtain⟨e1,e2⟩:=psC_at hp
 obtain⟨b,o,rfl,h1,h2⟩:=h.row _ _ e1
 obtain⟨b',o',e,_,h3⟩:=h.row _ _ e2
 injection e with e
 injection e with e4 e5
 subst e4 e5
 exact⟨b,o,rfl,h1,h2,by rw[Nat.add_assoc];exact h3⟩⟩
theorem lA_ {a b:Option Addr} {n cap m cap2 g:Nat} {lb:Array Value} {ss:List Sh} {ps:List (Int×Int)} {right:Nat→Int→Bool} (eg:∀args w,(callFunc g args).run Tryz.prog w=.ok (.enter g args) w) (hn:ss.length=n) (hn6:n≤1000000) (hm:ps.length=m) (hm6:m≤1000000) (w:World) (hS:ShsAt a ss w) (hP:PrsAt b ps w) (hg:yA_ g lb right n w) :
  Calls Tryz.prog 97 #[.slice a n cap,.slice b m cap2,.func (.func g) #[] lb] w fun e W'=>e=.returned (.bool (cQ_ ss right 0 ps))∧Below w.heap.size w W':=by
 have H0:=Lib.hid (AzAt.start w)
 have HN:=Lib.hid (And.intro hn hm)
 have HP:=Lib.hid hP
 have HG:=Lib.hid hg
 have HE:=Lib.hid eg
 have KX:=Lib.hid (fun(c:Int) (W:World) (hb:Below w.heap.size w W)=>mA_ (cap:=cap) c hn hn6 W (hS.below hb))
 clear hn hm hS hP hg
 go_enter Tryz.func97,Tryz.ntmps97
 go_wp2
 go_loopw [7,13] (fun v7 v13 wr=>∃k q:Nat,k≤m∧q≤n∧v7=.int .i64 ((q:Int)-1)∧v13=.int .i64 (k:Int)∧Hid (cQ_ ss right 0 ps=cQ_ ss right q (ps.drop k))∧AzAt [] w wr) (fun _ v13 _=>m-(intOf v13).toNat)
 case atStart=>exact⟨0,0,Nat.zero_le _,Nat.zero_le _,rfl,rfl,Lib.hid rfl,H0.out⟩
 case round=>
  obtain⟨k,q,hk,hq,rfl,rfl,HPB,ho⟩:=hrel
  have H1:=Lib.hid ho
  clear ho H0
  by_cases hkn:k<m
  case neg=>
   obtain rfl:k=m:=by omega
   have t9:decide ((k:Int)<(k:Int))=false:=decide_eq_false (by omega)
   go_wp2
   go_ret
   exact⟨by rw[HPB.out,List.drop_of_length_le (Nat.le_of_eq HN.out.2)];rfl,H1.out.bw⟩
  case pos=>
   have t9:decide ((k:Int)<(m:Int))=true:=decide_eq_true (by omega)
   obtain⟨p,hp⟩:∃p,ps[k]?=some p:=⟨_,List.getElem?_eq_getElem (by rw[HN.out.2];exact hkn)⟩
   have hst:=oZ_ (ss:=ss) (right:=right) (q:=q) hp
   rw[←HPB.out] at hst
   obtain⟨pc,pn⟩:=p
   obtain⟨b,o,rfl,hb7,c0,c1⟩:=(HP.out.below H1.out.bw).row k _ hp
   simp only at c0 c1 hst
   have H3:=Lib.hid (H1.out.push [.int .i64 pc,.int .i64 pn] 58)
   have KI:=Lib.hid (KX.out pc _ H3.out.bw)
   rw[lY_] at KI
   cases hi:ixS pc ss with
   | none=>
    rw[hi] at KI hst
    simp only[ixZ] at KI
    simp only at hst
    have HST:=Lib.hid hst
    have t1:decide ((-1:Int)≤(q:Int)-1)=true:=decide_eq_true (by omega)
    clear hst hp hi
    go_wp2_with (go_at_call 87;(with_reducible refine(KI.out).mono ?_);rintro e w1 ⟨rfl,hb⟩;have H4:=Lib.hid (H3.out.below hb))
    go_ret
    exact⟨by rw[HST.out];rfl,H4.out.bw⟩
   | some i=>
    have hlt:=wH_ hi
    rw[HN.out.1] at hlt
    rw[hi] at KI hst
    simp only[ixZ] at KI
    simp only at hst
    by_cases hqi:q≤i
    ·have t1:decide ((i:Int)≤(q:Int)-1)=false:=decide_eq_false (by omega)
     rw[decide_eq_true hqi,Bool.true_and] at hst
     have KG:=Lib.hid (fun(W:World) (hb:Below w.heap.size w W)=>HG.out i pn W hlt hb)
     have HST:=Lib.hid hst
     clear hst hp hi
     cases hr:right i pn with
     | false=>
      rw[hr] at KG HST
      have hlt':=hlt
      clear hr hlt'
      go_wp2_with (first
       | (go_at_call 87;(with_reducible refine(KI.out).mono ?_);rintro e w1 ⟨rfl,hb⟩;have H4:=Lib.hid (H3.out.below hb);have y1:=H4.out.ce 0 1 rfl rfl)
       | (go_at_fn g;(with_reducible refine(KG.out _ H4.out.bw).mono ?_);rintro e w2 ⟨rfl,hb2⟩;have H5:=Lib.hid (H4.out.below hb2)))
      go_ret
      exact⟨by rw[HST.out];rfl,H5.out.bw⟩
     | true=>
      rw[hr,Bool.true_and] at HST
      rw[hr] at KG
      clear hr
      go_wp2_with (first
       | (go_at_call 87;(with_reducible refine(KI.out).mono ?_);rintro e w1 ⟨rfl,hb⟩;have H4:=Lib.hid (H3.out.below hb);have y1:=H4.out.ce 0 1 rfl rfl)
       | (go_at_fn g;(with_reducible refine(KG.out _ H4.out.bw).mono ?_);rintro e w2 ⟨rfl,hb2⟩;have H5:=Lib.hid (H4.out.below hb2)))
      exact⟨⟨k+1,i+1,by omega,by omega,by go_num,by go_num,HST,H5.out.sub (by simp)⟩,by simp only[intOf];omega⟩
    ·have t1:decide ((i:Int)≤(q:Int)-1)=true:=decide_eq_true (by omega)
     rw[decide_eq_false hqi] at hst
     have HST:=Lib.hid hst
     clear hst hp hi
     go_wp2_with (go_at_call 87;(with_reducible refine(KI.out).mono ?_);rintro e w1 ⟨rfl,hb⟩;have H4:=Lib.hid (H3.out.below hb))
     go_ret
     exact⟨by rw[HST.out];rfl,H4.out.bw⟩
theorem zY_ (N:Nat) (w:World):yA_ 95 #[] (fun _ n=>decide (0≤n)&&decide (n≤999)) N w:=by
 intro i n W _ _
 have KI:=Lib.hid (fun W=>oD_ n 0 999 W)
 show Calls Tryz.prog 95 #[.int .i64 (i:Int),.int .i64 n] W fun e W'=>e=.returned (.bool (decide (0≤n)&&decide (n≤999)))∧Below W.heap.size W W'
 generalize (decide (0≤n)&&decide (n≤999))=r at *
 go_enter Tryz.func95,Tryz.ntmps95
 go_wp2_with (go_at_call 96;(with_reducible refine(KI.out _).mono ?_);rintro e w1 ⟨rfl,rfl⟩)
 go_ret
 exact⟨rfl,Below.refl _ _⟩
theorem aAI {a:Option Addr} {n cap B:Nat} {ss:List Sh} (hn:ss.length=n) (hn6:n≤1000000) (hc:n≤cap) (w:World) (hS:ShsAt a ss w) (hx:w.cell? ⟨B,0,none⟩=some (.slice a n cap)) (hB:B<w.heap.size):yA_ 94 #[.pointer (some ⟨B,0,none⟩)] (fun i n=>boxB (ss.take i) n) n w:=by
 intro i c W hi hb
 have x0:=(hb.cell (p:=⟨B,0,none⟩) hB).trans hx
 have KB:=Lib.hid (fun(W':World) (hb':Below W.heap.size W W')=>wK_ (cap:=cap) c (ss:=ss.take i) (n:=i) (by rw[List.length_take];omega) (by omega) W' (ShsAt.pre (m:=ss.drop i) (by rw[List.take_append_drop];exact(hS.below hb).below hb')))
 show Calls Tryz.prog 94 #[.int .i64 (i:Int),.int .i64 c,.pointer (some ⟨B,0,none⟩)] W fun e W'=>e=.returned (.bool (boxB (ss.take i) c))∧Below W.heap.size W W'
 generalize boxB (ss.take i) c=r at *
 have t1:(i:Int)≤(cap:Int):=by omega
 have t2:(0:Int)≤(i:Int):=by omega
 clear hS hx hb
 go_enter Tryz.func94,Tryz.ntmps94
 go_wp2_with (go_at_call 88;(with_reducible refine(KB.out _ (Below.refl _ _)).mono ?_);rintro e w1 ⟨rfl,hb⟩;have H3:=Lib.hid hb)
 go_ret
 exact⟨rfl,H3.out⟩
end Go.Proofs.YtdkaohphbgdkpaaGreatDoor
namespace Go.Proofs.YtdkaohphbgdkpaaGreatDoor
open Go.RowKit Go.Shelf Go.Sort
attribute [local go_sem] Oper.semAt_some
structure TrsAt (a:Option Addr) (ps:List L3) (W:World):Prop where
 row:∀(k:Nat) (p:L3),ps[k]?=some p→∃b o:Nat,a=some ⟨b,o,none⟩∧b<W.heap.size∧W.cell? ⟨b,o+k*3,none⟩=some (.int .i64 p.1)∧W.cell? ⟨b,o+k*3+1,none⟩=some (.int .i64 p.2.1)∧W.cell? ⟨b,o+k*3+2,none⟩=some (.int .i64 p.2.2)
theorem TrsAt.below {a:Option Addr} {ps:List L3} {W W':World} (h:TrsAt a ps W) (hb:Below W.heap.size W W'):TrsAt a ps W':=⟨fun k p hp=>by
 obtain⟨b,o,h1,h2,h3,h4,h5⟩:=h.row k p hp
 exact⟨b,o,h1,Nat.lt_of_lt_of_le h2 hb.size,(hb.cell (p:=⟨b,o+k*3,none⟩) h2).trans h3,(hb.cell (p:=⟨b,o+k*3+1,none⟩) h2).trans h4,(hb.cell (p:=⟨b,o+k*3+2,none⟩) h2).trans h5⟩⟩
theorem TrsAt.of {a:Option Addr} {ps:List L3} {W:World} (h:CsAt a (tsC ps) W):TrsAt a ps W:=⟨fun k p hp=>by
 obtain⟨e1,e2,e3⟩:=tsC_at hp
 obtain⟨b,o,rfl,h1,h2⟩:=h.row _ _ e1
 obtain⟨b',o',e,_,h3⟩:=h.row _ _ e2
 injection e with e
 injection e with e4 e5
 subst e4 e5
 obtain⟨b',o',e,_,h6⟩:=h.row _ _ e3
 injection e with e
 injection e with e4 e5
 subst e4 e5
 exact⟨b,o,rfl,h1,h2,by rw[Nat.add_assoc];exact h3,by rw[Nat.add_assoc];exact h6⟩⟩
abbrev sdS (a0:Option Addr) (c0:Nat) (a1:Option Addr) (c1:Nat) (a2:Option Addr) (c2:Nat) (a3:Option Addr) (c3:Nat) (x:SD):List Value:=[.slice a0 x.shapes.length c0,.slice a1 x.inside.length c1,.slice a2 x.member.length c2,.slice a3 x.leads.length c3]
structure SdAt (a0 a1 a2 a3:Option Addr) (x:SD) (W:World):Prop where
 s:ShsAt a0 x.shapes W
 i:PrsAt a1 x.inside W
 m:PrsAt a2 x.member W
 l:TrsAt a3 x.leads W
theorem SdAt.below {a0 a1 a2 a3:Option Addr} {x:SD} {W W':World} (h:SdAt a0 a1 a2 a3 x W) (hb:Below W.heap.size W W'):SdAt a0 a1 a2 a3 x W':=⟨h.s.below hb,h.i.below hb,h.m.below hb,h.l.below hb⟩
structure SdB (c0:Nat) (x:SD):Prop where
 s:x.shapes.length≤1000000∧x.shapes.length≤c0
 i:x.inside.length≤1000000
 m:x.member.length≤1000000
 l:x.leads.length≤1000000
theorem zL_ (s:Sh):decide (s=⟨s.code,s.kind,zRc,zPl,zPl,s.word⟩)=eT_ s:=by
 obtain⟨c,k,r,p,q,w⟩:=s
 unfold eT_
 simp only[Sh.mk.injEq,true_and,and_true]
 by_cases h1:r=zRc <;> by_cases h2:p=zPl <;> by_cases h3:q=zPl <;> simp[h1,h2,h3]
theorem wI_ {ss:List Sh} {k:Nat} {s:Sh} (hs:ss[k]?=some s):(ixZ (ixS s.code ss)==(k:Int))=decide (ixS s.code (ss.take k)=none):=by
 obtain⟨hk,he⟩:=List.getElem?_eq_some_iff.1 hs
 have hsp:ss=ss.take k++s::ss.drop (k+1):=by
  conv=>lhs;rw[←List.take_append_drop k ss,List.drop_eq_getElem_cons hk,he]
 have hlen:(ss.take k).length=k:=by rw[List.length_take];omega
 cases h:ixS s.code (ss.take k) with
 | none=>
  have:ixS s.code ss=some k:=dP_.2 ⟨ss.take k,s,ss.drop (k+1),hsp,hlen,rfl,eI_.1 h⟩
  rw[this]
  simp[ixZ]
 | some j=>
  have hj:=wH_ h
  obtain⟨a,t,b,h1,h2,h3,h4⟩:=dP_.1 h
  have hsp2:ss=a++t::(b++s::ss.drop (k+1)):=by
   refine hsp.trans ?_
   rw[h1]
   simp
  have:ixS s.code ss=some j:=dP_.2 ⟨a,t,b++s::ss.drop (k+1),hsp2,h2,h3,h4⟩
  rw[this]
  simp[ixZ]
  omega
theorem nI_ {ss:List Sh} {k:Nat} {s:Sh} (hs:ss[k]?=some s):dH_ (ss.take k) (ss.drop k)=(gP_ (ss.take k) s&&dH_ (ss.take (k+1)) (ss.drop (k+1))):=by
 obtain⟨hk,he⟩:=List.getElem?_eq_some_iff.1 hs
 rw[List.drop_eq_getElem_cons hk,he,List.take_add_one,hs]
 rfl
theorem pE_ {ls:List L3} {k:Nat} {l:L3} (hl:ls[k]?=some l):cW_ (ls.take k) (ls.drop k)=(okL (ls.take k) l&&cW_ (ls.take (k+1)) (ls.drop (k+1))):=by
 obtain⟨hk,he⟩:=List.getElem?_eq_some_iff.1 hl
 rw[List.drop_eq_getElem_cons hk,he,List.take_add_one,hl]
 rfl
theorem rQ_ {α:Type} {l:List α} {k:Nat} (hk:k<l.length):(l.take (k+1)).getLast?=l[k]?:=by
 rw[List.take_add_one,List.getElem?_eq_getElem hk,Option.toList_some,List.getLast?_append]
 rfl
theorem aBJ (c:Int) (B:Nat) (W:World) (hB:W.heap.size=B):Calls Tryz.prog 86 #[.slice (some ⟨B,0,none⟩) 1 1] (W.alloc (.cells #[.int .i64 c] 3)) fun e W'=>e=.returned (.bool (aN_ c))∧Below W.heap.size W W':=by
 subst hB
 refine(fO_ (l:=[c]) (n:=1) rfl (by omega) _ (CsAt.of_ar (ArAt.mk' W [.int .i64 c] 3))).mono ?_
 rintro e W' ⟨rfl,hb⟩
 exact⟨by simp,((Below.refl W.heap.size W).alloc (Nat.le_refl _) (.cells #[.int .i64 c] 3)).trans (hb.mono (by simp))⟩
theorem aAF {a0:Option Addr} {c0:Nat} {a1:Option Addr} {c1:Nat} {a2:Option Addr} {c2:Nat} {a3:Option Addr} {c3:Nat} (x:SD) (hx:SdB c0 x) (w:World) (hS:SdAt a0 a1 a2 a3 x w) :
  Calls Tryz.prog 49 #[.agg (sdS a0 c0 a1 c1 a2 c2 a3 c3 x).toArray] w fun e W'=>e=.returned (.bool (cF_ x))∧Below w.heap.size w W':=by
 have HX:=Lib.hid hx
 have HS:=Lib.hid hS
 have H0:=Lib.hid ((AzAt.start w).push (sdS a0 c0 a1 c1 a2 c2 a3 c3 x) 62)
 have x0:=H0.out.ce 0 0 rfl rfl
 have x3:=H0.out.ce 0 3 rfl rfl
 by_cases h60:x.shapes.length≤60∧x.leads.length≤40
 case neg=>
  have hv:cF_ x=false:=by
   unfold cF_
   by_cases h1:x.shapes.length≤60
   ·rw[decide_eq_false (show ¬x.leads.length≤40 from fun h=>h60 ⟨h1,h⟩)];simp
   ·rw[decide_eq_false h1];simp
  rw[hv]
  have HVV:=Lib.hid hv
  by_cases h1:x.shapes.length≤60
  ·have t1:decide ((60:Int)<(x.shapes.length:Int))=false:=decide_eq_false (by omega)
   have t2:decide ((40:Int)<(x.leads.length:Int))=true:=decide_eq_true (by omega)
   clear hS hx hv h60
   go_enter Tryz.func49,Tryz.ntmps49
   go_wp2
   go_ret
   exact⟨rfl,H0.out.bw⟩
  ·have t1:decide ((60:Int)<(x.shapes.length:Int))=true:=decide_eq_true (by omega)
   clear hS hx hv h60
   go_enter Tryz.func49,Tryz.ntmps49
   go_wp2
   go_ret
   exact⟨rfl,H0.out.bw⟩
 case pos=>
 have t1:decide ((60:Int)<(x.shapes.length:Int))=false:=decide_eq_false (by omega)
 have t2:decide ((40:Int)<(x.leads.length:Int))=false:=decide_eq_false (by omega)
 have H60:=Lib.hid h60
 have hv:cF_ x=(dH_ [] x.shapes&&cW_ [] x.leads&&cQ_ x.shapes (fun i n=>boxB (x.shapes.take i) n) 0 x.inside&&cQ_ x.shapes (fun _ n=>decide (0≤n)&&decide (n≤999)) 0 x.member):=by
  unfold cF_
  rw[decide_eq_true h60.1,decide_eq_true h60.2]
  simp
 have HVV:=Lib.hid hv
 have KX:=Lib.hid (fun(c:Int) (W:World) (hb:Below w.heap.size w W)=>mA_ (cap:=c0) c rfl hx.s.1 W (hS.s.below hb))
 clear hS hx hv h60
 go_enter Tryz.func49,Tryz.ntmps49
 go_wp2
 go_loopw [22] (fun v22 wr=>∃k:Nat,k≤x.shapes.length∧v22=.int .i64 (k:Int)∧Hid (dH_ [] x.shapes=dH_ (x.shapes.take k) (x.shapes.drop k))∧AzAt [(w.heap.size,sdS a0 c0 a1 c1 a2 c2 a3 c3 x)] w wr) (fun v22 _=>x.shapes.length-(intOf v22).toNat)
 case atStart=>exact⟨0,Nat.zero_le _,rfl,Lib.hid rfl,H0.out⟩
 case round=>
  obtain⟨k,hk,rfl,HSB,ho⟩:=hrel
  have H1:=Lib.hid ho
  clear ho x0 x3
  by_cases hkn:k<x.shapes.length
  case neg=>
   obtain⟨n0,hn0⟩:∃n,n=x.shapes.length:=⟨_,rfl⟩
   obtain rfl:k=x.shapes.length:=by omega
   have t9:decide ((x.shapes.length:Int)<(x.shapes.length:Int))=false:=decide_eq_false (by omega)
   have hsb:dH_ [] x.shapes=true:=by rw[HSB.out,List.drop_of_length_le (Nat.le_refl _)];rfl
   have HSB2:=Lib.hid hsb
   have x3:=H1.out.ce 0 3 rfl rfl
   clear hsb hn0
   go_wp2
   go_loopw [61] (fun v61 wi=>∃k:Nat,k≤x.leads.length∧v61=.int .i64 (k:Int)∧Hid (cW_ [] x.leads=cW_ (x.leads.take k) (x.leads.drop k))∧AzAt [(w.heap.size,sdS a0 c0 a1 c1 a2 c2 a3 c3 x)] w wi) (fun v61 _=>x.leads.length-(intOf v61).toNat)
   case atStart=>exact⟨0,Nat.zero_le _,rfl,Lib.hid rfl,H1.out⟩
   case round=>
    obtain⟨k,hk,rfl,HLB,ho⟩:=hrel
    have H2:=Lib.hid ho
    clear ho x3
    by_cases hkn:k<x.leads.length
    case neg=>
     obtain rfl:k=x.leads.length:=by omega
     have t9:decide ((x.leads.length:Int)<(x.leads.length:Int))=false:=decide_eq_false (by omega)
     have hlb:cW_ [] x.leads=true:=by rw[HLB.out,List.drop_of_length_le (Nat.le_refl _)];rfl
     have hval:cF_ x=(cQ_ x.shapes (fun i n=>boxB (x.shapes.take i) n) 0 x.inside&&cQ_ x.shapes (fun _ n=>decide (0≤n)&&decide (n≤999)) 0 x.member):=by
      rw[HVV.out,HSB2.out,hlb]
      simp
     have HVAL:=Lib.hid hval
     have hbd:=HX.out
     have hS2:=HS.out.below H2.out.bw
     have x0:=H2.out.ce 0 0 rfl rfl
     have x1:=H2.out.ce 0 1 rfl rfl
     have x2:=H2.out.ce 0 2 rfl rfl
     have KP1:=Lib.hid (lA_ (cap:=c0) (cap2:=c1) (enters_of Tryz.func94 (by kernel_rfl) rfl) rfl hbd.s.1 rfl hbd.i _ hS2.s hS2.i (aAI rfl hbd.s.1 hbd.s.2 _ hS2.s x0 (H2.out.row (w.heap.size,sdS a0 c0 a1 c1 a2 c2 a3 c3 x) (by simp)).sz))
     have KP2:=Lib.hid (fun(W:World) (hb:Below wr.heap.size wr W)=>lA_ (cap:=c0) (cap2:=c2) (enters_of Tryz.func95 (by kernel_rfl) rfl) rfl hbd.s.1 rfl hbd.m W (hS2.s.below hb) (hS2.m.below hb) (zY_ _ _))
     generalize cQ_ x.shapes (fun i n=>boxB (x.shapes.take i) n) 0 x.inside=r1 at *
     generalize cQ_ x.shapes (fun _ n=>decide (0≤n)&&decide (n≤999)) 0 x.member=r2 at *
     clear hS2 hbd hval hlb
     cases r1 with
     | false=>
      go_wp2_with (go_at_call 97;(with_reducible refine(KP1.out).mono ?_);rintro e w2 ⟨rfl,hb2⟩;have H4:=Lib.hid (H2.out.below hb2))
      go_ret
      exact⟨by rw[HVAL.out];rfl,H4.out.bw⟩
     | true=>
      go_wp2_with (first
       | (go_at_call 97;(with_reducible refine(KP1.out).mono ?_);rintro e w2 ⟨rfl,hb2⟩;have HB2:=Lib.hid hb2;have H4:=Lib.hid (H2.out.below hb2);have y0:=H4.out.ce 0 0 rfl rfl;have y2:=H4.out.ce 0 2 rfl rfl)
       | (go_at_call 97;(with_reducible refine(KP2.out _ HB2.out).mono ?_);rintro e w3 ⟨rfl,hb3⟩;have H5:=Lib.hid (H4.out.below hb3)))
      go_ret
      exact⟨by rw[HVAL.out];rfl,H5.out.bw⟩
    case pos=>
     have t9:decide ((k:Int)<(x.leads.length:Int))=true:=decide_eq_true (by omega)
     obtain⟨l,hl⟩:∃l,x.leads[k]?=some l:=⟨_,List.getElem?_eq_getElem hkn⟩
     have hst:=pE_ hl
     rw[←HLB.out] at hst
     obtain⟨l0,l1,l2⟩:=l
     obtain⟨b,o,rfl,hb7,d0,d1,d2⟩:=(HS.out.l.below H2.out.bw).row k _ hl
     simp only at d0 d1 d2
     have h40:=H60.out.2
     have H3:=Lib.hid (H2.out.push [.int .i64 l0,.int .i64 l1,.int .i64 l2] 59)
     obtain⟨q1,hq1⟩:∃q,q=([l0,l1,l2].all aN_):=⟨_,rfl⟩
     have KA:=Lib.hid (show ∀W:World,Below (wr.alloc (.cells ([.int .i64 l0,.int .i64 l1,.int .i64 l2]:List Value).toArray 59)).heap.size (wr.alloc (.cells ([.int .i64 l0,.int .i64 l1,.int .i64 l2]:List Value).toArray 59)) W→Calls Tryz.prog 86 #[.slice (some ⟨wr.heap.size,0,none⟩) 3 3] W fun e W'=>e=.returned (.bool q1)∧Below W.heap.size W W' from fun W hb=>by
      rw[hq1]
      exact fO_ (l:=[l0,l1,l2]) (n:=3) rfl (by omega) W (CsAt.of_ar ((H3.out.row (wr.heap.size,[.int .i64 l0,.int .i64 l1,.int .i64 l2]) (by simp)).below hb)))
     obtain⟨q2,hq2⟩:∃q:Bool,q=(match (x.leads.take k).getLast? with|none=>true|some p=>decide (p.1<l0)):=⟨_,rfl⟩
     have hok:okL (x.leads.take k) (l0,l1,l2)=(q1&&q2):=by
      unfold okL
      rw[hq1,hq2]
      simp[Bool.and_assoc]
      cases (x.leads.take k).getLast? <;> rfl
     rw[hok] at hst
     have HST:=Lib.hid hst
     have HQ2:=Lib.hid hq2
     clear hst hok hq1 hq2 hl
     go_upto_region 12 with fail
     go_cut [84] from 66 to 85 (fun v84 wX=>v84=.bool (!(q1&&q2))∧AzAt [(w.heap.size,sdS a0 c0 a1 c1 a2 c2 (some ⟨b,o,none⟩) c3 x)] w wX)
     case first=>
      have z3:=cell_regrown (H3.out.ce 1 3 rfl rfl)
      have y0:=cell_regrown (H3.out.ce 0 0 rfl rfl)
      have c9:=fun d os=>Calls.regrown_of (d:=d) (os:=os) (KA.out (grow (redrawn (wr.alloc (.cells ([.int .i64 l0,.int .i64 l1,.int .i64 l2]:List Value).toArray 59)) d) os) (below_regrown _ d os))
      cases q1 with
      | false=>
       refine wp_region_quiet_below (by kernel_rfl) (by kernel_rfl) ?_
       repeat (go_big_quiet_step (with_reducible first|exact c9 _ _))
       refine wpQuiet_nil ?_
       intro W2 hw2
       have hb2:Below (wr.alloc (.cells ([.int .i64 l0,.int .i64 l1,.int .i64 l2]:List Value).toArray 59)).heap.size (wr.alloc (.cells ([.int .i64 l0,.int .i64 l1,.int .i64 l2]:List Value).toArray 59)) W2:=by obtain⟨⟨dq,osq⟩,hw7⟩:=hw2;rw[hw7];exact below_regrown _ dq osq
       have H4:=Lib.hid (H3.out.below hb2)
       clear hw2 hb2
       go_wp2
       go_meet
       exact⟨rfl,H4.out.sub (by simp)⟩
      | true=>
       rcases Nat.eq_zero_or_pos k with hk0|hk0
       ·have t8:decide (0<k)=false:=decide_eq_false (by omega)
        have HK0:=Lib.hid hk0
        clear hk0
        refine wp_region_quiet_below (by kernel_rfl) (by kernel_rfl) ?_
        repeat (go_big_quiet_step (with_reducible first|exact c9 _ _))
        refine wpQuiet_nil ?_
        intro W2 hw2
        have hb2:Below (wr.alloc (.cells ([.int .i64 l0,.int .i64 l1,.int .i64 l2]:List Value).toArray 59)).heap.size (wr.alloc (.cells ([.int .i64 l0,.int .i64 l1,.int .i64 l2]:List Value).toArray 59)) W2:=by obtain⟨⟨dq,osq⟩,hw7⟩:=hw2;rw[hw7];exact below_regrown _ dq osq
        have H4:=Lib.hid (H3.out.below hb2)
        clear hw2 hb2
        go_wp2
        go_meet
        exact⟨by rw[HQ2.out,HK0.out];rfl,H4.out.sub (by simp)⟩
       ·have t8:decide (0<k)=true:=decide_eq_true hk0
        obtain⟨k',hkk⟩:∃k',k=k'+1:=⟨k-1,by omega⟩
        obtain⟨p,hp⟩:∃p,x.leads[k']?=some p:=⟨_,List.getElem?_eq_getElem (by omega)⟩
        obtain⟨b',o',e1,hb8,p0,-,-⟩:=(HS.out.l.below H2.out.bw).row k' _ hp
        injection e1 with e1
        injection e1 with e1 e2
        subst e1 e2
        have g1:IntKind.i64.wrap ((k:Int)-1)=(k':Int):=(IntWalk.i64_in _ (by omega)).trans (by omega)
        have g2:(k':Int)<(x.leads.length:Int):=by omega
        have p1:=cell_regrown ((World.cell?_of_block (Below.heap_alloc wr (.cells ([.int .i64 l0,.int .i64 l1,.int .i64 l2]:List Value).toArray 59) b hb7)).trans p0)
        obtain⟨q3,hq3⟩:∃q,q=decide (l0≤p.1):=⟨_,rfl⟩
        have t6:=hq3.symm
        have HPP:=Lib.hid (And.intro hp (And.intro hkk hq3))
        clear hp hkk hk0 hq3
        refine wp_region_quiet_below (by kernel_rfl) (by kernel_rfl) ?_
        repeat (go_big_quiet_step (with_reducible first|exact c9 _ _))
        refine wpQuiet_nil ?_
        intro W2 hw2
        have hb2:Below (wr.alloc (.cells ([.int .i64 l0,.int .i64 l1,.int .i64 l2]:List Value).toArray 59)).heap.size (wr.alloc (.cells ([.int .i64 l0,.int .i64 l1,.int .i64 l2]:List Value).toArray 59)) W2:=by obtain⟨⟨dq,osq⟩,hw7⟩:=hw2;rw[hw7];exact below_regrown _ dq osq
        have H4:=Lib.hid (H3.out.below hb2)
        clear hw2 hb2
        go_wp2
        go_meet
        refine⟨?_,H4.out.sub (by simp)⟩
        have e1:(x.leads.take k).getLast?=some p:=by
         rw[HPP.out.2.1,rQ_ (by have:=HPP.out.2.1;omega)]
         exact HPP.out.1
        rw[HQ2.out,e1,HPP.out.2.2]
        simp only[Bool.true_and]
        by_cases h:p.1<l0
        ·simp[h]
        ·simp[h]
         omega
     case rest=>
     obtain⟨rfl,hmx⟩:=hcut
     have H4:=Lib.hid hmx
     clear hmx
     cases hok:(q1&&q2) with
     | false=>
      rw[hok] at HST
      have HST2:=HST
      clear hok
      go_wp2
      go_ret
      exact⟨by rw[HVV.out,HST2.out];simp,H4.out.bw⟩
     | true=>
      rw[hok] at HST
      clear hok
      go_wp2
      exact⟨⟨k+1,by omega,by go_num,Lib.hid (by rw[HST.out];rfl),H4.out⟩,by simp only[intOf];omega⟩
  case pos=>
   have t9:decide ((k:Int)<(x.shapes.length:Int))=true:=decide_eq_true (by omega)
   obtain⟨s,hs⟩:∃s,x.shapes[k]?=some s:=⟨_,List.getElem?_eq_getElem hkn⟩
   obtain⟨b,o,rfl,hb7,d0,d1,d2,d3,d4,d5,d6,d7,d8,d9,d10⟩:=(HS.out.s.below H1.out.bw).sh hs
   have hst:=nI_ hs
   rw[←HSB.out] at hst
   have h60:=H60.out.1
   have H3:=Lib.hid (H1.out.push (shC s) 30)
   have eqs:∀W,(Op.equalIn 10000 30 (.agg #[.int .i64 s.code,.int .i64 s.kind,.int .i64 s.rect.x,.int .i64 s.rect.y,.int .i64 s.rect.w,.int .i64 s.rect.h,.int .i64 s.a.x,.int .i64 s.a.y,.int .i64 s.b.x,.int .i64 s.b.y,.string s.word]) (.agg #[.int .i64 s.code,.int .i64 s.kind,.int .i64 0,.int .i64 0,.int .i64 0,.int .i64 0,.int .i64 0,.int .i64 0,.int .i64 0,.int .i64 0,.string s.word])).run Tryz.prog W=Result.ok (eT_ s) W:=fun W=>by
    rw[←zL_]
    exact aEJ s ⟨s.code,s.kind,zRc,zPl,zPl,s.word⟩ W
   have x0:=H3.out.ce 1 0 rfl rfl
   have KF:=Lib.hid (fun W=>mD_ s W)
   have KI:=Lib.hid (fun(W:World) (hb:Below w.heap.size w W)=>KX.out s.code W hb)
   have KA:=Lib.hid (fun B W hB=>aBJ s.code B W hB)
   have hfi:=wI_ hs
   rw[lY_] at KI
   obtain⟨iz,hiz⟩:∃iz,iz=ixZ (ixS s.code x.shapes):=⟨_,rfl⟩
   rw[←hiz] at KI hfi
   obtain⟨q4,hq4⟩:∃q,q=decide (ixS s.code (x.shapes.take k)=none):=⟨_,rfl⟩
   rw[←hq4] at hfi
   have hnx:gP_ (x.shapes.take k) s=(eT_ s&&aN_ s.code&&bS_ s.kind s.word.data.toList&&q4):=by unfold gP_;rw[hq4]
   rw[hnx] at hst
   generalize eT_ s=q1 at eqs hst
   generalize aN_ s.code=q2 at KA hst
   generalize bS_ s.kind s.word.data.toList=q3 at KF hst
   have HST:=Lib.hid hst
   clear hst hnx hq4 hiz hs
   cases q1 with
   | false=>
    go_wp2
    go_ret
    exact⟨by rw[HVV.out,HST.out];rfl,H3.out.bw⟩
   | true=>
    cases q2 with
    | false=>
     go_wp2_with (go_at_call 86;(with_reducible refine(KA.out _ _ (by simp)).mono ?_);rintro e w2 ⟨rfl,hb2⟩;have H4:=Lib.hid (H3.out.below hb2))
     go_ret
     exact⟨by rw[HVV.out,HST.out];rfl,H4.out.bw⟩
    | true=>
     cases q3 with
     | false=>
      go_wp2_with (first
       | (go_at_call 86;(with_reducible refine(KA.out _ _ (by simp)).mono ?_);rintro e w2 ⟨rfl,hb2⟩;have H4:=Lib.hid (H3.out.below hb2);obtain⟨y0,y1,y2,y3,y4,y5,y6,y7,y8,y9,y10⟩:=H4.out.sh 0 rfl)
       | (go_at_call 63;(with_reducible refine(KF.out _).mono ?_);rintro e w3 ⟨rfl,hb3⟩;have H5:=Lib.hid (H4.out.below hb3)))
      go_ret
      exact⟨by rw[HVV.out,HST.out];rfl,H5.out.bw⟩
     | true=>
      cases q4
      all_goals
       go_wp2_with (first
        | (go_at_call 86;(with_reducible refine(KA.out _ _ (by simp)).mono ?_);rintro e w2 ⟨rfl,hb2⟩;have H4:=Lib.hid (H3.out.below hb2);obtain⟨y0,y1,y2,y3,y4,y5,y6,y7,y8,y9,y10⟩:=H4.out.sh 0 rfl)
        | (go_at_call 63;(with_reducible refine(KF.out _).mono ?_);rintro e w3 ⟨rfl,hb3⟩;have H5:=Lib.hid (H4.out.below hb3);have u0:=H5.out.ce 1 0 rfl rfl;obtain⟨y0,y1,y2,y3,y4,y5,y6,y7,y8,y9,y10⟩:=H5.out.sh 0 rfl)
        | (go_at_call 87;(with_reducible refine(KI.out _ H5.out.bw).mono ?_);rintro e w4 ⟨rfl,hb4⟩;have H6:=Lib.hid (H5.out.below hb4)))
      ·go_ret
       exact⟨by rw[HVV.out,HST.out];rfl,H6.out.bw⟩
      ·exact⟨⟨k+1,by omega,by go_num,Lib.hid (by rw[HST.out];rfl),H6.out.sub (by simp)⟩,by simp only[intOf];omega⟩
theorem cN_ {α:Type} {us vs:List α} {k:Nat} {p q:α} (hp:us[k]?=some p) (hq:vs[k]?=some q) (h:us.take k=vs.take k):(us.take (k+1)=vs.take (k+1))↔p=q:=by
 have e1:us.take (k+1)=us.take k++[p]:=by rw[List.take_add_one,hp];rfl
 have e2:vs.take (k+1)=vs.take k++[q]:=by rw[List.take_add_one,hq];rfl
 rw[e1,e2,h]
 simp
theorem aCI {a b:Option Addr} {n m c d:Nat} {us vs:List (Int×Int)} (hn:us.length=n) (hm:vs.length=m) (hn6:n≤1000000) (w:World) (hS:PrsAt a us w) (hV:PrsAt b vs w) :
  Calls Tryz.prog 56 #[.slice a n c,.slice b m d] w fun e W'=>e=.returned (.bool (decide (us=vs)))∧Below w.heap.size w W':=by
 by_cases hnm:n=m
 case neg=>
  have t1:((n:Int)==(m:Int))=false:=beq_eq_false_iff_ne.2 (by omega)
  have HF:=Lib.hid (show decide (us=vs)=false from decide_eq_false (fun e=>hnm (by rw[←hn,←hm,e])))
  clear hS hV hn hm
  go_enter Tryz.func56,Tryz.ntmps56
  go_wp2
  go_ret
  exact⟨by rw[HF.out];rfl,Below.refl _ _⟩
 case pos=>
 subst hnm
 have HN:=Lib.hid (And.intro hn hm)
 have HU:=Lib.hid hS
 have HV:=Lib.hid hV
 have H0:=Lib.hid (AzAt.start w)
 clear hn hm hS hV
 go_enter Tryz.func56,Tryz.ntmps56
 go_wp2
 go_loopw [13] (fun v13 wr=>∃k:Nat,k≤n∧v13=.int .i64 (k:Int)∧Hid (us.take k=vs.take k)∧AzAt [] w wr) (fun v13 _=>n-(intOf v13).toNat)
 case atStart=>exact⟨0,Nat.zero_le _,rfl,Lib.hid rfl,H0.out⟩
 case round=>
  obtain⟨k,hk,rfl,HE,ho⟩:=hrel
  have H1:=Lib.hid ho
  clear ho H0
  by_cases hkn:k<n
  case neg=>
   obtain rfl:k=n:=by omega
   have t9:decide ((k:Int)<(k:Int))=false:=decide_eq_false (by omega)
   have HT:=Lib.hid (show decide (us=vs)=true from decide_eq_true (by have:=HE.out;rwa[List.take_of_length_le (Nat.le_of_eq HN.out.1),List.take_of_length_le (Nat.le_of_eq HN.out.2)] at this))
   go_wp2
   go_ret
   exact⟨by rw[HT.out];rfl,H1.out.bw⟩
  case pos=>
   have t9:decide ((k:Int)<(n:Int))=true:=decide_eq_true (by omega)
   have g1:(k:Int)<(n:Int):=by omega
   obtain⟨p,hp⟩:∃p,us[k]?=some p:=⟨_,List.getElem?_eq_getElem (by rw[HN.out.1];exact hkn)⟩
   obtain⟨q,hq⟩:∃q,vs[k]?=some q:=⟨_,List.getElem?_eq_getElem (by rw[HN.out.2];exact hkn)⟩
   have HTS:=Lib.hid (cN_ hp hq HE.out)
   obtain⟨b1,o1,rfl,hb1,y0,y1⟩:=(HU.out.below H1.out.bw).row k _ hp
   obtain⟨b2,o2,rfl,hb2,z0,z1⟩:=(HV.out.below H1.out.bw).row k _ hq
   obtain⟨qe,hqe⟩:∃z,z=(decide (p.1=q.1)&&decide (p.2=q.2)):=⟨_,rfl⟩
   have eqs:∀W,(Op.equalIn 10000 58 (.agg #[.int .i64 p.1,.int .i64 p.2]) (.agg #[.int .i64 q.1,.int .i64 q.2])).run Tryz.prog W=Result.ok qe W:=fun W=>by
    rw[hqe]
    exact xH_ p.1 p.2 q.1 q.2 W
   have HQE:=Lib.hid (show qe=decide (p=q) from by rw[hqe];obtain⟨p0,p1⟩:=p;obtain⟨q0,q1⟩:=q;simp[Prod.mk.injEq])
   clear hqe hp hq
   cases qe with
   | false=>
    have HF:=Lib.hid (show decide (us=vs)=false from decide_eq_false (fun e=>by
     have h1:=of_decide_eq_false HQE.out.symm
     exact h1 (HTS.out.1 (by rw[e]))))
    go_wp2
    go_region
    go_wp2
    go_ret
    exact⟨by rw[HF.out];rfl,H1.out.drew.bw⟩
   | true=>
    have HT:=Lib.hid (HTS.out.2 (of_decide_eq_true HQE.out.symm))
    go_wp2
    go_region
    go_wp2
    exact⟨⟨k+1,by omega,by go_num,HT,H1.out.drew⟩,by simp only[intOf];omega⟩
theorem eqTs_s {a b:Option Addr} {n m c d:Nat} {us vs:List (L3)} (hn:us.length=n) (hm:vs.length=m) (hn6:n≤1000000) (w:World) (hS:TrsAt a us w) (hV:TrsAt b vs w) :
  Calls Tryz.prog 57 #[.slice a n c,.slice b m d] w fun e W'=>e=.returned (.bool (decide (us=vs)))∧Below w.heap.size w W':=by
 by_cases hnm:n=m
 case neg=>
  have t1:((n:Int)==(m:Int))=false:=beq_eq_false_iff_ne.2 (by omega)
  have HF:=Lib.hid (show decide (us=vs)=false from decide_eq_false (fun e=>hnm (by rw[←hn,←hm,e])))
  clear hS hV hn hm
  go_enter Tryz.func57,Tryz.ntmps57
  go_wp2
  go_ret
  exact⟨by rw[HF.out];rfl,Below.refl _ _⟩
 case pos=>
 subst hnm
 have HN:=Lib.hid (And.intro hn hm)
 have HU:=Lib.hid hS
 have HV:=Lib.hid hV
 have H0:=Lib.hid (AzAt.start w)
 clear hn hm hS hV
 go_enter Tryz.func57,Tryz.ntmps57
 go_wp2
 go_loopw [13] (fun v13 wr=>∃k:Nat,k≤n∧v13=.int .i64 (k:Int)∧Hid (us.take k=vs.take k)∧AzAt [] w wr) (fun v13 _=>n-(intOf v13).toNat)
 case atStart=>exact⟨0,Nat.zero_le _,rfl,Lib.hid rfl,H0.out⟩
 case round=>
  obtain⟨k,hk,rfl,HE,ho⟩:=hrel
  have H1:=Lib.hid ho
  clear ho H0
  by_cases hkn:k<n
  case neg=>
   obtain rfl:k=n:=by omega
   have t9:decide ((k:Int)<(k:Int))=false:=decide_eq_false (by omega)
   have HT:=Lib.hid (show decide (us=vs)=true from decide_eq_true (by have:=HE.out;rwa[List.take_of_length_le (Nat.le_of_eq HN.out.1),List.take_of_length_le (Nat.le_of_eq HN.out.2)] at this))
   go_wp2
   go_ret
   exact⟨by rw[HT.out];rfl,H1.out.bw⟩
  case pos=>
   have t9:decide ((k:Int)<(n:Int))=true:=decide_eq_true (by omega)
   have g1:(k:Int)<(n:Int):=by omega
   obtain⟨p,hp⟩:∃p,us[k]?=some p:=⟨_,List.getElem?_eq_getElem (by rw[HN.out.1];exact hkn)⟩
   obtain⟨q,hq⟩:∃q,vs[k]?=some q:=⟨_,List.getElem?_eq_getElem (by rw[HN.out.2];exact hkn)⟩
   have HTS:=Lib.hid (cN_ hp hq HE.out)
   obtain⟨b1,o1,rfl,hb1,y0,y1,y2⟩:=(HU.out.below H1.out.bw).row k _ hp
   obtain⟨b2,o2,rfl,hb2,z0,z1,z2⟩:=(HV.out.below H1.out.bw).row k _ hq
   obtain⟨qe,hqe⟩:∃z,z=(decide (p.1=q.1)&&decide (p.2.1=q.2.1)&&decide (p.2.2=q.2.2)):=⟨_,rfl⟩
   have eqs:∀W,(Op.equalIn 10000 59 (.agg #[.int .i64 p.1,.int .i64 p.2.1,.int .i64 p.2.2]) (.agg #[.int .i64 q.1,.int .i64 q.2.1,.int .i64 q.2.2])).run Tryz.prog W=Result.ok qe W:=fun W=>by
    rw[hqe]
    exact qZ_ p.1 p.2.1 p.2.2 q.1 q.2.1 q.2.2 W
   have HQE:=Lib.hid (show qe=decide (p=q) from by rw[hqe];obtain⟨p0,p1,p2⟩:=p;obtain⟨q0,q1,q2⟩:=q;simp[Prod.mk.injEq,Bool.and_assoc])
   clear hqe hp hq
   cases qe with
   | false=>
    have HF:=Lib.hid (show decide (us=vs)=false from decide_eq_false (fun e=>by
     have h1:=of_decide_eq_false HQE.out.symm
     exact h1 (HTS.out.1 (by rw[e]))))
    go_wp2
    go_region
    go_wp2
    go_ret
    exact⟨by rw[HF.out];rfl,H1.out.drew.bw⟩
   | true=>
    have HT:=Lib.hid (HTS.out.2 (of_decide_eq_true HQE.out.symm))
    go_wp2
    go_region
    go_wp2
    exact⟨⟨k+1,by omega,by go_num,HT,H1.out.drew⟩,by simp only[intOf];omega⟩
theorem eqSh_s {a b:Option Addr} {n m c d:Nat} {us vs:List (Sh)} (hn:us.length=n) (hm:vs.length=m) (hn6:n≤1000000) (w:World) (hS:ShsAt a us w) (hV:ShsAt b vs w) :
  Calls Tryz.prog 55 #[.slice a n c,.slice b m d] w fun e W'=>e=.returned (.bool (decide (us=vs)))∧Below w.heap.size w W':=by
 by_cases hnm:n=m
 case neg=>
  have t1:((n:Int)==(m:Int))=false:=beq_eq_false_iff_ne.2 (by omega)
  have HF:=Lib.hid (show decide (us=vs)=false from decide_eq_false (fun e=>hnm (by rw[←hn,←hm,e])))
  clear hS hV hn hm
  go_enter Tryz.func55,Tryz.ntmps55
  go_wp2
  go_ret
  exact⟨by rw[HF.out];rfl,Below.refl _ _⟩
 case pos=>
 subst hnm
 have HN:=Lib.hid (And.intro hn hm)
 have HU:=Lib.hid hS
 have HV:=Lib.hid hV
 have H0:=Lib.hid (AzAt.start w)
 clear hn hm hS hV
 go_enter Tryz.func55,Tryz.ntmps55
 go_wp2
 go_loopw [13] (fun v13 wr=>∃k:Nat,k≤n∧v13=.int .i64 (k:Int)∧Hid (us.take k=vs.take k)∧AzAt [] w wr) (fun v13 _=>n-(intOf v13).toNat)
 case atStart=>exact⟨0,Nat.zero_le _,rfl,Lib.hid rfl,H0.out⟩
 case round=>
  obtain⟨k,hk,rfl,HE,ho⟩:=hrel
  have H1:=Lib.hid ho
  clear ho H0
  by_cases hkn:k<n
  case neg=>
   obtain rfl:k=n:=by omega
   have t9:decide ((k:Int)<(k:Int))=false:=decide_eq_false (by omega)
   have HT:=Lib.hid (show decide (us=vs)=true from decide_eq_true (by have:=HE.out;rwa[List.take_of_length_le (Nat.le_of_eq HN.out.1),List.take_of_length_le (Nat.le_of_eq HN.out.2)] at this))
   go_wp2
   go_ret
   exact⟨by rw[HT.out];rfl,H1.out.bw⟩
  case pos=>
   have t9:decide ((k:Int)<(n:Int))=true:=decide_eq_true (by omega)
   have g1:(k:Int)<(n:Int):=by omega
   obtain⟨p,hp⟩:∃p,us[k]?=some p:=⟨_,List.getElem?_eq_getElem (by rw[HN.out.1];exact hkn)⟩
   obtain⟨q,hq⟩:∃q,vs[k]?=some q:=⟨_,List.getElem?_eq_getElem (by rw[HN.out.2];exact hkn)⟩
   have HTS:=Lib.hid (cN_ hp hq HE.out)
   obtain⟨b1,o1,rfl,hb1,y0,y1,y2,y3,y4,y5,y6,y7,y8,y9,y10⟩:=(HU.out.below H1.out.bw).sh hp
   obtain⟨b2,o2,rfl,hb2,z0,z1,z2,z3,z4,z5,z6,z7,z8,z9,z10⟩:=(HV.out.below H1.out.bw).sh hq
   obtain⟨qe,hqe⟩:∃z,z=decide (p=q):=⟨_,rfl⟩
   have eqs:∀W,(Op.equalIn 10000 30 (.agg #[.int .i64 p.code,.int .i64 p.kind,.int .i64 p.rect.x,.int .i64 p.rect.y,.int .i64 p.rect.w,.int .i64 p.rect.h,.int .i64 p.a.x,.int .i64 p.a.y,.int .i64 p.b.x,.int .i64 p.b.y,.string p.word]) (.agg #[.int .i64 q.code,.int .i64 q.kind,.int .i64 q.rect.x,.int .i64 q.rect.y,.int .i64 q.rect.w,.int .i64 q.rect.h,.int .i64 q.a.x,.int .i64 q.a.y,.int .i64 q.b.x,.int .i64 q.b.y,.string q.word])).run Tryz.prog W=Result.ok qe W:=fun W=>by
    rw[hqe]
    exact aEJ p q W
   have HQE:=Lib.hid (show qe=decide (p=q) from by rw[hqe])
   clear hqe hp hq
   cases qe with
   | false=>
    have HF:=Lib.hid (show decide (us=vs)=false from decide_eq_false (fun e=>by
     have h1:=of_decide_eq_false HQE.out.symm
     exact h1 (HTS.out.1 (by rw[e]))))
    go_wp2
    go_region
    go_wp2
    go_ret
    exact⟨by rw[HF.out];rfl,H1.out.drew.bw⟩
   | true=>
    have HT:=Lib.hid (HTS.out.2 (of_decide_eq_true HQE.out.symm))
    go_wp2
    go_region
    go_wp2
    exact⟨⟨k+1,by omega,by go_num,HT,H1.out.drew⟩,by simp only[intOf];omega⟩
deriving instance DecidableEq for SD
theorem sd_eq (x y:SD):decide (x=y)=(decide (x.shapes=y.shapes)&&decide (x.inside=y.inside)&&decide (x.member=y.member)&&decide (x.leads=y.leads)):=by
 obtain⟨xs,xi,xm,xl⟩:=x
 obtain⟨ys,yi,ym,yl⟩:=y
 simp[SD.mk.injEq,Bool.and_assoc]
theorem aBZ {a0 a1 a2 a3 b0 b1 b2 b3:Option Addr} {c0 c1 c2 c3 d0 d1 d2 d3:Nat} (x y:SD) (hx:x.shapes.length≤1000000∧x.inside.length≤1000000∧x.member.length≤1000000∧x.leads.length≤1000000) (w:World) (hX:SdAt a0 a1 a2 a3 x w) (hY:SdAt b0 b1 b2 b3 y w) :
  Calls Tryz.prog 29 #[.agg (sdS a0 c0 a1 c1 a2 c2 a3 c3 x).toArray,.agg (sdS b0 d0 b1 d1 b2 d2 b3 d3 y).toArray] w fun e W'=>e=.returned (.bool (decide (x=y)))∧Below w.heap.size w W':=by
 have H0:=Lib.hid (((AzAt.start w).push (sdS a0 c0 a1 c1 a2 c2 a3 c3 x) 62).push (sdS b0 d0 b1 d1 b2 d2 b3 d3 y) 62)
 have x0:=H0.out.ce 1 0 rfl rfl
 have y0:=H0.out.ce 0 0 rfl rfl
 simp only[World.size_alloc] at x0 y0
 have K0:=Lib.hid (fun(W:World) (hb:Below w.heap.size w W)=>eqSh_s (c:=c0) (d:=d0) rfl rfl hx.1 W (hX.s.below hb) (hY.s.below hb))
 have K1:=Lib.hid (fun(W:World) (hb:Below w.heap.size w W)=>aCI (c:=c1) (d:=d1) rfl rfl hx.2.1 W (hX.i.below hb) (hY.i.below hb))
 have K2:=Lib.hid (fun(W:World) (hb:Below w.heap.size w W)=>aCI (c:=c2) (d:=d2) rfl rfl hx.2.2.1 W (hX.m.below hb) (hY.m.below hb))
 have K3:=Lib.hid (fun(W:World) (hb:Below w.heap.size w W)=>eqTs_s (c:=c3) (d:=d3) rfl rfl hx.2.2.2 W (hX.l.below hb) (hY.l.below hb))
 rw[sd_eq]
 generalize decide (x.shapes=y.shapes)=q0 at K0⊢
 generalize decide (x.inside=y.inside)=q1 at K1⊢
 generalize decide (x.member=y.member)=q2 at K2⊢
 generalize decide (x.leads=y.leads)=q3 at K3⊢
 clear hx hX hY
 go_enter Tryz.func29,Tryz.ntmps29
 cases q0 with
 | false=>
  go_wp2_with (first
    | (have _:=H3;go_at_call 57;(with_reducible refine(K3.out _ H3.out.bw).mono ?_);rintro e w4 ⟨rfl,hb4⟩;have H4:=Lib.hid (H3.out.below hb4);clear hb4)
    | (have _:=H2;go_at_call 56;(with_reducible refine(K2.out _ H2.out.bw).mono ?_);rintro e w3 ⟨rfl,hb3⟩;have H3:=Lib.hid (H2.out.below hb3);have x3:=H3.out.ce 1 3 rfl rfl;have y3:=H3.out.ce 0 3 rfl rfl;simp only[World.size_alloc] at x3 y3;clear hb3)
    | (have _:=H1;go_at_call 56;(with_reducible refine(K1.out _ H1.out.bw).mono ?_);rintro e w2 ⟨rfl,hb2⟩;have H2:=Lib.hid (H1.out.below hb2);have x2:=H2.out.ce 1 2 rfl rfl;have y2:=H2.out.ce 0 2 rfl rfl;simp only[World.size_alloc] at x2 y2;clear hb2)
    | (go_at_call 55;(with_reducible refine(K0.out _ H0.out.bw).mono ?_);rintro e w1 ⟨rfl,hb1⟩;have H1:=Lib.hid (H0.out.below hb1);have x1:=H1.out.ce 1 1 rfl rfl;have y1:=H1.out.ce 0 1 rfl rfl;simp only[World.size_alloc] at x1 y1;clear hb1)
    | fail)
  go_ret
  exact⟨rfl,H1.out.bw⟩
 | true=>
  cases q1 with
  | false=>
   go_wp2_with (first
     | (have _:=H3;go_at_call 57;(with_reducible refine(K3.out _ H3.out.bw).mono ?_);rintro e w4 ⟨rfl,hb4⟩;have H4:=Lib.hid (H3.out.below hb4);clear hb4)
     | (have _:=H2;go_at_call 56;(with_reducible refine(K2.out _ H2.out.bw).mono ?_);rintro e w3 ⟨rfl,hb3⟩;have H3:=Lib.hid (H2.out.below hb3);have x3:=H3.out.ce 1 3 rfl rfl;have y3:=H3.out.ce 0 3 rfl rfl;simp only[World.size_alloc] at x3 y3;clear hb3)
     | (have _:=H1;go_at_call 56;(with_reducible refine(K1.out _ H1.out.bw).mono ?_);rintro e w2 ⟨rfl,hb2⟩;have H2:=Lib.hid (H1.out.below hb2);have x2:=H2.out.ce 1 2 rfl rfl;have y2:=H2.out.ce 0 2 rfl rfl;simp only[World.size_alloc] at x2 y2;clear hb2)
     | (go_at_call 55;(with_reducible refine(K0.out _ H0.out.bw).mono ?_);rintro e w1 ⟨rfl,hb1⟩;have H1:=Lib.hid (H0.out.below hb1);have x1:=H1.out.ce 1 1 rfl rfl;have y1:=H1.out.ce 0 1 rfl rfl;simp only[World.size_alloc] at x1 y1;clear hb1)
     | fail)
   go_ret
   exact⟨rfl,H2.out.bw⟩
  | true=>
   cases q2 with
   | false=>
    go_wp2_with (first
      | (have _:=H3;go_at_call 57;(with_reducible refine(K3.out _ H3.out.bw).mono ?_);rintro e w4 ⟨rfl,hb4⟩;have H4:=Lib.hid (H3.out.below hb4);clear hb4)
      | (have _:=H2;go_at_call 56;(with_reducible refine(K2.out _ H2.out.bw).mono ?_);rintro e w3 ⟨rfl,hb3⟩;have H3:=Lib.hid (H2.out.below hb3);have x3:=H3.out.ce 1 3 rfl rfl;have y3:=H3.out.ce 0 3 rfl rfl;simp only[World.size_alloc] at x3 y3;clear hb3)
      | (have _:=H1;go_at_call 56;(with_reducible refine(K1.out _ H1.out.bw).mono ?_);rintro e w2 ⟨rfl,hb2⟩;have H2:=Lib.hid (H1.out.below hb2);have x2:=H2.out.ce 1 2 rfl rfl;have y2:=H2.out.ce 0 2 rfl rfl;simp only[World.size_alloc] at x2 y2;clear hb2)
      | (go_at_call 55;(with_reducible refine(K0.out _ H0.out.bw).mono ?_);rintro e w1 ⟨rfl,hb1⟩;have H1:=Lib.hid (H0.out.below hb1);have x1:=H1.out.ce 1 1 rfl rfl;have y1:=H1.out.ce 0 1 rfl rfl;simp only[World.size_alloc] at x1 y1;clear hb1)
      | fail)
    go_ret
    exact⟨rfl,H3.out.bw⟩
   | true=>
    go_wp2_with (first
      | (have _:=H3;go_at_call 57;(with_reducible refine(K3.out _ H3.out.bw).mono ?_);rintro e w4 ⟨rfl,hb4⟩;have H4:=Lib.hid (H3.out.below hb4);clear hb4)
      | (have _:=H2;go_at_call 56;(with_reducible refine(K2.out _ H2.out.bw).mono ?_);rintro e w3 ⟨rfl,hb3⟩;have H3:=Lib.hid (H2.out.below hb3);have x3:=H3.out.ce 1 3 rfl rfl;have y3:=H3.out.ce 0 3 rfl rfl;simp only[World.size_alloc] at x3 y3;clear hb3)
      | (have _:=H1;go_at_call 56;(with_reducible refine(K1.out _ H1.out.bw).mono ?_);rintro e w2 ⟨rfl,hb2⟩;have H2:=Lib.hid (H1.out.below hb2);have x2:=H2.out.ce 1 2 rfl rfl;have y2:=H2.out.ce 0 2 rfl rfl;simp only[World.size_alloc] at x2 y2;clear hb2)
      | (go_at_call 55;(with_reducible refine(K0.out _ H0.out.bw).mono ?_);rintro e w1 ⟨rfl,hb1⟩;have H1:=Lib.hid (H0.out.below hb1);have x1:=H1.out.ce 1 1 rfl rfl;have y1:=H1.out.ce 0 1 rfl rfl;simp only[World.size_alloc] at x1 y1;clear hb1)
      | fail)
    go_ret
    exact⟨rfl,H4.out.bw⟩
def aI_ (c:Int) (n:Nat):Nat:=(if c<0 then (-(c+1)).toNat else c.toNat)%n
theorem aV_ (c:Int) {n:Nat} (h:0<n):aI_ c n<n:=Nat.mod_lt _ h
theorem hY_ {x:Int} (k:Nat) (h:0≤x):x.tmod (k:Int)=((x.toNat%k:Nat):Int):=by
 rw[Int.tmod_eq_emod_of_nonneg h,Int.natCast_emod,Int.toNat_of_nonneg h]
theorem lQ_ (c:Int) (k:Nat) (h0 : -9223372036854775808≤c) (h1:c≤9223372036854775807) (hk:0<k) (hk2:k≤4294967296) (w:World) :
  Calls Tryz.prog 15 #[.int .i64 c,.int .i64 (k:Int)] w fun e w'=>e=.returned (.int .i64 (aI_ c k:Nat))∧Below w.heap.size w w':=by
 unfold aI_
 have hk0:¬(k:Int)=0:=by omega
 by_cases hc:c<0
 ·rw[if_pos hc,←hY_ k (x:=-(c+1)) (by omega)]
  go_enter Tryz.func15,Tryz.ntmps15
  go_wp2
  go_ret
  exact⟨cV_ (by rw[Int.neg_tmod]),Below.refl _ _⟩
 ·rw[if_neg hc,←hY_ k (x:=c) (by omega)]
  go_enter Tryz.func15,Tryz.ntmps15
  go_wp2
  go_ret
  exact⟨cV_ (Int.tmod_eq_emod_of_nonneg (by omega)).symm,Below.refl _ _⟩
theorem hZ_ (c:Int) (k:Nat) (h0 : -9223372036854775808≤c) (h1:c≤9223372036854775807) (hk:0<k) (hk2:k≤4294967296) (w:World) :
  Calls Tryz.prog 32 #[.int .i64 c,.int .i64 (k:Int)] w fun e w'=>e=.returned (.int .i64 (aI_ c k:Nat))∧Below w.heap.size w w':=by
 unfold aI_
 have hk0:¬(k:Int)=0:=by omega
 by_cases hc:c<0
 ·rw[if_pos hc,←hY_ k (x:=-(c+1)) (by omega)]
  go_enter Tryz.func32,Tryz.ntmps32
  go_wp2
  go_ret
  exact⟨cV_ (by rw[Int.neg_tmod]),Below.refl _ _⟩
 ·rw[if_neg hc,←hY_ k (x:=c) (by omega)]
  go_enter Tryz.func32,Tryz.ntmps32
  go_wp2
  go_ret
  exact⟨cV_ (Int.tmod_eq_emod_of_nonneg (by omega)).symm,Below.refl _ _⟩
theorem aCF {a b:Option Addr} {n m c d:Nat} {us vs:List Int} (hn:us.length=n) (hm:vs.length=m) (hn6:n≤1000000) (w:World) (hS:CsAt a (icC us) w) (hV:CsAt b (icC vs) w) :
  Calls Tryz.prog 20 #[.slice a n c,.slice b m d] w fun e W'=>e=.returned (.bool (decide (us=vs)))∧Below w.heap.size w W':=by
 by_cases hnm:n=m
 case neg=>
  have t1:((n:Int)==(m:Int))=false:=beq_eq_false_iff_ne.2 (by omega)
  have HF:=Lib.hid (show decide (us=vs)=false from decide_eq_false (fun e=>hnm (by rw[←hn,←hm,e])))
  clear hS hV hn hm
  go_enter Tryz.func20,Tryz.ntmps20
  go_wp2
  go_ret
  exact⟨by rw[HF.out];rfl,Below.refl _ _⟩
 case pos=>
 subst hnm
 have HN:=Lib.hid (And.intro hn hm)
 have HU:=Lib.hid hS
 have HV:=Lib.hid hV
 have H0:=Lib.hid (AzAt.start w)
 clear hn hm hS hV
 go_enter Tryz.func20,Tryz.ntmps20
 go_wp2
 go_loopw [5] (fun v5 wr=>∃k:Nat,k≤n∧v5=.int .i64 (k:Int)∧Hid (us.take k=vs.take k)∧AzAt [] w wr) (fun v5 _=>n-(intOf v5).toNat)
 case atStart=>exact⟨0,Nat.zero_le _,rfl,Lib.hid rfl,H0.out⟩
 case round=>
  obtain⟨k,hk,rfl,HE,ho⟩:=hrel
  have H1:=Lib.hid ho
  clear ho H0
  by_cases hkn:k<n
  case neg=>
   obtain rfl:k=n:=by omega
   have t9:decide ((k:Int)<(k:Int))=false:=decide_eq_false (by omega)
   have HT:=Lib.hid (show decide (us=vs)=true from decide_eq_true (by have:=HE.out;rwa[List.take_of_length_le (Nat.le_of_eq HN.out.1),List.take_of_length_le (Nat.le_of_eq HN.out.2)] at this))
   go_wp2
   go_ret
   exact⟨by rw[HT.out];rfl,H1.out.bw⟩
  case pos=>
   have t9:decide ((k:Int)<(n:Int))=true:=decide_eq_true (by omega)
   have g1:(k:Int)<(n:Int):=by omega
   obtain⟨p,hp⟩:∃p,us[k]?=some p:=⟨_,List.getElem?_eq_getElem (by rw[HN.out.1];exact hkn)⟩
   obtain⟨q,hq⟩:∃q,vs[k]?=some q:=⟨_,List.getElem?_eq_getElem (by rw[HN.out.2];exact hkn)⟩
   have HTS:=Lib.hid (cN_ hp hq HE.out)
   obtain⟨b1,o1,rfl,hb1,y0⟩:=(HU.out.below H1.out.bw).row k (.int .i64 p) (by unfold icC;rw[List.getElem?_map,hp];rfl)
   obtain⟨b2,o2,rfl,hb2,z0⟩:=(HV.out.below H1.out.bw).row k (.int .i64 q) (by unfold icC;rw[List.getElem?_map,hq];rfl)
   obtain⟨qe,hqe⟩:∃z,z=(p==q):=⟨_,rfl⟩
   have eqs:=hqe.symm
   have HQE:=Lib.hid (show qe=decide (p=q) from by rw[hqe,Bool.eq_iff_iff,beq_iff_eq,decide_eq_true_eq])
   clear hqe hp hq
   cases qe with
   | false=>
    have HF:=Lib.hid (show decide (us=vs)=false from decide_eq_false (fun e=>by
     have h1:=of_decide_eq_false HQE.out.symm
     exact h1 (HTS.out.1 (by rw[e]))))
    go_wp2
    go_region
    go_wp2
    go_ret
    exact⟨by rw[HF.out];rfl,H1.out.drew.bw⟩
   | true=>
    have HT:=Lib.hid (HTS.out.2 (of_decide_eq_true HQE.out.symm))
    go_wp2
    go_region
    go_wp2
    exact⟨⟨k+1,by omega,by go_num,HT,H1.out.drew⟩,by simp only[intOf];omega⟩
theorem zG_ {a0 a1 a2 a3 b0 b1 b2 b3:Option Addr} {c0 c1 c2 c3 d0 d1 d2 d3 n0 n1 n2 n3 m0 m1 m2 m3:Nat} (x y:SD) (hn:x.shapes.length=n0∧x.inside.length=n1∧x.member.length=n2∧x.leads.length=n3) (hm:y.shapes.length=m0∧y.inside.length=m1∧y.member.length=m2∧y.leads.length=m3) (hx:n0≤1000000∧n1≤1000000∧n2≤1000000∧n3≤1000000) (w:World) (hX:SdAt a0 a1 a2 a3 x w) (hY:SdAt b0 b1 b2 b3 y w) :
  Calls Tryz.prog 26 #[.agg #[.slice a0 n0 c0,.slice a1 n1 c1,.slice a2 n2 c2,.slice a3 n3 c3],.agg #[.slice b0 m0 d0,.slice b1 m1 d1,.slice b2 m2 d2,.slice b3 m3 d3]] w fun e W'=>e=.returned (.bool (decide (x=y)))∧Below w.heap.size w W':=by
 have hw0:=((AzAt.start w).push [.slice a0 n0 c0,.slice a1 n1 c1,.slice a2 n2 c2,.slice a3 n3 c3] 62).push [.slice b0 m0 d0,.slice b1 m1 d1,.slice b2 m2 d2,.slice b3 m3 d3] 62
 simp only[World.size_alloc] at hw0
 have H0:=Lib.hid hw0
 have x0:=hw0.ce 1 0 rfl rfl
 have y0:=hw0.ce 0 0 rfl rfl
 have x1:=hw0.ce 1 1 rfl rfl
 have y1:=hw0.ce 0 1 rfl rfl
 have x2:=hw0.ce 1 2 rfl rfl
 have y2:=hw0.ce 0 2 rfl rfl
 have x3:=hw0.ce 1 3 rfl rfl
 have y3:=hw0.ce 0 3 rfl rfl
 have HX:=Lib.hid hX
 have HY:=Lib.hid hY
 by_cases h0:n0=m0
 case neg=>
  have t1:((n0:Int)==(m0:Int))=false:=beq_eq_false_iff_ne.2 (by omega)
  have HF:=Lib.hid (show decide (x=y)=false from decide_eq_false (fun e=>h0 (by rw[←hn.1,←hm.1,e])))
  clear hX hY hn hm hw0
  go_enter Tryz.func26,Tryz.ntmps26
  go_wp2
  go_ret
  exact⟨by rw[HF.out];rfl,H0.out.bw⟩
 case pos=>
 subst h0
 by_cases h1:n1=m1
 case neg=>
  have t1:((n1:Int)==(m1:Int))=false:=beq_eq_false_iff_ne.2 (by omega)
  have HF:=Lib.hid (show decide (x=y)=false from decide_eq_false (fun e=>h1 (by rw[←hn.2.1,←hm.2.1,e])))
  clear hX hY hn hm hw0
  go_enter Tryz.func26,Tryz.ntmps26
  go_wp2
  go_ret
  exact⟨by rw[HF.out];rfl,H0.out.bw⟩
 case pos=>
 subst h1
 by_cases h2:n2=m2
 case neg=>
  have t1:((n2:Int)==(m2:Int))=false:=beq_eq_false_iff_ne.2 (by omega)
  have HF:=Lib.hid (show decide (x=y)=false from decide_eq_false (fun e=>h2 (by rw[←hn.2.2.1,←hm.2.2.1,e])))
  clear hX hY hn hm hw0
  go_enter Tryz.func26,Tryz.ntmps26
  go_wp2
  go_ret
  exact⟨by rw[HF.out];rfl,H0.out.bw⟩
 case pos=>
 subst h2
 by_cases h3:n3=m3
 case neg=>
  have t1:((n3:Int)==(m3:Int))=false:=beq_eq_false_iff_ne.2 (by omega)
  have HF:=Lib.hid (show decide (x=y)=false from decide_eq_false (fun e=>h3 (by rw[←hn.2.2.2,←hm.2.2.2,e])))
  clear hX hY hn hm hw0
  go_enter Tryz.func26,Tryz.ntmps26
  go_wp2
  go_ret
  exact⟨by rw[HF.out];rfl,H0.out.bw⟩
 case pos=>
 subst h3
 have HN:=Lib.hid hn
 have HM:=Lib.hid hm
 clear hX hY hn hm hw0
 go_enter Tryz.func26,Tryz.ntmps26
 go_wp2
 go_loopw [5] (fun v5 wr=>∃k:Nat,k≤n0∧v5=.int .i64 (k:Int)∧Hid (x.shapes.take k=y.shapes.take k)∧AzAt [(w.heap.size+1,[.slice b0 n0 d0,.slice b1 n1 d1,.slice b2 n2 d2,.slice b3 n3 d3]),(w.heap.size,[.slice a0 n0 c0,.slice a1 n1 c1,.slice a2 n2 c2,.slice a3 n3 c3])] w wr) (fun v5 _=>n0-(intOf v5).toNat)
 case atStart=>exact⟨0,Nat.zero_le _,rfl,Lib.hid rfl,H0.out⟩
 case round=>
  obtain⟨k,hk,rfl,HE,ho⟩:=hrel
  have H1:=Lib.hid ho
  clear ho
  have x0:=H1.out.ce 1 0 rfl rfl
  have y0:=H1.out.ce 0 0 rfl rfl
  have x1:=H1.out.ce 1 1 rfl rfl
  by_cases hkn:k<n0
  case neg=>
   obtain rfl:n0=k:=by omega
   have t9:decide ((n0:Int)<(n0:Int))=false:=decide_eq_false (by omega)
   have HT0:=Lib.hid (show x.shapes=y.shapes from by have:=HE.out;rwa[List.take_of_length_le (Nat.le_of_eq HN.out.1),List.take_of_length_le (Nat.le_of_eq HM.out.1)] at this)
   clear HE hk hkn
   go_wp2
   go_loopw [6] (fun v6 wr=>∃k:Nat,k≤n1∧v6=.int .i64 (k:Int)∧Hid (x.inside.take k=y.inside.take k)∧AzAt [(w.heap.size+1,[.slice b0 n0 d0,.slice b1 n1 d1,.slice b2 n2 d2,.slice b3 n3 d3]),(w.heap.size,[.slice a0 n0 c0,.slice a1 n1 c1,.slice a2 n2 c2,.slice a3 n3 c3])] w wr) (fun v6 _=>n1-(intOf v6).toNat)
   case atStart=>exact⟨0,Nat.zero_le _,rfl,Lib.hid rfl,H1.out⟩
   case round=>
    obtain⟨k,hk,rfl,HE,ho⟩:=hrel
    have H2:=Lib.hid ho
    clear ho
    have x0:=H2.out.ce 1 1 rfl rfl
    have y0:=H2.out.ce 0 1 rfl rfl
    have x1:=H2.out.ce 1 2 rfl rfl
    by_cases hkn:k<n1
    case neg=>
     obtain rfl:n1=k:=by omega
     have t9:decide ((n1:Int)<(n1:Int))=false:=decide_eq_false (by omega)
     have HT1:=Lib.hid (show x.inside=y.inside from by have:=HE.out;rwa[List.take_of_length_le (Nat.le_of_eq HN.out.2.1),List.take_of_length_le (Nat.le_of_eq HM.out.2.1)] at this)
     clear HE hk hkn
     go_wp2
     go_loopw [7] (fun v7 wr=>∃k:Nat,k≤n2∧v7=.int .i64 (k:Int)∧Hid (x.member.take k=y.member.take k)∧AzAt [(w.heap.size+1,[.slice b0 n0 d0,.slice b1 n1 d1,.slice b2 n2 d2,.slice b3 n3 d3]),(w.heap.size,[.slice a0 n0 c0,.slice a1 n1 c1,.slice a2 n2 c2,.slice a3 n3 c3])] w wr) (fun v7 _=>n2-(intOf v7).toNat)
     case atStart=>exact⟨0,Nat.zero_le _,rfl,Lib.hid rfl,H2.out⟩
     case round=>
      obtain⟨k,hk,rfl,HE,ho⟩:=hrel
      have H3:=Lib.hid ho
      clear ho
      have x0:=H3.out.ce 1 2 rfl rfl
      have y0:=H3.out.ce 0 2 rfl rfl
      have x1:=H3.out.ce 1 3 rfl rfl
      by_cases hkn:k<n2
      case neg=>
       obtain rfl:n2=k:=by omega
       have t9:decide ((n2:Int)<(n2:Int))=false:=decide_eq_false (by omega)
       have HT2:=Lib.hid (show x.member=y.member from by have:=HE.out;rwa[List.take_of_length_le (Nat.le_of_eq HN.out.2.2.1),List.take_of_length_le (Nat.le_of_eq HM.out.2.2.1)] at this)
       clear HE hk hkn
       go_wp2
       go_loopw [8] (fun v8 wr=>∃k:Nat,k≤n3∧v8=.int .i64 (k:Int)∧Hid (x.leads.take k=y.leads.take k)∧AzAt [(w.heap.size+1,[.slice b0 n0 d0,.slice b1 n1 d1,.slice b2 n2 d2,.slice b3 n3 d3]),(w.heap.size,[.slice a0 n0 c0,.slice a1 n1 c1,.slice a2 n2 c2,.slice a3 n3 c3])] w wr) (fun v8 _=>n3-(intOf v8).toNat)
       case atStart=>exact⟨0,Nat.zero_le _,rfl,Lib.hid rfl,H3.out⟩
       case round=>
        obtain⟨k,hk,rfl,HE,ho⟩:=hrel
        have H4:=Lib.hid ho
        clear ho
        have x0:=H4.out.ce 1 3 rfl rfl
        have y0:=H4.out.ce 0 3 rfl rfl
        by_cases hkn:k<n3
        case neg=>
         obtain rfl:n3=k:=by omega
         have t9:decide ((n3:Int)<(n3:Int))=false:=decide_eq_false (by omega)
         have HT3:=Lib.hid (show x.leads=y.leads from by have:=HE.out;rwa[List.take_of_length_le (Nat.le_of_eq HN.out.2.2.2),List.take_of_length_le (Nat.le_of_eq HM.out.2.2.2)] at this)
         clear HE hk hkn
         go_wp2
         go_ret
         exact⟨by rw[show decide (x=y)=true from decide_eq_true (by cases x;cases y;simp only[SD.mk.injEq];exact⟨HT0.out,HT1.out,HT2.out,HT3.out⟩)];rfl,H4.out.bw⟩
        case pos=>
         have t9:decide ((k:Int)<(n3:Int))=true:=decide_eq_true (by omega)
         have g1:(k:Int)<(n3:Int):=by omega
         obtain⟨p,hp⟩:∃p,x.leads[k]?=some p:=⟨_,List.getElem?_eq_getElem (by rw[HN.out.2.2.2];exact hkn)⟩
         obtain⟨q,hq⟩:∃q,y.leads[k]?=some q:=⟨_,List.getElem?_eq_getElem (by rw[HM.out.2.2.2];exact hkn)⟩
         have HTS:=Lib.hid (cN_ hp hq HE.out)
         obtain⟨b9,o9,rfl,hb9,p0,p1,p2⟩:=(HX.out.l.below H4.out.bw).row k _ hp
         obtain⟨b8,o8,rfl,hb8,q0,q1,q2⟩:=(HY.out.l.below H4.out.bw).row k _ hq
         obtain⟨qe,hqe⟩:∃z,z=decide (p=q):=⟨_,rfl⟩
         have eqs:∀W,(Op.equalIn 10000 59 (.agg #[.int .i64 p.1,.int .i64 p.2.1,.int .i64 p.2.2]) (.agg #[.int .i64 q.1,.int .i64 q.2.1,.int .i64 q.2.2])).run Tryz.prog W=Result.ok qe W:=fun W=>by
          rw[hqe]
          exact(qZ_ p.1 p.2.1 p.2.2 q.1 q.2.1 q.2.2 W).trans (by congr 1;obtain⟨p0,p1,p2⟩:=p;obtain⟨q0,q1,q2⟩:=q;simp[Prod.mk.injEq,Bool.and_assoc])
         have HQE:=Lib.hid (show qe=decide (p=q) from by rw[hqe])
         clear hqe hp hq
         cases qe with
         | false=>
          have HF:=Lib.hid (show decide (x=y)=false from decide_eq_false (fun e=>by
           have h1:=of_decide_eq_false HQE.out.symm
           exact h1 (HTS.out.1 (by rw[e]))))
          go_wp2
          go_region
          go_wp2
          go_ret
          exact⟨by rw[HF.out];rfl,H4.out.drew.bw⟩
         | true=>
          have HT:=Lib.hid (HTS.out.2 (of_decide_eq_true HQE.out.symm))
          go_wp2
          go_region
          go_wp2
          exact⟨⟨k+1,by omega,by go_num,HT,H4.out.drew⟩,by simp only[intOf];omega⟩
      case pos=>
       have t9:decide ((k:Int)<(n2:Int))=true:=decide_eq_true (by omega)
       have g1:(k:Int)<(n2:Int):=by omega
       obtain⟨p,hp⟩:∃p,x.member[k]?=some p:=⟨_,List.getElem?_eq_getElem (by rw[HN.out.2.2.1];exact hkn)⟩
       obtain⟨q,hq⟩:∃q,y.member[k]?=some q:=⟨_,List.getElem?_eq_getElem (by rw[HM.out.2.2.1];exact hkn)⟩
       have HTS:=Lib.hid (cN_ hp hq HE.out)
       obtain⟨b9,o9,rfl,hb9,p0,p1⟩:=(HX.out.m.below H3.out.bw).row k _ hp
       obtain⟨b8,o8,rfl,hb8,q0,q1⟩:=(HY.out.m.below H3.out.bw).row k _ hq
       obtain⟨qe,hqe⟩:∃z,z=decide (p=q):=⟨_,rfl⟩
       have eqs:∀W,(Op.equalIn 10000 58 (.agg #[.int .i64 p.1,.int .i64 p.2]) (.agg #[.int .i64 q.1,.int .i64 q.2])).run Tryz.prog W=Result.ok qe W:=fun W=>by
        rw[hqe]
        exact(xH_ p.1 p.2 q.1 q.2 W).trans (by congr 1;obtain⟨p0,p1⟩:=p;obtain⟨q0,q1⟩:=q;simp[Prod.mk.injEq])
       have HQE:=Lib.hid (show qe=decide (p=q) from by rw[hqe])
       clear hqe hp hq
       cases qe with
       | false=>
        have HF:=Lib.hid (show decide (x=y)=false from decide_eq_false (fun e=>by
         have h1:=of_decide_eq_false HQE.out.symm
         exact h1 (HTS.out.1 (by rw[e]))))
        go_wp2
        go_region
        go_wp2
        go_ret
        exact⟨by rw[HF.out];rfl,H3.out.drew.bw⟩
       | true=>
        have HT:=Lib.hid (HTS.out.2 (of_decide_eq_true HQE.out.symm))
        go_wp2
        go_region
        go_wp2
        exact⟨⟨k+1,by omega,by go_num,HT,H3.out.drew⟩,by simp only[intOf];omega⟩
    case pos=>
     have t9:decide ((k:Int)<(n1:Int))=true:=decide_eq_true (by omega)
     have g1:(k:Int)<(n1:Int):=by omega
     obtain⟨p,hp⟩:∃p,x.inside[k]?=some p:=⟨_,List.getElem?_eq_getElem (by rw[HN.out.2.1];exact hkn)⟩
     obtain⟨q,hq⟩:∃q,y.inside[k]?=some q:=⟨_,List.getElem?_eq_getElem (by rw[HM.out.2.1];exact hkn)⟩
     have HTS:=Lib.hid (cN_ hp hq HE.out)
     obtain⟨b9,o9,rfl,hb9,p0,p1⟩:=(HX.out.i.below H2.out.bw).row k _ hp
     obtain⟨b8,o8,rfl,hb8,q0,q1⟩:=(HY.out.i.below H2.out.bw).row k _ hq
     obtain⟨qe,hqe⟩:∃z,z=decide (p=q):=⟨_,rfl⟩
     have eqs:∀W,(Op.equalIn 10000 58 (.agg #[.int .i64 p.1,.int .i64 p.2]) (.agg #[.int .i64 q.1,.int .i64 q.2])).run Tryz.prog W=Result.ok qe W:=fun W=>by
      rw[hqe]
      exact(xH_ p.1 p.2 q.1 q.2 W).trans (by congr 1;obtain⟨p0,p1⟩:=p;obtain⟨q0,q1⟩:=q;simp[Prod.mk.injEq])
     have HQE:=Lib.hid (show qe=decide (p=q) from by rw[hqe])
     clear hqe hp hq
     cases qe with
     | false=>
      have HF:=Lib.hid (show decide (x=y)=false from decide_eq_false (fun e=>by
       have h1:=of_decide_eq_false HQE.out.symm
       exact h1 (HTS.out.1 (by rw[e]))))
      go_wp2
      go_region
      go_wp2
      go_ret
      exact⟨by rw[HF.out];rfl,H2.out.drew.bw⟩
     | true=>
      have HT:=Lib.hid (HTS.out.2 (of_decide_eq_true HQE.out.symm))
      go_wp2
      go_region
      go_wp2
      exact⟨⟨k+1,by omega,by go_num,HT,H2.out.drew⟩,by simp only[intOf];omega⟩
  case pos=>
   have t9:decide ((k:Int)<(n0:Int))=true:=decide_eq_true (by omega)
   have g1:(k:Int)<(n0:Int):=by omega
   obtain⟨p,hp⟩:∃p,x.shapes[k]?=some p:=⟨_,List.getElem?_eq_getElem (by rw[HN.out.1];exact hkn)⟩
   obtain⟨q,hq⟩:∃q,y.shapes[k]?=some q:=⟨_,List.getElem?_eq_getElem (by rw[HM.out.1];exact hkn)⟩
   have HTS:=Lib.hid (cN_ hp hq HE.out)
   obtain⟨b9,o9,rfl,hb9,p0,p1,p2,p3,p4,p5,p6,p7,p8,p9,p10⟩:=(HX.out.s.below H1.out.bw).sh hp
   obtain⟨b8,o8,rfl,hb8,q0,q1,q2,q3,q4,q5,q6,q7,q8,q9,q10⟩:=(HY.out.s.below H1.out.bw).sh hq
   obtain⟨qe,hqe⟩:∃z,z=decide (p=q):=⟨_,rfl⟩
   have eqs:∀W,(Op.equalIn 10000 30 (.agg #[.int .i64 p.code,.int .i64 p.kind,.int .i64 p.rect.x,.int .i64 p.rect.y,.int .i64 p.rect.w,.int .i64 p.rect.h,.int .i64 p.a.x,.int .i64 p.a.y,.int .i64 p.b.x,.int .i64 p.b.y,.string p.word]) (.agg #[.int .i64 q.code,.int .i64 q.kind,.int .i64 q.rect.x,.int .i64 q.rect.y,.int .i64 q.rect.w,.int .i64 q.rect.h,.int .i64 q.a.x,.int .i64 q.a.y,.int .i64 q.b.x,.int .i64 q.b.y,.string q.word])).run Tryz.prog W=Result.ok qe W:=fun W=>by
    rw[hqe]
    exact aEJ p q W
   have HQE:=Lib.hid (show qe=decide (p=q) from by rw[hqe])
   clear hqe hp hq
   cases qe with
   | false=>
    have HF:=Lib.hid (show decide (x=y)=false from decide_eq_false (fun e=>by
     have h1:=of_decide_eq_false HQE.out.symm
     exact h1 (HTS.out.1 (by rw[e]))))
    go_wp2
    go_region
    go_wp2
    go_ret
    exact⟨by rw[HF.out];rfl,H1.out.drew.bw⟩
   | true=>
    have HT:=Lib.hid (HTS.out.2 (of_decide_eq_true HQE.out.symm))
    go_wp2
    go_region
    go_wp2
    exact⟨⟨k+1,by omega,by go_num,HT,H1.out.drew⟩,by simp only[intOf];omega⟩
theorem qM_ {a0 a1 a2 a3 b0 b1 b2 b3:Option Addr} {c0 c1 c2 c3 d0 d1 d2 d3:Nat} (x y:SD) (hx:x.shapes.length≤1000000∧x.inside.length≤1000000∧x.member.length≤1000000∧x.leads.length≤1000000) (w:World) (hX:SdAt a0 a1 a2 a3 x w) (hY:SdAt b0 b1 b2 b3 y w) :
  Calls Tryz.prog 26 #[.agg (sdS a0 c0 a1 c1 a2 c2 a3 c3 x).toArray,.agg (sdS b0 d0 b1 d1 b2 d2 b3 d3 y).toArray] w fun e W'=>e=.returned (.bool (decide (x=y)))∧Below w.heap.size w W':=
 zG_ x y ⟨rfl,rfl,rfl,rfl⟩ ⟨rfl,rfl,rfl,rfl⟩ hx w hX hY
end Go.Proofs.YtdkaohphbgdkpaaGreatDoor
namespace Go.Proofs.YtdkaohphbgdkpaaGreatDoor
open Go.RowKit Go.Shelf
attribute [local go_sem] Oper.semAt_some
def ucC (us:List ByteArray):List Value:=us.map .string
theorem qE_ {us:List ByteArray} {k:Nat} {u:ByteArray} (h:us[k]?=some u):(ucC us)[k]?=some (.string u):=by unfold ucC;rw[List.getElem?_map,h];rfl
theorem dD_ (us:List ByteArray):(ucC us).length=us.length:=by unfold ucC;simp
abbrev bsL (us:List ByteArray):List Bs:=us.map fun u=>u.data.toList
theorem aEP {us vs:List ByteArray} : bsL us=bsL vs↔us=vs:=List.map_inj_right fun a b h=>by
 obtain⟨⟨a⟩⟩:=a
 obtain⟨⟨b⟩⟩:=b
 simp only at h
 rw[h]
theorem CsAt.take {a:Option Addr} {vs:List Value} {W:World} (h:CsAt a vs W) (k:Nat):CsAt a (vs.take k) W:=⟨fun i v hv=>by
 rw[List.getElem?_take] at hv
 split at hv
 ·exact h.row i v hv
 ·cases hv⟩
theorem yQ_ (us:List ByteArray) (k:Nat):ucC (us.take k)=(ucC us).take k:=by unfold ucC;rw[List.map_take]
theorem yR_ (us:List ByteArray) (k:Nat):ucC (us.drop k)=(ucC us).drop k:=by unfold ucC;rw[List.map_drop]
theorem qD_ {us:List ByteArray} {b o:Nat} {W:World} (h:CsAt (some ⟨b,o,none⟩) (ucC us) W):∀j,j<us.length→W.cell? ⟨b,o+j,none⟩=some (.string (us.getD j ByteArray.empty)):=fun j hj=>by
 obtain⟨b',o',e,_,h2⟩:=h.row j _ (qE_ (List.getElem?_eq_getElem hj))
 injection e with e
 injection e with e1 e2
 subst e1 e2
 rw[h2,List.getD_eq_getElem?_getD,List.getElem?_eq_getElem hj]
 rfl
theorem eqS_s {a b:Option Addr} {n m c d:Nat} {us vs:List ByteArray} (hn:us.length=n) (hm:vs.length=m) (hn6:n≤1000000) (hm6:m≤1000000) (w:World) (hS:CsAt a (ucC us) w) (hV:CsAt b (ucC vs) w) :
  Calls Tryz.prog 84 #[.slice a n c,.slice b m d] w fun e W'=>e=.returned (.bool (decide (us=vs)))∧Below w.heap.size w W':=by
 by_cases hnm:n=m
 ·subst hnm
  rcases Nat.eq_zero_or_pos n with h0|h0
  ·subst h0
   refine(Tryz.slices_Equal_string_empty a b c 0 d w (by omega)).mono ?_
   rintro e W' ⟨rfl,rfl⟩
   obtain rfl:=List.length_eq_zero_iff.1 hn
   obtain rfl:=List.length_eq_zero_iff.1 hm
   exact⟨rfl,Below.refl _ _⟩
  ·obtain⟨b1,o1,rfl,_⟩:=hS.some (by rw[dD_];omega)
   obtain⟨b2,o2,rfl,_⟩:=hV.some (by rw[dD_];omega)
   refine(Tryz.slices_Equal_string b1 o1 n c b2 o2 n d us vs w (by omega) (by omega) (by omega) (by omega) (qD_ hS) (qD_ hV)).mono ?_
   rintro e W' ⟨rfl,q,rfl⟩
   rw[List.take_of_length_le (by omega),List.take_of_length_le (by omega)]
   exact⟨rfl,⟨rfl,rfl,rfl,Nat.le_refl _,fun _ _=>rfl⟩⟩
 ·refine(Tryz.slices_Equal_string_lens a b n c m d w hnm).mono ?_
  rintro e W' ⟨rfl,rfl⟩
  exact⟨by rw[decide_eq_false (fun h=>hnm (by rw[←hn,←hm,h]))],Below.refl _ _⟩
def takN (want ws:List Bs):Option Int:=if want.length<ws.length∧ws.take want.length=want then numK (ws.getD want.length []) else none
theorem aCX {us vs:List ByteArray} {k:Nat} {u:ByteArray} (hk:vs.length=k) (hu:us[k]?=some u):takN (bsL vs) (bsL us)=if decide (us.take k=vs)=true then numK u.data.toList else none:=by
 have hlt:k<us.length:=(List.getElem?_eq_some_iff.1 hu).1
 have e1:(bsL us).getD (bsL vs).length []=u.data.toList:=by
  rw[List.getD_eq_getElem?_getD,List.length_map,hk,List.getElem?_map,hu]
  rfl
 have e2:(bsL us).take (bsL vs).length=bsL (us.take k):=by rw[List.length_map,hk];exact List.map_take.symm
 unfold takN
 rw[e1]
 by_cases h:us.take k=vs
 ·rw[if_pos ⟨by simp only[List.length_map];omega,by rw[e2,h]⟩,if_pos (decide_eq_true h)]
 ·rw[if_neg (fun h'=>h (aEP.1 (e2.symm.trans h'.2))),if_neg (by simp[h])]
def advA (a:Option Addr) (j cap:Nat):Option Addr:=if cap=j then a else match a with|some ⟨b,o,z⟩=>some ⟨b,o+j,z⟩|none=>none
def TakeP (o:Option Int) (B:Nat) (u:Value) (w:World) (e:Ending) (W':World):Prop:=∃v W1,e=.returned (.tuple #[.int .i64 v,.bool o.isSome])∧(∀n,o=some n→n=v)∧Below w.heap.size w W1∧
 ((o=none∧W'=W1)∨(o.isSome=true∧W'=W1.setCell ⟨B,0,none⟩ u))
theorem take_s {a b:Option Addr} {n cap k c B:Nat} {us vs:List ByteArray} (hn:us.length=n) (hk:vs.length=k) (hnc:n≤cap) (hc6:cap≤1000000) (hk6:k≤1000000) (hu:∀u∈us,u.size≤1000000) (w:World)
  (hx:w.cell? ⟨B,0,none⟩=some (.slice a n cap)) (hB:B<w.heap.size) (hf:w.frozen? ⟨B,0,none⟩=false) (hS:CsAt a (ucC us) w) (hV:CsAt b (ucC vs) w) (hG:GlobE w) (hT:Glob w) :
  Calls Tryz.prog 83 #[.slice b k c,.pointer (some ⟨B,0,none⟩)] w fun e W'=>TakeP (takN (bsL vs) (bsL us)) B (.slice (advA a (k+1) cap) (n-(k+1)) (cap-(k+1))) w e W':=by
 have HS:=Lib.hid hS
 by_cases hlt:k<n
 case neg=>
  have et:takN (bsL vs) (bsL us)=none:=by
   unfold takN
   rw[if_neg (by intro h;have:=h.1;simp at this;omega)]
  rw[et]
  have t1:decide ((n:Int)≤(k:Int))=true:=decide_eq_true (by omega)
  clear hS hV et
  go_enter Tryz.func83,Tryz.ntmps83
  go_wp2
  go_ret2
  exact⟨_,_,rfl,fun n h=>(nomatch h),Below.refl _ _,.inl ⟨rfl,rfl⟩⟩
 case pos=>
  have t1:decide ((n:Int)≤(k:Int))=false:=decide_eq_false (by omega)
  have KE:=Lib.hid (fun(W:World) (hb:Below w.heap.size w W)=>eqS_s (n:=k) (c:=cap) (d:=c) (a:=a) (b:=b) (us:=us.take k) (vs:=vs) (by rw[List.length_take];omega) hk (by omega) hk6 W (by rw[yQ_];exact(hS.below hb).take k) (hV.below hb))
  obtain⟨q,hq⟩:∃q,q=decide (us.take k=vs):=⟨_,rfl⟩
  rw[←hq] at KE
  obtain⟨u,hu'⟩:∃u,us[k]?=some u:=⟨_,List.getElem?_eq_getElem (by omega)⟩
  have hus:u.size≤1000000:=hu u (List.mem_of_getElem? hu')
  have KN:=Lib.hid (fun(W:World) (hb:Below w.heap.size w W)=>zV_ u hus W (hG.below hb) (hT.below hb))
  have et:=aCX hk hu'
  rw[←hq] at et
  have g1:(k:Int)≤(cap:Int):=by omega
  have g2:(k:Int)<(n:Int):=by omega
  obtain⟨bb,oo,rfl,hbb,y0⟩:=hS.row k _ (qE_ hu')
  have HB:=Lib.hid (And.intro hbb hB)
  clear hS hV hq hu' hu
  cases q with
  | false=>
   rw[et]
   clear et
   go_enter Tryz.func83,Tryz.ntmps83
   go_wp2_with (first
    | (go_at_call 84;(with_reducible refine(KE.out _ (Below.refl _ _)).mono ?_);rintro e w1 ⟨rfl,hb1⟩;have H1:=Lib.hid hb1))
   go_ret2
   exact⟨_,_,rfl,fun n h=>(nomatch h),H1.out,.inl ⟨rfl,rfl⟩⟩
  | true=>
   rw[et,if_pos rfl]
   clear et
   cases hnk:numK u.data.toList with
   | none=>
    rw[hnk] at KN
    go_enter Tryz.func83,Tryz.ntmps83
    go_wp2_with (first
     | (go_at_call 84;(with_reducible refine(KE.out _ (Below.refl _ _)).mono ?_);rintro e w1 ⟨rfl,hb1⟩;have H1:=Lib.hid hb1;have x1:=(hb1.cell (p:=⟨B,0,none⟩) HB.out.2).trans hx;have y1:=(hb1.cell (p:=⟨bb,oo+k,none⟩) HB.out.1).trans y0)
     | (go_at_call 85;(with_reducible refine(KN.out _ H1.out).mono ?_);rintro e w2 ⟨⟨v,rfl,hv⟩,hb2⟩;have H2:=Lib.hid (aT_ H1.out hb2)))
    go_ret2
    exact⟨_,_,rfl,fun n h=>(nomatch h),H2.out,.inl ⟨rfl,rfl⟩⟩
   | some z=>
    rw[hnk] at KN
    by_cases hcp:cap=k+1
    ·subst hcp
     have HAD:=Lib.hid (show advA (some ⟨bb,oo,none⟩) (k+1) (k+1)=some ⟨bb,oo,none⟩ from if_pos rfl)
     go_enter Tryz.func83,Tryz.ntmps83
     go_wp2_with (first
      | (go_at_call 84;(with_reducible refine(KE.out _ (Below.refl _ _)).mono ?_);rintro e w1 ⟨rfl,hb1⟩;have H1:=Lib.hid hb1;have x1:=(hb1.cell (p:=⟨B,0,none⟩) HB.out.2).trans hx;have y1:=(hb1.cell (p:=⟨bb,oo+k,none⟩) HB.out.1).trans y0)
      | (go_at_call 85;(with_reducible refine(KN.out _ H1.out).mono ?_);rintro e w2 ⟨⟨v,rfl,hv⟩,hb2⟩;have H2:=Lib.hid (aT_ H1.out hb2);have x2:=(H2.out.cell (p:=⟨B,0,none⟩) HB.out.2).trans hx;have f2:=(World.frozen?_of_block (w:=w) (a:=⟨B,0,none⟩) (H2.out.block B HB.out.2)).trans hf))
     go_ret2
     exact⟨_,w2,rfl,hv,H2.out,.inr ⟨rfl,by rw[HAD.out,show n-(k+1)=0 by omega,Nat.sub_self]⟩⟩
    ·have HAD:=Lib.hid (show advA (some ⟨bb,oo,none⟩) (k+1) cap=some ⟨bb,oo+(k+1),none⟩ from if_neg hcp)
     go_enter Tryz.func83,Tryz.ntmps83
     go_wp2_with (first
      | (go_at_call 84;(with_reducible refine(KE.out _ (Below.refl _ _)).mono ?_);rintro e w1 ⟨rfl,hb1⟩;have H1:=Lib.hid hb1;have x1:=(hb1.cell (p:=⟨B,0,none⟩) HB.out.2).trans hx;have y1:=(hb1.cell (p:=⟨bb,oo+k,none⟩) HB.out.1).trans y0)
      | (go_at_call 85;(with_reducible refine(KN.out _ H1.out).mono ?_);rintro e w2 ⟨⟨v,rfl,hv⟩,hb2⟩;have H2:=Lib.hid (aT_ H1.out hb2);have x2:=(H2.out.cell (p:=⟨B,0,none⟩) HB.out.2).trans hx;have f2:=(World.frozen?_of_block (w:=w) (a:=⟨B,0,none⟩) (H2.out.block B HB.out.2)).trans hf))
     go_ret2
     exact⟨_,w2,rfl,hv,H2.out,.inr ⟨rfl,by rw[HAD.out]⟩⟩
end Go.Proofs.YtdkaohphbgdkpaaGreatDoor
namespace Go.Proofs.YtdkaohphbgdkpaaGreatDoor
open Go.RowKit Go.Shelf Go.Sort Go.Maps
attribute [local go_sem] Oper.semAt_some
abbrev baL (b:Bs):ByteArray:=⟨b.toArray⟩
theorem rI_ (b:Bs):(baL b).data.toList=b:=by simp
theorem aBO (u:ByteArray):baL u.data.toList=u:=mQ_ u
theorem aET (a b:Bs):baL a++baL b=baL (a++b):=by
 apply congrArg ByteArray.mk
 simp
theorem aEQ (l:List Bs):bsL (l.map baL)=l:=by
 unfold bsL
 rw[List.map_map]
 exact List.map_id'' (fun b=>rI_ b) l
theorem kP_ (c:UInt8):∀ws:List Bs,Lib.join ws [c]=dB_ c ws
 | []=>rfl
 | [w]=>by rw[Lib.join_one];rfl
 | w::v::ws=>by
  have ih:=kP_ c (v::ws)
  rw[Lib.join_cons] at ih⊢
  show w++Lib.joinTail [c] (v::ws)=w++c::dB_ c (v::ws)
  rw[←ih]
  simp[Lib.joinTail]
theorem oC_ (c:UInt8):∀(w:Bs) (ws:List Bs),dB_ c (w::ws)=w++ws.flatMap fun v=>c::v
 | w,[]=>by simp[dB_]
 | w,v::ws=>by
  show w++c::dB_ c (v::ws)=_
  rw[oC_ c v ws]
  simp
theorem tU_ (ws:List (List Bs)):dB_ 32 (ws.map eP_)=tW_ ws:=by
 cases ws with
 | nil=>rfl
 | cons w ws=>
  rw[List.map_cons,oC_,List.flatMap_map]
  rfl
def aAB (t:It):List Bs:=[aL_ t.kind,txt t.code]++(if t.word=[] then [] else [bZ_,t.word])++(match t.i with|none=>[]|some n=>[wIn,txt n])++(match t.m with|none=>[]|some n=>[wOf++32::bT_,txt n])
theorem sI_ (t:It):dB_ 32 (aAB t)=gT_ (fQ_ t):=by
 obtain⟨k,c,w,i,m⟩:=t
 unfold aAB fQ_ gT_
 by_cases hw:w=[] <;> cases i <;> cases m <;> simp[hw,dB_]
theorem aCD {a:Option Addr} {n c:Nat} {us:List ByteArray} (hn:us.length=n) (hl:(dB_ 32 (bsL us)).length≤1000000) (w:World) (h:CsAt a (ucC us) w) (hn6:n≤1000000) (hc:n≤c) :
  Calls Tryz.prog 52 #[.slice a n c,.string ⟨#[32]⟩] w fun e W'=>e=.returned (.string (baL (dB_ 32 (bsL us))))∧Below w.heap.size w W':=by
 subst hn
 rcases Nat.eq_zero_or_pos us.length with h0|h0
 ·obtain rfl:=List.length_eq_zero_iff.1 h0
  refine(Tryz.strings_Join_none a c ⟨#[32]⟩ w).mono ?_
  rintro e W' ⟨rfl,rfl⟩
  exact⟨rfl,Below.refl _ _⟩
 ·obtain⟨bk,o,rfl,_,h2⟩:=h.some (by rw[dD_];exact h0)
  have e:(Lib.join (us.map (·.data.toList)) (⟨#[32]⟩:ByteArray).data.toList)=dB_ 32 (bsL us):=kP_ 32 _
  refine(Tryz.strings_Join bk o c us ⟨#[32]⟩ w (fun j x hj=>h2 j _ (qE_ hj)) (by assumption) (by omega) hc (by rw[e];omega)).mono ?_
  rintro e1 W' ⟨rfl,hb⟩
  exact⟨by rw[e],hb⟩
theorem MoAt.slice {rs:List Rw} {L:List (Nat×List Value)} {w W:World} (h:MoAt rs L w W) {r:Rw} (hr:r∈rs):∃a c,r.v=.slice a r.n c∧CsAt a r.xs W∧r.n≤c:=by
 have ho:=h.os hr
 obtain⟨a,c,e,hc⟩:=CsAt.own ho
 refine⟨a,c,e,hc,?_⟩
 rcases(h.own r hr).2 with ⟨hv,hn⟩|⟨g,cap,cur,hv,_,_,hle,_⟩
 ·omega
 ·rw[e] at hv
  injection hv with _ _ hv
  omega
structure TmAt (M1 M2 n1 n2:Nat) (D1 D2:DataW Value) (f1 f2:Int→Option Int) (rs:List Rw) (L:List (Nat×List Value)) (w W:World):Prop where
 mo:MoAt rs L w W
 m1:W.ownsMap Tryz.prog 3 rawE M1 n1 D1
 m2:W.ownsMap Tryz.prog 3 rawE M2 n2 D2
 lo:w.heap.size≤M1∧w.heap.size≤M2∧M1≠M2
 ne:∀x∈L,x.1≠M1∧x.1≠M2
 a1:∀i,aC_ i→D1.atKey (.int .i64 i) (.held (.int .i64 0))=.held (.int .i64 ((f1 i).getD 0))
 h1:∀i,aC_ i→has D1 (.int .i64 i)=(f1 i).isSome
 a2:∀i,aC_ i→D2.atKey (.int .i64 i) (.held (.int .i64 0))=.held (.int .i64 ((f2 i).getD 0))
 h2:∀i,aC_ i→has D2 (.int .i64 i)=(f2 i).isSome
theorem pX_ (w:World):(zeroValue 3).run Tryz.prog w=.ok (.int .i64 0) w:=by kernel_rfl
theorem gR_ {W:World} {M n:Nat} {D:DataW Value} (h:W.ownsMap Tryz.prog 3 rawE M n D):∃es clock,W.heap[M]?=some (.map es clock):=by obtain⟨es,clock,hb,_⟩:=h;exact⟨es,clock,hb⟩
section
variable {M1 M2 n1 n2:Nat} {D1 D2:DataW Value} {f1 f2:Int→Option Int} {rs:List Rw} {L:List (Nat×List Value)} {w W W':World}
theorem TmAt.below (h:TmAt M1 M2 n1 n2 D1 D2 f1 f2 rs L w W) (hb:Below W.heap.size W W'):TmAt M1 M2 n1 n2 D1 D2 f1 f2 rs L w W':=⟨h.mo.below hb,aP_ h.m1 hb,aP_ h.m2 hb,h.lo,h.ne,h.a1,h.h1,h.a2,h.h2⟩
theorem TmAt.sub {L':List (Nat×List Value)} (h:TmAt M1 M2 n1 n2 D1 D2 f1 f2 rs L w W) (hs:∀x∈L',x∈L):TmAt M1 M2 n1 n2 D1 D2 f1 f2 rs L' w W:=⟨h.mo.sub hs,h.m1,h.m2,h.lo,fun x hx=>h.ne x (hs x hx),h.a1,h.h1,h.a2,h.h2⟩
theorem TmAt.rows {rs':List Rw} (h:TmAt M1 M2 n1 n2 D1 D2 f1 f2 rs L w W) (hm:MoAt rs' L w W):TmAt M1 M2 n1 n2 D1 D2 f1 f2 rs' L w W:=⟨hm,h.m1,h.m2,h.lo,h.ne,h.a1,h.h1,h.a2,h.h2⟩
theorem TmAt.push (h:TmAt M1 M2 n1 n2 D1 D2 f1 f2 rs L w W) (l:List Value) (t:TypeId):TmAt M1 M2 n1 n2 D1 D2 f1 f2 rs ((W.heap.size,l)::L) w (W.alloc (.cells l.toArray t)):=by
 have h':=h.below ((Below.refl W.heap.size W).alloc (Nat.le_refl _) (.cells l.toArray t))
 refine⟨h.mo.push l t,h'.m1,h'.m2,h.lo,fun x hx=>?_,h.a1,h.h1,h.a2,h.h2⟩
 rcases List.mem_cons.1 hx with rfl|hx
 ·have e1:=h.m1.lt
  have e2:=h.m2.lt
  constructor
  ·show W.heap.size≠M1;omega
  ·show W.heap.size≠M2;omega
 ·exact h.ne x hx
theorem TmAt.look1 (h:TmAt M1 M2 n1 n2 D1 D2 f1 f2 rs L w W) {j:Int} (hc:aC_ j):(Instr.lookup 103 (.map (some M1)) (.int .i64 j) true).run Tryz.prog W=.ok (.tuple #[.int .i64 ((f1 j).getD 0),.bool (f1 j).isSome]) W:=by
 obtain⟨v,ps,hrun,hv⟩:=h.m1.look_ok bG_ Tryz.underlying103 (pX_ W) (zd:=.held (.int .i64 0)) (zp:=[]) rfl (keyOf_int_mk Tryz.underlying3 (wf_i64 hc))
 rw[h.a1 j hc] at hv
 rw[h.h1 j hc] at hrun
 cases hv
 exact hrun
theorem TmAt.look2 (h:TmAt M1 M2 n1 n2 D1 D2 f1 f2 rs L w W) {j:Int} (hc:aC_ j):(Instr.lookup 103 (.map (some M2)) (.int .i64 j) true).run Tryz.prog W=.ok (.tuple #[.int .i64 ((f2 j).getD 0),.bool (f2 j).isSome]) W:=by
 obtain⟨v,ps,hrun,hv⟩:=h.m2.look_ok bG_ Tryz.underlying103 (pX_ W) (zd:=.held (.int .i64 0)) (zp:=[]) rfl (keyOf_int_mk Tryz.underlying3 (wf_i64 hc))
 rw[h.a2 j hc] at hv
 rw[h.h2 j hc] at hrun
 cases hv
 exact hrun
theorem MoAt.mapped {M:Nat} (h:MoAt rs L w W) (hM:∃es clock,W.heap[M]?=some (.map es clock)) (hlo:w.heap.size≤M) (hL:∀x∈L,x.1≠M) (hg:W.grownBy W' (some M)):MoAt rs L w W':=by
 obtain⟨es,clock,hb⟩:=hM
 refine⟨⟨h.az.bw.grown hg h.az.bw.size (fun k hk=>by cases hk;exact hlo),fun x hx=>(h.az.row x hx).of_block (hg.block x.1 (h.az.row x hx).sz (fun e=>hL x hx (Option.some.inj e))) hg.size⟩,fun r hr=>(h.own r hr).kept hg ?_,h.ap,h.ne⟩
 cases hk:r.v.ownBlock with
 | none=>exact .inl rfl
 | some g=>
  refine .inr fun e=>?_
  obtain⟨cur,fr,h2⟩:=bF_ (h.own r hr) hk
  rw[Option.some.inj e,hb] at h2
  cases h2
theorem TmAt.put1 (h:TmAt M1 M2 n1 n2 D1 D2 f1 f2 rs L w W) {k v:Int} (h2:W'.ownsMap Tryz.prog 3 rawE M1 (n1+1) (D1.put (.int .i64 k) (.held (.int .i64 v)))) (hg:W.grownBy W' (some M1)) :
  TmAt M1 M2 (n1+1) n2 (D1.put (.int .i64 k) (.held (.int .i64 v))) D2 (fun i=>if i=k then some v else f1 i) f2 rs L w W':=by
 have hD:=h.m1.isMap
 refine⟨h.mo.mapped (gR_ h.m1) h.lo.1 (fun x hx=>(h.ne x hx).1) hg,h2,h.m2.kept hg (fun e=>h.lo.2.2 (Option.some.inj e).symm),h.lo,h.ne,fun i hi=>?_,fun i hi=>?_,h.a2,h.h2⟩
 ·by_cases e1:i=k
  ·subst e1
   rw[if_pos rfl,atKey_put_same hD (by trivial)]
   rfl
  ·rw[if_neg e1,atKey_put_other (by intro e';cases e';exact e1 rfl)]
   exact h.a1 i hi
 ·by_cases e1:i=k
  ·subst e1
   rw[if_pos rfl,has_put_same hD (by trivial)]
   rfl
  ·rw[if_neg e1,has_put_other (by intro e';cases e';exact e1 rfl)]
   exact h.h1 i hi
theorem TmAt.put2 (h:TmAt M1 M2 n1 n2 D1 D2 f1 f2 rs L w W) {k v:Int} (h2:W'.ownsMap Tryz.prog 3 rawE M2 (n2+1) (D2.put (.int .i64 k) (.held (.int .i64 v)))) (hg:W.grownBy W' (some M2)) :
  TmAt M1 M2 n1 (n2+1) D1 (D2.put (.int .i64 k) (.held (.int .i64 v))) f1 (fun i=>if i=k then some v else f2 i) rs L w W':=by
 have hD:=h.m2.isMap
 refine⟨h.mo.mapped (gR_ h.m2) h.lo.2.1 (fun x hx=>(h.ne x hx).2) hg,h.m1.kept hg (fun e=>h.lo.2.2 (Option.some.inj e)),h2,h.lo,h.ne,h.a1,h.h1,fun i hi=>?_,fun i hi=>?_⟩
 ·by_cases e1:i=k
  ·subst e1
   rw[if_pos rfl,atKey_put_same hD (by trivial)]
   rfl
  ·rw[if_neg e1,atKey_put_other (by intro e';cases e';exact e1 rfl)]
   exact h.a2 i hi
 ·by_cases e1:i=k
  ·subst e1
   rw[if_pos rfl,has_put_same hD (by trivial)]
   rfl
  ·rw[if_neg e1,has_put_other (by intro e';cases e';exact e1 rfl)]
   exact h.h2 i hi
theorem TmAt.grown {r r':Rw} (h:TmAt M1 M2 n1 n2 D1 D2 f1 f2 (r::rs) L w W) (hm:MoAt (r'::rs) L w W') (hg:W.grownBy W' r.v.ownBlock):TmAt M1 M2 n1 n2 D1 D2 f1 f2 (r'::rs) L w W':=by
 have key:∀M,(∃es clock,W.heap[M]?=some (.map es clock))→some M≠r.v.ownBlock:=fun M hM e=>by
  obtain⟨es,clock,hb⟩:=hM
  obtain⟨cur,fr,h2⟩:=bF_ (h.mo.own r (by simp)) e.symm
  rw[hb] at h2
  cases h2
 exact⟨hm,h.m1.kept hg (fun e=>key M1 (gR_ h.m1) e),h.m2.kept hg (fun e=>key M2 (gR_ h.m2) e),h.lo,h.ne,h.a1,h.h1,h.a2,h.h2⟩
end
theorem jZ_ (us vs:List ByteArray):ucC (us++vs)=ucC us++ucC vs:=by unfold ucC;rw[List.map_append]
theorem jI_:(Tryz.prog.info? 9).map (fun i=>(i.zero,i.size,i.bytes))=some (some (.string ⟨#[]⟩),1,16):=by kernel_rfl
theorem TmAt.app {M1 M2 n1 n2:Nat} {D1 D2:DataW Value} {f1 f2:Int→Option Int} {rs:List Rw} {L:List (Nat×List Value)} {w W:World} {v:Value} {n:Nat} {us:List ByteArray} (h:TmAt M1 M2 n1 n2 D1 D2 f1 f2 (⟨9,1,v,n,ucC us⟩::rs) L w W)
  (B m c:Nat) (vs:List ByteArray) (hB:(B,ucC vs)∈L) (hm:vs.length=m) (hb:n+m≤100000) (ty:TypeId):∃v' W',(Builtin.append_ #[66,66] ty #[v,.slice (some ⟨B,0,none⟩) m c]).run Tryz.prog W=.ok v' W'∧TmAt M1 M2 n1 n2 D1 D2 f1 f2 (⟨9,1,v',n+m,ucC (us++vs)⟩::rs) L w W':=by
 obtain⟨v',W',hr,h2,h3,_⟩:=h.mo.app (r:=⟨9,1,v,n,ucC us⟩) (m:=m) 66 Tryz.underlying66 jI_ rfl (show 0<1 by decide) c hB (by rw[dD_,hm,Nat.mul_one]) (by intro u hu;unfold ucC at hu;obtain⟨t,_,rfl⟩:=List.mem_map.1 hu;rfl) (by simp only;omega) (by unfold maxLen;simp only;omega) ty
 rw[←jZ_] at h2
 exact⟨v',W',hr,h.grown h2 h3⟩
theorem pY_ {ops:Array Oper} {rest:List Oper} {o:Oper} {a:Act} {Q:Exit→Act→World→Prop} (hgd:o.guard=none) (s x:Operand) (ho:o.op=.call { callee:=.builtin .append,args:=#[s,x],argTypes:=#[66,66] })
  {M1 M2 n1 n2:Nat} {D1 D2:DataW Value} {f1 f2:Int→Option Int} {rs:List Rw} {L:List (Nat×List Value)} {w W:World} {v:Value} {n:Nat} {us:List ByteArray} (h:TmAt M1 M2 n1 n2 D1 D2 f1 f2 (⟨9,1,v,n,ucC us⟩::rs) L w W) (hs:a.eval s=v)
  (B m c:Nat) (vs:List ByteArray) (hx:a.eval x=.slice (some ⟨B,0,none⟩) m c) (hB:(B,ucC vs)∈L) (hm:vs.length=m) (hb:n+m≤100000)
  (hK:∀v' W',TmAt M1 M2 n1 n2 D1 D2 f1 f2 (⟨9,1,v',n+m,ucC (us++vs)⟩::rs) L w W'→wpList Tryz.prog ops Q rest (a.put o.dst v') W'):wpList Tryz.prog ops Q (o::rest) a W:=by
 refine wpList_plain hgd fun K hK'=>?_
 obtain⟨v',W',hr,h2,h3,_⟩:=h.mo.app (r:=⟨9,1,v,n,ucC us⟩) (m:=m) 66 Tryz.underlying66 jI_ rfl (show 0<1 by decide) c hB (by rw[dD_,hm,Nat.mul_one]) (by intro u hu;unfold ucC at hu;obtain⟨t,_,rfl⟩:=List.mem_map.1 hu;rfl) (by simp only;omega) (by unfold maxLen;simp only;omega) o.type
 unfold Oper.wp execOp
 simp only[ho,resolve,invoke,builtin,Sem.run_bind,Sem.run_pure,Result.andThen_ok,List.map_toArray,List.map_cons,List.map_nil,hs,hx,hr]
 rw[←jZ_] at h2
 exact hK' _ _ (hK v' W' (h.grown h2 h3))
theorem MoAt.lit {rs:List Rw} {L:List (Nat×List Value)} {w W:World} (h:MoAt rs L w W) (e:TypeId) (s n:Nat) (cs:List Value) (hl:cs.length=n*s) (hn:n≤100000):MoAt (⟨e,s,.slice (some ⟨W.heap.size,0,none⟩) n n,n,cs⟩::rs) L w (W.alloc (.cells cs.toArray e)):=by
 have h':=h.al (.cells cs.toArray e)
 refine⟨h'.az,fun r hr=>?_,List.pairwise_cons.2 ⟨fun q hq g hg hk=>?_,h'.ap⟩,fun r hr x hx=>?_⟩
 ·rcases List.mem_cons.1 hr with rfl|hr
  ·have:=World.ownsRow_lit (base:=w.heap.size) (e:=e) (size:=s) W cs.toArray n h.az.bw.size (by unfold maxLen;omega) (by simpa using hl)
   simpa using this
  ·exact h'.own r hr
 ·have h1:=(aF_ (h.own q hq) g hk).1
  have h2:W.heap.size=g:=Option.some.inj hg
  omega
 ·rcases List.mem_cons.1 hr with rfl|hr
  ·intro e1
   have h1:=(h.az.row x hx).sz
   have h2:W.heap.size=x.1:=Option.some.inj e1
   omega
  ·exact h'.ne r hr x hx
theorem TmAt.lit {M1 M2 n1 n2:Nat} {D1 D2:DataW Value} {f1 f2:Int→Option Int} {rs:List Rw} {L:List (Nat×List Value)} {w W:World} (h:TmAt M1 M2 n1 n2 D1 D2 f1 f2 rs L w W) (e:TypeId) (s n:Nat) (cs:List Value) (hl:cs.length=n*s) (hn:n≤100000):TmAt M1 M2 n1 n2 D1 D2 f1 f2 (⟨e,s,.slice (some ⟨W.heap.size,0,none⟩) n n,n,cs⟩::rs) L w (W.alloc (.cells cs.toArray e)):=
 (h.below ((Below.refl _ _).alloc (Nat.le_refl _) _)).rows (h.mo.lit e s n cs hl hn)
section
variable {P:Program} {Q:Exit→Act→World→Prop} {w:World} {a A:Act}
theorem bY_ {id:Nat} {l:List Oper} (n d1 k:Nat) (o1:Oper) (C:World→Prop) (D:Nat→World→Prop) (hm:P.follows .mixedOrders=true) (hB:qeB l.toArray n (n+1) a.tmps.size=true)
  (i1:l.toArray[n]?=some o1∧o1.dst=some d1∧o1.guard=none)
  (hC:∀U V:World,C U→Below U.heap.size U V→C V) (hD:∀B (U V:World),D B U→Below U.heap.size U V→D B V)
  (h0:∀W,Below w.heap.size w W→C W)
  (h:∀U:World,(C U∨∃B,D B U)→wpQuiet P l.toArray (fun W=>∃p:Regrown,W=grow (redrawn U p.d) p.os) (fun a'=>a'=A) (l.take n) a)
  (s1:∀W,C W→∃W',(execOp A.eval o1).run P W=.ok (.value (.slice (some ⟨W.heap.size,0,none⟩) k k)) W'∧D W.heap.size W')
  (ht:∀B W,D B W→wpList P l.toArray Q (l.drop (n+1)) (A.put (some d1) (.slice (some ⟨B,0,none⟩) k k)) W):(Code.region id l.toArray true).wp P Q a w:=by
 obtain⟨a1,a2,a3⟩:=i1
 have e1:aD_ l.toArray n=some d1:=by unfold aD_;rw[a1];exact a2
 have p1:∀x,putE l.toArray A n [x]=A.put (some d1) x:=fun x=>by
  show A.put (aD_ l.toArray n) (vcOf l.toArray A n [x] n)=_
  unfold vcOf
  rw[e1,if_neg (Nat.lt_irrefl _),Nat.sub_self]
  rfl
 refine hI_ (A:=A) n 1 (fun vals W=>match vals with | []=>C W | [x]=>∃B,x=.slice (some ⟨B,0,none⟩) k k∧D B W|_=>False) hm hB (fun vals U V hI hb=>?_) h0 (fun vals U hI=>?_) (fun vals W hl hI=>?_) (fun vals W hl hI=>?_)
 ·match vals,hI with
  | [],hI=>exact hC U V hI hb
  | [x],⟨B,e,hI⟩=>exact⟨B,e,hD B U V hI hb⟩
 ·match vals,hI with
  | [],hI=>exact h U (.inl hI)
  | [x],⟨B,e,hI⟩=>exact h U (.inr ⟨B,hI⟩)
 ·match vals,hl,hI with
  | [],_,hI=>
   obtain⟨W',hr,hd⟩:=s1 W hI
   exact⟨o1,a1,by unfold Region.wanted;rw[a3],_,W',hr,W.heap.size,rfl,hd⟩
 ·match vals,hl,hI with
  | [x],_,⟨B,e,hI⟩=>
   subst e
   rw[p1]
   exact ht B W hI
end
theorem vW_ (w:World):Calls Tryz.prog 50 #[] w fun e W'=>e=.returned (.agg #[.string ⟨#[]⟩,.string ⟨#[108,105,110,101]⟩,.string ⟨#[98,111,120]⟩,.string ⟨#[97,114,114,111,119]⟩,.string ⟨#[108,101,116,116,101,114]⟩,.string ⟨#[109,97,114,107]⟩])∧Below w.heap.size w W':=by
 have H:=((AzAt.start w).push [.string ⟨#[]⟩,.string ⟨#[108,105,110,101]⟩,.string ⟨#[98,111,120]⟩,.string ⟨#[97,114,114,111,119]⟩,.string ⟨#[108,101,116,116,101,114]⟩,.string ⟨#[109,97,114,107]⟩] 104)
 have z0:=H.ce 0 0 rfl rfl
 have z1:=H.ce 0 1 rfl rfl
 have z2:=H.ce 0 2 rfl rfl
 have z3:=H.ce 0 3 rfl rfl
 have z4:=H.ce 0 4 rfl rfl
 have z5:=H.ce 0 5 rfl rfl
 go_enter Tryz.func50,Tryz.ntmps50
 go_wp2
 refine bodyPost_ret (v:=.agg #[.string ⟨#[]⟩,.string ⟨#[108,105,110,101]⟩,.string ⟨#[98,111,120]⟩,.string ⟨#[97,114,114,111,119]⟩,.string ⟨#[108,101,116,116,101,114]⟩,.string ⟨#[109,97,114,107]⟩]) ?_ rfl ⟨rfl,H.bw⟩
 simp[results,Tryz.results50,go_sem,Result.andThen]
theorem vX_ (W:World):(Instr.index 104 (.agg #[.string ⟨#[]⟩,.string ⟨#[108,105,110,101]⟩,.string ⟨#[98,111,120]⟩,.string ⟨#[97,114,114,111,119]⟩,.string ⟨#[108,101,116,116,101,114]⟩,.string ⟨#[109,97,114,107]⟩]) (.int .i64 0)).run Tryz.prog W=.ok (.string ⟨#[]⟩) W:=by kernel_rfl
theorem nY_ (W:World):(Instr.index 104 (.agg #[.string ⟨#[]⟩,.string ⟨#[108,105,110,101]⟩,.string ⟨#[98,111,120]⟩,.string ⟨#[97,114,114,111,119]⟩,.string ⟨#[108,101,116,116,101,114]⟩,.string ⟨#[109,97,114,107]⟩]) (.int .i64 1)).run Tryz.prog W=.ok (.string ⟨#[108,105,110,101]⟩) W:=by kernel_rfl
theorem nX_ (W:World):(Instr.index 104 (.agg #[.string ⟨#[]⟩,.string ⟨#[108,105,110,101]⟩,.string ⟨#[98,111,120]⟩,.string ⟨#[97,114,114,111,119]⟩,.string ⟨#[108,101,116,116,101,114]⟩,.string ⟨#[109,97,114,107]⟩]) (.int .i64 2)).run Tryz.prog W=.ok (.string ⟨#[98,111,120]⟩) W:=by kernel_rfl
theorem nW_ (W:World):(Instr.index 104 (.agg #[.string ⟨#[]⟩,.string ⟨#[108,105,110,101]⟩,.string ⟨#[98,111,120]⟩,.string ⟨#[97,114,114,111,119]⟩,.string ⟨#[108,101,116,116,101,114]⟩,.string ⟨#[109,97,114,107]⟩]) (.int .i64 3)).run Tryz.prog W=.ok (.string ⟨#[97,114,114,111,119]⟩) W:=by kernel_rfl
theorem nV_ (W:World):(Instr.index 104 (.agg #[.string ⟨#[]⟩,.string ⟨#[108,105,110,101]⟩,.string ⟨#[98,111,120]⟩,.string ⟨#[97,114,114,111,119]⟩,.string ⟨#[108,101,116,116,101,114]⟩,.string ⟨#[109,97,114,107]⟩]) (.int .i64 4)).run Tryz.prog W=.ok (.string ⟨#[108,101,116,116,101,114]⟩) W:=by kernel_rfl
theorem nU_ (W:World):(Instr.index 104 (.agg #[.string ⟨#[]⟩,.string ⟨#[108,105,110,101]⟩,.string ⟨#[98,111,120]⟩,.string ⟨#[97,114,114,111,119]⟩,.string ⟨#[108,101,116,116,101,114]⟩,.string ⟨#[109,97,114,107]⟩]) (.int .i64 5)).run Tryz.prog W=.ok (.string ⟨#[109,97,114,107]⟩) W:=by kernel_rfl
theorem TmAt.as {M1 M2 n1 n2:Nat} {D1 D2:DataW Value} {f1 f2:Int→Option Int} {rs:List Rw} {L:List (Nat×List Value)} {w W:World} {v:Value} {n n':Nat} {us us':List ByteArray} (h:TmAt M1 M2 n1 n2 D1 D2 f1 f2 (⟨9,1,v,n,ucC us⟩::rs) L w W) (hn:n=n') (hu:us=us'):TmAt M1 M2 n1 n2 D1 D2 f1 f2 (⟨9,1,v,n',ucC us'⟩::rs) L w W:=by
 subst hn hu
 exact h
end Go.Proofs.YtdkaohphbgdkpaaGreatDoor
namespace Go.Proofs.YtdkaohphbgdkpaaGreatDoor
open Go.RowKit Go.Shelf Go.Sort
attribute [local go_sem] Oper.semAt_some
theorem MoAt.of_os {e:TypeId} {s:Nat} {v:Value} {n:Nat} {xs:List Value} {R:List (Nat×List Value)} {w W:World} (h:OsAt e s v n xs R w W):MoAt [⟨e,s,v,n,xs⟩] R w W:=
 ⟨h.az,fun r hr=>by rw[List.mem_singleton.1 hr];exact h.own,List.pairwise_singleton _ _,fun r hr x hx=>by rw[List.mem_singleton.1 hr];exact h.ne x hx⟩
theorem lD_ {ops:Array Oper} {rest:List Oper} {o:Oper} {a:Act} {Q:Exit→Act→World→Prop} (hgd:o.guard=none) (sl y:Operand) {t:TypeId} (ho:o.op=.call { callee:=.builtin .append,args:=#[sl,y],argTypes:=#[t,t] })
  {rs:List Rw} {r:Rw} {z:Value} {bytes m B:Nat} {cs:List Value} (hu:Tryz.prog.underlying t=some (.slice r.e)) (hinfo:(Tryz.prog.info? r.e).map (fun i=>(i.zero,i.size,i.bytes))=some (some z,r.s,bytes)) (hz:z.cells.size=r.s) (hs0:0<r.s) (hby:bytes≤1000)
  {L:List (Nat×List Value)} {w W:World} (h:MoAt (r::rs) L w W) (c:Nat) (hB:(B,cs)∈L) (hl:cs.length=m*r.s) (h1:∀u∈cs,u.oneCell'=true) (hn:r.n+m≤100000) (hv:a.eval sl=r.v) (hx:a.eval y=.slice (some ⟨B,0,none⟩) m c)
  (hK:∀b' c' W',MoAt (⟨r.e,r.s,.slice b' (r.n+m) c',r.n+m,r.xs++cs⟩::rs) L w W'→wpList Tryz.prog ops Q rest (a.put o.dst (.slice b' (r.n+m) c')) W'):wpList Tryz.prog ops Q (o::rest) a W:=by
 refine wpList_plain hgd fun K hK'=>?_
 have h6:(r.n+m)*bytes≤100000*1000:=Nat.mul_le_mul hn hby
 obtain⟨v',W',hr,h2,_⟩:=MoAt.app t hu hinfo hz hs0 h c hB hl h1 (by omega) (by unfold maxLen;omega) o.type
 obtain⟨b',c',e,_⟩:=h2.slice (r:=⟨r.e,r.s,v',r.n+m,r.xs++cs⟩) (by simp)
 simp only at e
 subst e
 unfold Oper.wp execOp
 simp only[ho,resolve,invoke,builtin,Sem.run_bind,Sem.run_pure,Result.andThen_ok,List.map_toArray,List.map_cons,List.map_nil,hv,hx,hr]
 exact hK' _ _ (hK b' c' W' h2)
theorem iL_ {ops:Array Oper} {rest:List Oper} {o:Oper} {a:Act} {Q:Exit→Act→World→Prop} (hgd:o.guard=none) (sl y:Operand) (ho:o.op=.call { callee:=.builtin .append,args:=#[sl,y],argTypes:=#[32,32] })
  {rs:List Rw} {v:Value} {n:Nat} {ss:List Sh} {L:List (Nat×List Value)} {w W:World} (h:MoAt (⟨30,11,v,n,ssC ss⟩::rs) L w W) (s:Sh) (B c:Nat) (hB:(B,shC s)∈L) (hn:n≤10000) (hv:a.eval sl=v) (hx:a.eval y=.slice (some ⟨B,0,none⟩) 1 c)
  (hK:∀b' c' W',MoAt (⟨30,11,.slice b' (n+1) c',n+1,ssC (ss++[s])⟩::rs) L w W'→wpList Tryz.prog ops Q rest (a.put o.dst (.slice b' (n+1) c')) W'):wpList Tryz.prog ops Q (o::rest) a W:=
 lD_ (r:=⟨30,11,v,n,ssC ss⟩) hgd sl y ho Tryz.underlying32 pH_ rfl (show 0<11 by decide) (by decide) h c hB rfl (by simp[Value.oneCell']) (by simp only;omega) hv hx (fun b' c' W' h'=>hK b' c' W' (by rw[iQ_];exact h'))
theorem yI_ {ops:Array Oper} {rest:List Oper} {o:Oper} {a:Act} {Q:Exit→Act→World→Prop} (hgd:o.guard=none) (sl y:Operand) (ho:o.op=.call { callee:=.builtin .append,args:=#[sl,y],argTypes:=#[23,23] })
  {rs:List Rw} {v:Value} {n:Nat} {ss:List Int} {L:List (Nat×List Value)} {w W:World} (h:MoAt (⟨3,1,v,n,icC ss⟩::rs) L w W) (s:Int) (B c:Nat) (hB:(B,[.int .i64 s])∈L) (hn:n≤10000) (hv:a.eval sl=v) (hx:a.eval y=.slice (some ⟨B,0,none⟩) 1 c)
  (hK:∀b' c' W',MoAt (⟨3,1,.slice b' (n+1) c',n+1,icC (ss++[s])⟩::rs) L w W'→wpList Tryz.prog ops Q rest (a.put o.dst (.slice b' (n+1) c')) W'):wpList Tryz.prog ops Q (o::rest) a W:=
 lD_ (r:=⟨3,1,v,n,icC ss⟩) hgd sl y ho Tryz.underlying23 iG_ rfl (show 0<1 by decide) (by decide) h c hB rfl (by simp[Value.oneCell']) (by simp only;omega) hv hx (fun b' c' W' h'=>hK b' c' W' (by rw[fJ_];exact h'))
theorem yJ_ {ops:Array Oper} {rest:List Oper} {o:Oper} {a:Act} {Q:Exit→Act→World→Prop} (hgd:o.guard=none) (sl y:Operand) (ho:o.op=.call { callee:=.builtin .append,args:=#[sl,y],argTypes:=#[24,24] })
  {rs:List Rw} {v:Value} {n:Nat} {ss:List (Int×Int)} {L:List (Nat×List Value)} {w W:World} (h:MoAt (⟨58,2,v,n,psC ss⟩::rs) L w W) (s:Int×Int) (B c:Nat) (hB:(B,[.int .i64 s.1,.int .i64 s.2])∈L) (hn:n≤10000) (hv:a.eval sl=v) (hx:a.eval y=.slice (some ⟨B,0,none⟩) 1 c)
  (hK:∀b' c' W',MoAt (⟨58,2,.slice b' (n+1) c',n+1,psC (ss++[s])⟩::rs) L w W'→wpList Tryz.prog ops Q rest (a.put o.dst (.slice b' (n+1) c')) W'):wpList Tryz.prog ops Q (o::rest) a W:=
 lD_ (r:=⟨58,2,v,n,psC ss⟩) hgd sl y ho Tryz.underlying24 lZ_ rfl (show 0<2 by decide) (by decide) h c hB rfl (by simp[Value.oneCell']) (by simp only;omega) hv hx (fun b' c' W' h'=>hK b' c' W' (by rw[lP_];exact h'))
theorem uC_ {ops:Array Oper} {o:Oper} {a:Act} {K:Act→World→Prop} {Q:Exit→Act→World→Prop} {E:Prop} (hgd:o.guard=none) (sl y:Operand) {t:TypeId} (ho:o.op=.call { callee:=.builtin .append,args:=#[sl,y],argTypes:=#[t,t] })
  {rs:List Rw} {r:Rw} {z:Value} {bytes m B:Nat} {cs:List Value} (hu:Tryz.prog.underlying t=some (.slice r.e)) (hinfo:(Tryz.prog.info? r.e).map (fun i=>(i.zero,i.size,i.bytes))=some (some z,r.s,bytes)) (hz:z.cells.size=r.s) (hs0:0<r.s) (hby:bytes≤1000)
  {L:List (Nat×List Value)} {w W:World} (h:MoAt (r::rs) L w W) (c:Nat) (hB:(B,cs)∈L) (hl:cs.length=m*r.s) (h1:∀u∈cs,u.oneCell'=true) (hn:r.n+m≤100000) (hv:a.eval sl=r.v) (hx:a.eval y=.slice (some ⟨B,0,none⟩) m c)
  (hK:∀b' c' W',MoAt (⟨r.e,r.s,.slice b' (r.n+m) c',r.n+m,r.xs++cs⟩::rs) L w W'→K (a.put o.dst (.slice b' (r.n+m) c')) W'):if Region.wanted o (yielded ops a.tmps)=true then Oper.wp Tryz.prog o a W K Q else E:=by
 have hw:Region.wanted o (yielded ops a.tmps)=true:=by simp[Region.wanted,hgd]
 rw[if_pos hw]
 have h6:(r.n+m)*bytes≤100000*1000:=Nat.mul_le_mul hn hby
 obtain⟨v',W',hr,h2,_⟩:=MoAt.app t hu hinfo hz hs0 h c hB hl h1 (by omega) (by unfold maxLen;omega) o.type
 obtain⟨b',c',e,_⟩:=h2.slice (r:=⟨r.e,r.s,v',r.n+m,r.xs++cs⟩) (by simp)
 simp only at e
 subst e
 unfold Oper.wp execOp
 simp only[ho,resolve,invoke,builtin,Sem.run_bind,Sem.run_pure,Result.andThen_ok,List.map_toArray,List.map_cons,List.map_nil,hv,hx,hr]
 exact hK b' c' W' h2
theorem fE_ {ops:Array Oper} {o:Oper} {a:Act} {K:Act→World→Prop} {Q:Exit→Act→World→Prop} {E:Prop} (hgd:o.guard=none) (sl y:Operand) (ho:o.op=.call { callee:=.builtin .append,args:=#[sl,y],argTypes:=#[23,23] })
  {rs:List Rw} {v:Value} {n:Nat} {ss:List Int} {L:List (Nat×List Value)} {w W:World} (h:MoAt (⟨3,1,v,n,icC ss⟩::rs) L w W) (s:Int) (B c:Nat) (hB:(B,[.int .i64 s])∈L) (hn:n≤10000) (hv:a.eval sl=v) (hx:a.eval y=.slice (some ⟨B,0,none⟩) 1 c)
  (hK:∀b' c' W',MoAt (⟨3,1,.slice b' (n+1) c',n+1,icC (ss++[s])⟩::rs) L w W'→K (a.put o.dst (.slice b' (n+1) c')) W'):if Region.wanted o (yielded ops a.tmps)=true then Oper.wp Tryz.prog o a W K Q else E:=
 uC_ (r:=⟨3,1,v,n,icC ss⟩) hgd sl y ho Tryz.underlying23 iG_ rfl (show 0<1 by decide) (by decide) h c hB rfl (by simp[Value.oneCell']) (by simp only;omega) hv hx (fun b' c' W' h'=>hK b' c' W' (by rw[fJ_];exact h'))
theorem MoAt.drew {rs:List Rw} {L:List (Nat×List Value)} {w W:World} (h:MoAt rs L w W):MoAt rs L w W.drew:=h.below (Below.refl _ _).drew
theorem MoAt.fresh {r:Rw} {rs:List Rw} {L:List (Nat×List Value)} {w W W':World} {v':Value} {n':Nat} {xs':List Value} (h:MoAt (r::rs) L w W) (hown:W'.ownsRow W.heap.size r.e r.s v' n' xs') (hg:W.grownBy W' none):MoAt (⟨r.e,r.s,v',n',xs'⟩::rs) L w W':=by
 have hb:Below W.heap.size W W':=(Below.refl _ _).grown hg (Nat.le_refl _) (fun k hk=>by cases hk)
 have h':=h.below hb
 have hap:=List.pairwise_cons.1 h'.ap
 have hnew:∀g,v'.ownBlock=some g→W.heap.size≤g:=fun g hk=>(aF_ hown g hk).2
 refine⟨h'.az,fun q hq=>?_,List.pairwise_cons.2 ⟨fun q hq g hk e=>?_,hap.2⟩,fun q hq x hx=>?_⟩
 ·rcases List.mem_cons.1 hq with rfl|hq
  ·refine⟨hown.1,?_⟩
   rcases hown.2 with h1|⟨g,cap,cur,h1,h2,h3⟩
   ·exact .inl h1
   ·exact .inr ⟨g,cap,cur,h1,Nat.le_trans h.az.bw.size h2,h3⟩
  ·exact h'.own q (List.mem_cons_of_mem _ hq)
 ·have h1:=hnew g hk
  have h2:=(aF_ (h.own q (List.mem_cons_of_mem _ hq)) g e).1
  omega
 ·rcases List.mem_cons.1 hq with rfl|hq
  ·intro e
   have h1:=hnew x.1 e
   have h2:=(h.az.row x hx).sz
   omega
  ·exact h'.ne q (List.mem_cons_of_mem _ hq) x hx
theorem MoAt.app_cut {r:Rw} {rs:List Rw} {L:List (Nat×List Value)} {w W:World} {z:Value} {bytes m B:Nat} {cs:List Value} (t:TypeId) (hu:Tryz.prog.underlying t=some (.slice r.e)) (hinfo:(Tryz.prog.info? r.e).map (fun i=>(i.zero,i.size,i.bytes))=some (some z,r.s,bytes)) (hz:z.cells.size=r.s) (hs0:0<r.s) (hby:bytes≤1000)
  (h:MoAt (r::rs) L w W) {b:Option Addr} {n c0:Nat} (hv:r.v=.slice b n c0) (d:Nat) (hd:d≤n) (c:Nat) (hm:0<m) (hB:(B,cs)∈L) (hl:cs.length=m*r.s) (h1:∀u∈cs,u.oneCell'=true) (hn:d+m≤100000) (ty:TypeId) :
  ∃b' c' W',(Builtin.append_ #[t,t] ty #[.slice b d d,.slice (some ⟨B,0,none⟩) m c]).run Tryz.prog W=.ok (.slice b' (d+m) c') W'∧MoAt (⟨r.e,r.s,.slice b' (d+m) c',d+m,r.xs.take (d*r.s)++cs⟩::rs) L w W':=by
 have h6:(d+m)*bytes≤100000*1000:=Nat.mul_le_mul hn hby
 have hnews:∀(j:Nat) (u:Value),cs[j]?=some u→W.cell? ((⟨B,0,none⟩:Addr).add j)=some u:=fun j u hj=>by
  have:=(h.az.row (B,cs) hB).row j u hj
  rw[show(⟨B,0,none⟩:Addr).add j=⟨B,j,none⟩ by unfold Addr.add;split <;> simp_all]
  exact this
 rcases(h.os (r:=r) (by simp)).form with ⟨e1,e2,e3⟩|⟨g,cap,e1,hg,hlt⟩
 ·rw[e1] at hv
  cases hv
  obtain rfl:d=0:=by omega
  obtain⟨v',W',hr,h2,_⟩:=MoAt.app t hu hinfo hz hs0 h c hB hl h1 (by rw[e2];omega) (by rw[e2];unfold maxLen;omega) ty
  rw[e1] at hr
  rw[e2,e3] at h2
  obtain⟨b',c',e,_⟩:=h2.slice (r:=⟨r.e,r.s,v',0+m,[]++cs⟩) (by simp)
  simp only at e
  subst e
  exact⟨b',c',W',hr,by rw[e3];simpa using h2⟩
 ·rw[e1] at hv
  cases hv
  have hx:=(h.own r (by simp)).1
  have hle:d*r.s≤r.xs.length:=by rw[hx];exact Nat.mul_le_mul_right _ hd
  obtain⟨i0,hi0,hz0,hz1,hz2⟩:=info_parts hinfo
  obtain⟨v',W',hr,h2,h3⟩:=run_append_arg_grows (P:=Tryz.prog) W t ty r.e i0 z r.s bytes hu hi0 hz0 hz1 hz2 hz hs0 ⟨g,0,none⟩ d d (r.xs.take (d*r.s)) (by rw[List.length_take];omega) (fun j u hj=>by
   rw[show(⟨g,0,none⟩:Addr).add j=⟨g,j,none⟩ by unfold Addr.add;split <;> simp_all]
   rw[List.getElem?_take] at hj
   split at hj
   ·exact(h.os (r:=r) (by simp)).cell e1 hj
   ·cases hj) ⟨B,0,none⟩ m c cs hl hnews (by omega) (by unfold maxLen;omega) (by omega)
  have hf:=h.fresh h2 h3
  obtain⟨b',c',e,_⟩:=hf.slice (r:=⟨r.e,r.s,v',d+m,r.xs.take (d*r.s)++cs⟩) (by simp)
  simp only at e
  subst e
  exact⟨b',c',W',hr,hf⟩
theorem tJ_ {ops:Array Oper} {rest:List Oper} {o:Oper} {a:Act} {Q:Exit→Act→World→Prop} (hgd:o.guard=none) (sl y:Operand) {t:TypeId} (ho:o.op=.call { callee:=.builtin .append,args:=#[sl,y],argTypes:=#[t,t] })
  {rs:List Rw} {r:Rw} {z:Value} {bytes m B:Nat} {cs:List Value} (hu:Tryz.prog.underlying t=some (.slice r.e)) (hinfo:(Tryz.prog.info? r.e).map (fun i=>(i.zero,i.size,i.bytes))=some (some z,r.s,bytes)) (hz:z.cells.size=r.s) (hs0:0<r.s) (hby:bytes≤1000)
  {L:List (Nat×List Value)} {w W:World} (h:MoAt (r::rs) L w W) {b:Option Addr} {n c0:Nat} (hv:r.v=.slice b n c0) (d:Nat) (hd:d≤n) (c:Nat) (hm:0<m) (hB:(B,cs)∈L) (hl:cs.length=m*r.s) (h1:∀u∈cs,u.oneCell'=true) (hn:d+m≤100000) (hv2:a.eval sl=.slice b d d) (hx:a.eval y=.slice (some ⟨B,0,none⟩) m c)
  (hK:∀b' c' W',MoAt (⟨r.e,r.s,.slice b' (d+m) c',d+m,r.xs.take (d*r.s)++cs⟩::rs) L w W'→wpList Tryz.prog ops Q rest (a.put o.dst (.slice b' (d+m) c')) W'):wpList Tryz.prog ops Q (o::rest) a W:=by
 refine wpList_plain hgd fun K hK'=>?_
 obtain⟨b',c',W',hr,h2⟩:=MoAt.app_cut t hu hinfo hz hs0 hby h hv d hd c hm hB hl h1 hn o.type
 unfold Oper.wp execOp
 simp only[ho,resolve,invoke,builtin,Sem.run_bind,Sem.run_pure,Result.andThen_ok,List.map_toArray,List.map_cons,List.map_nil,hv2,hx,hr]
 exact hK' _ _ (hK b' c' W' h2)
theorem zC_ (l:List Sh) (d:Nat):(ssC l).take (d*11)=ssC (l.take d):=by
 induction l generalizing d with
 | nil=>simp[ssC]
 | cons s l ih=>
  cases d with
  | zero=>simp[ssC]
  | succ d=>
   have e:ssC (s::l)=shC s++ssC l:=rfl
   rw[e,List.take_append,List.take_of_length_le (show 11≤_ by omega),List.take_succ_cons]
   show shC s++(ssC l).take ((d+1)*11-11)=shC s++ssC (l.take d)
   rw[show(d+1)*11-11=d*11 by omega,ih]
theorem aAM (l:List Int) (d:Nat):(icC l).take (d*1)=icC (l.take d):=by unfold icC;rw[Nat.mul_one,List.map_take]
theorem iK_ {ops:Array Oper} {rest:List Oper} {o:Oper} {a:Act} {Q:Exit→Act→World→Prop} (hgd:o.guard=none) (sl y:Operand) (ho:o.op=.call { callee:=.builtin .append,args:=#[sl,y],argTypes:=#[32,32] })
  {rs:List Rw} {b:Option Addr} {n c0:Nat} {ss:List Sh} {L:List (Nat×List Value)} {w W:World} (h:MoAt (⟨30,11,.slice b n c0,n,ssC ss⟩::rs) L w W) (d:Nat) (hd:d≤n) (s:Sh) (B c:Nat) (hB:(B,shC s)∈L) (hn:d≤10000) (hv:a.eval sl=.slice b d d) (hx:a.eval y=.slice (some ⟨B,0,none⟩) 1 c)
  (hK:∀b' c' W',MoAt (⟨30,11,.slice b' (d+1) c',d+1,ssC (ss.take d++[s])⟩::rs) L w W'→wpList Tryz.prog ops Q rest (a.put o.dst (.slice b' (d+1) c')) W'):wpList Tryz.prog ops Q (o::rest) a W:=
 tJ_ (r:=⟨30,11,.slice b n c0,n,ssC ss⟩) hgd sl y ho Tryz.underlying32 pH_ rfl (show 0<11 by decide) (by decide) h rfl d hd c (by omega) hB rfl (by simp[Value.oneCell']) (by omega) hv hx (fun b' c' W' h'=>hK b' c' W' (by rw[iQ_,←zC_];exact h'))
theorem lE_ {ops:Array Oper} {rest:List Oper} {o:Oper} {a:Act} {Q:Exit→Act→World→Prop} (hgd:o.guard=none) (sl y:Operand) (ho:o.op=.call { callee:=.builtin .append,args:=#[sl,y],argTypes:=#[23,23] })
  {rs:List Rw} {b:Option Addr} {n c0:Nat} {ss:List Int} {L:List (Nat×List Value)} {w W:World} (h:MoAt (⟨3,1,.slice b n c0,n,icC ss⟩::rs) L w W) (d:Nat) (hd:d≤n) (s:Int) (B c:Nat) (hB:(B,[.int .i64 s])∈L) (hn:d≤10000) (hv:a.eval sl=.slice b d d) (hx:a.eval y=.slice (some ⟨B,0,none⟩) 1 c)
  (hK:∀b' c' W',MoAt (⟨3,1,.slice b' (d+1) c',d+1,icC (ss.take d++[s])⟩::rs) L w W'→wpList Tryz.prog ops Q rest (a.put o.dst (.slice b' (d+1) c')) W'):wpList Tryz.prog ops Q (o::rest) a W:=
 tJ_ (r:=⟨3,1,.slice b n c0,n,icC ss⟩) hgd sl y ho Tryz.underlying23 iG_ rfl (show 0<1 by decide) (by decide) h rfl d hd c (by omega) hB rfl (by simp[Value.oneCell']) (by omega) hv hx (fun b' c' W' h'=>hK b' c' W' (by rw[fJ_,←aAM];exact h'))
theorem MoAt.cons {rs:List Rw} {L:List (Nat×List Value)} {w V W:World} {B:Nat} {vs:List Value} (h:MoAt rs L w V) (hb:Below V.heap.size V W) (hB:V.heap.size≤B) (c:ArAt B vs W):MoAt rs ((B,vs)::L) w W:=by
 have h':=h.below hb
 refine⟨h'.az.cons c,h'.own,h'.ap,fun r hr x hx=>?_⟩
 rcases List.mem_cons.1 hx with rfl|hx
 ·intro e
  have:=(aF_ (h.own r hr) _ e).1
  simp only at this
  omega
 ·exact h'.ne r hr x hx
theorem MoAt.putSh {rs:List Rw} {B:Nat} {s:Sh} {L:List (Nat×List Value)} {w W:World} (h:MoAt rs ((B,shC s)::L) w W) (hB:w.heap.size≤B) (hd:∀x∈L,B≠x.1) (t:Sh) :
  MoAt rs ((B,shC t)::L) w (((((((((((W.setCell ⟨B,0,none⟩ (.int .i64 t.code)).setCell ⟨B,1,none⟩ (.int .i64 t.kind)).setCell ⟨B,2,none⟩ (.int .i64 t.rect.x)).setCell ⟨B,3,none⟩ (.int .i64 t.rect.y)).setCell ⟨B,4,none⟩ (.int .i64 t.rect.w)).setCell ⟨B,5,none⟩ (.int .i64 t.rect.h)).setCell ⟨B,6,none⟩ (.int .i64 t.a.x)).setCell ⟨B,7,none⟩ (.int .i64 t.a.y)).setCell ⟨B,8,none⟩ (.int .i64 t.b.x)).setCell ⟨B,9,none⟩ (.int .i64 t.b.y)).setCell ⟨B,10,none⟩ (.string t.word)):=
 ((((((((((h.set hB hd (i:=0) rfl (.int .i64 t.code)).set hB hd (i:=1) rfl (.int .i64 t.kind)).set hB hd (i:=2) rfl (.int .i64 t.rect.x)).set hB hd (i:=3) rfl (.int .i64 t.rect.y)).set hB hd (i:=4) rfl (.int .i64 t.rect.w)).set hB hd (i:=5) rfl (.int .i64 t.rect.h)).set hB hd (i:=6) rfl (.int .i64 t.a.x)).set hB hd (i:=7) rfl (.int .i64 t.a.y)).set hB hd (i:=8) rfl (.int .i64 t.b.x)).set hB hd (i:=9) rfl (.int .i64 t.b.y)).set hB hd (i:=10) rfl (.string t.word)
end Go.Proofs.YtdkaohphbgdkpaaGreatDoor
namespace Go.Proofs.YtdkaohphbgdkpaaGreatDoor
open Go.RowKit Go.Shelf Go.Sort Go.Maps
attribute [local go_sem] Oper.semAt_some
theorem sH_ (l:List (Int×Int)) (p:Int×Int):(fun i=>if i=p.1 then some p.2 else aE_ l i)=aE_ (l++[p]):=by
 funext i
 unfold aE_
 rw[List.foldl_append]
 simp only[List.foldl_cons,List.foldl_nil]
 by_cases h:i=p.1
 ·rw[if_pos h,if_pos h.symm]
 ·rw[if_neg h,if_neg (fun e=>h e.symm)]
theorem kK_ {l:List (Int×Int)} {k:Nat} {p:Int×Int} (hp:l[k]?=some p):(fun i=>if i=p.1 then some p.2 else aE_ (l.take k) i)=aE_ (l.take (k+1)):=by
 rw[sH_,List.take_add_one,hp]
 rfl
section
variable {x:SD}
theorem hX_ (h:cF_ x=true) {s:Sh} (hs:s∈x.shapes):∃pre suf,(stOf x).its=pre++itOf x s::suf∧okS pre (itOf x s)=true:=by
 obtain⟨hok,_⟩:=cP_ h
 obtain⟨a,b,e⟩:=List.append_of_mem (List.mem_map.2 ⟨s,hs,rfl⟩:itOf x s∈x.shapes.map (itOf x))
 exact⟨a,b,e,hok.its _ _ _ e⟩
theorem uR_ (h:cF_ x=true) {s:Sh} (hs:s∈x.shapes):1≤s.code∧s.code≤39999:=(cP_ h).1.codes _ (List.mem_map.2 ⟨s,hs,rfl⟩)
theorem uQ_ (h:cF_ x=true) {s:Sh} (hs:s∈x.shapes):bS_ s.kind s.word.data.toList=true:=by
 obtain⟨pre,suf,_,ho⟩:=hX_ h hs
 simp only[okS,Bool.and_eq_true] at ho
 exact ho.1.1.1.2
theorem aDF (h:cF_ x=true) {s:Sh} (hs:s∈x.shapes) {n:Int} (hn:aE_ x.inside s.code=some n):1≤n∧n≤39999:=by
 obtain⟨pre,suf,e,ho⟩:=hX_ h hs
 simp only[okS,Bool.and_eq_true] at ho
 have h1:=ho.1.2
 rw[show(itOf x s).i=some n from hn] at h1
 obtain⟨u,hu,hu2⟩:=List.any_eq_true.1 h1
 simp only[Bool.and_eq_true,decide_eq_true_eq] at hu2
 have:=(cP_ h).1.codes u (by rw[e];simp[hu])
 omega
theorem zH_ (h:cF_ x=true) {s:Sh} (hs:s∈x.shapes) {n:Int} (hn:aE_ x.member s.code=some n):0≤n∧n≤999:=by
 obtain⟨pre,suf,e,ho⟩:=hX_ h hs
 simp only[okS,Bool.and_eq_true] at ho
 have h1:=ho.2
 rw[show(itOf x s).m=some n from hn] at h1
 simp only[Bool.and_eq_true,decide_eq_true_eq] at h1
 exact h1
theorem zI_ (h:cF_ x=true) {s:Sh} (hs:s∈x.shapes):(gT_ (fQ_ (itOf x s))).length≤60:=by
 obtain⟨pre,suf,e,ho⟩:=hX_ h hs
 exact nK_ ho fun u hu=>(cP_ h).1.codes u (by rw[e];simp[hu])
theorem uO_ (h:cF_ x=true) {p:Int×Int} (hp:p∈x.inside):aC_ p.1:=by
 obtain⟨hok,e⟩:=cP_ h
 rw[←e] at hp
 obtain⟨t,ht,ht2⟩:=List.mem_filterMap.1 hp
 have:=hok.codes t ht
 cases hi:t.i with
 | none=>rw[hi] at ht2;cases ht2
 | some n=>rw[hi] at ht2;cases ht2;show aC_ t.code;unfold aC_;omega
theorem uN_ (h:cF_ x=true) {p:Int×Int} (hp:p∈x.member):aC_ p.1:=by
 obtain⟨hok,e⟩:=cP_ h
 rw[←e] at hp
 obtain⟨t,ht,ht2⟩:=List.mem_filterMap.1 hp
 have:=hok.codes t ht
 cases hi:t.m with
 | none=>rw[hi] at ht2;cases ht2
 | some n=>rw[hi] at ht2;cases ht2;show aC_ t.code;unfold aC_;omega
theorem uM_ (h:cF_ x=true) {l:L3} (hl:l∈x.leads):(1≤l.1∧l.1≤39999)∧(1≤l.2.1∧l.2.1≤39999)∧(1≤l.2.2∧l.2.2≤39999):=by
 obtain⟨a,b,e⟩:=List.append_of_mem hl
 exact vM_ ((cP_ h).1.ls a l b e)
end
def ofW (m:Option Int):List Bs:=match m with|none=>[]|some n=>[wOf++32::bT_,txt n]
def aB_ (x:SD) (k:Nat):List ByteArray:=(x.shapes.take k).map fun s=>baL (eP_ (fQ_ (itOf x s)))
def bD_ (x:SD) (k:Nat):List ByteArray:=(x.leads.take k).map fun l=>baL (eP_ (gG_ l))
theorem pC_ {x:SD} {k:Nat} {s:Sh} (hs:x.shapes[k]?=some s):aB_ x (k+1)=aB_ x k++[baL (eP_ (fQ_ (itOf x s)))]:=by
 unfold aB_
 rw[List.take_add_one,hs,Option.toList_some,List.map_append]
 rfl
theorem pD_ {x:SD} {k:Nat} {l:L3} (hl:x.leads[k]?=some l):bD_ x (k+1)=bD_ x k++[baL (eP_ (gG_ l))]:=by
 unfold bD_
 rw[List.take_add_one,hl,Option.toList_some,List.map_append]
 rfl
def mW_ (x:SD):ByteArray:=if cF_ x then baL (yV_ x) else ⟨#[]⟩
theorem oB_ (x:SD):dB_ 32 (bsL (aB_ x x.shapes.length++bD_ x x.leads.length))=yV_ x:=by
 unfold yV_ allW stOf
 rw[←tU_]
 congr 1
 unfold aB_ bD_ bsL
 simp only[List.take_length,List.map_append,List.map_map]
 congr 1 <;> (apply List.map_congr_left;intro a _;simp)
theorem tX_ {a0:Option Addr} {c0:Nat} {a1:Option Addr} {c1:Nat} {a2:Option Addr} {c2:Nat} {a3:Option Addr} {c3:Nat} (x:SD) (hx:SdB c0 x) (w:World) (hS:SdAt a0 a1 a2 a3 x w) (hT:Glob w) :
  Calls Tryz.prog 27 #[.agg (sdS a0 c0 a1 c1 a2 c2 a3 c3 x).toArray] w fun e W'=>e=.returned (.tuple #[.string (mW_ x),.int .i64 (if cF_ x then 0 else 270)])∧Below w.heap.size w W':=by
 have HX:=Lib.hid hx
 have HS:=Lib.hid hS
 have HT:=Lib.hid hT
 have H0:=Lib.hid ((AzAt.start w).push (sdS a0 c0 a1 c1 a2 c2 a3 c3 x) 62)
 have hb0:Below w.heap.size w (w.alloc (.cells (sdS a0 c0 a1 c1 a2 c2 a3 c3 x).toArray 62)):=H0.out.bw
 have KS:=Lib.hid (aAF (c1:=c1) (c2:=c2) (c3:=c3) x hx _ (hS.below hb0))
 have y0:=H0.out.ce 0 0 rfl rfl
 have y1:=H0.out.ce 0 1 rfl rfl
 have y2:=H0.out.ce 0 2 rfl rfl
 have y3:=H0.out.ce 0 3 rfl rfl
 unfold mW_
 cases hv:cF_ x with
 | false=>
  rw[hv] at KS
  clear hS hx hb0 hT
  go_enter Tryz.func27,Tryz.ntmps27
  go_wp2_with (go_at_call 49;(with_reducible refine(KS.out).mono ?_);rintro e w1 ⟨rfl,hb⟩;have H1:=Lib.hid (H0.out.below hb))
  go_ret2
  exact⟨rfl,H1.out.bw⟩
 | true=>
  rw[hv] at KS
  have HV:=Lib.hid hv
  have hmm:=@run_makeMap Tryz.prog
  clear hS hx hb0 hT hv
  go_enter Tryz.func27,Tryz.ntmps27
  go_wp2_with (go_at_call 49;(with_reducible refine(KS.out).mono ?_);rintro e w1 ⟨rfl,hb⟩;have H1:=Lib.hid (H0.out.below hb);clear y0 y1 y2 y3;have y1:=H1.out.ce 0 1 rfl rfl;have hz:=(H1.out.row (w.heap.size,sdS a0 c0 a1 c1 a2 c2 a3 c3 x) (by simp)).sz;clear hb)
  have H2:=Lib.hid (show TmAt w1.heap.size (w1.heap.size+1) 0 0 (.map []) (.map []) (aE_ (x.inside.take 0)) (aE_ (x.member.take 0)) [] [(w.heap.size,sdS a0 c0 a1 c1 a2 c2 a3 c3 x)] w ((w1.alloc (.map #[] 0)).alloc (.map #[] 0)) from by
   have h1:=(H1.out.al (.map #[] 0)).al (.map #[] 0)
   have m1:=aP_ (World.ownsMap_made w1 Tryz.prog 3 rawE) ((Below.refl (w1.alloc (.map #[] 0)).heap.size _).alloc (Nat.le_refl _) (.map #[] 0))
   have m2:=World.ownsMap_made (w1.alloc (.map #[] 0)) Tryz.prog 3 rawE
   simp only[World.size_alloc] at m2
   exact⟨MoAt.start h1,m1,m2,⟨by omega,by omega,by omega⟩,by intro y hy;simp only[List.mem_cons,List.not_mem_nil,or_false] at hy;subst hy;simp only;omega,fun i _=>rfl,fun i _=>by simp[has_eq,aE_],fun i _=>rfl,fun i _=>by simp[has_eq,aE_]⟩)
  obtain⟨M1,hM1⟩:∃M,M=w1.heap.size:=⟨_,rfl⟩
  obtain⟨W0,hW0⟩:∃W,W=(w1.alloc (.map #[] 0)).alloc (.map #[] 0):=⟨_,rfl⟩
  rw[←hM1,←hW0] at H2
  rw[←hM1,←hW0]
  have HI:=Lib.hid HX.out.i
  clear hM1 hW0 H1 H0 y1 hz
  go_loopw [28] (fun v28 wr=>∃(k:Nat) (D1:DataW Value),k≤x.inside.length∧v28=.int .i64 (k:Int)∧TmAt M1 (M1+1) k 0 D1 (.map []) (aE_ (x.inside.take k)) (aE_ (x.member.take 0)) [] [(w.heap.size,sdS a0 c0 a1 c1 a2 c2 a3 c3 x)] w wr) (fun v28 _=>x.inside.length-(intOf v28).toNat)
  case atStart=>exact⟨0,_,Nat.zero_le _,rfl,H2.out⟩
  case round=>
   obtain⟨k,D1,hk,rfl,hm⟩:=hrel
   have H3:=Lib.hid hm
   clear hm H2
   by_cases hkn:k<x.inside.length
   case pos=>
    have t9:decide ((k:Int)<(x.inside.length:Int))=true:=decide_eq_true (by omega)
    obtain⟨p,hp⟩:∃p,x.inside[k]?=some p:=⟨_,List.getElem?_eq_getElem hkn⟩
    have hkey:=uO_ HV.out (List.mem_of_getElem? hp)
    have hstep:=kK_ hp
    obtain⟨p1,p2⟩:=p
    obtain⟨b,o,rfl,hb7,d0,d1⟩:=(HS.out.i.below H3.out.mo.az.bw).row k _ hp
    simp only at d0 d1 hkey hstep
    have H4:=Lib.hid (H3.out.push [.int .i64 p1,.int .i64 p2] 58)
    have HST:=Lib.hid (And.intro hkey hstep)
    have hl6:=HI.out
    clear hp hkey hstep
    go_wp2_with (first
     | (at_mapUpdate;refine wpList_mapUpdate_own _ rfl _ _ _ 103 rfl 3 3 bG_ Tryz.underlying103 rawE M1 k D1 rfl H4.out.m1 (by unfold maxLen;omega) _ _ (.int .i64 p1) rfl rfl (keyOf_int_mk Tryz.underlying3 (wf_i64 HST.out.1)) (.held (.int .i64 p2)) [] rfl ?_;intro w5 hown5 hgrow5;have H5:=Lib.hid (H4.out.put1 hown5 hgrow5);clear hown5 hgrow5)
     | fail)
    have h5:=H5.out.sub (L':=[(w.heap.size,sdS a0 c0 (some ⟨b,o,none⟩) c1 a2 c2 a3 c3 x)]) (by simp)
    rw[HST.out.2] at h5
    exact⟨⟨k+1,_,by omega,by go_num,h5⟩,by simp only[intOf];omega⟩
   case neg=>
    obtain rfl:k=x.inside.length:=by omega
    have t9:decide ((x.inside.length:Int)<(x.inside.length:Int))=false:=decide_eq_false (by omega)
    have y2:=H3.out.mo.az.ce 0 2 rfl rfl
    have H3':=Lib.hid (show TmAt M1 (M1+1) x.inside.length 0 D1 (.map []) (aE_ x.inside) (aE_ (x.member.take 0)) [] [(w.heap.size,sdS a0 c0 a1 c1 a2 c2 a3 c3 x)] w wr from by have h:=H3.out;rw[List.take_length] at h;exact h)
    have HM:=Lib.hid HX.out.m
    clear H3 HI
    go_wp2
    obtain⟨ni,hni⟩:∃n,n=x.inside.length:=⟨_,rfl⟩
    go_loopw [41] (fun v41 wi=>∃(k:Nat) (D2:DataW Value),k≤x.member.length∧v41=.int .i64 (k:Int)∧TmAt M1 (M1+1) x.inside.length k D1 D2 (aE_ x.inside) (aE_ (x.member.take k)) [] [(w.heap.size,sdS a0 c0 a1 c1 a2 c2 a3 c3 x)] w wi) (fun v41 _=>x.member.length-(intOf v41).toNat)
    case atStart=>exact⟨0,_,Nat.zero_le _,rfl,H3'.out⟩
    case round=>
     obtain⟨k,D2,hk,rfl,hm⟩:=hrel
     have H3:=Lib.hid hm
     clear hm H3' y2
     by_cases hkn:k<x.member.length
     case pos=>
      have t9:decide ((k:Int)<(x.member.length:Int))=true:=decide_eq_true (by omega)
      obtain⟨p,hp⟩:∃p,x.member[k]?=some p:=⟨_,List.getElem?_eq_getElem hkn⟩
      have hkey:=uN_ HV.out (List.mem_of_getElem? hp)
      have hstep:=kK_ hp
      obtain⟨p1,p2⟩:=p
      obtain⟨b,o,rfl,hb7,d0,d1⟩:=(HS.out.m.below H3.out.mo.az.bw).row k _ hp
      simp only at d0 d1 hkey hstep
      have H4:=Lib.hid (H3.out.push [.int .i64 p1,.int .i64 p2] 58)
      have HST:=Lib.hid (And.intro hkey hstep)
      have hl6:=HM.out
      clear hp hkey hstep
      go_wp2_with (first
       | (at_mapUpdate;refine wpList_mapUpdate_own _ rfl _ _ _ 103 rfl 3 3 bG_ Tryz.underlying103 rawE (M1+1) k D2 rfl H4.out.m2 (by unfold maxLen;omega) _ _ (.int .i64 p1) rfl rfl (keyOf_int_mk Tryz.underlying3 (wf_i64 HST.out.1)) (.held (.int .i64 p2)) [] rfl ?_;intro w5 hown5 hgrow5;have H5:=Lib.hid (H4.out.put2 hown5 hgrow5);clear hown5 hgrow5)
       | fail)
      have h5:=H5.out.sub (L':=[(w.heap.size,sdS a0 c0 a1 c1 (some ⟨b,o,none⟩) c2 a3 c3 x)]) (by simp)
      rw[HST.out.2] at h5
      exact⟨⟨k+1,_,by omega,by go_num,h5⟩,by simp only[intOf];omega⟩
     case neg=>
      obtain rfl:k=x.member.length:=by omega
      have t9:decide ((x.member.length:Int)<(x.member.length:Int))=false:=decide_eq_false (by omega)
      have y0:=H3.out.mo.az.ce 0 0 rfl rfl
      have H3':=Lib.hid (show TmAt M1 (M1+1) x.inside.length x.member.length D1 D2 (aE_ x.inside) (aE_ x.member) [⟨9,1,.slice none 0 0,(aB_ x 0).length,ucC (aB_ x 0)⟩] [(w.heap.size,sdS a0 c0 a1 c1 a2 c2 a3 c3 x)] w wr from by have h:=H3.out;rw[List.take_length] at h;exact h.rows (h.mo.addNil _ _))
      clear H3 HM
      go_wp2
      go_loopw [10,54] (fun v10 v54 wi=>∃k:Nat,k≤x.shapes.length∧v54=.int .i64 (k:Int)∧TmAt M1 (M1+1) x.inside.length x.member.length D1 D2 (aE_ x.inside) (aE_ x.member) [⟨9,1,v10,(aB_ x k).length,ucC (aB_ x k)⟩] [(w.heap.size,sdS a0 c0 a1 c1 a2 c2 a3 c3 x)] w wi) (fun _ v54 _=>x.shapes.length-(intOf v54).toNat)
      case atStart=>exact⟨0,Nat.zero_le _,rfl,H3'.out⟩
      case round=>
       obtain⟨k,hk,rfl,hm⟩:=hrel
       have H3:=Lib.hid hm
       clear hm H3' y0
       by_cases hkn:k<x.shapes.length
       case pos=>
        as_aux_lemma=>
         have t9:decide ((k:Int)<(x.shapes.length:Int))=true:=decide_eq_true (by omega)
         obtain⟨s,hs⟩:∃s,x.shapes[k]?=some s:=⟨_,List.getElem?_eq_getElem hkn⟩
         have hsm:=List.mem_of_getElem? hs
         have HST:=Lib.hid (pC_ hs)
         have hcd:=uR_ HV.out hsm
         have hfm:=uQ_ HV.out hsm
         have hin:=fun n=>aDF HV.out hsm (n:=n)
         have hmm2:=fun n=>zH_ HV.out hsm (n:=n)
         have HLN:=Lib.hid (zI_ HV.out hsm)
         obtain⟨cd,kd,rc,pa,pb,wd⟩:=s
         obtain⟨b,o,rfl,hb7,d0,d1,d2,d3,d4,d5,d6,d7,d8,d9,d10⟩:=(HS.out.s.below H3.out.mo.az.bw).sh hs
         simp only at d0 d1 d2 d3 d4 d5 d6 d7 d8 d9 d10 hcd hfm hin hmm2
         have hci:aC_ cd:=by unfold aC_;omega
         obtain⟨io,hio⟩:∃io,io=aE_ x.inside cd:=⟨_,rfl⟩
         obtain⟨mo,hmo⟩:∃mo,mo=aE_ x.member cd:=⟨_,rfl⟩
         rw[←hio] at hin
         rw[←hmo] at hmm2
         have HIT:=Lib.hid (show itOf x ⟨cd,kd,rc,pa,pb,wd⟩=⟨kd,cd,wd.data.toList,io,mo⟩ from by rw[hio,hmo];rfl)
         have HIO:=Lib.hid (And.intro hio (And.intro hmo (And.intro hcd (And.intro hfm (And.intro hin (And.intro hmm2 hci))))))
         have H4:=Lib.hid (H3.out.push (shC ⟨cd,kd,rc,pa,pb,wd⟩) 30)
         have KN:=Lib.hid (fun W=>vW_ W)
         have KC:=Lib.hid (fun(W:World) (hb:Below w.heap.size w W)=>dC_ cd W (HT.out.below hb) (by omega) (by omega))
         clear hs hsm hcd hfm hin hmm2 hci hio hmo
         go_upto_region 18 with fail
         go_cut [13] from 58 to 106 (fun v13 wX=>TmAt M1 (M1+1) x.inside.length x.member.length D1 D2 (aE_ x.inside) (aE_ x.member) [⟨9,1,v13,([aL_ kd,txt cd]).length,ucC (([aL_ kd,txt cd]).map baL)⟩,⟨9,1,u10,(aB_ x k).length,ucC (aB_ x k)⟩] [(wr.heap.size,shC ⟨cd,kd,rc,pa,pb,wd⟩),(w.heap.size,sdS (some ⟨b,o,none⟩) c0 a1 c1 a2 c2 a3 c3 x)] w wX)
         case first=>
          as_aux_lemma=>
           have hk5:kd=1∨kd=2∨kd=3∨kd=4∨kd=5:=by
            have h:=HIO.out.2.2.2.1
            unfold bS_ at h
            by_cases h4:kd=4
            ·omega
            ·rw[if_neg h4] at h
             simp only[Bool.and_eq_true,decide_eq_true_eq] at h
             omega
           rcases hk5 with rfl|rfl|rfl|rfl|rfl
           ·refine bY_ (A:=?fr1) 7 65 2 _ (fun W=>TmAt M1 (M1+1) x.inside.length x.member.length D1 D2 (aE_ x.inside) (aE_ x.member) [⟨9,1,u10,(aB_ x k).length,ucC (aB_ x k)⟩] [(wr.heap.size,shC ⟨cd,1,rc,pa,pb,wd⟩),(w.heap.size,sdS (some ⟨b,o,none⟩) c0 a1 c1 a2 c2 a3 c3 x)] w W) (fun B W=>TmAt M1 (M1+1) x.inside.length x.member.length D1 D2 (aE_ x.inside) (aE_ x.member) [⟨9,1,(.slice (some ⟨B,0,none⟩) 2 2),([aL_ 1,txt cd]).length,ucC (([aL_ 1,txt cd]).map baL)⟩,⟨9,1,u10,(aB_ x k).length,ucC (aB_ x k)⟩] [(wr.heap.size,shC ⟨cd,1,rc,pa,pb,wd⟩),(w.heap.size,sdS (some ⟨b,o,none⟩) c0 a1 c1 a2 c2 a3 c3 x)] w W) (by kernel_rfl) (by kernel_rfl) ⟨rfl,rfl,rfl⟩ (fun U V h hb=>h.below hb) (fun B U V h hb=>h.below hb) (fun W hb=>H4.out.below hb) ?h ?s1 ?ht
            case h=>
             intro U hU
             have hz:AzAt [(wr.heap.size,shC ⟨cd,1,rc,pa,pb,wd⟩),(w.heap.size,sdS (some ⟨b,o,none⟩) c0 a1 c1 a2 c2 a3 c3 x)] w U:=by
              rcases hU with h|⟨B,h⟩
              ·exact h.mo.az
              ·exact h.mo.az
             have z0:=cell_regrown (hz.ce 0 0 rfl rfl)
             have z1:=cell_regrown (hz.ce 0 1 rfl rfl)
             have ix:=nY_
             have c1:=fun d os=>Calls.regrown_of (d:=d) (os:=os) (KN.out (grow (redrawn U d) os))
             have c2:=fun d os=>Calls.regrown_of (d:=d) (os:=os) (KC.out (grow (redrawn U d) os) (hz.bw.trans ((below_regrown U d os).mono hz.bw.size)))
             clear hU hz
             simp only[List.take_succ_cons,List.take_zero]
             repeat (go_big_quiet_step (with_reducible first|exact c1 _ _|exact c2 _ _))
             refine wpQuiet_nil ?_
             rfl
            case s1=>
             intro W hW
             refine⟨_,?_,hW.lit 9 1 2 (ucC (([aL_ 1,txt cd]).map baL)) rfl (by omega)⟩
             simp[go_sem]
             rfl
            case ht=>
             intro B W hW
             simp only[List.drop_succ_cons,List.drop_zero]
             go_wp2
             go_meet
             exact hW
           ·refine bY_ (A:=?fr2) 7 65 2 _ (fun W=>TmAt M1 (M1+1) x.inside.length x.member.length D1 D2 (aE_ x.inside) (aE_ x.member) [⟨9,1,u10,(aB_ x k).length,ucC (aB_ x k)⟩] [(wr.heap.size,shC ⟨cd,2,rc,pa,pb,wd⟩),(w.heap.size,sdS (some ⟨b,o,none⟩) c0 a1 c1 a2 c2 a3 c3 x)] w W) (fun B W=>TmAt M1 (M1+1) x.inside.length x.member.length D1 D2 (aE_ x.inside) (aE_ x.member) [⟨9,1,(.slice (some ⟨B,0,none⟩) 2 2),([aL_ 2,txt cd]).length,ucC (([aL_ 2,txt cd]).map baL)⟩,⟨9,1,u10,(aB_ x k).length,ucC (aB_ x k)⟩] [(wr.heap.size,shC ⟨cd,2,rc,pa,pb,wd⟩),(w.heap.size,sdS (some ⟨b,o,none⟩) c0 a1 c1 a2 c2 a3 c3 x)] w W) (by kernel_rfl) (by kernel_rfl) ⟨rfl,rfl,rfl⟩ (fun U V h hb=>h.below hb) (fun B U V h hb=>h.below hb) (fun W hb=>H4.out.below hb) ?h ?s1 ?ht
            case h=>
             intro U hU
             have hz:AzAt [(wr.heap.size,shC ⟨cd,2,rc,pa,pb,wd⟩),(w.heap.size,sdS (some ⟨b,o,none⟩) c0 a1 c1 a2 c2 a3 c3 x)] w U:=by
              rcases hU with h|⟨B,h⟩
              ·exact h.mo.az
              ·exact h.mo.az
             have z0:=cell_regrown (hz.ce 0 0 rfl rfl)
             have z1:=cell_regrown (hz.ce 0 1 rfl rfl)
             have ix:=nX_
             have c1:=fun d os=>Calls.regrown_of (d:=d) (os:=os) (KN.out (grow (redrawn U d) os))
             have c2:=fun d os=>Calls.regrown_of (d:=d) (os:=os) (KC.out (grow (redrawn U d) os) (hz.bw.trans ((below_regrown U d os).mono hz.bw.size)))
             clear hU hz
             simp only[List.take_succ_cons,List.take_zero]
             repeat (go_big_quiet_step (with_reducible first|exact c1 _ _|exact c2 _ _))
             refine wpQuiet_nil ?_
             rfl
            case s1=>
             intro W hW
             refine⟨_,?_,hW.lit 9 1 2 (ucC (([aL_ 2,txt cd]).map baL)) rfl (by omega)⟩
             simp[go_sem]
             rfl
            case ht=>
             intro B W hW
             simp only[List.drop_succ_cons,List.drop_zero]
             go_wp2
             go_meet
             exact hW
           ·refine bY_ (A:=?fr3) 7 65 2 _ (fun W=>TmAt M1 (M1+1) x.inside.length x.member.length D1 D2 (aE_ x.inside) (aE_ x.member) [⟨9,1,u10,(aB_ x k).length,ucC (aB_ x k)⟩] [(wr.heap.size,shC ⟨cd,3,rc,pa,pb,wd⟩),(w.heap.size,sdS (some ⟨b,o,none⟩) c0 a1 c1 a2 c2 a3 c3 x)] w W) (fun B W=>TmAt M1 (M1+1) x.inside.length x.member.length D1 D2 (aE_ x.inside) (aE_ x.member) [⟨9,1,(.slice (some ⟨B,0,none⟩) 2 2),([aL_ 3,txt cd]).length,ucC (([aL_ 3,txt cd]).map baL)⟩,⟨9,1,u10,(aB_ x k).length,ucC (aB_ x k)⟩] [(wr.heap.size,shC ⟨cd,3,rc,pa,pb,wd⟩),(w.heap.size,sdS (some ⟨b,o,none⟩) c0 a1 c1 a2 c2 a3 c3 x)] w W) (by kernel_rfl) (by kernel_rfl) ⟨rfl,rfl,rfl⟩ (fun U V h hb=>h.below hb) (fun B U V h hb=>h.below hb) (fun W hb=>H4.out.below hb) ?h ?s1 ?ht
            case h=>
             intro U hU
             have hz:AzAt [(wr.heap.size,shC ⟨cd,3,rc,pa,pb,wd⟩),(w.heap.size,sdS (some ⟨b,o,none⟩) c0 a1 c1 a2 c2 a3 c3 x)] w U:=by
              rcases hU with h|⟨B,h⟩
              ·exact h.mo.az
              ·exact h.mo.az
             have z0:=cell_regrown (hz.ce 0 0 rfl rfl)
             have z1:=cell_regrown (hz.ce 0 1 rfl rfl)
             have ix:=nW_
             have c1:=fun d os=>Calls.regrown_of (d:=d) (os:=os) (KN.out (grow (redrawn U d) os))
             have c2:=fun d os=>Calls.regrown_of (d:=d) (os:=os) (KC.out (grow (redrawn U d) os) (hz.bw.trans ((below_regrown U d os).mono hz.bw.size)))
             clear hU hz
             simp only[List.take_succ_cons,List.take_zero]
             repeat (go_big_quiet_step (with_reducible first|exact c1 _ _|exact c2 _ _))
             refine wpQuiet_nil ?_
             rfl
            case s1=>
             intro W hW
             refine⟨_,?_,hW.lit 9 1 2 (ucC (([aL_ 3,txt cd]).map baL)) rfl (by omega)⟩
             simp[go_sem]
             rfl
            case ht=>
             intro B W hW
             simp only[List.drop_succ_cons,List.drop_zero]
             go_wp2
             go_meet
             exact hW
           ·refine bY_ (A:=?fr4) 7 65 2 _ (fun W=>TmAt M1 (M1+1) x.inside.length x.member.length D1 D2 (aE_ x.inside) (aE_ x.member) [⟨9,1,u10,(aB_ x k).length,ucC (aB_ x k)⟩] [(wr.heap.size,shC ⟨cd,4,rc,pa,pb,wd⟩),(w.heap.size,sdS (some ⟨b,o,none⟩) c0 a1 c1 a2 c2 a3 c3 x)] w W) (fun B W=>TmAt M1 (M1+1) x.inside.length x.member.length D1 D2 (aE_ x.inside) (aE_ x.member) [⟨9,1,(.slice (some ⟨B,0,none⟩) 2 2),([aL_ 4,txt cd]).length,ucC (([aL_ 4,txt cd]).map baL)⟩,⟨9,1,u10,(aB_ x k).length,ucC (aB_ x k)⟩] [(wr.heap.size,shC ⟨cd,4,rc,pa,pb,wd⟩),(w.heap.size,sdS (some ⟨b,o,none⟩) c0 a1 c1 a2 c2 a3 c3 x)] w W) (by kernel_rfl) (by kernel_rfl) ⟨rfl,rfl,rfl⟩ (fun U V h hb=>h.below hb) (fun B U V h hb=>h.below hb) (fun W hb=>H4.out.below hb) ?h ?s1 ?ht
            case h=>
             intro U hU
             have hz:AzAt [(wr.heap.size,shC ⟨cd,4,rc,pa,pb,wd⟩),(w.heap.size,sdS (some ⟨b,o,none⟩) c0 a1 c1 a2 c2 a3 c3 x)] w U:=by
              rcases hU with h|⟨B,h⟩
              ·exact h.mo.az
              ·exact h.mo.az
             have z0:=cell_regrown (hz.ce 0 0 rfl rfl)
             have z1:=cell_regrown (hz.ce 0 1 rfl rfl)
             have ix:=nV_
             have c1:=fun d os=>Calls.regrown_of (d:=d) (os:=os) (KN.out (grow (redrawn U d) os))
             have c2:=fun d os=>Calls.regrown_of (d:=d) (os:=os) (KC.out (grow (redrawn U d) os) (hz.bw.trans ((below_regrown U d os).mono hz.bw.size)))
             clear hU hz
             simp only[List.take_succ_cons,List.take_zero]
             repeat (go_big_quiet_step (with_reducible first|exact c1 _ _|exact c2 _ _))
             refine wpQuiet_nil ?_
             rfl
            case s1=>
             intro W hW
             refine⟨_,?_,hW.lit 9 1 2 (ucC (([aL_ 4,txt cd]).map baL)) rfl (by omega)⟩
             simp[go_sem]
             rfl
            case ht=>
             intro B W hW
             simp only[List.drop_succ_cons,List.drop_zero]
             go_wp2
             go_meet
             exact hW
           ·refine bY_ (A:=?fr5) 7 65 2 _ (fun W=>TmAt M1 (M1+1) x.inside.length x.member.length D1 D2 (aE_ x.inside) (aE_ x.member) [⟨9,1,u10,(aB_ x k).length,ucC (aB_ x k)⟩] [(wr.heap.size,shC ⟨cd,5,rc,pa,pb,wd⟩),(w.heap.size,sdS (some ⟨b,o,none⟩) c0 a1 c1 a2 c2 a3 c3 x)] w W) (fun B W=>TmAt M1 (M1+1) x.inside.length x.member.length D1 D2 (aE_ x.inside) (aE_ x.member) [⟨9,1,(.slice (some ⟨B,0,none⟩) 2 2),([aL_ 5,txt cd]).length,ucC (([aL_ 5,txt cd]).map baL)⟩,⟨9,1,u10,(aB_ x k).length,ucC (aB_ x k)⟩] [(wr.heap.size,shC ⟨cd,5,rc,pa,pb,wd⟩),(w.heap.size,sdS (some ⟨b,o,none⟩) c0 a1 c1 a2 c2 a3 c3 x)] w W) (by kernel_rfl) (by kernel_rfl) ⟨rfl,rfl,rfl⟩ (fun U V h hb=>h.below hb) (fun B U V h hb=>h.below hb) (fun W hb=>H4.out.below hb) ?h ?s1 ?ht
            case h=>
             intro U hU
             have hz:AzAt [(wr.heap.size,shC ⟨cd,5,rc,pa,pb,wd⟩),(w.heap.size,sdS (some ⟨b,o,none⟩) c0 a1 c1 a2 c2 a3 c3 x)] w U:=by
              rcases hU with h|⟨B,h⟩
              ·exact h.mo.az
              ·exact h.mo.az
             have z0:=cell_regrown (hz.ce 0 0 rfl rfl)
             have z1:=cell_regrown (hz.ce 0 1 rfl rfl)
             have ix:=nU_
             have c1:=fun d os=>Calls.regrown_of (d:=d) (os:=os) (KN.out (grow (redrawn U d) os))
             have c2:=fun d os=>Calls.regrown_of (d:=d) (os:=os) (KC.out (grow (redrawn U d) os) (hz.bw.trans ((below_regrown U d os).mono hz.bw.size)))
             clear hU hz
             simp only[List.take_succ_cons,List.take_zero]
             repeat (go_big_quiet_step (with_reducible first|exact c1 _ _|exact c2 _ _))
             refine wpQuiet_nil ?_
             rfl
            case s1=>
             intro W hW
             refine⟨_,?_,hW.lit 9 1 2 (ucC (([aL_ 5,txt cd]).map baL)) rfl (by omega)⟩
             simp[go_sem]
             rfl
            case ht=>
             intro B W hW
             simp only[List.drop_succ_cons,List.drop_zero]
             go_wp2
             go_meet
             exact hW
         case rest=>
         as_aux_lemma=>
          have H5:=Lib.hid hcut
          clear hcut
          have e1:(wd.toList == [])=decide (wd.data.toList=[]):=by rw[ByteArray.toList_eq];cases wd.data.toList <;> rfl
          obtain⟨wq,hwq⟩:∃q,q=decide (wd.data.toList=[]):=⟨_,rfl⟩
          have HWQ:=Lib.hid hwq
          rw[←hwq] at e1
          have y10:=H5.out.mo.az.ce 0 10 rfl rfl
          clear hwq
          go_upto_if 68 with fail
          go_cut [13] from 69 to 106 (fun v13 wX=>TmAt M1 (M1+1) x.inside.length x.member.length D1 D2 (aE_ x.inside) (aE_ x.member) [⟨9,1,v13,([aL_ kd,txt cd]++(if wd.data.toList=[] then [] else [bZ_,wd.data.toList])).length,ucC (([aL_ kd,txt cd]++(if wd.data.toList=[] then [] else [bZ_,wd.data.toList])).map baL)⟩,⟨9,1,u10,(aB_ x k).length,ucC (aB_ x k)⟩] [(wr.heap.size,shC ⟨cd,kd,rc,pa,pb,wd⟩),(w.heap.size,sdS (some ⟨b,o,none⟩) c0 a1 c1 a2 c2 a3 c3 x)] w wX)
          case first=>
           as_aux_lemma=>
            cases wq with
            | true=>
             have hw0:wd.data.toList=[]:=of_decide_eq_true HWQ.out.symm
             have HW0:=Lib.hid hw0
             clear hw0
             go_wp2
             go_meet
             exact H5.out.as (by rw[if_pos HW0.out];rfl) (by rw[if_pos HW0.out];rfl)
            | false=>
             have hw0:¬wd.data.toList=[]:=of_decide_eq_false HWQ.out.symm
             have HW0:=Lib.hid hw0
             have HA:=Lib.hid (H5.out.push (ucC [⟨#[114,101,97,100,115]⟩,wd]) 9)
             clear hw0
             go_wp2_with (first
              | (at_builtin;refine pY_ rfl _ _ rfl HA.out rfl _ 2 2 [⟨#[114,101,97,100,115]⟩,wd] rfl (by simp) rfl (by simp) ?_;intro v' W' h';have HB:=Lib.hid h';clear h')
              | fail)
             go_meet
             exact(HB.out.sub (L':=[(wr.heap.size,shC ⟨cd,kd,rc,pa,pb,wd⟩),(w.heap.size,sdS (some ⟨b,o,none⟩) c0 a1 c1 a2 c2 a3 c3 x)]) (by simp)).as (by rw[if_neg HW0.out];rfl) (by rw[if_neg HW0.out,List.map_append];show _=_++[baL bZ_,baL wd.data.toList];rw[aBO];rfl)
          case rest=>
          as_aux_lemma=>
           have H6:=Lib.hid hcut
           clear hcut H5 y10 e1
           obtain⟨lw2,hlw2⟩:∃l,l=[aL_ kd,txt cd]++(if wd.data.toList=[] then [] else [bZ_,wd.data.toList]):=⟨_,rfl⟩
           have Hlw2:=Lib.hid hlw2
           rw[←hlw2] at H6
           have HLW2:=Lib.hid (show lw2.length≤10 from by rw[hlw2,List.length_append];split <;> simp)
           clear hlw2
           have hlki:=H6.out.look1 HIO.out.2.2.2.2.2.2
           have y0:=H6.out.mo.az.ce 0 0 rfl rfl
           rw[←HIO.out.1] at hlki
           go_upto_if 81 with fail
           go_cut [13] from 82 to 106 (fun v13 wX=>TmAt M1 (M1+1) x.inside.length x.member.length D1 D2 (aE_ x.inside) (aE_ x.member) [⟨9,1,v13,(lw2++iT_ io).length,ucC ((lw2++iT_ io).map baL)⟩,⟨9,1,u10,(aB_ x k).length,ucC (aB_ x k)⟩] [(wr.heap.size,shC ⟨cd,kd,rc,pa,pb,wd⟩),(w.heap.size,sdS (some ⟨b,o,none⟩) c0 a1 c1 a2 c2 a3 c3 x)] w wX)
           case first=>
            as_aux_lemma=>
             cases io with
             | none=>
              go_wp2
              go_meet
              exact H6.out.as (by simp[iT_]) (by simp[iT_])
             | some z=>
              have hz:=HIO.out.2.2.2.2.1 z rfl
              have KZ:=Lib.hid (fun(W:World) (hb:Below w.heap.size w W)=>dC_ z W (HT.out.below hb) (by omega) (by omega))
              go_wp2_with (first
               | (go_at_call 51;(with_reducible refine(KZ.out _ H6.out.mo.az.bw).mono ?_);rintro e w6 ⟨rfl,hb6⟩;have HA:=Lib.hid ((H6.out.below hb6).push (ucC [⟨#[105,110]⟩,str z]) 9);clear hb6)
               | (at_builtin;refine pY_ rfl _ _ rfl HA.out rfl _ 2 2 [⟨#[105,110]⟩,str z] rfl (by simp) rfl (by have:=HLW2.out;omega) ?_;intro v' W' h';have HB:=Lib.hid h';clear h')
               | fail)
              go_meet
              exact(HB.out.sub (L':=[(wr.heap.size,shC ⟨cd,kd,rc,pa,pb,wd⟩),(w.heap.size,sdS (some ⟨b,o,none⟩) c0 a1 c1 a2 c2 a3 c3 x)]) (by simp)).as (by simp[iT_]) (by rw[List.map_append];rfl)
           case rest=>
           as_aux_lemma=>
            have H7:=Lib.hid hcut
            clear hcut H6
            obtain⟨lw3,hlw3⟩:∃l,l=lw2++iT_ io:=⟨_,rfl⟩
            have Hlw3:=Lib.hid hlw3
            rw[←hlw3] at H7
            have HLW3:=Lib.hid (show lw3.length≤12 from by rw[hlw3,List.length_append];have:=HLW2.out;cases io <;> simp[iT_] <;> omega)
            clear hlw3 hlki y0
            have hlkm:=H7.out.look2 HIO.out.2.2.2.2.2.2
            have y0:=H7.out.mo.az.ce 0 0 rfl rfl
            rw[←HIO.out.2.1] at hlkm
            go_upto_if 94 with fail
            go_cut [13] from 95 to 106 (fun v13 wX=>TmAt M1 (M1+1) x.inside.length x.member.length D1 D2 (aE_ x.inside) (aE_ x.member) [⟨9,1,v13,(lw3++ofW mo).length,ucC ((lw3++ofW mo).map baL)⟩,⟨9,1,u10,(aB_ x k).length,ucC (aB_ x k)⟩] [(wr.heap.size,shC ⟨cd,kd,rc,pa,pb,wd⟩),(w.heap.size,sdS (some ⟨b,o,none⟩) c0 a1 c1 a2 c2 a3 c3 x)] w wX)
            case first=>
             as_aux_lemma=>
              cases mo with
              | none=>
               go_wp2
               go_meet
               exact H7.out.as (by simp[ofW]) (by simp[ofW])
              | some z=>
               have hz:=HIO.out.2.2.2.2.2.1 z rfl
               have KZ:=Lib.hid (fun(W:World) (hb:Below w.heap.size w W)=>dC_ z W (HT.out.below hb) (by omega) (by omega))
               go_wp2_with (first
                | (go_at_call 51;(with_reducible refine(KZ.out _ H7.out.mo.az.bw).mono ?_);rintro e w6 ⟨rfl,hb6⟩;have HA:=Lib.hid ((H7.out.below hb6).push (ucC [⟨#[111,102,32,103,114,111,117,112]⟩,str z]) 9);clear hb6)
                | (at_builtin;refine pY_ rfl _ _ rfl HA.out rfl _ 2 2 [⟨#[111,102,32,103,114,111,117,112]⟩,str z] rfl (by simp) rfl (by have:=HLW3.out;omega) ?_;intro v' W' h';have HB:=Lib.hid h';clear h')
                | fail)
               go_meet
               exact(HB.out.sub (L':=[(wr.heap.size,shC ⟨cd,kd,rc,pa,pb,wd⟩),(w.heap.size,sdS (some ⟨b,o,none⟩) c0 a1 c1 a2 c2 a3 c3 x)]) (by simp)).as (by simp[ofW]) (by rw[List.map_append];rfl)
            case rest=>
            as_aux_lemma=>
             have H8:=Lib.hid hcut
             clear hcut H7
             obtain⟨lw4,hlw4⟩:∃l,l=lw3++ofW mo:=⟨_,rfl⟩
             have Hlw4:=Lib.hid hlw4
             rw[←hlw4] at H8
             have HLW4:=Lib.hid (show lw4.length≤14 from by rw[hlw4,List.length_append];have:=HLW3.out;cases mo <;> simp[ofW] <;> omega)
             clear hlw4 hlkm y0
             have hlw:lw4=aAB (itOf x ⟨cd,kd,rc,pa,pb,wd⟩):=by
              rw[Hlw4.out,Hlw3.out,Hlw2.out,HIT.out]
              unfold aAB iT_ ofW
              rfl
             have hj:dB_ 32 (bsL (lw4.map baL))=gT_ (fQ_ (itOf x ⟨cd,kd,rc,pa,pb,wd⟩)):=by rw[aEQ,hlw,sI_]
             have hjl:(dB_ 32 (bsL (lw4.map baL))).length≤60:=by rw[hj];exact HLN.out
             obtain⟨al,cl,hul,hcl,hle⟩:=H8.out.mo.slice (r:=⟨9,1,u13,lw4.length,ucC (lw4.map baL)⟩) (by simp)
             simp only at hul hcl hle
             subst hul
             have KJ:=Lib.hid (aCD (us:=lw4.map baL) (n:=lw4.length) (c:=cl) (by simp) (by omega) _ hcl (by have:=HLW4.out;omega) hle)
             have H9:=Lib.hid (H8.out.rows (H8.out.mo.rsub (List.sublist_cons_self _ _)))
             obtain⟨tj,htj⟩:∃t,t=baL (dB_ 32 (bsL (lw4.map baL))):=⟨_,rfl⟩
             have htz:tj.size≤60:=by
              rw[htj,dU_,rI_]
              exact hjl
             have HTJ:=Lib.hid (show tj++⟨#[46]⟩=baL (eP_ (fQ_ (itOf x ⟨cd,kd,rc,pa,pb,wd⟩))) from by rw[htj,hj];exact aET _ [46])
             rw[←htj] at KJ
             have h60:x.shapes.length≤60:=by have h:=HV.out;unfold cF_ at h;simp only[Bool.and_eq_true,decide_eq_true_eq] at h;exact h.1.1.1.1.1
             have H60:=Lib.hid h60
             have HLL:=Lib.hid (show(aB_ x k).length≤60 from by unfold aB_;rw[List.length_map,List.length_take];have:=H60.out;omega)
             clear hlw hj hjl hcl hle htj H8
             go_wp2_with (first
              | (go_at_call 52;(with_reducible refine(KJ.out).mono ?_);rintro e w7 ⟨rfl,hb7⟩;have HJ:=Lib.hid ((H9.out.below hb7).push (ucC [tj++⟨#[46]⟩]) 9);clear hb7)
              | (at_builtin;refine pY_ rfl _ _ rfl HJ.out rfl _ 1 1 [tj++⟨#[46]⟩] rfl (by simp) rfl (by have:=HLL.out;omega) ?_;intro v' W' h';have HB:=Lib.hid h';clear h')
              | fail)
             have hB2:=(HB.out.sub (L':=[(w.heap.size,sdS (some ⟨b,o,none⟩) c0 a1 c1 a2 c2 a3 c3 x)]) (by simp)).as (n':=(aB_ x (k+1)).length) (us':=aB_ x (k+1)) (by rw[HST.out,List.length_append];rfl) (by rw[HST.out,HTJ.out])
             exact⟨⟨k+1,by omega,by go_num,hB2⟩,by simp only[intOf];omega⟩
       case neg=>
        obtain rfl:k=x.shapes.length:=by omega
        have t9:decide ((x.shapes.length:Int)<(x.shapes.length:Int))=false:=decide_eq_false (by omega)
        have y3:=H3.out.mo.az.ce 0 3 rfl rfl
        have H3':=Lib.hid (show TmAt M1 (M1+1) x.inside.length x.member.length D1 D2 (aE_ x.inside) (aE_ x.member) [⟨9,1,u10,(aB_ x x.shapes.length++bD_ x 0).length,ucC (aB_ x x.shapes.length++bD_ x 0)⟩] [(w.heap.size,sdS a0 c0 a1 c1 a2 c2 a3 c3 x)] w wr from by
         have h:=H3.out
         rw[show aB_ x x.shapes.length++bD_ x 0=aB_ x x.shapes.length from List.append_nil _]
         exact h)
        have H60:=Lib.hid (show x.shapes.length≤60∧x.leads.length≤40 from by have h:=HV.out;unfold cF_ at h;simp only[Bool.and_eq_true,decide_eq_true_eq] at h;exact⟨h.1.1.1.1.1,h.1.1.1.1.2⟩)
        clear H3
        go_wp2
        go_loopw [10,110] (fun v10 v110 wi=>∃k:Nat,k≤x.leads.length∧v110=.int .i64 (k:Int)∧TmAt M1 (M1+1) x.inside.length x.member.length D1 D2 (aE_ x.inside) (aE_ x.member) [⟨9,1,v10,(aB_ x x.shapes.length++bD_ x k).length,ucC (aB_ x x.shapes.length++bD_ x k)⟩] [(w.heap.size,sdS a0 c0 a1 c1 a2 c2 a3 c3 x)] w wi) (fun _ v110 _=>x.leads.length-(intOf v110).toNat)
        case atStart=>exact⟨0,Nat.zero_le _,rfl,H3'.out⟩
        case round=>
         obtain⟨k,hk,rfl,hmL⟩:=hrel
         have H3:=Lib.hid hmL
         clear hmL H3' y3
         by_cases hkn:k<x.leads.length
         case pos=>
          as_aux_lemma=>
           have t9:decide ((k:Int)<(x.leads.length:Int))=true:=decide_eq_true (by omega)
           have h40:=H60.out.2
           obtain⟨l,hl⟩:∃l,x.leads[k]?=some l:=⟨_,List.getElem?_eq_getElem hkn⟩
           have hld:=uM_ HV.out (List.mem_of_getElem? hl)
           have HST:=Lib.hid (pD_ hl)
           obtain⟨l0,l1,l2⟩:=l
           obtain⟨b,o,rfl,hb7,d0,d1,d2⟩:=(HS.out.l.below H3.out.mo.az.bw).row k _ hl
           simp only at d0 d1 d2 hld
           have H4:=Lib.hid (H3.out.push [.int .i64 l0,.int .i64 l1,.int .i64 l2] 59)
           have K0:=Lib.hid (fun(W:World) (hb:Below w.heap.size w W)=>dC_ l0 W (HT.out.below hb) (by omega) (by omega))
           have K1:=Lib.hid (fun(W:World) (hb:Below w.heap.size w W)=>dC_ l1 W (HT.out.below hb) (by omega) (by omega))
           have K2:=Lib.hid (fun(W:World) (hb:Below w.heap.size w W)=>dC_ l2 W (HT.out.below hb) (by omega) (by omega))
           have hsz5:∀z:Int,0≤z→z≤39999→(str z).size≤5:=fun z h0 h1=>by rw[hV_];exact eE_ h0 h1
           have z0:=hsz5 l0 (by omega) (by omega)
           have z1:=hsz5 l1 (by omega) (by omega)
           have z2:=hsz5 l2 (by omega) (by omega)
           obtain⟨t0,ht0⟩:∃t,t=str l0:=⟨_,rfl⟩
           obtain⟨t1,ht1⟩:∃t,t=str l1:=⟨_,rfl⟩
           obtain⟨t2,ht2⟩:∃t,t=str l2:=⟨_,rfl⟩
           have HTX:=Lib.hid (show⟨#[97,114,114,111,119,32]⟩++t0++⟨#[32,108,101,97,100,115,32,102,114,111,109,32]⟩++t1++⟨#[32,116,111,32]⟩++t2++⟨#[46]⟩=baL (eP_ (gG_ (l0,l1,l2))) from by
            rw[ht0,ht1,ht2]
            unfold str
            apply congrArg ByteArray.mk
            unfold eP_ gT_ gG_
            simp[dB_]
            rfl)
           obtain⟨tx,htx⟩:∃t:ByteArray,t=⟨#[97,114,114,111,119,32]⟩++t0++⟨#[32,108,101,97,100,115,32,102,114,111,109,32]⟩++t1++⟨#[32,116,111,32]⟩++t2++⟨#[46]⟩:=⟨_,rfl⟩
           have HTXE:=Lib.hid htx
           rw[←htx] at HTX
           have HLL:=Lib.hid (show(aB_ x x.shapes.length++bD_ x k).length≤100 from by unfold aB_ bD_;rw[List.length_append,List.length_map,List.length_map,List.length_take,List.length_take];have:=H60.out;omega)
           rw[←ht0] at K0 z0
           rw[←ht1] at K1 z1
           rw[←ht2] at K2 z2
           clear hl hld ht0 ht1 ht2 hsz5 htx
           go_upto_region 32 with fail
           refine bX_ (A:=?frL) 16 130 131 1 _ _ (fun W=>TmAt M1 (M1+1) x.inside.length x.member.length D1 D2 (aE_ x.inside) (aE_ x.member) [⟨9,1,u10,(aB_ x x.shapes.length++bD_ x k).length,ucC (aB_ x x.shapes.length++bD_ x k)⟩] [(wr.heap.size,[.int .i64 l0,.int .i64 l1,.int .i64 l2]),(w.heap.size,sdS a0 c0 a1 c1 a2 c2 (some ⟨b,o,none⟩) c3 x)] w W) (fun B W=>TmAt M1 (M1+1) x.inside.length x.member.length D1 D2 (aE_ x.inside) (aE_ x.member) [⟨9,1,u10,(aB_ x x.shapes.length++bD_ x k).length,ucC (aB_ x x.shapes.length++bD_ x k)⟩] ((B,ucC [tx])::[(wr.heap.size,[.int .i64 l0,.int .i64 l1,.int .i64 l2]),(w.heap.size,sdS a0 c0 a1 c1 a2 c2 (some ⟨b,o,none⟩) c3 x)]) w W) (fun B v W=>TmAt M1 (M1+1) x.inside.length x.member.length D1 D2 (aE_ x.inside) (aE_ x.member) [⟨9,1,v,(aB_ x x.shapes.length++bD_ x k).length+1,ucC (aB_ x x.shapes.length++bD_ x k++[tx])⟩] ((B,ucC [tx])::[(wr.heap.size,[.int .i64 l0,.int .i64 l1,.int .i64 l2]),(w.heap.size,sdS a0 c0 a1 c1 a2 c2 (some ⟨b,o,none⟩) c3 x)]) w W) (by kernel_rfl) (by kernel_rfl) ⟨rfl,rfl,rfl⟩ ⟨rfl,rfl,rfl⟩ (fun U V h hb=>h.below hb) (fun B U V h hb=>h.below hb) (fun B v U V h hb=>h.below hb) (fun W hb=>H4.out.below hb) ?h ?s1 ?s2 ?ht
           case h=>
            intro U hU
            have hz:AzAt [(wr.heap.size,[.int .i64 l0,.int .i64 l1,.int .i64 l2]),(w.heap.size,sdS a0 c0 a1 c1 a2 c2 (some ⟨b,o,none⟩) c3 x)] w U:=by
             rcases hU with h|⟨B,h⟩|⟨B,v,h⟩
             ·exact h.mo.az
             ·exact h.mo.az.sub (fun y hy=>List.mem_cons_of_mem _ hy)
             ·exact h.mo.az.sub (fun y hy=>List.mem_cons_of_mem _ hy)
            have x0:=cell_regrown (hz.ce 0 0 rfl rfl)
            have x1:=cell_regrown (hz.ce 0 1 rfl rfl)
            have x2:=cell_regrown (hz.ce 0 2 rfl rfl)
            have c7:=fun d os=>Calls.regrown_of (d:=d) (os:=os) (K0.out (grow (redrawn U d) os) (hz.bw.trans ((below_regrown U d os).mono hz.bw.size)))
            have c8:=fun d os=>Calls.regrown_of (d:=d) (os:=os) (K1.out (grow (redrawn U d) os) (hz.bw.trans ((below_regrown U d os).mono hz.bw.size)))
            have c9:=fun d os=>Calls.regrown_of (d:=d) (os:=os) (K2.out (grow (redrawn U d) os) (hz.bw.trans ((below_regrown U d os).mono hz.bw.size)))
            clear hU hz
            simp only[List.take_succ_cons,List.take_zero]
            repeat (go_big_quiet_step (with_reducible first|exact c7 _ _|exact c8 _ _|exact c9 _ _))
            refine wpQuiet_nil ?_
            rfl
           case s1=>
            intro W hW
            refine⟨_,?_,hW.push (ucC [tx]) 9⟩
            rw[HTXE.out]
            simp[go_sem]
            rfl
           case s2=>
            intro B W hW
            obtain⟨v,W',hrun,hW2⟩:=hW.app B 1 1 [tx] (by simp) rfl (by have:=HLL.out;omega) 66
            refine⟨v,W',?_,hW2⟩
            simp[execOp,resolve,invoke,builtin,Act.put,Act.eval,hrun,Result.andThen]
           case ht=>
            intro B v W hW
            have HW:=Lib.hid hW
            clear hW
            simp only[List.drop_succ_cons,List.drop_zero]
            go_wp2
            have hB2:=(HW.out.sub (L':=[(w.heap.size,sdS a0 c0 a1 c1 a2 c2 (some ⟨b,o,none⟩) c3 x)]) (by simp)).as (n':=(aB_ x x.shapes.length++bD_ x (k+1)).length) (us':=aB_ x x.shapes.length++bD_ x (k+1)) (by simp only[HST.out,List.length_append,List.length_cons,List.length_nil];omega) (by rw[HST.out,HTX.out,List.append_assoc])
            exact⟨⟨k+1,by omega,by go_num,hB2⟩,by simp only[intOf];omega⟩
         case neg=>
          obtain rfl:k=x.leads.length:=by omega
          have t9:decide ((x.leads.length:Int)<(x.leads.length:Int))=false:=decide_eq_false (by omega)
          obtain⟨al,cl,hul,hcl,hle⟩:=H3.out.mo.slice (r:=⟨9,1,u10,(aB_ x x.shapes.length++bD_ x x.leads.length).length,ucC (aB_ x x.shapes.length++bD_ x x.leads.length)⟩) (by simp)
          simp only at hul hcl hle
          obtain⟨nl,hnl⟩:∃n,n=(aB_ x x.shapes.length++bD_ x x.leads.length).length:=⟨_,rfl⟩
          rw[←hnl] at hul hle
          subst hul
          have hjl:(dB_ 32 (bsL (aB_ x x.shapes.length++bD_ x x.leads.length))).length≤1000000:=by
           rw[oB_]
           have:=(cP_ HV.out).1.text_len
           unfold yV_
           omega
          have KJ:=Lib.hid (aCD (us:=aB_ x x.shapes.length++bD_ x x.leads.length) (n:=nl) (c:=cl) hnl.symm hjl _ hcl (by rw[hnl];unfold aB_ bD_;rw[List.length_append,List.length_map,List.length_map,List.length_take,List.length_take];have:=H60.out;omega) hle)
          rw[oB_] at KJ
          clear hcl hle hjl hnl
          go_wp2_with (first
           | (go_at_call 52;(with_reducible refine(KJ.out).mono ?_);rintro e w7 ⟨rfl,hb7⟩;have HJ:=Lib.hid (H3.out.below hb7);clear hb7)
           | fail)
          go_ret2
          exact⟨by first|rfl|simp,HJ.out.mo.az.bw⟩
end Go.Proofs.YtdkaohphbgdkpaaGreatDoor
namespace Go.Proofs.YtdkaohphbgdkpaaGreatDoor
open Go.RowKit Go.Shelf
theorem cO_ {want ws:List Bs} {n:Int} (h:takN want ws=some n):∃w r,ws=want++w::r∧numK w=some n:=by
 unfold takN at h
 split at h
 next hc=>
  obtain⟨h1,h2⟩:=hc
  have e:ws=want++ws.drop want.length:=by conv=>lhs;rw[←List.take_append_drop want.length ws,h2]
  cases hd:ws.drop want.length with
  | nil=>
   have:=congrArg List.length hd
   rw[List.length_drop,List.length_nil] at this
   omega
  | cons w r=>
   refine⟨w,r,by rw[←hd];exact e,?_⟩
   have e2:ws.getD want.length []=w:=by
    rw[List.getD_eq_getElem?_getD]
    have:ws[want.length]?=some w:=by
     have h3:(ws.drop want.length)[0]?=some w:=by rw[hd];rfl
     rwa[List.getElem?_drop,Nat.add_zero] at h3
    rw[this]
    rfl
   rwa[e2] at h
 next=>cases h
theorem gY_ {want r:List Bs} {w:Bs} : takN want (want++w::r)=numK w:=by
 unfold takN
 rw[if_pos ⟨by simp,by simp⟩]
 have:(want++w::r).getD want.length []=w:=by
  rw[List.getD_eq_getElem?_getD,List.getElem?_append_right (Nat.le_refl _),Nat.sub_self]
  rfl
 rw[this]
theorem tZ_ {r:List Bs} {n:Int} (h:takN [wIn] r=some n):takI r=(some n,r.drop 2):=by
 obtain⟨w,r',rfl,hn⟩:=cO_ h
 show(if wIn=wIn then (match numK w with|some n=>(some n,r')|none=>(none,wIn::w::r')) else (none,wIn::w::r'))=_
 rw[if_pos rfl,hn]
 rfl
theorem uA_ {r:List Bs} (h:takN [wIn] r=none):takI r=(none,r):=by
 match r,h with
 | [],_=>rfl
 | [a],_=>rfl
 | a::b::r,h=>
  show(if a=wIn then (match numK b with|some n=>(some n,r)|none=>(none,a::b::r)) else (none,a::b::r))=_
  by_cases ha:a=wIn
  ·rw[if_pos ha]
   have:takN [wIn] (a::b::r)=numK b:=by subst ha;exact gY_ (want:=[wIn])
   rw[this] at h
   rw[h]
  ·rw[if_neg ha]
theorem mX_ {r:List Bs} {n:Int} (h:takN [wOf,bT_] r=some n):takM r=(some n,r.drop 3):=by
 obtain⟨w,r',rfl,hn⟩:=cO_ h
 show(if wOf=wOf∧bT_=bT_ then (match numK w with|some n=>(some n,r')|none=>(none,wOf::bT_::w::r')) else (none,wOf::bT_::w::r'))=_
 rw[if_pos ⟨rfl,rfl⟩,hn]
 rfl
theorem mY_ {r:List Bs} (h:takN [wOf,bT_] r=none):takM r=(none,r):=by
 match r,h with
 | [],_=>rfl
 | [a],_=>rfl
 | [a,b],_=>rfl
 | a::b::c::r,h=>
  show(if a=wOf∧b=bT_ then (match numK c with|some n=>(some n,r)|none=>(none,a::b::c::r)) else (none,a::b::c::r))=_
  by_cases ha:a=wOf∧b=bT_
  ·rw[if_pos ha]
   have:takN [wOf,bT_] (a::b::c::r)=numK c:=by obtain⟨rfl,rfl⟩:=ha;exact gY_ (want:=[wOf,bT_])
   rw[this] at h
   rw[h]
  ·rw[if_neg ha]
def wD_ (ws:List Bs):Prop:=ws.length=7∧ws[2]?=some aH_∧(takN [bA_] ws).isSome=true
theorem vE_ {ws:List Bs} (h:¬wD_ ws):parL ws=none:=by
 cases e:parL ws with
 | none=>rfl
 | some l=>
  obtain⟨h1,h2,h3,rfl⟩:=zP_.1 e
  refine absurd ⟨rfl,rfl,?_⟩ h
  show(takN [bA_] ([bA_]++txt l.1::_)).isSome=true
  rw[gY_,gO_ h1.1 h1.2]
  rfl
theorem wQ_ {st:St} {ws:List Bs} {c:Int} (h7:ws.length=7) (h2:ws[2]?=some aH_) (hc:takN [bA_] ws=some c) :
  (∀n m,takN [aH_,eC_] (ws.drop 2)=some n→takN [wTo] (ws.drop 5)=some m→cJ_ st ws=if okL st.ls (c,n,m)=true∧st.ls.length<40 then some ⟨st.its,st.ls++[(c,n,m)]⟩ else none)∧
  (takN [aH_,eC_] (ws.drop 2)=none∨takN [wTo] (ws.drop 5)=none→cJ_ st ws=none):=by
 obtain⟨w1,r,rfl,hn1⟩:=cO_ hc
 match r,h7,h2 with
 | [a,b,d,e,f],_,h2=>
  have ha:a=aH_:=Option.some.inj h2
  subst ha
  constructor
  ·intro n m h3 h4
   obtain⟨w3,r3,e3,hn3⟩:=cO_ (show takN [aH_,eC_] [aH_,b,d,e,f]=some n from h3)
   obtain⟨w4,r4,e4,hn4⟩:=cO_ (show takN [wTo] [e,f]=some m from h4)
   injection e3 with _ e3
   injection e3 with e5 e3
   injection e3 with e6 e3
   injection e4 with e7 e4
   injection e4 with e8 e4
   subst e5 e6 e7 e8
   have hp:parL ([bA_]++w1::[aH_,eC_,d,wTo,f])=some (c,n,m):=by
    show(if bA_=bA_∧aH_=aH_∧eC_=eC_∧wTo=wTo then (match numK w1,numK d,numK f with|some x,some y,some z=>some (x,y,z)|_,_,_=>none) else none)=_
    rw[if_pos ⟨rfl,rfl,rfl,rfl⟩,hn1,hn3,hn4]
   unfold cJ_
   rw[hp]
  ·intro h
   have hp:parL ([bA_]++w1::[aH_,b,d,e,f])=none:=by
    show(if bA_=bA_∧aH_=aH_∧b=eC_∧e=wTo then (match numK w1,numK d,numK f with|some x,some y,some z=>some (x,y,z)|_,_,_=>none) else none)=none
    by_cases hbe:b=eC_∧e=wTo
    ·obtain⟨rfl,rfl⟩:=hbe
     rw[if_pos ⟨rfl,rfl,rfl,rfl⟩,hn1]
     rcases h with h|h
     ·have:takN [aH_,eC_] [aH_,eC_,d,wTo,f]=numK d:=gY_ (want:=[aH_,eC_])
      rw[show takN [aH_,eC_] (([bA_]++w1::[aH_,eC_,d,wTo,f]).drop 2)=numK d from this] at h
      rw[h]
     ·have:takN [wTo] [wTo,f]=numK f:=gY_ (want:=[wTo])
      rw[show takN [wTo] (([bA_]++w1::[aH_,eC_,d,wTo,f]).drop 5)=numK f from this] at h
      rw[h]
      cases numK d <;> rfl
    ·rw[if_neg (fun h=>hbe ⟨h.2.2.1,h.2.2.2⟩)]
   have hs:parS ([bA_]++w1::[aH_,b,d,e,f])=none:=by
    show(match numK w1 with|none=>none|some n=>if (takM (takI (takR (bN_ bA_) [aH_,b,d,e,f]).2).2).2=[] then some (It.mk (bN_ bA_) n (takR (bN_ bA_) [aH_,b,d,e,f]).1 (takI (takR (bN_ bA_) [aH_,b,d,e,f]).2).1 (takM (takI (takR (bN_ bA_) [aH_,b,d,e,f]).2).2).1) else none)=none
    rw[hn1]
    have e1:takR (bN_ bA_) [aH_,b,d,e,f]=([],[aH_,b,d,e,f]):=by
     show(if bN_ bA_=4∧aH_=bZ_ then (b,[d,e,f]) else ([],[aH_,b,d,e,f]))=_
     rw[if_neg (fun h=>absurd h.2 (by decide))]
    have e2:takI [aH_,b,d,e,f]=(none,[aH_,b,d,e,f]):=by
     show(if aH_=wIn then (match numK b with|some n=>(some n,[d,e,f])|none=>(none,[aH_,b,d,e,f])) else (none,[aH_,b,d,e,f]))=_
     rw[if_neg (by decide)]
    have e3:takM [aH_,b,d,e,f]=(none,[aH_,b,d,e,f]):=by
     show(if aH_=wOf∧b=bT_ then (match numK d with|some n=>(some n,[e,f])|none=>(none,[aH_,b,d,e,f])) else (none,[aH_,b,d,e,f]))=_
     rw[if_neg (fun h=>absurd h.1 (by decide))]
    rw[e1]
    simp only
    rw[e2]
    simp only
    rw[e3]
    simp
   unfold cJ_
   rw[hp,hs]
theorem wF_ {ws:List Bs} {k c:Int} (hk:1≤k∧k≤5) (h:takN [aL_ k] ws=some c):∃w r,ws=aL_ k::w::r∧numK w=some c∧bN_ (aL_ k)=k:=by
 obtain⟨w,r,rfl,hn⟩:=cO_ h
 exact⟨w,r,rfl,hn,kN_ hk⟩
theorem wG_ {st:St} {ws:List Bs} (hp:¬wD_ ws) (h:∀k,1≤k→k≤5→takN [aL_ k] ws=none):cJ_ st ws=none:=by
 unfold cJ_
 rw[vE_ hp]
 cases e:parS ws with
 | none=>rfl
 | some t=>
  have ht:t.kind=0:=by
   match ws,e with
   | a::c::r,e=>
    change (match numK c with|none=>none|some n=>if (takM (takI (takR (bN_ a) r).2).2).2=[] then some (It.mk (bN_ a) n (takR (bN_ a) r).1 (takI (takR (bN_ a) r).2).1 (takM (takI (takR (bN_ a) r).2).2).1) else none)=some t at e
    cases hn:numK c with
    | none=>rw[hn] at e;cases e
    | some n=>
     have h0:bN_ a=0:=by
      refine Classical.byContradiction fun hne=>?_
      have hb:=aAC a
      have:=h (bN_ a) (by omega) hb.2
      have e2:takN [aL_ (bN_ a)] (a::c::r)=numK c:=by
       rw[sJ_ hne]
       exact gY_ (want:=[a])
      rw[e2,hn] at this
      cases this
     rw[hn] at e
     simp only at e
     split at e
     ·cases e;exact h0
     ·cases e
  simp only
  rw[if_neg]
  rintro⟨_,_,h3⟩
  simp only[okS,Bool.and_eq_true] at h3
  have:=h3.1.1.1.2
  unfold bS_ at this
  rw[ht] at this
  simp at this
theorem sO_ {st:St} {w:Bs} {r:List Bs} {k c:Int} (hk:1≤k∧k≤5) (hn:numK w=some c) (hp:¬wD_ (aL_ k::w::r)) :
  cJ_ st (aL_ k::w::r)=if (takM (takI (takR k r).2).2).2=[]∧st.ls=[]∧st.its.length<60∧okS st.its ⟨k,c,(takR k r).1,(takI (takR k r).2).1,(takM (takI (takR k r).2).2).1⟩=true then some ⟨st.its++[⟨k,c,(takR k r).1,(takI (takR k r).2).1,(takM (takI (takR k r).2).2).1⟩],st.ls⟩ else none:=by
 unfold cJ_
 rw[vE_ hp]
 have hs:parS (aL_ k::w::r)=if (takM (takI (takR k r).2).2).2=[] then some ⟨k,c,(takR k r).1,(takI (takR k r).2).1,(takM (takI (takR k r).2).2).1⟩ else none:=by
  show(match numK w with|none=>none|some n=>if (takM (takI (takR (bN_ (aL_ k)) r).2).2).2=[] then some (It.mk (bN_ (aL_ k)) n (takR (bN_ (aL_ k)) r).1 (takI (takR (bN_ (aL_ k)) r).2).1 (takM (takI (takR (bN_ (aL_ k)) r).2).2).1) else none)=_
  rw[hn,kN_ hk]
 rw[hs]
 by_cases h:(takM (takI (takR k r).2).2).2=[]
 ·rw[if_pos h]
  simp only[h,true_and]
 ·rw[if_neg h]
  simp only[h,false_and,if_false]
theorem yX_ {r:List Bs} {b:Bs} {r':List Bs} (h:r=bZ_::b::r'):takR 4 r=(b,r'):=by
 subst h
 show(if (4:Int)=4∧bZ_=bZ_ then (b,r') else ([],bZ_::b::r'))=_
 rw[if_pos ⟨rfl,rfl⟩]
theorem aCW {r:List Bs} {k:Int} (h:¬(k=4∧1<r.length∧r[0]?=some bZ_)):takR k r=([],r):=by
 match r,h with
 | [],_=>rfl
 | [a],_=>rfl
 | a::b::r,h=>
  show(if k=4∧a=bZ_ then (b,r) else ([],a::b::r))=_
  rw[if_neg]
  rintro⟨h1,h2⟩
  exact h ⟨h1,by simp,by rw[h2];rfl⟩
theorem aER {st:St} (h:OkSt st) (n:Int):boxB (asmD st).shapes n=st.its.any fun u=>decide (u.code=n)&&decide (u.kind=2):=by
 have key:boxB (asmD st).shapes n=true↔(st.its.any fun u=>decide (u.code=n)&&decide (u.kind=2))=true:=by
  rw[show(asmD st).shapes=st.its.map shOf from rfl,mK_ h.dist,List.any_eq_true]
  constructor
  ·rintro⟨s,hs,h1,h2⟩
   obtain⟨u,hu,rfl⟩:=List.mem_map.1 hs
   exact⟨u,hu,by simp only[Bool.and_eq_true,decide_eq_true_eq];exact⟨h1,h2⟩⟩
  ·rintro⟨u,hu,h1⟩
   simp only[Bool.and_eq_true,decide_eq_true_eq] at h1
   exact⟨shOf u,List.mem_map.2 ⟨u,hu,rfl⟩,h1.1,h1.2⟩
 cases h1:boxB (asmD st).shapes n with
 | true=>exact(key.1 h1).symm
 | false=>
  cases h2:(st.its.any fun u=>decide (u.code=n)&&decide (u.kind=2)) with
  | false=>rfl
  | true=>rw[key.2 h2] at h1;cases h1
theorem aDT (st:St) (c:Int):decide (0≤ixZ (ixS c (asmD st).shapes)) = !(st.its.all fun u=>decide (u.code≠c)):=by
 cases h:ixS c (asmD st).shapes with
 | none=>
  have:(st.its.all fun u=>decide (u.code≠c))=true:=by
   rw[List.all_eq_true]
   intro u hu
   exact decide_eq_true (eI_.1 h (shOf u) (List.mem_map.2 ⟨u,hu,rfl⟩))
  rw[this]
  rfl
 | some i=>
  have:(st.its.all fun u=>decide (u.code≠c))=false:=by
   rw[List.all_eq_false]
   obtain⟨a,s,b,e,_,hc,_⟩:=dP_.1 h
   have hs:s∈st.its.map shOf:=by
    show s∈(asmD st).shapes
    rw[e];simp
   obtain⟨u,hu,rfl⟩:=List.mem_map.1 hs
   have hc':u.code=c:=hc
   exact⟨u,hu,by simp[hc']⟩
  rw[this]
  exact decide_eq_true (by show(0:Int)≤(i:Int);omega)
theorem eW_ (b c:UInt8) (l:List UInt8) (h:b≠c):Lib.index (b::l) [c]=if Lib.index l [c] == -1 then -1 else Lib.index l [c]+1:=by
 have hp:([c]:List UInt8).isPrefixOf (b::l)=false:=by simp[List.isPrefixOf,Ne.symm h]
 rw[Lib.index,hp]
 simp
theorem hN_ (c:UInt8) (l:List UInt8):Lib.index (c::l) [c]=0:=by rw[Lib.index];simp[List.isPrefixOf]
theorem hK_ (c:UInt8):∀l:Bs,Lib.splitK [c] 0 (Lib.count l [c]) l=bB_ c l
 | []=>rfl
 | b::l=>by
  have ih:=hK_ c l
  by_cases h:b=c
  ·subst h
   rw[Lib.count_cons_eq,Nat.add_comm]
   show(if Lib.index (b::l) [b] == -1 then [b::l] else (b::l).take ((Lib.index (b::l) [b]).toNat+0)::Lib.splitK [b] 0 (Lib.count l [b]) ((b::l).drop ((Lib.index (b::l) [b]).toNat+1)))=if b=b then []::bB_ b l else _
   rw[hN_,if_pos rfl]
   show([]:Bs)::Lib.splitK [b] 0 (Lib.count l [b]) l=_
   rw[ih]
  ·rw[Lib.count_cons_ne b c l h]
   show _=if b=c then []::bB_ c l else match bB_ c l with | []=>[[b]]|w::ws=>(b::w)::ws
   rw[if_neg h,←ih]
   by_cases hm:Lib.index l [c] = -1
   ·rw[Lib.count_miss hm]
    rfl
   ·have hge:=Lib.index_ge l [c]
    obtain⟨j,hj⟩:∃j:Nat,Lib.index l [c]=j:=⟨(Lib.index l [c]).toNat,by omega⟩
    have hix:Lib.index (b::l) [c]=((j+1:Nat):Int):=by rw[eW_ b c l h,if_neg (fun e=>hm (beq_iff_eq.1 e)),hj];omega
    obtain⟨k,hk⟩:∃k,Lib.count l [c]=k+1:=⟨_,by rw[Lib.count_hit (by simp) hj,Nat.add_comm]⟩
    rw[hk]
    show(if Lib.index (b::l) [c] == -1 then [b::l] else (b::l).take ((Lib.index (b::l) [c]).toNat+0)::Lib.splitK [c] 0 k ((b::l).drop ((Lib.index (b::l) [c]).toNat+1)))=match (if Lib.index l [c] == -1 then [l] else l.take ((Lib.index l [c]).toNat+0)::Lib.splitK [c] 0 k (l.drop ((Lib.index l [c]).toNat+1))) with | []=>[[b]]|w::ws=>(b::w)::ws
    rw[hix,hj,if_neg (by rw[beq_iff_eq];omega),if_neg (by rw[beq_iff_eq];omega)]
    rfl
theorem iR_ (s:ByteArray):bsL (Lib.splitB ⟨#[32]⟩ 0 (Lib.countB s ⟨#[32]⟩) s)=bB_ 32 s.data.toList:=(Lib.splitB_data ⟨#[32]⟩ 0 _ s).trans (hK_ 32 s.data.toList)
theorem jN_:∀l:Bs,mI_ l=if (Lib.cut l [46]).2.2=true then some ((Lib.cut l [46]).1,(Lib.cut l [46]).2.1) else none
 | []=>rfl
 | c::l=>by
  have ih:=jN_ l
  show(if c=46 then some ([],l) else (mI_ l).map fun p=>(c::p.1,p.2))=_
  by_cases h:c=46
  ·subst h
   have e:Lib.cut (46::l) [46]=([],l,true):=by
    unfold Lib.cut
    rw[hN_]
    rfl
   rw[e,if_pos rfl]
   rfl
  ·rw[if_neg h,ih]
   by_cases hm:Lib.index l [46] = -1
   ·have e1:Lib.cut l [46]=(l,[],false):=by unfold Lib.cut;rw[hm];rfl
    have e2:Lib.cut (c::l) [46]=(c::l,[],false):=by unfold Lib.cut;rw[eW_ c 46 l h,hm];rfl
    rw[e1,e2]
    rfl
   ·have hge:=Lib.index_ge l [46]
    obtain⟨j,hj⟩:∃j:Nat,Lib.index l [46]=j:=⟨(Lib.index l [46]).toNat,by omega⟩
    have hix:Lib.index (c::l) [46]=((j+1:Nat):Int):=by rw[eW_ c 46 l h,if_neg (fun e=>hm (beq_iff_eq.1 e)),hj];omega
    have e1:Lib.cut l [46]=(l.take j,l.drop (j+1),true):=by unfold Lib.cut;rw[hj,if_pos (by omega)];rfl
    have e2:Lib.cut (c::l) [46]=(c::l.take j,l.drop (j+1),true):=by unfold Lib.cut;rw[hix,if_pos (by omega)];rfl
    rw[e1,e2]
    rfl
theorem nD_ (c:UInt8):∀(l:Bs),∀w∈bB_ c l,w.length≤l.length
 | [],w,h=>by
  rw[List.mem_singleton.1 (show w∈[[]] from h)]
  exact Nat.le_refl _
 | x::l,w,h=>by
  have ih:=nD_ c l
  change w∈(if x=c then []::bB_ c l else match bB_ c l with | []=>[[x]]|w::ws=>(x::w)::ws) at h
  rw[List.length_cons]
  by_cases hx:x=c
  ·rw[if_pos hx] at h
   rcases List.mem_cons.1 h with rfl|h
   ·exact Nat.zero_le _
   ·have:=ih w h;omega
  ·rw[if_neg hx] at h
   cases hs:bB_ c l with
   | nil=>
    rw[hs] at h
    rw[List.mem_singleton.1 h]
    show 1≤_
    omega
   | cons v vs=>
    rw[hs] at h ih
    rcases List.mem_cons.1 h with rfl|h
    ·have:=ih v List.mem_cons_self
     rw[List.length_cons]
     omega
    ·have:=ih w (List.mem_cons_of_mem _ h)
     omega
def sdI (x:SD) (c:Int) (i:Option Int):SD:=match i with|none=>x|some n=>{ x with inside:=x.inside++[(c,n)] }
def sdM (x:SD) (c:Int) (i:Option Int):SD:=match i with|none=>x|some n=>{ x with member:=x.member++[(c,n)] }
def insB (its:List It) (i:Option Int):Bool:=match i with|none=>true|some n=>its.any fun u=>decide (u.code=n)&&decide (u.kind=2)
def memB (m:Option Int):Bool:=match m with|none=>true|some n=>decide (n≤999)
theorem okS_eq (its:List It) (k c:Int) (w:Bs) (i m:Option Int) (hm:∀n,m=some n→0≤n):okS its ⟨k,c,w,i,m⟩=(aN_ c&&bS_ k w&&its.all (fun u=>decide (u.code≠c))&&insB its i&&memB m):=by
 unfold okS insB memB
 cases m with
 | none=>rfl
 | some n=>
  have:=hm n rfl
  cases i <;> simp[this]
theorem xT_ (st:St) (k c:Int) (wd:ByteArray) (i m:Option Int) : { sdM (sdI (asmD st) c i) c m with shapes:=(asmD st).shapes++[⟨c,k,zRc,zPl,zPl,wd⟩] } = asmD ⟨st.its++[⟨k,c,wd.data.toList,i,m⟩],st.ls⟩:=by
 have e:(⟨wd.data.toList.toArray⟩:ByteArray)=wd:=by simp
 unfold sdM sdI asmD
 cases i <;> cases m <;> simp[List.filterMap_append,shOf,e]
theorem aCY {r:List Bs} {n:Int} (h:(takM r).1=some n):0≤n:=by
 cases e:takN [wOf,bT_] r with
 | none=>rw[mY_ e] at h;cases h
 | some z=>
  rw[mX_ e] at h
  cases h
  obtain⟨_,_,_,hn⟩:=cO_ e
  exact(numK_some hn).1
theorem pI_ {st:St} {ws:List Bs} {kd c iz:Int} {o o' n0 n3:Nat} {wd:ByteArray} {qz:Bool} (hn0:n0=st.its.length) (hn3:n3=st.ls.length) (hnl:¬wD_ ws) (hk:(kd=0∧c=0∧o=0∧∀k,1≤k→k≤5→takN [aL_ k] ws=none)∨(1≤kd∧kd≤5∧takN [aL_ kd] ws=some c∧o=2))
  (hr:takR kd (ws.drop o)=(wd.data.toList,ws.drop o')) (hi:iz=ixZ (ixS c (asmD st).shapes)) (hq:qz=(decide (0<n3)||decide (60≤n0) || !aN_ c || !bS_ kd wd.data.toList||decide (0≤iz))) :
  cJ_ st ws=if qz=false∧insB st.its (takI (ws.drop o')).1=true∧memB (takM (takI (ws.drop o')).2).1=true∧(takM (takI (ws.drop o')).2).2=[] then some ⟨st.its++[⟨kd,c,wd.data.toList,(takI (ws.drop o')).1,(takM (takI (ws.drop o')).2).1⟩],st.ls⟩ else none:=by
 rcases hk with ⟨rfl,rfl,rfl,hno⟩|⟨h1,h2,h3,rfl⟩
 ·have:qz=true:=by rw[hq];simp[show aN_ 0=false from rfl]
  rw[wG_ hnl hno,this,if_neg (fun h=>nomatch h.1)]
 ·obtain⟨w,r,rfl,hn,-⟩:=wF_ ⟨h1,h2⟩ h3
  rw[sO_ ⟨h1,h2⟩ hn hnl]
  rw[show(aL_ kd::w::r).drop 2=r from rfl] at hr
  rw[hr]
  simp only
  generalize hz:(aL_ kd::w::r).drop o'=z at *
  have hm:∀n,(takM (takI z).2).1=some n→0≤n:=fun n h=>aCY h
  have hni:=aDT st c
  rw[←hi] at hni
  rw[hni] at hq
  congr 1
  rw[okS_eq _ _ _ _ _ _ hm,hq,hn0,hn3]
  simp only[Bool.or_eq_false_iff,Bool.not_eq_false',decide_eq_false_iff_not,Bool.and_eq_true,List.length_pos_iff,Classical.not_not,Nat.not_le,eq_iff_iff]
  constructor
  ·rintro⟨a1,a2,a3,⟨⟨⟨a4,a5⟩,a6⟩,a7⟩,a8⟩
   exact⟨⟨⟨⟨⟨a2,a3⟩,a4⟩,a5⟩,a6⟩,a7,a8,a1⟩
  ·rintro⟨⟨⟨⟨⟨a2,a3⟩,a4⟩,a5⟩,a6⟩,a7,a8,a1⟩
   exact⟨a1,a2,a3,⟨⟨⟨a4,a5⟩,a6⟩,a7⟩,a8⟩
end Go.Proofs.YtdkaohphbgdkpaaGreatDoor
namespace Go.Proofs.YtdkaohphbgdkpaaGreatDoor
open Go.RowKit Go.Shelf Go.Sort
attribute [local go_sem] Oper.semAt_some
def WdAt (u:Value) (Bw:Nat) (all:List ByteArray) (o:Nat):Prop:=o≤all.length∧∃p,u=.slice (some ⟨Bw,p,none⟩) (all.length-o) (all.length-o)∧(o<all.length→p=o)
structure HrAt (X B5 Bw:Nat) (v0 v1 v2 v3:Value) (rs:List Rw) (u:Value) (all:List ByteArray) (L:List (Nat×List Value)) (w W:World):Prop where
 mo:MoAt rs ((X,[v0,v1,v2,v3])::(B5,[u])::(Bw,ucC all)::L) w W
 dX:w.heap.size≤X∧X≠B5∧X≠Bw∧∀y∈L,X≠y.1
 d5:w.heap.size≤B5∧B5≠Bw∧∀y∈L,B5≠y.1
section
variable {X B5 Bw:Nat} {v0 v1 v2 v3:Value} {rs:List Rw} {u:Value} {all:List ByteArray} {L:List (Nat×List Value)} {w W W':World}
theorem HrAt.below (h:HrAt X B5 Bw v0 v1 v2 v3 rs u all L w W) (hb:Below W.heap.size W W'):HrAt X B5 Bw v0 v1 v2 v3 rs u all L w W':=⟨h.mo.below hb,h.dX,h.d5⟩
theorem HrAt.sub {L':List (Nat×List Value)} (h:HrAt X B5 Bw v0 v1 v2 v3 rs u all L w W) (hs:∀y∈L',y∈L):HrAt X B5 Bw v0 v1 v2 v3 rs u all L' w W:=by
 refine⟨h.mo.sub fun y hy=>?_,⟨h.dX.1,h.dX.2.1,h.dX.2.2.1,fun y hy=>h.dX.2.2.2 y (hs y hy)⟩,⟨h.d5.1,h.d5.2.1,fun y hy=>h.d5.2.2 y (hs y hy)⟩⟩
 simp only[List.mem_cons] at hy⊢
 rcases hy with hy|hy|hy|hy
 ·exact .inl hy
 ·exact .inr (.inl hy)
 ·exact .inr (.inr (.inl hy))
 ·exact .inr (.inr (.inr (hs y hy)))
theorem HrAt.szX (h:HrAt X B5 Bw v0 v1 v2 v3 rs u all L w W):X<W.heap.size:=(h.mo.az.row (X,[v0,v1,v2,v3]) (by simp)).sz
theorem HrAt.sz5 (h:HrAt X B5 Bw v0 v1 v2 v3 rs u all L w W):B5<W.heap.size:=(h.mo.az.row (B5,[u]) (by simp)).sz
theorem HrAt.push (h:HrAt X B5 Bw v0 v1 v2 v3 rs u all L w W) (l:List Value) (t:TypeId):HrAt X B5 Bw v0 v1 v2 v3 rs u all ((W.heap.size,l)::L) w (W.alloc (.cells l.toArray t)):=by
 have h1:=h.szX
 have h2:=h.sz5
 refine⟨(h.mo.push l t).sub fun y hy=>?_,⟨h.dX.1,h.dX.2.1,h.dX.2.2.1,fun y hy=>?_⟩,⟨h.d5.1,h.d5.2.1,fun y hy=>?_⟩⟩
 ·simp only[List.mem_cons] at hy⊢
  rcases hy with hy|hy|hy|hy|hy
  ·exact .inr (.inl hy)
  ·exact .inr (.inr (.inl hy))
  ·exact .inr (.inr (.inr (.inl hy)))
  ·exact .inl hy
  ·exact .inr (.inr (.inr (.inr hy)))
 ·rcases List.mem_cons.1 hy with rfl|hy
  ·simp only;omega
  ·exact h.dX.2.2.2 y hy
 ·rcases List.mem_cons.1 hy with rfl|hy
  ·simp only;omega
  ·exact h.d5.2.2 y hy
theorem HrAt.setW (h:HrAt X B5 Bw v0 v1 v2 v3 rs u all L w W) (u':Value):HrAt X B5 Bw v0 v1 v2 v3 rs u' all L w (W.setCell ⟨B5,0,none⟩ u'):=by
 have h1:=(h.mo.sub (L':=(B5,[u])::(X,[v0,v1,v2,v3])::(Bw,ucC all)::L) (fun y hy=>by
  simp only[List.mem_cons] at hy⊢
  rcases hy with hy|hy|hy|hy
  ·exact .inr (.inl hy)
  ·exact .inl hy
  ·exact .inr (.inr (.inl hy))
  ·exact .inr (.inr (.inr hy)))).set h.d5.1 (fun y hy=>by
   simp only[List.mem_cons] at hy
   rcases hy with rfl|rfl|hy
   ·exact fun e=>h.dX.2.1 e.symm
   ·exact h.d5.2.1
   ·exact h.d5.2.2 y hy) (i:=0) rfl u'
 refine⟨h1.sub fun y hy=>?_,h.dX,h.d5⟩
 simp only[List.mem_cons] at hy⊢
 rcases hy with hy|hy|hy|hy
 ·exact .inr (.inl hy)
 ·exact .inl hy
 ·exact .inr (.inr (.inl hy))
 ·exact .inr (.inr (.inr hy))
theorem HrAt.rows {rs':List Rw} (h:HrAt X B5 Bw v0 v1 v2 v3 rs u all L w W) (hm:MoAt rs' ((X,[v0,v1,v2,v3])::(B5,[u])::(Bw,ucC all)::L) w W'):HrAt X B5 Bw v0 v1 v2 v3 rs' u all L w W':=⟨hm,h.dX,h.d5⟩
theorem HrAt.setX (h:HrAt X B5 Bw v0 v1 v2 v3 rs u all L w W) {i:Nat} {t0 t1 t2 t3 x t:Value} (hi:[v0,v1,v2,v3][i]?=some x) (ht:[v0,v1,v2,v3].set i t=[t0,t1,t2,t3]):HrAt X B5 Bw t0 t1 t2 t3 rs u all L w (W.setCell ⟨X,i,none⟩ t):=by
 have h1:=h.mo.set h.dX.1 (fun y hy=>by
  simp only[List.mem_cons] at hy
  rcases hy with rfl|rfl|hy
  ·exact h.dX.2.1
  ·exact h.dX.2.2.1
  ·exact h.dX.2.2.2 y hy) hi t
 rw[ht] at h1
 exact⟨h1,h.dX,h.d5⟩
theorem HrAt.cX (h:HrAt X B5 Bw v0 v1 v2 v3 rs u all L w W):W.cell? ⟨X,0,none⟩=some v0∧W.cell? ⟨X,1,none⟩=some v1∧W.cell? ⟨X,2,none⟩=some v2∧W.cell? ⟨X,3,none⟩=some v3:=⟨h.mo.az.ce 0 0 rfl rfl,h.mo.az.ce 0 1 rfl rfl,h.mo.az.ce 0 2 rfl rfl,h.mo.az.ce 0 3 rfl rfl⟩
theorem HrAt.fX (h:HrAt X B5 Bw v0 v1 v2 v3 rs u all L w W):W.frozen? ⟨X,0,none⟩=false∧W.frozen? ⟨X,1,none⟩=false∧W.frozen? ⟨X,2,none⟩=false∧W.frozen? ⟨X,3,none⟩=false:=⟨h.mo.az.cf 0 0 rfl rfl,h.mo.az.cf 0 1 rfl rfl,h.mo.az.cf 0 2 rfl rfl,h.mo.az.cf 0 3 rfl rfl⟩
theorem HrAt.c5 (h:HrAt X B5 Bw v0 v1 v2 v3 rs u all L w W):W.cell? ⟨B5,0,none⟩=some u:=h.mo.az.ce 1 0 rfl rfl
theorem HrAt.f5 (h:HrAt X B5 Bw v0 v1 v2 v3 rs u all L w W):W.frozen? ⟨B5,0,none⟩=false:=h.mo.az.cf 1 0 rfl rfl
theorem HrAt.wd (h:HrAt X B5 Bw v0 v1 v2 v3 rs u all L w W) {k:Nat} {a:ByteArray} (ha:all[k]?=some a):W.cell? ⟨Bw,k,none⟩=some (.string a):=h.mo.az.ce 2 k rfl (qE_ ha)
theorem WdAt.cs {o:Nat} (hu:WdAt u Bw all o) (h:HrAt X B5 Bw v0 v1 v2 v3 rs u all L w W):∃a,u=.slice a (all.length-o) (all.length-o)∧CsAt a (ucC (all.drop o)) W∧(∃p,a=some ⟨Bw,p,none⟩∧(o<all.length→p=o)):=by
 obtain⟨ho,p,rfl,hp⟩:=hu
 refine⟨_,rfl,⟨fun i x hx=>?_⟩,p,rfl,hp⟩
 rw[yR_,List.getElem?_drop] at hx
 have hlt:=(List.getElem?_eq_some_iff.1 hx).1
 rw[dD_] at hlt
 have hr:=h.mo.az.row (Bw,ucC all) (by simp)
 exact⟨Bw,p,rfl,hr.sz,by rw[hp (by omega)];exact hr.row _ _ hx⟩
theorem wP_ {o Bq c k:Nat} {want:List ByteArray} (h:HrAt X B5 Bw v0 v1 v2 v3 rs u all ((Bq,ucC want)::L) w W) (hu:WdAt u Bw all o) (hk:want.length=k) (hk6:k≤1000) (hl:all.length≤1000000) (hz:∀a∈all,a.size≤1000000) (hG:GlobE w) (hT:Glob w) :
  Calls Tryz.prog 83 #[.slice (some ⟨Bq,0,none⟩) k c,.pointer (some ⟨B5,0,none⟩)] W fun e W'=>∃z u' o',e=.returned (.tuple #[.int .i64 z,.bool (takN (bsL want) ((bsL all).drop o)).isSome])∧(∀n,takN (bsL want) ((bsL all).drop o)=some n→n=z)∧HrAt X B5 Bw v0 v1 v2 v3 rs u' all L w W'∧WdAt u' Bw all o'∧o'=if (takN (bsL want) ((bsL all).drop o)).isSome then o+(k+1) else o:=by
 obtain⟨a,hua,hcs,p,hap,hp⟩:=hu.cs h
 have hlen:(all.drop o).length=all.length-o:=by rw[List.length_drop]
 have hV:CsAt (some ⟨Bq,0,none⟩) (ucC want) W:=CsAt.of_ar (h.mo.az.row (Bq,ucC want) (by simp))
 have hb:=h.mo.az.bw
 have:=take_s (a:=a) (cap:=all.length-o) (c:=c) hlen hk (Nat.le_refl _) (by omega) (by omega) (fun x hx=>hz x (List.mem_of_mem_drop hx)) W (by rw[h.c5,hua]) h.sz5 h.f5 hcs hV (hG.below hb) (hT.below hb)
 rw[show bsL (all.drop o)=(bsL all).drop o from List.map_drop] at this
 refine this.mono ?_
 rintro e W' ⟨z,W1,rfl,hn,hb1,hcase⟩
 have h1:=(h.below hb1).sub (L':=L) (fun y hy=>List.mem_cons_of_mem _ hy)
 rcases hcase with ⟨h0,rfl⟩|⟨h0,rfl⟩
 ·exact⟨z,u,o,rfl,hn,h1,hu,by rw[h0];rfl⟩
 ·refine⟨z,_,o+(k+1),rfl,hn,h1.setW _,?_,by rw[h0];rfl⟩
  have hkl:k<all.length-o:=by
   obtain⟨n,hn'⟩:=Option.isSome_iff_exists.1 h0
   obtain⟨w',r,e,_⟩:=cO_ hn'
   have:=congrArg List.length e
   rw[List.length_drop,List.length_map,List.length_append,List.length_map,List.length_cons,hk] at this
   omega
  refine⟨by omega,?_⟩
  rw[hap]
  unfold advA
  by_cases hc:all.length-o=k+1
  ·rw[if_pos hc]
   exact⟨p,by rw[show all.length-o-(k+1)=all.length-(o+(k+1)) by omega],fun hlt=>by omega⟩
  ·rw[if_neg hc]
   exact⟨p+(k+1),by rw[show all.length-o-(k+1)=all.length-(o+(k+1)) by omega],fun _=>by rw[hp (by omega)]⟩
end
end Go.Proofs.YtdkaohphbgdkpaaGreatDoor
