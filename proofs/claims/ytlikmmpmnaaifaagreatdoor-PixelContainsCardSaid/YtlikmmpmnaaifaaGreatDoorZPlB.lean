/- - -/
import Derived.Test.YtlikmmpmnaaifaaGreatDoorZBack
import Derived.Test.YtlikmmpmnaaifaaGreatDoorZOut
import Derived.Test.YtlikmmpmnaaifaaGreatDoorZNum
import Derived.Test.YtlikmmpmnaaifaaGreatDoorZPl2
set_option maxHeartbeats 40000000
set_option maxRecDepth 1000000
open Go.Lib (hid)
namespace Go.Proofs.YtlikmmpmnaaifaaGreatDoor
def bdR (A P:Nat) (q:Rat):Prop:=q.num.natAbs≤A∧q.den≤P
theorem bdR.mono {A P A' P':Nat} {q:Rat} (h:bdR A P q) (h1:A≤A') (h2:P≤P'):bdR A' P' q:=⟨Nat.le_trans h.1 h1,Nat.le_trans h.2 h2⟩
theorem fC_ {n d:Int} {A P:Nat} (hd:d≠0) (h1:n.natAbs≤A) (h2:d.natAbs≤P):bdR A P (Rat.divInt n d):=by
 rcases Int.lt_or_gt_of_ne hd with h|h
 ·have e1:=vK_ (p:=n) h
  have e2:=wA_ (p:=n) h
  constructor
  ·rw[e1]
   refine Nat.le_trans (Int.natAbs_ediv_le_natAbs _ _) ?_
   rw[Int.natAbs_neg]
   exact h1
  ·have:=Int.natAbs_ediv_le_natAbs (-d) ((Nat.gcd (-n).natAbs (-d).natAbs:Nat):Int)
   rw[←e2,Int.natAbs_neg] at this
   simp at this
   omega
 ·have e1:=mT_ (p:=n) h
  have e2:=nL_ (p:=n) h
  constructor
  ·rw[e1]
   exact Nat.le_trans (Int.natAbs_ediv_le_natAbs _ _) h1
  ·have:=Int.natAbs_ediv_le_natAbs d ((Nat.gcd n.natAbs d.natAbs:Nat):Int)
   rw[←e2] at this
   simp at this
   omega
theorem gS_ {n:Int} {A:Nat} (h:n.natAbs≤A):bdR A 1 (n:Rat):=⟨h,Nat.le_refl _⟩
theorem bC_ {z:Int} {k:Nat} (h:z.natAbs≤k) (hk:k<10^200):small z=true:=by
 rw[vA_]
 exact decide_eq_true (by omega)
theorem dE_ {a b:Int} {A B:Nat} (ha:a.natAbs≤A) (hb:b.natAbs≤B):(a*b).natAbs≤A*B:=by
 rw[Int.natAbs_mul]
 exact Nat.mul_le_mul ha hb
theorem uQ_ {a b:Rat} {A P B Q:Nat} (ha:bdR A P a) (hb:bdR B Q b) (h1:A*Q+B*P<10^200) (h2:P*Q<10^200):addR a b=some (a+b)∧bdR (A*Q+B*P) (P*Q) (a+b):=by
 have m1:=dE_ ha.1 (show((b.den:Int)).natAbs≤Q by simpa using hb.2)
 have m2:=dE_ hb.1 (show((a.den:Int)).natAbs≤P by simpa using ha.2)
 have m3:((a.den:Int)*b.den).natAbs≤P*Q:=dE_ (by simpa using ha.2) (by simpa using hb.2)
 have m4:(a.num*b.den+b.num*a.den).natAbs≤A*Q+B*P:=Nat.le_trans (Int.natAbs_add_le _ _) (Nat.add_le_add m1 m2)
 refine⟨?_,?_⟩
 ·unfold addR
  exact if_pos ⟨bC_ m1 (by omega),bC_ m2 (by omega),bC_ m4 h1,bC_ m3 h2⟩
 ·rw[aNH]
  exact fC_ (dQ_ a b) m4 m3
theorem xN_ {a b:Rat} {A P B Q:Nat} (ha:bdR A P a) (hb:bdR B Q b) (h1:A*Q+B*P<10^200) (h2:P*Q<10^200):subR a b=some (a-b)∧bdR (A*Q+B*P) (P*Q) (a-b):=by
 have m1:=dE_ ha.1 (show((b.den:Int)).natAbs≤Q by simpa using hb.2)
 have m2:=dE_ hb.1 (show((a.den:Int)).natAbs≤P by simpa using ha.2)
 have m3:((a.den:Int)*b.den).natAbs≤P*Q:=dE_ (by simpa using ha.2) (by simpa using hb.2)
 have m4:(a.num*b.den-b.num*a.den).natAbs≤A*Q+B*P:=Nat.le_trans (Int.natAbs_sub_le _ _) (Nat.add_le_add m1 m2)
 refine⟨?_,?_⟩
 ·unfold subR
  exact if_pos ⟨bC_ m1 (by omega),bC_ m2 (by omega),bC_ m4 h1,bC_ m3 h2⟩
 ·rw[aMO]
  exact fC_ (dQ_ a b) m4 m3
theorem aFA {a b:Rat} {A P B Q:Nat} (ha:bdR A P a) (hb:bdR B Q b) (h1:A*B<10^200) (h2:P*Q<10^200):mulR a b=some (a*b)∧bdR (A*B) (P*Q) (a*b):=by
 have m1:=dE_ ha.1 hb.1
 have m3:((a.den:Int)*b.den).natAbs≤P*Q:=dE_ (by simpa using ha.2) (by simpa using hb.2)
 refine⟨?_,?_⟩
 ·unfold mulR
  exact if_pos ⟨bC_ m1 h1,bC_ m3 h2⟩
 ·rw[aMZ]
  exact fC_ (dQ_ a b) m1 m3
theorem aGX {a b:Rat} {A P B Q:Nat} (ha:bdR A P a) (hb:bdR B Q b) (h0:b≠0) (h1:A*Q<10^200) (h2:P*B<10^200):divR a b=some (a/b)∧bdR (A*Q) (P*B) (a/b):=by
 have hn:b.num≠0:=fun e=>h0 (Rat.num_eq_zero.1 e)
 have m1:=dE_ ha.1 (show((b.den:Int)).natAbs≤Q by simpa using hb.2)
 have m3:((a.den:Int)*b.num).natAbs≤P*B:=dE_ (by simpa using ha.2) hb.1
 refine⟨?_,?_⟩
 ·unfold divR
  exact if_pos ⟨bC_ m1 h1,bC_ m3 h2,hn⟩
 ·rw[aNC]
  exact fC_ (fun e=>by
   rcases Int.mul_eq_zero.1 e with e|e
   ·have:=bQ_ a;omega
   ·exact hn e) m1 m3
theorem bR_ (n:Int):whO n=some (n:Rat):=by
 unfold whO bE_
 rw[if_neg (by decide),Rat.divInt_eq_div]
 have:((1:Int):Rat)=1:=rfl
 rw[this]
 congr 1
 grind
theorem mW_ (a b:Rat):leO (some a) (some b)=decide (a<b):=by
 unfold leO rH_
 refine decide_eq_decide.2 ?_
 rcases pI_ a b with ⟨h,e⟩|⟨h,e⟩|⟨h,e⟩
 ·simp[e,h]
 ·subst h;simp[e]
 ·have:¬a<b:=by grind
  simp[e,this]
def cpQ (H z:Rat):Rat:=if z<0 then 0 else if H<z then H else z
theorem yA_ {H u v:Rat} (hH:0≤H) (h0:(u≤0∧v≤0)∨(0≤u∧0≤v)) (h1:(u≤H∧v≤H)∨(H≤u∧H≤v)):psi H u v=(cpQ H u+cpQ H v)/2:=by
 unfold psi cpQ
 rcases h0 with ⟨a,b⟩|⟨a,b⟩ <;> rcases h1 with ⟨c,d⟩|⟨c,d⟩
 ·rw[cG_ a b,cG_ (by grind) (by grind)]
  have e1:(if u<0 then (0:Rat) else if H<u then H else u)=0:=by split;rfl;split;grind;grind
  have e2:(if v<0 then (0:Rat) else if H<v then H else v)=0:=by split;rfl;split;grind;grind
  rw[e1,e2];grind
 ·have:u=0:=by grind
  have:v=0:=by grind
  have:H=0:=by grind
  subst_vars
  rw[cG_ (by grind) (by grind),cG_ (by grind) (by grind)]
  simp
  grind
 ·have n1:¬u<0:=by grind
  have n2:¬v<0:=by grind
  have n3:¬H<u:=by grind
  have n4:¬H<v:=by grind
  rw[fI_ a b,cG_ (by grind) (by grind),if_neg n1,if_neg n2,if_neg n3,if_neg n4]
  grind
 ·have n1:¬u<0:=by grind
  have n2:¬v<0:=by grind
  rw[fI_ a b,fI_ (by grind) (by grind),if_neg n1,if_neg n2]
  have e1:(if H<u then H else u)=H:=by split;rfl;grind
  have e2:(if H<v then H else v)=H:=by split;rfl;grind
  rw[e1,e2];grind
section
variable {α β:Type} [Inhabited α] [Inhabited β] (f:α→β) {lt:α→α→Bool} {lt':β→β→Bool} (h:∀a b,lt' (f a) (f b)=lt a b)
include h
omit [Inhabited α] [Inhabited β] in
theorem yP_ (x:α):∀r:List α,insR lt' (f x) (r.map f)=(insR lt x r).map f
 | []=>rfl
 | b::r=>by
  have e1:insR lt' (f x) (f b::r.map f)=if lt' (f x) (f b) then f b::insR lt' (f x) (r.map f) else f x::f b::r.map f:=rfl
  have e2:insR lt x (b::r)=if lt x b then b::insR lt x r else x::b::r:=rfl
  rw[List.map_cons,e1,e2,h,yP_ x r]
  split
  ·rfl
  ·rfl
omit [Inhabited α] [Inhabited β] in
theorem tV_:∀l r:List α,(l.map f).foldl (fun r x=>insR lt' x r) (r.map f)=(l.foldl (fun r x=>insR lt x r) r).map f
 | [],_=>rfl
 | x::l,r=>by
  show(l.map f).foldl _ (insR lt' (f x) (r.map f))=_
  rw[yP_ f h]
  exact tV_ l (insR lt x r)
theorem sN_ (l:List α):cQ_ lt' (l.map f)=(cQ_ lt l).map f:=by
 cases l with
 | nil=>rfl
 | cons a l=>
  rw[List.map_cons,pZ_,pZ_,List.map_reverse]
  congr 1
  exact tV_ f h l [a]
end
def ltQ (a b:Rat):Bool:=decide (a<b)
theorem sortQ (l:List Rat):(cQ_ ltQ l).Pairwise (·≤·)∧(cQ_ ltQ l).Perm l:=by
 have:=kI_ (lt:=ltQ) (fun x y h=>by
  have h:=of_decide_eq_true h
  exact decide_eq_false (by grind)) (fun x y z h k=>by
  have h:=of_decide_eq_false h
  have k:=of_decide_eq_false k
  exact decide_eq_false (by grind)) l
 exact⟨this.1.imp fun {a b} h=>by
  have h:=of_decide_eq_false h
  grind,this.2⟩
theorem aLN {p q s t c:Rat} (hst:s≤t) (h:(p+q*s<c∧c<p+q*t)∨(p+q*t<c∧c<p+q*s)):∃x,s<x∧x<t∧p+q*x=c∧q≠0:=by
 have hne:s≠t:=fun e=>by rw[e] at h;grind
 have hst':0<t-s:=by grind
 have hq:q≠0:=fun e=>by rw[e] at h;grind
 have ex:p+q*((c-p)/q)=c:=by grind
 have k1:q*((c-p)/q-s)=c-(p+q*s):=by grind
 have k2:q*(t-(c-p)/q)=p+q*t-c:=by grind
 have k3:q*(t-s)=(p+q*t)-(p+q*s):=by grind
 refine⟨(c-p)/q,?_,?_,ex,hq⟩
 all_goals
  rcases h with ⟨h1,h2⟩|⟨h1,h2⟩
  ·have hq0:0<q:=by
    rcases Rat.le_total (a:=q) (b:=0) with k|k
    ·have:=Rat.mul_nonneg (show 0≤-q by grind) (show 0≤t-s by grind)
     grind
    ·grind
   have m1:0<(c-p)/q-s:=(Rat.mul_pos_iff_of_pos_left hq0).1 (by grind)
   have m2:0<t-(c-p)/q:=(Rat.mul_pos_iff_of_pos_left hq0).1 (by grind)
   grind
  ·have hq0:0 < -q:=by
    rcases Rat.le_total (a:=0) (b:=q) with k|k
    ·have:=Rat.mul_nonneg k (show 0≤t-s by grind)
     grind
    ·grind
   have m1:0<(c-p)/q-s:=(Rat.mul_pos_iff_of_pos_left hq0).1 (by grind)
   have m2:0<t-(c-p)/q:=(Rat.mul_pos_iff_of_pos_left hq0).1 (by grind)
   grind
def stQ (a b:Pl) (y:Int):Rat:=(a.x:Rat)+((y-a.y:Int):Rat)/slQ a b
section
variable {a b:Pl} {r:Rc} (ha:vP a=true) (hb:vP b=true) (hr:vRc r=true) (hab:a.x<b.x)
include ha hb hab
theorem xQ_:mF_ a b=some (slQ a b)∧bdR 4095 4095 (slQ a b):=by
 have v1:=bL_.1 ha
 have v2:=bL_.1 hb
 have hx:((b.x-a.x:Int):Rat)≠0:=fun e=>by
  have:=Rat.intCast_eq_zero_iff.1 e
  omega
 have h:=aGX (a:=((b.y-a.y:Int):Rat)) (b:=((b.x-a.x:Int):Rat)) (gS_ (A:=4095) (by omega)) (gS_ (A:=4095) (by omega)) hx (by decide) (by decide)
 unfold mF_ ovO cD_
 rw[bR_,bR_]
 have e:slQ a b=((b.y-a.y:Int):Rat)/((b.x-a.x:Int):Rat):=by unfold slQ;rw[Rat.intCast_sub,Rat.intCast_sub]
 rw[e]
 exact⟨h.1,h.2.mono (by decide) (by decide)⟩
omit ha hb in
theorem aJH (hy:a.y≠b.y):slQ a b≠0:=by
 have h1:=nW_ hy
 have h2:=nW_ (show a.x≠b.x by omega)
 unfold slQ
 intro e
 have:(b.y:Rat)-a.y=0:=by grind
 exact h1 this
theorem aNR {y:Int} (hy:a.y≠b.y) (h0:0≤y) (h1:y≤4095):dK_ a b y=some (stQ a b y)∧bdR (2*4095^2) 4095 (stQ a b y):=by
 have v1:=bL_.1 ha
 obtain⟨s1,s2⟩:=xQ_ ha hb hab
 have d:=aGX (a:=((y-a.y:Int):Rat)) (gS_ (A:=4095) (by omega)) s2 (aJH hab hy) (by decide) (by decide)
 have p:=uQ_ (a:=(a.x:Rat)) (gS_ (A:=4095) (by omega)) d.2 (by decide) (by decide)
 unfold dK_ ovO plO
 rw[bR_,bR_,s1]
 simp only[cD_,d.1,p.1]
 exact⟨rfl,p.2.mono (by decide) (by decide)⟩
include hr
theorem tR_ {x:Rat} (hx:bdR (2*4095^2) 4095 x):bU_ r (bS_ a b (some x))=some (cpQ r.h (icQ a b r.y+slQ a b*x))∧bdR (5*4095^3) (4095^2) (cpQ r.h (icQ a b r.y+slQ a b*x)):=by
 have v1:=bL_.1 ha
 have v2:=aV_.1 hr
 obtain⟨s1,s2⟩:=xQ_ ha hb hab
 have d:=xN_ (b:=(a.x:Rat)) hx (gS_ (A:=4095) (by omega)) (by decide) (by decide)
 have m:=aFA s2 d.2 (by decide) (by decide)
 have p:=uQ_ (a:=(a.y:Rat)) (gS_ (A:=4095) (by omega)) m.2 (by decide) (by decide)
 have z:=xN_ (b:=(r.y:Rat)) p.2 (gS_ (A:=4095) (by omega)) (by decide) (by decide)
 have e:(a.y:Rat)+slQ a b*(x-a.x)-r.y=icQ a b r.y+slQ a b*x:=by unfold icQ;grind
 rw[e] at z
 unfold bU_ bS_
 rw[bR_,bR_,bR_,bR_,bR_,s1]
 simp only[plO,tiO,miO,cD_,d.1,m.1,p.1,z.1,mW_]
 unfold cpQ
 have z0:((0:Int):Rat)=0:=rfl
 rw[z0]
 by_cases c1:icQ a b r.y+slQ a b*x<0
 ·rw[if_pos (decide_eq_true c1),if_pos c1]
  exact⟨rfl,by decide,by decide⟩
 ·rw[if_neg (by simpa using c1),if_neg c1]
  by_cases c2:(r.h:Rat)<icQ a b r.y+slQ a b*x
  ·rw[if_pos (decide_eq_true c2),if_pos c2]
   exact⟨rfl,(gS_ (A:=4095) (by omega)).mono (by decide) (by decide)⟩
  ·rw[if_neg (by simpa using c2),if_neg c2]
   exact⟨rfl,z.2.mono (by decide) (by decide)⟩
theorem aOK {s t:Rat} (hs:bdR (2*4095^2) 4095 s) (ht:bdR (2*4095^2) 4095 t) :
  aKA a b r (some s) (some t)=some ((cpQ r.h (icQ a b r.y+slQ a b*s)+cpQ r.h (icQ a b r.y+slQ a b*t))/2*(t-s))∧bdR (10^31) (10^31) ((cpQ r.h (icQ a b r.y+slQ a b*s)+cpQ r.h (icQ a b r.y+slQ a b*t))/2*(t-s)):=by
 obtain⟨h1,h2⟩:=tR_ ha hb hr hab hs
 obtain⟨k1,k2⟩:=tR_ ha hb hr hab ht
 have p:=uQ_ h2 k2 (by decide) (by decide)
 have two:((2:Int):Rat)≠0:=by decide
 have d:=aGX (b:=((2:Int):Rat)) p.2 (gS_ (A:=2) (by decide)) two (by decide) (by decide)
 have m:=xN_ ht hs (by decide) (by decide)
 have u:=aFA d.2 m.2 (by decide) (by decide)
 unfold aKA
 rw[h1,k1,bR_]
 simp only[plO,ovO,tiO,miO,cD_,p.1,d.1,m.1,u.1]
 exact⟨rfl,u.2.mono (by decide) (by decide)⟩
theorem aCW (L R:Rat):∀(l:List Rat) (s acc:Rat) (k:Nat),(s::l).Pairwise (·≤·)→(∀x∈s::l,L≤x∧x≤R∧bdR (2*4095^2) 4095 x)→
  (∀x,L<x→x<R→slQ a b≠0→(icQ a b r.y+slQ a b*x=0∨icQ a b r.y+slQ a b*x=r.h)→x≤s∨x∈l)→k+l.length≤4→bdR ((k+1)*(10^31)^k) ((10^31)^k) acc→
  ∃e,(s::l).getLast?=some e∧sumO a b r ((s::l).map some) (some acc)=some (acc+arS r.h (icQ a b r.y) (slQ a b) s e)
 | [],s,acc,_,_,_,_,_,_=>⟨s,rfl,by
   show some acc=_
   rw[aQ_]
   congr 1
   grind⟩
 | t::l,s,acc,k,hp,hm,hc,hk,ha'=>by
  have v2:=aV_.1 hr
  have hH:(0:Rat)≤r.h:=aE_ v2.2.2.2.2.2.2.1
  obtain⟨p1,p2⟩:=List.pairwise_cons.1 hp
  have hst:=p1 t (by simp)
  have ms:=hm s (by simp)
  have mt:=hm t (by simp)
  obtain⟨q1,q2⟩:=aOK ha hb hr hab ms.2.2 mt.2.2
  have no:∀c,(c=0∨c=(r.h:Rat))→¬((icQ a b r.y+slQ a b*s<c∧c<icQ a b r.y+slQ a b*t)∨(icQ a b r.y+slQ a b*t<c∧c<icQ a b r.y+slQ a b*s)):=fun c hcc hx=>by
   obtain⟨x,x1,x2,x3,x4⟩:=aLN hst hx
   rcases hc x (by grind) (by grind) x4 (by rcases hcc with rfl|rfl;exact .inl x3;exact .inr x3) with h|h
   ·grind
   ·rcases List.mem_cons.1 h with h|h
    ·grind
    ·have:=(List.pairwise_cons.1 p2).1 x h
     grind
  have n0:=no 0 (.inl rfl)
  have n1:=no r.h (.inr rfl)
  have ep:(cpQ r.h (icQ a b r.y+slQ a b*s)+cpQ r.h (icQ a b r.y+slQ a b*t))/2*(t-s)=arS r.h (icQ a b r.y) (slQ a b) s t:=by
   unfold arS
   rw[yA_ hH (by grind) (by grind)]
   grind
  rw[ep] at q1 q2
  have hk4:k=0∨k=1∨k=2∨k=3:=by simp only[List.length_cons] at hk;omega
  have sm:((k+1)*(10^31)^k)*10^31+10^31*(10^31)^k<10^200∧(10^31)^k*10^31<10^200:=by
   rcases hk4 with rfl|rfl|rfl|rfl <;> decide
  obtain⟨s1,s2⟩:=uQ_ ha' q2 sm.1 sm.2
  obtain⟨e,e1,e2⟩:=aCW L R l t (acc+arS r.h (icQ a b r.y) (slQ a b) s t) (k+1) p2 (fun x hx=>hm x (List.mem_cons_of_mem _ hx)) (fun x x1 x2 x3 x4=>by
   rcases hc x x1 x2 x3 x4 with h|h
   ·exact .inl (by grind)
   ·rcases List.mem_cons.1 h with h|h
    ·exact .inl (by grind)
    ·exact .inr h) (by simp only[List.length_cons] at hk;omega) (s2.mono (by
   rw[Nat.pow_succ]
   have:(10^31)^k*10^31=10^31*(10^31)^k:=Nat.mul_comm _ _
   grind) (by rw[Nat.pow_succ];exact Nat.le_refl _))
  refine⟨e,by rw[List.getLast?_cons_cons];exact e1,?_⟩
  show sumO a b r ((t::l).map some) (plO (some acc) (aKA a b r (some s) (some t)))=_
  rw[q1]
  show sumO a b r ((t::l).map some) (addR acc _)=_
  rw[s1,e2,rP_ r.h _ _ s t e]
  congr 1
  grind
end
theorem aJG {a b:Pl} {r:Rc} (ha:vP a=true) (hb:vP b=true) (hr:vRc r=true) (hab:a.x<b.x):∃S:List Rat,sM_ a b r=S.map some∧S.length≤4∧((max a.x r.x:Int):Rat)∈S∧((min b.x (r.x+r.w):Int):Rat)∈S∧
  (∀x∈S,x=((max a.x r.x:Int):Rat)∨x=((min b.x (r.x+r.w):Int):Rat)∨(((max a.x r.x:Int):Rat)<x∧x<((min b.x (r.x+r.w):Int):Rat)∧bdR (2*4095^2) 4095 x))∧
  (∀x,((max a.x r.x:Int):Rat)<x→x<((min b.x (r.x+r.w):Int):Rat)→slQ a b≠0→(icQ a b r.y+slQ a b*x=0∨icQ a b r.y+slQ a b*x=r.h)→x∈S):=by
 have v1:=bL_.1 ha
 have v2:=aV_.1 hr
 obtain⟨L,hL⟩:∃L:Rat,L=((max a.x r.x:Int):Rat):=⟨_,rfl⟩
 obtain⟨R,hR⟩:∃R:Rat,R=((min b.x (r.x+r.w):Int):Rat):=⟨_,rfl⟩
 have eL:kX_ a r=some L:=by unfold kX_;rw[bR_,hL]
 have eR:fX_ b r=some R:=by unfold fX_;rw[bR_,hR]
 rw[←hL,←hR]
 unfold sM_
 rw[eL,eR]
 by_cases hy:a.y=b.y
 ·refine⟨[L,R],?_,by simp,by simp,by simp,fun x hx=>?_,fun x _ _ h0 _=>?_⟩
  ·have e:(List.filter (fun y=>decide (a.y≠b.y)&&leO (some L) (dK_ a b y)&&leO (dK_ a b y) (some R)) [r.y,r.y+r.h])=[]:=by
    rw[List.filter_eq_nil_iff]
    intro y _
    simp[hy]
   rw[e]
   rfl
  ·simp only[List.mem_cons,List.not_mem_nil,or_false] at hx
   rcases hx with h|h
   ·exact .inl h
   ·exact .inr (.inl h)
  ·exfalso
   refine h0 ?_
   unfold slQ
   rw[hy]
   grind
 ·have st:∀y∈[r.y,r.y+r.h],dK_ a b y=some (stQ a b y)∧bdR (2*4095^2) 4095 (stQ a b y):=fun y hyy=>by
   simp only[List.mem_cons,List.not_mem_nil,or_false] at hyy
   exact aNR ha hb hab hy (by omega) (by omega)
  have e1:List.filter (fun y=>decide (a.y≠b.y)&&leO (some L) (dK_ a b y)&&leO (dK_ a b y) (some R)) [r.y,r.y+r.h]=List.filter (fun y=>decide (L<stQ a b y)&&decide (stQ a b y<R)) [r.y,r.y+r.h]:=by
   refine List.filter_congr fun y hyy=>?_
   rw[(st y hyy).1,mW_,mW_,decide_eq_true hy,Bool.true_and]
  rw[e1]
  have e2:(List.filter (fun y=>decide (L<stQ a b y)&&decide (stQ a b y<R)) [r.y,r.y+r.h]).map (dK_ a b)=((List.filter (fun y=>decide (L<stQ a b y)&&decide (stQ a b y<R)) [r.y,r.y+r.h]).map (stQ a b)).map some:=by
   rw[List.map_map]
   exact List.map_congr_left fun y hyy=>(st y (List.mem_filter.1 hyy).1).1
  rw[e2]
  have hlen:(List.filter (fun y=>decide (L<stQ a b y)&&decide (stQ a b y<R)) [r.y,r.y+r.h]).length≤2:=List.length_filter_le _ _
  refine⟨[L,R]++(List.filter (fun y=>decide (L<stQ a b y)&&decide (stQ a b y<R)) [r.y,r.y+r.h]).map (stQ a b),by simp,by simp only[List.length_append,List.length_map,List.length_cons,List.length_nil];omega,by simp,by simp,fun x hx=>?_,fun x x1 x2 h0 hc=>?_⟩
  ·rcases List.mem_append.1 hx with hx|hx
   ·simp only[List.mem_cons,List.not_mem_nil,or_false] at hx
    rcases hx with h|h
    ·exact .inl h
    ·exact .inr (.inl h)
   ·obtain⟨y,hy1,rfl⟩:=List.mem_map.1 hx
    obtain⟨hy2,hy3⟩:=List.mem_filter.1 hy1
    simp only[Bool.and_eq_true,decide_eq_true_eq] at hy3
    exact .inr (.inr ⟨hy3.1,hy3.2,(st y hy2).2⟩)
  ·refine List.mem_append.2 (.inr (List.mem_map.2 ?_))
   have key:∀y:Int,icQ a b r.y+slQ a b*x=(y:Rat)-r.y→x=stQ a b y:=fun y h=>by
    have:slQ a b*(x-a.x)=(y:Rat)-a.y:=by unfold icQ at h;grind
    unfold stQ
    rw[Rat.intCast_sub]
    grind
   rcases hc with h|h
   ·have e:=key r.y (by grind)
    exact⟨r.y,List.mem_filter.2 ⟨by simp,by rw[←e];simp[x1,x2]⟩,e.symm⟩
   ·have e:=key (r.y+r.h) (by rw[Rat.intCast_add];grind)
    exact⟨r.y+r.h,List.mem_filter.2 ⟨by simp,by rw[←e];simp[x1,x2]⟩,e.symm⟩
theorem xE_ {a b:Pl} {r:Rc} (ha:vP a=true) (hb:vP b=true) (hr:vRc r=true) (hab:a.x≤b.x):dR_ a b r=some (-(covK r a b)):=by
 have v1:=bL_.1 ha
 have v2:=aV_.1 hr
 have v3:=bL_.1 hb
 unfold dR_
 have eL:kX_ a r=some ((max a.x r.x:Int):Rat):=by unfold kX_;rw[bR_]
 have eR:fX_ b r=some ((min b.x (r.x+r.w):Int):Rat):=by unfold fX_;rw[bR_]
 rw[eL,eR,mW_]
 by_cases hLR:max a.x r.x<min b.x (r.x+r.w)
 ·have hLR':((max a.x r.x:Int):Rat)<((min b.x (r.x+r.w):Int):Rat):=Rat.intCast_lt_intCast.2 hLR
  rw[if_pos (decide_eq_true hLR')]
  have hlt:a.x<b.x:=by omega
  obtain⟨S,e1,e2,e3,e4,e5,e6⟩:=aJG ha hb hr hlt
  obtain⟨so,sp⟩:=sortQ S
  rw[e1,sN_ (lt:=ltQ) some (fun a b=>mW_ a b) S,bR_]
  have cA:clI r.x r.w a.x=max a.x r.x:=by unfold clI;omega
  have cB:clI r.x r.w b.x=min b.x (r.x+r.w):=by unfold clI;omega
  have bL:bdR (2*4095^2) 4095 ((max a.x r.x:Int):Rat):=(gS_ (A:=4095) (by omega)).mono (by decide) (by decide)
  have bR:bdR (2*4095^2) 4095 ((min b.x (r.x+r.w):Int):Rat):=(gS_ (A:=4095) (by omega)).mono (by decide) (by decide)
  unfold covK
  rw[cA,cB,bH_]
  generalize ((max a.x r.x:Int):Rat)=L at *
  generalize ((min b.x (r.x+r.w):Int):Rat)=R at *
  have hin:∀x∈cQ_ ltQ S,L≤x∧x≤R∧bdR (2*4095^2) 4095 x:=fun x hx=>by
   rcases e5 x (sp.mem_iff.1 hx) with rfl|rfl|⟨k1,k2,k3⟩
   ·exact⟨Rat.le_refl,by grind,bL⟩
   ·exact⟨by grind,Rat.le_refl,bR⟩
   ·exact⟨by grind,by grind,k3⟩
  have hlen:(cQ_ ltQ S).length≤4:=by rw[gI_];exact e2
  have mL:=sp.mem_iff.2 e3
  have mR:=sp.mem_iff.2 e4
  have hc:∀x,L<x→x<R→slQ a b≠0→(icQ a b r.y+slQ a b*x=0∨icQ a b r.y+slQ a b*x=r.h)→x∈cQ_ ltQ S:=fun x x1 x2 x3 x4=>sp.mem_iff.2 (e6 x x1 x2 x3 x4)
  cases hs:cQ_ ltQ S with
  | nil=>rw[hs] at mL;cases mL
  | cons s l=>
   rw[hs] at so hin hlen mL mR hc
   have hsL:s=L:=by
    have h1:=(hin s (by simp)).1
    rcases List.mem_cons.1 mL with h|h
    ·exact h.symm
    ·have:=(List.pairwise_cons.1 so).1 L h
     grind
   obtain⟨e,g1,g2⟩:=aCW ha hb hr hlt L R l s ((0:Int):Rat) 0 so hin (fun x x1 x2 x3 x4=>by
    rcases List.mem_cons.1 (hc x x1 x2 x3 x4) with h|h
    ·exact .inl (by grind)
    ·exact .inr h) (by simp only[List.length_cons] at hlen;omega) ⟨by decide,by decide⟩
   have heR:e=R:=by
    have h1:=(hin e (List.mem_of_getLast? g1)).2.1
    have h2:∀(l:List Rat) (e:Rat),l.Pairwise (·≤·)→l.getLast?=some e→∀x∈l,x≤e:=by
     intro l e hp hl x hx
     rcases List.eq_nil_or_concat l with rfl|⟨k,y,rfl⟩
     ·cases hx
     ·rw[List.concat_eq_append] at hp hl hx
      rw[List.getLast?_append] at hl
      cases hl
      rcases List.mem_append.1 hx with hx|hx
      ·exact(List.pairwise_append.1 hp).2.2 x hx _ (by simp)
      ·rw[List.mem_singleton.1 hx];exact Rat.le_refl
    have h3:=h2 _ e so g1 R mR
    grind
   rw[g2,hsL,heR]
   congr 1
   have:((0:Int):Rat)=0:=rfl
   rw[this]
   grind
 ·have hLR':¬((max a.x r.x:Int):Rat)<((min b.x (r.x+r.w):Int):Rat):=fun h=>hLR (Rat.intCast_lt_intCast.1 h)
  rw[if_neg (by simpa using hLR'),bR_]
  have e:clI r.x r.w a.x=clI r.x r.w b.x:=by unfold clI;omega
  unfold covK
  rw[e,aQ_]
  congr 1
end Go.Proofs.YtlikmmpmnaaifaaGreatDoor
namespace Go.Proofs.YtlikmmpmnaaifaaGreatDoor
theorem xU_ {l:List Pl} (hv:∀p∈l,vP p=true):∀p∈sP l,∀q∈sP l,kp p=kp q→p=q:=fun p hp q hq h=>
 aNB (hv p (((eR_ hv).2 p).1 hp)) (hv q (((eR_ hv).2 q).1 hq)) h
theorem jA_ {l:List Pl} (h:2≤(sP l).length):aO_ l=(aU_ aI_ (sP l)).reverse.dropLast++(aU_ aI_ (sP l).reverse).reverse.dropLast:=aFW h
theorem qV_ {l:List Pl} (h:(sP l).length<2):aO_ l=sP l:=by rw[dF_,if_pos (by omega)]
theorem pC_ (a:Pl):aC_ [a]=[(a,a)]:=rfl
theorem iC_ {l:List Pl} (hv:∀p∈l,vP p=true):HullOf (aO_ l) (sP l):=by
 by_cases h:2≤(sP l).length
 ·rw[jA_ h]
  exact(tQ_ (aEM (eR_ hv).1) h (xU_ hv)).1
 ·rw[qV_ (by omega)]
  match hs:sP l with
  | []=>exact⟨fun _ h=>h,List.nodup_nil,rfl,(fun _ h=>by cases h),(fun _ h=>by cases h)⟩
  | [a]=>exact⟨fun _ h=>h,by simp,rfl,fun e he p hp=>by
    rw[pC_,List.mem_singleton] at he
    subst he
    rw[List.mem_singleton.1 hp]
    exact .inr ⟨aIW a a,by simp only;omega⟩,fun e he c hc=>by
    rw[pC_,List.mem_singleton] at he
    subst he
    exact .inl (List.mem_singleton.1 hc)⟩
  | _::_::_=>rw[hs] at h;simp at h
theorem yQ_ {l:List Pl} (hv:∀p∈l,vP p=true) {q:Pl} (hq:q∈aO_ l):q∈l:=((eR_ hv).2 q).1 ((iC_ hv).sub q hq)
theorem jT_ {l:List Pl} (hv:∀p∈l,vP p=true):∀p∈aO_ l,vP p=true:=fun _ hp=>hv _ (yQ_ hv hp)
theorem yH_:∀(h l:List Pl),h.Nodup→(∀q∈h,q∈l)→h.length≤l.length
 | [],_,_,_=>Nat.zero_le _
 | x::h,l,hn,hs=>by
  obtain⟨h1,h2⟩:=List.nodup_cons.1 hn
  have:=yH_ h (l.erase x) h2 fun q hq=>(List.mem_erase_of_ne (fun e=>h1 (by rw[←e];exact hq))).2 (hs q (List.mem_cons_of_mem _ hq))
  have hl:=List.length_erase_of_mem (hs x (by simp))
  have hp:=List.length_pos_of_mem (hs x (by simp))
  simp only[List.length_cons]
  omega
theorem aLA {l:List Pl} (hv:∀p∈l,vP p=true):(aO_ l).length≤l.length:=yH_ _ _ (iC_ hv).nodup fun _ hq=>yQ_ hv hq
theorem aPB {l:List Pl} (hv:∀p∈l,vP p=true) (h:l≠[]):aO_ l≠[]:=by
 intro e
 have hh:=(iC_ hv).head
 rw[e] at hh
 cases l with
 | nil=>exact h rfl
 | cons x l=>
  have:x∈sP (x::l):=((eR_ hv).2 x).2 (by simp)
  cases hs:sP (x::l) with
  | nil=>rw[hs] at this;cases this
  | cons y t=>rw[hs] at hh;cases hh
theorem wT_ {s s':List Pl} {m:Pl} (h:Asc s) (h':Asc s') (hs:∀q∈s',q∈s) (hi:∀p∈s,∀q∈s,kp p=kp q→p=q) (hm:s.head?=some m) (hin:m∈s'):s'.head?=some m:=by
 cases e:s'.head? with
 | none=>rw[List.head?_eq_none_iff.1 e] at hin;cases hin
 | some z=>
  have hz:z∈s':=List.mem_of_head? e
  have h1:=zH_ h hm z (hs z hz)
  have h2:=zH_ h' e m hin
  rw[hi z (hs z hz) m (hs m hin) (by omega)]
theorem wR_ {s s':List Pl} {m:Pl} (h:Asc s) (h':Asc s') (hs:∀q∈s',q∈s) (hi:∀p∈s,∀q∈s,kp p=kp q→p=q) (hm:s.getLast?=some m) (hin:m∈s'):s'.getLast?=some m:=by
 cases e:s'.getLast? with
 | none=>rw[List.getLast?_eq_none_iff.1 e] at hin;cases hin
 | some z=>
  have hz:z∈s':=List.mem_of_getLast? e
  have h1:=rO_ h hm z (hs z hz)
  have h2:=rO_ h' e m hin
  rw[hi z (hs z hz) m (hs m hin) (by omega)]
theorem nS_ {r s s':List Pl} (h:ChainOf r s) (ha:Asc s) (ha':Asc s') (hs:∀q∈s',q∈s) (hr:∀q∈r,q∈s') (hi:∀p∈s,∀q∈s,kp p=kp q→p=q):aU_ aI_ s'=r:=by
 have k:=rJ_ s' ha'
 refine pL_ _ _ k.desc h.desc ?_ ?_ (fun e he p hp=>k.dom e he p (hr p hp)) (fun e he p hp=>h.dom e he p (hs p (k.sub p hp))) (fun a ha b hb=>hi a (hs a (k.sub a ha)) b (h.sub b hb))
 ·rw[k.head,h.head]
  cases e:s.getLast? with
  | none=>
   rw[List.getLast?_eq_none_iff.1 e] at hs
   rw[List.getLast?_eq_none_iff]
   exact List.eq_nil_iff_forall_not_mem.2 fun q hq=>by cases hs q hq
  | some m=>exact wR_ ha ha' hs hi e (hr m (List.mem_of_head? (h.head.trans e)))
 ·rw[k.last,h.last]
  cases e:s.head? with
  | none=>
   rw[List.head?_eq_none_iff.1 e] at hs
   rw[List.head?_eq_none_iff]
   exact List.eq_nil_iff_forall_not_mem.2 fun q hq=>by cases hs q hq
  | some m=>exact wT_ ha ha' hs hi e (hr m (List.mem_of_getLast? (h.last.trans e)))
theorem aFV {l:List Pl} (hv:∀p∈l,vP p=true):aO_ (aO_ l)=aO_ l:=by
 have hv':=jT_ hv
 obtain⟨a1,a2⟩:=eR_ hv
 obtain⟨b1,b2⟩:=eR_ hv'
 by_cases h:2≤(sP l).length
 ·have hp:=aEM a1
  obtain⟨_,_,hm⟩:=tQ_ hp h (xU_ hv)
  rw[←jA_ h] at hm
  have hs:∀q∈sP (aO_ l),q∈sP l:=fun q hq=>(iC_ hv).sub q ((b2 q).1 hq)
  have r1:=nS_ hp.one a1 b1 hs (fun q hq=>(b2 q).2 ((hm q).2 (.inl hq))) (xU_ hv)
  have r2:=nS_ (s':=((sP (aO_ l)).map ngP).reverse) hp.two (zG_ a1) (zG_ b1) (fun q hq=>by
   obtain⟨p,hp,rfl⟩:=List.mem_map.1 (List.mem_reverse.1 hq)
   exact List.mem_reverse.2 (List.mem_map_of_mem (hs p hp))) (fun q hq=>by
   obtain⟨p,hp,rfl⟩:=List.mem_map.1 hq
   exact List.mem_reverse.2 (List.mem_map_of_mem ((b2 p).2 ((hm p).2 (.inr hp))))) (fun p hp q hq hk=>by
   obtain⟨p',hp',rfl⟩:=List.mem_map.1 (List.mem_reverse.1 hp)
   obtain⟨q',hq',rfl⟩:=List.mem_map.1 (List.mem_reverse.1 hq)
   rw[oD_,oD_] at hk
   rw[xU_ hv p' hp' q' hq' (by omega)])
  have r3:aU_ aI_ (sP (aO_ l)).reverse=aU_ aI_ (sP l).reverse:=by
   rw[←List.map_reverse,uF_] at r2
   have:=congrArg (List.map ngP) r2
   rwa[iX_,iX_] at this
  obtain⟨lo,hi,t,t',e1,e2,_,_,hne,ht,_⟩:=oP_ hp h
  have h2:2≤(sP (aO_ l)).length:=by
   have m1:lo∈sP (aO_ l):=(b2 lo).2 ((hm lo).2 (.inr (by rw[e2];simp)))
   have m2:hi∈sP (aO_ l):=(b2 hi).2 ((hm hi).2 (.inl (by rw[e1];simp)))
   match hh:sP (aO_ l),m1,m2 with
   | [],m1,_=>cases m1
   | [z],m1,m2=>
    have:=List.mem_singleton.1 m1
    have:=List.mem_singleton.1 m2
    subst_vars
    omega
   | _::_::_,_,_=>simp
  rw[jA_ h2,r1,r3,←jA_ h]
 ·have e:=qV_ (show(sP l).length<2 by omega)
  have hvs:∀p∈sP l,vP p=true:=fun p hp=>hv p ((a2 p).1 hp)
  rw[e,qV_ (by rw[zE_ hvs a1];omega),zE_ hvs a1]
theorem bW_ {n:Int} (h:n≠0):(n:Rat)≠0:=fun e=>h (Rat.intCast_eq_zero_iff.1 e)
def rpR (D M:Nat) (k:Nat) (q:Rat):Prop:=(∃n e:Int,e≠0∧e.natAbs≤D^k∧q=(n:Rat)/e)∧-((k*M:Nat):Rat)≤q∧q≤((k*M:Nat):Rat)
theorem rpR.bd {D M k:Nat} {q:Rat} (h:rpR D M k q):bdR (k*M*D^k) (D^k) q:=by
 obtain⟨⟨n,e,he,hd,hq⟩,h1,h2⟩:=h
 have hen:=bW_ he
 have hn:(n:Rat)=q*e:=by rw[hq];grind
 have hb:n.natAbs≤k*M*e.natAbs:=by
  have c1:(((k*M:Nat):Int):Rat)=((k*M:Nat):Rat):=rfl
  rcases Int.lt_or_gt_of_ne he with hs|hs
  ·have ep:(0:Rat) < -(e:Rat):=by
    have:=Rat.intCast_lt_intCast.2 hs
    have z:((0:Int):Rat)=0:=rfl
    grind
   have u1:=Rat.mul_nonneg (show 0≤((k*M:Nat):Rat)-q by grind) (Rat.le_of_lt ep)
   have u2:=Rat.mul_nonneg (show 0≤q+((k*M:Nat):Rat) by grind) (Rat.le_of_lt ep)
   have g1:((-(((k*M:Nat):Int) * -e):Int):Rat)≤(n:Rat):=by
    rw[Rat.intCast_neg,Rat.intCast_mul,Rat.intCast_neg,c1];grind
   have g2:(n:Rat)≤(((((k*M:Nat):Int) * -e):Int):Rat):=by
    rw[Rat.intCast_mul,Rat.intCast_neg,c1];grind
   have g1:=Rat.intCast_le_intCast.1 g1
   have g2:=Rat.intCast_le_intCast.1 g2
   have he2:(e.natAbs:Int) = -e:=by omega
   have e1:((k*M*e.natAbs:Nat):Int)=((k*M:Nat):Int) * -e:=by
    rw[←he2]
    exact Int.natCast_mul _ _
   omega
  ·have ep:(0:Rat)<(e:Rat):=by
    have:=Rat.intCast_lt_intCast.2 hs
    have z:((0:Int):Rat)=0:=rfl
    grind
   have u1:=Rat.mul_nonneg (show 0≤((k*M:Nat):Rat)-q by grind) (Rat.le_of_lt ep)
   have u2:=Rat.mul_nonneg (show 0≤q+((k*M:Nat):Rat) by grind) (Rat.le_of_lt ep)
   have g1:((-(((k*M:Nat):Int)*e):Int):Rat)≤(n:Rat):=by
    rw[Rat.intCast_neg,Rat.intCast_mul,c1];grind
   have g2:(n:Rat)≤(((((k*M:Nat):Int)*e):Int):Rat):=by
    rw[Rat.intCast_mul,c1];grind
   have g1:=Rat.intCast_le_intCast.1 g1
   have g2:=Rat.intCast_le_intCast.1 g2
   have he2:(e.natAbs:Int)=e:=by omega
   have e1:((k*M*e.natAbs:Nat):Int)=((k*M:Nat):Int)*e:=by
    rw[show((k*M*e.natAbs:Nat):Int)=((k*M:Nat):Int)*(e.natAbs:Int) from Int.natCast_mul _ _,he2]
   omega
 rw[hq,←Rat.divInt_eq_div]
 exact fC_ he (Nat.le_trans hb (Nat.mul_le_mul_left _ hd)) hd
theorem lL_ {X Y U V dx dy:Int} (hx:dx≠0) (hV:V-U=dy*(Y-X)):∃n:Int,((Y:Rat)-X)*phi ((U:Rat)/dx) ((V:Rat)/dx)=(n:Rat)/((2*dx*(if dy=0 then 1 else dy):Int):Rat):=by
 have cx:=bW_ hx
 have hV':(V:Rat)-U=dy*((Y:Rat)-X):=by
  have:=congrArg (fun z:Int=>(z:Rat)) hV
  simp only[Rat.intCast_sub,Rat.intCast_mul] at this
  exact this
 by_cases hy:dy=0
 ·rw[if_pos hy]
  have hUV:(V:Rat)=U:=by rw[hy] at hV';have z:((0:Int):Rat)=0:=rfl;rw[z] at hV';grind
  rw[hUV]
  by_cases hu:(0:Rat)≤(U:Rat)/dx
  ·refine⟨(Y-X)*(2*U),?_⟩
   rw[fI_ hu hu]
   simp only[Rat.intCast_sub,Rat.intCast_mul]
   have z1:((1:Int):Rat)=1:=rfl
   have z2:((2:Int):Rat)=2:=rfl
   rw[z1,z2]
   grind
  ·refine⟨0,?_⟩
   rw[cG_ (by grind) (by grind)]
   have z0:((0:Int):Rat)=0:=rfl
   rw[z0]
   grind
 ·rw[if_neg hy]
  have cy:=bW_ hy
  have z2:((2:Int):Rat)=2:=rfl
  have z0:((0:Int):Rat)=0:=rfl
  unfold phi
  by_cases hu:(0:Rat)≤(U:Rat)/dx <;> by_cases hv:(0:Rat)≤(V:Rat)/dx <;> simp only[hu,hv,if_true,if_false]
  ·refine⟨(Y-X)*(U+V)*dy,?_⟩
   simp only[Rat.intCast_sub,Rat.intCast_mul,Rat.intCast_add]
   rw[z2]
   grind
  ·refine⟨-(U*U),?_⟩
   have hne:(U:Rat)-V≠0:=fun e=>by
    have:(U:Rat)=V:=by grind
    rw[this] at hu
    exact hv hu
   simp only[Rat.intCast_neg,Rat.intCast_mul]
   rw[z2]
   have hyx:(Y:Rat)-X≠0:=fun e=>by rw[e] at hV';grind
   have e1:(U:Rat)/dx-(V:Rat)/dx = -(dy/dx)*((Y:Rat)-X):=by grind
   rw[e1,nM_ hyx]
   grind
  ·refine⟨V*V,?_⟩
   have hne:(V:Rat)-U≠0:=fun e=>by
    have:(V:Rat)=U:=by grind
    rw[this] at hv
    exact hu hv
   simp only[Rat.intCast_mul]
   rw[z2]
   have hyx:(Y:Rat)-X≠0:=fun e=>by rw[e] at hV';grind
   have e1:(V:Rat)/dx-(U:Rat)/dx=(dy/dx)*((Y:Rat)-X):=by grind
   rw[e1,nM_ hyx]
   grind
  ·refine⟨0,?_⟩
   rw[z0]
   grind
theorem aHL {a b:Pl} {r:Rc} (B:Nat) (hr:vRc r=true) (hx:(b.x-a.x).natAbs≤B) (hy:(b.y-a.y).natAbs≤B) (hB:1≤B):rpR (2*B*B) (4095*4095) 1 (covK r a b):=by
 have v:=aV_.1 hr
 refine⟨?_,?_⟩
 ·by_cases hab:a.x=b.x
  ·refine⟨0,1,by decide,?_,?_⟩
   ·rw[Nat.pow_one]
    exact Nat.mul_pos (show 0<2*B by omega) (by omega)
   ·unfold covK
    rw[hab,aQ_]
    have z0:((0:Int):Rat)=0:=rfl
    rw[z0]
    grind
  ·have hdx:b.x-a.x≠0:=by omega
   have cdx:=bW_ hdx
   obtain⟨X,hX⟩:∃X,X=clI r.x r.w b.x:=⟨_,rfl⟩
   obtain⟨Y,hY⟩:∃Y,Y=clI r.x r.w a.x:=⟨_,rfl⟩
   have key:∀z:Int,icQ a b r.y+slQ a b*z=(((a.y-r.y)*(b.x-a.x)+(b.y-a.y)*(z-a.x):Int):Rat)/((b.x-a.x:Int):Rat):=fun z=>by
    unfold icQ slQ
    simp only[Rat.intCast_add,Rat.intCast_mul,Rat.intCast_sub] at cdx⊢
    grind
   have key2:∀z:Int,icQ a b r.y+slQ a b*z-r.h=(((a.y-r.y-r.h)*(b.x-a.x)+(b.y-a.y)*(z-a.x):Int):Rat)/((b.x-a.x:Int):Rat):=fun z=>by
    unfold icQ slQ
    simp only[Rat.intCast_add,Rat.intCast_mul,Rat.intCast_sub] at cdx⊢
    grind
   obtain⟨n1,e1⟩:=lL_ (X:=X) (Y:=Y) (U:=(a.y-r.y)*(b.x-a.x)+(b.y-a.y)*(X-a.x)) (V:=(a.y-r.y)*(b.x-a.x)+(b.y-a.y)*(Y-a.x)) (dy:=b.y-a.y) hdx (by grind)
   obtain⟨n2,e2⟩:=lL_ (X:=X) (Y:=Y) (U:=(a.y-r.y-r.h)*(b.x-a.x)+(b.y-a.y)*(X-a.x)) (V:=(a.y-r.y-r.h)*(b.x-a.x)+(b.y-a.y)*(Y-a.x)) (dy:=b.y-a.y) hdx (by grind)
   refine⟨n1-n2,2*(b.x-a.x)*(if b.y-a.y=0 then 1 else b.y-a.y),?_,?_,?_⟩
   ·refine Int.mul_ne_zero (by omega) ?_
    split <;> omega
   ·rw[Nat.pow_one,Int.natAbs_mul,Int.natAbs_mul]
    have h1:(if b.y-a.y=0 then 1 else b.y-a.y:Int).natAbs≤B:=by split <;> omega
    exact Nat.mul_le_mul (Nat.mul_le_mul_left 2 hx) h1
   ·unfold covK arS psi
    rw[←hX,←hY,key,key,←key,←key,key2,key2,key,key]
    rw[Rat.intCast_sub n1]
    generalize ((2*(b.x-a.x)*(if b.y-a.y=0 then 1 else b.y-a.y):Int):Rat)=E at *
    grind
 ·have hH:(0:Rat)≤r.h:=aE_ v.2.2.2.2.2.2.1
  have c1:0≤clI r.x r.w a.x∧clI r.x r.w a.x≤4095:=by unfold clI;omega
  have c2:0≤clI r.x r.w b.x∧clI r.x r.w b.x≤4095:=by unfold clI;omega
  have p1:=jO_ (icQ a b r.y+slQ a b*clI r.x r.w b.x) (icQ a b r.y+slQ a b*clI r.x r.w a.x) hH
  have p2:=aMW (icQ a b r.y+slQ a b*clI r.x r.w b.x) (icQ a b r.y+slQ a b*clI r.x r.w a.x) hH
  have hh:(r.h:Rat)≤4095:=aE_ (show r.h≤4095 by omega)
  unfold covK arS
  generalize psi (r.h:Rat) (icQ a b r.y+slQ a b*clI r.x r.w b.x) (icQ a b r.y+slQ a b*clI r.x r.w a.x)=P at *
  have d1:(clI r.x r.w a.x:Rat)≤4095:=aE_ c1.2
  have d2:(0:Rat)≤(clI r.x r.w a.x:Rat):=aE_ c1.1
  have d3:(clI r.x r.w b.x:Rat)≤4095:=aE_ c2.2
  have d4:(0:Rat)≤(clI r.x r.w b.x:Rat):=aE_ c2.1
  generalize (clI r.x r.w a.x:Rat)=A at *
  generalize (clI r.x r.w b.x:Rat)=C at *
  have m:(((1*(4095*4095):Nat)):Rat)=4095*4095:=by decide +kernel
  rw[m]
  have u1:=Rat.mul_nonneg (show 0≤4095-(A-C) by grind) p1
  have u2:=Rat.mul_nonneg (show 0≤4095+(A-C) by grind) p1
  have u3:(4095:Rat)*P≤4095*4095:=by grind
  constructor
  ·grind
  ·grind
theorem aAT {l:List Pl} (hv:∀p∈l,vP p=true) (hm:∀e∈aC_ (aO_ l),e.1∈aO_ l∧e.2∈aO_ l) (h1:∀(i:Nat) (e:Pl×Pl),(aC_ (aO_ l))[i]?=some e→(aO_ l)[i]?=some e.1):(aC_ (aO_ l)).Pairwise aMM:=by
 have H:=iC_ hv
 rw[List.pairwise_iff_getElem]
 intro i j hi hj hij k hk
 obtain⟨k1,k2,k3,k4⟩:=hk
 have me:=hm _ (List.getElem_mem hi)
 have mf:=hm _ (List.getElem_mem hj)
 have ge:=h1 i _ (List.getElem?_eq_getElem hi)
 have gf:=h1 j _ (List.getElem?_eq_getElem hj)
 have he:=List.getElem_mem hi
 have hf:=List.getElem_mem hj
 generalize (aC_ (aO_ l))[i]=e at *
 generalize (aC_ (aO_ l))[j]=f at *
 have hne:f.1≠e.1:=fun x=>by
  rw[x,←ge] at gf
  have:=(List.getElem?_inj (List.getElem?_eq_some_iff.1 (gf.trans ge)).1 H.nodup).1 gf
  omega
 have pos:∀e∈aC_ (aO_ l),∀p∈aO_ l,0≤aB_ e.1 e.2 p:=fun e he p hp=>by
  have:=H.edge e he p (H.sub p hp)
  omega
 obtain⟨t1,t2⟩:=sA_ k1 k2 k3 k4 (pos e he _ mf.1) (pos e he _ mf.2) (pos f hf _ me.1) (pos f hf _ me.2)
 have:=H.vert e he f.1 mf.1
 rcases this with q|q|q
 ·exact hne q
 ·rw[q] at k4;omega
 ·omega
theorem aAS {l:List Pl} (hv:∀p∈l,vP p=true) (hne:aO_ l≠[]) (hm:∀e∈aC_ (aO_ l),e.1∈aO_ l∧e.2∈aO_ l) (h1:∀(i:Nat) (e:Pl×Pl),(aC_ (aO_ l))[i]?=some e→(aO_ l)[i]?=some e.1) {r:Rc} (hr:vRc r=true) :
  0≤aL_ (aO_ l) r∧aL_ (aO_ l) r≤(zI_ (aO_ l):Rat)/2∧aL_ (aO_ l) r≤(r.w:Rat)*r.h:=by
 have H:=iC_ hv
 have v:=aV_.1 hr
 obtain⟨p,t,hp⟩:∃p t,aO_ l=p::t:=by
  cases h:aO_ l with
  | nil=>exact absurd h hne
  | cons p t=>exact⟨p,t,rfl⟩
 have hmem:p∈aO_ l:=by rw[hp];simp
 have:=wF_ (l:=aO_ l) (r:=r) (by omega) p (fun e he=>by
  have:=H.edge e he p (H.sub p hmem)
  rw[←xH_]
  omega)
 exact⟨this.1,this.2,aBE (by omega) (by omega) (aAT hv hm h1)⟩
section
variable {α:Type}
variable (g:α→Rat) (mid:α→α→α)
variable {g mid}
section
variable {f:α→α→Rat} (hm:∀p q,g p*g q<0→g (mid p q)=0) (hs:∀p q,g p*g q<0→f p q=f p (mid p q)+f (mid p q) q) (hz:∀p q,g p≤0→g q≤0→f p q=0)
include hm hs hz
end
section
variable {K:α→α→Prop} {G:α→Prop} (hm:∀p q,g p*g q<0→g (mid p q)=0) (hs:∀p q,K p q→g p*g q<0→K p (mid p q)∧K (mid p q) q) (hG:∀p q,K p q→G p∧G q) (hz:∀u v,G u→G v→g u=0→g v=0→K u v)
include hm hs hG hz
end
end
end Go.Proofs.YtlikmmpmnaaifaaGreatDoor
namespace Go.Proofs.YtlikmmpmnaaifaaGreatDoor
theorem eI_ {l:List Pl} (hv:∀p∈l,vP p=true) (hm:∀e∈aC_ (aO_ l),e.1∈aO_ l∧e.2∈aO_ l) (h1:∀(i:Nat) (e:Pl×Pl),(aC_ (aO_ l))[i]?=some e→(aO_ l)[i]?=some e.1)
  (T:Pl→Pl) (hT:∀a b c,aB_ (T a) (T b) (T c)=aB_ a b c):(aC_ (aO_ l)).Pairwise (fun e f=>∀k:Int,¬((T e.2).x≤k∧k+1≤(T e.1).x∧(T f.2).x≤k∧k+1≤(T f.1).x)):=by
 have H:=iC_ hv
 rw[List.pairwise_iff_getElem]
 intro i j hi hj hij k hk
 obtain⟨k1,k2,k3,k4⟩:=hk
 have me:=hm _ (List.getElem_mem hi)
 have mf:=hm _ (List.getElem_mem hj)
 have ge:=h1 i _ (List.getElem?_eq_getElem hi)
 have gf:=h1 j _ (List.getElem?_eq_getElem hj)
 have he:=List.getElem_mem hi
 have hf:=List.getElem_mem hj
 generalize (aC_ (aO_ l))[i]=e at *
 generalize (aC_ (aO_ l))[j]=f at *
 have hne:f.1≠e.1:=fun x=>by
  rw[x,←ge] at gf
  have:=(List.getElem?_inj (List.getElem?_eq_some_iff.1 (gf.trans ge)).1 H.nodup).1 gf
  omega
 have pos:∀e∈aC_ (aO_ l),∀p∈aO_ l,0≤aB_ (T e.1) (T e.2) (T p):=fun e he p hp=>by
  have:=H.edge e he p (H.sub p hp)
  rw[hT]
  omega
 obtain⟨t1,t2⟩:=sA_ k1 k2 k3 k4 (pos e he _ mf.1) (pos e he _ mf.2) (pos f hf _ me.1) (pos f hf _ me.2)
 rw[hT] at t1
 have:=H.vert e he f.1 mf.1
 rcases this with q|q|q
 ·exact hne q
 ·rw[q] at k4;omega
 ·omega
def dirB (d:Nat) (t:Int) (e:Pl×Pl):Bool:=match d with
 | 0=>decide (e.2.x<t)&&decide (t<e.1.x)
 | 1=>decide (e.1.x<t)&&decide (t<e.2.x)
 | 2=>decide (e.2.y<t)&&decide (t<e.1.y)
 | _=>decide (e.1.y<t)&&decide (t<e.2.y)
theorem fA_ {β:Type} (P:β→Bool):∀l:List β,l.Pairwise (fun a b=>¬(P a=true∧P b=true))→l.countP P≤1
 | [],_=>by simp
 | a::l,h=>by
  obtain⟨h1,h2⟩:=List.pairwise_cons.1 h
  rw[List.countP_cons]
  split
  ·rename_i ha
   have:l.countP P=0:=List.countP_eq_zero.2 fun b hb hp=>h1 b hb ⟨ha,hp⟩
   omega
  ·have:=fA_ P l h2
   omega
def anyB {β:Type} (Ps:List (β→Bool)) (b:β):Bool:=Ps.any fun P=>P b
theorem pF_ {β:Type} (l:List β):∀Ps:List (β→Bool),(∀P∈Ps,l.countP P≤1)→l.countP (anyB Ps)≤Ps.length
 | [],_=>by
  have:l.countP (anyB ([]:List (β→Bool)))=0:=List.countP_eq_zero.2 fun b _ h=>by cases h
  omega
 | P::Ps,h=>by
  have h1:=h P (by simp)
  have h2:=pF_ l Ps fun Q hQ=>h Q (by simp[hQ])
  have gen:∀l:List β,l.countP (anyB (P::Ps))≤l.countP P+l.countP (anyB Ps):=by
   intro l
   induction l with
   | nil=>simp
   | cons b l ih=>
    rw[List.countP_cons,List.countP_cons,List.countP_cons]
    have e:anyB (P::Ps) b=(P b||anyB Ps b):=rfl
    rw[e]
    cases P b <;> cases anyB Ps b <;> simp <;> omega
  have:=gen l
  rw[List.length_cons]
  omega
def crsL (r:Rc):List (Pl×Pl→Bool):=[dirB 0 r.x,dirB 1 r.x,dirB 0 (r.x+r.w),dirB 1 (r.x+r.w),dirB 2 r.y,dirB 3 r.y,dirB 2 (r.y+r.h),dirB 3 (r.y+r.h)]
def crsB (r:Rc) (e:Pl×Pl):Bool:=anyB (crsL r) e
theorem tZ_ {l:List Pl} (hv:∀p∈l,vP p=true) (hm:∀e∈aC_ (aO_ l),e.1∈aO_ l∧e.2∈aO_ l) (h1:∀(i:Nat) (e:Pl×Pl),(aC_ (aO_ l))[i]?=some e→(aO_ l)[i]?=some e.1) (r:Rc):(aC_ (aO_ l)).countP (crsB r)≤8:=by
 have c0:=fun t=>fA_ (dirB 0 t) _ ((eI_ hv hm h1 (fun p=>p) (fun _ _ _=>rfl)).imp fun {e f} h=>fun hc=>by
  unfold dirB at hc
  simp only[Bool.and_eq_true,decide_eq_true_eq] at hc
  exact h t ⟨by omega,by omega,by omega,by omega⟩)
 have c1:=fun t=>fA_ (dirB 1 t) _ ((eI_ hv hm h1 (fun p=>⟨-p.x,-p.y⟩) (fun _ _ _=>by unfold aB_;simp only;grind)).imp fun {e f} h=>fun hc=>by
  unfold dirB at hc
  simp only[Bool.and_eq_true,decide_eq_true_eq] at hc
  simp only at h
  exact h (-t) ⟨by omega,by omega,by omega,by omega⟩)
 have c2:=fun t=>fA_ (dirB 2 t) _ ((eI_ hv hm h1 (fun p=>⟨p.y,-p.x⟩) (fun _ _ _=>by unfold aB_;simp only;grind)).imp fun {e f} h=>fun hc=>by
  unfold dirB at hc
  simp only[Bool.and_eq_true,decide_eq_true_eq] at hc
  simp only at h
  exact h t ⟨by omega,by omega,by omega,by omega⟩)
 have c3:=fun t=>fA_ (dirB 3 t) _ ((eI_ hv hm h1 (fun p=>⟨-p.y,p.x⟩) (fun _ _ _=>by unfold aB_;simp only;grind)).imp fun {e f} h=>fun hc=>by
  unfold dirB at hc
  simp only[Bool.and_eq_true,decide_eq_true_eq] at hc
  simp only at h
  exact h (-t) ⟨by omega,by omega,by omega,by omega⟩)
 refine pF_ _ (crsL r) fun P hP=>?_
 unfold crsL at hP
 simp only[List.mem_cons,List.not_mem_nil,or_false] at hP
 rcases hP with rfl|rfl|rfl|rfl|rfl|rfl|rfl|rfl
 ·exact c0 _
 ·exact c1 _
 ·exact c0 _
 ·exact c1 _
 ·exact c2 _
 ·exact c3 _
 ·exact c2 _
 ·exact c3 _
theorem aPQ {r:Rc} {e:Pl×Pl} (h:crsB r e=false):(∀t,t=r.x∨t=r.x+r.w→¬(e.2.x<t∧t<e.1.x)∧¬(e.1.x<t∧t<e.2.x))∧(∀t,t=r.y∨t=r.y+r.h→¬(e.2.y<t∧t<e.1.y)∧¬(e.1.y<t∧t<e.2.y)):=by
 unfold crsB anyB crsL dirB at h
 simp only[List.any_cons,List.any_nil,Bool.or_eq_false_iff,Bool.and_eq_false_iff,decide_eq_false_iff_not] at h
 constructor
 ·rintro t (rfl|rfl) <;> omega
 ·rintro t (rfl|rfl) <;> omega
def nzN (z:Int):Nat:=if z=0 then 1 else z.natAbs
theorem aEY (z:Int):0<nzN z:=by unfold nzN;split <;> omega
def wE (r:Rc) (e:Pl×Pl):Nat:=if crsB r e then 2*nzN (e.2.x-e.1.x)*nzN (e.2.y-e.1.y) else 1
theorem wE_pos (r:Rc) (e:Pl×Pl):0<wE r e:=by
 unfold wE
 split
 ·exact Nat.mul_pos (Nat.mul_pos (by decide) (aEY _)) (aEY _)
 ·decide
def sW_ (r:Rc):List (Pl×Pl)→Nat
 | []=>1
 | e::l=>wE r e*sW_ r l
theorem mL_ (r:Rc):∀l,0<sW_ r l
 | []=>Nat.one_pos
 | e::l=>Nat.mul_pos (wE_pos r e) (mL_ r l)
theorem aCJ {r:Rc} {e:Pl×Pl} : ∀{l:List (Pl×Pl)},e∈l→wE r e∣sW_ r l
 | [],h=>by cases h
 | f::l,h=>by
  unfold sW_
  rcases List.mem_cons.1 h with rfl|h
  ·exact Nat.dvd_mul_right _ _
  ·exact Nat.dvd_trans (aCJ h) (Nat.dvd_mul_left _ _)
theorem qE_ {r:Rc} : ∀{l:List (Pl×Pl)},(∀e∈l,vP e.1=true∧vP e.2=true)→sW_ r l≤(2*4095*4095)^(l.countP (crsB r))
 | [],_=>Nat.le_refl _
 | e::l,h=>by
  have ih:=qE_ (r:=r) (l:=l) fun f hf=>h f (by simp[hf])
  obtain⟨v1,v2⟩:=h e (by simp)
  have v1:=bL_.1 v1
  have v2:=bL_.1 v2
  unfold sW_ wE
  rw[List.countP_cons]
  split
  ·rw[Nat.pow_succ,Nat.mul_comm]
   refine Nat.mul_le_mul ih (Nat.mul_le_mul (Nat.mul_le_mul_left 2 ?_) ?_)
   ·unfold nzN;split <;> omega
   ·unfold nzN;split <;> omega
  ·rw[Nat.one_mul]
   exact ih
def dI (D:Nat) (q:Rat):Prop:=∃n:Int,q*(D:Int)=n
theorem dI.dvd {D E:Nat} {q:Rat} (h:dI D q) (hd:D∣E):dI E q:=by
 obtain⟨n,hn⟩:=h
 obtain⟨k,rfl⟩:=hd
 refine⟨n*k,?_⟩
 rw[Rat.intCast_mul,←hn,Int.natCast_mul,Rat.intCast_mul]
 grind
theorem dI.add {D:Nat} {a b:Rat} (ha:dI D a) (hb:dI D b):dI D (a+b):=by
 obtain⟨n,hn⟩:=ha
 obtain⟨m,hm⟩:=hb
 exact⟨n+m,by rw[Rat.intCast_add,←hn,←hm];grind⟩
theorem dI.int (D:Nat) (n:Int):dI D n:=⟨n*D,by rw[Rat.intCast_mul]⟩
theorem dI.bd {D:Nat} {q:Rat} (hD:0<D) (h:dI D q) {M:Nat} (h1 : -(M:Rat)≤q) (h2:q≤(M:Rat)):bdR (M*D) D q:=by
 obtain⟨n,hn⟩:=h
 have hd:(D:Int)≠0:=by omega
 have:=rpR.bd (D:=D) (M:=M) (k:=1) (q:=q) ⟨⟨n,D,hd,by rw[Nat.pow_one,Int.natAbs_natCast];exact Nat.le_refl _,by
  have c:=bW_ hd
  rw[←hn]
  grind⟩,by rw[Nat.one_mul];exact h1,by rw[Nat.one_mul];exact h2⟩
 rw[Nat.one_mul,Nat.pow_one] at this
 exact this
theorem aHM {a b:Pl} {r:Rc} (hab:a.x≠b.x):∃n:Int,covK r a b=(n:Rat)/((2*(b.x-a.x)*(if b.y-a.y=0 then 1 else b.y-a.y):Int):Rat):=by
 have hdx:b.x-a.x≠0:=by omega
 have cdx:=bW_ hdx
 obtain⟨X,hX⟩:∃X,X=clI r.x r.w b.x:=⟨_,rfl⟩
 obtain⟨Y,hY⟩:∃Y,Y=clI r.x r.w a.x:=⟨_,rfl⟩
 have key:∀z:Int,icQ a b r.y+slQ a b*z=(((a.y-r.y)*(b.x-a.x)+(b.y-a.y)*(z-a.x):Int):Rat)/((b.x-a.x:Int):Rat):=fun z=>by
  unfold icQ slQ
  simp only[Rat.intCast_add,Rat.intCast_mul,Rat.intCast_sub] at cdx⊢
  grind
 have key2:∀z:Int,icQ a b r.y+slQ a b*z-r.h=(((a.y-r.y-r.h)*(b.x-a.x)+(b.y-a.y)*(z-a.x):Int):Rat)/((b.x-a.x:Int):Rat):=fun z=>by
  unfold icQ slQ
  simp only[Rat.intCast_add,Rat.intCast_mul,Rat.intCast_sub] at cdx⊢
  grind
 obtain⟨n1,e1⟩:=lL_ (X:=X) (Y:=Y) (U:=(a.y-r.y)*(b.x-a.x)+(b.y-a.y)*(X-a.x)) (V:=(a.y-r.y)*(b.x-a.x)+(b.y-a.y)*(Y-a.x)) (dy:=b.y-a.y) hdx (by grind)
 obtain⟨n2,e2⟩:=lL_ (X:=X) (Y:=Y) (U:=(a.y-r.y-r.h)*(b.x-a.x)+(b.y-a.y)*(X-a.x)) (V:=(a.y-r.y-r.h)*(b.x-a.x)+(b.y-a.y)*(Y-a.x)) (dy:=b.y-a.y) hdx (by grind)
 refine⟨n1-n2,?_⟩
 unfold covK arS psi
 rw[←hX,←hY,key,key,←key,←key,key2,key2,key,key]
 rw[Rat.intCast_sub n1]
 generalize ((2*(b.x-a.x)*(if b.y-a.y=0 then 1 else b.y-a.y):Int):Rat)=E at *
 grind
theorem aHD {H z:Int} : ∃n:Int,cpQ (H:Rat) (z:Rat)=n:=by
 unfold cpQ
 split
 ·exact⟨0,rfl⟩
 ·split
  ·exact⟨H,rfl⟩
  ·exact⟨z,rfl⟩
theorem aHN {a b:Pl} {r:Rc} (hr:vRc r=true):dI (2*wE r (a,b)) (covK r a b):=by
 have v:=aV_.1 hr
 by_cases hab:a.x=b.x
 ·refine⟨0,?_⟩
  unfold covK
  rw[hab,aQ_]
  have z0:((0:Int):Rat)=0:=rfl
  rw[z0]
  grind
 ·by_cases hc:crsB r (a,b)=true
  ·obtain⟨n,hn⟩:=aHM (r:=r) hab
   have hdx:b.x-a.x≠0:=by omega
   have hy:(if b.y-a.y=0 then 1 else b.y-a.y:Int)≠0:=by split <;> omega
   have e1:((nzN (b.x-a.x):Nat):Int)=b.x-a.x∨((nzN (b.x-a.x):Nat):Int) = -(b.x-a.x):=by unfold nzN;rw[if_neg hdx];omega
   have e2:((nzN (b.y-a.y):Nat):Int)=(if b.y-a.y=0 then 1 else b.y-a.y:Int)∨((nzN (b.y-a.y):Nat):Int) = -(if b.y-a.y=0 then 1 else b.y-a.y:Int):=by unfold nzN;split <;> omega
   generalize (if b.y-a.y=0 then 1 else b.y-a.y:Int)=dy at *
   have ew:((2*wE r (a,b):Nat):Int)=2*(2*((nzN (b.x-a.x):Nat):Int)*((nzN (b.y-a.y):Nat):Int)):=by
    unfold wE
    rw[if_pos hc,Int.natCast_mul,Int.natCast_mul,Int.natCast_mul]
    rfl
   have ne:((2*(b.x-a.x)*dy:Int):Rat)≠0:=bW_ (Int.mul_ne_zero (by omega) hy)
   have fin:∀s:Int,((2*wE r (a,b):Nat):Int)=(2*(b.x-a.x)*dy)*s→dI (2*wE r (a,b)) (covK r a b):=fun s hs=>by
    refine⟨n*s,?_⟩
    rw[hs,hn,Rat.intCast_mul (2*(b.x-a.x)*dy),Rat.intCast_mul n]
    generalize ((2*(b.x-a.x)*dy:Int):Rat)=E at *
    grind
   rcases e1 with e1|e1 <;> rcases e2 with e2|e2
   ·exact fin 2 (by rw[ew,e1,e2];grind)
   ·exact fin (-2) (by rw[ew,e1,e2];grind)
   ·exact fin (-2) (by rw[ew,e1,e2];grind)
   ·exact fin 2 (by rw[ew,e1,e2];grind)
  ·have hcf:crsB r (a,b)=false:=by simpa using hc
   have ew:2*wE r (a,b)=2:=by unfold wE;rw[hcf];rfl
   rw[ew]
   obtain⟨nx,ny⟩:=aPQ hcf
   have x1:=nx r.x (.inl rfl)
   have x2:=nx (r.x+r.w) (.inr rfl)
   have y1:=ny r.y (.inl rfl)
   have y2:=ny (r.y+r.h) (.inr rfl)
   simp only at x1 x2 y1 y2
   have hcl:clI r.x r.w a.x=clI r.x r.w b.x∨(clI r.x r.w a.x=a.x∧clI r.x r.w b.x=b.x):=by unfold clI;omega
   unfold covK
   rcases hcl with hcl|⟨c1,c2⟩
   ·rw[hcl,aQ_]
    exact dI.int 2 0
   ·rw[c1,c2]
    unfold arS
    rw[oU_,oT_ r.y hab]
    have hh:=aE_ v.2.2.2.2.2.2.1
    have z0:((0:Int):Rat)=0:=rfl
    rw[z0] at hh
    have ca:∀p q:Int,(p≤q→(p:Rat)≤q):=fun p q h=>aE_ h
    have s1:(((b.y:Rat)-r.y≤0∧(a.y:Rat)-r.y≤0)∨(0≤(b.y:Rat)-r.y∧0≤(a.y:Rat)-r.y)):=by
     rcases(show(b.y≤r.y∧a.y≤r.y)∨(r.y≤b.y∧r.y≤a.y) by omega) with ⟨h1,h2⟩|⟨h1,h2⟩
     ·have:=aE_ h1;have:=aE_ h2;exact .inl ⟨by grind,by grind⟩
     ·have:=aE_ h1;have:=aE_ h2;exact .inr ⟨by grind,by grind⟩
    have s2:(((b.y:Rat)-r.y≤r.h∧(a.y:Rat)-r.y≤r.h)∨((r.h:Rat)≤(b.y:Rat)-r.y∧(r.h:Rat)≤(a.y:Rat)-r.y)):=by
     rcases(show(b.y≤r.y+r.h∧a.y≤r.y+r.h)∨(r.y+r.h≤b.y∧r.y+r.h≤a.y) by omega) with ⟨h1,h2⟩|⟨h1,h2⟩
     ·have:=aE_ h1;have:=aE_ h2;rw[Rat.intCast_add] at *;exact .inl ⟨by grind,by grind⟩
     ·have:=aE_ h1;have:=aE_ h2;rw[Rat.intCast_add] at *;exact .inr ⟨by grind,by grind⟩
    rw[yA_ hh s1 s2,←Rat.intCast_sub,←Rat.intCast_sub,←Rat.intCast_sub]
    obtain⟨n,hn⟩:=aHD (H:=r.h) (z:=b.y-r.y)
    obtain⟨m,hm⟩:=aHD (H:=r.h) (z:=a.y-r.y)
    rw[hn,hm]
    refine⟨(a.x-b.x)*(n+m),?_⟩
    have z2:(((2:Nat):Int):Rat)=2:=rfl
    rw[z2,Rat.intCast_mul,Rat.intCast_add]
    grind
theorem aBG {a b:Pl} {r:Rc} (va:vP a=true) (vb:vP b=true) (hr:vRc r=true) : -((4095*4095:Nat):Rat)≤covK r a b∧covK r a b≤((4095*4095:Nat):Rat):=by
 have v1:=bL_.1 va
 have v2:=bL_.1 vb
 have:=(aHL (a:=a) (b:=b) (r:=r) 4095 hr (by omega) (by omega) (by decide)).2
 rwa[Nat.one_mul] at this
theorem neg_bd {A P:Nat} {q:Rat} (h:bdR A P q):bdR A P (-q):=by
 refine⟨?_,h.2⟩
 show(-q.num).natAbs≤_
 rw[Int.natAbs_neg]
 exact h.1
theorem nN_ {r:Rc} (hr:vRc r=true) {D N M:Nat} (hD:0<D) (hD2:D≤N) (hM:M=4095*4095) (hN:40*M*N*(2*M)+M*(2*M)*N<10^200) (hN2:N*(2*M)<10^200):∀(l:List (Pl×Pl)) (acc:Rat) (k:Nat),
  (∀e∈l,vP e.1=true∧vP e.2=true∧2*wE r e∣D)→k+l.length≤40→dI D acc→-((k*M:Nat):Rat)≤acc→acc≤((k*M:Nat):Rat)→
  l.foldl (hN_ r) (some acc)=some (acc+sumE (covK r) l)
 | [],acc,k,_,_,_,_,_=>by
  have e:acc+sumE (covK r) []=acc:=by unfold sumE;grind
  rw[e]
  rfl
 | e::l,acc,k,hl,hk,ha,b1,b2=>by
  obtain⟨v1,v2,hw⟩:=hl e (by simp)
  have hk1:k≤40:=by omega
  have hcd:=(aHN (a:=e.1) (b:=e.2) hr).dvd hw
  obtain⟨c1,c2⟩:=aBG v1 v2 hr
  rw[←hM] at c1 c2
  have w1:=bL_.1 v1
  have w2:=bL_.1 v2
  have cb:=(aHL (a:=e.1) (b:=e.2) (r:=r) 4095 hr (by omega) (by omega) (by decide)).bd
  rw[Nat.one_mul,Nat.pow_one,Nat.mul_assoc 2,←hM] at cb
  have ab:=(ha.bd hD b1 b2).mono (A':=40*M*N) (P':=N) (Nat.mul_le_mul (Nat.mul_le_mul_right _ hk1) hD2) hD2
  have hstep:hN_ r (some acc) e=some (acc+covK r e.1 e.2):=by
   unfold hN_
   split
   ·rename_i h
    rw[xE_ v1 v2 hr h]
    show subR acc (-(covK r e.1 e.2))=_
    rw[(xN_ ab (neg_bd cb) hN hN2).1]
    congr 1
    grind
   ·rename_i h
    rw[xE_ v2 v1 hr (by omega)]
    have e1 : -(covK r e.2 e.1)=covK r e.1 e.2:=by rw[eA_ r e.1 e.2];grind
    rw[e1]
    exact(uQ_ ab cb hN hN2).1
  have m1:(((k+1)*M:Nat):Rat)=((k*M:Nat):Rat)+((M:Nat):Rat):=by rw[Nat.add_mul,Nat.one_mul,Rat.natCast_add]
  have g:=nN_ hr hD hD2 hM hN hN2 l (acc+covK r e.1 e.2) (k+1) (fun x hx=>hl x (List.mem_cons_of_mem _ hx)) (by simp only[List.length_cons] at hk;omega) (ha.add hcd) (by rw[m1];grind) (by rw[m1];grind)
  have eq:acc+covK r e.1 e.2+sumE (covK r) l=acc+sumE (covK r) (e::l):=by
   show _=acc+(covK r e.1 e.2+sumE (covK r) l)
   grind
  rw[List.foldl_cons,hstep,g,eq]
theorem wC_ {l:List Pl} {r:Rc} (hv:∀p∈l,vP p=true) (hh:aO_ l=l) (hr:vRc r=true) (hn:l.length≤40) (hm:∀e∈aC_ l,e.1∈l∧e.2∈l) (h1:∀(i:Nat) (e:Pl×Pl),(aC_ l)[i]?=some e→l[i]?=some e.1) (hel:(aC_ l).length=l.length) :
  bT_ l r=some (aL_ l r):=by
 have hc:=tZ_ hv (by rw[hh];exact hm) (by rw[hh];exact h1) r
 rw[hh] at hc
 have hp:=qE_ (r:=r) (l:=aC_ l) fun e he=>⟨hv _ (hm e he).1,hv _ (hm e he).2⟩
 have hq:=Nat.le_trans hp (Nat.pow_le_pow_right (show 0<2*4095*4095 by decide) hc)
 have h:=nN_ hr (D:=2*sW_ r (aC_ l)) (Nat.mul_pos (by decide) (mL_ r _)) (Nat.mul_le_mul_left 2 hq) rfl (by decide) (by decide) (aC_ l) 0 0
  (fun e he=>⟨hv _ (hm e he).1,hv _ (hm e he).2,Nat.mul_dvd_mul_left 2 (aCJ he)⟩) (by rw[hel];omega) (dI.int _ 0) (by simp) (by simp)
 unfold bT_ aL_
 rw[bR_]
 have z0:((0:Int):Rat)=0:=rfl
 have e:(0:Rat)+sumE (covK r) (aC_ l)=sumE (covK r) (aC_ l):=by grind
 rw[z0,h,e]
def shP (u v:Int) (p:Pl):Pl:=⟨p.x+u,p.y+v⟩
def shR (u v:Int) (r:Rc):Rc:=⟨r.x+u,r.y+v,r.w,r.h⟩
theorem aDM {u v:Int} {p q:Pl} : shP u v p=shP u v q↔p=q:=by
 cases p;cases q
 simp only[shP,Pl.mk.injEq]
 omega
theorem aNM (u v:Int) (a b c:Pl):aB_ (shP u v a) (shP u v b) (shP u v c)=aB_ a b c:=by
 unfold aB_ shP
 simp only
 rw[show b.x+u-(a.x+u)=b.x-a.x by omega,show c.y+v-(a.y+v)=c.y-a.y by omega,show b.y+v-(a.y+v)=b.y-a.y by omega,show c.x+u-(a.x+u)=c.x-a.x by omega]
theorem aOU (u v:Int) (a b c:Pl):aI_ (shP u v a) (shP u v b) (shP u v c)=aI_ a b c:=by unfold aI_;rw[aNM]
theorem ltP_sh (u v:Int) (a b:Pl):ltP (shP u v a) (shP u v b)=ltP a b:=by
 have e1:decide (a.y+v<b.y+v)=decide (a.y<b.y):=decide_eq_decide.2 (by omega)
 have e2:decide (a.y+v=b.y+v)=decide (a.y=b.y):=decide_eq_decide.2 (by omega)
 have e3:decide (a.x+u<b.x+u)=decide (a.x<b.x):=decide_eq_decide.2 (by omega)
 show(decide (a.y+v<b.y+v)||(decide (a.y+v=b.y+v)&&decide (a.x+u<b.x+u)))=_
 rw[e1,e2,e3]
 rfl
theorem aEE (u v:Int) (x:Pl):∀r:List Pl,popL aI_ (shP u v x) (r.map (shP u v))=(popL aI_ x r).map (shP u v)
 | []=>rfl
 | [a]=>rfl
 | b::a::l=>by
  have ih:=aEE u v x (a::l)
  rw[List.map_cons] at ih
  rw[List.map_cons,List.map_cons]
  unfold popL
  rw[aOU,ih]
  split <;> rfl
theorem uI_ (u v:Int):∀l r:List Pl,eC_ aI_ (r.map (shP u v)) (l.map (shP u v))=(eC_ aI_ r l).map (shP u v)
 | [],r=>rfl
 | x::l,r=>by
  show eC_ aI_ (shP u v x::popL aI_ (shP u v x) (r.map (shP u v))) (l.map (shP u v))=(eC_ aI_ (x::popL aI_ x r) l).map (shP u v)
  rw[aEE,←List.map_cons]
  exact uI_ u v l _
theorem uH_ (u v:Int) (l:List Pl):bF_ aI_ (l.map (shP u v))=(bF_ aI_ l).map (shP u v):=by
 unfold bF_
 rw[rK_,rK_]
 have:=uI_ u v l []
 rw[List.map_nil] at this
 rw[this,List.map_reverse]
theorem nR_ (u v:Int):∀l:List Pl,aD_ (l.map (shP u v))=(aD_ l).map (shP u v)
 | []=>rfl
 | [x]=>rfl
 | x::y::l=>by
  have ih:=nR_ u v (y::l)
  rw[List.map_cons] at ih
  rw[List.map_cons,List.map_cons]
  unfold aD_
  rw[ih]
  by_cases h:x=y
  ·rw[if_pos h,if_pos (aDM.2 h)]
  ·rw[if_neg h,if_neg (fun k=>h (aDM.1 k)),List.map_cons]
theorem aLB (u v:Int) (l:List Pl):aO_ (l.map (shP u v))=(aO_ l).map (shP u v):=by
 have e:sP (l.map (shP u v))=(sP l).map (shP u v):=by
  unfold sP
  rw[sN_ (shP u v) (fun a b=>ltP_sh u v a b),nR_]
 rw[dF_,dF_,e,List.length_map]
 split
 ·rfl
 ·rw[←List.map_reverse,uH_,uH_,List.map_append,List.map_dropLast,List.map_dropLast]
theorem aGS (f:Pl→Pl) (l:List Pl):aC_ (l.map f)=(aC_ l).map fun e=>(f e.1,f e.2):=by
 unfold aC_
 rw[←List.map_drop,←List.map_take,←List.map_append,List.zip_map]
 rfl
theorem clI_sh (X W x u:Int):clI (X+u) W (x+u)=clI X W x+u:=by unfold clI;omega
theorem aMS (u v:Int) (a b:Pl):slQ (shP u v a) (shP u v b)=slQ a b:=by
 unfold slQ shP
 simp only[Rat.intCast_add]
 congr 1
 ·grind
 ·grind
theorem aPU (u v:Int) (r:Rc) (a b:Pl):covK (shR u v r) (shP u v a) (shP u v b)=covK r a b:=by
 unfold covK
 rw[aMS]
 simp only[shR,shP,clI_sh]
 have e:icQ ⟨a.x+u,a.y+v⟩ ⟨b.x+u,b.y+v⟩ (r.y+v)=icQ a b r.y-slQ a b*u:=by
  have:=aMS u v a b
  unfold shP at this
  unfold icQ
  rw[this]
  simp only[Rat.intCast_add]
  grind
 rw[e]
 unfold arS
 rw[Rat.intCast_add,Rat.intCast_add]
 have e1:∀z:Rat,icQ a b r.y-slQ a b*u+slQ a b*(z+u)=icQ a b r.y+slQ a b*z:=fun z=>by grind
 rw[e1,e1]
 congr 1
 grind
theorem xL_ (f:Pl→Pl→Rat) (g:Pl→Pl):∀l:List (Pl×Pl),sumE f (l.map fun e=>(g e.1,g e.2))=sumE (fun a b=>f (g a) (g b)) l
 | []=>rfl
 | e::l=>by
  rw[List.map_cons]
  unfold sumE
  rw[xL_ f g l]
theorem aHH (u v:Int) (l:List Pl) (r:Rc):aL_ (l.map (shP u v)) (shR u v r)=aL_ l r:=by
 unfold aL_
 rw[aGS,xL_]
 exact cJ_ _ fun e _=>aPU u v r e.1 e.2
theorem aJV {H z:Int} (hH:0≤H):psi (H:Rat) (z:Rat) (z:Rat)=((max 0 (min z H):Int):Rat):=by
 have hh:=aE_ hH
 unfold psi
 by_cases h0:0≤z
 ·have c0:=aE_ h0
  rw[fI_ (by grind) (by grind)]
  by_cases h1:z≤H
  ·have c1:=aE_ h1
   rw[cG_ (by grind) (by grind),show max 0 (min z H)=z by omega]
   grind
  ·have c1:=aE_ (show H≤z by omega)
   rw[fI_ (by grind) (by grind),show max 0 (min z H)=H by omega]
   grind
 ·have c0:=aE_ (show z≤0 by omega)
  rw[cG_ (by grind) (by grind),cG_ (by grind) (by grind),show max 0 (min z H)=0 by omega]
  grind
theorem nP_ {r:Rc} {a b:Pl} (h:a.x=b.x):covK r a b=0:=by unfold covK;rw[h];exact aQ_ _ _ _ _
theorem pE_ {r:Rc} {a b:Pl} (hH:0≤r.h) (h:a.y=b.y):covK r a b=(((clI r.x r.w a.x-clI r.x r.w b.x)*(clI r.y r.h a.y-r.y):Int):Rat):=by
 have e0:slQ a b=0:=by
  unfold slQ
  rw[h]
  grind
 have e1:icQ a b r.y=((a.y-r.y:Int):Rat):=by
  unfold icQ
  rw[e0,Rat.intCast_sub]
  grind
 unfold covK arS
 rw[e0,e1]
 have e2:∀z:Rat,((a.y-r.y:Int):Rat)+0*z=((a.y-r.y:Int):Rat):=fun z=>by grind
 rw[e2,e2,aJV hH,show max 0 (min (a.y-r.y) r.h)=clI r.y r.h a.y-r.y by unfold clI;omega]
 simp only[Rat.intCast_mul,Rat.intCast_sub]
def boxL (x0 y0 x1 y1:Int):List Pl:=[⟨x0,y0⟩,⟨x1,y0⟩,⟨x1,y1⟩,⟨x0,y1⟩]
theorem zF_ {l:List Pl} (h:l.Pairwise (kp · < kp ·)):Asc l:=h
theorem zD_ {x0 y0 x1 y1:Int} (h0:0≤x0) (h1:0≤y0) (hx:x0≤x1) (hy:y0≤y1) (h2:x1≤4095) (h3:y1≤4095) {t:List Pl} (ht:Asc t) (hm:∀q,q∈t↔q∈boxL x0 y0 x1 y1):sP (boxL x0 y0 x1 y1)=t:=by
 have hv:∀p∈boxL x0 y0 x1 y1,vP p=true:=by
  intro p hp
  simp only[boxL,List.mem_cons,List.not_mem_nil,or_false] at hp
  unfold vP
  rcases hp with rfl|rfl|rfl|rfl <;> simp <;> omega
 exact lV_ _ _ (eR_ hv).1 ht fun q=>((eR_ hv).2 q).trans (hm q).symm
theorem aHG {x0 y0 x1 y1:Int} {r:Rc} (h0:0≤x0) (h1:0≤y0) (hx:x0≤x1) (hy:y0≤y1) (h2:x1≤4095) (h3:y1≤4095) (hH:0≤r.h) :
  aL_ (aO_ (boxL x0 y0 x1 y1)) r=(((clI r.x r.w x1-clI r.x r.w x0)*(clI r.y r.h y1-clI r.y r.h y0):Int):Rat):=by
 by_cases ex:x0=x1
 ·subst ex
  by_cases ey:y0=y1
  ·subst ey
   rw[dF_,zD_ (t:=[⟨x0,y0⟩]) h0 h1 hx hy h2 h3 (zF_ (by simp)) (by intro q;simp[boxL])]
   rw[if_pos (by simp)]
   show covK r ⟨x0,y0⟩ ⟨x0,y0⟩+0=_
   rw[aHK]
   simp only[Int.sub_self,Int.mul_zero]
   show(0:Rat)+0=(0:Rat)
   grind
  ·rw[dF_,zD_ (t:=[⟨x0,y0⟩,⟨x0,y1⟩]) h0 h1 hx hy h2 h3 (zF_ (by simp[kp] <;> omega)) (by intro q;simp[boxL] <;> grind)]
   rw[if_pos (by simp)]
   show covK r ⟨x0,y0⟩ ⟨x0,y1⟩+(covK r ⟨x0,y1⟩ ⟨x0,y0⟩+0)=_
   rw[nP_ (a:=⟨x0,y0⟩) (b:=⟨x0,y1⟩) rfl,nP_ (a:=⟨x0,y1⟩) (b:=⟨x0,y0⟩) rfl]
   simp only[Int.sub_self,Int.zero_mul]
   show(0:Rat)+(0+0)=(0:Rat)
   grind
 ·by_cases ey:y0=y1
  ·subst ey
   rw[dF_,zD_ (t:=[⟨x0,y0⟩,⟨x1,y0⟩]) h0 h1 hx hy h2 h3 (zF_ (by simp[kp] <;> omega)) (by intro q;simp[boxL] <;> grind)]
   rw[if_pos (by simp)]
   show covK r ⟨x0,y0⟩ ⟨x1,y0⟩+(covK r ⟨x1,y0⟩ ⟨x0,y0⟩+0)=_
   rw[eA_ r ⟨x0,y0⟩ ⟨x1,y0⟩]
   simp only[Int.sub_self,Int.mul_zero]
   show _=(0:Rat)
   grind
  ·rw[dF_,zD_ (t:=[⟨x0,y0⟩,⟨x1,y0⟩,⟨x0,y1⟩,⟨x1,y1⟩]) h0 h1 hx hy h2 h3 (zF_ (by simp[kp] <;> omega)) (by intro q;simp[boxL] <;> grind)]
   have w0:0<(x1-x0)*(y1-y0):=Int.mul_pos (by omega) (by omega)
   have l1:aI_ ⟨x0,y0⟩ ⟨x1,y0⟩ ⟨x0,y1⟩=true:=decide_eq_true (by unfold aB_;simp only;grind)
   have l2:aI_ ⟨x1,y0⟩ ⟨x0,y1⟩ ⟨x1,y1⟩=false:=decide_eq_false (by unfold aB_;simp only;grind)
   have l3:aI_ ⟨x0,y0⟩ ⟨x1,y0⟩ ⟨x1,y1⟩=true:=decide_eq_true (by unfold aB_;simp only;grind)
   have l4:aI_ ⟨x1,y1⟩ ⟨x0,y1⟩ ⟨x1,y0⟩=true:=decide_eq_true (by unfold aB_;simp only;grind)
   have l5:aI_ ⟨x0,y1⟩ ⟨x1,y0⟩ ⟨x0,y0⟩=false:=decide_eq_false (by unfold aB_;simp only;grind)
   have l6:aI_ ⟨x1,y1⟩ ⟨x0,y1⟩ ⟨x0,y0⟩=true:=decide_eq_true (by unfold aB_;simp only;grind)
   have c1:bF_ aI_ [(⟨x0,y0⟩:Pl),⟨x1,y0⟩,⟨x0,y1⟩,⟨x1,y1⟩]=[⟨x0,y0⟩,⟨x1,y0⟩,⟨x1,y1⟩]:=by
    simp[bF_,aU_,popL,l1,l2,l3]
   have c2:bF_ aI_ [(⟨x1,y1⟩:Pl),⟨x0,y1⟩,⟨x1,y0⟩,⟨x0,y0⟩]=[⟨x1,y1⟩,⟨x0,y1⟩,⟨x0,y0⟩]:=by
    simp[bF_,aU_,popL,l4,l5,l6]
   rw[if_neg (by simp),c1,show[(⟨x0,y0⟩:Pl),⟨x1,y0⟩,⟨x0,y1⟩,⟨x1,y1⟩].reverse=[⟨x1,y1⟩,⟨x0,y1⟩,⟨x1,y0⟩,⟨x0,y0⟩] from rfl,c2]
   show covK r ⟨x0,y0⟩ ⟨x1,y0⟩+(covK r ⟨x1,y0⟩ ⟨x1,y1⟩+(covK r ⟨x1,y1⟩ ⟨x0,y1⟩+(covK r ⟨x0,y1⟩ ⟨x0,y0⟩+0)))=_
   rw[pE_ hH (a:=⟨x0,y0⟩) (b:=⟨x1,y0⟩) rfl,nP_ (a:=⟨x1,y0⟩) (b:=⟨x1,y1⟩) rfl,pE_ hH (a:=⟨x1,y1⟩) (b:=⟨x0,y1⟩) rfl,nP_ (a:=⟨x0,y1⟩) (b:=⟨x0,y0⟩) rfl]
   simp only[Rat.intCast_mul,Rat.intCast_sub]
   grind
theorem iJ_ {f:Pl→Pl→Rat} : ∀l:List (Pl×Pl),(∀e∈l,f e.1 e.2=0)→sumE f l=0
 | [],_=>rfl
 | e::l,h=>by
  unfold sumE
  rw[h e (by simp),iJ_ l fun x hx=>h x (by simp[hx])]
  grind
theorem aBF {l:List Pl} {r:Rc} (hm:∀e∈aC_ l,e.1∈l∧e.2∈l) (h:∀p∈l,p.x≤r.x):aL_ l r=0:=by
 refine iJ_ _ fun e he=>?_
 have h1:=h _ (hm e he).1
 have h2:=h _ (hm e he).2
 unfold covK
 rw[show clI r.x r.w e.1.x=clI r.x r.w e.2.x by unfold clI;omega]
 exact aQ_ _ _ _ _
theorem wE_ {l:List Pl} {r:Rc} (hm:∀e∈aC_ l,e.1∈l∧e.2∈l) (h:∀p∈l,r.x+r.w≤p.x):aL_ l r=0:=by
 refine iJ_ _ fun e he=>?_
 have h1:=h _ (hm e he).1
 have h2:=h _ (hm e he).2
 unfold covK
 rw[show clI r.x r.w e.1.x=clI r.x r.w e.2.x by unfold clI;omega]
 exact aQ_ _ _ _ _
theorem eJ_ {a b:Pl} {x:Int} (hab:a.x≠b.x) (hx:(a.x≤x∧x≤b.x)∨(b.x≤x∧x≤a.x)) (Y:Int) {m:Rat} :
  (((a.y:Rat)-Y≤m∧(b.y:Rat)-Y≤m)→icQ a b Y+slQ a b*x≤m)∧((m≤(a.y:Rat)-Y∧m≤(b.y:Rat)-Y)→m≤icQ a b Y+slQ a b*x):=by
 have la:=oU_ a b Y
 have lb:=oT_ Y hab
 generalize icQ a b Y=p at *
 generalize slQ a b=q at *
 have key:(p+q*x)*((b.x:Rat)-a.x)=(p+q*a.x)*((b.x:Rat)-x)+(p+q*b.x)*((x:Rat)-a.x):=by grind
 have hne:=nW_ hab
 rw[la,lb] at key
 rcases hx with ⟨h1,h2⟩|⟨h1,h2⟩
 ·have c1:=aE_ h1
  have c2:=aE_ h2
  have pos:0<(b.x:Rat)-a.x:=by grind
  constructor
  ·rintro⟨k1,k2⟩
   have m1:=Rat.mul_nonneg (show 0≤(b.x:Rat)-x by grind) (show 0≤m-((a.y:Rat)-Y) by grind)
   have m2:=Rat.mul_nonneg (show 0≤(x:Rat)-a.x by grind) (show 0≤m-((b.y:Rat)-Y) by grind)
   exact Rat.le_of_mul_le_mul_right (c:=(b.x:Rat)-a.x) (by grind) pos
  ·rintro⟨k1,k2⟩
   have m1:=Rat.mul_nonneg (show 0≤(b.x:Rat)-x by grind) (show 0≤((a.y:Rat)-Y)-m by grind)
   have m2:=Rat.mul_nonneg (show 0≤(x:Rat)-a.x by grind) (show 0≤((b.y:Rat)-Y)-m by grind)
   exact Rat.le_of_mul_le_mul_right (c:=(b.x:Rat)-a.x) (by grind) pos
 ·have c1:=aE_ h1
  have c2:=aE_ h2
  have pos:0<(a.x:Rat)-b.x:=by grind
  constructor
  ·rintro⟨k1,k2⟩
   have m1:=Rat.mul_nonneg (show 0≤(x:Rat)-b.x by grind) (show 0≤m-((a.y:Rat)-Y) by grind)
   have m2:=Rat.mul_nonneg (show 0≤(a.x:Rat)-x by grind) (show 0≤m-((b.y:Rat)-Y) by grind)
   exact Rat.le_of_mul_le_mul_right (c:=(a.x:Rat)-b.x) (by grind) pos
  ·rintro⟨k1,k2⟩
   have m1:=Rat.mul_nonneg (show 0≤(x:Rat)-b.x by grind) (show 0≤((a.y:Rat)-Y)-m by grind)
   have m2:=Rat.mul_nonneg (show 0≤(a.x:Rat)-x by grind) (show 0≤((b.y:Rat)-Y)-m by grind)
   exact Rat.le_of_mul_le_mul_right (c:=(a.x:Rat)-b.x) (by grind) pos
theorem cl_bt {X W:Int} {a b:Int} (h:clI X W a≠clI X W b):((a≤clI X W a∧clI X W a≤b)∨(b≤clI X W a∧clI X W a≤a))∧((a≤clI X W b∧clI X W b≤b)∨(b≤clI X W b∧clI X W b≤a)):=by
 unfold clI at *
 omega
theorem wI_ {l:List Pl} {r:Rc} (hH:0≤r.h) (hm:∀e∈aC_ l,e.1∈l∧e.2∈l) (h:∀p∈l,p.y≤r.y):aL_ l r=0:=by
 have hh:=aE_ hH
 refine iJ_ _ fun e he=>?_
 have h1:=aE_ (h _ (hm e he).1)
 have h2:=aE_ (h _ (hm e he).2)
 by_cases hx:e.1.x=e.2.x
 ·exact nP_ hx
 by_cases hc:clI r.x r.w e.1.x=clI r.x r.w e.2.x
 ·unfold covK;rw[hc];exact aQ_ _ _ _ _
 obtain⟨k1,k2⟩:=cl_bt hc
 have u1:=(eJ_ hx k1 r.y (m:=0)).1 (by grind)
 have u2:=(eJ_ hx k2 r.y (m:=0)).1 (by grind)
 unfold covK arS psi
 rw[cG_ u2 u1,cG_ (by grind) (by grind)]
 grind
theorem wG_ {l:List Pl} {r:Rc} (hH:0≤r.h) (hm:∀e∈aC_ l,e.1∈l∧e.2∈l) (h:∀p∈l,r.y+r.h≤p.y):aL_ l r=0:=by
 have hh:=aE_ hH
 have e:aL_ l r=sumE (fun a b=>(-(r.h:Rat)*(clI r.x r.w b.x:Int))-(-(r.h:Rat)*(clI r.x r.w a.x:Int))) (aC_ l):=by
  refine cJ_ _ fun e he=>?_
  have h1:=aE_ (h _ (hm e he).1)
  have h2:=aE_ (h _ (hm e he).2)
  rw[Rat.intCast_add] at h1 h2
  by_cases hc:clI r.x r.w e.1.x=clI r.x r.w e.2.x
  ·unfold covK;rw[hc,aQ_];grind
  by_cases hx:e.1.x=e.2.x
  ·exact absurd (by rw[hx]) hc
  obtain⟨k1,k2⟩:=cl_bt hc
  have u1:=(eJ_ hx k1 r.y (m:=r.h)).2 (by grind)
  have u2:=(eJ_ hx k2 r.y (m:=r.h)).2 (by grind)
  unfold covK arS psi
  rw[fI_ (by grind) (by grind),fI_ (by grind) (by grind)]
  grind
 rw[e]
 exact gV_ (fun p=>-(r.h:Rat)*(clI r.x r.w p.x:Int)) l
theorem wH_ {l:List Pl} {r o:Rc} (hm:∀e∈aC_ l,e.1∈l∧e.2∈l) (hr:vRc r=true) (ho:vRc o=true) (hin:∀p∈l,o.x≤p.x∧p.x≤o.x+o.w∧o.y≤p.y∧p.y≤o.y+o.h) (ht:oH_ o r=false):aL_ l r=0:=by
 have hv:=aV_.1 hr
 unfold oH_ at ht
 rw[hr,ho] at ht
 simp only[Bool.true_and,Bool.and_eq_false_iff] at ht
 unfold ovl at ht
 simp only[decide_eq_false_iff_not] at ht
 have key:(o.x+o.w<r.x∨r.x+r.w<o.x)∨(o.y+o.h<r.y∨r.y+r.h<o.y):=by
  have:=aV_.1 ho
  omega
 rcases key with (k|k)|(k|k)
 ·exact aBF hm fun p hp=>by have:=hin p hp;omega
 ·exact wE_ hm fun p hp=>by have:=hin p hp;omega
 ·exact wI_ (by omega) hm fun p hp=>by have:=hin p hp;omega
 ·exact wG_ (by omega) hm fun p hp=>by have:=hin p hp;omega
def aS_ (l:List Pl) (r:Rc):Int:=(aL_ l r*((4096:Rat)/((r.w*r.h:Int):Rat))).floor
theorem aLF {q:Rat} {n:Int} (h1:(n:Rat)≤q) (h2:q<(n:Rat)+1):q.floor=n:=by
 have k1:=Rat.le_floor_iff.2 h1
 have k2:q.floor<n+1:=by
  rw[←Rat.intCast_lt_intCast]
  refine Std.lt_of_le_of_lt (Rat.floor_le q) ?_
  rw[Rat.intCast_add]
  exact h2
 omega
theorem aGK {n d:Int} (hd:0<d):((n:Rat)/(d:Rat)).floor=n/d:=by
 have c:=Rat.intCast_lt_intCast.2 hd
 have e:=Int.mul_ediv_add_emod n d
 have m1:=Int.emod_nonneg n (show d≠0 by omega)
 have m2:=Int.emod_lt_of_pos n hd
 refine aLF (iY_ (by grind) ?_) ?_
 ·rw[←Rat.intCast_mul]
  refine aE_ ?_
  rw[Int.mul_comm]
  omega
 ·rw[Rat.div_lt_iff (by grind)]
  have:((n:Int):Rat)<(((n/d+1)*d:Int):Rat):=Rat.intCast_lt_intCast.2 (by rw[Int.add_mul,Int.mul_comm (n/d) d];omega)
  rw[Rat.intCast_mul,Rat.intCast_add] at this
  exact this
theorem aMA {l:List Pl} {r:Rc} {n:Int} (h:aL_ l r=(n:Rat)) (hw:0<r.w) (hh:0<r.h):aS_ l r=4096*n/(r.w*r.h):=by
 unfold aS_
 rw[h,←aGK (Int.mul_pos hw hh)]
 congr 1
 rw[Rat.intCast_mul]
 grind
theorem aMC (u v:Int) (l:List Pl) (r:Rc):aS_ (l.map (shP u v)) (shR u v r)=aS_ l r:=by
 unfold aS_
 rw[aHH]
 rfl
end Go.Proofs.YtlikmmpmnaaifaaGreatDoor
namespace Go.Proofs.YtlikmmpmnaaifaaGreatDoor
open Go.RowKit Go.Shelf
attribute [local go_sem] Oper.semAt_some
def FrOp (w:World):Prop:=∀(n:Int),-9223372036854775808≤n→n≤9223372036854775807→∀W,Below w.heap.size w W→Calls Tryz.prog 157 #[.int .i64 n] W fun e W'=>e=.returned (.string (str n))∧Below W.heap.size W W'
theorem sO_ {n:Int} (h1 : -9223372036854775808≤n) (h2:n≤9223372036854775807):small n=true:=by
 unfold small
 rw[decide_eq_true_iff,jR_ (by omega)]
 have:(10:Nat)^19≤10^200:=Nat.pow_le_pow_right (by omega) (by omega)
 have e:(10:Nat)^19=10000000000000000000:=by decide
 omega
theorem Of_q {n d:Int} {w:World} (hi:IOps w) (hf:FrOp w) (n1 : -9223372036854775808≤n) (n2:n≤9223372036854775807) (d1 : -9223372036854775808≤d) (d2:d≤9223372036854775807) :
  Calls Tryz.prog 97 #[.int .i64 n,.int .i64 d] w fun e W'=>e=.returned (.tuple #[.agg #[.string (qN (bE_ n d)),.string (qD (bE_ n d))],.int .i64 (qE (bE_ n d))])∧Below w.heap.size w W':=by
 have H0:=hid (RsAt.start (Below.refl _ w) 47)
 have sn:=sO_ n1 n2
 have sd:=sO_ d1 d2
 have zn:Sz (str n):=by rw[←aH_ sn];exact dL_ _
 have zd:Sz (str d):=by rw[←aH_ sd];exact dL_ _
 have em:kW_ (str n) (str d)=bE_ n d:=oS_ (by rw[aW_,if_pos sn]) (by rw[aW_,if_pos sd])
 have k1:=hid (fun W hk=>hf n n1 n2 W hk)
 have k2:=hid (fun W hk=>hf d d1 d2 W hk)
 have km:=hid (fun W (hk:Below w.heap.size w W)=>by have:=Make_q (hi.below hk) zn zd;rw[em] at this;exact this)
 generalize bE_ n d=o at km⊢
 generalize str n=sn' at k1 km
 generalize str d=sd' at k2 km
 clear hi hf sn sd zn zd em n1 n2 d1 d2
 go_enter Tryz.func97,Tryz.ntmps97
 go_wp2_with (first
  | (go_at_call 157;with_reducible refine(k1.out _ H0.out.bw).mono ?_;rintro e w1 ⟨rfl,hb⟩;have H1:=hid (H0.out.below hb);clear hb)
  | (go_at_call 157;with_reducible refine(k2.out _ H1.out.bw).mono ?_;rintro e w2 ⟨rfl,hb⟩;have H2:=hid (H1.out.below hb);clear hb)
  | (go_at_call 156;with_reducible refine(km.out _ H2.out.bw).mono ?_;rintro e w3 ⟨rfl,hb⟩;have h3:=H2.out.below hb;obtain⟨_,q1,q2,q3,q4,_,_⟩:=id h3;have H3:=hid h3;clear hb h3)
  | fail)
 obtain⟨W5,hW5,p0,p1,hbl⟩:=H3.out.fin (qN o) (qD o)
 rw[hW5]
 clear hW5 q1 q2 q3 q4
 refine bodyPost_ret (v:=.tuple #[.agg #[.string (qN o),.string (qD o)],.int .i64 (qE o)]) ?_ rfl ⟨rfl,hbl⟩
 simp[results,Tryz.results97,go_sem,p0,p1,Result.andThen]
theorem aOD (f:Rat→Nat→Option Rat) (up:Bool) (hf:∀a k,(if up=true then upR a k else hG_ a k)=f a k) {a1 a2:ByteArray} {k:Int} {w:World} (hi:IOps w) (z1:Sz a1) (z2:Sz a2) (k1 : -9223372036854775808≤k) (k2:k≤9223372036854775807) :
  Calls Tryz.prog 205 #[.agg #[.string a1,.string a2],.int .i64 k,.bool up] w fun e W'=>e=.returned (.tuple #[.agg #[.string (qN (jU_ f a1 a2 k)),.string (qD (jU_ f a1 a2 k))],.int .i64 (qE (jU_ f a1 a2 k))])∧Below w.heap.size w W':=by
 by_cases hn:ratO a1 a2=none∨k<0∨30<k
 ·have e:jU_ f a1 a2 k=none:=by
   unfold jU_
   rcases hn with h|h|h
   ·rw[h]
   ·cases ratO a1 a2 with
    | none=>rfl
    | some a=>exact if_neg (by omega)
   ·cases ratO a1 a2 with
    | none=>rfl
    | some a=>exact if_neg (by omega)
  rw[e]
  exact aJM hi z1 z2 hn ⟨k1,k2⟩
 ·obtain⟨a,ha⟩:∃a,ratO a1 a2=some a:=Option.ne_none_iff_exists'.1 (fun h=>hn (.inl h))
  have h0:0≤k∧k≤30:=⟨by have:=fun h=>hn (.inr (.inl h));omega,by have:=fun h=>hn (.inr (.inr h));omega⟩
  obtain⟨m,rfl⟩:∃m:Nat,k=m:=⟨k.toNat,by omega⟩
  have e:jU_ f a1 a2 m=f a m:=by
   unfold jU_
   rw[ha]
   exact if_pos h0
  rw[e,←hf]
  exact aJL hi ha (by omega)
theorem Down_q {a1 a2:ByteArray} {k:Int} {w:World} (hi:IOps w) (z1:Sz a1) (z2:Sz a2) (k1 : -9223372036854775808≤k) (k2:k≤9223372036854775807) :
  Calls Tryz.prog 163 #[.agg #[.string a1,.string a2],.int .i64 k] w fun e W'=>e=.returned (.tuple #[.agg #[.string (qN (jU_ hG_ a1 a2 k)),.string (qD (jU_ hG_ a1 a2 k))],.int .i64 (qE (jU_ hG_ a1 a2 k))])∧Below w.heap.size w W':=by
 have H0:=hid (RpAt.start w a1 a2 47)
 have kr:=hid (fun W (h:RpAt a1 a2 w W)=>aOD hG_ false (fun _ _=>rfl) (hi.below h.bw) z1 z2 k1 k2)
 clear hi z1 z2 k1 k2
 generalize jU_ hG_ a1 a2 k=o at kr⊢
 go_enter Tryz.func163,Tryz.ntmps163
 go_wp2_with (first
  | (go_at_call 205;with_reducible refine(kr.out _ H0.out).mono ?_;rintro e w1 ⟨rfl,hb⟩;have h1:=H0.out.below hb;obtain⟨_,_,_,q1,q2,q3,q4,_⟩:=id h1;have H1:=hid h1.rs;clear h1 hb)
  | fail)
 obtain⟨W5,hW5,p0,p1,hbl⟩:=H1.out.fin (qN o) (qD o)
 rw[hW5]
 clear hW5 q1 q2 q3 q4
 refine bodyPost_ret (v:=.tuple #[.agg #[.string (qN o),.string (qD o)],.int .i64 (qE o)]) ?_ rfl ⟨rfl,hbl⟩
 simp[results,Tryz.results163,go_sem,p0,p1,Result.andThen]
theorem FrOp.below {w w':World} (h:FrOp w) (hb:Below w.heap.size w w'):FrOp w':=fun n h1 h2 W hk=>h n h1 h2 W (hb.trans (hk.mono hb.size))
theorem cO_ {n:Int} (h1 : -9223372036854775808≤n) (h2:n≤9223372036854775807) {w:World} (hi:IOps w) (hf:FrOp w) :
  Calls Tryz.prog 84 #[.int .i64 n] w fun e W'=>e=.returned (.agg #[.string (qN (whO n)),.string (qD (whO n))])∧Below w.heap.size w W':=by
 have H0:=hid ((AzAt.start w).push [.string ⟨#[]⟩,.string ⟨#[]⟩] 109)
 have K:=hid (fun(W:World) (h:Below w.heap.size w W)=>Of_q (n:=n) (d:=1) (hi.below h) (hf.below h) h1 h2 (by decide) (by decide))
 unfold whO
 generalize qN (bE_ n 1)=rn at K⊢
 generalize qD (bE_ n 1)=rd at K⊢
 generalize qE (bE_ n 1)=re at K
 clear hi hf
 go_enter Tryz.func84,Tryz.ntmps84
 go_wp2_with (first
  | (go_at_call 97;(with_reducible refine(K.out _ H0.out.bw).mono ?_);rintro e w1 ⟨rfl,hb⟩;have hp:=AzAt.al (H0.out.below hb) (.cells #[.string rn,.string rd] 47);have h_:=hp.row (w.heap.size,[.string ⟨#[]⟩,.string ⟨#[]⟩]) (by simp);have q1:=h_.row 0 _ rfl;have z1:=h_.fz 0 (by simp);have q2:=h_.row 1 _ rfl;have z2:=h_.fz 1 (by simp);clear h_;have H2:=hid hp;clear hb hp)
  | fail)
 have hp:=H2.out.set2 (by omega) (by simp <;> omega) (.string rn) (.string rd)
 generalize ((w1.alloc (.cells #[.string rn,.string rd] 47)).setCell ⟨w.heap.size,0,none⟩ (.string rn)).setCell ⟨w.heap.size,1,none⟩ (.string rd)=WF at hp⊢
 have h_:=hp.row (w.heap.size,[.string rn,.string rd]) (by simp)
 have q0:=h_.row 0 _ rfl
 have q1:=h_.row 1 _ rfl
 clear h_
 refine bodyPost_ret (v:=.agg #[.string rn,.string rd]) ?_ rfl ⟨rfl,hp.bw⟩
 simp[results,Tryz.results84,go_sem,Result.andThen,q0,q1]
theorem sX_ {x y:Option Rat} (fx:FO x) (fy:FO y) {w:World} (hi:IOps w) :
  Calls Tryz.prog 87 #[.agg #[.string (qN x),.string (qD x)],.agg #[.string (qN y),.string (qD y)]] w fun e W'=>e=.returned (.agg #[.string (qN (plO x y)),.string (qD (plO x y))])∧Below w.heap.size w W':=by
 have K:=hid (fun(W:World) (h:Below w.heap.size w W)=>by have:=Add_q (hi.below h) (hV_ _ fx) (hW_ _ fx) (hV_ _ fy) (hW_ _ fy);rw[aEW fx fy] at this;exact this)
 unfold plO
 generalize qN (cD_ addR x y)=rn at K⊢
 generalize qD (cD_ addR x y)=rd at K⊢
 generalize qE (cD_ addR x y)=re at K
 clear fx fy hi
 generalize qN x=xn at K⊢
 generalize qD x=xd at K⊢
 generalize qN y=yn at K⊢
 generalize qD y=yd at K⊢
 have H0:=hid (show AzAt [(w.heap.size+1+1,[.string ⟨#[]⟩,.string ⟨#[]⟩]),(w.heap.size+1,[.string yn,.string yd]),(w.heap.size,[.string xn,.string xd])] w _ from by have hp:=(((AzAt.start w).push [.string xn,.string xd] 109).push [.string yn,.string yd] 109).push [.string ⟨#[]⟩,.string ⟨#[]⟩] 109;simp only[World.size_alloc] at hp;exact hp)
 go_enter Tryz.func87,Tryz.ntmps87
 go_wp2_with (first
  | (go_at_call 145;(with_reducible refine(K.out _ H0.out.bw).mono ?_);rintro e w1 ⟨rfl,hb⟩;have hp:=AzAt.al (H0.out.below hb) (.cells #[.string rn,.string rd] 47);have h_:=hp.row (w.heap.size+1+1,[.string ⟨#[]⟩,.string ⟨#[]⟩]) (by simp);have q3:=h_.row 0 _ rfl;have z3:=h_.fz 0 (by simp);have q4:=h_.row 1 _ rfl;have z4:=h_.fz 1 (by simp);clear h_;have H2:=hid hp;clear hb hp)
  | fail)
 have hp:=H2.out.set2 (by omega) (by simp <;> omega) (.string rn) (.string rd)
 generalize ((w1.alloc (.cells #[.string rn,.string rd] 47)).setCell ⟨w.heap.size+1+1,0,none⟩ (.string rn)).setCell ⟨w.heap.size+1+1,1,none⟩ (.string rd)=WF at hp⊢
 have h_:=hp.row (w.heap.size+1+1,[.string rn,.string rd]) (by simp)
 have q0:=h_.row 0 _ rfl
 have q1:=h_.row 1 _ rfl
 clear h_
 refine bodyPost_ret (v:=.agg #[.string rn,.string rd]) ?_ rfl ⟨rfl,hp.bw⟩
 simp[results,Tryz.results87,go_sem,Result.andThen,q0,q1]
theorem qQ_ {x y:Option Rat} (fx:FO x) (fy:FO y) {w:World} (hi:IOps w) :
  Calls Tryz.prog 85 #[.agg #[.string (qN x),.string (qD x)],.agg #[.string (qN y),.string (qD y)]] w fun e W'=>e=.returned (.agg #[.string (qN (miO x y)),.string (qD (miO x y))])∧Below w.heap.size w W':=by
 have K:=hid (fun(W:World) (h:Below w.heap.size w W)=>by have:=Sub_q (hi.below h) (hV_ _ fx) (hW_ _ fx) (hV_ _ fy) (hW_ _ fy);rw[aEW fx fy] at this;exact this)
 unfold miO
 generalize qN (cD_ subR x y)=rn at K⊢
 generalize qD (cD_ subR x y)=rd at K⊢
 generalize qE (cD_ subR x y)=re at K
 clear fx fy hi
 generalize qN x=xn at K⊢
 generalize qD x=xd at K⊢
 generalize qN y=yn at K⊢
 generalize qD y=yd at K⊢
 have H0:=hid (show AzAt [(w.heap.size+1+1,[.string ⟨#[]⟩,.string ⟨#[]⟩]),(w.heap.size+1,[.string yn,.string yd]),(w.heap.size,[.string xn,.string xd])] w _ from by have hp:=(((AzAt.start w).push [.string xn,.string xd] 109).push [.string yn,.string yd] 109).push [.string ⟨#[]⟩,.string ⟨#[]⟩] 109;simp only[World.size_alloc] at hp;exact hp)
 go_enter Tryz.func85,Tryz.ntmps85
 go_wp2_with (first
  | (go_at_call 136;(with_reducible refine(K.out _ H0.out.bw).mono ?_);rintro e w1 ⟨rfl,hb⟩;have hp:=AzAt.al (H0.out.below hb) (.cells #[.string rn,.string rd] 47);have h_:=hp.row (w.heap.size+1+1,[.string ⟨#[]⟩,.string ⟨#[]⟩]) (by simp);have q5:=h_.row 0 _ rfl;have z5:=h_.fz 0 (by simp);have q6:=h_.row 1 _ rfl;have z6:=h_.fz 1 (by simp);clear h_;have H2:=hid hp;clear hb hp)
  | fail)
 have hp:=H2.out.set2 (by omega) (by simp <;> omega) (.string rn) (.string rd)
 generalize ((w1.alloc (.cells #[.string rn,.string rd] 47)).setCell ⟨w.heap.size+1+1,0,none⟩ (.string rn)).setCell ⟨w.heap.size+1+1,1,none⟩ (.string rd)=WF at hp⊢
 have h_:=hp.row (w.heap.size+1+1,[.string rn,.string rd]) (by simp)
 have q0:=h_.row 0 _ rfl
 have q1:=h_.row 1 _ rfl
 clear h_
 refine bodyPost_ret (v:=.agg #[.string rn,.string rd]) ?_ rfl ⟨rfl,hp.bw⟩
 simp[results,Tryz.results85,go_sem,Result.andThen,q0,q1]
theorem aCS {x y:Option Rat} (fx:FO x) (fy:FO y) {w:World} (hi:IOps w) :
  Calls Tryz.prog 140 #[.agg #[.string (qN x),.string (qD x)],.agg #[.string (qN y),.string (qD y)]] w fun e W'=>e=.returned (.agg #[.string (qN (tiO x y)),.string (qD (tiO x y))])∧Below w.heap.size w W':=by
 have K:=hid (fun(W:World) (h:Below w.heap.size w W)=>by have:=Mul_q (hi.below h) (hV_ _ fx) (hW_ _ fx) (hV_ _ fy) (hW_ _ fy);rw[aEW fx fy] at this;exact this)
 unfold tiO
 generalize qN (cD_ mulR x y)=rn at K⊢
 generalize qD (cD_ mulR x y)=rd at K⊢
 generalize qE (cD_ mulR x y)=re at K
 clear fx fy hi
 generalize qN x=xn at K⊢
 generalize qD x=xd at K⊢
 generalize qN y=yn at K⊢
 generalize qD y=yd at K⊢
 have H0:=hid (show AzAt [(w.heap.size+1+1,[.string ⟨#[]⟩,.string ⟨#[]⟩]),(w.heap.size+1,[.string yn,.string yd]),(w.heap.size,[.string xn,.string xd])] w _ from by have hp:=(((AzAt.start w).push [.string xn,.string xd] 109).push [.string yn,.string yd] 109).push [.string ⟨#[]⟩,.string ⟨#[]⟩] 109;simp only[World.size_alloc] at hp;exact hp)
 go_enter Tryz.func140,Tryz.ntmps140
 go_wp2_with (first
  | (go_at_call 162;(with_reducible refine(K.out _ H0.out.bw).mono ?_);rintro e w1 ⟨rfl,hb⟩;have hp:=AzAt.al (H0.out.below hb) (.cells #[.string rn,.string rd] 47);have h_:=hp.row (w.heap.size+1+1,[.string ⟨#[]⟩,.string ⟨#[]⟩]) (by simp);have q7:=h_.row 0 _ rfl;have z7:=h_.fz 0 (by simp);have q8:=h_.row 1 _ rfl;have z8:=h_.fz 1 (by simp);clear h_;have H2:=hid hp;clear hb hp)
  | fail)
 have hp:=H2.out.set2 (by omega) (by simp <;> omega) (.string rn) (.string rd)
 generalize ((w1.alloc (.cells #[.string rn,.string rd] 47)).setCell ⟨w.heap.size+1+1,0,none⟩ (.string rn)).setCell ⟨w.heap.size+1+1,1,none⟩ (.string rd)=WF at hp⊢
 have h_:=hp.row (w.heap.size+1+1,[.string rn,.string rd]) (by simp)
 have q0:=h_.row 0 _ rfl
 have q1:=h_.row 1 _ rfl
 clear h_
 refine bodyPost_ret (v:=.agg #[.string rn,.string rd]) ?_ rfl ⟨rfl,hp.bw⟩
 simp[results,Tryz.results140,go_sem,Result.andThen,q0,q1]
theorem aER {x y:Option Rat} (fx:FO x) (fy:FO y) {w:World} (hi:IOps w) :
  Calls Tryz.prog 138 #[.agg #[.string (qN x),.string (qD x)],.agg #[.string (qN y),.string (qD y)]] w fun e W'=>e=.returned (.agg #[.string (qN (ovO x y)),.string (qD (ovO x y))])∧Below w.heap.size w W':=by
 have K:=hid (fun(W:World) (h:Below w.heap.size w W)=>by have:=Div_q (hi.below h) (hV_ _ fx) (hW_ _ fx) (hV_ _ fy) (hW_ _ fy);rw[aEW fx fy] at this;exact this)
 unfold ovO
 generalize qN (cD_ divR x y)=rn at K⊢
 generalize qD (cD_ divR x y)=rd at K⊢
 generalize qE (cD_ divR x y)=re at K
 clear fx fy hi
 generalize qN x=xn at K⊢
 generalize qD x=xd at K⊢
 generalize qN y=yn at K⊢
 generalize qD y=yd at K⊢
 have H0:=hid (show AzAt [(w.heap.size+1+1,[.string ⟨#[]⟩,.string ⟨#[]⟩]),(w.heap.size+1,[.string yn,.string yd]),(w.heap.size,[.string xn,.string xd])] w _ from by have hp:=(((AzAt.start w).push [.string xn,.string xd] 109).push [.string yn,.string yd] 109).push [.string ⟨#[]⟩,.string ⟨#[]⟩] 109;simp only[World.size_alloc] at hp;exact hp)
 go_enter Tryz.func138,Tryz.ntmps138
 go_wp2_with (first
  | (go_at_call 182;(with_reducible refine(K.out _ H0.out.bw).mono ?_);rintro e w1 ⟨rfl,hb⟩;have hp:=AzAt.al (H0.out.below hb) (.cells #[.string rn,.string rd] 47);have h_:=hp.row (w.heap.size+1+1,[.string ⟨#[]⟩,.string ⟨#[]⟩]) (by simp);have q9:=h_.row 0 _ rfl;have z9:=h_.fz 0 (by simp);have q10:=h_.row 1 _ rfl;have z10:=h_.fz 1 (by simp);clear h_;have H2:=hid hp;clear hb hp)
  | fail)
 have hp:=H2.out.set2 (by omega) (by simp <;> omega) (.string rn) (.string rd)
 generalize ((w1.alloc (.cells #[.string rn,.string rd] 47)).setCell ⟨w.heap.size+1+1,0,none⟩ (.string rn)).setCell ⟨w.heap.size+1+1,1,none⟩ (.string rd)=WF at hp⊢
 have h_:=hp.row (w.heap.size+1+1,[.string rn,.string rd]) (by simp)
 have q0:=h_.row 0 _ rfl
 have q1:=h_.row 1 _ rfl
 clear h_
 refine bodyPost_ret (v:=.agg #[.string rn,.string rd]) ?_ rfl ⟨rfl,hp.bw⟩
 simp[results,Tryz.results138,go_sem,Result.andThen,q0,q1]
theorem tJ_ {x y:Option Rat} (fx:FO x) (fy:FO y) {w:World} (hi:IOps w) :
  Calls Tryz.prog 137 #[.agg #[.string (qN x),.string (qD x)],.agg #[.string (qN y),.string (qD y)]] w fun e W'=>e=.returned (.bool (leO x y))∧Below w.heap.size w W':=by
 have K:=hid (fun(W:World) (h:Below w.heap.size w W)=>by have:=pS_ (hi.below h) (hV_ _ fx) (hW_ _ fx) (hV_ _ fy) (hW_ _ fy);rw[aND fx fy] at this;exact this)
 unfold leO
 generalize rH_ x y=c at K⊢
 clear fx fy hi
 generalize qN x=xn at K⊢
 generalize qD x=xd at K⊢
 generalize qN y=yn at K⊢
 generalize qD y=yd at K⊢
 have H0:=hid (show AzAt [(w.heap.size+1,[.string yn,.string yd]),(w.heap.size,[.string xn,.string xd])] w _ from by have hp:=((AzAt.start w).push [.string xn,.string xd] 109).push [.string yn,.string yd] 109;simp only[World.size_alloc] at hp;exact hp)
 go_enter Tryz.func137,Tryz.ntmps137
 go_wp2_with (first
  | (go_at_call 143;(with_reducible refine(K.out _ H0.out.bw).mono ?_);rintro e w1 ⟨rfl,hb⟩;have H2:=hid (H0.out.below hb).bw;clear hb)
  | fail)
 go_ret
 exact⟨rfl,H2.out⟩
theorem ucmp_s {x y:Option Rat} (fx:FO x) (fy:FO y) {w:World} (hi:IOps w) :
  Calls Tryz.prog 142 #[.agg #[.string (qN x),.string (qD x)],.agg #[.string (qN y),.string (qD y)]] w fun e W'=>e=.returned (.int .i64 (rH_ x y))∧Below w.heap.size w W':=by
 have K:=hid (fun(W:World) (h:Below w.heap.size w W)=>by have:=pS_ (hi.below h) (hV_ _ fx) (hW_ _ fx) (hV_ _ fy) (hW_ _ fy);rw[aND fx fy] at this;exact this)
 generalize rH_ x y=c at K⊢
 clear fx fy hi
 generalize qN x=xn at K⊢
 generalize qD x=xd at K⊢
 generalize qN y=yn at K⊢
 generalize qD y=yd at K⊢
 have H0:=hid (show AzAt [(w.heap.size+1,[.string yn,.string yd]),(w.heap.size,[.string xn,.string xd])] w _ from by have hp:=((AzAt.start w).push [.string xn,.string xd] 109).push [.string yn,.string yd] 109;simp only[World.size_alloc] at hp;exact hp)
 go_enter Tryz.func142,Tryz.ntmps142
 go_wp2_with (first
  | (go_at_call 143;(with_reducible refine(K.out _ H0.out.bw).mono ?_);rintro e w1 ⟨rfl,hb⟩;have H2:=hid (H0.out.below hb).bw;clear hb)
  | fail)
 go_ret
 exact⟨rfl,H2.out⟩
end Go.Proofs.YtlikmmpmnaaifaaGreatDoor
namespace Go.Proofs.YtlikmmpmnaaifaaGreatDoor
end Go.Proofs.YtlikmmpmnaaifaaGreatDoor
namespace Go.Proofs.YtlikmmpmnaaifaaGreatDoor
open Go.RowKit Go.Shelf
attribute [local go_sem] Oper.semAt_some
end Go.Proofs.YtlikmmpmnaaifaaGreatDoor
