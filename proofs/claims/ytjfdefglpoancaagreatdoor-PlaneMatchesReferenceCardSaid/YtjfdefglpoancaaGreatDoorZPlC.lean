/- - -/
import Derived.Test.YtjfdefglpoancaaGreatDoorZOut
set_option maxHeartbeats 40000000
set_option maxRecDepth 1000000
namespace Go.Proofs.YtjfdefglpoancaaGreatDoor
theorem bR_ {n:Int} (h:n≠0):(n:Rat)≠0:=fun e=>h (Rat.intCast_eq_zero_iff.1 e)
def rpR (D M:Nat) (k:Nat) (q:Rat):Prop:=(∃n e:Int,e≠0∧e.natAbs≤D^k∧q=(n:Rat)/e)∧-((k*M:Nat):Rat)≤q∧q≤((k*M:Nat):Rat)
theorem rpR.bd {D M k:Nat} {q:Rat} (h:rpR D M k q):bdR (k*M*D^k) (D^k) q:=by
 obtain⟨⟨n,e,he,hd,hq⟩,h1,h2⟩:=h
 have hen:=bR_ he
 have hn:(n:Rat)=q*e:=by rw[hq];grind
 have hb:n.natAbs≤k*M*e.natAbs:=by
  have c1:(((k*M:Nat):Int):Rat)=((k*M:Nat):Rat):=rfl
  rcases Int.lt_or_gt_of_ne he with hs|hs
  ·have ep:(0:Rat) < -(e:Rat):=by
    have:=Rat.intCast_lt_intCast.2 hs
    have z:((0:Int):Rat)=0:=rfl
    grind
   have u1:=Rat.mul_nonneg (show 0≤((k*M:Nat):Rat)-q by grind) (Rat.le_of_lt ep)
   have u2:=Rat.mul_nonneg (show 0≤q+((k*M:Nat):Rat) by grind) (Rat.le_of_lt ep)
   have g1:((-(((k*M:Nat):Int) * -e):Int):Rat)≤(n:Rat):=by
    rw[Rat.intCast_neg,Rat.intCast_mul,Rat.intCast_neg,c1];grind
   have g2:(n:Rat)≤(((((k*M:Nat):Int) * -e):Int):Rat):=by
    rw[Rat.intCast_mul,Rat.intCast_neg,c1];grind
   have g1:=Rat.intCast_le_intCast.1 g1
   have g2:=Rat.intCast_le_intCast.1 g2
   have he2:(e.natAbs:Int) = -e:=by omega
   have e1:((k*M*e.natAbs:Nat):Int)=((k*M:Nat):Int) * -e:=by
    rw[←he2]
    exact Int.natCast_mul _ _
   omega
  ·have ep:(0:Rat)<(e:Rat):=by
    have:=Rat.intCast_lt_intCast.2 hs
    have z:((0:Int):Rat)=0:=rfl
    grind
   have u1:=Rat.mul_nonneg (show 0≤((k*M:Nat):Rat)-q by grind) (Rat.le_of_lt ep)
   have u2:=Rat.mul_nonneg (show 0≤q+((k*M:Nat):Rat) by grind) (Rat.le_of_lt ep)
   have g1:((-(((k*M:Nat):Int)*e):Int):Rat)≤(n:Rat):=by
    rw[Rat.intCast_neg,Rat.intCast_mul,c1];grind
   have g2:(n:Rat)≤(((((k*M:Nat):Int)*e):Int):Rat):=by
    rw[Rat.intCast_mul,c1];grind
   have g1:=Rat.intCast_le_intCast.1 g1
   have g2:=Rat.intCast_le_intCast.1 g2
   have he2:(e.natAbs:Int)=e:=by omega
   have e1:((k*M*e.natAbs:Nat):Int)=((k*M:Nat):Int)*e:=by
    rw[show((k*M*e.natAbs:Nat):Int)=((k*M:Nat):Int)*(e.natAbs:Int) from Int.natCast_mul _ _,he2]
   omega
 rw[hq,←Rat.divInt_eq_div]
 exact gG_ he (Nat.le_trans hb (Nat.mul_le_mul_left _ hd)) hd
theorem nC_ {X Y U V dx dy:Int} (hx:dx≠0) (hV:V-U=dy*(Y-X)):∃n:Int,((Y:Rat)-X)*phi ((U:Rat)/dx) ((V:Rat)/dx)=(n:Rat)/((2*dx*(if dy=0 then 1 else dy):Int):Rat):=by
 have cx:=bR_ hx
 have hV':(V:Rat)-U=dy*((Y:Rat)-X):=by
  have:=congrArg (fun z:Int=>(z:Rat)) hV
  simp only[Rat.intCast_sub,Rat.intCast_mul] at this
  exact this
 by_cases hy:dy=0
 ·rw[if_pos hy]
  have hUV:(V:Rat)=U:=by rw[hy] at hV';have z:((0:Int):Rat)=0:=rfl;rw[z] at hV';grind
  rw[hUV]
  by_cases hu:(0:Rat)≤(U:Rat)/dx
  ·refine⟨(Y-X)*(2*U),?_⟩
   rw[hQ_ hu hu]
   simp only[Rat.intCast_sub,Rat.intCast_mul]
   have z1:((1:Int):Rat)=1:=rfl
   have z2:((2:Int):Rat)=2:=rfl
   rw[z1,z2]
   grind
  ·refine⟨0,?_⟩
   rw[eA_ (by grind) (by grind)]
   have z0:((0:Int):Rat)=0:=rfl
   rw[z0]
   grind
 ·rw[if_neg hy]
  have cy:=bR_ hy
  have z2:((2:Int):Rat)=2:=rfl
  have z0:((0:Int):Rat)=0:=rfl
  unfold phi
  by_cases hu:(0:Rat)≤(U:Rat)/dx <;> by_cases hv:(0:Rat)≤(V:Rat)/dx <;> simp only[hu,hv,if_true,if_false]
  ·refine⟨(Y-X)*(U+V)*dy,?_⟩
   simp only[Rat.intCast_sub,Rat.intCast_mul,Rat.intCast_add]
   rw[z2]
   grind
  ·refine⟨-(U*U),?_⟩
   have hne:(U:Rat)-V≠0:=fun e=>by
    have:(U:Rat)=V:=by grind
    rw[this] at hu
    exact hv hu
   simp only[Rat.intCast_neg,Rat.intCast_mul]
   rw[z2]
   have hyx:(Y:Rat)-X≠0:=fun e=>by rw[e] at hV';grind
   have e1:(U:Rat)/dx-(V:Rat)/dx = -(dy/dx)*((Y:Rat)-X):=by grind
   rw[e1,pL_ hyx]
   grind
  ·refine⟨V*V,?_⟩
   have hne:(V:Rat)-U≠0:=fun e=>by
    have:(V:Rat)=U:=by grind
    rw[this] at hv
    exact hu hv
   simp only[Rat.intCast_mul]
   rw[z2]
   have hyx:(Y:Rat)-X≠0:=fun e=>by rw[e] at hV';grind
   have e1:(V:Rat)/dx-(U:Rat)/dx=(dy/dx)*((Y:Rat)-X):=by grind
   rw[e1,pL_ hyx]
   grind
  ·refine⟨0,?_⟩
   rw[z0]
   grind
theorem aHM {a b:Pl} {r:Rc} (B:Nat) (hr:vRc r=true) (hx:(b.x-a.x).natAbs≤B) (hy:(b.y-a.y).natAbs≤B) (hB:1≤B):rpR (2*B*B) (4095*4095) 1 (covK r a b):=by
 have v:=bO_.1 hr
 refine⟨?_,?_⟩
 ·by_cases hab:a.x=b.x
  ·refine⟨0,1,by decide,?_,?_⟩
   ·rw[Nat.pow_one]
    exact Nat.mul_pos (show 0<2*B by omega) (by omega)
   ·unfold covK
    rw[hab,eE_]
    have z0:((0:Int):Rat)=0:=rfl
    rw[z0]
    grind
  ·have hdx:b.x-a.x≠0:=by omega
   have cdx:=bR_ hdx
   obtain⟨X,hX⟩:∃X,X=clI r.x r.w b.x:=⟨_,rfl⟩
   obtain⟨Y,hY⟩:∃Y,Y=clI r.x r.w a.x:=⟨_,rfl⟩
   have key:∀z:Int,icQ a b r.y+slQ a b*z=(((a.y-r.y)*(b.x-a.x)+(b.y-a.y)*(z-a.x):Int):Rat)/((b.x-a.x:Int):Rat):=fun z=>by
    unfold icQ slQ
    simp only[Rat.intCast_add,Rat.intCast_mul,Rat.intCast_sub] at cdx⊢
    grind
   have key2:∀z:Int,icQ a b r.y+slQ a b*z-r.h=(((a.y-r.y-r.h)*(b.x-a.x)+(b.y-a.y)*(z-a.x):Int):Rat)/((b.x-a.x:Int):Rat):=fun z=>by
    unfold icQ slQ
    simp only[Rat.intCast_add,Rat.intCast_mul,Rat.intCast_sub] at cdx⊢
    grind
   obtain⟨n1,e1⟩:=nC_ (X:=X) (Y:=Y) (U:=(a.y-r.y)*(b.x-a.x)+(b.y-a.y)*(X-a.x)) (V:=(a.y-r.y)*(b.x-a.x)+(b.y-a.y)*(Y-a.x)) (dy:=b.y-a.y) hdx (by grind)
   obtain⟨n2,e2⟩:=nC_ (X:=X) (Y:=Y) (U:=(a.y-r.y-r.h)*(b.x-a.x)+(b.y-a.y)*(X-a.x)) (V:=(a.y-r.y-r.h)*(b.x-a.x)+(b.y-a.y)*(Y-a.x)) (dy:=b.y-a.y) hdx (by grind)
   refine⟨n1-n2,2*(b.x-a.x)*(if b.y-a.y=0 then 1 else b.y-a.y),?_,?_,?_⟩
   ·refine Int.mul_ne_zero (by omega) ?_
    split <;> omega
   ·rw[Nat.pow_one,Int.natAbs_mul,Int.natAbs_mul]
    have h1:(if b.y-a.y=0 then 1 else b.y-a.y:Int).natAbs≤B:=by split <;> omega
    exact Nat.mul_le_mul (Nat.mul_le_mul_left 2 hx) h1
   ·unfold covK arS psi
    rw[←hX,←hY,key,key,←key,←key,key2,key2,key,key]
    rw[Rat.intCast_sub n1]
    generalize ((2*(b.x-a.x)*(if b.y-a.y=0 then 1 else b.y-a.y):Int):Rat)=E at *
    grind
 ·have hH:(0:Rat)≤r.h:=bB_ v.2.2.2.2.2.2.1
  have c1:0≤clI r.x r.w a.x∧clI r.x r.w a.x≤4095:=by unfold clI;omega
  have c2:0≤clI r.x r.w b.x∧clI r.x r.w b.x≤4095:=by unfold clI;omega
  have p1:=qV_ (icQ a b r.y+slQ a b*clI r.x r.w b.x) (icQ a b r.y+slQ a b*clI r.x r.w a.x) hH
  have p2:=psi_le (icQ a b r.y+slQ a b*clI r.x r.w b.x) (icQ a b r.y+slQ a b*clI r.x r.w a.x) hH
  have hh:(r.h:Rat)≤4095:=bB_ (show r.h≤4095 by omega)
  unfold covK arS
  generalize psi (r.h:Rat) (icQ a b r.y+slQ a b*clI r.x r.w b.x) (icQ a b r.y+slQ a b*clI r.x r.w a.x)=P at *
  have d1:(clI r.x r.w a.x:Rat)≤4095:=bB_ c1.2
  have d2:(0:Rat)≤(clI r.x r.w a.x:Rat):=bB_ c1.1
  have d3:(clI r.x r.w b.x:Rat)≤4095:=bB_ c2.2
  have d4:(0:Rat)≤(clI r.x r.w b.x:Rat):=bB_ c2.1
  generalize (clI r.x r.w a.x:Rat)=A at *
  generalize (clI r.x r.w b.x:Rat)=C at *
  have m:(((1*(4095*4095):Nat)):Rat)=4095*4095:=by decide +kernel
  rw[m]
  have u1:=Rat.mul_nonneg (show 0≤4095-(A-C) by grind) p1
  have u2:=Rat.mul_nonneg (show 0≤4095+(A-C) by grind) p1
  have u3:(4095:Rat)*P≤4095*4095:=by grind
  constructor
  ·grind
  ·grind
section
variable {α:Type}
def cA_ (f:α→α→Rat):α→List α→Rat
 | _,[]=>0
 | p,q::r=>f p q+cA_ f q r
def cycS (f:α→α→Rat):List α→Rat
 | []=>0
 | p::t=>cA_ f p (t++[p])
def sumP (f:α→α→Rat):List α→Rat
 | []=>0
 | o::l=>cA_ f o l
def jC_:α→List α→α
 | p,[]=>p
 | _,q::r=>jC_ q r
theorem eP_ (p:α):∀(r:List α) (z:α),jC_ p (r++[z])=z
 | [],_=>rfl
 | q::r,z=>eP_ q r z
theorem rA_ (f:α→α→Rat) (z:α):∀(r:List α) (p:α),cA_ f p (r++[z])=cA_ f p r+f (jC_ p r) z
 | [],p=>by
  show f p z+0=0+f p z
  grind
 | q::r,p=>by
  show f p q+cA_ f q (r++[z])=f p q+cA_ f q r+f (jC_ q r) z
  rw[rA_ f z r q]
  grind
theorem oP_ {f h:α→α→Rat} : ∀(r:List α) (p:α),(∀u∈p::r,∀v∈p::r,f u v=h u v)→cA_ f p r=cA_ h p r
 | [],_,_=>rfl
 | q::r,p,k=>by
  show f p q+cA_ f q r=h p q+cA_ h q r
  rw[k p (by simp) q (by simp),oP_ r q fun u hu v hv=>k u (List.mem_cons_of_mem _ hu) v (List.mem_cons_of_mem _ hv)]
theorem rQ_ {f h:α→α→Rat} {l:List α} (k:∀u∈l,∀v∈l,f u v=h u v):cycS f l=cycS h l:=by
 cases l with
 | nil=>rfl
 | cons p t=>
  have m:∀u,u∈p::(t++[p])→u∈p::t:=fun u hu=>by
   simp only[List.mem_cons,List.mem_append,List.not_mem_nil,or_false] at hu⊢
   rcases hu with h|h|h
   ·exact .inl h
   ·exact .inr h
   ·exact .inl h
  exact oP_ _ _ fun u hu v hv=>k u (m u hu) v (m v hv)
theorem vB_ (f h:α→α→Rat):∀(r:List α) (p:α),cA_ (fun a b=>f a b+h a b) p r=cA_ f p r+cA_ h p r
 | [],_=>by show(0:Rat)=0+0;grind
 | q::r,p=>by
  show f p q+h p q+cA_ (fun a b=>f a b+h a b) q r=f p q+cA_ f q r+(h p q+cA_ h q r)
  rw[vB_ f h r q]
  grind
theorem qZ_ (g:α→Rat):∀(r:List α) (p:α),cA_ (fun a b=>g b-g a) p r=g (jC_ p r)-g p
 | [],p=>by show(0:Rat)=g p-g p;grind
 | q::r,p=>by
  show g q-g p+cA_ (fun a b=>g b-g a) q r=g (jC_ q r)-g p
  rw[qZ_ g r q]
  grind
theorem tU_ (f h:α→α→Rat) (l:List α):cycS (fun a b=>f a b+h a b) l=cycS f l+cycS h l:=by
 cases l with
 | nil=>show(0:Rat)=0+0;grind
 | cons p t=>exact vB_ f h _ _
theorem lT_ (g:α→Rat) (l:List α):cycS (fun a b=>g b-g a) l=0:=by
 cases l with
 | nil=>rfl
 | cons p t=>
  show cA_ _ p (t++[p])=0
  rw[qZ_,eP_]
  grind
variable (g:α→Rat) (mid:α→α→α)
def emC (p q:α):List α:=(if 0≤g p then [p] else [])++(if g p*g q<0 then [mid p q] else [])
def outC:α→List α→List α
 | _,[]=>[]
 | p,q::r=>emC g mid p q++outC q r
def cutC:List α→List α
 | []=>[]
 | p::t=>outC g mid p (t++[p])
def outF:α→List α→List α
 | p,[]=>if 0≤g p then [p] else []
 | p,q::r=>emC g mid p q++outF q r
theorem sZ_:∀(r:List α) (p:α),outF g mid p r=outC g mid p r++(if 0≤g (jC_ p r) then [jC_ p r] else [])
 | [],p=>rfl
 | q::r,p=>by
  show emC g mid p q++outF g mid q r=emC g mid p q++outC g mid q r++_
  rw[sZ_ r q,List.append_assoc]
  rfl
theorem zW_:∀(r:List α) (p:α),(outC g mid p r).length≤2*r.length
 | [],_=>Nat.le_refl _
 | q::r,p=>by
  show(emC g mid p q++outC g mid q r).length≤2*(r.length+1)
  have:=zW_ r q
  have:(emC g mid p q).length≤2:=by
   unfold emC
   split <;> split <;> simp
  rw[List.length_append]
  omega
theorem nS_ (l:List α):(cutC g mid l).length≤2*l.length:=by
 cases l with
 | nil=>exact Nat.le_refl _
 | cons p t=>
  have:=zW_ g mid (t++[p]) p
  have e:(cutC g mid (p::t)).length=(outC g mid p (t++[p])).length:=rfl
  simp only[List.length_append,List.length_cons,List.length_nil] at this⊢
  omega
theorem hY_ (p q:α):(0≤g p∧0≤g q∧emC g mid p q=[p])∨(0<g p∧g q<0∧g p*g q<0∧emC g mid p q=[p,mid p q])∨(g p=0∧g q<0∧emC g mid p q=[p])∨
  (g p<0∧0<g q∧g p*g q<0∧emC g mid p q=[mid p q])∨(g p<0∧g q≤0∧emC g mid p q=[]):=by
 unfold emC
 by_cases hp:0≤g p
 ·rw[if_pos hp]
  by_cases hq:0≤g q
  ·have:=Rat.mul_nonneg hp hq
   rw[if_neg (by grind)]
   exact .inl ⟨hp,hq,rfl⟩
  ·by_cases h0:g p=0
   ·rw[h0,if_neg (by grind)]
    exact .inr (.inr (.inl ⟨rfl,by grind,rfl⟩))
   ·have:=Rat.mul_pos (show 0<g p by grind) (show 0 < -g q by grind)
    rw[if_pos (by grind)]
    exact .inr (.inl ⟨by grind,by grind,by grind,rfl⟩)
 ·rw[if_neg hp]
  by_cases hq:0<g q
  ·have:=Rat.mul_pos (show 0 < -g p by grind) hq
   rw[if_pos (by grind)]
   exact .inr (.inr (.inr (.inl ⟨by grind,hq,by grind,rfl⟩)))
  ·have:=Rat.mul_nonneg (show 0≤-g p by grind) (show 0≤-g q by grind)
   rw[if_neg (by grind)]
   exact .inr (.inr (.inr (.inr ⟨by grind,by grind,rfl⟩)))
variable {g mid}
theorem zV_ (hm:∀p q,g p*g q<0→g (mid p q)=0):∀(r:List α) (p:α),∀o∈outC g mid p r,0≤g o
 | [],_,_,h=>by cases h
 | q::r,p,o,h=>by
  have h:o∈emC g mid p q++outC g mid q r:=h
  rcases List.mem_append.1 h with h|h
  ·rcases hY_ g mid p q with ⟨h1,_,e⟩|⟨h1,_,hc,e⟩|⟨h1,_,e⟩|⟨_,_,hc,e⟩|⟨_,_,e⟩ <;> rw[e] at h
   ·obtain rfl:o=p:=by simpa using h
    exact h1
   ·have h:o=p∨o=mid p q:=by simpa using h
    rcases h with rfl|rfl
    ·grind
    ·rw[hm _ _ hc];grind
   ·obtain rfl:o=p:=by simpa using h
    grind
   ·obtain rfl:o=mid p q:=by simpa using h
    rw[hm _ _ hc];grind
   ·cases h
  ·exact zV_ hm r q o h
theorem nR_ (hm:∀p q,g p*g q<0→g (mid p q)=0) {l:List α} : ∀o∈cutC g mid l,0≤g o:=by
 cases l with
 | nil=>intro o h;cases h
 | cons p t=>exact zV_ hm _ _
theorem gB_ (hm:∀p q,g p*g q<0→g (mid p q)=0):∀(r:List α) (p:α),(0≤g p→∃l,outF g mid p r=p::l)∧(g p<0→∀o l,outF g mid p r=o::l→g o=0)
 | [],p=>by
  unfold outF
  refine⟨fun h=>⟨[],if_pos h⟩,fun h o l e=>?_⟩
  rw[if_neg (by grind)] at e
  cases e
 | q::r,p=>by
  obtain⟨i1,i2⟩:=gB_ hm r q
  show(0≤g p→∃l,emC g mid p q++outF g mid q r=p::l)∧(g p<0→∀o l,emC g mid p q++outF g mid q r=o::l→g o=0)
  rcases hY_ g mid p q with ⟨h1,_,e⟩|⟨h1,_,hc,e⟩|⟨h1,_,e⟩|⟨h1,_,hc,e⟩|⟨h1,h2,e⟩ <;> rw[e]
  ·exact⟨fun _=>⟨_,rfl⟩,fun h=>by grind⟩
  ·exact⟨fun _=>⟨_,rfl⟩,fun h=>by grind⟩
  ·exact⟨fun _=>⟨_,rfl⟩,fun h=>by grind⟩
  ·refine⟨fun h=>by grind,fun _ o l e=>?_⟩
   obtain rfl:mid p q=o:=by injection e
   exact hm _ _ hc
  ·refine⟨fun h=>by grind,fun _ o l e=>?_⟩
   by_cases h0:g q=0
   ·obtain⟨l',e'⟩:=i1 (by grind)
    rw[List.nil_append,e'] at e
    obtain rfl:q=o:=by injection e
    exact h0
   ·exact i2 (by grind) o l e
theorem oS_ (hm:∀p q,g p*g q<0→g (mid p q)=0):∀(r:List α) (p:α),g (jC_ p r)<0→∀o l,outF g mid p r=o::l→g (jC_ o l)=0
 | [],p,h,o,l,e=>by
  unfold outF at e
  have h:g p<0:=h
  rw[if_neg (by grind)] at e
  cases e
 | q::r,p,h,o,l,e=>by
  have e:emC g mid p q++outF g mid q r=o::l:=e
  cases hL:outF g mid q r with
  | nil=>
   have hq:g q<0:=by
    by_cases h0:0≤g q
    ·obtain⟨l',e'⟩:=(gB_ hm r q).1 h0
     rw[hL] at e'
     cases e'
    ·grind
   rw[hL,List.append_nil] at e
   rcases hY_ g mid p q with ⟨_,h2,e'⟩|⟨h1,_,hc,e'⟩|⟨h1,_,e'⟩|⟨_,h2,hc,e'⟩|⟨_,_,e'⟩ <;> rw[e'] at e
   ·grind
   ·injection e with e1 e2
    subst e1 e2
    exact hm _ _ hc
   ·injection e with e1 e2
    subst e1 e2
    exact h1
   ·grind
   ·cases e
  | cons o' l'=>
   have ih:=oS_ hm r q h o' l' hL
   rw[hL] at e
   have hl:∀(A:List α) (o:α) (l:List α),A++o'::l'=o::l→jC_ o l=jC_ o' l':=by
    intro A
    induction A with
    | nil=>intro o l e;injection e with e1 e2;subst e1 e2;rfl
    | cons a A ihA=>
     intro o l e
     injection e with e1 e2
     subst e1
     cases A with
     | nil=>subst e2;rfl
     | cons a' A=>subst e2;exact ihA a' (A++o'::l') rfl
   rw[hl _ _ _ e]
   exact ih
section
variable {f:α→α→Rat} (hm:∀p q,g p*g q<0→g (mid p q)=0) (hs:∀p q,g p*g q<0→f p q=f p (mid p q)+f (mid p q) q) (hz:∀p q,g p≤0→g q≤0→f p q=0)
include hm hs hz
omit hm hs in
theorem uL_ {o:α} {l:List α} (ho:g o≤0) (h:∀o' l',l=o'::l'→g o'=0):sumP f (o::l)=sumP f l:=by
 cases l with
 | nil=>rfl
 | cons o' l'=>
  show f o o'+cA_ f o' l'=cA_ f o' l'
  have:=h o' l' rfl
  rw[hz o o' ho (by grind)]
  grind
theorem zU_:∀(r:List α) (p:α),cA_ f p r=sumP f (outF g mid p r)
 | [],p=>by
  unfold outF
  split <;> rfl
 | q::r,p=>by
  have ih:=zU_ r q
  obtain⟨i1,i2⟩:=gB_ hm r q
  show f p q+cA_ f q r=sumP f (emC g mid p q++outF g mid q r)
  rw[ih]
  rcases hY_ g mid p q with ⟨h1,h2,e⟩|⟨h1,h2,hc,e⟩|⟨h1,h2,e⟩|⟨h1,h2,hc,e⟩|⟨h1,h2,e⟩ <;> rw[e]
  ·obtain⟨l,e'⟩:=i1 h2
   rw[e']
   rfl
  ·have k:=uL_ hz (o:=mid p q) (l:=outF g mid q r) (by rw[hm _ _ hc];grind) (fun o' l' e'=>i2 h2 o' l' e')
   show f p q+_=f p (mid p q)+sumP f (mid p q::outF g mid q r)
   rw[k,hs _ _ hc,hz (mid p q) q (by rw[hm _ _ hc];grind) (by grind)]
   grind
  ·have k:=uL_ hz (o:=p) (l:=outF g mid q r) (by grind) (fun o' l' e'=>i2 h2 o' l' e')
   show _=sumP f (p::outF g mid q r)
   rw[k,hz p q (by grind) (by grind)]
   grind
  ·obtain⟨l,e'⟩:=i1 (by grind)
   rw[e']
   show f p q+cA_ f q l=f (mid p q) q+cA_ f q l
   rw[hs _ _ hc,hz p (mid p q) (by grind) (by rw[hm _ _ hc];grind)]
   grind
  ·rw[hz p q (by grind) h2,List.nil_append]
   grind
theorem nQ_ (l:List α):cycS f (cutC g mid l)=cycS f l:=by
 cases l with
 | nil=>rfl
 | cons p t=>
  show cycS f (outC g mid p (t++[p]))=cA_ f p (t++[p])
  rw[zU_ hm hs hz]
  have e:=sZ_ g mid (t++[p]) p
  rw[eP_] at e
  have hh:=gB_ hm (t++[p]) p
  have hl:=oS_ hm (t++[p]) p
  rw[eP_] at hl
  generalize outF g mid p (t++[p])=F at e hh hl⊢
  generalize outC g mid p (t++[p])=O at e⊢
  by_cases h:0≤g p
  ·rw[if_pos h] at e
   obtain⟨L,eL⟩:=hh.1 h
   cases O with
   | nil=>rw[e];rfl
   | cons o O=>
    rw[eL] at e
    injection e with e1 e2
    subst e1 e2
    rw[eL]
    rfl
  ·rw[if_neg h,List.append_nil] at e
   subst e
   cases F with
   | nil=>rfl
   | cons o O=>
    show cA_ f o (O++[o])=cA_ f o O
    rw[rA_]
    have h1:=hl (by grind) o O rfl
    have h2:=hh.2 (by grind) o O rfl
    rw[hz _ _ (by grind) (by grind)]
    grind
end
def mP_ (K:α→α→Prop):α→List α→Prop
 | _,[]=>True
 | p,q::r=>K p q∧mP_ K q r
def cycK (K:α→α→Prop):List α→Prop
 | []=>True
 | p::t=>mP_ K p (t++[p])
def aPF (K:α→α→Prop):List α→Prop
 | []=>True
 | o::l=>mP_ K o l
theorem rB_ {K:α→α→Prop} (z:α):∀(r:List α) (p:α),mP_ K p (r++[z])↔mP_ K p r∧K (jC_ p r) z
 | [],p=>by
  show K p z∧True↔True∧K p z
  simp
 | q::r,p=>by
  show K p q∧mP_ K q (r++[z])↔(K p q∧mP_ K q r)∧K (jC_ q r) z
  rw[rB_ z r q,and_assoc]
section
variable {K:α→α→Prop} {G:α→Prop} (hm:∀p q,g p*g q<0→g (mid p q)=0) (hs:∀p q,K p q→g p*g q<0→K p (mid p q)∧K (mid p q) q) (hG:∀p q,K p q→G p∧G q) (hz:∀u v,G u→G v→g u=0→g v=0→K u v)
include hm hs hG hz
theorem aMU:∀(r:List α) (p:α),G p→mP_ K p r→(aPF K (outF g mid p r))∧∀o∈outF g mid p r,G o
 | [],p,hp,_=>by
  unfold outF
  split
  ·refine⟨trivial,fun o ho=>?_⟩
   obtain rfl:o=p:=by simpa using ho
   exact hp
  ·exact⟨trivial,fun o ho=>by cases ho⟩
 | q::r,p,hp,k=>by
  obtain⟨k1,k2⟩:=k
  obtain⟨ih,iG⟩:=aMU r q (hG _ _ k1).2 k2
  obtain⟨i1,i2⟩:=gB_ hm r q
  show aPF K (emC g mid p q++outF g mid q r)∧∀o∈emC g mid p q++outF g mid q r,G o
  have skip:∀o,G o→g o=0→g q<0→aPF K (o::outF g mid q r):=fun o go g0 hq=>by
   cases hL:outF g mid q r with
   | nil=>trivial
   | cons o' l'=>
    rw[hL] at ih iG
    exact⟨hz _ _ go (iG o' (by simp)) g0 (i2 hq o' l' hL),ih⟩
  rcases hY_ g mid p q with ⟨h1,h2,e⟩|⟨h1,h2,hc,e⟩|⟨h1,h2,e⟩|⟨h1,h2,hc,e⟩|⟨h1,h2,e⟩ <;> rw[e]
  ·obtain⟨l,e'⟩:=i1 h2
   rw[e'] at ih iG⊢
   exact⟨⟨k1,ih⟩,fun o ho=>by
    rcases List.mem_cons.1 ho with rfl|ho
    ·exact hp
    ·exact iG o ho⟩
  ·obtain⟨s1,s2⟩:=hs _ _ k1 hc
   exact⟨⟨s1,skip _ (hG _ _ s1).2 (hm _ _ hc) h2⟩,fun o ho=>by
    rcases List.mem_cons.1 ho with rfl|ho
    ·exact hp
    ·rcases List.mem_cons.1 ho with rfl|ho
     ·exact(hG _ _ s1).2
     ·exact iG o ho⟩
  ·exact⟨skip _ hp h1 h2,fun o ho=>by
    rcases List.mem_cons.1 ho with rfl|ho
    ·exact hp
    ·exact iG o ho⟩
  ·obtain⟨s1,s2⟩:=hs _ _ k1 hc
   obtain⟨l,e'⟩:=i1 (by grind)
   rw[e'] at ih iG⊢
   exact⟨⟨s2,ih⟩,fun o ho=>by
    rcases List.mem_cons.1 ho with rfl|ho
    ·exact(hG _ _ s1).2
    ·exact iG o ho⟩
  ·exact⟨ih,iG⟩
theorem aNI {l:List α} (k:cycK K l):cycK K (cutC g mid l):=by
 cases l with
 | nil=>trivial
 | cons p t=>
  have k:mP_ K p (t++[p]):=k
  have hp:G p:=by
   cases t with
   | nil=>exact(hG _ _ k.1).1
   | cons q t=>exact(hG _ _ k.1).1
  obtain⟨hK,hGo⟩:=aMU hm hs hG hz (t++[p]) p hp k
  show cycK K (outC g mid p (t++[p]))
  have e:=sZ_ g mid (t++[p]) p
  rw[eP_] at e
  have hh:=gB_ hm (t++[p]) p
  have hl:=oS_ hm (t++[p]) p
  rw[eP_] at hl
  generalize outF g mid p (t++[p])=F at e hh hl hK hGo
  generalize outC g mid p (t++[p])=O at e⊢
  by_cases h:0≤g p
  ·rw[if_pos h] at e
   obtain⟨L,eL⟩:=hh.1 h
   cases O with
   | nil=>trivial
   | cons o O=>
    rw[eL] at e hK
    injection e with e1 e2
    subst e1 e2
    exact hK
  ·rw[if_neg h,List.append_nil] at e
   subst e
   cases F with
   | nil=>trivial
   | cons o O=>
    show mP_ K o (O++[o])
    rw[rB_]
    have hlast:jC_ o O∈o::O:=by
     clear hK hGo hh hl
     induction O generalizing o with
     | nil=>simp[jC_]
     | cons a O ih=>exact List.mem_cons_of_mem _ (ih a)
    exact⟨hK,hz _ _ (hGo _ hlast) (hGo _ (by simp)) (hl (by grind) o O rfl) (hh.2 (by grind) o O rfl)⟩
end
end
end Go.Proofs.YtjfdefglpoancaaGreatDoor
namespace Go.Proofs.YtjfdefglpoancaaGreatDoor
structure PQ where
 x:Rat
 y:Rat
def plQ (p:Pl):PQ:=⟨p.x,p.y⟩
def midQ (g:PQ→Rat) (p q:PQ):PQ:=⟨p.x+g p/(g p-g q)*(q.x-p.x),p.y+g p/(g p-g q)*(q.y-p.y)⟩
def gX (t:Int) (k:Bool) (p:PQ):Rat:=if k then p.x-t else t-p.x
def gY (t:Int) (k:Bool) (p:PQ):Rat:=if k then p.y-t else t-p.y
def cutX (t:Int) (k:Bool) (l:List PQ):List PQ:=cutC (gX t k) (midQ (gX t k)) l
def cutY (t:Int) (k:Bool) (l:List PQ):List PQ:=cutC (gY t k) (midQ (gY t k)) l
theorem dW_ {a b:Rat} (h:a*b<0):(0<a∧b<0)∨(a<0∧0<b):=by
 by_cases h1:0<a
 ·refine .inl ⟨h1,?_⟩
  by_cases h2:0≤b
  ·have:=Rat.mul_nonneg (Rat.le_of_lt h1) h2
   grind
  ·grind
 ·have h3:a<0:=by
   by_cases h0:a=0
   ·rw[h0] at h;grind
   ·grind
  refine .inr ⟨h3,?_⟩
  by_cases h2:b≤0
  ·have:=Rat.mul_nonneg (show 0≤-a by grind) (show 0≤-b by grind)
   grind
  ·grind
theorem jT_ {a b:Rat} (h:a*b<0):0<a/(a-b)∧a/(a-b)<1:=by
 rcases dW_ h with ⟨h1,h2⟩|⟨h1,h2⟩
 ·constructor
  ·rw[Rat.lt_div_iff (by grind)];grind
  ·rw[Rat.div_lt_iff (by grind)];grind
 ·have e:a/(a-b)=(-a)/(b-a):=by grind
  rw[e]
  constructor
  ·rw[Rat.lt_div_iff (by grind)];grind
  ·rw[Rat.div_lt_iff (by grind)];grind
theorem eJ_ {a b:Rat} (h:a*b<0):a-b≠0:=by
 rcases dW_ h with ⟨h1,h2⟩|⟨h1,h2⟩ <;> grind
theorem rL_ (t:Int) (k:Bool) (p q:PQ) (h:gX t k p*gX t k q<0):gX t k (midQ (gX t k) p q)=0:=by
 have hn:=eJ_ h
 cases k <;> unfold midQ gX at * <;> simp only[if_true,Bool.false_eq_true,if_false] at * <;> grind
theorem rK_ (t:Int) (k:Bool) (p q:PQ) (h:gY t k p*gY t k q<0):gY t k (midQ (gY t k) p q)=0:=by
 have hn:=eJ_ h
 cases k <;> unfold midQ gY at * <;> simp only[if_true,Bool.false_eq_true,if_false] at * <;> grind
def slP (p q:PQ):Rat:=(q.y-p.y)/(q.x-p.x)
def icP (p q:PQ) (Y:Int):Rat:=p.y-Y-slP p q*p.x
def clQ (X W:Int) (x:Rat):Rat:=if x≤X then X else if x≤X+W then x else X+W
def covP (r:Rc) (p q:PQ):Rat:=arS r.h (icP p q r.y) (slP p q) (clQ r.x r.w q.x) (clQ r.x r.w p.x)
theorem aHU (X W x:Int) (hW:0≤W):clQ X W (x:Rat)=(clI X W x:Int):=by
 unfold clQ clI
 by_cases h1:x≤X
 ·rw[if_pos (bB_ h1),show max X (min x (X+W))=X by omega]
 ·rw[if_neg (fun h=>h1 (Rat.intCast_le_intCast.1 h))]
  by_cases h2:x≤X+W
  ·have h2':=bB_ h2
   rw[Rat.intCast_add] at h2'
   rw[if_pos h2',show max X (min x (X+W))=x by omega]
  ·have h2':¬(x:Rat)≤X+W:=fun h=>h2 (by rw[←Rat.intCast_add] at h;exact Rat.intCast_le_intCast.1 h)
   rw[if_neg h2',show max X (min x (X+W))=X+W by omega,Rat.intCast_add]
theorem aLF {r:Rc} (hW:0≤r.w) (a b:Pl):covP r (plQ a) (plQ b)=covK r a b:=by
 unfold covP covK plQ
 simp only
 rw[aHU _ _ _ hW,aHU _ _ _ hW]
 rfl
theorem iC_ {r:Rc} {p q:PQ} (h:p.x=q.x):covP r p q=0:=by unfold covP;rw[h,eE_]
theorem rS_ (r:Rc) (p q:PQ) (s:Rat) (hs:0<s):covP r p q=covP r p ⟨p.x+s*(q.x-p.x),p.y+s*(q.y-p.y)⟩+covP r ⟨p.x+s*(q.x-p.x),p.y+s*(q.y-p.y)⟩ q:=by
 by_cases hx:p.x=q.x
 ·have e:p.x+s*(q.x-p.x)=q.x:=by rw[hx];grind
  rw[iC_ hx,iC_ (q:=⟨p.x+s*(q.x-p.x),p.y+s*(q.y-p.y)⟩) (by rw[e];exact hx),iC_ (p:=⟨p.x+s*(q.x-p.x),p.y+s*(q.y-p.y)⟩) (q:=q) e]
  grind
 ·have hd:q.x-p.x≠0:=by grind
  have s1:slP p ⟨p.x+s*(q.x-p.x),p.y+s*(q.y-p.y)⟩=slP p q:=by
   unfold slP
   simp only
   grind
  have i1:icP p ⟨p.x+s*(q.x-p.x),p.y+s*(q.y-p.y)⟩ r.y=icP p q r.y:=by unfold icP;rw[s1]
  by_cases h1:s=1
  ·have e1:p.x+s*(q.x-p.x)=q.x:=by rw[h1];grind
   have e2:p.y+s*(q.y-p.y)=q.y:=by rw[h1];grind
   rw[e1,e2]
   show covP r p q=covP r p q+covP r q q
   rw[iC_ (p:=q) (q:=q) rfl]
   grind
  ·have s2:slP ⟨p.x+s*(q.x-p.x),p.y+s*(q.y-p.y)⟩ q=slP p q:=by
    unfold slP
    simp only
    have e1:q.y-(p.y+s*(q.y-p.y))=(1-s)*(q.y-p.y):=by grind
    have e2:q.x-(p.x+s*(q.x-p.x))=(1-s)*(q.x-p.x):=by grind
    have h3:(1:Rat)-s≠0:=by grind
    rw[e1,e2]
    grind
   have i2:icP ⟨p.x+s*(q.x-p.x),p.y+s*(q.y-p.y)⟩ q r.y=icP p q r.y:=by
    unfold icP
    rw[s2]
    unfold slP
    simp only
    grind
   unfold covP
   rw[s1,s2,i1,i2,aIH _ _ _ (clQ r.x r.w q.x) (clQ r.x r.w (p.x+s*(q.x-p.x))) (clQ r.x r.w p.x)]
   grind
theorem aHJ {r:Rc} {p q:PQ} (h1:p.x≤r.x) (h2:q.x≤r.x):covP r p q=0:=by
 unfold covP clQ
 rw[if_pos h1,if_pos h2,eE_]
theorem wK_ {X W:Int} (hW:0≤W) {x:Rat} (h:(X+W:Rat)≤x):clQ X W x=X+W:=by
 unfold clQ
 have hw:=bB_ hW
 have z:((0:Int):Rat)=0:=rfl
 rw[z] at hw
 split
 ·grind
 ·split
  ·grind
  ·rfl
theorem aCL {r:Rc} (hW:0≤r.w) {p q:PQ} (h1:(r.x+r.w:Rat)≤p.x) (h2:(r.x+r.w:Rat)≤q.x):covP r p q=0:=by
 unfold covP
 rw[wK_ hW h1,wK_ hW h2,eE_]
def covV (r:Rc) (p q:PQ):Rat:=(p.x-q.x)*psi r.h (q.y-r.y) (p.y-r.y)
theorem aNJ {X W:Int} {x:Rat} (h1:(X:Rat)≤x) (h2:x≤X+W):clQ X W x=x:=by
 unfold clQ
 by_cases h:x≤X
 ·rw[if_pos h];grind
 ·rw[if_neg h,if_pos h2]
theorem covP_V {r:Rc} {p q:PQ} (h1:(r.x:Rat)≤p.x) (h2:p.x≤r.x+r.w) (h3:(r.x:Rat)≤q.x) (h4:q.x≤r.x+r.w):covP r p q=covV r p q:=by
 by_cases hx:p.x=q.x
 ·rw[iC_ hx]
  unfold covV
  rw[hx]
  grind
 ·have hd:q.x-p.x≠0:=by grind
  unfold covP covV arS
  rw[aNJ h1 h2,aNJ h3 h4]
  have e1:icP p q r.y+slP p q*q.x=q.y-r.y:=by unfold icP slP;grind
  have e2:icP p q r.y+slP p q*p.x=p.y-r.y:=by unfold icP;grind
  rw[e1,e2]
theorem aEN (H u v s:Rat) (h0:0≤s) (h1:s≤1):psi H u v=s*psi H u (u+s*(v-u))+(1-s)*psi H (u+s*(v-u)) v:=by
 have e1:=nB_ (p:=u) (q:=v-u) (L:=0) (M:=s) (R:=1) h0 h1
 have e2:=nB_ (p:=u-H) (q:=v-u) (L:=0) (M:=s) (R:=1) h0 h1
 have a1:u+(v-u)*0=u:=by grind
 have a2:u+(v-u)*1=v:=by grind
 have a3:u+(v-u)*s=u+s*(v-u):=by grind
 have b1:u-H+(v-u)*0=u-H:=by grind
 have b2:u-H+(v-u)*1=v-H:=by grind
 have b3:u-H+(v-u)*s=u+s*(v-u)-H:=by grind
 rw[a1,a2,a3] at e1
 rw[b1,b2,b3] at e2
 unfold psi
 grind
theorem aCK (r:Rc) (p q:PQ) (s:Rat) (h0:0≤s) (h1:s≤1):covV r p q=covV r p ⟨p.x+s*(q.x-p.x),p.y+s*(q.y-p.y)⟩+covV r ⟨p.x+s*(q.x-p.x),p.y+s*(q.y-p.y)⟩ q:=by
 have e:=aEN r.h (p.y-r.y) (q.y-r.y) s h0 h1
 have e1:p.y-r.y+s*(q.y-r.y-(p.y-r.y))=p.y+s*(q.y-p.y)-r.y:=by grind
 rw[e1] at e
 unfold covV
 simp only
 rw[iQ_ (r.h:Rat) (q.y-r.y) (p.y-r.y),e,iQ_ (r.h:Rat) (p.y+s*(q.y-p.y)-r.y) (p.y-r.y),iQ_ (r.h:Rat) (q.y-r.y) (p.y+s*(q.y-p.y)-r.y)]
 grind
theorem aLE {r:Rc} (hH:0≤r.h) {p q:PQ} (h1:p.y≤r.y) (h2:q.y≤r.y):covV r p q=0:=by
 have hh:=bB_ hH
 have z:((0:Int):Rat)=0:=rfl
 rw[z] at hh
 unfold covV psi
 rw[eA_ (by grind) (by grind),eA_ (by grind) (by grind)]
 grind
theorem aHI {r:Rc} (hH:0≤r.h) {p q:PQ} (h1:(r.y+r.h:Rat)≤p.y) (h2:(r.y+r.h:Rat)≤q.y):covV r p q+(q.x*r.h-p.x*r.h)=0:=by
 have hh:=bB_ hH
 have z:((0:Int):Rat)=0:=rfl
 rw[z] at hh
 unfold covV psi
 rw[hQ_ (by grind) (by grind),hQ_ (by grind) (by grind)]
 grind
theorem aQW {r:Rc} {p q:PQ} (h1:(r.y:Rat)≤p.y) (h2:p.y≤r.y+r.h) (h3:(r.y:Rat)≤q.y) (h4:q.y≤r.y+r.h):covV r p q=(p.x*q.y-p.y*q.x)/2+((q.x*r.y-q.x*q.y/2)-(p.x*r.y-p.x*p.y/2)):=by
 unfold covV
 rw[psi_in (by grind) (by grind) (by grind) (by grind)]
 grind
def cut4 (r:Rc) (l:List PQ):List PQ:=cutY (r.y+r.h) false (cutY r.y true (cutX (r.x+r.w) false (cutX r.x true l)))
def aLZ (l:List PQ):Rat:=cycS (fun p q=>p.x*q.y-p.y*q.x) l
theorem aHA (f:Pl→Pl→Rat) (h:PQ→PQ→Rat) (hf:∀a b,h (plQ a) (plQ b)=f a b) (l:List Pl):cycS h (l.map plQ)=sumE f (aM_ l):=by
 cases l with
 | nil=>rfl
 | cons x t=>
  rw[tO_]
  show cA_ h (plQ x) (t.map plQ++[plQ x])=_
  have gen:∀(t:List Pl) (p z:Pl),cA_ h (plQ p) (t.map plQ++[plQ z])=sumE f (edF (p::(t++[z]))):=by
   intro t
   induction t with
   | nil=>
    intro p z
    show h (plQ p) (plQ z)+0=f p z+0
    rw[hf]
   | cons q t ih=>
    intro p z
    show h (plQ p) (plQ q)+cA_ h (plQ q) (t.map plQ++[plQ z])=f p q+sumE f (edF (q::(t++[z])))
    rw[hf,ih]
  exact gen t x x
theorem mid_ge {g h:PQ→Rat} (hh:∀p q:PQ,∀s:Rat,h ⟨p.x+s*(q.x-p.x),p.y+s*(q.y-p.y)⟩=(1-s)*h p+s*h q) {p q:PQ} (hc:g p*g q<0) (hp:0≤h p) (hq:0≤h q):0≤h (midQ g p q):=by
 obtain⟨s0,s1⟩:=jT_ hc
 unfold midQ
 rw[hh]
 have:=Rat.mul_nonneg (show 0≤1-g p/(g p-g q) by grind) hp
 have:=Rat.mul_nonneg (Rat.le_of_lt s0) hq
 grind
theorem gX_aff (t:Int) (k:Bool) (p q:PQ) (s:Rat):gX t k ⟨p.x+s*(q.x-p.x),p.y+s*(q.y-p.y)⟩=(1-s)*gX t k p+s*gX t k q:=by
 cases k <;> unfold gX <;> simp only[if_true,Bool.false_eq_true,if_false] <;> grind
theorem gY_aff (t:Int) (k:Bool) (p q:PQ) (s:Rat):gY t k ⟨p.x+s*(q.x-p.x),p.y+s*(q.y-p.y)⟩=(1-s)*gY t k p+s*gY t k q:=by
 cases k <;> unfold gY <;> simp only[if_true,Bool.false_eq_true,if_false] <;> grind
theorem wB_ {g h:PQ→Rat} (hh:∀p q:PQ,∀s:Rat,h ⟨p.x+s*(q.x-p.x),p.y+s*(q.y-p.y)⟩=(1-s)*h p+s*h q) {l:List PQ} (hl:∀p∈l,0≤h p):∀p∈cutC g (midQ g) l,0≤h p:=by
 have gen:∀(r:List PQ) (p:PQ),0≤h p→(∀q∈r,0≤h q)→∀o∈outC g (midQ g) p r,0≤h o:=by
  intro r
  induction r with
  | nil=>intro p _ _ o ho;cases ho
  | cons q r ih=>
   intro p hp hr o ho
   have ho:o∈emC g (midQ g) p q++outC g (midQ g) q r:=ho
   rcases List.mem_append.1 ho with ho|ho
   ·unfold emC at ho
    rcases List.mem_append.1 ho with ho|ho
    ·split at ho
     ·obtain rfl:o=p:=by simpa using ho
      exact hp
     ·cases ho
    ·split at ho
     ·rename_i hc
      obtain rfl:o=midQ g p q:=by simpa using ho
      exact mid_ge hh hc hp (hr q (by simp))
     ·cases ho
   ·exact ih q (hr q (by simp)) (fun q' h'=>hr q' (by simp[h'])) o ho
 cases l with
 | nil=>intro p hp;cases hp
 | cons p t=>
  exact gen (t++[p]) p (hl p (by simp)) fun q hq=>by
   rcases List.mem_append.1 hq with hq|hq
   ·exact hl q (by simp[hq])
   ·obtain rfl:q=p:=by simpa using hq
    exact hl q (by simp)
theorem aHC {r:Rc} (hW:0≤r.w) (hH:0≤r.h) (l:List Pl):aLZ (cut4 r (l.map plQ))/2=rR_ l r:=by
 obtain⟨l0,h0⟩:∃l0,l0=l.map plQ:=⟨_,rfl⟩
 obtain⟨l1,h1⟩:∃l1,l1=cutX r.x true l0:=⟨_,rfl⟩
 obtain⟨l2,h2⟩:∃l2,l2=cutX (r.x+r.w) false l1:=⟨_,rfl⟩
 obtain⟨l3,h3⟩:∃l3,l3=cutY r.y true l2:=⟨_,rfl⟩
 obtain⟨l4,h4⟩:∃l4,l4=cutY (r.y+r.h) false l3:=⟨_,rfl⟩
 have e0:cycS (covP r) l0=rR_ l r:=by rw[h0];exact aHA _ _ (aLF hW) l
 have e1:cycS (covP r) l1=cycS (covP r) l0:=by
  rw[h1]
  exact nQ_ (rL_ r.x true) (fun p q hc=>rS_ r p q _ (jT_ hc).1) (fun p q a b=>by
   unfold gX at a b
   simp only[if_true] at a b
   exact aHJ (by grind) (by grind)) l0
 have e2:cycS (covP r) l2=cycS (covP r) l1:=by
  rw[h2]
  exact nQ_ (rL_ (r.x+r.w) false) (fun p q hc=>rS_ r p q _ (jT_ hc).1) (fun p q a b=>by
   unfold gX at a b
   simp only[Bool.false_eq_true,if_false,Rat.intCast_add] at a b
   exact aCL hW (by grind) (by grind)) l1
 have p1:∀p∈l1,0≤gX r.x true p:=by rw[h1];exact nR_ (rL_ r.x true)
 have p2:∀p∈l2,0≤gX (r.x+r.w) false p:=by rw[h2];exact nR_ (rL_ (r.x+r.w) false)
 have p2':∀p∈l2,0≤gX r.x true p:=by rw[h2];exact wB_ (gX_aff r.x true) p1
 have eV:cycS (covV r) l2=cycS (covP r) l2:=by
  refine(rQ_ fun u hu v hv=>?_).symm
  have a1:=p2 u hu
  have a2:=p2' u hu
  have a3:=p2 v hv
  have a4:=p2' v hv
  unfold gX at a1 a2 a3 a4
  simp only[if_true,Bool.false_eq_true,if_false,Rat.intCast_add] at a1 a2 a3 a4
  exact covP_V (by grind) (by grind) (by grind) (by grind)
 have sp:∀(t:Int) (k:Bool) (p q:PQ),gY t k p*gY t k q<0→covV r p q=covV r p (midQ (gY t k) p q)+covV r (midQ (gY t k) p q) q:=fun t k p q hc=>aCK r p q _ (Rat.le_of_lt (jT_ hc).1) (Rat.le_of_lt (jT_ hc).2)
 have e3:cycS (covV r) l3=cycS (covV r) l2:=by
  rw[h3]
  exact nQ_ (rK_ r.y true) (sp r.y true) (fun p q a b=>by
   unfold gY at a b
   simp only[if_true] at a b
   exact aLE hH (by grind) (by grind)) l2
 have e4:cycS (fun p q=>covV r p q+(q.x*r.h-p.x*r.h)) l4=cycS (fun p q=>covV r p q+(q.x*r.h-p.x*r.h)) l3:=by
  rw[h4]
  exact nQ_ (rK_ (r.y+r.h) false) (fun p q hc=>by rw[sp _ _ p q hc];grind) (fun p q a b=>by
   unfold gY at a b
   simp only[Bool.false_eq_true,if_false,Rat.intCast_add] at a b
   exact aHI hH (by grind) (by grind)) l3
 rw[tU_,tU_,lT_ (fun p:PQ=>p.x*r.h),lT_ (fun p:PQ=>p.x*r.h)] at e4
 have q3:∀p∈l3,0≤gY r.y true p:=by rw[h3];exact nR_ (rK_ r.y true)
 have q4:∀p∈l4,0≤gY (r.y+r.h) false p:=by rw[h4];exact nR_ (rK_ (r.y+r.h) false)
 have q4':∀p∈l4,0≤gY r.y true p:=by rw[h4];exact wB_ (gY_aff r.y true) q3
 have eF:cycS (covV r) l4=cycS (fun p q=>(p.x*q.y-p.y*q.x)/2+((q.x*r.y-q.x*q.y/2)-(p.x*r.y-p.x*p.y/2))) l4:=by
  refine rQ_ fun u hu v hv=>?_
  have a1:=q4 u hu
  have a2:=q4' u hu
  have a3:=q4 v hv
  have a4:=q4' v hv
  unfold gY at a1 a2 a3 a4
  simp only[if_true,Bool.false_eq_true,if_false,Rat.intCast_add] at a1 a2 a3 a4
  exact aQW (by grind) (by grind) (by grind) (by grind)
 rw[tU_,lT_ (fun p:PQ=>p.x*r.y-p.x*p.y/2)] at eF
 have eh:∀l:List PQ,cycS (fun p q=>(p.x*q.y-p.y*q.x)/2) l=aLZ l/2:=by
  have gen:∀(r:List PQ) (p:PQ),cA_ (fun p q:PQ=>(p.x*q.y-p.y*q.x)/2) p r=cA_ (fun p q:PQ=>p.x*q.y-p.y*q.x) p r/2:=by
   intro r
   induction r with
   | nil=>intro p;show(0:Rat)=0/2;grind
   | cons q r ih=>
    intro p
    show(p.x*q.y-p.y*q.x)/2+cA_ (fun p q:PQ=>(p.x*q.y-p.y*q.x)/2) q r=(p.x*q.y-p.y*q.x+cA_ (fun p q:PQ=>p.x*q.y-p.y*q.x) q r)/2
    rw[ih]
    grind
  intro l
  cases l with
  | nil=>show(0:Rat)=0/2;grind
  | cons p t=>exact gen _ _
 rw[eh] at eF
 have ec:cut4 r (l.map plQ)=l4:=by rw[h4,h3,h2,h1,h0];rfl
 rw[ec]
 grind
theorem fN_ {l:List Pl} (hv:∀p∈l,vP p=true) (hm:∀e∈aM_ (aS_ l),e.1∈aS_ l∧e.2∈aS_ l) (h1:∀(i:Nat) (e:Pl×Pl),(aM_ (aS_ l))[i]?=some e→(aS_ l)[i]?=some e.1)
  (T:Pl→Pl) (hT:∀a b c,aA_ (T a) (T b) (T c)=aA_ a b c):(aM_ (aS_ l)).Pairwise (fun e f=>∀k:Int,¬((T e.2).x≤k∧k+1≤(T e.1).x∧(T f.2).x≤k∧k+1≤(T f.1).x)):=by
 have H:=kB_ hv
 rw[List.pairwise_iff_getElem]
 intro i j hi hj hij k hk
 obtain⟨k1,k2,k3,k4⟩:=hk
 have me:=hm _ (List.getElem_mem hi)
 have mf:=hm _ (List.getElem_mem hj)
 have ge:=h1 i _ (List.getElem?_eq_getElem hi)
 have gf:=h1 j _ (List.getElem?_eq_getElem hj)
 have he:=List.getElem_mem hi
 have hf:=List.getElem_mem hj
 generalize (aM_ (aS_ l))[i]=e at *
 generalize (aM_ (aS_ l))[j]=f at *
 have hne:f.1≠e.1:=fun x=>by
  rw[x,←ge] at gf
  have:=(List.getElem?_inj (List.getElem?_eq_some_iff.1 (gf.trans ge)).1 H.nodup).1 gf
  omega
 have pos:∀e∈aM_ (aS_ l),∀p∈aS_ l,0≤aA_ (T e.1) (T e.2) (T p):=fun e he p hp=>by
  have:=H.edge e he p (H.sub p hp)
  rw[hT]
  omega
 obtain⟨t1,t2⟩:=aDQ k1 k2 k3 k4 (pos e he _ mf.1) (pos e he _ mf.2) (pos f hf _ me.1) (pos f hf _ me.2)
 rw[hT] at t1
 have:=H.vert e he f.1 mf.1
 rcases this with q|q|q
 ·exact hne q
 ·rw[q] at k4;omega
 ·omega
def dirB (d:Nat) (t:Int) (e:Pl×Pl):Bool:=match d with
 | 0=>decide (e.2.x<t)&&decide (t<e.1.x)
 | 1=>decide (e.1.x<t)&&decide (t<e.2.x)
 | 2=>decide (e.2.y<t)&&decide (t<e.1.y)
 | _=>decide (e.1.y<t)&&decide (t<e.2.y)
theorem gD_ {β:Type} (P:β→Bool):∀l:List β,l.Pairwise (fun a b=>¬(P a=true∧P b=true))→l.countP P≤1
 | [],_=>by simp
 | a::l,h=>by
  obtain⟨h1,h2⟩:=List.pairwise_cons.1 h
  rw[List.countP_cons]
  split
  ·rename_i ha
   have:l.countP P=0:=List.countP_eq_zero.2 fun b hb hp=>h1 b hb ⟨ha,hp⟩
   omega
  ·have:=gD_ P l h2
   omega
def anyB {β:Type} (Ps:List (β→Bool)) (b:β):Bool:=Ps.any fun P=>P b
theorem rT_ {β:Type} (l:List β):∀Ps:List (β→Bool),(∀P∈Ps,l.countP P≤1)→l.countP (anyB Ps)≤Ps.length
 | [],_=>by
  have:l.countP (anyB ([]:List (β→Bool)))=0:=List.countP_eq_zero.2 fun b _ h=>by cases h
  omega
 | P::Ps,h=>by
  have h1:=h P (by simp)
  have h2:=rT_ l Ps fun Q hQ=>h Q (by simp[hQ])
  have gen:∀l:List β,l.countP (anyB (P::Ps))≤l.countP P+l.countP (anyB Ps):=by
   intro l
   induction l with
   | nil=>simp
   | cons b l ih=>
    rw[List.countP_cons,List.countP_cons,List.countP_cons]
    have e:anyB (P::Ps) b=(P b||anyB Ps b):=rfl
    rw[e]
    cases P b <;> cases anyB Ps b <;> simp <;> omega
  have:=gen l
  rw[List.length_cons]
  omega
def crsL (r:Rc):List (Pl×Pl→Bool):=[dirB 0 r.x,dirB 1 r.x,dirB 0 (r.x+r.w),dirB 1 (r.x+r.w),dirB 2 r.y,dirB 3 r.y,dirB 2 (r.y+r.h),dirB 3 (r.y+r.h)]
def crsB (r:Rc) (e:Pl×Pl):Bool:=anyB (crsL r) e
theorem wC_ {l:List Pl} (hv:∀p∈l,vP p=true) (hm:∀e∈aM_ (aS_ l),e.1∈aS_ l∧e.2∈aS_ l) (h1:∀(i:Nat) (e:Pl×Pl),(aM_ (aS_ l))[i]?=some e→(aS_ l)[i]?=some e.1) (r:Rc):(aM_ (aS_ l)).countP (crsB r)≤8:=by
 have c0:=fun t=>gD_ (dirB 0 t) _ ((fN_ hv hm h1 (fun p=>p) (fun _ _ _=>rfl)).imp fun {e f} h=>fun hc=>by
  unfold dirB at hc
  simp only[Bool.and_eq_true,decide_eq_true_eq] at hc
  exact h t ⟨by omega,by omega,by omega,by omega⟩)
 have c1:=fun t=>gD_ (dirB 1 t) _ ((fN_ hv hm h1 (fun p=>⟨-p.x,-p.y⟩) (fun _ _ _=>by unfold aA_;simp only;grind)).imp fun {e f} h=>fun hc=>by
  unfold dirB at hc
  simp only[Bool.and_eq_true,decide_eq_true_eq] at hc
  simp only at h
  exact h (-t) ⟨by omega,by omega,by omega,by omega⟩)
 have c2:=fun t=>gD_ (dirB 2 t) _ ((fN_ hv hm h1 (fun p=>⟨p.y,-p.x⟩) (fun _ _ _=>by unfold aA_;simp only;grind)).imp fun {e f} h=>fun hc=>by
  unfold dirB at hc
  simp only[Bool.and_eq_true,decide_eq_true_eq] at hc
  simp only at h
  exact h t ⟨by omega,by omega,by omega,by omega⟩)
 have c3:=fun t=>gD_ (dirB 3 t) _ ((fN_ hv hm h1 (fun p=>⟨-p.y,p.x⟩) (fun _ _ _=>by unfold aA_;simp only;grind)).imp fun {e f} h=>fun hc=>by
  unfold dirB at hc
  simp only[Bool.and_eq_true,decide_eq_true_eq] at hc
  simp only at h
  exact h (-t) ⟨by omega,by omega,by omega,by omega⟩)
 refine rT_ _ (crsL r) fun P hP=>?_
 unfold crsL at hP
 simp only[List.mem_cons,List.not_mem_nil,or_false] at hP
 rcases hP with rfl|rfl|rfl|rfl|rfl|rfl|rfl|rfl
 ·exact c0 _
 ·exact c1 _
 ·exact c0 _
 ·exact c1 _
 ·exact c2 _
 ·exact c3 _
 ·exact c2 _
 ·exact c3 _
theorem aQS {r:Rc} {e:Pl×Pl} (h:crsB r e=false):(∀t,t=r.x∨t=r.x+r.w→¬(e.2.x<t∧t<e.1.x)∧¬(e.1.x<t∧t<e.2.x))∧(∀t,t=r.y∨t=r.y+r.h→¬(e.2.y<t∧t<e.1.y)∧¬(e.1.y<t∧t<e.2.y)):=by
 unfold crsB anyB crsL dirB at h
 simp only[List.any_cons,List.any_nil,Bool.or_eq_false_iff,Bool.and_eq_false_iff,decide_eq_false_iff_not] at h
 constructor
 ·rintro t (rfl|rfl) <;> omega
 ·rintro t (rfl|rfl) <;> omega
def nzN (z:Int):Nat:=if z=0 then 1 else z.natAbs
theorem aFE (z:Int):0<nzN z:=by unfold nzN;split <;> omega
def wE (r:Rc) (e:Pl×Pl):Nat:=if crsB r e then 2*nzN (e.2.x-e.1.x)*nzN (e.2.y-e.1.y) else 1
theorem wE_pos (r:Rc) (e:Pl×Pl):0<wE r e:=by
 unfold wE
 split
 ·exact Nat.mul_pos (Nat.mul_pos (by decide) (aFE _)) (aFE _)
 ·decide
def dP_ (r:Rc):List (Pl×Pl)→Nat
 | []=>1
 | e::l=>wE r e*dP_ r l
theorem hP_ (r:Rc):∀l,0<dP_ r l
 | []=>Nat.one_pos
 | e::l=>Nat.mul_pos (wE_pos r e) (hP_ r l)
theorem yQ_ {r:Rc} {e:Pl×Pl} : ∀{l:List (Pl×Pl)},e∈l→wE r e∣dP_ r l
 | [],h=>by cases h
 | f::l,h=>by
  unfold dP_
  rcases List.mem_cons.1 h with rfl|h
  ·exact Nat.dvd_mul_right _ _
  ·exact Nat.dvd_trans (yQ_ h) (Nat.dvd_mul_left _ _)
theorem sV_ {r:Rc} : ∀{l:List (Pl×Pl)},(∀e∈l,vP e.1=true∧vP e.2=true)→dP_ r l≤(2*4095*4095)^(l.countP (crsB r))
 | [],_=>Nat.le_refl _
 | e::l,h=>by
  have ih:=sV_ (r:=r) (l:=l) fun f hf=>h f (by simp[hf])
  obtain⟨v1,v2⟩:=h e (by simp)
  have v1:=aT_.1 v1
  have v2:=aT_.1 v2
  unfold dP_ wE
  rw[List.countP_cons]
  split
  ·rw[Nat.pow_succ,Nat.mul_comm]
   refine Nat.mul_le_mul ih (Nat.mul_le_mul (Nat.mul_le_mul_left 2 ?_) ?_)
   ·unfold nzN;split <;> omega
   ·unfold nzN;split <;> omega
  ·rw[Nat.one_mul]
   exact ih
def dI (D:Nat) (q:Rat):Prop:=∃n:Int,q*(D:Int)=n
theorem dI.dvd {D E:Nat} {q:Rat} (h:dI D q) (hd:D∣E):dI E q:=by
 obtain⟨n,hn⟩:=h
 obtain⟨k,rfl⟩:=hd
 refine⟨n*k,?_⟩
 rw[Rat.intCast_mul,←hn,Int.natCast_mul,Rat.intCast_mul]
 grind
theorem dI.add {D:Nat} {a b:Rat} (ha:dI D a) (hb:dI D b):dI D (a+b):=by
 obtain⟨n,hn⟩:=ha
 obtain⟨m,hm⟩:=hb
 exact⟨n+m,by rw[Rat.intCast_add,←hn,←hm];grind⟩
theorem dI.sub {D:Nat} {a b:Rat} (ha:dI D a) (hb:dI D b):dI D (a-b):=by
 obtain⟨n,hn⟩:=ha
 obtain⟨m,hm⟩:=hb
 exact⟨n-m,by rw[Rat.intCast_sub,←hn,←hm];grind⟩
theorem dI.mul {D E:Nat} {a b:Rat} (ha:dI D a) (hb:dI E b):dI (D*E) (a*b):=by
 obtain⟨n,hn⟩:=ha
 obtain⟨m,hm⟩:=hb
 refine⟨n*m,?_⟩
 rw[Rat.intCast_mul,←hn,←hm,Int.natCast_mul,Rat.intCast_mul]
 grind
theorem dI.int (D:Nat) (n:Int):dI D n:=⟨n*D,by rw[Rat.intCast_mul]⟩
theorem dI.bd {D:Nat} {q:Rat} (hD:0<D) (h:dI D q) {M:Nat} (h1 : -(M:Rat)≤q) (h2:q≤(M:Rat)):bdR (M*D) D q:=by
 obtain⟨n,hn⟩:=h
 have hd:(D:Int)≠0:=by omega
 have:=rpR.bd (D:=D) (M:=M) (k:=1) (q:=q) ⟨⟨n,D,hd,by rw[Nat.pow_one,Int.natAbs_natCast];exact Nat.le_refl _,by
  have c:=bR_ hd
  rw[←hn]
  grind⟩,by rw[Nat.one_mul];exact h1,by rw[Nat.one_mul];exact h2⟩
 rw[Nat.one_mul,Nat.pow_one] at this
 exact this
theorem aHN {a b:Pl} {r:Rc} (hab:a.x≠b.x):∃n:Int,covK r a b=(n:Rat)/((2*(b.x-a.x)*(if b.y-a.y=0 then 1 else b.y-a.y):Int):Rat):=by
 have hdx:b.x-a.x≠0:=by omega
 have cdx:=bR_ hdx
 obtain⟨X,hX⟩:∃X,X=clI r.x r.w b.x:=⟨_,rfl⟩
 obtain⟨Y,hY⟩:∃Y,Y=clI r.x r.w a.x:=⟨_,rfl⟩
 have key:∀z:Int,icQ a b r.y+slQ a b*z=(((a.y-r.y)*(b.x-a.x)+(b.y-a.y)*(z-a.x):Int):Rat)/((b.x-a.x:Int):Rat):=fun z=>by
  unfold icQ slQ
  simp only[Rat.intCast_add,Rat.intCast_mul,Rat.intCast_sub] at cdx⊢
  grind
 have key2:∀z:Int,icQ a b r.y+slQ a b*z-r.h=(((a.y-r.y-r.h)*(b.x-a.x)+(b.y-a.y)*(z-a.x):Int):Rat)/((b.x-a.x:Int):Rat):=fun z=>by
  unfold icQ slQ
  simp only[Rat.intCast_add,Rat.intCast_mul,Rat.intCast_sub] at cdx⊢
  grind
 obtain⟨n1,e1⟩:=nC_ (X:=X) (Y:=Y) (U:=(a.y-r.y)*(b.x-a.x)+(b.y-a.y)*(X-a.x)) (V:=(a.y-r.y)*(b.x-a.x)+(b.y-a.y)*(Y-a.x)) (dy:=b.y-a.y) hdx (by grind)
 obtain⟨n2,e2⟩:=nC_ (X:=X) (Y:=Y) (U:=(a.y-r.y-r.h)*(b.x-a.x)+(b.y-a.y)*(X-a.x)) (V:=(a.y-r.y-r.h)*(b.x-a.x)+(b.y-a.y)*(Y-a.x)) (dy:=b.y-a.y) hdx (by grind)
 refine⟨n1-n2,?_⟩
 unfold covK arS psi
 rw[←hX,←hY,key,key,←key,←key,key2,key2,key,key]
 rw[Rat.intCast_sub n1]
 generalize ((2*(b.x-a.x)*(if b.y-a.y=0 then 1 else b.y-a.y):Int):Rat)=E at *
 grind
theorem aHF {H z:Int} : ∃n:Int,cpQ (H:Rat) (z:Rat)=n:=by
 unfold cpQ
 split
 ·exact⟨0,rfl⟩
 ·split
  ·exact⟨H,rfl⟩
  ·exact⟨z,rfl⟩
theorem aQX {a b:Pl} {r:Rc} (hr:vRc r=true):dI (2*wE r (a,b)) (covK r a b):=by
 have v:=bO_.1 hr
 by_cases hab:a.x=b.x
 ·refine⟨0,?_⟩
  unfold covK
  rw[hab,eE_]
  have z0:((0:Int):Rat)=0:=rfl
  rw[z0]
  grind
 ·by_cases hc:crsB r (a,b)=true
  ·obtain⟨n,hn⟩:=aHN (r:=r) hab
   have hdx:b.x-a.x≠0:=by omega
   have hy:(if b.y-a.y=0 then 1 else b.y-a.y:Int)≠0:=by split <;> omega
   have e1:((nzN (b.x-a.x):Nat):Int)=b.x-a.x∨((nzN (b.x-a.x):Nat):Int) = -(b.x-a.x):=by unfold nzN;rw[if_neg hdx];omega
   have e2:((nzN (b.y-a.y):Nat):Int)=(if b.y-a.y=0 then 1 else b.y-a.y:Int)∨((nzN (b.y-a.y):Nat):Int) = -(if b.y-a.y=0 then 1 else b.y-a.y:Int):=by unfold nzN;split <;> omega
   generalize (if b.y-a.y=0 then 1 else b.y-a.y:Int)=dy at *
   have ew:((2*wE r (a,b):Nat):Int)=2*(2*((nzN (b.x-a.x):Nat):Int)*((nzN (b.y-a.y):Nat):Int)):=by
    unfold wE
    rw[if_pos hc,Int.natCast_mul,Int.natCast_mul,Int.natCast_mul]
    rfl
   have ne:((2*(b.x-a.x)*dy:Int):Rat)≠0:=bR_ (Int.mul_ne_zero (by omega) hy)
   have fin:∀s:Int,((2*wE r (a,b):Nat):Int)=(2*(b.x-a.x)*dy)*s→dI (2*wE r (a,b)) (covK r a b):=fun s hs=>by
    refine⟨n*s,?_⟩
    rw[hs,hn,Rat.intCast_mul (2*(b.x-a.x)*dy),Rat.intCast_mul n]
    generalize ((2*(b.x-a.x)*dy:Int):Rat)=E at *
    grind
   rcases e1 with e1|e1 <;> rcases e2 with e2|e2
   ·exact fin 2 (by rw[ew,e1,e2];grind)
   ·exact fin (-2) (by rw[ew,e1,e2];grind)
   ·exact fin (-2) (by rw[ew,e1,e2];grind)
   ·exact fin 2 (by rw[ew,e1,e2];grind)
  ·have hcf:crsB r (a,b)=false:=by simpa using hc
   have ew:2*wE r (a,b)=2:=by unfold wE;rw[hcf];rfl
   rw[ew]
   obtain⟨nx,ny⟩:=aQS hcf
   have x1:=nx r.x (.inl rfl)
   have x2:=nx (r.x+r.w) (.inr rfl)
   have y1:=ny r.y (.inl rfl)
   have y2:=ny (r.y+r.h) (.inr rfl)
   simp only at x1 x2 y1 y2
   have hcl:clI r.x r.w a.x=clI r.x r.w b.x∨(clI r.x r.w a.x=a.x∧clI r.x r.w b.x=b.x):=by unfold clI;omega
   unfold covK
   rcases hcl with hcl|⟨c1,c2⟩
   ·rw[hcl,eE_]
    exact dI.int 2 0
   ·rw[c1,c2]
    unfold arS
    rw[aMY,aMX r.y hab]
    have hh:=bB_ v.2.2.2.2.2.2.1
    have z0:((0:Int):Rat)=0:=rfl
    rw[z0] at hh
    have ca:∀p q:Int,(p≤q→(p:Rat)≤q):=fun p q h=>bB_ h
    have s1:(((b.y:Rat)-r.y≤0∧(a.y:Rat)-r.y≤0)∨(0≤(b.y:Rat)-r.y∧0≤(a.y:Rat)-r.y)):=by
     rcases(show(b.y≤r.y∧a.y≤r.y)∨(r.y≤b.y∧r.y≤a.y) by omega) with ⟨h1,h2⟩|⟨h1,h2⟩
     ·have:=bB_ h1;have:=bB_ h2;exact .inl ⟨by grind,by grind⟩
     ·have:=bB_ h1;have:=bB_ h2;exact .inr ⟨by grind,by grind⟩
    have s2:(((b.y:Rat)-r.y≤r.h∧(a.y:Rat)-r.y≤r.h)∨((r.h:Rat)≤(b.y:Rat)-r.y∧(r.h:Rat)≤(a.y:Rat)-r.y)):=by
     rcases(show(b.y≤r.y+r.h∧a.y≤r.y+r.h)∨(r.y+r.h≤b.y∧r.y+r.h≤a.y) by omega) with ⟨h1,h2⟩|⟨h1,h2⟩
     ·have:=bB_ h1;have:=bB_ h2;rw[Rat.intCast_add] at *;exact .inl ⟨by grind,by grind⟩
     ·have:=bB_ h1;have:=bB_ h2;rw[Rat.intCast_add] at *;exact .inr ⟨by grind,by grind⟩
    rw[zG_ hh s1 s2,←Rat.intCast_sub,←Rat.intCast_sub,←Rat.intCast_sub]
    obtain⟨n,hn⟩:=aHF (H:=r.h) (z:=b.y-r.y)
    obtain⟨m,hm⟩:=aHF (H:=r.h) (z:=a.y-r.y)
    rw[hn,hm]
    refine⟨(a.x-b.x)*(n+m),?_⟩
    have z2:(((2:Nat):Int):Rat)=2:=rfl
    rw[z2,Rat.intCast_mul,Rat.intCast_add]
    grind
theorem aCM {a b:Pl} {r:Rc} (va:vP a=true) (vb:vP b=true) (hr:vRc r=true) : -((4095*4095:Nat):Rat)≤covK r a b∧covK r a b≤((4095*4095:Nat):Rat):=by
 have v1:=aT_.1 va
 have v2:=aT_.1 vb
 have:=(aHM (a:=a) (b:=b) (r:=r) 4095 hr (by omega) (by omega) (by decide)).2
 rwa[Nat.one_mul] at this
theorem neg_bd {A P:Nat} {q:Rat} (h:bdR A P q):bdR A P (-q):=by
 refine⟨?_,h.2⟩
 show(-q.num).natAbs≤_
 rw[Int.natAbs_neg]
 exact h.1
theorem pN_ {r:Rc} (hr:vRc r=true) {D N M:Nat} (hD:0<D) (hD2:D≤N) (hM:M=4095*4095) (hN:40*M*N*(2*M)+M*(2*M)*N<10^200) (hN2:N*(2*M)<10^200):∀(l:List (Pl×Pl)) (acc:Rat) (k:Nat),
  (∀e∈l,vP e.1=true∧vP e.2=true∧2*wE r e∣D)→k+l.length≤40→dI D acc→-((k*M:Nat):Rat)≤acc→acc≤((k*M:Nat):Rat)→
  l.foldl (hE_ r) (some acc)=some (acc+sumE (covK r) l)
 | [],acc,k,_,_,_,_,_=>by
  have e:acc+sumE (covK r) []=acc:=by unfold sumE;grind
  rw[e]
  rfl
 | e::l,acc,k,hl,hk,ha,b1,b2=>by
  obtain⟨v1,v2,hw⟩:=hl e (by simp)
  have hk1:k≤40:=by omega
  have hcd:=(aQX (a:=e.1) (b:=e.2) hr).dvd hw
  obtain⟨c1,c2⟩:=aCM v1 v2 hr
  rw[←hM] at c1 c2
  have w1:=aT_.1 v1
  have w2:=aT_.1 v2
  have cb:=(aHM (a:=e.1) (b:=e.2) (r:=r) 4095 hr (by omega) (by omega) (by decide)).bd
  rw[Nat.one_mul,Nat.pow_one,Nat.mul_assoc 2,←hM] at cb
  have ab:=(ha.bd hD b1 b2).mono (A':=40*M*N) (P':=N) (Nat.mul_le_mul (Nat.mul_le_mul_right _ hk1) hD2) hD2
  have hstep:hE_ r (some acc) e=some (acc+covK r e.1 e.2):=by
   unfold hE_
   split
   ·rename_i h
    rw[yV_ v1 v2 hr h]
    show subR acc (-(covK r e.1 e.2))=_
    rw[(mC_ ab (neg_bd cb) hN hN2).1]
    congr 1
    grind
   ·rename_i h
    rw[yV_ v2 v1 hr (by omega)]
    have e1 : -(covK r e.2 e.1)=covK r e.1 e.2:=by rw[aHO r e.1 e.2];grind
    rw[e1]
    exact(qA_ ab cb hN hN2).1
  have m1:(((k+1)*M:Nat):Rat)=((k*M:Nat):Rat)+((M:Nat):Rat):=by rw[Nat.add_mul,Nat.one_mul,Rat.natCast_add]
  have g:=pN_ hr hD hD2 hM hN hN2 l (acc+covK r e.1 e.2) (k+1) (fun x hx=>hl x (List.mem_cons_of_mem _ hx)) (by simp only[List.length_cons] at hk;omega) (ha.add hcd) (by rw[m1];grind) (by rw[m1];grind)
  have eq:acc+covK r e.1 e.2+sumE (covK r) l=acc+sumE (covK r) (e::l):=by
   show _=acc+(covK r e.1 e.2+sumE (covK r) l)
   grind
  rw[List.foldl_cons,hstep,g,eq]
theorem yC_ {l:List Pl} {r:Rc} (hv:∀p∈l,vP p=true) (hh:aS_ l=l) (hr:vRc r=true) (hn:l.length≤40) (hm:∀e∈aM_ l,e.1∈l∧e.2∈l) (h1:∀(i:Nat) (e:Pl×Pl),(aM_ l)[i]?=some e→l[i]?=some e.1) (hel:(aM_ l).length=l.length) :
  bV_ l r=some (rR_ l r):=by
 have hc:=wC_ hv (by rw[hh];exact hm) (by rw[hh];exact h1) r
 rw[hh] at hc
 have hp:=sV_ (r:=r) (l:=aM_ l) fun e he=>⟨hv _ (hm e he).1,hv _ (hm e he).2⟩
 have hq:=Nat.le_trans hp (Nat.pow_le_pow_right (show 0<2*4095*4095 by decide) hc)
 have h:=pN_ hr (D:=2*dP_ r (aM_ l)) (Nat.mul_pos (by decide) (hP_ r _)) (Nat.mul_le_mul_left 2 hq) rfl (by decide) (by decide) (aM_ l) 0 0
  (fun e he=>⟨hv _ (hm e he).1,hv _ (hm e he).2,Nat.mul_dvd_mul_left 2 (yQ_ he)⟩) (by rw[hel];omega) (dI.int _ 0) (by simp) (by simp)
 unfold bV_ rR_
 rw[bJ_]
 have z0:((0:Int):Rat)=0:=rfl
 have e:(0:Rat)+sumE (covK r) (aM_ l)=sumE (covK r) (aM_ l):=by grind
 rw[z0,h,e]
def jX_ (D:Nat) (v:Rat):Prop:=0≤v∧v≤4095∧v.den≤4095∧dI D v
def gdQ (D:Nat) (p:PQ):Prop:=jX_ D p.x∧jX_ D p.y
def onS (e:Pl×Pl) (p:PQ):Prop:=∃s:Rat,0≤s∧s≤1∧p.x=e.1.x+s*((e.2.x:Rat)-e.1.x)∧p.y=e.1.y+s*((e.2.y:Rat)-e.1.y)
def vK (p q:PQ):Prop:=p.x=q.x∧∃n:Int,p.x=n
def hK (p q:PQ):Prop:=p.y=q.y∧∃n:Int,p.y=n
def edK (E:List (Pl×Pl)) (D:Nat) (p q:PQ):Prop:=gdQ D p∧gdQ D q∧((∃e∈E,onS e p∧onS e q)∨vK p q∨hK p q)
theorem iT_ {D:Nat} {n:Int} (h0:0≤n) (h1:n≤4095):jX_ D n:=by
 have a:=bB_ h0
 have b:=bB_ h1
 exact⟨a,b,by show(1:Nat)≤4095;decide,dI.int D n⟩
theorem dI.den {D:Nat} {q:Rat} (hD:0<D) (h:dI D q):q.den≤D:=by
 obtain⟨n,hn⟩:=h
 have hd:(D:Int)≠0:=by omega
 have c:=bR_ hd
 have e:q=(n:Rat)/(D:Int):=by rw[←hn];grind
 rw[e]
 exact(aRC (A:=n.natAbs) hD (Nat.le_refl _) (Nat.le_refl D)).2
theorem fT_ {D:Nat} {v:Rat} (h:jX_ D v):bdR (4095*4095) 4095 v:=by
 have hd:0<v.den:=v.den_pos
 have e:dI v.den v:=⟨v.num,by
  have e:=Rat.num_divInt_den v
  rw[Rat.divInt_eq_div] at e
  have c:=bR_ (show(v.den:Int)≠0 by omega)
  generalize ((v.den:Int):Rat)=d at *
  rw[←e]
  grind⟩
 have m0:((4095:Nat):Rat)=4095:=rfl
 exact(e.bd (M:=4095) hd (by rw[m0];have:=h.1;grind) (by rw[m0];exact h.2.1)).mono (Nat.mul_le_mul_left _ h.2.2.1) h.2.2.1
theorem btw {a b s L R:Rat} (h0:0≤s) (h1:s≤1) (a1:L≤a) (a2:a≤R) (b1:L≤b) (b2:b≤R):L≤a+s*(b-a)∧a+s*(b-a)≤R:=by
 have m1:=Rat.mul_nonneg (show 0≤1-s by grind) (show 0≤a-L by grind)
 have m2:=Rat.mul_nonneg h0 (show 0≤b-L by grind)
 have m3:=Rat.mul_nonneg (show 0≤1-s by grind) (show 0≤R-a by grind)
 have m4:=Rat.mul_nonneg h0 (show 0≤R-b by grind)
 constructor <;> grind
theorem aFD {e:Pl×Pl} {p q:PQ} {s:Rat} (h0:0≤s) (h1:s≤1) (hp:onS e p) (hq:onS e q):onS e ⟨p.x+s*(q.x-p.x),p.y+s*(q.y-p.y)⟩:=by
 obtain⟨a,a0,a1,a2,a3⟩:=hp
 obtain⟨b,b0,b1,b2,b3⟩:=hq
 obtain⟨c0,c1⟩:=btw h0 h1 a0 a1 b0 b1
 exact⟨a+s*(b-a),c0,c1,by simp only;rw[a2,b2];grind,by simp only;rw[a3,b3];grind⟩
theorem vN_ {D:Nat} {a b c d t:Int} {s v:Rat} (hb:b-a≠0) (hB:(b-a).natAbs≤4095) (hD:(b-a).natAbs∣D) (hs:(t:Rat)=a+s*((b:Rat)-a)) (hv:v=c+s*((d:Rat)-c)) (v0:0≤v) (v1:v≤4095):jX_ D v:=by
 have hw:v*((b-a:Int):Rat)=((c*(b-a)+(t-a)*(d-c):Int):Rat):=by
  simp only[Rat.intCast_add,Rat.intCast_mul,Rat.intCast_sub]
  rw[hv,hs]
  grind
 have hd:dI (b-a).natAbs v:=by
  rcases Int.le_total 0 (b-a) with h|h
  ·exact⟨_,by rw[Int.natAbs_of_nonneg h];exact hw⟩
  ·refine⟨-(c*(b-a)+(t-a)*(d-c)),?_⟩
   have e:(((b-a).natAbs:Nat):Int) = -(b-a):=by omega
   rw[e,Rat.intCast_neg,Rat.intCast_neg,←hw]
   grind
 exact⟨v0,v1,Nat.le_trans (hd.den (by omega)) hB,hd.dvd hD⟩
theorem aAZ {a b t:Int} {s:Rat} (h0:0≤s) (h1:s≤1):((a≤t∧b≤t)→(a:Rat)+s*((b:Rat)-a)≤t)∧((t≤a∧t≤b)→(t:Rat)≤(a:Rat)+s*((b:Rat)-a)):=by
 constructor
 ·rintro⟨h,k⟩
  have h:=bB_ h
  have k:=bB_ k
  have m1:=Rat.mul_nonneg (show 0≤1-s by grind) (show 0≤(t:Rat)-a by grind)
  have m2:=Rat.mul_nonneg h0 (show 0≤(t:Rat)-b by grind)
  grind
 ·rintro⟨h,k⟩
  have h:=bB_ h
  have k:=bB_ k
  have m1:=Rat.mul_nonneg (show 0≤1-s by grind) (show 0≤(a:Rat)-t by grind)
  have m2:=Rat.mul_nonneg h0 (show 0≤(b:Rat)-t by grind)
  grind
theorem oC_ {a b t:Int} {s u x y:Rat} (k:Bool) (s0:0≤s) (s1:s≤1) (u0:0≤u) (u1:u≤1) (hx:x=a+s*((b:Rat)-a)) (hy:y=a+u*((b:Rat)-a)) (h:(if k then x-t else t-x)*(if k then y-t else t-y)<0):(b<t∧t<a)∨(a<t∧t<b):=by
 apply Classical.byContradiction
 intro hn
 have hp:(x-t)*(y-t)<0:=by
  cases k
  ·simp only[Bool.false_eq_true,if_false] at h;grind
  ·simpa using h
 have m:=dW_ hp
 have as_:=aAZ (a:=a) (b:=b) (t:=t) s0 s1
 have au:=aAZ (a:=a) (b:=b) (t:=t) u0 u1
 rw[←hx] at as_
 rw[←hy] at au
 rcases(show(a≤t∧b≤t)∨(t≤a∧t≤b) by omega) with hc|hc
 ·have:=as_.1 hc;have:=au.1 hc;grind
 ·have:=as_.2 hc;have:=au.2 hc;grind
theorem tL_ {t:Int} {k:Bool} {p:PQ} (h:gX t k p=0):p.x=t:=by
 unfold gX at h
 cases k
 ·simp only[Bool.false_eq_true,if_false] at h;grind
 ·simp only[if_true] at h;grind
theorem tK_ {t:Int} {k:Bool} {p:PQ} (h:gY t k p=0):p.y=t:=by
 unfold gY at h
 cases k
 ·simp only[Bool.false_eq_true,if_false] at h;grind
 ·simp only[if_true] at h;grind
section
variable {r:Rc} {E:List (Pl×Pl)} (hr:vRc r=true) (hE:∀e∈E,vP e.1=true∧vP e.2=true)
include hr hE
theorem edK_X {t:Int} (ht:t=r.x∨t=r.x+r.w) (k:Bool) (p q:PQ) (h:edK E (dP_ r E) p q) (hc:gX t k p*gX t k q<0):edK E (dP_ r E) p (midQ (gX t k) p q)∧edK E (dP_ r E) (midQ (gX t k) p q) q:=by
 have vr:=bO_.1 hr
 obtain⟨gp,gq,hk⟩:=h
 obtain⟨s0,s1⟩:=jT_ hc
 have hz:=rL_ t k p q hc
 have mx:(midQ (gX t k) p q).x=t:=tL_ hz
 have my:(midQ (gX t k) p q).y=p.y+gX t k p/(gX t k p-gX t k q)*(q.y-p.y):=rfl
 have hmm:midQ (gX t k) p q=⟨p.x+gX t k p/(gX t k p-gX t k q)*(q.x-p.x),p.y+gX t k p/(gX t k p-gX t k q)*(q.y-p.y)⟩:=rfl
 have rg:=btw (Rat.le_of_lt s0) (Rat.le_of_lt s1) gp.2.1 gp.2.2.1 gq.2.1 gq.2.2.1
 rw[←my] at rg
 have nx:jX_ (dP_ r E) (midQ (gX t k) p q).x:=by rw[mx];exact iT_ (by omega) (by omega)
 generalize gX t k p/(gX t k p-gX t k q)=s at *
 rcases hk with ⟨e,he,ep,eq⟩|hv|hh
 ·have em:=aFD (Rat.le_of_lt s0) (Rat.le_of_lt s1) ep eq
  rw[←hmm] at em
  have ve:=hE e he
  have v1:=aT_.1 ve.1
  have v2:=aT_.1 ve.2
  have hst:(e.2.x<t∧t<e.1.x)∨(e.1.x<t∧t<e.2.x):=by
   obtain⟨a,a0,a1,a2,_⟩:=ep
   obtain⟨b,b0,b1,b2,_⟩:=eq
   exact oC_ k a0 a1 b0 b1 a2 b2 hc
  have hcr:crsB r e=true:=by
   unfold crsB anyB crsL dirB
   simp only[List.any_cons,List.any_nil,Bool.or_eq_true,Bool.and_eq_true,decide_eq_true_eq]
   rcases ht with rfl|rfl <;> omega
  have hdv:(e.2.x-e.1.x).natAbs∣dP_ r E:=by
   refine Nat.dvd_trans ?_ (yQ_ he)
   unfold wE nzN
   rw[if_pos hcr,if_neg (by omega)]
   exact Nat.dvd_trans (Nat.dvd_mul_left _ 2) (Nat.dvd_mul_right _ _)
  have ny:jX_ (dP_ r E) (midQ (gX t k) p q).y:=by
   obtain⟨c,_,_,c2,c3⟩:=id em
   rw[mx] at c2
   exact vN_ (by omega) (by omega) hdv c2 c3 rg.1 rg.2
  exact⟨⟨gp,⟨nx,ny⟩,.inl ⟨e,he,ep,em⟩⟩,⟨nx,ny⟩,gq,.inl ⟨e,he,em,eq⟩⟩
 ·exfalso
  have:gX t k q=gX t k p:=by unfold gX;rw[hv.1]
  rw[this] at hc
  rcases dW_ hc with h|h <;> grind
 ·obtain⟨h1,h2⟩:=hh
  have e:(midQ (gX t k) p q).y=p.y:=by rw[my,h1];grind
  have ny:jX_ (dP_ r E) (midQ (gX t k) p q).y:=by rw[e];exact gp.2
  exact⟨⟨gp,⟨nx,ny⟩,.inr (.inr ⟨e.symm,h2⟩)⟩,⟨nx,ny⟩,gq,.inr (.inr ⟨e.trans h1,by rw[e];exact h2⟩)⟩
theorem edK_Y {t:Int} (ht:t=r.y∨t=r.y+r.h) (k:Bool) (p q:PQ) (h:edK E (dP_ r E) p q) (hc:gY t k p*gY t k q<0):edK E (dP_ r E) p (midQ (gY t k) p q)∧edK E (dP_ r E) (midQ (gY t k) p q) q:=by
 have vr:=bO_.1 hr
 obtain⟨gp,gq,hk⟩:=h
 obtain⟨s0,s1⟩:=jT_ hc
 have hz:=rK_ t k p q hc
 have my:(midQ (gY t k) p q).y=t:=tK_ hz
 have mx:(midQ (gY t k) p q).x=p.x+gY t k p/(gY t k p-gY t k q)*(q.x-p.x):=rfl
 have hmm:midQ (gY t k) p q=⟨p.x+gY t k p/(gY t k p-gY t k q)*(q.x-p.x),p.y+gY t k p/(gY t k p-gY t k q)*(q.y-p.y)⟩:=rfl
 have rg:=btw (Rat.le_of_lt s0) (Rat.le_of_lt s1) gp.1.1 gp.1.2.1 gq.1.1 gq.1.2.1
 rw[←mx] at rg
 have ny:jX_ (dP_ r E) (midQ (gY t k) p q).y:=by rw[my];exact iT_ (by omega) (by omega)
 generalize gY t k p/(gY t k p-gY t k q)=s at *
 rcases hk with ⟨e,he,ep,eq⟩|hv|hh
 ·have em:=aFD (Rat.le_of_lt s0) (Rat.le_of_lt s1) ep eq
  rw[←hmm] at em
  have ve:=hE e he
  have v1:=aT_.1 ve.1
  have v2:=aT_.1 ve.2
  have hst:(e.2.y<t∧t<e.1.y)∨(e.1.y<t∧t<e.2.y):=by
   obtain⟨a,a0,a1,_,a2⟩:=ep
   obtain⟨b,b0,b1,_,b2⟩:=eq
   exact oC_ k a0 a1 b0 b1 a2 b2 hc
  have hcr:crsB r e=true:=by
   unfold crsB anyB crsL dirB
   simp only[List.any_cons,List.any_nil,Bool.or_eq_true,Bool.and_eq_true,decide_eq_true_eq]
   rcases ht with rfl|rfl <;> omega
  have hdv:(e.2.y-e.1.y).natAbs∣dP_ r E:=by
   refine Nat.dvd_trans ?_ (yQ_ he)
   unfold wE
   rw[if_pos hcr]
   have:nzN (e.2.y-e.1.y)=(e.2.y-e.1.y).natAbs:=by unfold nzN;rw[if_neg (by omega)]
   rw[this]
   exact Nat.dvd_mul_left _ _
  have nx:jX_ (dP_ r E) (midQ (gY t k) p q).x:=by
   obtain⟨c,_,_,c3,c2⟩:=id em
   rw[my] at c2
   exact vN_ (by omega) (by omega) hdv c2 c3 rg.1 rg.2
  exact⟨⟨gp,⟨nx,ny⟩,.inl ⟨e,he,ep,em⟩⟩,⟨nx,ny⟩,gq,.inl ⟨e,he,em,eq⟩⟩
 ·obtain⟨h1,h2⟩:=hv
  have e:(midQ (gY t k) p q).x=p.x:=by rw[mx,h1];grind
  have nx:jX_ (dP_ r E) (midQ (gY t k) p q).x:=by rw[e];exact gp.1
  exact⟨⟨gp,⟨nx,ny⟩,.inr (.inl ⟨e.symm,h2⟩)⟩,⟨nx,ny⟩,gq,.inr (.inl ⟨e.trans h1,by rw[e];exact h2⟩)⟩
 ·exfalso
  have:gY t k q=gY t k p:=by unfold gY;rw[hh.1]
  rw[this] at hc
  rcases dW_ hc with h|h <;> grind
theorem aNF {t:Int} (ht:t=r.x∨t=r.x+r.w) (k:Bool) {l:List PQ} (h:cycK (edK E (dP_ r E)) l):cycK (edK E (dP_ r E)) (cutX t k l):=
 aNI (G:=gdQ (dP_ r E)) (rL_ t k) (edK_X hr hE ht k) (fun _ _ h=>⟨h.1,h.2.1⟩) (fun _ _ gu gv hu hv=>⟨gu,gv,.inr (.inl ⟨(tL_ hu).trans (tL_ hv).symm,t,tL_ hu⟩)⟩) h
theorem aNE {t:Int} (ht:t=r.y∨t=r.y+r.h) (k:Bool) {l:List PQ} (h:cycK (edK E (dP_ r E)) l):cycK (edK E (dP_ r E)) (cutY t k l):=
 aNI (G:=gdQ (dP_ r E)) (rK_ t k) (edK_Y hr hE ht k) (fun _ _ h=>⟨h.1,h.2.1⟩) (fun _ _ gu gv hu hv=>⟨gu,gv,.inr (.inr ⟨(tK_ hu).trans (tK_ hv).symm,t,tK_ hu⟩)⟩) h
end
theorem aNV {r:Rc} {l:List Pl} (hv:∀p∈l,vP p=true):cycK (edK (aM_ l) (dP_ r (aM_ l))) (l.map plQ):=by
 have gen:∀(D:Nat) (E:List (Pl×Pl)) (t:List Pl) (p z:Pl),(∀q∈p::(t++[z]),vP q=true)→(∀e∈edF (p::(t++[z])),e∈E)→mP_ (edK E D) (plQ p) (t.map plQ++[plQ z]):=by
  intro D E t
  have one:∀p q:Pl,vP p=true→vP q=true→(p,q)∈E→edK E D (plQ p) (plQ q):=fun p q hp hq he=>by
   have v1:=aT_.1 hp
   have v2:=aT_.1 hq
   refine⟨⟨iT_ v1.1 v1.2.1,iT_ v1.2.2.1 v1.2.2.2⟩,⟨iT_ v2.1 v2.2.1,iT_ v2.2.2.1 v2.2.2.2⟩,.inl ⟨(p,q),he,⟨0,by grind,by grind,?_,?_⟩,⟨1,by grind,by grind,?_,?_⟩⟩⟩
   all_goals
    unfold plQ
    simp only
    grind
  induction t with
  | nil=>intro p z hv he;exact⟨one p z (hv p (by simp)) (hv z (by simp)) (he _ (by simp[edF])),trivial⟩
  | cons q t ih=>
   intro p z hv he
   exact⟨one p q (hv p (by simp)) (hv q (by simp)) (he _ (by simp[edF])),ih q z (fun x hx=>hv x (List.mem_cons_of_mem _ hx)) fun e h=>he e (List.mem_cons_of_mem _ h)⟩
 cases l with
 | nil=>trivial
 | cons x t=>
  refine gen _ _ t x x (fun q hq=>hv q ?_) (fun e he=>by rw[tO_];exact he)
  simp only[List.mem_cons,List.mem_append,List.not_mem_nil,or_false] at hq⊢
  rcases hq with h|h|h
  ·exact .inl h
  ·exact .inr h
  ·exact .inl h
abbrev PO:=Option Rat×Option Rat
def smO (p:PQ):PO:=(some p.x,some p.y)
def atO (ax:Nat) (p:PO):Option Rat:=if ax=0 then p.1 else p.2
def oneO (ax:Nat) (t keep:Int) (p:PO):Int:=gX_ (atO ax p) (whO t)*keep
def prtO (ax:Nat) (t:Int) (p q:PO):Option Rat:=ovO (miO (whO t) (atO ax p)) (miO (atO ax q) (atO ax p))
def midO (ax:Nat) (t:Int) (p q:PO):PO:=(plO p.1 (tiO (prtO ax t p q) (miO q.1 p.1)),plO p.2 (tiO (prtO ax t p q) (miO q.2 p.2)))
def emO (ax:Nat) (t keep:Int) (p q:PO):List PO:=(if 0≤oneO ax t keep p then [p] else [])++(if oneO ax t keep p*oneO ax t keep q<0 then [midO ax t p q] else [])
def edC {α:Type} (l:List α):List (α×α):=l.zip (l.drop 1++l.take 1)
def cutO (ax:Nat) (t keep:Int) (l:List PO):List PO:=(edC l).flatMap fun e=>emO ax t keep e.1 e.2
def trmO (p q:PO):Option Rat:=miO (tiO p.1 q.2) (tiO p.2 q.1)
def lG_ (l:List PO):Option Rat:=(edC l).foldl (fun acc e=>plO acc (trmO e.1 e.2)) (whO 0)
def aQR (r:Rc) (l:List PO):List PO:=cutO 1 (r.y+r.h) (-1) (cutO 1 r.y 1 (cutO 0 (r.x+r.w) (-1) (cutO 0 r.x 1 l)))
def lK_ (l:List Pl) (r:Rc):Option Rat:=ovO (lG_ (aQR r (l.map fun p=>(whO p.x,whO p.y)))) (whO 2)
theorem nN_ {α:Type} (p:α) (t:List α):edC (p::t)=(p::t).zip (t++[p]):=rfl
theorem xX_ {α β:Type} (f:α→β) (l:List α):edC (l.map f)=(edC l).map fun e=>(f e.1,f e.2):=by
 unfold edC
 rw[←List.map_drop,←List.map_take,←List.map_append,List.zip_map]
 rfl
theorem aHB {α:Type} (g:α→Rat) (mid:α→α→α) (l:List α):cutC g mid l=(edC l).flatMap fun e=>emC g mid e.1 e.2:=by
 cases l with
 | nil=>rfl
 | cons p t=>
  rw[nN_]
  show outC g mid p (t++[p])=_
  have gen:∀(t:List α) (p z:α),outC g mid p (t++[z])=((p::t).zip (t++[z])).flatMap fun e=>emC g mid e.1 e.2:=by
   intro t
   induction t with
   | nil=>intro p z;rfl
   | cons q t ih=>
    intro p z
    show emC g mid p q++outC g mid q (t++[z])=emC g mid p q++_
    rw[ih]
    rfl
  exact gen t p p
theorem yA_ {α:Type} {K:α→α→Prop} {l:List α} (h:cycK K l):∀e∈edC l,K e.1 e.2:=by
 cases l with
 | nil=>intro e he;cases he
 | cons p t=>
  rw[nN_]
  have gen:∀(t:List α) (p z:α),mP_ K p (t++[z])→∀e∈(p::t).zip (t++[z]),K e.1 e.2:=by
   intro t
   induction t with
   | nil=>
    intro p z h e he
    have he:e∈[(p,z)]:=he
    obtain rfl:e=(p,z):=by simpa using he
    exact h.1
   | cons q t ih=>
    intro p z h e he
    have he:e∈(p,q)::(q::t).zip (t++[z]):=he
    rcases List.mem_cons.1 he with rfl|he
    ·exact h.1
    ·exact ih q z h.2 e he
  exact gen t p p h
theorem yD_ (a b:Rat) (k:Bool):(cmpR a b*(if k then 1 else -1)=1∧0<(if k then a-b else b-a))∨(cmpR a b*(if k then 1 else -1)=0∧(if k then a-b else b-a)=0)∨(cmpR a b*(if k then 1 else -1) = -1∧(if k then a-b else b-a)<0):=by
 rcases jA_ a b with ⟨h,e⟩|⟨h,e⟩|⟨h,e⟩ <;> rw[e] <;> cases k
 ·exact .inl ⟨rfl,by rw[if_neg (by decide)];grind⟩
 ·exact .inr (.inr ⟨rfl,by rw[if_pos rfl];grind⟩)
 ·exact .inr (.inl ⟨rfl,by rw[if_neg (by decide)];grind⟩)
 ·exact .inr (.inl ⟨rfl,by rw[if_pos rfl];grind⟩)
 ·exact .inr (.inr ⟨rfl,by rw[if_neg (by decide)];grind⟩)
 ·exact .inl ⟨rfl,by rw[if_pos rfl];grind⟩
theorem lC_ (a b:Rat) (k:Bool):((0:Int)≤cmpR a b*(if k then 1 else -1)↔0≤(if k then a-b else b-a)):=by
 have h:=yD_ a b k
 generalize cmpR a b*(if k then 1 else -1)=s at *
 generalize (if k then a-b else b-a)=x at *
 rcases h with ⟨rfl,h⟩|⟨rfl,h⟩|⟨rfl,h⟩
 ·exact iff_of_true (by decide) (by grind)
 ·exact iff_of_true (by decide) (by grind)
 ·exact iff_of_false (by decide) (by grind)
theorem tW_ (a b c:Rat) (k:Bool):(cmpR a b*(if k then 1 else -1)*(cmpR c b*(if k then 1 else -1))<0↔(if k then a-b else b-a)*(if k then c-b else b-c)<0):=by
 have h:=yD_ a b k
 have h':=yD_ c b k
 generalize cmpR a b*(if k then 1 else -1)=s at *
 generalize cmpR c b*(if k then 1 else -1)=s' at *
 generalize (if k then a-b else b-a)=x at *
 generalize (if k then c-b else b-c)=y at *
 rcases h with ⟨rfl,h⟩|⟨rfl,h⟩|⟨rfl,h⟩ <;> rcases h' with ⟨rfl,h'⟩|⟨rfl,h'⟩|⟨rfl,h'⟩
 ·have:=Rat.mul_pos h h'
  exact iff_of_false (by decide) (by grind)
 ·rw[h'];exact iff_of_false (by decide) (by grind)
 ·have:=Rat.mul_pos h (show 0 < -y by grind)
  exact iff_of_true (by decide) (by grind)
 ·rw[h];exact iff_of_false (by decide) (by grind)
 ·rw[h];exact iff_of_false (by decide) (by grind)
 ·rw[h];exact iff_of_false (by decide) (by grind)
 ·have:=Rat.mul_pos (show 0 < -x by grind) h'
  exact iff_of_true (by decide) (by grind)
 ·rw[h'];exact iff_of_false (by decide) (by grind)
 ·have:=Rat.mul_pos (show 0 < -x by grind) (show 0 < -y by grind)
  exact iff_of_false (by decide) (by grind)
theorem lO_ {α β:Type} {f g:α→List β} : ∀{l:List α},(∀e∈l,f e=g e)→l.flatMap f=l.flatMap g
 | [],_=>rfl
 | e::l,h=>by
  rw[List.flatMap_cons,List.flatMap_cons,h e (by simp),lO_ fun x hx=>h x (by simp[hx])]
theorem aAC {D:Nat} {a b u v:Rat} {t:Int} (t0:0≤t) (t1:t≤4095) (na:jX_ D a) (nb:jX_ D b) (nu:jX_ D u) (nv:jX_ D v) (hab:b-a≠0) :
  plO (some u) (tiO (ovO (miO (whO t) (some a)) (miO (some b) (some a))) (miO (some v) (some u)))=some (u+((t:Rat)-a)/(b-a)*(v-u)):=by
 have s1:=mC_ (a:=(t:Rat)) (b:=a) (gF_ (A:=4095) (by omega)) (fT_ na) (by decide) (by decide)
 have s2:=mC_ (fT_ nb) (fT_ na) (by decide) (by decide)
 have s3:=vX_ s1.2 s2.2 hab (by decide) (by decide)
 have s4:=mC_ (fT_ nv) (fT_ nu) (by decide) (by decide)
 have s5:=vK_ s3.2 s4.2 (by decide) (by decide)
 have s6:=qA_ (fT_ nu) s5.2 (by decide) (by decide)
 rw[bJ_]
 simp only[plO,tiO,ovO,miO,cH_,s1.1,s2.1,s3.1,s4.1,s5.1,s6.1]
theorem emO_X {D:Nat} {t:Int} (k:Bool) (t0:0≤t) (t1:t≤4095) {p q:PQ} (gp:gdQ D p) (gq:gdQ D q):emO 0 t (if k then 1 else -1) (smO p) (smO q)=(emC (gX t k) (midQ (gX t k)) p q).map smO:=by
 have o:∀p:PQ,oneO 0 t (if k then 1 else -1) (smO p)=cmpR p.x t*(if k then 1 else -1):=fun p=>by
  unfold oneO atO
  rw[if_pos rfl,bJ_]
  rfl
 unfold emO emC
 rw[o,o,List.map_append]
 congr 1
 ·by_cases h:0≤gX t k p
  ·rw[if_pos ((lC_ p.x t k).2 h),if_pos h];rfl
  ·rw[if_neg (fun h'=>h ((lC_ p.x t k).1 h')),if_neg h];rfl
 ·by_cases h:gX t k p*gX t k q<0
  ·rw[if_pos ((tW_ p.x t q.x k).2 h),if_pos h]
   have hne:q.x-p.x≠0:=by
    have:=eJ_ h
    unfold gX at this
    cases k
    ·simp only[Bool.false_eq_true,if_false] at this;grind
    ·simp only[if_true] at this;grind
   have m1:=aAC t0 t1 gp.1 gq.1 gp.1 gq.1 hne
   have m2:=aAC t0 t1 gp.1 gq.1 gp.2 gq.2 hne
   have es:gX t k p/(gX t k p-gX t k q)=((t:Rat)-p.x)/(q.x-p.x):=by
    unfold gX
    cases k
    ·simp only[Bool.false_eq_true,if_false];grind
    ·simp only[if_true];grind
   have e1:(midO 0 t (smO p) (smO q)).1=some (p.x+((t:Rat)-p.x)/(q.x-p.x)*(q.x-p.x)):=m1
   have e2:(midO 0 t (smO p) (smO q)).2=some (p.y+((t:Rat)-p.x)/(q.x-p.x)*(q.y-p.y)):=m2
   show[midO 0 t (smO p) (smO q)]=[smO (midQ (gX t k) p q)]
   unfold midQ smO
   rw[es,←e1,←e2]
   rfl
  ·rw[if_neg (fun h'=>h ((tW_ p.x t q.x k).1 h')),if_neg h];rfl
theorem emO_Y {D:Nat} {t:Int} (k:Bool) (t0:0≤t) (t1:t≤4095) {p q:PQ} (gp:gdQ D p) (gq:gdQ D q):emO 1 t (if k then 1 else -1) (smO p) (smO q)=(emC (gY t k) (midQ (gY t k)) p q).map smO:=by
 have o:∀p:PQ,oneO 1 t (if k then 1 else -1) (smO p)=cmpR p.y t*(if k then 1 else -1):=fun p=>by
  unfold oneO atO
  rw[if_neg (by decide),bJ_]
  rfl
 unfold emO emC
 rw[o,o,List.map_append]
 congr 1
 ·by_cases h:0≤gY t k p
  ·rw[if_pos ((lC_ p.y t k).2 h),if_pos h];rfl
  ·rw[if_neg (fun h'=>h ((lC_ p.y t k).1 h')),if_neg h];rfl
 ·by_cases h:gY t k p*gY t k q<0
  ·rw[if_pos ((tW_ p.y t q.y k).2 h),if_pos h]
   have hne:q.y-p.y≠0:=by
    have:=eJ_ h
    unfold gY at this
    cases k
    ·simp only[Bool.false_eq_true,if_false] at this;grind
    ·simp only[if_true] at this;grind
   have m1:=aAC t0 t1 gp.2 gq.2 gp.1 gq.1 hne
   have m2:=aAC t0 t1 gp.2 gq.2 gp.2 gq.2 hne
   have es:gY t k p/(gY t k p-gY t k q)=((t:Rat)-p.y)/(q.y-p.y):=by
    unfold gY
    cases k
    ·simp only[Bool.false_eq_true,if_false];grind
    ·simp only[if_true];grind
   have e1:(midO 1 t (smO p) (smO q)).1=some (p.x+((t:Rat)-p.y)/(q.y-p.y)*(q.x-p.x)):=m1
   have e2:(midO 1 t (smO p) (smO q)).2=some (p.y+((t:Rat)-p.y)/(q.y-p.y)*(q.y-p.y)):=m2
   show[midO 1 t (smO p) (smO q)]=[smO (midQ (gY t k) p q)]
   unfold midQ smO
   rw[es,←e1,←e2]
   rfl
  ·rw[if_neg (fun h'=>h ((tW_ p.y t q.y k).1 h')),if_neg h];rfl
theorem aNH {E:List (Pl×Pl)} {D:Nat} {t:Int} (k:Bool) (t0:0≤t) (t1:t≤4095) {l:List PQ} (h:cycK (edK E D) l):cutO 0 t (if k then 1 else -1) (l.map smO)=(cutX t k l).map smO:=by
 have he:=yA_ h
 unfold cutO cutX
 rw[xX_,aHB,List.map_flatMap,List.flatMap_map]
 refine lO_ fun e hm=>?_
 exact emO_X k t0 t1 (he e hm).1 (he e hm).2.1
theorem aNG {E:List (Pl×Pl)} {D:Nat} {t:Int} (k:Bool) (t0:0≤t) (t1:t≤4095) {l:List PQ} (h:cycK (edK E D) l):cutO 1 t (if k then 1 else -1) (l.map smO)=(cutY t k l).map smO:=by
 have he:=yA_ h
 unfold cutO cutY
 rw[xX_,aHB,List.map_flatMap,List.flatMap_map]
 refine lO_ fun e hm=>?_
 exact emO_Y k t0 t1 (he e hm).1 (he e hm).2.1
theorem trm_ok {D:Nat} {p q:PQ} (gp:gdQ D p) (gq:gdQ D q):trmO (smO p) (smO q)=some (p.x*q.y-p.y*q.x)∧bdR (10^24) (10^16) (p.x*q.y-p.y*q.x)∧dI (D*D) (p.x*q.y-p.y*q.x)∧-(((4095*4095:Nat)):Rat)≤p.x*q.y-p.y*q.x∧p.x*q.y-p.y*q.x≤(((4095*4095:Nat)):Rat):=by
 have m1:=vK_ (fT_ gp.1) (fT_ gq.2) (by decide) (by decide)
 have m2:=vK_ (fT_ gp.2) (fT_ gq.1) (by decide) (by decide)
 have s1:=mC_ m1.2 m2.2 (by decide) (by decide)
 have up:∀x y:Rat,0≤x→x≤4095→0≤y→y≤4095→0≤x*y∧x*y≤4095*4095:=fun x y h1 h2 h3 h4=>by
  have k1:=Rat.mul_nonneg h1 h3
  have k2:=Rat.mul_nonneg (show 0≤4095-x by grind) h3
  refine⟨k1,?_⟩
  grind
 have u1:=up _ _ gp.1.1 gp.1.2.1 gq.2.1 gq.2.2.1
 have u2:=up _ _ gp.2.1 gp.2.2.1 gq.1.1 gq.1.2.1
 have m:((4095*4095:Nat):Rat)=4095*4095:=by decide +kernel
 rw[m]
 refine⟨?_,s1.2.mono (by decide) (by decide),(gp.1.2.2.2.mul gq.2.2.2.2).sub (gp.2.2.2.2.mul gq.1.2.2.2),by grind,by grind⟩
 unfold trmO smO
 simp only[miO,tiO,cH_,m1.1,m2.1,s1.1]
theorem wR_ {D N M A B:Nat} (hD:0<D) (hDN:D≤N) (hM:M=4095*4095) (hA:A=10^24) (hB:B=10^16) (hN:640*M*(N*N)*B+A*(N*N)<10^200) (hN2:N*N*B<10^200):∀(l:List (PQ×PQ)) (acc:Rat) (k:Nat),
  (∀e∈l,gdQ D e.1∧gdQ D e.2)→k+l.length≤640→dI (D*D) acc→-((k*M:Nat):Rat)≤acc→acc≤((k*M:Nat):Rat)→
  ∃s:Rat,(l.map fun e=>(smO e.1,smO e.2)).foldl (fun acc e=>plO acc (trmO e.1 e.2)) (some acc)=some s∧s=acc+(l.map fun e=>e.1.x*e.2.y-e.1.y*e.2.x).foldr (· + ·) 0∧dI (D*D) s∧-((640*M:Nat):Rat)≤s∧s≤((640*M:Nat):Rat)
 | [],acc,k,_,hk,ha,b1,b2=>by
  have hk:k≤640:=by simpa using hk
  have m:((k*M:Nat):Rat)≤((640*M:Nat):Rat):=by
   have:((k*M:Nat):Int)≤((640*M:Nat):Int):=Int.ofNat_le.2 (Nat.mul_le_mul_right M hk)
   exact bB_ this
  refine⟨acc,rfl,?_,ha,by grind,by grind⟩
  show acc=acc+0
  grind
 | e::l,acc,k,hl,hk,ha,b1,b2=>by
  obtain⟨gp,gq⟩:=hl e (by simp)
  have hk1:k≤640:=by omega
  obtain⟨ht,tb,td,t1,t2⟩:=trm_ok gp gq
  rw[←hA,←hB] at tb
  rw[←hM] at t1 t2
  have hDD:D*D≤N*N:=Nat.mul_le_mul hDN hDN
  have ab:=(ha.bd (Nat.mul_pos hD hD) b1 b2).mono (A':=640*M*(N*N)) (P':=N*N) (Nat.mul_le_mul (Nat.mul_le_mul_right _ hk1) hDD) hDD
  have ad:=qA_ ab tb hN hN2
  have mm:(((k+1)*M:Nat):Rat)=((k*M:Nat):Rat)+(M:Rat):=by rw[Nat.add_mul,Nat.one_mul,Rat.natCast_add]
  obtain⟨s,h1,h2,h3,h4⟩:=wR_ hD hDN hM hA hB hN hN2 l (acc+(e.1.x*e.2.y-e.1.y*e.2.x)) (k+1) (fun x hx=>hl x (List.mem_cons_of_mem _ hx)) (by simp only[List.length_cons] at hk;omega) (ha.add td) (by rw[mm];grind) (by rw[mm];grind)
  refine⟨s,?_,?_,h3,h4⟩
  ·rw[List.map_cons,List.foldl_cons]
   show List.foldl _ (plO (some acc) (trmO (smO e.1) (smO e.2))) _=_
   rw[ht]
   show List.foldl _ (addR acc (e.1.x*e.2.y-e.1.y*e.2.x)) _=_
   rw[ad.1]
   exact h1
  ·rw[h2,List.map_cons,List.foldr_cons]
   grind
theorem aQP {α:Type} (f:α→α→Rat) (l:List α):cycS f l=((edC l).map fun e=>f e.1 e.2).foldr (· + ·) 0:=by
 cases l with
 | nil=>rfl
 | cons p t=>
  rw[nN_]
  show cA_ f p (t++[p])=_
  have gen:∀(t:List α) (p z:α),cA_ f p (t++[z])=(((p::t).zip (t++[z])).map fun e=>f e.1 e.2).foldr (· + ·) 0:=by
   intro t
   induction t with
   | nil=>intro p z;rfl
   | cons q t ih=>
    intro p z
    show f p q+cA_ f q (t++[z])=f p q+_
    rw[ih]
    rfl
  exact gen t p p
theorem xY_ {α:Type} (l:List α):(edC l).length=l.length:=by
 cases l with
 | nil=>rfl
 | cons p t=>rw[nN_,List.length_zip];simp
theorem aKZ {l:List Pl} {r:Rc} (hv:∀p∈l,vP p=true) (hr:vRc r=true) (hm:∀e∈aM_ l,e.1∈l∧e.2∈l) :
  aQR r (l.map fun p=>(whO p.x,whO p.y))=(cut4 r (l.map plQ)).map smO∧cycK (edK (aM_ l) (dP_ r (aM_ l))) (cut4 r (l.map plQ)):=by
 have vr:=bO_.1 hr
 have hE:∀e∈aM_ l,vP e.1=true∧vP e.2=true:=fun e he=>⟨hv _ (hm e he).1,hv _ (hm e he).2⟩
 have k0:=aNV (r:=r) hv
 have k1:=aNF hr hE (.inl rfl) true k0
 have k2:=aNF hr hE (.inr rfl) false k1
 have k3:=aNE hr hE (.inl rfl) true k2
 have k4:=aNE hr hE (.inr rfl) false k3
 have e0:(l.map fun p=>(whO p.x,whO p.y))=(l.map plQ).map smO:=by
  rw[List.map_map]
  refine List.map_congr_left fun p _=>?_
  rw[bJ_,bJ_]
  rfl
 have e1:=aNH (t:=r.x) true (by omega) (by omega) k0
 have e2:=aNH (t:=r.x+r.w) false (by omega) (by omega) k1
 have e3:=aNG (t:=r.y) true (by omega) (by omega) k2
 have e4:=aNG (t:=r.y+r.h) false (by omega) (by omega) k3
 rw[if_pos rfl] at e1 e3
 rw[if_neg (by decide)] at e2 e4
 refine⟨?_,k4⟩
 unfold aQR
 rw[e0,e1,e2,e3,e4]
 rfl
theorem xE_ {l:List Pl} {r:Rc} (hv:∀p∈l,vP p=true) (hh:aS_ l=l) (hr:vRc r=true) (hn:l.length≤40) (hm:∀e∈aM_ l,e.1∈l∧e.2∈l) (h1:∀(i:Nat) (e:Pl×Pl),(aM_ l)[i]?=some e→l[i]?=some e.1) :
  lK_ l r=some (rR_ l r):=by
 have vr:=bO_.1 hr
 have hc:=wC_ hv (by rw[hh];exact hm) (by rw[hh];exact h1) r
 rw[hh] at hc
 have hp:=sV_ (r:=r) (l:=aM_ l) fun e he=>⟨hv _ (hm e he).1,hv _ (hm e he).2⟩
 have hq:=Nat.le_trans hp (Nat.pow_le_pow_right (show 0<2*4095*4095 by decide) hc)
 obtain⟨e4,k4⟩:=aKZ hv hr hm
 have hlen:(cut4 r (l.map plQ)).length≤640:=by
  have a1:=nS_ (gX r.x true) (midQ (gX r.x true)) (l.map plQ)
  have a2:=nS_ (gX (r.x+r.w) false) (midQ (gX (r.x+r.w) false)) (cutX r.x true (l.map plQ))
  have a3:=nS_ (gY r.y true) (midQ (gY r.y true)) (cutX (r.x+r.w) false (cutX r.x true (l.map plQ)))
  have a4:=nS_ (gY (r.y+r.h) false) (midQ (gY (r.y+r.h) false)) (cutY r.y true (cutX (r.x+r.w) false (cutX r.x true (l.map plQ))))
  rw[List.length_map] at a1
  have b1:(cutX r.x true (l.map plQ)).length≤2*l.length:=a1
  have b2:(cutX (r.x+r.w) false (cutX r.x true (l.map plQ))).length≤2*(cutX r.x true (l.map plQ)).length:=a2
  have b3:(cutY r.y true (cutX (r.x+r.w) false (cutX r.x true (l.map plQ)))).length≤2*(cutX (r.x+r.w) false (cutX r.x true (l.map plQ))).length:=a3
  have b4:(cut4 r (l.map plQ)).length≤2*(cutY r.y true (cutX (r.x+r.w) false (cutX r.x true (l.map plQ)))).length:=a4
  omega
 have harea:=aHC (r:=r) (by omega) (by omega) l
 have he:=yA_ k4
 generalize cut4 r (l.map plQ)=P at *
 obtain⟨s,f1,f2,f3,f4,f5⟩:=wR_ (D:=dP_ r (aM_ l)) (N:=(2*4095*4095)^8) (hP_ r _) hq rfl rfl rfl (by decide) (by decide) (edC P) 0 0 (fun e hm=>⟨(he e hm).1,(he e hm).2.1⟩) (by rw[xY_];omega) (dI.int _ 0) (by simp) (by simp)
 have es:s=aLZ P:=by
  unfold aLZ
  rw[f2,aQP]
  grind
 have hA:lG_ (P.map smO)=some s:=by
  unfold lG_
  rw[xX_,bJ_]
  exact f1
 unfold lK_
 rw[e4,hA,bJ_]
 have hDD:=Nat.mul_le_mul hq hq
 have sb:=(f3.bd (Nat.mul_pos (hP_ r _) (hP_ r _)) f4 f5).mono (A':=640*(4095*4095)*((2*4095*4095)^8*(2*4095*4095)^8)) (P':=(2*4095*4095)^8*(2*4095*4095)^8) (Nat.mul_le_mul_left _ hDD) hDD
 have two:((2:Int):Rat)≠0:=by decide
 have dv:=vX_ sb (gF_ (n:=2) (A:=2) (by decide)) two (by decide) (by decide)
 show divR s ((2:Int):Rat)=_
 rw[dv.1,←harea,es]
 rfl
end Go.Proofs.YtjfdefglpoancaaGreatDoor
