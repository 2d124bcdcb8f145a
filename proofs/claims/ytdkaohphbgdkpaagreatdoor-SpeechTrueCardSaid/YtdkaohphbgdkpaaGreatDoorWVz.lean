/-
  What is told is heard; what is heard has been told: plain facts (of the text Sb).
-/
import Derived.Test.YtdkaohphbgdkpaaGreatDoorZSb
set_option linter.unusedSimpArgs false
set_option linter.unusedVariables false
namespace Go.Proofs.YtdkaohphbgdkpaaGreatDoor
theorem splitC_ne (c:UInt8) (l:Bs):bB_ c l≠[]:=by
 cases l with
 | nil=>simp[bB_]
 | cons x l=>
  unfold bB_
  split
  ·simp
  ·split <;> simp
theorem join_split (c:UInt8):∀l:Bs,dB_ c (bB_ c l)=l
 | []=>rfl
 | x::l=>by
  have ih:=join_split c l
  have hn:=splitC_ne c l
  unfold bB_
  by_cases hx:x=c
  ·rw[if_pos hx]
   cases e:bB_ c l with
   | nil=>exact absurd e hn
   | cons w ws=>rw[e] at ih;show[]++c::dB_ c (w::ws)=_;rw[ih,hx];rfl
  ·rw[if_neg hx]
   cases e:bB_ c l with
   | nil=>exact absurd e hn
   | cons w ws=>
    rw[e] at ih
    cases ws with
    | nil=>show x::w=_;rw[show w=l from ih]
    | cons v ws=>show(x::w)++c::dB_ c (v::ws)=_;rw[←ih];rfl
theorem takR_iff {k:Int} {r r':List Bs} {w:Bs} (hf:bS_ k w=true):takR k r=(w,r')↔(r=(if w=[] then [] else [bZ_,w])++r')∧(w=[]→∀a b t,k=4→r'≠a::b::t∨a≠bZ_):=by
 have h4:(w=[]↔k≠4):=by
  unfold bS_ at hf
  by_cases hk:k=4
  ·rw[if_pos hk] at hf
   constructor
   ·intro e;rw[e] at hf;cases hf
   ·intro e;exact absurd hk e
  ·rw[if_neg hk] at hf
   simp only[Bool.and_eq_true,decide_eq_true_eq] at hf
   exact⟨fun _=>hk,fun _=>hf.2⟩
 constructor
 ·intro h
  unfold takR at h
  split at h
  next a b r0=>
   split at h
   next hc=>
    obtain⟨rfl,rfl⟩:=hc
    cases h
    have hw:w≠[]:=fun e=>(h4.1 e) rfl
    rw[if_neg hw]
    exact⟨rfl,fun e=>absurd e hw⟩
   next hc=>
    cases h
    rw[if_pos rfl]
    exact⟨rfl,fun _ a' b' t hk=>absurd hk (h4.1 rfl)⟩
  next=>
   cases h
   rw[if_pos rfl]
   exact⟨rfl,fun _ a' b' t hk=>absurd hk (h4.1 rfl)⟩
 ·rintro⟨rfl,hn⟩
  by_cases hw:w=[]
  ·have hk:=h4.1 hw
   subst hw
   rw[if_pos rfl,List.nil_append]
   unfold takR
   split
   ·rw[if_neg (fun h=>hk h.1)]
   ·rfl
  ·rw[if_neg hw]
   have hk:k=4:=Decidable.byContradiction fun h=>hw (h4.2 h)
   show(if k=4∧bZ_=bZ_ then (w,r') else _)=_
   rw[if_pos ⟨hk,rfl⟩]
theorem takM_iff {r:List Bs} {m:Option Int} : takM r=(m,[])↔numO m∧r=aDH m:=by
 constructor
 ·intro h
  unfold takM at h
  split at h
  next a b c r0=>
   split at h
   next hc=>
    obtain⟨rfl,rfl⟩:=hc
    split at h
    next n hn=>
     cases h
     obtain⟨h1,h2,rfl⟩:=numK_some hn
     exact⟨fun _ e=>by cases e;exact⟨h1,h2⟩,rfl⟩
    next=>cases h
   next=>cases h
  next=>cases h;exact⟨fun _ e=>(by cases e),rfl⟩
 ·rintro⟨hm,rfl⟩
  cases m with
  | none=>rfl
  | some n=>
   unfold takM aDH
   simp only[and_self,if_true]
   rw[gO_ (hm n rfl).1 (hm n rfl).2]
theorem takI_iff {r:List Bs} {i m:Option Int} : (∃r',takI r=(i,r')∧takM r'=(m,[]))↔numO i∧numO m∧r=iT_ i++aDH m:=by
 constructor
 ·rintro⟨r',h,h2⟩
  obtain⟨hm,rfl⟩:=takM_iff.1 h2
  unfold takI at h
  split at h
  next a b r0=>
   split at h
   next hc=>
    subst hc
    split at h
    next n hn=>
     cases h
     obtain⟨h1,h2,rfl⟩:=numK_some hn
     exact⟨fun _ e=>by cases e;exact⟨h1,h2⟩,hm,rfl⟩
    next=>
     obtain⟨rfl,h7⟩:=Prod.mk.inj h
     exact⟨fun _ e=>(by cases e),hm,h7⟩
   next=>
    obtain⟨rfl,h7⟩:=Prod.mk.inj h
    exact⟨fun _ e=>(by cases e),hm,h7⟩
  next=>
   obtain⟨rfl,h7⟩:=Prod.mk.inj h
   exact⟨fun _ e=>(by cases e),hm,h7⟩
 ·rintro⟨hi,hm,rfl⟩
  cases i with
  | none=>
   refine⟨aDH m,?_,takM_iff.2 ⟨hm,rfl⟩⟩
   cases m with
   | none=>rfl
   | some n=>
    unfold takI iT_ aDH
    simp only[List.nil_append]
    rw[if_neg (by decide)]
  | some n=>
   refine⟨aDH m,?_,takM_iff.2 ⟨hm,rfl⟩⟩
   unfold takI iT_
   simp only[List.cons_append,List.nil_append,if_true]
   rw[gO_ (hi n rfl).1 (hi n rfl).2]
theorem parS_iff {w:List Bs} {t:It} (hf:bS_ t.kind t.word=true):parS w=some t↔(0≤t.code∧t.code≤39999)∧numO t.i∧numO t.m∧w=fQ_ t:=by
 obtain⟨kd,cd,wd,ti,tm⟩:=t
 have hk:1≤kd∧kd≤5:=by
  unfold bS_ at hf
  by_cases h:kd=4
  ·omega
  ·rw[if_neg h] at hf
   simp only[Bool.and_eq_true,decide_eq_true_eq] at hf
   exact hf.1
 have hrest:∀(r:List Bs),(∃r1 r2,takR kd r=(wd,r1)∧takI r1=(ti,r2)∧takM r2=(tm,[]))↔numO ti∧numO tm∧r=(if wd=[] then [] else [bZ_,wd])++(iT_ ti++aDH tm):=by
  intro r
  constructor
  ·rintro⟨r1,r2,h1,h2,h3⟩
   obtain⟨e1,_⟩:=(takR_iff hf).1 h1
   obtain⟨hi,hm,e2⟩:=takI_iff.1 ⟨r2,h2,h3⟩
   exact⟨hi,hm,by rw[e1,e2]⟩
  ·rintro⟨hi,hm,rfl⟩
   obtain⟨r2,h2,h3⟩:=takI_iff.2 ⟨hi,hm,rfl⟩
   refine⟨_,r2,(takR_iff hf).2 ⟨rfl,fun hw a b t hk4=>?_⟩,h2,h3⟩
   right
   intro e
   unfold bS_ at hf
   rw[if_pos hk4,hw] at hf
   cases hf
 constructor
 ·intro h
  unfold parS at h
  split at h
  next a c r=>
   split at h
   next=>cases h
   next n hn=>
    split at h
    next he=>
     simp only[Option.some.injEq,It.mk.injEq] at h
     obtain⟨e1,rfl,e3,e4,e5⟩:=h
     obtain⟨h1,h2,rfl⟩:=numK_some hn
     rw[e1] at e3 e4 e5 he
     have:=(hrest r).1 ⟨(takR kd r).2,(takI (takR kd r).2).2,by rw[←e3],by rw[←e4],by rw[←e5,←he]⟩
     obtain⟨hi,hm,hr⟩:=this
     refine⟨⟨h1,h2⟩,hi,hm,?_⟩
     have hka:a=aL_ kd:=by rw[←e1];exact(sJ_ (by omega)).symm
     rw[hka,hr]
     unfold fQ_
     simp only[iT_,aDH,List.append_assoc,List.cons_append,List.nil_append]
    next=>cases h
  next=>cases h
 ·rintro⟨⟨h1,h2⟩,hi,hm,rfl⟩
  obtain⟨r1,r2,a1,a2,a3⟩:=(hrest _).2 ⟨hi,hm,rfl⟩
  have e:fQ_ ⟨kd,cd,wd,ti,tm⟩=aL_ kd::txt cd::((if wd=[] then [] else [bZ_,wd])++(iT_ ti++aDH tm)):=by
   unfold fQ_
   simp only[iT_,aDH,List.append_assoc,List.cons_append,List.nil_append]
  rw[e]
  unfold parS
  simp only[gO_ h1 h2,kN_ hk,a1,a2,a3,if_true]
theorem parL_words (t:It) (hf:bS_ t.kind t.word=true):parL (fQ_ t)=none:=by
 cases e:parL (fQ_ t) with
 | none=>rfl
 | some l=>
  obtain⟨_,_,_,h⟩:=zP_.1 e
  have h2:(fQ_ t)[2]?=some aH_:=by rw[h];rfl
  obtain⟨kd,cd,wd,ti,tm⟩:=t
  have e2:fQ_ ⟨kd,cd,wd,ti,tm⟩=aL_ kd::txt cd::((if wd=[] then [] else [bZ_,wd])++(iT_ ti++aDH tm)):=by
   unfold fQ_
   simp only[iT_,aDH,List.append_assoc,List.cons_append,List.nil_append]
  rw[e2] at h2
  by_cases hw:wd=[]
  ·rw[if_pos hw] at h2
   cases ti with
   | none=>cases tm with
    | none=>cases h2
    | some n=>exact absurd (Option.some.inj h2) (by decide)
   | some n=>exact absurd (Option.some.inj h2) (by decide)
  ·rw[if_neg hw] at h2
   exact absurd (Option.some.inj h2) (by decide)
theorem hearK_iff {x y:St} {w:List Bs} (hc:∀u∈x.its,1≤u.code∧u.code≤39999):cJ_ x w=some y↔
  (∃l,w=gG_ l∧okL x.ls l=true∧x.ls.length<40∧y=⟨x.its,x.ls++[l]⟩)∨(∃t,w=fQ_ t∧x.ls=[]∧x.its.length<60∧okS x.its t=true∧y=⟨x.its++[t],x.ls⟩):=by
 constructor
 ·intro h
  unfold cJ_ at h
  split at h
  next l hl=>
   split at h
   next ho=>cases h;exact .inl ⟨l,(zP_.1 hl).2.2.2,ho.1,ho.2,rfl⟩
   next=>cases h
  next=>
   split at h
   next t ht=>
    split at h
    next ho=>
     cases h
     exact .inr ⟨t,((parS_iff (aDQ ho.2.2 hc).2.1).1 ht).2.2.2,ho.1,ho.2.1,ho.2.2,rfl⟩
    next=>cases h
   next=>cases h
 ·rintro(⟨l,rfl,h1,h2,rfl⟩|⟨t,rfl,h1,h2,h3,rfl⟩)
  ·have hb:(1≤l.1∧l.1≤39999)∧(1≤l.2.1∧l.2.1≤39999)∧(1≤l.2.2∧l.2.2≤39999):=by
    have h:=h1
    simp only[okL,aN_,Bool.and_eq_true,decide_eq_true_eq] at h
    exact⟨h.1.1.1,h.1.1.2,h.1.2⟩
   unfold cJ_
   rw[zP_.2 ⟨by omega,by omega,by omega,rfl⟩]
   simp only[h1,h2,and_self,if_true]
  ·obtain⟨a1,a2,a3,a4⟩:=aDQ h3 hc
   unfold cJ_
   rw[parL_words t a2,(parS_iff a2).2 ⟨a1,a3,a4,rfl⟩]
   simp only[h1,h2,h3,and_self,if_true]
theorem foldK_app {ws vs:List (List Bs)} : ∀{x y:St},aEE x ws=some y→aEE x (ws++vs)=aEE y vs:=by
 induction ws with
 | nil=>intro x y h;cases h;rfl
 | cons w ws ih=>
  intro x y h
  unfold aEE at h
  show(match cJ_ x w with|none=>none|some y=>aEE y (ws++vs))=_
  cases e:cJ_ x w with
  | none=>rw[e] at h;cases h
  | some z=>rw[e] at h;exact ih h
theorem nextT_sent {many:Nat} {w:List Bs} (vs:List (List Bs)) (h46:46 ∉ gT_ w):fP_ many (jU_ many (w::vs))=some (gT_ w,nA_ vs):=by
 unfold fP_ jU_
 by_cases hm:many=0
 ·rw[if_pos hm]
  show(match mI_ (eP_ w++nA_ vs) with|none=>none|some (s,b)=>_)=_
  unfold eP_
  rw[List.append_assoc,List.singleton_append,mH_ h46]
  simp only
  rw[if_pos hm]
 ·rw[if_neg hm]
  show(match mI_ ((32::eP_ w)++nA_ vs) with|none=>none|some (s,b)=>_)=_
  unfold eP_
  rw[show(32::(gT_ w++[46]))++nA_ vs=(32::gT_ w)++46::nA_ vs by simp,mH_ (by
   intro h
   rcases List.mem_cons.1 h with h|h
   ·exact absurd h (by decide)
   ·exact h46 h)]
  simp only
  rw[if_neg hm]
theorem hearX_told {rest:Bs} : ∀(ws:List (List Bs)) {x y:St} {many:Nat},(∀w∈ws,w≠[]∧(∀b∈w,32 ∉ b)∧46 ∉ gT_ w)→aEE x ws=some y→(eA_ x many (jU_ many ws)=.ok y)
 | [],x,y,many,_,h=>by
  cases h
  unfold jU_
  split <;> rfl
 | w::ws,x,y,many,hw,h=>by
  obtain⟨h1,h2,h3⟩:=hw w List.mem_cons_self
  unfold aEE at h
  cases e:cJ_ x w with
  | none=>rw[e] at h;cases h
  | some z=>
   rw[e] at h
   rw[kQ_ (nextT_sent ws h3) (by rw[show bB_ 32 (gT_ w)=w from kD_ h1 h2];exact e),yY_ many ws]
   exact hearX_told (rest:=rest) ws (fun v hv=>hw v (List.mem_cons_of_mem _ hv)) h
theorem nextT_is {many:Nat} {rest s b:Bs} (h:fP_ many rest=some (s,b)):rest=(if many=0 then [] else [32])++s++46::b∧46 ∉ s:=by
 unfold fP_ at h
 split at h
 next=>cases h
 next s' b' hc=>
  obtain⟨e,hn⟩:=kW_ hc
  split at h
  next hm=>cases h;rw[if_pos hm];exact⟨e,hn⟩
  next hm=>
   split at h
   next s''=>
    cases h
    rw[if_neg hm]
    exact⟨by rw[e];rfl,fun hh=>hn (List.mem_cons_of_mem _ hh)⟩
   next=>cases h
theorem hearX_heard:∀(f:Nat) {x y:St} {many:Nat} {rest:Bs},rest.length≤f→eA_ x many rest=.ok y→∃ws,aEE x ws=some y∧rest=jU_ many ws
 | 0,x,y,many,rest,hf,h=>by
  obtain rfl:rest=[]:=List.eq_nil_of_length_eq_zero (by omega)
  cases h
  exact⟨[],rfl,by unfold jU_;split <;> rfl⟩
 | f+1,x,y,many,rest,hf,h=>by
  by_cases he:rest=[]
  ·subst he
   cases h
   exact⟨[],rfl,by unfold jU_;split <;> rfl⟩
  cases e:fP_ many rest with
  | none=>rw[hE_ he e] at h;cases h
  | some p=>
   obtain⟨s,b⟩:=p
   cases ek:cJ_ x (bB_ 32 s) with
   | none=>rw[eJ_ e ek] at h;cases h
   | some z=>
    rw[kQ_ e ek] at h
    obtain⟨ws,h1,h2⟩:=hearX_heard f (by have:=jC_ e;omega) h
    refine⟨bB_ 32 s::ws,?_,?_⟩
    ·unfold aEE;rw[ek];exact h1
    ·rw[sS_,show gT_ (bB_ 32 s)=s from join_split 32 s,←h2]
     exact(nextT_is e).1
theorem snoc_cases {α:Type} {l pre suf:List α} {t x:α} (h:l++[x]=pre++t::suf):(suf=[]∧pre=l∧t=x)∨∃s,suf=s++[x]∧l=pre++t::s:=by
 rcases List.eq_nil_or_concat suf with rfl|⟨s,y,rfl⟩
 ·have:=List.append_inj' h rfl
  exact .inl ⟨rfl,this.1.symm,(List.cons.inj this.2).1.symm⟩
 ·rw[List.concat_eq_append] at h⊢
  rw[←List.cons_append,←List.append_assoc] at h
  have:=List.append_inj' h rfl
  exact .inr ⟨s,by rw[(List.cons.inj this.2).1],this.1⟩
theorem OkSt.snocS {x:St} (h:OkSt x) {t:It} (h1:x.its.length<60) (h2:okS x.its t=true):OkSt ⟨x.its++[t],x.ls⟩:=
 ⟨by simp;omega,h.m,fun pre u suf e=>by
  rcases snoc_cases e with ⟨_,rfl,rfl⟩|⟨s,_,e2⟩
  ·exact h2
  ·exact h.its pre u s e2,h.ls⟩
theorem OkSt.snocL {x:St} (h:OkSt x) {l:L3} (h1:x.ls.length<40) (h2:okL x.ls l=true):OkSt ⟨x.its,x.ls++[l]⟩:=
 ⟨h.n,by simp;omega,h.its,fun pre u suf e=>by
  rcases snoc_cases e with ⟨_,rfl,rfl⟩|⟨s,_,e2⟩
  ·exact h2
  ·exact h.ls pre u s e2⟩
theorem foldK_ok:∀(ws:List (List Bs)) {x y:St},OkSt x→aEE x ws=some y→OkSt y∧allW y=allW x++ws
 | [],x,y,hx,h=>by cases h;exact⟨hx,(List.append_nil _).symm⟩
 | w::ws,x,y,hx,h=>by
  unfold aEE at h
  cases e:cJ_ x w with
  | none=>rw[e] at h;cases h
  | some z=>
   rw[e] at h
   rcases(hearK_iff hx.codes).1 e with ⟨l,rfl,h1,h2,rfl⟩|⟨t,rfl,h1,h2,h3,rfl⟩
   ·obtain⟨a,b⟩:=foldK_ok ws (hx.snocL h2 h1) h
    refine⟨a,b.trans ?_⟩
    simp[allW]
   ·obtain⟨a,b⟩:=foldK_ok ws (hx.snocS h2 h3) h
    refine⟨a,b.trans ?_⟩
    simp[allW,h1]
theorem foldK_its:∀(its:List It) {x:St},OkSt ⟨x.its++its,[]⟩→OkSt x→x.ls=[]→aEE x (its.map fQ_)=some ⟨x.its++its,[]⟩
 | [],x,_,_,hl=>by
  show some x=_
  rw[List.append_nil,←hl]
 | t::its,x,h,hx,hl=>by
  have e:cJ_ x (fQ_ t)=some ⟨x.its++[t],x.ls⟩:=(hearK_iff hx.codes).2 (.inr ⟨t,rfl,hl,by have:=h.n;simp at this;omega,h.its x.its t its rfl,rfl⟩)
  show aEE x (fQ_ t::its.map fQ_)=_
  unfold aEE
  rw[e]
  have hn:=hx.snocS (t:=t) (by have:=h.n;simp at this;omega) (h.its x.its t its rfl)
  have:=foldK_its its (x:=⟨x.its++[t],x.ls⟩) (by rw[List.append_assoc];exact h) hn hl
  rw[List.append_assoc] at this
  exact this
theorem foldK_ls:∀(ls:List L3) {x:St},OkSt ⟨x.its,x.ls++ls⟩→OkSt x→aEE x (ls.map gG_)=some ⟨x.its,x.ls++ls⟩
 | [],x,_,_=>by
  show some x=_
  rw[List.append_nil]
 | l::ls,x,h,hx=>by
  have e:cJ_ x (gG_ l)=some ⟨x.its,x.ls++[l]⟩:=(hearK_iff hx.codes).2 (.inl ⟨l,rfl,h.ls x.ls l ls rfl,by have:=h.m;simp at this;omega,rfl⟩)
  show aEE x (gG_ l::ls.map gG_)=_
  unfold aEE
  rw[e]
  have hn:=hx.snocL (l:=l) (by have:=h.m;simp at this;omega) (h.ls x.ls l ls rfl)
  have:=foldK_ls ls (x:=⟨x.its,x.ls++[l]⟩) (by rw[List.append_assoc];exact h) hn
  rw[List.append_assoc] at this
  exact this
theorem OkSt.fold {x:St} (h:OkSt x):aEE ⟨[],[]⟩ (allW x)=some x:=by
 have h1:OkSt ⟨[]++x.its,[]⟩:=⟨h.n,Nat.zero_le _,h.its,fun pre t suf e=>(by cases pre <;> cases e)⟩
 unfold allW
 rw[foldK_app (foldK_its x.its (x:=⟨[],[]⟩) h1 zT_ rfl)]
 exact foldK_ls x.ls (x:=⟨[]++x.its,[]⟩) ⟨h.n,h.m,h.its,h.ls⟩ h1
theorem mem_joinC {c d:UInt8} : ∀{ws:List Bs},d∈dB_ c ws→d=c∨∃w∈ws,d∈w
 | [],h=>by cases h
 | [w],h=>.inr ⟨w,by simp,h⟩
 | w::v::ws,h=>by
  rcases List.mem_append.1 (show d∈w++c::dB_ c (v::ws) from h) with h|h
  ·exact .inr ⟨w,by simp,h⟩
  ·rcases List.mem_cons.1 h with h|h
   ·exact .inl h
   ·rcases mem_joinC h with h|⟨u,h1,h2⟩
    ·exact .inl h
    ·exact .inr ⟨u,List.mem_cons_of_mem _ h1,h2⟩
def cleanW (w:Bs):Prop:=32 ∉ w∧46 ∉ w
theorem clean_txt {n:Int} (h:0≤n):cleanW (txt n):=by
 have e:txt n=txtN n.natAbs:=by unfold txt;rw[if_neg (by omega)]
 rw[e]
 have:=aZ_ n.natAbs
 constructor <;> intro hm <;> have:=this _ hm <;> revert this <;> decide
theorem clean_name (k:Int):cleanW (aL_ k):=by
 unfold aL_
 repeat' split
 all_goals exact⟨by decide,by decide⟩
theorem clean_word {k:Int} {w:Bs} (h:bS_ k w=true):cleanW w:=by
 unfold bS_ at h
 split at h
 ·split at h
  next c=>
   simp only[Bool.and_eq_true,decide_eq_true_eq] at h
   constructor <;> intro hm <;> rw[List.mem_singleton] at hm <;> subst hm <;> revert h <;> decide
  next=>cases h
 ·simp only[Bool.and_eq_true,decide_eq_true_eq] at h
  rw[h.2]
  exact⟨by simp,by simp⟩
theorem clean_of {ws:List Bs} (hn:ws≠[]) (h:∀w∈ws,cleanW w):ws≠[]∧(∀b∈ws,32 ∉ b)∧46 ∉ gT_ ws:=
 ⟨hn,fun b hb=>(h b hb).1,fun hm=>by
  rcases mem_joinC hm with h'|⟨w,h1,h2⟩
  ·exact absurd h' (by decide)
  ·exact(h w h1).2 h2⟩
theorem clean_S {its:List It} {t:It} (h:okS its t=true) (hc:∀u∈its,1≤u.code∧u.code≤39999):fQ_ t≠[]∧(∀b∈fQ_ t,32 ∉ b)∧46 ∉ gT_ (fQ_ t):=by
 obtain⟨h1,h2,h3,h4⟩:=aDQ h hc
 refine clean_of (by unfold fQ_;simp) fun w hw=>?_
 unfold fQ_ at hw
 simp only[List.mem_append] at hw
 rcases hw with ((hw|hw)|hw)|hw
 ·rcases List.mem_cons.1 hw with rfl|hw
  ·exact clean_name _
  ·rw[List.mem_singleton.1 hw];exact clean_txt h1.1
 ·split at hw
  ·cases hw
  ·rcases List.mem_cons.1 hw with rfl|hw
   ·exact⟨by decide,by decide⟩
   ·rw[List.mem_singleton.1 hw];exact clean_word h2
 ·split at hw
  ·cases hw
  ·next n hn=>
   rcases List.mem_cons.1 hw with rfl|hw
   ·exact⟨by decide,by decide⟩
   ·rw[List.mem_singleton.1 hw];exact clean_txt (h3 n hn).1
 ·split at hw
  ·cases hw
  ·next n hn=>
   rcases List.mem_cons.1 hw with rfl|hw
   ·exact⟨by decide,by decide⟩
   ·rcases List.mem_cons.1 hw with rfl|hw
    ·exact⟨by decide,by decide⟩
    ·rw[List.mem_singleton.1 hw];exact clean_txt (h4 n hn).1
theorem clean_L {ls:List L3} {l:L3} (h:okL ls l=true):gG_ l≠[]∧(∀b∈gG_ l,32 ∉ b)∧46 ∉ gT_ (gG_ l):=by
 obtain⟨h1,h2,h3⟩:=vM_ h
 refine clean_of (by unfold gG_;simp) fun w hw=>?_
 unfold gG_ at hw
 simp only[List.mem_cons,List.not_mem_nil,or_false] at hw
 rcases hw with rfl|rfl|rfl|rfl|rfl|rfl|rfl
 ·exact⟨by decide,by decide⟩
 ·exact clean_txt (by omega)
 ·exact⟨by decide,by decide⟩
 ·exact⟨by decide,by decide⟩
 ·exact clean_txt (by omega)
 ·exact⟨by decide,by decide⟩
 ·exact clean_txt (by omega)
theorem OkSt.clean {x:St} (h:OkSt x):∀w∈allW x,w≠[]∧(∀b∈w,32 ∉ b)∧46 ∉ gT_ w:=by
 intro w hw
 rcases List.mem_append.1 hw with hw|hw
 ·obtain⟨t,ht,rfl⟩:=List.mem_map.1 hw
  obtain⟨a,b,e⟩:=eV_ ht
  exact clean_S (h.its a t b e) fun u hu=>h.codes u (by rw[e];exact List.mem_append_left _ hu)
 ·obtain⟨l,hl,rfl⟩:=List.mem_map.1 hw
  obtain⟨a,b,e⟩:=eV_ hl
  exact clean_L (h.ls a l b e)
theorem OkSt.there {x:St} (h:OkSt x):eA_ ⟨[],[]⟩ 0 (tW_ (allW x))=.ok x:=hearX_told (rest:=[]) (allW x) (many:=0) h.clean h.fold
theorem heard_back {t:Bs} {y:St} (h:eA_ ⟨[],[]⟩ 0 t=.ok y):OkSt y∧t=tW_ (allW y):=by
 obtain⟨ws,h1,h2⟩:=hearX_heard t.length (Nat.le_refl _) h
 obtain⟨h3,h4⟩:=foldK_ok ws zT_ h1
 refine⟨h3,?_⟩
 rw[h2,h4]
 rfl
end Go.Proofs.YtdkaohphbgdkpaaGreatDoor
