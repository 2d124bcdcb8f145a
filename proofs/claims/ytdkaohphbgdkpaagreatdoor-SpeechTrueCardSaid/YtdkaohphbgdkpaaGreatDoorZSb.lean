/- - -/
import Derived.Test.YtdkaohphbgdkpaaGreatDoorZBack
import Derived.Test.YtdkaohphbgdkpaaGreatDoorZTxt
set_option maxHeartbeats 40000000
set_option maxRecDepth 1000000
namespace Go.Proofs.YtdkaohphbgdkpaaGreatDoor
abbrev Bs:=List UInt8
def bB_ (c:UInt8):Bs→List Bs
 | []=>[[]]
 | x::l=>if x=c then []::bB_ c l else match bB_ c l with
  | []=>[[x]]
  | w::ws=>(x::w)::ws
def dB_ (c:UInt8):List Bs→Bs
 | []=>[]
 | [w]=>w
 | w::v::ws=>w++c::dB_ c (v::ws)
theorem iS_ {c:UInt8} : ∀{w:Bs},c ∉ w→bB_ c w=[w]
 | [],_=>rfl
 | x::w,h=>by
  have h1:x≠c:=fun e=>h (by rw[e];exact List.mem_cons_self)
  unfold bB_
  rw[if_neg h1,iS_ (w:=w) fun hm=>h (List.mem_cons_of_mem _ hm)]
theorem kE_ {c:UInt8} : ∀{w:Bs} (l:Bs),c ∉ w→bB_ c (w++c::l)=w::bB_ c l
 | [],l,_=>by show(if c=c then _ else _)=_;rw[if_pos rfl]
 | x::w,l,h=>by
  have h1:x≠c:=fun e=>h (by rw[e];exact List.mem_cons_self)
  show(if x=c then _ else match bB_ c (w++c::l) with | []=>[[x]]|w::ws=>(x::w)::ws)=_
  rw[if_neg h1,kE_ (w:=w) l fun hm=>h (List.mem_cons_of_mem _ hm)]
theorem kD_ {c:UInt8} : ∀{ws:List Bs},ws≠[]→(∀w∈ws,c ∉ w)→bB_ c (dB_ c ws)=ws
 | [],h,_=>absurd rfl h
 | [w],_,h=>iS_ (h w List.mem_cons_self)
 | w::v::ws,_,h=>by
  show bB_ c (w++c::dB_ c (v::ws))=_
  rw[kE_ _ (h w List.mem_cons_self),kD_ (by simp) fun x hx=>h x (List.mem_cons_of_mem _ hx)]
def wLine:Bs:=[108,105,110,101]
def wBox:Bs:=[98,111,120]
def bA_:Bs:=[97,114,114,111,119]
def tL_:Bs:=[108,101,116,116,101,114]
def wMark:Bs:=[109,97,114,107]
def bZ_:Bs:=[114,101,97,100,115]
def wIn:Bs:=[105,110]
def wOf:Bs:=[111,102]
def bT_:Bs:=[103,114,111,117,112]
def aH_:Bs:=[108,101,97,100,115]
def eC_:Bs:=[102,114,111,109]
def wTo:Bs:=[116,111]
def aL_ (k:Int):Bs:=if k=1 then wLine else if k=2 then wBox else if k=3 then bA_ else if k=4 then tL_ else if k=5 then wMark else []
structure It where
 kind:Int
 code:Int
 word:Bs
 i:Option Int
 m:Option Int
deriving DecidableEq
abbrev L3:=Int×Int×Int
def fQ_ (t:It):List Bs:=[aL_ t.kind,txt t.code]++(if t.word=[] then [] else [bZ_,t.word])++(match t.i with|none=>[]|some n=>[wIn,txt n])++(match t.m with|none=>[]|some n=>[wOf,bT_,txt n])
def gG_ (l:L3):List Bs:=[bA_,txt l.1,aH_,eC_,txt l.2.1,wTo,txt l.2.2]
def bS_ (k:Int) (w:Bs):Bool:=if k=4 then (match w with | [c]=>decide (65≤c.toNat)&&decide (c.toNat≤90)|_=>false) else decide (1≤k)&&decide (k≤5)&&decide (w=[])
def aN_ (n:Int):Bool:=decide (1≤n)&&decide (n≤39999)
def okS (its:List It) (t:It):Bool:=aN_ t.code&&bS_ t.kind t.word&&its.all (fun u=>decide (u.code≠t.code))&&(match t.i with|none=>true|some n=>its.any fun u=>decide (u.code=n)&&decide (u.kind=2))&&(match t.m with|none=>true|some n=>decide (0≤n)&&decide (n≤999))
def okL (ls:List L3) (l:L3):Bool:=aN_ l.1&&aN_ l.2.1&&aN_ l.2.2&&(match ls.getLast? with|none=>true|some p=>decide (p.1<l.1))
structure St where
 its:List It
 ls:List L3
def numK (b:Bs):Option Int:=if b≠[]∧b.length≤5∧b.all (fun c=>decide (48≤c.toNat)&&decide (c.toNat≤57))=true∧(b.length=1∨b.head?≠some 48)∧valB b≤39999 then some (valB b:Int) else none
theorem numK_some {b:Bs} {n:Int} (h:numK b=some n):0≤n∧n≤39999∧b=txt n:=by
 unfold numK at h
 split at h
 next hc=>
  obtain⟨h1,h2,h3,h4,h5⟩:=hc
  cases h
  have hd:∀c∈b,48≤c.toNat∧c.toNat≤57:=fun c hc=>by
   have:=List.all_eq_true.1 h3 c hc
   simpa using this
  refine⟨by omega,by omega,?_⟩
  have hn:txt (valB b:Int)=txtN (valB b):=by unfold txt;rw[if_neg (by omega)];rfl
  rw[hn]
  by_cases hz:b.head?=some 48
  ·rcases h4 with h4|h4
   ·match b,h4 with
    | [c], _ => obtain rfl:c=48:=by simpa using hz
                decide
   ·exact absurd hz h4
  ·exact(iN_ h1 hd hz).1.symm
 next=>cases h
theorem gO_ {n:Int} (h0:0≤n) (h1:n≤39999):numK (txt n)=some n:=by
 obtain⟨k,rfl⟩:∃k:Nat,n=k:=⟨n.toNat,by omega⟩
 have hn:txt (k:Int)=txtN k:=by unfold txt;rw[if_neg (by omega)];rfl
 rw[hn]
 have h4:(txtN k).length=1∨(txtN k).head?≠some 48:=by
  by_cases hk:k=0
  ·subst hk;left;rfl
  ·right;exact iO_ (by omega)
 unfold numK
 rw[if_pos ⟨gX_ k,(hB_ (n:=k) (k:=5) (by omega)).2 (by omega),List.all_eq_true.2 fun c hc=>by have:=aZ_ k c hc;simpa using this,h4,by rw[bO_];omega⟩,bO_]
theorem zW_ {b:Bs} {n:Int} : numK b=some n↔0≤n∧n≤39999∧b=txt n:=⟨numK_some,fun⟨h0,h1,e⟩=>e▸gO_ h0 h1⟩
def bN_ (w:Bs):Int:=if w=wLine then 1 else if w=wBox then 2 else if w=bA_ then 3 else if w=tL_ then 4 else if w=wMark then 5 else 0
theorem kN_ {k:Int} (h:1≤k∧k≤5):bN_ (aL_ k)=k:=by
 obtain rfl|rfl|rfl|rfl|rfl:k=1∨k=2∨k=3∨k=4∨k=5:=by omega
 all_goals decide
theorem sJ_ {w:Bs} (h:bN_ w≠0):aL_ (bN_ w)=w:=by
 unfold bN_ at *
 repeat' split at h
 all_goals first|(exact absurd rfl h)|skip
 all_goals simp_all [aL_]
theorem aAC (w:Bs):0≤bN_ w∧bN_ w≤5:=by
 unfold bN_
 repeat' split
 all_goals omega
def parL:List Bs→Option L3
 | [a,c,l,f,n,t,m]=>if a=bA_∧l=aH_∧f=eC_∧t=wTo then (match numK c,numK n,numK m with | some x,some y,some z=>some (x,y,z) | _,_,_=>none) else none
 | _=>none
def takR (k:Int):List Bs→Bs×List Bs
 | a::b::r=>if k=4∧a=bZ_ then (b,r) else ([],a::b::r)
 | r=>([],r)
def takI:List Bs→Option Int×List Bs
 | a::b::r=>if a=wIn then (match numK b with | some n=>(some n,r) | none=>(none,a::b::r)) else (none,a::b::r)
 | r=>(none,r)
def takM:List Bs→Option Int×List Bs
 | a::b::c::r=>if a=wOf∧b=bT_ then (match numK c with | some n=>(some n,r) | none=>(none,a::b::c::r)) else (none,a::b::c::r)
 | r=>(none,r)
def parS:List Bs→Option It
 | a::c::r=>match numK c with
  | none=>none
  | some n=>if (takM (takI (takR (bN_ a) r).2).2).2=[] then some ⟨bN_ a,n,(takR (bN_ a) r).1,(takI (takR (bN_ a) r).2).1,(takM (takI (takR (bN_ a) r).2).2).1⟩ else none
 | _=>none
theorem zP_ {w:List Bs} {l:L3} : parL w=some l↔(0≤l.1∧l.1≤39999)∧(0≤l.2.1∧l.2.1≤39999)∧(0≤l.2.2∧l.2.2≤39999)∧w=gG_ l:=by
 constructor
 ·intro h
  unfold parL at h
  split at h
  next a c l' f n t m=>
   split at h
   next hc=>
    obtain⟨rfl,rfl,rfl,rfl⟩:=hc
    split at h
    next x y z h1 h2 h3=>
     cases h
     obtain⟨a1,a2,rfl⟩:=numK_some h1
     obtain⟨b1,b2,rfl⟩:=numK_some h2
     obtain⟨c1,c2,rfl⟩:=numK_some h3
     exact⟨⟨a1,a2⟩,⟨b1,b2⟩,⟨c1,c2⟩,rfl⟩
    next=>cases h
   next=>cases h
  next=>cases h
 ·rintro⟨⟨a1,a2⟩,⟨b1,b2⟩,⟨c1,c2⟩,rfl⟩
  unfold parL gG_
  simp only[and_self,if_true]
  rw[gO_ a1 a2,gO_ b1 b2,gO_ c1 c2]
def iT_ (i:Option Int):List Bs:=match i with|none=>[]|some n=>[wIn,txt n]
def aDH (m:Option Int):List Bs:=match m with|none=>[]|some n=>[wOf,bT_,txt n]
def numO (i:Option Int):Prop:=∀n,i=some n→0≤n∧n≤39999
def cJ_ (x:St) (w:List Bs):Option St:=match parL w with
 | some l=>if okL x.ls l=true∧x.ls.length<40 then some ⟨x.its,x.ls++[l]⟩ else none
 | none=>match parS w with
  | some t=>if x.ls=[]∧x.its.length<60∧okS x.its t=true then some ⟨x.its++[t],x.ls⟩ else none
  | none=>none
theorem aDQ {its:List It} {t:It} (h:okS its t=true) (hc:∀u∈its,1≤u.code∧u.code≤39999):(0≤t.code∧t.code≤39999)∧bS_ t.kind t.word=true∧numO t.i∧numO t.m:=by
 simp only[okS,aN_,Bool.and_eq_true,decide_eq_true_eq] at h
 obtain⟨⟨⟨⟨⟨h1,h2⟩,h3⟩,_⟩,h4⟩,h5⟩:=h
 refine⟨⟨by omega,h2⟩,h3,fun n hn=>?_,fun n hn=>?_⟩
 ·rw[hn] at h4
  obtain⟨u,hu,hu2⟩:=List.any_eq_true.1 h4
  simp only[Bool.and_eq_true,decide_eq_true_eq] at hu2
  have:=hc u hu
  omega
 ·rw[hn] at h5
  simp only[Bool.and_eq_true,decide_eq_true_eq] at h5
  omega
def gT_ (w:List Bs):Bs:=dB_ 32 w
def eP_ (w:List Bs):Bs:=gT_ w++[46]
def nA_ (ws:List (List Bs)):Bs:=ws.flatMap fun w=>32::eP_ w
def tW_:List (List Bs)→Bs
 | []=>[]
 | w::ws=>eP_ w++nA_ ws
def jU_ (k:Nat) (ws:List (List Bs)):Bs:=if k=0 then tW_ ws else nA_ ws
def mI_:Bs→Option (Bs×Bs)
 | []=>none
 | c::l=>if c=46 then some ([],l) else (mI_ l).map fun p=>(c::p.1,p.2)
theorem kW_ {l a b:Bs} (h:mI_ l=some (a,b)):l=a++46::b∧46 ∉ a:=by
 induction l generalizing a with
 | nil=>cases h
 | cons c l ih=>
  unfold mI_ at h
  by_cases hc:c=46
  ·rw[if_pos hc] at h
   cases h
   exact⟨by rw[hc];rfl,by simp⟩
  ·rw[if_neg hc] at h
   cases e:mI_ l with
   | none=>rw[e] at h;cases h
   | some p=>
    rw[e] at h
    cases h
    obtain⟨h1,h2⟩:=ih (a:=p.1) e
    refine⟨by rw[h1];rfl,fun hm=>?_⟩
    rcases List.mem_cons.1 hm with hm|hm
    ·exact hc hm.symm
    ·exact h2 hm
theorem mH_ {a b:Bs} (h:46 ∉ a):mI_ (a++46::b)=some (a,b):=by
 induction a with
 | nil=>rfl
 | cons c a ih=>
  have hc:c≠46:=fun e=>h (by rw[e];exact List.mem_cons_self)
  show(if c=46 then _ else (mI_ (a++46::b)).map _)=_
  rw[if_neg hc,ih fun hm=>h (List.mem_cons_of_mem _ hm)]
  rfl
def fP_ (many:Nat) (rest:Bs):Option (Bs×Bs):=match mI_ rest with
 | none=>none
 | some (s,b)=>if many=0 then some (s,b) else match s with
  | 32::s'=>some (s',b)
  | _=>none
inductive HR where
 | ok (x:St)
 | bad (n:Nat)
def oG_:Nat→St→Nat→Bs→HR
 | 0,x,many,rest=>if rest=[] then .ok x else .bad many
 | f+1,x,many,rest=>if rest=[] then .ok x else match fP_ many rest with
  | none=>.bad many
  | some (s,b)=>match cJ_ x (bB_ 32 s) with
   | none=>.bad many
   | some y=>oG_ f y (many+1) b
theorem jC_ {many:Nat} {rest s b:Bs} (h:fP_ many rest=some (s,b)):b.length<rest.length:=by
 unfold fP_ at h
 split at h
 next=>cases h
 next s' b' hc=>
  have e:=(kW_ hc).1
  have:b=b':=by
   split at h
   ·cases h;rfl
   ·split at h
    ·cases h;rfl
    ·cases h
  rw[e,this]
  simp
  omega
theorem kR_:∀(f:Nat) (x:St) (many:Nat) (rest:Bs),rest.length≤f→∀g,f≤g→oG_ g x many rest=oG_ f x many rest
 | 0,x,many,rest,h,g,_=>by
  obtain rfl:rest=[]:=List.eq_nil_of_length_eq_zero (by omega)
  cases g <;> rfl
 | f+1,x,many,rest,h,g,hg=>by
  obtain⟨k,rfl⟩:∃k,g=k+1:=⟨g-1,by omega⟩
  unfold oG_
  by_cases he:rest=[]
  ·rw[if_pos he,if_pos he]
  ·rw[if_neg he,if_neg he]
   cases e:fP_ many rest with
   | none=>rfl
   | some p=>
    obtain⟨s,b⟩:=p
    simp only
    cases cJ_ x (bB_ 32 s) with
    | none=>rfl
    | some y=>exact kR_ f y (many+1) b (by have:=jC_ e;omega) k (by omega)
def eA_ (x:St) (many:Nat) (rest:Bs):HR:=oG_ rest.length x many rest
theorem wR_ (x:St) (many:Nat):eA_ x many []=.ok x:=rfl
theorem hE_ {x:St} {many:Nat} {rest:Bs} (he:rest≠[]) (h:fP_ many rest=none):eA_ x many rest=.bad many:=by
 unfold eA_
 cases e:rest.length with
 | zero=>exact absurd (List.eq_nil_of_length_eq_zero e) he
 | succ n=>unfold oG_;rw[if_neg he,h]
theorem lT_ {many:Nat} {rest s b:Bs} (h:fP_ many rest=some (s,b)):rest≠[]:=by rintro rfl;cases h
theorem eJ_ {x:St} {many:Nat} {rest s b:Bs} (h:fP_ many rest=some (s,b)) (hk:cJ_ x (bB_ 32 s)=none):eA_ x many rest=.bad many:=by
 unfold eA_
 cases e:rest.length with
 | zero=>exact absurd (List.eq_nil_of_length_eq_zero e) (lT_ h)
 | succ n=>
  unfold oG_
  rw[if_neg (lT_ h),h]
  simp only[hk]
theorem kQ_ {x y:St} {many:Nat} {rest s b:Bs} (h:fP_ many rest=some (s,b)) (hk:cJ_ x (bB_ 32 s)=some y):eA_ x many rest=eA_ y (many+1) b:=by
 have hl:=jC_ h
 unfold eA_
 cases e:rest.length with
 | zero=>omega
 | succ n=>
  conv=>lhs;unfold oG_
  rw[if_neg (lT_ h),h]
  simp only[hk]
  exact kR_ b.length y (many+1) b (Nat.le_refl _) n (by omega)
def aEE:St→List (List Bs)→Option St
 | x,[]=>some x
 | x,w::ws=>match cJ_ x w with | none=>none | some y=>aEE y ws
theorem yY_ (k:Nat) (vs:List (List Bs)):nA_ vs=jU_ (k+1) vs:=by unfold jU_;rw[if_neg (by omega)]
theorem sS_ (many:Nat) (w:List Bs) (ws:List (List Bs)):jU_ many (w::ws)=(if many=0 then [] else [32])++gT_ w++46::jU_ (many+1) ws:=by
 rw[←yY_]
 unfold jU_
 by_cases hm:many=0
 ·rw[if_pos hm,if_pos hm]
  show eP_ w++nA_ ws=_
  unfold eP_
  simp
 ·rw[if_neg hm,if_neg hm]
  show(32::eP_ w)++nA_ ws=_
  unfold eP_
  simp
def allW (x:St):List (List Bs):=x.its.map fQ_++x.ls.map gG_
structure OkSt (x:St):Prop where
 n:x.its.length≤60
 m:x.ls.length≤40
 its:∀pre t suf,x.its=pre++t::suf→okS pre t=true
 ls:∀pre l suf,x.ls=pre++l::suf→okL pre l=true
theorem zT_:OkSt ⟨[],[]⟩:=⟨Nat.zero_le _,Nat.zero_le _,fun pre t suf h=>(by cases pre <;> cases h),fun pre t suf h=>(by cases pre <;> cases h)⟩
theorem zU_ {its:List It} {t:It} (h:okS its t=true):1≤t.code∧t.code≤39999:=by
 simp only[okS,aN_,Bool.and_eq_true,decide_eq_true_eq] at h
 exact h.1.1.1.1
theorem eV_ {α:Type} {l:List α} {x:α} (h:x∈l):∃a b,l=a++x::b:=List.append_of_mem h
theorem OkSt.codes {x:St} (h:OkSt x):∀u∈x.its,1≤u.code∧u.code≤39999:=fun u hu=>by
 obtain⟨a,b,e⟩:=eV_ hu
 exact zU_ (h.its a u b e)
theorem vM_ {ls:List L3} {l:L3} (h:okL ls l=true):(1≤l.1∧l.1≤39999)∧(1≤l.2.1∧l.2.1≤39999)∧(1≤l.2.2∧l.2.2≤39999):=by
 simp only[okL,aN_,Bool.and_eq_true,decide_eq_true_eq] at h
 exact⟨h.1.1.1,h.1.1.2,h.1.2⟩
structure SD where
 shapes:List Sh
 inside:List (Int×Int)
 member:List (Int×Int)
 leads:List L3
def zRc:Rc:=⟨0,0,0,0⟩
def zPl:Pl:=⟨0,0⟩
def shOf (t:It):Sh:=⟨t.code,t.kind,zRc,zPl,zPl,⟨t.word.toArray⟩⟩
def asmD (x:St):SD:=⟨x.its.map shOf,x.its.filterMap fun t=>t.i.map fun n=>(t.code,n),x.its.filterMap fun t=>t.m.map fun n=>(t.code,n),x.ls⟩
def ixS (c:Int):List Sh→Option Nat
 | []=>none
 | s::l=>if s.code=c then some 0 else (ixS c l).map (· + 1)
def cQ_ (l:List Sh) (right:Nat→Int→Bool):Nat→List (Int×Int)→Bool
 | _,[]=>true
 | k,p::ps=>match ixS p.1 l with
  | none=>false
  | some i=>decide (k≤i)&&right i p.2&&cQ_ l right (i+1) ps
def boxB (l:List Sh) (n:Int):Bool:=match ixS n l with
 | none=>false
 | some i=>match l[i]? with | none=>false | some s=>decide (s.kind=2)
def eT_ (s:Sh):Bool:=decide (s.rect=zRc)&&decide (s.a=zPl)&&decide (s.b=zPl)
def gP_ (pre:List Sh) (s:Sh):Bool:=eT_ s&&aN_ s.code&&bS_ s.kind s.word.data.toList&&decide (ixS s.code pre=none)
def dH_:List Sh→List Sh→Bool
 | _,[]=>true
 | pre,s::l=>gP_ pre s&&dH_ (pre++[s]) l
def cW_:List L3→List L3→Bool
 | _,[]=>true
 | pre,l::ls=>okL pre l&&cW_ (pre++[l]) ls
def cF_ (x:SD):Bool:=decide (x.shapes.length≤60)&&decide (x.leads.length≤40)&&dH_ [] x.shapes&&cW_ [] x.leads&&cQ_ x.shapes (fun i n=>boxB (x.shapes.take i) n) 0 x.inside&&cQ_ x.shapes (fun _ n=>decide (0≤n)&&decide (n≤999)) 0 x.member
def aE_ (l:List (Int×Int)) (c:Int):Option Int:=l.foldl (fun o p=>if p.1=c then some p.2 else o) none
def itOf (x:SD) (s:Sh):It:=⟨s.kind,s.code,s.word.data.toList,aE_ x.inside s.code,aE_ x.member s.code⟩
def stOf (x:SD):St:=⟨x.shapes.map (itOf x),x.leads⟩
def yV_ (x:SD):Bs:=tW_ (allW (stOf x))
theorem eI_ {c:Int} {l:List Sh} : ixS c l=none↔∀s∈l,s.code≠c:=by
 induction l with
 | nil=>simp[ixS]
 | cons x l ih=>
  unfold ixS
  by_cases h:x.code=c
  ·rw[if_pos h]
   exact⟨fun e=>(by cases e),fun e=>absurd h (e x List.mem_cons_self)⟩
  ·rw[if_neg h,Option.map_eq_none_iff,ih]
   exact⟨fun e s hs=>(List.mem_cons.1 hs).elim (fun e'=>e'▸h) (fun hs=>e s hs),fun e s hs=>e s (List.mem_cons_of_mem _ hs)⟩
theorem dP_ {c:Int} {l:List Sh} {i:Nat} : ixS c l=some i↔∃a s b,l=a++s::b∧a.length=i∧s.code=c∧∀x∈a,x.code≠c:=by
 induction l generalizing i with
 | nil=>exact⟨fun e=>(by cases e),fun⟨a,s,b,e,_⟩=>(by cases a <;> cases e)⟩
 | cons x l ih=>
  unfold ixS
  by_cases h:x.code=c
  ·rw[if_pos h]
   constructor
   ·intro e
    cases e
    exact⟨[],x,l,rfl,rfl,h,fun y hy=>by cases hy⟩
   ·rintro⟨a,s,b,e,rfl,h1,h2⟩
    cases a with
    | nil=>rfl
    | cons y a=>
     have:=(List.cons.inj e).1
     exact absurd (this▸h) (h2 y List.mem_cons_self)
  ·rw[if_neg h]
   constructor
   ·intro e
    cases e2:ixS c l with
    | none=>rw[e2] at e;cases e
    | some j=>
     rw[e2] at e
     cases e
     obtain⟨a,s,b,rfl,rfl,h1,h2⟩:=ih.1 e2
     refine⟨x::a,s,b,rfl,rfl,h1,fun y hy=>?_⟩
     rcases List.mem_cons.1 hy with rfl|hy
     ·exact h
     ·exact h2 y hy
   ·rintro⟨a,s,b,e,rfl,h1,h2⟩
    cases a with
    | nil=>exact absurd ((List.cons.inj e).1▸h1) h
    | cons y a=>
     obtain⟨rfl,rfl⟩:=List.cons.inj e
     rw[ih.2 ⟨a,s,b,rfl,rfl,h1,fun z hz=>h2 z (List.mem_cons_of_mem _ hz)⟩]
     rfl
theorem gU_ {a b:List Sh} {s:Sh} (h:Dist (a++s::b)):∀x∈a,x.code≠s.code:=fun x hx=>(List.pairwise_append.1 h).2.2 x hx s List.mem_cons_self
theorem qU_ {a b:List Sh} {s:Sh} (h:Dist (a++s::b)):ixS s.code (a++s::b)=some a.length:=dP_.2 ⟨a,s,b,rfl,rfl,rfl,gU_ h⟩
theorem fH_ {l:List Sh} (hd:Dist l) {right:Nat→Int→Bool} : ∀(ps:List (Int×Int)) (k:Nat),cQ_ l right k ps=true↔
  (ps.map (·.1)).Sublist ((l.drop k).map (·.code))∧∀p∈ps,∀i,ixS p.1 l=some i→right i p.2=true
 | [],k=>⟨fun _=>⟨List.nil_sublist _,fun p hp=>by cases hp⟩,fun _=>rfl⟩
 | p::ps,k=>by
  unfold cQ_
  cases e:ixS p.1 l with
  | none=>
   constructor
   ·intro h;cases h
   ·rintro⟨h,_⟩
    have:p.1∈(l.drop k).map (·.code):=h.subset (by simp)
    obtain⟨s,hs,hc⟩:=List.mem_map.1 this
    exact absurd hc (eI_.1 e s (List.mem_of_mem_drop hs))
  | some i=>
   simp only[Bool.and_eq_true,decide_eq_true_eq]
   rw[fH_ hd ps (i+1)]
   obtain⟨a,s,b,rfl,rfl,h1,h2⟩:=dP_.1 e
   have hdr:(a++s::b).drop (a.length+1)=b:=by
    rw[List.drop_append]
    simp
   rw[hdr]
   constructor
   ·rintro⟨⟨hk,hr⟩,hs,hp⟩
    refine⟨?_,fun q hq=>?_⟩
    ·have e2:(a++s::b).drop k=a.drop k++s::b:=by rw[List.drop_append,Nat.sub_eq_zero_of_le hk,List.drop_zero]
     rw[e2,List.map_append,List.map_cons,List.map_cons,h1]
     exact(List.Sublist.cons_cons _ hs).trans (List.sublist_append_right _ _)
    ·rcases List.mem_cons.1 hq with rfl|hq
     ·intro j hj
      rw[e] at hj
      cases hj
      exact hr
     ·exact hp q hq
   ·rintro⟨hs,hp⟩
    have hk:k≤a.length:=by
     rcases Nat.lt_or_ge a.length k with hlt|hge
     ·exfalso
      have hm:p.1∈((a++s::b).drop k).map (·.code):=hs.subset (by simp)
      obtain⟨x,hx,hc⟩:=List.mem_map.1 hm
      obtain⟨c,rfl⟩:∃c,k=a.length+1+c:=⟨k-a.length-1,by omega⟩
      rw[←List.drop_drop,hdr] at hx
      have:=(List.pairwise_cons.1 (List.pairwise_append.1 hd).2.1).1 x (List.mem_of_mem_drop hx)
      exact this (by rw[h1,hc])
     ·exact hge
    refine⟨⟨hk,hp p List.mem_cons_self _ e⟩,?_,fun q hq=>hp q (List.mem_cons_of_mem _ hq)⟩
    have e2:(a++s::b).drop k=a.drop k++s::b:=by rw[List.drop_append,Nat.sub_eq_zero_of_le hk,List.drop_zero]
    rw[e2,List.map_append,List.map_cons,List.map_cons,h1] at hs
    rcases List.sublist_append_iff.1 hs with ⟨u,v,huv,hu,hv⟩
    cases u with
    | nil=>
     rw[List.nil_append] at huv
     rw[←huv] at hv
     exact hv.of_cons_cons
    | cons y u=>
     obtain⟨rfl,_⟩:=List.cons.inj huv
     obtain⟨x,hx,hc⟩:=List.mem_map.1 (hu.subset List.mem_cons_self)
     exact absurd hc (h2 x (List.mem_of_mem_drop hx))
theorem eG_:∀(l pre:List Sh),dH_ pre l=true↔∀a s b,l=a++s::b→gP_ (pre++a) s=true
 | [],pre=>⟨fun _ a s b e=>(by cases a <;> cases e),fun _=>rfl⟩
 | x::l,pre=>by
  unfold dH_
  rw[Bool.and_eq_true,eG_ l (pre++[x])]
  constructor
  ·rintro⟨h1,h2⟩ a s b e
   cases a with
   | nil=>obtain⟨rfl,rfl⟩:=List.cons.inj e;rw[List.append_nil];exact h1
   | cons y a=>
    obtain⟨rfl,e7⟩:=List.cons.inj e
    have:=h2 a s b e7
    rwa[List.append_assoc,List.singleton_append] at this
  ·intro h
   refine⟨by have:=h [] x l rfl;rwa[List.append_nil] at this,fun a s b e=>?_⟩
   have:=h (x::a) s b (by rw[e];rfl)
   rwa[List.append_assoc,List.singleton_append]
theorem dX_:∀(l pre:List L3),cW_ pre l=true↔∀a s b,l=a++s::b→okL (pre++a) s=true
 | [],pre=>⟨fun _ a s b e=>(by cases a <;> cases e),fun _=>rfl⟩
 | x::l,pre=>by
  unfold cW_
  rw[Bool.and_eq_true,dX_ l (pre++[x])]
  constructor
  ·rintro⟨h1,h2⟩ a s b e
   cases a with
   | nil=>obtain⟨rfl,rfl⟩:=List.cons.inj e;rw[List.append_nil];exact h1
   | cons y a=>
    obtain⟨rfl,e7⟩:=List.cons.inj e
    have:=h2 a s b e7
    rwa[List.append_assoc,List.singleton_append] at this
  ·intro h
   refine⟨by have:=h [] x l rfl;rwa[List.append_nil] at this,fun a s b e=>?_⟩
   have:=h (x::a) s b (by rw[e];rfl)
   rwa[List.append_assoc,List.singleton_append]
theorem nJ_ {l:List Sh} (h:dH_ [] l=true):Dist l:=by
 have h2:=(eG_ l []).1 h
 clear h
 have:∀(n:Nat),Dist (l.take n):=by
  intro n
  induction n with
  | zero=>rw[List.take_zero];exact List.Pairwise.nil
  | succ n ih=>
   rcases Nat.lt_or_ge n l.length with hn|hn
   ·rw[List.take_succ_eq_append_getElem hn]
    refine List.pairwise_append.2 ⟨ih,List.pairwise_singleton _ _,fun a ha b hb=>?_⟩
    rw[List.mem_singleton.1 hb]
    have:=h2 (l.take n) l[n] (l.drop (n+1)) (by rw[List.getElem_cons_drop,List.take_append_drop])
    simp only[gP_,Bool.and_eq_true,decide_eq_true_eq,List.nil_append] at this
    exact eI_.1 this.2 a ha
   ·rw[List.take_of_length_le (by omega)]
    rw[List.take_of_length_le hn] at ih
    exact ih
 have:=this l.length
 rwa[List.take_length] at this
theorem wC_ (l:List (Int×Int)) (c:Int):∀o,l.foldl (fun o p=>if p.1=c then some p.2 else o) o=match aE_ l c with|none=>o|some n=>some n:=by
 induction l with
 | nil=>intro o;rfl
 | cons p l ih=>
  intro o
  have e:aE_ (p::l) c=l.foldl (fun o p=>if p.1=c then some p.2 else o) (if p.1=c then some p.2 else none):=rfl
  rw[e,List.foldl_cons,ih,ih]
  cases aE_ l c with
  | some n=>rfl
  | none=>
   by_cases h:p.1=c
   ·rw[if_pos h,if_pos h]
   ·rw[if_neg h,if_neg h]
theorem fI_ (p:Int×Int) (l:List (Int×Int)) (c:Int):aE_ (p::l) c=match aE_ l c with|none=>if p.1=c then some p.2 else none|some n=>some n:=wC_ l c _
theorem kL_ {l:List (Int×Int)} {c:Int} (h:∀p∈l,p.1≠c):aE_ l c=none:=by
 induction l with
 | nil=>rfl
 | cons p l ih=>
  rw[fI_,ih fun q hq=>h q (List.mem_cons_of_mem _ hq)]
  exact if_neg (h p List.mem_cons_self)
theorem oA_ {l:List (Int×Int)} {c n:Int} (h:aE_ l c=some n):(c,n)∈l:=by
 induction l with
 | nil=>cases h
 | cons p l ih=>
  rw[fI_] at h
  cases e:aE_ l c with
  | some m=>rw[e] at h;cases h;exact List.mem_cons_of_mem _ (ih e)
  | none=>
   rw[e] at h
   by_cases hc:p.1=c
   ·simp only[if_pos hc] at h;cases h;rw[←hc];exact List.mem_cons_self
   ·simp only[if_neg hc] at h;cases h
theorem hS_ {α β:Type} {l:List α} {f g:α→Option β} (h:∀x∈l,f x=g x):l.filterMap f=l.filterMap g:=by
 induction l with
 | nil=>rfl
 | cons a l ih=>rw[List.filterMap_cons,List.filterMap_cons,h a List.mem_cons_self,ih fun x hx=>h x (List.mem_cons_of_mem _ hx)]
theorem dW_:∀{l:List Sh} {ps:List (Int×Int)},Dist l→(ps.map (·.1)).Sublist (l.map (·.code))→l.filterMap (fun s=>(aE_ ps s.code).map fun n=>(s.code,n))=ps
 | [],ps,_,h=>by
  rw[List.map_nil,List.sublist_nil,List.map_eq_nil_iff] at h
  rw[h];rfl
 | s::l,[],hd,h=>by
  rw[List.filterMap_cons]
  simp only[aE_,List.foldl_nil,Option.map_none]
  exact dW_ (ps:=[]) (List.pairwise_cons.1 hd).2 (List.nil_sublist _)
 | s::l,p::ps,hd,h=>by
  obtain⟨d1,d2⟩:=List.pairwise_cons.1 hd
  rw[List.filterMap_cons]
  by_cases hp:p.1=s.code
  ·have hs:(ps.map (·.1)).Sublist (l.map (·.code)):=by
    rw[List.map_cons,List.map_cons,hp] at h
    exact h.of_cons_cons
   have hn:aE_ ps s.code=none:=kL_ fun q hq e=>by
    have:=hs.subset (List.mem_map_of_mem hq)
    obtain⟨x,hx,hc⟩:=List.mem_map.1 this
    exact d1 x hx (by rw[hc,e])
   have e1:aE_ (p::ps) s.code=some p.2:=by rw[fI_,hn];exact if_pos hp
   rw[e1]
   simp only[Option.map_some]
   rw[←hp]
   congr 1
   refine Eq.trans (hS_ fun x hx=>?_) (dW_ (ps:=ps) d2 hs)
   rw[fI_]
   cases aE_ ps x.code with
   | some n=>rfl
   | none=>simp only;rw[if_neg (by rw[hp];exact d1 x hx)]
  ·have hs:((p::ps).map (·.1)).Sublist (l.map (·.code)):=by
    rw[List.map_cons (l:=l)] at h
    rcases List.sublist_cons_iff.1 h with h|⟨r,e,_⟩
    ·exact h
    ·exact absurd (List.cons.inj e).1 hp
   have hn:aE_ (p::ps) s.code=none:=kL_ fun q hq e=>by
    obtain⟨x,hx,hc⟩:=List.mem_map.1 (hs.subset (List.mem_map_of_mem hq))
    exact d1 x hx (by rw[hc,e])
   rw[hn]
   exact dW_ d2 hs
theorem mQ_ (s:ByteArray):(⟨(s.data.toList).toArray⟩:ByteArray)=s:=by cases s;simp
theorem mK_ {l:List Sh} (hd:Dist l) {n:Int} : boxB l n=true↔∃s∈l,s.code=n∧s.kind=2:=by
 unfold boxB
 cases e:ixS n l with
 | none=>exact⟨fun h=>(by cases h),fun⟨s,hs,hc,_⟩=>absurd hc (eI_.1 e s hs)⟩
 | some i=>
  obtain⟨a,s,b,rfl,rfl,h1,h2⟩:=dP_.1 e
  simp only
  rw[List.getElem?_append_right (Nat.le_refl _),Nat.sub_self]
  simp only[List.getElem?_cons_zero,decide_eq_true_eq]
  constructor
  ·intro h;exact⟨s,by simp,h1,h⟩
  ·rintro⟨u,hu,hc,hk⟩
   rw[hF_ hd (a:=s) (b:=u) (by simp) hu (by rw[h1,hc])]
   exact hk
theorem rB_ {a b:List Sh} (h:Dist (a++b)):Dist a:=(List.pairwise_append.1 h).1
theorem aAV {f:It→Option Int} (its:List It):((its.filterMap fun t=>(f t).map fun n=>(t.code,n)).map (·.1)).Sublist ((its.map shOf).map (·.code)):=by
 induction its with
 | nil=>exact List.Sublist.refl _
 | cons u its ih=>
  rw[List.filterMap_cons,List.map_cons,List.map_cons]
  cases f u with
  | none=>exact ih.cons _
  | some n=>exact ih.cons_cons _
theorem OkSt.dist {x:St} (h:OkSt x):Dist (x.its.map shOf):=by
 have:∀(n:Nat),Dist ((x.its.take n).map shOf):=by
  intro n
  induction n with
  | zero=>rw[List.take_zero];exact List.Pairwise.nil
  | succ n ih=>
   rcases Nat.lt_or_ge n x.its.length with hn|hn
   ·rw[List.take_succ_eq_append_getElem hn,List.map_append]
    refine List.pairwise_append.2 ⟨ih,List.pairwise_singleton _ _,fun a ha b hb=>?_⟩
    rw[List.mem_singleton.1 hb]
    obtain⟨u,hu,rfl⟩:=List.mem_map.1 ha
    have:=h.its (x.its.take n) x.its[n] (x.its.drop (n+1)) (by rw[List.getElem_cons_drop,List.take_append_drop])
    simp only[okS,Bool.and_eq_true] at this
    have:=List.all_eq_true.1 this.1.1.2 u hu
    exact of_decide_eq_true this
   ·rw[List.take_of_length_le (by omega)]
    rw[List.take_of_length_le hn] at ih
    exact ih
 have:=this x.its.length
 rwa[List.take_length] at this
theorem cP_ {x:SD} (h:cF_ x=true):OkSt (stOf x)∧asmD (stOf x)=x:=by
 simp only[cF_,Bool.and_eq_true,decide_eq_true_eq] at h
 obtain⟨⟨⟨⟨⟨h1,h2⟩,h3⟩,h4⟩,h5⟩,h6⟩:=h
 have hd:=nJ_ h3
 have hs:=(eG_ _ _).1 h3
 have hl:=(dX_ _ _).1 h4
 obtain⟨i1,i2⟩:=(fH_ hd _ _).1 h5
 obtain⟨m1,m2⟩:=(fH_ hd _ _).1 h6
 rw[List.drop_zero] at i1 m1
 obtain⟨ss,ins,mem,lds⟩:=x
 simp only at *
 constructor
 ·refine⟨by show(ss.map _).length≤60;simpa using h1,h2,fun pre t suf e=>?_,fun pre l suf e=>?_⟩
  ·obtain⟨a,r,e1,rfl,e2⟩:=List.map_eq_append_iff.1 (show ss.map (itOf ⟨ss,ins,mem,lds⟩)=pre++t::suf from e)
   obtain⟨s,b,rfl,rfl,rfl⟩:=List.map_eq_cons_iff.1 e2
   have hn:=hs a s b e1
   rw[List.nil_append] at hn
   simp only[gP_,Bool.and_eq_true,decide_eq_true_eq] at hn
   obtain⟨⟨⟨n1,n2⟩,n3⟩,n4⟩:=hn
   have hix:ixS s.code ss=some a.length:=by rw[e1];exact qU_ (e1▸hd)
   have htk:ss.take a.length=a:=by rw[e1];simp
   simp only[okS,Bool.and_eq_true]
   refine⟨⟨⟨⟨n2,n3⟩,List.all_eq_true.2 fun u hu=>?_⟩,?_⟩,?_⟩
   ·obtain⟨v,hv,rfl⟩:=List.mem_map.1 hu
    exact decide_eq_true (eI_.1 n4 v hv)
   ·show(match aE_ ins s.code with|none=>true|some n=>_)=true
    cases e3:aE_ ins s.code with
    | none=>rfl
    | some n=>
     have:=i2 _ (oA_ e3) _ hix
     rw[htk] at this
     obtain⟨u,hu,hc,hk⟩:=(mK_ (rB_ (e1▸hd))).1 this
     refine List.any_eq_true.2 ⟨itOf ⟨ss,ins,mem,lds⟩ u,List.mem_map_of_mem hu,?_⟩
     simp only[Bool.and_eq_true,decide_eq_true_eq]
     exact⟨hc,hk⟩
   ·show(match aE_ mem s.code with|none=>true|some n=>_)=true
    cases e3:aE_ mem s.code with
    | none=>rfl
    | some n=>exact m2 _ (oA_ e3) _ hix
  ·have:=hl pre l suf e
   rwa[List.nil_append] at this
 ·unfold asmD stOf
  congr 1
  ·show(ss.map (itOf _)).map shOf=ss
   rw[List.map_map]
   refine Eq.trans (List.map_congr_left (g:=id) fun s hs2=>?_) (List.map_id _)
   obtain⟨a,b,e⟩:=eV_ hs2
   have hn:=hs a s b e
   simp only[gP_,eT_,Bool.and_eq_true,decide_eq_true_eq] at hn
   obtain⟨⟨⟨⟨⟨p1,p2⟩,p3⟩,_⟩,_⟩,_⟩:=hn
   obtain⟨c,k,r,pa,pb,w⟩:=s
   simp only at p1 p2 p3
   subst p1 p2 p3
   show(⟨c,k,zRc,zPl,zPl,⟨(w.data.toList).toArray⟩⟩:Sh)=_
   rw[mQ_]
   rfl
  ·show(ss.map (itOf _)).filterMap _=ins
   rw[List.filterMap_map]
   exact dW_ hd i1
  ·show(ss.map (itOf _)).filterMap _=mem
   rw[List.filterMap_map]
   exact dW_ hd m1
theorem uP_ {x:St} (h:OkSt x):cF_ (asmD x)=true:=by
 have hd:=h.dist
 simp only[cF_,Bool.and_eq_true,decide_eq_true_eq]
 have key:∀(f:It→Option Int) (right:Nat→Int→Bool),(∀pre t suf n,x.its=pre++t::suf→f t=some n→right pre.length n=true)→cQ_ (x.its.map shOf) right 0 (x.its.filterMap fun t=>(f t).map fun n=>(t.code,n))=true:=fun f right hr=>by
  refine(fH_ hd _ _).2 ⟨by rw[List.drop_zero];exact aAV _,fun p hp i hi=>?_⟩
  obtain⟨t,ht,hp2⟩:=List.mem_filterMap.1 hp
  cases e:f t with
  | none=>rw[e] at hp2;cases hp2
  | some n=>
   rw[e] at hp2
   cases hp2
   obtain⟨a,b,e1⟩:=eV_ ht
   have:ixS t.code (x.its.map shOf)=some a.length:=by
    have h7:x.its.map shOf=a.map shOf++shOf t::b.map shOf:=by rw[e1,List.map_append,List.map_cons]
    rw[h7]
    have:=qU_ (h7▸hd)
    rw[List.length_map] at this
    exact this
   rw[this] at hi
   cases hi
   exact hr a t b n e1 e
 refine⟨⟨⟨⟨⟨by show(x.its.map shOf).length≤60;rw[List.length_map];exact h.n,h.m⟩,(eG_ _ _).2 fun a s b e=>?_⟩,(dX_ _ _).2 fun a s b e=>by rw[List.nil_append];exact h.ls a s b e⟩,?_⟩,?_⟩
 ·obtain⟨p,r,e1,rfl,e2⟩:=List.map_eq_append_iff.1 (show x.its.map shOf=a++s::b from e)
  obtain⟨t,q,rfl,rfl,rfl⟩:=List.map_eq_cons_iff.1 e2
  have ho:=h.its p t q e1
  simp only[okS,Bool.and_eq_true] at ho
  obtain⟨⟨⟨⟨o1,o2⟩,o3⟩,_⟩,_⟩:=ho
  rw[List.nil_append]
  simp only[gP_,eT_,Bool.and_eq_true,decide_eq_true_eq]
  refine⟨⟨⟨⟨⟨rfl,rfl⟩,rfl⟩,o1⟩,o2⟩,eI_.2 fun u hu=>?_⟩
  obtain⟨v,hv,rfl⟩:=List.mem_map.1 hu
  have:=List.all_eq_true.1 o3 v hv
  exact of_decide_eq_true this
 ·refine key It.i _ fun pre t suf n e hn=>?_
  have ho:=h.its pre t suf e
  simp only[okS,Bool.and_eq_true] at ho
  have ho:=ho.1.2
  rw[hn] at ho
  obtain⟨u,hu,hu2⟩:=List.any_eq_true.1 ho
  simp only[Bool.and_eq_true,decide_eq_true_eq] at hu2
  have e7:(asmD x).shapes.take pre.length=pre.map shOf:=by
   show(x.its.map shOf).take pre.length=_
   rw[←List.map_take,e]
   simp
  rw[e7]
  refine(mK_ ?_).2 ⟨shOf u,List.mem_map_of_mem hu,hu2.1,hu2.2⟩
  have:=hd
  rw[e,List.map_append] at this
  exact rB_ this
 ·refine key It.m _ fun pre t suf n e hn=>?_
  have ho:=h.its pre t suf e
  simp only[okS,Bool.and_eq_true] at ho
  have ho:=ho.2
  rw[hn] at ho
  simpa using ho
def optC (p:Option Sh):Option Int:=p.map (·.code)
def dZ_ (l:List Sh) (mem:Int→Option Int) (s:Sh):It:=⟨s.kind,s.code,s.word.data.toList,optC (parK l s),mem s.code⟩
def aCZ (l:List Sh) (mem:Int→Option Int) (ls:List L3):St:=⟨(rdx l 0).map (dZ_ l mem),ls⟩
theorem Ld.rd_before {l:List Sh} (H:Ld l):∀(n:Nat) (c:Int) (A B:List Sh) (s:Sh),rdL l n c=A++s::B→s∈aM_ l c∨∃p∈A,parK l s=some p
 | 0,_,A,B,s,h=>by cases A <;> cases h
 | n+1,c,A,B,s,h=>by
  have key:∀(ks A:List Sh),(∀k∈ks,k∈aM_ l c)→ks.flatMap (fun t=>t::rdL l n t.code)=A++s::B→s∈aM_ l c∨∃p∈A,parK l s=some p:=by
   intro ks
   induction ks with
   | nil=>intro A _ h;cases A <;> cases h
   | cons t ks ih=>
    intro A hk h
    rw[List.flatMap_cons,List.cons_append] at h
    cases A with
    | nil=>obtain⟨rfl,_⟩:=List.cons.inj h;exact .inl (hk _ List.mem_cons_self)
    | cons a A=>
     obtain⟨rfl,h7⟩:=List.cons.inj h
     rcases List.append_eq_append_iff.1 h7 with ⟨a',e1,e2⟩|⟨c',e1,e2⟩
     ·rcases ih a' (fun k hk'=>hk k (List.mem_cons_of_mem _ hk')) e2 with h|⟨p,hp,h2⟩
      ·exact .inl h
      ·exact .inr ⟨p,List.mem_cons_of_mem _ (by rw[e1];exact List.mem_append_right _ hp),h2⟩
     ·cases c' with
      | nil=>
       rw[List.append_nil] at e1
       rw[List.nil_append] at e2
       rcases ih [] (fun k hk'=>hk k (List.mem_cons_of_mem _ hk')) e2.symm with h|⟨p,hp,_⟩
       ·exact .inl h
       ·cases hp
      | cons x c'=>
       obtain⟨rfl,rfl⟩:=List.cons.inj e2
       rcases H.rd_before n _ A c' s e1 with h|⟨p,hp,h2⟩
       ·refine .inr ⟨_,List.mem_cons_self,H.par_of (aJ_.1 (hk _ List.mem_cons_self)).1 (aJ_.1 h).2⟩
       ·exact .inr ⟨p,List.mem_cons_of_mem _ hp,h2⟩
  exact key _ A (fun k hk=>hk) h
theorem Ld.rdx_before {l:List Sh} (H:Ld l) {A B:List Sh} {s p:Sh} (h:rdx l 0=A++s::B) (hp:parK l s=some p):p∈A:=by
 rcases H.rd_before _ _ A B s h with h1|⟨q,hq,h2⟩
 ·have hs:=(aJ_.1 h1).1
  have:=(aJ_.1 h1).2
  have h3:=H.par hs hp
  have:=(H.bds p h3.1).2.1
  omega
 ·rw[hp] at h2;cases h2;exact hq
theorem Ld.rdx_len {l:List Sh} (H:Ld l):(rdx l 0).length=l.length:=H.rdx_perm.length_eq
theorem qO_ {l:List Sh} (H:Ld l):Dist (rdx l 0):=(jM_ H.rdx_perm).2 H.dst
theorem Ld.say_ok {l:List Sh} (H:Ld l) (hn:l.length≤60) (hf:∀s∈l,bS_ s.kind s.word.data.toList=true) {mem:Int→Option Int} (hm:∀c n,mem c=some n→0≤n∧n≤999) {ls:List L3} (hls:ls.length≤40) (hl:cW_ [] ls=true):OkSt (aCZ l mem ls):=by
 refine⟨by show((rdx l 0).map _).length≤60;rw[List.length_map,H.rdx_len];exact hn,hls,fun pre t suf e=>?_,fun pre t suf e=>by have:=(dX_ _ _).1 hl pre t suf e;rwa[List.nil_append] at this⟩
 obtain⟨a,r,e1,rfl,e2⟩:=List.map_eq_append_iff.1 (show(rdx l 0).map (dZ_ l mem)=pre++t::suf from e)
 obtain⟨s,b,rfl,rfl,rfl⟩:=List.map_eq_cons_iff.1 e2
 have hs:s∈l:=H.mem_rdx.1 (by rw[e1];simp)
 have hb:=H.bds s hs
 have hd:=qO_ H
 rw[e1] at hd
 simp only[okS,Bool.and_eq_true]
 refine⟨⟨⟨⟨?_,hf s hs⟩,List.all_eq_true.2 fun u hu=>?_⟩,?_⟩,?_⟩
 ·show aN_ s.code=true
  unfold aN_
  rw[decide_eq_true hb.2.1,decide_eq_true hb.2.2];rfl
 ·obtain⟨v,hv,rfl⟩:=List.mem_map.1 hu
  exact decide_eq_true (gU_ hd v hv)
 ·show(match optC (parK l s) with|none=>true|some n=>_)=true
  cases e3:parK l s with
  | none=>rfl
  | some p=>
   refine List.any_eq_true.2 ⟨dZ_ l mem p,List.mem_map_of_mem (H.rdx_before e1 e3),?_⟩
   simp only[Bool.and_eq_true,decide_eq_true_eq]
   exact⟨rfl,(fK_.1 (eH_ e3).2).1⟩
 ·show(match mem s.code with|none=>true|some n=>_)=true
  cases e3:mem s.code with
  | none=>rfl
  | some n=>
   have:=hm _ _ e3
   simp only[Bool.and_eq_true,decide_eq_true_eq]
   exact this
theorem oF_:∀(ws:List (List Bs)) {x y:St} {many:Nat} (r:Bs),(∀w∈ws,w≠[]∧(∀b∈w,32 ∉ b)∧46 ∉ gT_ w)→aEE x ws=some y→eA_ x many (jU_ many ws++r)=eA_ y (many+ws.length) r
 | [],x,y,many,r,_,h=>by
  cases h
  have:jU_ many []=[]:=by unfold jU_;split <;> rfl
  rw[this];rfl
 | w::ws,x,y,many,r,hw,h=>by
  obtain⟨h1,h2,h3⟩:=hw w List.mem_cons_self
  unfold aEE at h
  cases e:cJ_ x w with
  | none=>rw[e] at h;cases h
  | some z=>
   rw[e] at h
   have hn:fP_ many (jU_ many (w::ws)++r)=some (gT_ w,jU_ (many+1) ws++r):=by
    rw[sS_,List.append_assoc,List.cons_append]
    unfold fP_
    by_cases hm:many=0
    ·rw[if_pos hm,List.nil_append,mH_ h3]
     simp only
     rw[if_pos hm]
    ·rw[if_neg hm,List.singleton_append,mH_ (by
      intro h
      rcases List.mem_cons.1 h with h|h
      ·exact absurd h (by decide)
      ·exact h3 h)]
     simp only
     rw[if_neg hm]
   rw[kQ_ hn (by rw[show bB_ 32 (gT_ w)=w from kD_ h1 h2];exact e),oF_ ws r (fun v hv=>hw v (List.mem_cons_of_mem _ hv)) h,List.length_cons]
   congr 1
   omega
def lG_ (b:Bs):Bs→Option (Bs×Bs)
 | 32::s=>some (s,b)
 | _=>none
theorem vQ_ (n:Nat) {a:Bs} (b:Bs) (h1:46 ∉ a):fP_ n (a++46::b)=if n=0 then some (a,b) else lG_ b a:=by
 unfold fP_
 rw[mH_ h1]
 rfl
theorem sE_ {n:Nat} {y:St} {r:Bs} (hr:r≠[]) (h:fP_ n r=none∨∃s b,fP_ n r=some (s,b)∧cJ_ y (bB_ 32 s)=none) {r':Bs} (h':(46 ∉ r∧r'=r)∨∃a b,r=a++46::b∧46 ∉ a∧r'=a++[46]):eA_ y n r'=.bad n:=by
 rcases h' with ⟨h1,rfl⟩|⟨a,b,rfl,h1,rfl⟩
 ·rcases h with h|⟨s,b,h,h2⟩
  ·exact hE_ hr h
  ·exact eJ_ h h2
 ·have e:=fun b':Bs=>vQ_ n b' h1
  rw[e b] at h
  have hne:a++[46]≠[]:=by simp
  by_cases hn:n=0
  ·rw[if_pos hn] at h
   rcases h with h|⟨s,b2,h,h2⟩
   ·cases h
   ·cases h
    exact eJ_ (by rw[e [],if_pos hn]) h2
  ·rw[if_neg hn] at h
   have hu:(∀b',lG_ b' a=none)∨∃s0,∀b',lG_ b' a=some (s0,b'):=by
    unfold lG_
    split
    ·exact .inr ⟨_,fun _=>rfl⟩
    ·exact .inl fun _=>rfl
   rcases hu with hu|⟨s0,hu⟩
   ·refine hE_ hne ?_
    rw[e [],if_neg hn,hu]
   ·rw[hu] at h
    rcases h with h|⟨s,b2,h,h2⟩
    ·cases h
    ·cases h
     exact eJ_ (by rw[e [],if_neg hn,hu]) h2
theorem jF_ (c:UInt8):∀(ws:List Bs),(dB_ c ws).length≤(ws.map fun w=>w.length+1).sum
 | []=>Nat.zero_le _
 | [w]=>by simp[dB_]
 | w::v::ws=>by
  have:=jF_ c (v::ws)
  show(w++c::dB_ c (v::ws)).length≤_
  simp only[List.map_cons,List.sum_cons,List.length_append,List.length_cons] at *
  omega
theorem eE_ {n:Int} (h0:0≤n) (h1:n≤39999):(txt n).length≤5:=by
 have e:txt n=txtN n.natAbs:=by unfold txt;rw[if_neg (by omega)]
 rw[e]
 exact(hB_ (n:=n.natAbs) (k:=5) (by omega)).2 (by omega)
theorem wE_ (k:Int):(aL_ k).length≤6:=by
 unfold aL_
 repeat' split
 all_goals decide
theorem nK_ {its:List It} {t:It} (h:okS its t=true) (hc:∀u∈its,1≤u.code∧u.code≤39999):(gT_ (fQ_ t)).length≤60:=by
 obtain⟨h1,h2,h3,h4⟩:=aDQ h hc
 refine Nat.le_trans (jF_ 32 _) ?_
 rw[show fQ_ t=[aL_ t.kind,txt t.code]++(if t.word=[] then [] else [bZ_,t.word])++iT_ t.i++aDH t.m from rfl]
 have e1:=wE_ t.kind
 have e2:=eE_ h1.1 h1.2
 have e3:((if t.word=[] then ([]:List Bs) else [bZ_,t.word]).map fun w=>w.length+1).sum≤8:=by
  split
  ·exact Nat.zero_le _
  ·have:t.word.length≤1:=by
    unfold bS_ at h2
    split at h2
    ·split at h2
     next c e=>rw[e];exact Nat.le_refl _
     next=>cases h2
    ·simp only[Bool.and_eq_true,decide_eq_true_eq] at h2
     rw[h2.2];exact Nat.zero_le _
   simp[bZ_]
   omega
 have e4:((iT_ t.i).map fun w=>w.length+1).sum≤9:=by
  cases hn:t.i with
  | none=>exact Nat.zero_le _
  | some n=>
   have:=eE_ (h3 n hn).1 (h3 n hn).2
   simp[iT_,wIn]
   omega
 have e5:((aDH t.m).map fun w=>w.length+1).sum≤15:=by
  cases hn:t.m with
  | none=>exact Nat.zero_le _
  | some n=>
   have:=eE_ (h4 n hn).1 (h4 n hn).2
   simp[aDH,wOf,bT_]
   omega
 simp only[List.map_append,List.sum_append_nat,List.map_cons,List.map_nil,List.sum_cons,List.sum_nil]
 omega
theorem uH_ {ls:List L3} {l:L3} (h:okL ls l=true):(gT_ (gG_ l)).length≤60:=by
 obtain⟨h1,h2,h3⟩:=vM_ h
 refine Nat.le_trans (jF_ 32 _) ?_
 have e1:=eE_ (show 0≤l.1 by omega) h1.2
 have e2:=eE_ (show 0≤l.2.1 by omega) h2.2
 have e3:=eE_ (show 0≤l.2.2 by omega) h3.2
 unfold gG_
 simp[bA_,aH_,eC_,wTo]
 omega
theorem mZ_:∀(ws:List (List Bs)),(∀w∈ws,(gT_ w).length≤60)→(nA_ ws).length≤62*ws.length
 | [],_=>Nat.zero_le _
 | w::ws,h=>by
  have e1:=mZ_ ws fun v hv=>h v (List.mem_cons_of_mem _ hv)
  have e2:=h w List.mem_cons_self
  show((32::eP_ w)++nA_ ws).length≤_
  simp only[eP_,List.length_append,List.length_cons,List.length_nil]
  omega
theorem tV_ (ws:List (List Bs)) (h:∀w∈ws,(gT_ w).length≤60):(tW_ ws).length≤62*ws.length:=by
 cases ws with
 | nil=>exact Nat.zero_le _
 | cons w ws=>
  have e1:=mZ_ ws fun v hv=>h v (List.mem_cons_of_mem _ hv)
  have e2:=h w List.mem_cons_self
  show(eP_ w++nA_ ws).length≤_
  simp only[eP_,List.length_append,List.length_cons,List.length_nil]
  omega
theorem OkSt.text_len {x:St} (h:OkSt x):(tW_ (allW x)).length≤6200:=by
 refine Nat.le_trans (tV_ _ fun w hw=>?_) ?_
 ·rcases List.mem_append.1 hw with hw|hw
  ·obtain⟨t,ht,rfl⟩:=List.mem_map.1 hw
   obtain⟨a,b,e⟩:=eV_ ht
   exact nK_ (h.its a t b e) fun u hu=>h.codes u (by rw[e];exact List.mem_append_left _ hu)
  ·obtain⟨l,hl,rfl⟩:=List.mem_map.1 hw
   obtain⟨a,b,e⟩:=eV_ hl
   exact uH_ (h.ls a l b e)
 ·have h1:=h.n
  have h2:=h.m
  simp only[allW,List.length_append,List.length_map]
  omega
structure Gr where
 id:Int
 of:Int
 mem:List Int
def hC_ (prev:List Int):List Int→List Int→Bool
 | _,[]=>true
 | pre,c::r=>decide (1≤c)&&decide (c≤39999)&&(match pre.getLast? with | none=>true | some p=>decide (p<c))&&decide (c ∉ prev)&&hC_ prev (pre++[c]) r
def dQ_:List Gr→List Gr→Bool
 | _,[]=>true
 | pre,g::r=>decide (0≤g.id)&&decide (g.id≤999)&&(match pre.getLast? with | none=>true | some p=>decide (p.id<g.id))&&hC_ (pre.flatMap (·.mem)) [] g.mem&&dQ_ (pre++[g]) r
def sU_ (l:List Gr) (id:Int):Option Gr:=l.find? fun g=>decide (g.id=id)
def outG (l:List Gr):Nat→Int→Bool
 | 0,id=>decide (id = -1)
 | n+1,id=>if id = -1 then true else match sU_ l id with | none=>false | some g=>outG l n g.of
def bJ_ (l:List Gr):Bool:=dQ_ [] l&&l.all (fun g=>outG l 12 g.id)&&decide (l.length≤24)
def memG (l:List Gr) (c:Int):Option Int:=(l.find? fun g=>g.mem.contains c).map (·.id)
theorem memG_b {l:List Gr} (h:bJ_ l=true) (c n:Int) (hn:memG l c=some n):0≤n∧n≤999:=by
 unfold memG at hn
 cases e:l.find? fun g=>g.mem.contains c with
 | none=>rw[e] at hn;cases hn
 | some g=>
  rw[e] at hn
  cases hn
  have hg:=List.mem_of_find?_eq_some e
  simp only[bJ_,Bool.and_eq_true] at h
  have key:∀(l pre:List Gr),dQ_ pre l=true→g∈l→0≤g.id∧g.id≤999:=by
   intro l
   induction l with
   | nil=>intro _ _ h;cases h
   | cons x l ih=>
    intro pre h hg
    simp only[dQ_,Bool.and_eq_true,decide_eq_true_eq] at h
    rcases List.mem_cons.1 hg with rfl|hg
    ·exact⟨h.1.1.1.1,h.1.1.1.2⟩
    ·exact ih _ h.2 hg
  exact key l [] h.1.1 hg
end Go.Proofs.YtdkaohphbgdkpaaGreatDoor
