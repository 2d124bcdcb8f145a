/- - -/
import Derived.Test.YtlikmmpmnaaifaaGreatDoorZPl8
import Derived.Test.YtlikmmpmnaaifaaGreatDoorZPl15
import Derived.Test.YtlikmmpmnaaifaaGreatDoorZQT
set_option maxHeartbeats 40000000
set_option maxRecDepth 1000000
open Go.Lib (hid)
namespace Go.Proofs.YtlikmmpmnaaifaaGreatDoor
open Go.RowKit Go.Shelf
attribute [local go_sem] Oper.semAt_some
def stK (a b:Pl) (r:Rc) (L T:Option Rat) (k:Nat):List (Option Rat):=
 [L,T]++((([r.y,r.y+r.h]:List Int).take k).filter fun y=>decide (a.y≠b.y)&&leO L (dK_ a b y)&&leO (dK_ a b y) T).map (dK_ a b)
theorem xO_ {a b:Pl} {r:Rc} {L T:Option Rat} {k:Nat} {y:Int} (hy:([r.y,r.y+r.h]:List Int)[k]?=some y) :
  stK a b r L T (k+1)=stK a b r L T k++if decide (a.y≠b.y)&&leO L (dK_ a b y)&&leO (dK_ a b y) T then [dK_ a b y] else []:=by
 unfold stK
 rw[List.take_add_one,hy,List.filter_append,List.map_append,List.append_assoc]
 congr 2
 show List.map _ (List.filter _ [y])=_
 rw[List.filter_cons]
 split <;> rfl
theorem aNS (a b:Pl) (r:Rc):stK a b r (kX_ a r) (fX_ b r) 2=sM_ a b r:=rfl
theorem aMP {a b:Pl} {r:Rc} {L T:Option Rat} (h1:FO L) (h2:FO T) (k:Nat):∀x∈stK a b r L T k,FO x:=by
 intro x hx
 unfold stK at hx
 rcases List.mem_append.1 hx with hx|hx
 ·simp at hx
  rcases hx with rfl|rfl
  ·exact h1
  ·exact h2
 ·obtain⟨y,_,rfl⟩:=List.mem_map.1 hx
  exact FO.add _ _
theorem aDE (a b:Pl) (r:Rc) (L T:Option Rat) (k:Nat):2≤(stK a b r L T k).length∧(stK a b r L T k).length≤4:=by
 unfold stK
 have:=List.length_filter_le (fun y=>decide (a.y≠b.y)&&leO L (dK_ a b y)&&leO (dK_ a b y) T) (([r.y,r.y+r.h]:List Int).take k)
 have h2:=List.length_take_le k ([r.y,r.y+r.h]:List Int)
 have h3:(([r.y,r.y+r.h]:List Int).take k).length≤2:=by simp;omega
 simp only[List.length_append,List.length_map,List.length_cons,List.length_nil]
 omega
theorem oF_ {r:Rc} (hr:vRc r=true) (y:Option Rat):FO (bU_ r y):=by
 obtain⟨⟨r1,r2⟩,⟨r3,r4⟩,⟨r5,r6⟩,⟨r7,r8⟩,r9,r10⟩:=rW_ hr
 unfold bU_
 simp only
 split
 ·exact cX_ (by decide) (by decide)
 ·split
  ·exact cX_ (by omega) (by omega)
  ·exact FO.sub _ _
theorem aCX {a b:Pl} {r:Rc} {S:List (Option Rat)} {i:Nat} {s t:Option Rat} (hs:S[i]?=some s) (ht:S[i+1]?=some t) (acc:Option Rat) :
  sumO a b r (S.drop i) acc=sumO a b r (S.drop (i+1)) (plO acc (tiO (ovO (plO (bU_ r (bS_ a b s)) (bU_ r (bS_ a b t))) (whO 2)) (miO t s))):=by
 obtain⟨h1,rfl⟩:=List.getElem?_eq_some_iff.1 hs
 obtain⟨h2,rfl⟩:=List.getElem?_eq_some_iff.1 ht
 rw[List.drop_eq_getElem_cons h1,List.drop_eq_getElem_cons h2]
 rfl
theorem aCY {a b:Pl} {r:Rc} {S:List (Option Rat)} {m:Nat} (h:S.length=m∧1≤m) (acc:Option Rat):sumO a b r (S.drop (m-1)) acc=acc:=by
 have hl:(S.drop (m-1)).length=1:=by rw[List.length_drop];omega
 obtain⟨x,hx⟩:=List.length_eq_one_iff.1 hl
 rw[hx]
 rfl
theorem aCN {a b:Pl} {r:Rc} (ha:vP a=true) (hb:vP b=true) (hr:vRc r=true) {w:World} (hi:IOps w) (hf:FrOp w) :
  Calls Tryz.prog 86 #[.agg #[.int .i64 a.x,.int .i64 a.y],.agg #[.int .i64 b.x,.int .i64 b.y],.agg #[.int .i64 r.x,.int .i64 r.y,.int .i64 r.w,.int .i64 r.h]] w fun e W'=>e=.returned (.agg #[.string (qN (dR_ a b r)),.string (qD (dR_ a b r))])∧Below w.heap.size w W':=by
 obtain⟨⟨r1,r2⟩,⟨r3,r4⟩,⟨r5,r6⟩,⟨r7,r8⟩,r9,r10⟩:=rW_ hr
 obtain⟨⟨a1,a2⟩,a3,a4⟩:=vP_b ha
 obtain⟨⟨b1,b2⟩,b3,b4⟩:=vP_b hb
 have HV:=hid (And.intro ha (And.intro hb hr))
 have HI:=hid hi
 have HF:=hid hf
 have g1:FO (kX_ a r):=cX_ (by omega) (by omega)
 have g2:FO (fX_ b r):=cX_ (by omega) (by omega)
 have K1:=hid (fun(W:World) (h:Below w.heap.size w W)=>(show Calls _ _ _ W fun e W'=>e=.returned (.agg #[.string (qN (kX_ a r)),.string (qD (kX_ a r))])∧Below W.heap.size W W' from cO_ (n:=max a.x r.x) (by omega) (by omega) (hi.below h) (hf.below h)))
 have K2:=hid (fun(W:World) (h:Below w.heap.size w W)=>(show Calls _ _ _ W fun e W'=>e=.returned (.agg #[.string (qN (fX_ b r)),.string (qD (fX_ b r))])∧Below W.heap.size W W' from cO_ (n:=min b.x (r.x+r.w)) (by omega) (by omega) (hi.below h) (hf.below h)))
 have KL:=hid (fun(W:World) (h:Below w.heap.size w W)=>tJ_ g1 g2 (hi.below h))
 have K0:=hid (fun(W:World) (h:Below w.heap.size w W)=>cO_ (n:=0) (by decide) (by decide) (hi.below h) (hf.below h))
 have G:=hid (And.intro g1 g2)
 clear ha hb hr hi hf g1 g2
 obtain⟨res,hres⟩:∃res,res=dR_ a b r:=⟨_,rfl⟩
 rw[←hres]
 have HRES:=hid hres
 clear hres
 obtain⟨L,hL⟩:∃L,L=kX_ a r:=⟨_,rfl⟩
 obtain⟨T,hT⟩:∃T,T=fX_ b r:=⟨_,rfl⟩
 rw[←hL] at K1 KL G
 rw[←hT] at K2 KL G
 have HLT:=hid (And.intro hL hT)
 clear hL hT
 have hmx:Tryz.prog.follows .mixedOrders=true:=by kernel_rfl
 have hwr:IntKind.i64.wrap (r.x+r.w)=r.x+r.w:=IntWalk.i64_in _ (by omega)
 have H0:=hid (show AzAt [(w.heap.size+3,[.string ⟨#[]⟩,.string ⟨#[]⟩]),(w.heap.size+2,[.int .i64 r.x,.int .i64 r.y,.int .i64 r.w,.int .i64 r.h]),(w.heap.size+1,[.int .i64 b.x,.int .i64 b.y]),(w.heap.size,[.int .i64 a.x,.int .i64 a.y])] w _ from by
  have hp:=((((AzAt.start w).push [.int .i64 a.x,.int .i64 a.y] 26).push [.int .i64 b.x,.int .i64 b.y] 26).push [.int .i64 r.x,.int .i64 r.y,.int .i64 r.w,.int .i64 r.h] 29).push [.string ⟨#[]⟩,.string ⟨#[]⟩] 109
  simp only[World.size_alloc] at hp
  exact hp)
 go_enter Tryz.func86,Tryz.ntmps86
 go_wp2
 refine pU_ (A:=?fr) 15 7 8 [.string ⟨#[]⟩,.string ⟨#[]⟩] [.string ⟨#[]⟩,.string ⟨#[]⟩] 109 109 hmx (by kernel_rfl) ⟨_,rfl,rfl,rfl,fun b W=>?al1⟩ ⟨_,rfl,rfl,rfl,fun b W=>?al2⟩ ?h ?ht
 case al1=>simp[go_sem]
 case al2=>simp[go_sem]
 case h=>
  intro U hU
  have hp:=H0.out.below hU
  have x0:=cell_regrown ((hp.row (w.heap.size,[.int .i64 a.x,.int .i64 a.y]) (by simp)).row 0 _ rfl)
  have x1:=cell_regrown ((hp.row (w.heap.size+1,[.int .i64 b.x,.int .i64 b.y]) (by simp)).row 0 _ rfl)
  have h_:=hp.row (w.heap.size+2,[.int .i64 r.x,.int .i64 r.y,.int .i64 r.w,.int .i64 r.h]) (by simp)
  have x2:=cell_regrown (h_.row 0 _ rfl)
  have x3:=cell_regrown (h_.row 2 _ rfl)
  clear h_
  have c0:=fun d os=>Calls.regrown_of (d:=d) (os:=os) (K1.out _ (hp.bw.trans ((below_regrown U d os).mono hp.bw.size)))
  have c1:=fun d os=>Calls.regrown_of (d:=d) (os:=os) (K2.out _ (hp.bw.trans ((below_regrown U d os).mono hp.bw.size)))
  clear hp
  simp only[List.take_succ_cons,List.take_zero]
  repeat (go_big_quiet_step (with_reducible first|exact c0 _ _|exact c1 _ _))
  refine wpQuiet_nil ?_
  rfl
 case ht=>
  intro X1 X2 W1 hW hX1 hX2 hne cX1 cX2
  simp only[World.size_alloc] at hX1 hX2
  have H1:=hid (show AzAt [(X2,[.string (qN T),.string (qD T)]),(X1,[.string (qN L),.string (qD L)]),(w.heap.size+3,[.string ⟨#[]⟩,.string ⟨#[]⟩]),(w.heap.size+2,[.int .i64 r.x,.int .i64 r.y,.int .i64 r.w,.int .i64 r.h]),(w.heap.size+1,[.int .i64 b.x,.int .i64 b.y]),(w.heap.size,[.int .i64 a.x,.int .i64 a.y])] w _ from by
   have h1:=((H0.out.below hW).cons cX2).cons cX1
   exact((h1.set2 (by omega) (by simp <;> omega) (.string (qN L)) (.string (qD L))).swap.set2 (by omega) (by simp <;> omega) (.string (qN T)) (.string (qD T))))
  have x0:=cX1.row 0 _ rfl
  have x1:=cX1.row 1 _ rfl
  have x2:=cX2.row 0 _ rfl
  have x3:=cX2.row 1 _ rfl
  have f0:=cX1.fz 0 (by simp)
  have f1:=cX1.fz 1 (by simp)
  have f2:=cX2.fz 0 (by simp)
  have f3:=cX2.fz 1 (by simp)
  clear cX1 cX2 hW
  simp only[List.drop_succ_cons,List.drop_zero]
  cases hlt:leO L T with
  | false=>
   rw[hlt] at KL
   have HR:=hid (show res=whO 0 from by rw[HRES.out];unfold dR_;rw[←HLT.out.1,←HLT.out.2,hlt];rfl)
   clear HRES HLT hlt
   rw[←HR.out] at K0
   clear HR
   go_wp2_with (first
    | (go_at_call 137;(with_reducible refine(KL.out _ (by with_reducible exact H1.out.bw)).mono ?_);rintro e w1 ⟨rfl,hb⟩;have H2:=hid (H1.out.below hb);clear hb x0 x1 x2 x3 f0 f1 f2 f3)
    | (go_at_call 84;(with_reducible refine(K0.out _ (by with_reducible exact H2.out.bw)).mono ?_);rintro e w2 ⟨rfl,hb⟩;have H3:=hid ((H2.out.below hb).sub (L':=[(w.heap.size+3,[.string ⟨#[]⟩,.string ⟨#[]⟩])]) (fun x hx=>by simp at hx;subst hx;simp));clear hb;have h_:=H3.out.row (w.heap.size+3,[.string ⟨#[]⟩,.string ⟨#[]⟩]) (by simp);have x0:=h_.row 0 _ rfl;have x1:=h_.row 1 _ rfl;have f0:=h_.fz 0 (by simp);have f1:=h_.fz 1 (by simp);clear h_)
    | fail)
   have hp:=H3.out.set2 (by omega) (by simp <;> omega) (.string (qN res)) (.string (qD res))
   generalize ((w2.setCell ⟨w.heap.size+3,0,none⟩ (.string (qN res))).setCell ⟨w.heap.size+3,1,none⟩ (.string (qD res)))=WF at hp⊢
   have h_:=hp.row (w.heap.size+3,[.string (qN res),.string (qD res)]) (by simp)
   have q0:=h_.row 0 _ rfl
   have q1:=h_.row 1 _ rfl
   clear h_
   refine bodyPost_ret (v:=.agg #[.string (qN res),.string (qD res)]) ?_ rfl ⟨rfl,hp.bw⟩
   simp[results,Tryz.results86,go_sem,Result.andThen,q0,q1]
  | true=>
   rw[hlt] at KL
   have HR:=hid (show res=sumO a b r (cQ_ leO (sM_ a b r)) (whO 0) from by rw[HRES.out];unfold dR_;rw[←HLT.out.1,←HLT.out.2,hlt];rfl)
   clear HRES hlt
   go_wp2_with (first
    | (go_at_call 137;(with_reducible refine(KL.out _ (by with_reducible exact H1.out.bw)).mono ?_);rintro e w1 ⟨rfl,hb⟩;have H2:=hid (H1.out.below hb);clear hb x0 x1 x2 x3 f0 f1 f2 f3)
    | fail)
   have K3:=hid (fun(W:World) (h:Below w.heap.size w W)=>cO_ (n:=b.y-a.y) (by omega) (by omega) (HI.out.below h) (HF.out.below h))
   have K4:=hid (fun(W:World) (h:Below w.heap.size w W)=>cO_ (n:=b.x-a.x) (by omega) (by omega) (HI.out.below h) (HF.out.below h))
   have K5:=hid (fun(W:World) (h:Below w.heap.size w W)=>(show Calls _ _ _ W fun e W'=>e=.returned (.agg #[.string (qN (mF_ a b)),.string (qD (mF_ a b))])∧Below W.heap.size W W' from aER (x:=whO (b.y-a.y)) (y:=whO (b.x-a.x)) (cX_ (by omega) (by omega)) (cX_ (by omega) (by omega)) (HI.out.below h)))
   obtain⟨Sl,hSl⟩:∃Sl,Sl=mF_ a b:=⟨_,rfl⟩
   rw[←hSl] at K5
   have HSl:=hid hSl
   clear hSl
   have hw1:IntKind.i64.wrap (b.y-a.y)=b.y-a.y:=IntWalk.i64_in _ (by omega)
   have hw2:IntKind.i64.wrap (b.x-a.x)=b.x-a.x:=IntWalk.i64_in _ (by omega)
   have hsz1:w.heap.size+4≤w1.heap.size:=by
    have:=(H2.out.row (w.heap.size+3,[.string ⟨#[]⟩,.string ⟨#[]⟩]) (by simp)).sz
    simp only at this
    omega
   refine bX_ (A:=?fr4) 13 9 [.string ⟨#[]⟩,.string ⟨#[]⟩] 109 hmx (by kernel_rfl) ⟨_,rfl,rfl,rfl,fun b W=>?al1⟩ ?h ?ht
   case al1=>simp[go_sem]
   case h=>
    intro U hU
    have hp:=H2.out.below hU
    have h_:=hp.row (w.heap.size,[.int .i64 a.x,.int .i64 a.y]) (by simp)
    have x0:=cell_regrown (h_.row 0 _ rfl)
    have x1:=cell_regrown (h_.row 1 _ rfl)
    clear h_
    have h_:=hp.row (w.heap.size+1,[.int .i64 b.x,.int .i64 b.y]) (by simp)
    have x2:=cell_regrown (h_.row 0 _ rfl)
    have x3:=cell_regrown (h_.row 1 _ rfl)
    clear h_
    have c0:=fun d os=>Calls.regrown_of (d:=d) (os:=os) (K3.out _ (hp.bw.trans ((below_regrown U d os).mono hp.bw.size)))
    have c1:=fun d os=>Calls.regrown_of (d:=d) (os:=os) (K4.out _ (hp.bw.trans ((below_regrown U d os).mono hp.bw.size)))
    have c2:=fun d os=>Calls.regrown_of (d:=d) (os:=os) (K5.out _ (hp.bw.trans ((below_regrown U d os).mono hp.bw.size)))
    clear hp
    simp only[List.take_succ_cons,List.take_zero]
    repeat (go_big_quiet_step (with_reducible first|exact c0 _ _|exact c1 _ _|exact c2 _ _))
    refine wpQuiet_nil ?_
    rfl
   case ht=>
    intro X3 W2 hW hX3 cX3
    have H2':=H2.out.below hW
    have hs1:=(H2.out.row (X1,[.string (qN L),.string (qD L)]) (by simp)).sz
    have hs2:=(H2.out.row (X2,[.string (qN T),.string (qD T)]) (by simp)).sz
    simp only at hs1 hs2
    have n1:X1≠X3:=by omega
    have n2:X2≠X3:=by omega
    have n3:w.heap.size+2≠X3:=by omega
    have z0:=cX3.row 0 _ rfl
    have z1:=cX3.row 1 _ rfl
    have f0:=cX3.fz 0 (by simp)
    have f1:=cX3.fz 1 (by simp)
    have h_:=H2'.row (X1,[.string (qN L),.string (qD L)]) (by simp)
    have x0:=h_.row 0 _ rfl
    have x1:=h_.row 1 _ rfl
    clear h_
    have h_:=H2'.row (X2,[.string (qN T),.string (qD T)]) (by simp)
    have x2:=h_.row 0 _ rfl
    have x3:=h_.row 1 _ rfl
    clear h_
    have h_:=H2'.row (w.heap.size+2,[.int .i64 r.x,.int .i64 r.y,.int .i64 r.w,.int .i64 r.h]) (by simp)
    have y1:=h_.row 1 _ rfl
    have y3:=h_.row 3 _ rfl
    clear h_
    have hsX:=cX3.sz
    have hsR:w.heap.size+2<W2.heap.size:=by omega
    have H3:=hid (show AzAt [(X3,[.string (qN Sl),.string (qD Sl)]),(X2,[.string (qN T),.string (qD T)]),(X1,[.string (qN L),.string (qD L)]),(w.heap.size+3,[.string ⟨#[]⟩,.string ⟨#[]⟩]),(w.heap.size+2,[.int .i64 r.x,.int .i64 r.y,.int .i64 r.w,.int .i64 r.h]),(w.heap.size+1,[.int .i64 b.x,.int .i64 b.y]),(w.heap.size,[.int .i64 a.x,.int .i64 a.y])] w _ from(H2'.cons cX3).set2 (by omega) (by simp <;> omega) (.string (qN Sl)) (.string (qD Sl)))
    have hwh:IntKind.i64.wrap (r.y+r.h)=r.y+r.h:=IntWalk.i64_in _ (by omega)
    clear cX3 hW H2'
    simp only[List.drop_succ_cons,List.drop_zero]
    go_wp2
    have HZ0:=hid (show OzAt 109 (.slice (some ⟨W2.heap.size,0,none⟩) 2 2) 2 (kY_ (stK a b r L T 0)) [(W2.heap.size+1,[.int .i64 r.y,.int .i64 (r.y+r.h)]),(X3,[.string (qN Sl),.string (qD Sl)]),(X2,[.string (qN T),.string (qD T)]),(X1,[.string (qN L),.string (qD L)]),(w.heap.size+3,[.string ⟨#[]⟩,.string ⟨#[]⟩]),(w.heap.size+2,[.int .i64 r.x,.int .i64 r.y,.int .i64 r.w,.int .i64 r.h]),(w.heap.size+1,[.int .i64 b.x,.int .i64 b.y]),(w.heap.size,[.int .i64 a.x,.int .i64 a.y])] w _ from by
     have h:=(OzAt.lit H3.out [.string (qN L),.string (qD L),.string (qN T),.string (qD T)] 109 2 rfl (by omega)).push [.int .i64 r.y,.int .i64 (r.y+r.h)] 3
     simp only[World.size_alloc,World.size_setCell] at h
     exact h)
    clear x0 x1 x2 x3 z0 z1 f0 f1 y1 y3 H3 K3 K4 K5 K1 K2 KL
    go_loopw [11,65] (fun v11 v65 wr=>∃k B m cap:Nat,k≤2∧v65=.int .i64 (k:Int)∧v11=.slice (some ⟨B,0,none⟩) m cap∧(stK a b r L T k).length=m∧OzAt 109 (.slice (some ⟨B,0,none⟩) m cap) m (kY_ (stK a b r L T k)) [(W2.heap.size+1,[.int .i64 r.y,.int .i64 (r.y+r.h)]),(X3,[.string (qN Sl),.string (qD Sl)]),(X2,[.string (qN T),.string (qD T)]),(X1,[.string (qN L),.string (qD L)]),(w.heap.size+3,[.string ⟨#[]⟩,.string ⟨#[]⟩]),(w.heap.size+2,[.int .i64 r.x,.int .i64 r.y,.int .i64 r.w,.int .i64 r.h]),(w.heap.size+1,[.int .i64 b.x,.int .i64 b.y]),(w.heap.size,[.int .i64 a.x,.int .i64 a.y])] w wr) (fun _ v65 _=>2-(intOf v65).toNat)
    case atStart=>exact⟨0,W2.heap.size,2,2,by omega,rfl,rfl,rfl,HZ0.out⟩
    case round=>
     obtain⟨k,B,m,cap,hk,rfl,rfl,hm,hZ⟩:=hrel
     have HM:=hid hm
     have HZ:=hid hZ
     clear hm hZ
     by_cases hlt2:k<2
     ·obtain⟨y,hy⟩:∃y,([r.y,r.y+r.h]:List Int)[k]?=some y:=⟨_,List.getElem?_eq_getElem (by simpa using hlt2)⟩
      have hk01:k=0∨k=1:=by omega
      have hyb:0≤y∧y≤4095:=by
       rcases hk01 with rfl|rfl <;> (simp at hy;omega)
      have yk:wr.cell? ⟨W2.heap.size+1,k,none⟩=some (.int .i64 y):=(HZ.out.az.row (W2.heap.size+1,[.int .i64 r.y,.int .i64 (r.y+r.h)]) (by simp)).row k _ (by
       rcases hk01 with rfl|rfl <;> (simp at hy;subst hy;rfl))
      have ya:=((HZ.out.az.row (w.heap.size,[.int .i64 a.x,.int .i64 a.y]) (by simp)).row 1 _ rfl)
      have yb:=((HZ.out.az.row (w.heap.size+1,[.int .i64 b.x,.int .i64 b.y]) (by simp)).row 1 _ rfl)
      have HY:=hid hy
      clear hy hk01
      by_cases hab:a.y=b.y
      ·have HN:=hid (show stK a b r L T (k+1)=stK a b r L T k from by
        rw[xO_ HY.out,decide_eq_false (by simpa using hab)]
        simp)
       have hab':(a.y==b.y)=true:=by simpa using hab
       have HAB:=hid hab
       clear hab
       go_wp2
       exact⟨⟨k+1,B,m,cap,by omega,by go_num,rfl,by rw[HN.out];exact HM.out,by rw[HN.out];exact HZ.out⟩,by simp only[intOf];omega⟩
      ·have hab':(a.y==b.y)=false:=by simpa using hab
       have K6:=hid (fun(W:World) (h:Below w.heap.size w W)=>cO_ (n:=a.x) (by omega) (by omega) (HI.out.below h) (HF.out.below h))
       have K7:=hid (fun(W:World) (h:Below w.heap.size w W)=>cO_ (n:=y-a.y) (by omega) (by omega) (HI.out.below h) (HF.out.below h))
       have K8:=hid (fun(W:World) (h:Below w.heap.size w W)=>aER (x:=whO (y-a.y)) (y:=Sl) (cX_ (by omega) (by omega)) (by rw[HSl.out];show FO (cD_ divR (whO (b.y-a.y)) (whO (b.x-a.x)));exact FO.div _ _) (HI.out.below h))
       have K9:=hid (fun(W:World) (h:Below w.heap.size w W)=>(show Calls _ _ _ W fun e W'=>e=.returned (.agg #[.string (qN (dK_ a b y)),.string (qD (dK_ a b y))])∧Below W.heap.size W W' from by
        have:=sX_ (x:=whO a.x) (y:=ovO (whO (y-a.y)) Sl) (cX_ (by omega) (by omega)) (FO.div _ _) (HI.out.below h)
        rw[show plO (whO a.x) (ovO (whO (y-a.y)) Sl)=dK_ a b y from by rw[HSl.out];rfl] at this
        exact this))
       have KA:=hid (fun(W:World) (h:Below w.heap.size w W)=>tJ_ (x:=L) (y:=dK_ a b y) G.out.1 (FO.add _ _) (HI.out.below h))
       have KB:=hid (fun(W:World) (h:Below w.heap.size w W)=>tJ_ (x:=dK_ a b y) (y:=T) (FO.add _ _) G.out.2 (HI.out.below h))
       have HS:=hid (xO_ (a:=a) (b:=b) (L:=L) (T:=T) HY.out)
       rw[decide_eq_true hab,Bool.true_and] at HS
       obtain⟨x,hx⟩:∃x,x=dK_ a b y:=⟨_,rfl⟩
       rw[←hx] at K9 KA KB HS
       clear hx hab
       have hw3:IntKind.i64.wrap (y-a.y)=y-a.y:=IntWalk.i64_in _ (by omega)
       have hszW:w.heap.size+4≤wr.heap.size:=by
        have:=(HZ.out.az.row (w.heap.size+3,[.string ⟨#[]⟩,.string ⟨#[]⟩]) (by simp)).sz
        simp only at this
        omega
       go_wp2
       refine bX_ (A:=?fr11) 11 14 [.string ⟨#[]⟩,.string ⟨#[]⟩] 109 hmx (by kernel_rfl) ⟨_,rfl,rfl,rfl,fun b W=>?al1⟩ ?h ?ht
       case al1=>simp[go_sem]
       case h=>
        intro U hU
        have hp:=HZ.out.az.below hU
        have h_:=hp.row (w.heap.size,[.int .i64 a.x,.int .i64 a.y]) (by simp)
        have x0:=cell_regrown (h_.row 0 _ rfl)
        have x1:=cell_regrown (h_.row 1 _ rfl)
        clear h_
        have h_:=hp.row (X3,[.string (qN Sl),.string (qD Sl)]) (by simp)
        have x2:=cell_regrown (h_.row 0 _ rfl)
        have x3:=cell_regrown (h_.row 1 _ rfl)
        clear h_
        have c0:=fun d os=>Calls.regrown_of (d:=d) (os:=os) (K6.out _ (hp.bw.trans ((below_regrown U d os).mono hp.bw.size)))
        have c1:=fun d os=>Calls.regrown_of (d:=d) (os:=os) (K7.out _ (hp.bw.trans ((below_regrown U d os).mono hp.bw.size)))
        have c2:=fun d os=>Calls.regrown_of (d:=d) (os:=os) (K8.out _ (hp.bw.trans ((below_regrown U d os).mono hp.bw.size)))
        have c3:=fun d os=>Calls.regrown_of (d:=d) (os:=os) (K9.out _ (hp.bw.trans ((below_regrown U d os).mono hp.bw.size)))
        clear hp
        simp only[List.take_succ_cons,List.take_zero]
        repeat (go_big_quiet_step (with_reducible first|exact c0 _ _|exact c1 _ _|exact c2 _ _|exact c3 _ _))
        refine wpQuiet_nil ?_
        rfl
       case ht=>
        intro X4 W4 hW hX4 cX4
        have HZ':=HZ.out.below hW
        have hs1:=(HZ.out.az.row (X1,[.string (qN L),.string (qD L)]) (by simp)).sz
        have hs2:=(HZ.out.az.row (X2,[.string (qN T),.string (qD T)]) (by simp)).sz
        simp only at hs1 hs2
        have n1:X1≠X4:=by omega
        have n2:X2≠X4:=by omega
        have z0:=cX4.row 0 _ rfl
        have z1:=cX4.row 1 _ rfl
        have f0:=cX4.fz 0 (by simp)
        have f1:=cX4.fz 1 (by simp)
        have h_:=HZ'.az.row (X1,[.string (qN L),.string (qD L)]) (by simp)
        have p0:=h_.row 0 _ rfl
        have p1:=h_.row 1 _ rfl
        clear h_
        have h_:=HZ'.az.row (X2,[.string (qN T),.string (qD T)]) (by simp)
        have p2:=h_.row 0 _ rfl
        have p3:=h_.row 1 _ rfl
        clear h_
        have HZ4:=hid (show OzAt 109 (.slice (some ⟨B,0,none⟩) m cap) m (kY_ (stK a b r L T k)) [(X4,[.string (qN x),.string (qD x)]),(W2.heap.size+1,[.int .i64 r.y,.int .i64 (r.y+r.h)]),(X3,[.string (qN Sl),.string (qD Sl)]),(X2,[.string (qN T),.string (qD T)]),(X1,[.string (qN L),.string (qD L)]),(w.heap.size+3,[.string ⟨#[]⟩,.string ⟨#[]⟩]),(w.heap.size+2,[.int .i64 r.x,.int .i64 r.y,.int .i64 r.w,.int .i64 r.h]),(w.heap.size+1,[.int .i64 b.x,.int .i64 b.y]),(w.heap.size,[.int .i64 a.x,.int .i64 a.y])] w _ from(HZ'.cons cX4 (hL_ HZ.out hX4)).set2 (by omega) (fun u hu=>by have:=(HZ.out.az.row u hu).sz;omega) (.string (qN x)) (.string (qD x)))
        have hmlen:=aDE a b r L T k
        rw[HM.out] at hmlen
        clear cX4 hW HZ' ya yb yk
        simp only[List.drop_succ_cons,List.drop_zero]
        obtain⟨i0,hi0,hz0,hz1,hz2⟩:=info_parts vP_
        cases hc1:leO L x with
        | false=>
         rw[hc1] at KA HS
         have HN:=hid (show stK a b r L T (k+1)=stK a b r L T k from by rw[HS.out];simp)
         go_wp2_with (first
          | (go_at_call 137;(with_reducible refine(KA.out _ (by with_reducible exact HZ4.out.az.bw)).mono ?_);rintro e w5 ⟨rfl,hb⟩;have HZ5:=hid (HZ4.out.below hb);clear hb p0 p1 p2 p3 z0 z1 f0 f1;have h_:=HZ5.out.az.row (X4,[.string (qN x),.string (qD x)]) (by simp);have p4:=h_.row 0 _ rfl;have p5:=h_.row 1 _ rfl;clear h_;have h_:=HZ5.out.az.row (X2,[.string (qN T),.string (qD T)]) (by simp);have p6:=h_.row 0 _ rfl;have p7:=h_.row 1 _ rfl;clear h_)
          | fail)
         exact⟨⟨k+1,B,m,cap,by omega,by go_num,rfl,by rw[HN.out];exact HM.out,by rw[HN.out];exact HZ5.out.sub (fun u hu=>List.mem_cons_of_mem _ hu)⟩,by simp only[intOf];omega⟩
        | true=>
         rw[hc1] at KA HS
         cases hc2:leO x T with
         | false=>
          rw[hc2] at KB HS
          have HN:=hid (show stK a b r L T (k+1)=stK a b r L T k from by rw[HS.out];simp)
          go_wp2_with (first
           | (go_at_call 137;(with_reducible refine(KA.out _ (by with_reducible exact HZ4.out.az.bw)).mono ?_);rintro e w5 ⟨rfl,hb⟩;have HZ5:=hid (HZ4.out.below hb);clear hb p0 p1 p2 p3 z0 z1 f0 f1;have h_:=HZ5.out.az.row (X4,[.string (qN x),.string (qD x)]) (by simp);have p4:=h_.row 0 _ rfl;have p5:=h_.row 1 _ rfl;clear h_;have h_:=HZ5.out.az.row (X2,[.string (qN T),.string (qD T)]) (by simp);have p6:=h_.row 0 _ rfl;have p7:=h_.row 1 _ rfl;clear h_)
           | (go_at_call 137;(with_reducible refine(KB.out _ (by with_reducible exact HZ5.out.az.bw)).mono ?_);rintro e w6 ⟨rfl,hb⟩;have HZ6:=hid (HZ5.out.below hb);clear hb p4 p5 p6 p7;have h_:=HZ6.out.az.row (X4,[.string (qN x),.string (qD x)]) (by simp);have p8:=h_.row 0 _ rfl;have p9:=h_.row 1 _ rfl;clear h_;have hb6:=HZ6.out.az.bw.size)
           | fail)
          exact⟨⟨k+1,B,m,cap,by omega,by go_num,rfl,by rw[HN.out];exact HM.out,by rw[HN.out];exact HZ6.out.sub (fun u hu=>List.mem_cons_of_mem _ hu)⟩,by simp only[intOf];omega⟩
         | true=>
          rw[hc2] at KB HS
          have HN:=hid (show stK a b r L T (k+1)=stK a b r L T k++[x] from by rw[HS.out];simp)
          go_wp2_with (first
           | (at_builtin;refine wpList_append_own_at _ rfl _ _ 152 rfl w.heap.size 109 i0 (.agg #[.string ⟨#[]⟩,.string ⟨#[]⟩]) 2 32 Tryz.underlying152 hi0 hz0 hz1 hz2 rfl (by decide) (.slice (some ⟨B,0,none⟩) m cap) m (kY_ (stK a b r L T k)) rfl (HZ6.out.own.alloc _) ⟨w6.heap.size,0,none⟩ 1 1 [.string (qN x),.string (qD x)] rfl rfl (jK_ _ _ _ _) (by simp[Value.oneCell']) (by unfold maxLen;omega) (by omega) (by simp;omega) ?_;intro v' w7 hown' hgrow _ hat;have HZ7:=hid (HZ6.out.append hown' hgrow hat);clear hown' hgrow hat)
           | (go_at_call 137;(with_reducible refine(KA.out _ (by with_reducible exact HZ4.out.az.bw)).mono ?_);rintro e w5 ⟨rfl,hb⟩;have HZ5:=hid (HZ4.out.below hb);clear hb p0 p1 p2 p3 z0 z1 f0 f1;have h_:=HZ5.out.az.row (X4,[.string (qN x),.string (qD x)]) (by simp);have p4:=h_.row 0 _ rfl;have p5:=h_.row 1 _ rfl;clear h_;have h_:=HZ5.out.az.row (X2,[.string (qN T),.string (qD T)]) (by simp);have p6:=h_.row 0 _ rfl;have p7:=h_.row 1 _ rfl;clear h_)
           | (go_at_call 137;(with_reducible refine(KB.out _ (by with_reducible exact HZ5.out.az.bw)).mono ?_);rintro e w6 ⟨rfl,hb⟩;have HZ6:=hid (HZ5.out.below hb);clear hb p4 p5 p6 p7;have h_:=HZ6.out.az.row (X4,[.string (qN x),.string (qD x)]) (by simp);have p8:=h_.row 0 _ rfl;have p9:=h_.row 1 _ rfl;clear h_;have hb6:=HZ6.out.az.bw.size)
           | fail)
          obtain⟨g7,c7,rfl⟩:=ownsRow_succ HZ7.out.own
          exact⟨⟨k+1,g7,m+1,c7,by omega,by go_num,rfl,by rw[HN.out,List.length_append,HM.out];rfl,by rw[HN.out,aAY];exact HZ7.out.sub (fun u hu=>List.mem_cons_of_mem _ hu)⟩,by simp only[intOf];omega⟩
     ·obtain rfl:k=2:=by omega
      have hml:=aDE a b r L T 2
      rw[HM.out] at hml
      have KS:=hid (fun(_:Unit)=>aNU (cap:=cap) HM.out (by omega) (aMP G.out.1 G.out.2 2) HI.out HZ.out.ns)
      obtain⟨S,hS⟩:∃S,S=cQ_ leO (stK a b r L T 2):=⟨_,rfl⟩
      rw[←hS] at KS
      have HSl2:=hid (show S.length=m from by rw[hS,gI_,HM.out])
      have HSF:=hid (show ∀x∈S,FO x from by rw[hS];exact fun x hx=>aMP G.out.1 G.out.2 2 x (aDH hx))
      have HSS:=hid (show sumO a b r (S.drop (1-1)) (whO 0)=res from by rw[HR.out,hS,HLT.out.1,HLT.out.2,aNS];rfl)
      clear hS HM
      have hszW:w.heap.size+4≤wr.heap.size:=by
       have:=(HZ.out.az.row (w.heap.size+3,[.string ⟨#[]⟩,.string ⟨#[]⟩]) (by simp)).sz
       simp only at this
       omega
      go_wp2_with (first
       | (go_at_call 141;(with_reducible refine(KS.out ()).mono ?_);rintro e w8 ⟨rfl,hz8⟩;have HN8:=hid (hz8.sub (R':=[(X3,[.string (qN Sl),.string (qD Sl)]),(w.heap.size+3,[.string ⟨#[]⟩,.string ⟨#[]⟩]),(w.heap.size+2,[.int .i64 r.x,.int .i64 r.y,.int .i64 r.w,.int .i64 r.h]),(w.heap.size,[.int .i64 a.x,.int .i64 a.y])]) (fun u hu=>by simp only[List.mem_cons,List.not_mem_nil,or_false] at hu⊢;rcases hu with rfl | rfl | rfl | rfl <;> simp));clear hz8)
       | (go_at_call 84;(with_reducible refine(K0.out _ (by with_reducible exact HN8.out.az.bw)).mono ?_);rintro e w9 ⟨rfl,hb⟩;have HN9:=hid (HN8.out.below hb);clear hb)
       | fail)
      have HNA:=hid (HN9.out.push [.string (qN (whO 0)),.string (qD (whO 0))] 109)
      have hX5:w.heap.size+4≤w9.heap.size:=by
       have:=(HN9.out.az.row (w.heap.size+3,[.string ⟨#[]⟩,.string ⟨#[]⟩]) (by simp)).sz
       simp only at this
       omega
      obtain⟨X5,hX5e⟩:∃X5,X5=w9.heap.size:=⟨_,rfl⟩
      have hX5n:∀u∈([(X3,[.string (qN Sl),.string (qD Sl)]),(w.heap.size+3,[.string ⟨#[]⟩,.string ⟨#[]⟩]),(w.heap.size+2,[.int .i64 r.x,.int .i64 r.y,.int .i64 r.w,.int .i64 r.h]),(w.heap.size,[.int .i64 a.x,.int .i64 a.y])]:List (Nat×List Value)),X5≠u.1:=fun u hu=>by have:=(HN9.out.az.row u hu).sz;omega
      have HX5n:=hid hX5n
      rw[←hX5e] at hX5⊢
      rw[←hX5e] at HNA
      clear hX5n HN9 HN8 HZ hX5e
      go_loopw [17] (fun v17 wr=>∃(i:Nat) (acc:Option Rat),1≤i∧i≤m∧v17=.int .i64 (i:Int)∧NzAt B S [(X5,[.string (qN acc),.string (qD acc)]),(X3,[.string (qN Sl),.string (qD Sl)]),(w.heap.size+3,[.string ⟨#[]⟩,.string ⟨#[]⟩]),(w.heap.size+2,[.int .i64 r.x,.int .i64 r.y,.int .i64 r.w,.int .i64 r.h]),(w.heap.size,[.int .i64 a.x,.int .i64 a.y])] w wr∧FO acc∧sumO a b r (S.drop (i-1)) acc=res) (fun v17 _=>m-(intOf v17).toNat)
      case atStart=>exact⟨1,whO 0,by omega,by omega,rfl,HNA.out,cX_ (by decide) (by decide),HSS.out⟩
      case round=>
       obtain⟨i,acc,hi1,hi2,rfl,hN,hfa,hsum⟩:=hrel
       have HN:=hid hN
       have HFA:=hid hfa
       have HSUM:=hid hsum
       clear hN hfa hsum
       by_cases hlt3:i<m
       ·obtain⟨ip,rfl⟩:∃ip,i=ip+1:=⟨i-1,by omega⟩
        obtain⟨s,hs⟩:∃s,S[ip]?=some s:=⟨S[ip]'(by have:=HSl2.out;omega),List.getElem?_eq_getElem _⟩
        obtain⟨t,ht⟩:∃t,S[ip+1]?=some t:=⟨S[ip+1]'(by have:=HSl2.out;omega),List.getElem?_eq_getElem _⟩
        have fs:FO s:=HSF.out s (List.mem_of_getElem? hs)
        have ft:FO t:=HSF.out t (List.mem_of_getElem? ht)
        have HST:=hid (And.intro hs ht)
        have HFS:=hid (And.intro fs ft)
        have f1:FO (bS_ a b s):=FO.add _ _
        have f2:FO (bS_ a b t):=FO.add _ _
        have HFH:=hid (And.intro f1 f2)
        have f3:FO (bU_ r (bS_ a b s)):=oF_ HV.out.2.2 _
        have f4:FO (bU_ r (bS_ a b t)):=oF_ HV.out.2.2 _
        obtain⟨mn,hmn⟩:∃mn,mn=ovO (plO (bU_ r (bS_ a b s)) (bU_ r (bS_ a b t))) (whO 2):=⟨_,rfl⟩
        obtain⟨nx,hnx⟩:∃nx,nx=plO acc (tiO mn (miO t s)):=⟨_,rfl⟩
        have hfn:FO nx:=by rw[hnx];exact FO.add _ _
        have HNX:=hid (show sumO a b r (S.drop (ip+1+1-1)) nx=res from by
         rw[←HSUM.out,hnx,hmn,show ip+1+1-1=ip+1 from rfl,show ip+1-1=ip from rfl]
         exact(aCX hs ht acc).symm)
        have HFN:=hid hfn
        have fm:FO mn:=by rw[hmn];exact FO.div _ _
        have C3:=hid (fun(W:World) (h:Below w.heap.size w W)=>sX_ f3 f4 (HI.out.below h))
        have C4:=hid (fun(W:World) (h:Below w.heap.size w W)=>cO_ (n:=2) (by decide) (by decide) (HI.out.below h) (HF.out.below h))
        have C5:=hid (fun(W:World) (h:Below w.heap.size w W)=>(show Calls _ _ _ W fun e W'=>e=.returned (.agg #[.string (qN mn),.string (qD mn)])∧Below W.heap.size W W' from by
         have:=aER (x:=plO (bU_ r (bS_ a b s)) (bU_ r (bS_ a b t))) (y:=whO 2) (FO.add _ _) (cX_ (by decide) (by decide)) (HI.out.below h)
         rw[←hmn] at this
         exact this))
        have C6:=hid (fun(W:World) (h:Below w.heap.size w W)=>qQ_ ft fs (HI.out.below h))
        have C7:=hid (fun(W:World) (h:Below w.heap.size w W)=>aCS (x:=mn) (y:=miO t s) fm (FO.sub _ _) (HI.out.below h))
        have C8:=hid (fun(W:World) (h:Below w.heap.size w W)=>(show Calls _ _ _ W fun e W'=>e=.returned (.agg #[.string (qN nx),.string (qD nx)])∧Below W.heap.size W W' from by
         have:=sX_ (x:=acc) (y:=tiO mn (miO t s)) HFA.out (FO.mul _ _) (HI.out.below h)
         rw[←hnx] at this
         exact this))
        have hwp:IntKind.i64.wrap (ip:Int)=(ip:Int):=IntWalk.i64_in _ (by omega)
        have jz:(ip:Int)+1<(m:Int):=by omega
        have jz1:(ip:Int)<(m:Int):=by omega
        have q0:(0:Int)≤(ip:Int)+1:=by omega
        have e0:((ip:Int)+1).toNat=ip+1:=by omega
        rw[show((ip+1:Nat):Int)=(ip:Int)+1 from by omega]
        clear hs ht fs ft f1 f2 f3 f4 hmn hnx hfn fm HSUM
        go_wp2
        refine bX_ (A:=?fr21) 20 18 [.string ⟨#[]⟩,.string ⟨#[]⟩] 109 hmx (by kernel_rfl) ⟨_,rfl,rfl,rfl,fun b W=>?al1⟩ ?h ?ht
        case al1=>simp[go_sem]
        case h=>
         intro U hU
         have hn:=HN.out.below hU
         have hp:=hn.az
         have x0:=cell_regrown (hn.ns.row ip s HST.out.1).1
         have x1:=cell_regrown (hn.ns.row ip s HST.out.1).2
         have x2:=cell_regrown (hn.ns.row (ip+1) t HST.out.2).1
         have x3:=cell_regrown (hn.ns.row (ip+1) t HST.out.2).2
         have c0:=fun d os=>Calls.regrown_of (d:=d) (os:=os) (by
          have hg:=(below_regrown U d os)
          have:=yS_ (x:=s) HV.out.1 (show FO Sl from by rw[HSl.out];show FO (cD_ divR (whO (b.y-a.y)) (whO (b.x-a.x)));exact FO.div _ _) HFS.out.1 (HI.out.below (hp.bw.trans (hg.mono hp.bw.size))) (HF.out.below (hp.bw.trans (hg.mono hp.bw.size))) ((hp.row (w.heap.size,[.int .i64 a.x,.int .i64 a.y]) (by simp)).below hg) ((hp.row (X3,[.string (qN Sl),.string (qD Sl)]) (by simp)).below hg)
          rw[show plO (whO a.y) (tiO Sl (miO s (whO a.x)))=bS_ a b s from by rw[HSl.out];rfl] at this
          exact this)
         have c1:=fun d os=>Calls.regrown_of (d:=d) (os:=os) (by
          have hg:=(below_regrown U d os)
          have:=yS_ (x:=t) HV.out.1 (show FO Sl from by rw[HSl.out];show FO (cD_ divR (whO (b.y-a.y)) (whO (b.x-a.x)));exact FO.div _ _) HFS.out.2 (HI.out.below (hp.bw.trans (hg.mono hp.bw.size))) (HF.out.below (hp.bw.trans (hg.mono hp.bw.size))) ((hp.row (w.heap.size,[.int .i64 a.x,.int .i64 a.y]) (by simp)).below hg) ((hp.row (X3,[.string (qN Sl),.string (qD Sl)]) (by simp)).below hg)
          rw[show plO (whO a.y) (tiO Sl (miO t (whO a.x)))=bS_ a b t from by rw[HSl.out];rfl] at this
          exact this)
         have c2:=fun d os=>Calls.regrown_of (d:=d) (os:=os) (rU_ (y:=bS_ a b s) HV.out.2.2 HFH.out.1 (HI.out.below (hp.bw.trans ((below_regrown U d os).mono hp.bw.size))) (HF.out.below (hp.bw.trans ((below_regrown U d os).mono hp.bw.size))) ((hp.row (w.heap.size+2,[.int .i64 r.x,.int .i64 r.y,.int .i64 r.w,.int .i64 r.h]) (by simp)).below (below_regrown U d os)))
         have c3:=fun d os=>Calls.regrown_of (d:=d) (os:=os) (rU_ (y:=bS_ a b t) HV.out.2.2 HFH.out.2 (HI.out.below (hp.bw.trans ((below_regrown U d os).mono hp.bw.size))) (HF.out.below (hp.bw.trans ((below_regrown U d os).mono hp.bw.size))) ((hp.row (w.heap.size+2,[.int .i64 r.x,.int .i64 r.y,.int .i64 r.w,.int .i64 r.h]) (by simp)).below (below_regrown U d os)))
         have c4:=fun d os=>Calls.regrown_of (d:=d) (os:=os) (C3.out _ (hp.bw.trans ((below_regrown U d os).mono hp.bw.size)))
         have c5:=fun d os=>Calls.regrown_of (d:=d) (os:=os) (C4.out _ (hp.bw.trans ((below_regrown U d os).mono hp.bw.size)))
         have c6:=fun d os=>Calls.regrown_of (d:=d) (os:=os) (C5.out _ (hp.bw.trans ((below_regrown U d os).mono hp.bw.size)))
         clear hp hn
         simp only[List.take_succ_cons,List.take_zero]
         repeat (go_big_quiet_step (with_reducible first|exact c0 _ _|exact c1 _ _|exact c2 _ _|exact c3 _ _|exact c4 _ _|exact c5 _ _|exact c6 _ _))
         refine wpQuiet_nil ?_
         rfl
        case ht=>
         intro X6 W6 hW hX6 cX6
         have HN6:=HN.out.below hW
         have z0:=cX6.row 0 _ rfl
         have z1:=cX6.row 1 _ rfl
         have f0:=cX6.fz 0 (by simp)
         have f1:=cX6.fz 1 (by simp)
         have hX6w:w.heap.size≤X6:=Nat.le_trans HN.out.az.bw.size hX6
         have HN7:=hid (show NzAt B S [(X6,[.string (qN mn),.string (qD mn)]),(X5,[.string (qN acc),.string (qD acc)]),(X3,[.string (qN Sl),.string (qD Sl)]),(w.heap.size+3,[.string ⟨#[]⟩,.string ⟨#[]⟩]),(w.heap.size+2,[.int .i64 r.x,.int .i64 r.y,.int .i64 r.w,.int .i64 r.h]),(w.heap.size,[.int .i64 a.x,.int .i64 a.y])] w _ from(HN6.cons cX6 (by have:=HN.out.ns.sz;omega)).set2 hX6w (fun u hu=>by have:=(HN.out.az.row u hu).sz;omega) (.string (qN mn)) (.string (qD mn)))
         clear cX6 hW HN6
         simp only[List.drop_succ_cons,List.drop_zero]
         go_wp2
         generalize ((W6.setCell ⟨X6,0,none⟩ (.string (qN mn))).setCell ⟨X6,1,none⟩ (.string (qD mn)))=W7 at HN7⊢
         clear z0 z1 f0 f1
         refine cN_ (A:=?fr22) 14 hmx (by kernel_rfl) ?h ?ht
         case h=>
          intro U hU
          have hn:=HN7.out.below hU
          have hp:=hn.az
          have x0:=cell_regrown (hn.ns.row ip s HST.out.1).1
          have x1:=cell_regrown (hn.ns.row ip s HST.out.1).2
          have x2:=cell_regrown (hn.ns.row (ip+1) t HST.out.2).1
          have x3:=cell_regrown (hn.ns.row (ip+1) t HST.out.2).2
          have h_:=hp.row (X5,[.string (qN acc),.string (qD acc)]) (by simp)
          have x4:=cell_regrown (h_.row 0 _ rfl)
          have x5:=cell_regrown (h_.row 1 _ rfl)
          clear h_
          have h_:=hp.row (X6,[.string (qN mn),.string (qD mn)]) (by simp)
          have x6:=cell_regrown (h_.row 0 _ rfl)
          have x7:=cell_regrown (h_.row 1 _ rfl)
          clear h_
          have c0:=fun d os=>Calls.regrown_of (d:=d) (os:=os) (C6.out _ (hp.bw.trans ((below_regrown U d os).mono hp.bw.size)))
          have c1:=fun d os=>Calls.regrown_of (d:=d) (os:=os) (C7.out _ (hp.bw.trans ((below_regrown U d os).mono hp.bw.size)))
          have c2:=fun d os=>Calls.regrown_of (d:=d) (os:=os) (C8.out _ (hp.bw.trans ((below_regrown U d os).mono hp.bw.size)))
          clear hp hn
          simp only[List.take_succ_cons,List.take_zero]
          repeat (go_big_quiet_step (with_reducible first|exact c0 _ _|exact c1 _ _|exact c2 _ _))
          refine wpQuiet_nil ?_
          rfl
         case ht=>
          intro W8 hW
          have hn:=HN7.out.below hW
          have h_:=hn.az.row (X5,[.string (qN acc),.string (qD acc)]) (by simp)
          have z0:=h_.row 0 _ rfl
          have z1:=h_.row 1 _ rfl
          have f0:=h_.fz 0 (by simp)
          have f1:=h_.fz 1 (by simp)
          clear h_
          have HN8:=hid (show NzAt B S [(X5,[.string (qN nx),.string (qD nx)]),(X3,[.string (qN Sl),.string (qD Sl)]),(w.heap.size+3,[.string ⟨#[]⟩,.string ⟨#[]⟩]),(w.heap.size+2,[.int .i64 r.x,.int .i64 r.y,.int .i64 r.w,.int .i64 r.h]),(w.heap.size,[.int .i64 a.x,.int .i64 a.y])] w _ from(hn.sub (R':=[(X5,[.string (qN acc),.string (qD acc)]),(X3,[.string (qN Sl),.string (qD Sl)]),(w.heap.size+3,[.string ⟨#[]⟩,.string ⟨#[]⟩]),(w.heap.size+2,[.int .i64 r.x,.int .i64 r.y,.int .i64 r.w,.int .i64 r.h]),(w.heap.size,[.int .i64 a.x,.int .i64 a.y])]) (fun u hu=>List.mem_cons_of_mem _ hu)).set2 (by omega) HX5n.out (.string (qN nx)) (.string (qD nx)))
          clear hn hW
          simp only[List.drop_succ_cons,List.drop_zero]
          go_wp2
          exact⟨⟨ip+1+1,nx,by omega,by omega,by go_num,HN8.out,HFN.out,HNX.out⟩,by simp only[intOf];omega⟩
       ·obtain rfl:i=m:=by omega
        have hacc:acc=res:=by
         rw[←HSUM.out]
         exact(aCY ⟨HSl2.out,hi1⟩ acc).symm
        subst hacc
        have h_:=HN.out.az.row (X5,[.string (qN acc),.string (qD acc)]) (by simp)
        have x0:=h_.row 0 _ rfl
        have x1:=h_.row 1 _ rfl
        clear h_
        have h_:=HN.out.az.row (w.heap.size+3,[.string ⟨#[]⟩,.string ⟨#[]⟩]) (by simp)
        have f0:=h_.fz 0 (by simp)
        have f1:=h_.fz 1 (by simp)
        have y0:=h_.row 0 _ rfl
        have y1:=h_.row 1 _ rfl
        clear h_
        have HF:=hid (HN.out.az.sub (L':=[(w.heap.size+3,[.string ⟨#[]⟩,.string ⟨#[]⟩])]) (fun u hu=>by simp only[List.mem_cons,List.not_mem_nil,or_false] at hu⊢;subst hu;simp))
        go_wp2
        have hp:=HF.out.set2 (by omega) (by simp <;> omega) (.string (qN acc)) (.string (qD acc))
        generalize ((wr.setCell ⟨w.heap.size+3,0,none⟩ (.string (qN acc))).setCell ⟨w.heap.size+3,1,none⟩ (.string (qD acc)))=WF at hp⊢
        have h_:=hp.row (w.heap.size+3,[.string (qN acc),.string (qD acc)]) (by simp)
        have q0:=h_.row 0 _ rfl
        have q1:=h_.row 1 _ rfl
        clear h_
        refine bodyPost_ret (v:=.agg #[.string (qN acc),.string (qD acc)]) ?_ rfl ⟨rfl,hp.bw⟩
        simp[results,Tryz.results86,go_sem,Result.andThen,q0,q1]
end Go.Proofs.YtlikmmpmnaaifaaGreatDoor
