/- - -/
import Derived.Lib.QuietBelow
import Derived.BigQuiet
import Derived.IntWalk
import Derived.Maps.AppendAt
import Derived.OwnWalk
import Derived.Laws.OwnMore
import Derived.RangeFuncOwn
import Derived.Test.YtlikmmpmnaaifaaGreatDoorZPlB
import Derived.Test.YtlikmmpmnaaifaaGreatDoorZShelf
import Derived.Test.YtlikmmpmnaaifaaGreatDoorZPl2
import Derived.Test.YtlikmmpmnaaifaaGreatDoorZBack
set_option maxHeartbeats 40000000
set_option maxRecDepth 1000000
open Go.Lib (hid)
namespace Go.Proofs.YtlikmmpmnaaifaaGreatDoor
open Go.RowKit Go.Shelf
attribute [local go_sem] Oper.semAt_some
structure NsAt (B:Nat) (l:List (Option Rat)) (W:World):Prop where
 row:∀(k:Nat) (x:Option Rat),l[k]?=some x→W.cell? ⟨B,k*2,none⟩=some (.string (qN x))∧W.cell? ⟨B,k*2+1,none⟩=some (.string (qD x))
 fz:∀o,o<l.length*2→W.frozen? ⟨B,o,none⟩=false
 sz:B<W.heap.size
theorem NsAt.below {B:Nat} {l:List (Option Rat)} {W W':World} (h:NsAt B l W) (hb:Below W.heap.size W W'):NsAt B l W':=
 ⟨fun k x hx=>⟨(hb.cell (p:=⟨B,k*2,none⟩) h.sz).trans (h.row k x hx).1,(hb.cell (p:=⟨B,k*2+1,none⟩) h.sz).trans (h.row k x hx).2⟩,fun o ho=>(hb.frozen (p:=⟨B,o,none⟩) h.sz).trans (h.fz o ho),Nat.lt_of_lt_of_le h.sz hb.size⟩
theorem NsAt.drew {B:Nat} {l:List (Option Rat)} {W:World} (h:NsAt B l W):NsAt B l W.drew:=⟨h.row,h.fz,h.sz⟩
theorem NsAt.set {B:Nat} {l:List (Option Rat)} {W:World} (h:NsAt B l W) {k:Nat} (hk:k<l.length) (x:Option Rat):NsAt B (l.set k x) ((W.setCell ⟨B,k*2,none⟩ (.string (qN x))).setCell ⟨B,k*2+1,none⟩ (.string (qD x))):=by
 obtain⟨y,hy⟩:∃y,l[k]?=some y:=⟨l[k],List.getElem?_eq_getElem hk⟩
 obtain⟨y0,y1⟩:=h.row k y hy
 have n1:(⟨B,k*2,none⟩:Addr)≠⟨B,k*2+1,none⟩:=fun e=>by have:=congrArg Addr.off e;simp at this
 refine⟨fun j z hz=>?_,fun o ho=>?_,by simpa using h.sz⟩
 ·by_cases hj:k=j
  ·subst hj
   rw[List.getElem?_set_self hk] at hz
   cases hz
   refine⟨?_,?_⟩
   ·rw[World.cell?_setCell_other _ _ _ _ n1.symm]
    exact World.cell?_setCell_same _ _ _ y0
   ·exact World.cell?_setCell_same _ _ _ ((World.cell?_setCell_other _ _ _ _ n1).trans y1)
  ·rw[List.getElem?_set_ne hj] at hz
   obtain⟨z0,z1⟩:=h.row j z hz
   refine⟨?_,?_⟩
   ·rw[World.cell?_setCell_other _ _ _ _ (fun e=>by have:=congrArg Addr.off e;simp at this;omega),World.cell?_setCell_other _ _ _ _ (fun e=>by have:=congrArg Addr.off e;simp at this;omega)]
    exact z0
   ·rw[World.cell?_setCell_other _ _ _ _ (fun e=>by have:=congrArg Addr.off e;simp at this;omega),World.cell?_setCell_other _ _ _ _ (fun e=>by have:=congrArg Addr.off e;simp at this;omega)]
    exact z1
 ·have:=h.fz o (by simpa using ho)
  simpa[go_sem] using this
structure NzAt (B:Nat) (l:List (Option Rat)) (R:List (Nat×List Value)) (w W:World):Prop where
 az:AzAt R w W
 ns:NsAt B l W
 hB:w.heap.size≤B
 ne:∀x∈R,B≠x.1
theorem NzAt.below {B:Nat} {l:List (Option Rat)} {R:List (Nat×List Value)} {w W W':World} (h:NzAt B l R w W) (hb:Below W.heap.size W W'):NzAt B l R w W':=⟨h.az.below hb,h.ns.below hb,h.hB,h.ne⟩
theorem NzAt.drew {B:Nat} {l:List (Option Rat)} {R:List (Nat×List Value)} {w W:World} (h:NzAt B l R w W):NzAt B l R w W.drew:=⟨h.az.drew,h.ns.drew,h.hB,h.ne⟩
theorem NzAt.set {B:Nat} {l:List (Option Rat)} {R:List (Nat×List Value)} {w W:World} (h:NzAt B l R w W) {k:Nat} (hk:k<l.length) (x:Option Rat):NzAt B (l.set k x) R w ((W.setCell ⟨B,k*2,none⟩ (.string (qN x))).setCell ⟨B,k*2+1,none⟩ (.string (qD x))):=
 ⟨⟨(h.az.bw.setCell h.hB _).setCell h.hB _,fun x hx=>((h.az.row x hx).other (h.ne x hx) _ _).other (h.ne x hx) _ _⟩,h.ns.set hk x,h.hB,h.ne⟩
theorem insN_s {B cap n:Nat} {l:List (Option Rat)} {R:List (Nat×List Value)} {w W:World} (hl:l.length=n) (hn:n≤1000000) (hf:∀x∈l,FO x) (hi:IOps w) (h:NzAt B l R w W) :
  Calls Tryz.prog 225 #[.slice (some ⟨B,0,none⟩) n cap,.int .i64 0,.int .i64 n,.func (.func 142) #[] #[]] W fun e W'=>e=.returned (.tuple #[])∧NzAt B (cQ_ leO l) R w W':=by
 obtain⟨S,hS⟩:∃S,S=cQ_ leO l:=⟨_,rfl⟩
 rw[←hS]
 have HS:=hid (show outN leO l 1 (n-1)=S by rw[hS,←hl];rfl)
 have H0:=hid h
 have HL:=hid hl
 have HF:=hid hf
 have HI:=hid hi
 clear h hl hf hi hS
 go_enter Tryz.func225,Tryz.ntmps225
 go_wp2
 go_loopw [8] (fun vi wr=>∃(i:Nat) (L:List (Option Rat)),vi=.int .i64 (i:Int)∧1≤i∧i≤n+1∧L.length=n∧(∀x∈L,FO x)∧NzAt B L R w wr∧outN leO L i (n-i)=S) (fun i _=>n+1-(intOf i).toNat)
 case atStart=>exact⟨1,l,by go_num,by omega,by omega,HL.out,HF.out,H0.out,HS.out⟩
 case round=>
  obtain⟨i,L,rfl,hi1,hi2,hLl,hLf,hA,hO⟩:=hrel
  have HLl:=hid hLl
  have HLf:=hid hLf
  have HA:=hid hA
  have HO:=hid hO
  clear hLl hLf hA hO
  by_cases hlt:i<n
  ·have hltz:(i:Int)<(n:Int):=by omega
   go_wp2
   go_loopw [9] (fun vj wq=>∃(j:Nat) (M:List (Option Rat)),vj=.int .i64 (j:Int)∧j≤i∧M.length=n∧(∀x∈M,FO x)∧NzAt B M R w wq∧cL_ leO M j=cL_ leO L i) (fun j _=>(intOf j).toNat)
   case atStart=>exact⟨i,L,rfl,Nat.le_refl _,HLl.out,HLf.out,HA.out,rfl⟩
   case round=>
    obtain⟨j,M,rfl,hj,hMl,hMf,hM,hIn⟩:=hrel
    have HMl:=hid hMl
    have HMf:=hid hMf
    have HM:=hid hM
    have HIn:=hid hIn
    clear hMl hMf hM hIn
    have END:cL_ leO M j=M→∀wz,NzAt B M R w wz→∃(i':Nat) (L':List (Option Rat)),Value.int .i64 ((i:Int)+1)=.int .i64 (i':Int)∧1≤i'∧i'≤n+1∧L'.length=n∧(∀x∈L',FO x)∧NzAt B L' R w wz∧outN leO L' i' (n-i')=S:=fun he wz hz=>
     ⟨i+1,M,by go_num,by omega,by omega,HMl.out,HMf.out,hz,by
      rw[←HO.out,show n-i=n-(i+1)+1 by omega]
      show _=outN leO (cL_ leO L i) (i+1) (n-(i+1))
      rw[←HIn.out,he]⟩
    have HEND:=hid END
    clear END
    cases j with
    | zero=>
     rw[show((0:Nat):Int)=0 from rfl]
     go_wp2
     refine wp_region_quiet_below (by kernel_rfl) (by kernel_rfl) ?_
     repeat (go_big_quiet_step (fail))
     refine wpQuiet_nil ?_
     intro W1 hw'
     have hb1:Below wr.heap.size wr W1:=by obtain⟨⟨dq,osq⟩,hw''⟩:=hw';rw[hw''];exact below_regrown wr dq osq
     have H1:=hid (HM.out.below hb1)
     clear hw' hb1
     go_wp2
     exact⟨HEND.out rfl _ H1.out,by simp only[intOf];omega⟩
    | succ jp=>
     obtain⟨x,hx⟩:∃x,M[jp+1]?=some x:=⟨M[jp+1]'(by have:=HMl.out;omega),List.getElem?_eq_getElem _⟩
     obtain⟨y,hy⟩:∃y,M[jp]?=some y:=⟨M[jp]'(by have:=HMl.out;omega),List.getElem?_eq_getElem _⟩
     obtain⟨x0,x1⟩:=HM.out.ns.row _ _ hx
     obtain⟨y0,y1⟩:=HM.out.ns.row _ _ hy
     have fx:FO x:=HMf.out x (List.mem_of_getElem? hx)
     have fy:FO y:=HMf.out y (List.mem_of_getElem? hy)
     have K:=hid (fun(W:World) (h:Below w.heap.size w W)=>ucmp_s fx fy (HI.out.below h))
     have e1:M[jp+1]?.getD default=x:=by rw[hx];rfl
     have e2:M[jp]?.getD default=y:=by rw[hy];rfl
     have hIN:cL_ leO M (jp+1)=if decide (rH_ x y<0) then cL_ leO (swpN M jp) jp else M:=by
      show(if leO (M[jp+1]?.getD default) (M[jp]?.getD default) then cL_ leO (swpN M jp) jp else M)=_
      rw[e1,e2]
      rfl
     have HIN:=hid hIN
     have HE:=hid (show swpN M jp=(M.set (jp+1) y).set jp x by unfold swpN;rw[e1,e2])
     clear hIN e1 e2
     have hwp:IntKind.i64.wrap (jp:Int)=(jp:Int):=IntWalk.i64_in _ (by omega)
     have jz:(jp:Int)+1<(n:Int):=by omega
     have jz1:(jp:Int)<(n:Int):=by omega
     have p0:(0:Int)≤(jp:Int)+1:=by omega
     have e0:((jp:Int)+1).toNat=jp+1:=by omega
     have g0:(0:Int)<(jp:Int)+1:=by omega
     rw[show((jp+1:Nat):Int)=(jp:Int)+1 from by omega]
     have HXY:=hid (And.intro hx hy)
     clear hx hy fx fy
     obtain⟨xn,hxn⟩:∃v,v=qN x:=⟨_,rfl⟩
     obtain⟨xd,hxd⟩:∃v,v=qD x:=⟨_,rfl⟩
     obtain⟨yn,hyn⟩:∃v,v=qN y:=⟨_,rfl⟩
     obtain⟨yd,hyd⟩:∃v,v=qD y:=⟨_,rfl⟩
     rw[←hxn] at x0 K
     rw[←hxd] at x1 K
     rw[←hyn] at y0 K
     rw[←hyd] at y1 K
     have HQ:=hid (show xn=qN x∧xd=qD x∧yn=qN y∧yd=qD y from⟨hxn,hxd,hyn,hyd⟩)
     clear hxn hxd hyn hyd
     obtain⟨c,hc⟩:∃c,c=rH_ x y:=⟨_,rfl⟩
     rw[←hc] at K HIN
     clear hc
     have k0:=cell_regrown x0
     have k1:=cell_regrown x1
     have k2:=cell_regrown y0
     have k3:=cell_regrown y1
     have c0:=fun d os=>Calls.regrown_of (d:=d) (os:=os) (K.out _ (HM.out.az.bw.trans ((below_regrown wr d os).mono HM.out.az.bw.size)))
     go_wp2
     refine wp_region_quiet_below (by kernel_rfl) (by kernel_rfl) ?_
     repeat (go_big_quiet_step ((with_reducible exact c0 _ _)))
     refine wpQuiet_nil ?_
     intro W1 hw'
     have hb1:Below wr.heap.size wr W1:=by obtain⟨⟨dq,osq⟩,hw''⟩:=hw';rw[hw''];exact below_regrown wr dq osq
     have H1:=hid (HM.out.below hb1)
     clear hw' hb1 k0 k1 k2 k3 c0 x0 x1 y0 y1
     by_cases hcz:c<0
     ·have hcd:decide (c<0)=true:=decide_eq_true hcz
      have HI2:=hid (show cL_ leO M (jp+1)=cL_ leO (swpN M jp) jp by rw[HIN.out,hcd];rfl)
      clear hcd HIN HEND
      have z0:=(H1.out.ns.row _ _ HXY.out.1).1
      have z1:=(H1.out.ns.row _ _ HXY.out.1).2
      have z2:=(H1.out.ns.row _ _ HXY.out.2).1
      have z3:=(H1.out.ns.row _ _ HXY.out.2).2
      rw[←HQ.out.1] at z0
      rw[←HQ.out.2.1] at z1
      rw[←HQ.out.2.2.1] at z2
      rw[←HQ.out.2.2.2] at z3
      have q0:=H1.out.ns.fz ((jp+1)*2) (by rw[HMl.out];omega)
      have q1:=H1.out.ns.fz ((jp+1)*2+1) (by rw[HMl.out];omega)
      have q2:=H1.out.ns.fz (jp*2) (by rw[HMl.out];omega)
      have q3:=H1.out.ns.fz (jp*2+1) (by rw[HMl.out];omega)
      go_wp2
      go_region
      all_goals
       go_wp2
       have H2:=((H1.out.set (k:=jp+1) (by rw[HMl.out];omega) y).set (k:=jp) (by rw[List.length_set,HMl.out];omega) x).drew
       rw[←HQ.out.1,←HQ.out.2.1,←HQ.out.2.2.1,←HQ.out.2.2.2] at H2
       refine⟨⟨jp,(M.set (jp+1) y).set jp x,rfl,by omega,by rw[List.length_set,List.length_set,HMl.out],fun z hz=>?_,H2,by rw[←HIn.out,HI2.out,HE.out]⟩,by simp only[intOf];omega⟩
       rcases List.mem_or_eq_of_mem_set hz with hz|rfl
       ·rcases List.mem_or_eq_of_mem_set hz with hz|rfl
        ·exact HMf.out z hz
        ·exact HMf.out _ (List.mem_of_getElem? HXY.out.2)
       ·exact HMf.out _ (List.mem_of_getElem? HXY.out.1)
     ·have hcd:decide (c<0)=false:=decide_eq_false hcz
      have HI2:=hid (show cL_ leO M (jp+1)=M by rw[HIN.out,hcd];rfl)
      clear hcd HIN
      go_wp2
      exact⟨HEND.out HI2.out _ H1.out,by simp only[intOf];omega⟩
  ·have e:L=S:=by
    have:=HO.out
    rw[show n-i=0 by omega] at this
    exact this
   subst e
   clear HO HS
   have hlt2:decide ((i:Int)<(n:Int))=false:=decide_eq_false (by omega)
   go_wp2
   go_end0
   exact⟨rfl,HA.out⟩
theorem uN_ {x:Int} (h0:0≤x) (h1:x≤18446744073709551615) (w:World) :
  Calls Tryz.prog 132 #[.int .u64 x] w fun e w'=>(∃k:Int,e=.returned (.int .i64 k))∧w'=w:=by
 have K:=hid (fun W=>Tryz.bits_Len64 x W h0 h1)
 generalize ((Lib.bitLen x.toNat:Nat):Int)=k at K
 go_enter Tryz.func132,Tryz.ntmps132
 go_wp2_with (go_at_call 179;(with_reducible refine(K.out _).mono ?_);rintro e w' ⟨rfl,rfl⟩)
 go_ret
 exact⟨⟨k,rfl⟩,rfl⟩
theorem pdqN_s {B cap n:Nat} {k:Int} {l:List (Option Rat)} {R:List (Nat×List Value)} {w W:World} (hl:l.length=n) (hn:n≤12) (hf:∀x∈l,FO x) (hi:IOps w) (h:NzAt B l R w W) :
  Calls Tryz.prog 183 #[.slice (some ⟨B,0,none⟩) n cap,.int .i64 0,.int .i64 n,.int .i64 k,.func (.func 142) #[] #[]] W fun e W'=>e=.returned (.tuple #[])∧NzAt B (cQ_ leO l) R w W':=by
 have K:=hid (insN_s (cap:=cap) hl (by omega) hf hi h)
 clear hl hf hi h
 have hn1:(n:Int)≤12:=by omega
 have hw1:IntKind.i64.wrap (n:Int)=(n:Int):=IntWalk.i64_in _ (by omega)
 go_enter Tryz.func183,Tryz.ntmps183
 go_wp2
 refine wp_loop_rounds 1 ?_
 rw[rounds_succ]
 go_wp2_with (go_at_call 225;(with_reducible refine(K.out).mono ?_);rintro e w' ⟨rfl,hz⟩)
 (try simp only[Exit.inBlock,Exit.then]);refine bodyPost_ret (results_none rfl _ _ _) rfl ?_
 exact⟨rfl,hz⟩
theorem aNU {B cap n:Nat} {l:List (Option Rat)} {R:List (Nat×List Value)} {w W:World} (hl:l.length=n) (hn:n≤12) (hf:∀x∈l,FO x) (hi:IOps w) (h:NzAt B l R w W) :
  Calls Tryz.prog 141 #[.slice (some ⟨B,0,none⟩) n cap,.func (.func 142) #[] #[]] W fun e W'=>e=.returned (.tuple #[])∧NzAt B (cQ_ leO l) R w W':=by
 have K:=hid (fun(k:Int)=>pdqN_s (cap:=cap) (k:=k) hl hn hf hi h)
 have K2:=hid (fun W=>uN_ (x:=(n:Int)) (by omega) (by omega) W)
 clear hl hf hi h
 have hw1:IntKind.u64.wrap (n:Int)=(n:Int):=by simp[IntKind.wrap,IntKind.bits,IntKind.signed];omega
 go_enter Tryz.func141,Tryz.ntmps141
 go_wp2_with (first
  | (go_at_call 132;(with_reducible refine(K2.out _).mono ?_);rintro e w' ⟨⟨k,rfl⟩,rfl⟩)
  | (go_at_call 183;(with_reducible refine(K.out _).mono ?_);rintro e w' ⟨rfl,hz⟩)
  | fail)
 go_end0
 exact⟨rfl,hz⟩
theorem AzAt.cons {L:List (Nat×List Value)} {w W:World} (h:AzAt L w W) {B:Nat} {vs:List Value} (c:ArAt B vs W):AzAt ((B,vs)::L) w W:=
 ⟨h.bw,fun x hx=>by rcases List.mem_cons.1 hx with rfl|hx;exact c;exact h.row x hx⟩
theorem ArAt.of_block {B:Nat} {vs:List Value} {W W':World} (h:ArAt B vs W) (hb:W'.heap[B]?=W.heap[B]?) (hs:W.heap.size≤W'.heap.size):ArAt B vs W':=
 ⟨fun i v hv=>(World.cell?_of_block (w:=W) (a:=⟨B,i,none⟩) hb).trans (h.row i v hv),fun o ho=>by
  have:=h.fz o ho
  unfold World.frozen? at *
  rw[hb]
  exact this,Nat.lt_of_lt_of_le h.sz hs⟩
structure OzAt (e:TypeId) (v:Value) (n:Nat) (xs:List Value) (R:List (Nat×List Value)) (w W:World):Prop where
 az:AzAt R w W
 own:W.ownsRow w.heap.size e 2 v n xs
 ne:∀x∈R,v.ownBlock≠some x.1
theorem bB_ {W:World} {b:Nat} {e:TypeId} {s:Nat} {v:Value} {n:Nat} {xs:List Value} (h:W.ownsRow b e s v n xs):∀g,v.ownBlock=some g→g<W.heap.size∧b≤g:=by
 intro g hg
 rcases h.2 with ⟨rfl,_⟩|⟨g',cap,cur,rfl,hb,hc,_⟩
 ·cases hg
 ·obtain rfl:g'=g:=by simpa[Value.ownBlock] using hg
  exact⟨(Array.getElem?_eq_some_iff.1 hc).1,hb⟩
section
variable {e:TypeId} {v:Value} {n:Nat} {xs:List Value} {R:List (Nat×List Value)} {w W:World}
theorem iU_ {b s:Nat} {W':World} (h:W.ownsRow b e s v n xs) (hb:Below W.heap.size W W'):W'.ownsRow b e s v n xs:=by
 refine⟨h.1,?_⟩
 rcases h.2 with hn|⟨g,cap,cur,hv,h1,h2,h3⟩
 ·exact .inl hn
 ·exact .inr ⟨g,cap,cur,hv,h1,(hb.block g (Array.getElem?_eq_some_iff.1 h2).1).trans h2,h3⟩
theorem OzAt.below {W':World} (h:OzAt e v n xs R w W) (hb:Below W.heap.size W W'):OzAt e v n xs R w W':=⟨h.az.below hb,iU_ h.own hb,h.ne⟩
theorem OzAt.al (h:OzAt e v n xs R w W) (o:Obj):OzAt e v n xs R w (W.alloc o):=h.below ((Below.refl _ _).alloc (Nat.le_refl _) _)
theorem OzAt.drew (h:OzAt e v n xs R w W):OzAt e v n xs R w W.drew:=h.below (Below.refl _ _).drew
theorem OzAt.sub {R':List (Nat×List Value)} (h:OzAt e v n xs R w W) (hs:∀x∈R',x∈R):OzAt e v n xs R' w W:=⟨h.az.sub hs,h.own,fun x hx=>h.ne x (hs x hx)⟩
theorem OzAt.cons (h:OzAt e v n xs R w W) {B:Nat} {vs:List Value} (c:ArAt B vs W) (hne:v.ownBlock≠some B):OzAt e v n xs ((B,vs)::R) w W:=
 ⟨h.az.cons c,h.own,fun x hx=>by rcases List.mem_cons.1 hx with rfl|hx;exact hne;exact h.ne x hx⟩
theorem hL_ {B:Nat} (h:OzAt e v n xs R w W) (hB:W.heap.size≤B):v.ownBlock≠some B:=fun e=>by
 have:=(bB_ h.own _ e).1
 omega
theorem fJ_ {b s:Nat} (h:W.ownsRow b e s v n xs) {B i:Nat} (hne:v.ownBlock≠some B) (u:Value):(W.setCell ⟨B,i,none⟩ u).ownsRow b e s v n xs:=by
 refine⟨h.1,?_⟩
 rcases h.2 with hn|⟨g,cap,cur,hv,h1,h2,h3⟩
 ·exact .inl hn
 ·subst hv
  have hgB:g≠B:=fun x=>hne (by rw[x];rfl)
  exact .inr ⟨g,cap,cur,rfl,h1,(Below.heap_setCell _ _ _ _ hgB).trans h2,h3⟩
theorem OzAt.set2 {B:Nat} {a b:Value} (h:OzAt e v n xs ((B,[a,b])::R) w W) (hB:w.heap.size≤B) (hd:∀x∈R,B≠x.1) (u t:Value):OzAt e v n xs ((B,[u,t])::R) w ((W.setCell ⟨B,0,none⟩ u).setCell ⟨B,1,none⟩ t):=by
 have hne:=h.ne (B,[a,b]) (by simp)
 exact⟨h.az.set2 hB hd u t,fJ_ (fJ_ h.own hne u) hne t,fun x hx=>by
  rcases List.mem_cons.1 hx with rfl|hx
  ·exact hne
  ·exact h.ne x (by simp[hx])⟩
theorem OzAt.append {v' p q:Value} {w':World} {o:Obj} (h:OzAt e v n xs R w W) (hown:w'.ownsRow w.heap.size e 2 v' (n+1) (xs++[p,q])) (hg:(W.alloc o).grownBy w' v.ownBlock)
  (hv:v'.ownBlock=v.ownBlock∨v'.ownBlock=some (W.alloc o).heap.size):OzAt e v' (n+1) (xs++[p,q]) R w w':=by
 have h1:=h.al o
 refine⟨⟨h1.az.bw.grown hg h1.az.bw.size (fun k hk=>(bB_ h1.own k hk).2),fun x hx=>?_⟩,hown,fun x hx=>?_⟩
 ·exact(h1.az.row x hx).of_block (hg.block x.1 (h1.az.row x hx).sz (fun hk=>h1.ne x hx hk.symm)) hg.size
 ·rcases hv with hv|hv
  ·rw[hv];exact h.ne x hx
  ·rw[hv]
   intro hk
   have:=(h1.az.row x hx).sz
   have hk':=Option.some.inj hk
   omega
theorem OzAt.nil (h:AzAt R w W) (e:TypeId):OzAt e (.slice none 0 0) 0 [] R w W:=⟨h,World.ownsRow_nil _ _ _ _,fun x _ hk=>by cases hk⟩
theorem OzAt.cell (h:OzAt e v n xs R w W) {B m cap k:Nat} {x:Value} (hv:v=.slice (some ⟨B,0,none⟩) m cap) (hx:xs[k]?=some x):W.cell? ⟨B,k,none⟩=some x:=by
 rcases h.own.2 with ⟨rfl,_⟩|⟨g,c,cur,rfl,_,hc,_,_,_,ht⟩
 ·cases hv
 ·obtain⟨rfl,_⟩:g=B∧True:=by
   injection hv with h1
   injection h1 with h1
   exact⟨congrArg Addr.block h1,trivial⟩
  rw[←ht] at hx
  unfold World.cell?
  rw[hc]
  have:=List.getElem?_take (l:=cur.toList) (i:=n*2) (j:=k)
  rw[this] at hx
  split at hx
  ·simpa using hx
  ·cases hx
theorem OzAt.fz (h:OzAt e v n xs R w W) {B m cap:Nat} (hv:v=.slice (some ⟨B,0,none⟩) m cap) (k:Nat):W.frozen? ⟨B,k,none⟩=false:=by
 rcases h.own.2 with ⟨rfl,_⟩|⟨g,c,cur,rfl,_,hc,_,_,_,ht⟩
 ·cases hv
 ·obtain⟨rfl,_⟩:g=B∧True:=by
   injection hv with h1
   injection h1 with h1
   exact⟨congrArg Addr.block h1,trivial⟩
  unfold World.frozen?
  rw[hc]
  simp
theorem OzAt.blk (h:OzAt e v n xs R w W) {B m cap:Nat} (hv:v=.slice (some ⟨B,0,none⟩) m cap):B<W.heap.size∧w.heap.size≤B∧n=m∧∀x∈R,B≠x.1:=by
 have hb:=bB_ h.own B (by rw[hv];rfl)
 refine⟨hb.1,hb.2,?_,fun x hx hk=>h.ne x hx (by rw[hv,hk];rfl)⟩
 rcases h.own.2 with ⟨rfl,_⟩|⟨g,c,cur,rfl,_⟩
 ·cases hv
 ·injection hv
theorem OzAt.lit (h:AzAt R w W) (vs:List Value) (e:TypeId) (n:Nat) (hl:vs.length=n*2) (hn:n≤1000000):OzAt e (.slice (some ⟨W.heap.size,0,none⟩) n n) n vs R w (W.alloc (.cells vs.toArray e)):=by
 have ho:=World.ownsRow_lit (base:=w.heap.size) (e:=e) (size:=2) W vs.toArray n h.bw.size (by unfold maxLen;omega) (by simpa using hl)
 refine⟨h.al _,by simpa using ho,fun x hx hk=>?_⟩
 have:=(h.row x hx).sz
 have hk':W.heap.size=x.1:=Option.some.inj hk
 omega
theorem OzAt.push (h:OzAt e v n xs R w W) (l:List Value) (t:TypeId):OzAt e v n xs ((W.heap.size,l)::R) w (W.alloc (.cells l.toArray t)):=
 (h.al _).cons (ArAt.mk' W l t) (hL_ h (Nat.le_refl _))
theorem jK_ (W:World) (p q:Value) (e:TypeId):∀j u,([p,q]:List Value)[j]?=some u→(W.alloc (.cells #[p,q] e)).cell? ((⟨W.heap.size,0,none⟩:Addr).add j)=some u:=fun j u hj=>by
 match j,hj with
 | 0,hj=>cases hj;simp[Addr.add]
 | 1,hj=>cases hj;simp[Addr.add]
 | j+2,hj=>simp at hj
end
def kY_ (l:List (Option Rat)):List Value:=l.flatMap fun x=>[.string (qN x),.string (qD x)]
theorem aAY (l:List (Option Rat)) (x:Option Rat):kY_ (l++[x])=kY_ l++[.string (qN x),.string (qD x)]:=by simp[kY_]
theorem yU_ {l:List (Option Rat)} {k:Nat} {x:Option Rat} (h:l[k]?=some x):(kY_ l)[k*2]?=some (.string (qN x))∧(kY_ l)[k*2+1]?=some (.string (qD x)):=by
 induction l generalizing k with
 | nil=>cases h
 | cons y l ih=>
  have e:kY_ (y::l)=.string (qN y)::.string (qD y)::kY_ l:=rfl
  rw[e]
  cases k with
  | zero=>cases h;exact⟨rfl,rfl⟩
  | succ k=>
   have:=ih (k:=k) (by simpa using h)
   rw[show(k+1)*2=k*2+1+1 by omega]
   exact this
theorem OzAt.ns {e:TypeId} {B m cap:Nat} {l:List (Option Rat)} {R:List (Nat×List Value)} {w W:World} (h:OzAt e (.slice (some ⟨B,0,none⟩) m cap) m (kY_ l) R w W):NzAt B l R w W:=
 ⟨h.az,⟨fun _ _ hx=>⟨h.cell rfl (yU_ hx).1,h.cell rfl (yU_ hx).2⟩,fun o _=>h.fz rfl o,(h.blk rfl).1⟩,(h.blk rfl).2.1,(h.blk rfl).2.2.2⟩
section
variable {B:Nat} {l:List (Option Rat)} {R:List (Nat×List Value)} {w W:World}
theorem NsAt.other (h:NsAt B l W) {X:Nat} (hne:X≠B) (i:Nat) (u:Value):NsAt B l (W.setCell ⟨X,i,none⟩ u):=
 ⟨fun k x hx=>⟨(World.cell?_setCell_other _ _ _ _ (fun e=>hne (by have:=congrArg Addr.block e;simpa using this))).trans (h.row k x hx).1,(World.cell?_setCell_other _ _ _ _ (fun e=>hne (by have:=congrArg Addr.block e;simpa using this))).trans (h.row k x hx).2⟩,
  fun o ho=>by have:=h.fz o ho;simpa[go_sem] using this,by simpa using h.sz⟩
theorem NzAt.cons (h:NzAt B l R w W) {X:Nat} {vs:List Value} (c:ArAt X vs W) (hne:B≠X):NzAt B l ((X,vs)::R) w W:=
 ⟨h.az.cons c,h.ns,h.hB,fun x hx=>by rcases List.mem_cons.1 hx with rfl|hx;exact hne;exact h.ne x hx⟩
theorem NzAt.push (h:NzAt B l R w W) (vs:List Value) (t:TypeId):NzAt B l ((W.heap.size,vs)::R) w (W.alloc (.cells vs.toArray t)):=
 (h.below ((Below.refl _ _).alloc (Nat.le_refl _) _)).cons (ArAt.mk' W vs t) (by have:=h.ns.sz;omega)
theorem NzAt.sub {R':List (Nat×List Value)} (h:NzAt B l R w W) (hs:∀x∈R',x∈R):NzAt B l R' w W:=⟨h.az.sub hs,h.ns,h.hB,fun x hx=>h.ne x (hs x hx)⟩
theorem NzAt.set2 {X:Nat} {a b:Value} (h:NzAt B l ((X,[a,b])::R) w W) (hX:w.heap.size≤X) (hd:∀x∈R,X≠x.1) (u t:Value):NzAt B l ((X,[u,t])::R) w ((W.setCell ⟨X,0,none⟩ u).setCell ⟨X,1,none⟩ t):=by
 have hne:B≠X:=h.ne (X,[a,b]) (by simp)
 exact⟨h.az.set2 hX hd u t,(h.ns.other (Ne.symm hne) _ _).other (Ne.symm hne) _ _,h.hB,fun x hx=>by
  rcases List.mem_cons.1 hx with rfl|hx
  ·exact hne
  ·exact h.ne x (by simp[hx])⟩
end
theorem vP_:(Tryz.prog.info? 109).map (fun i=>(i.zero,i.size,i.bytes))=some (some (.agg #[.string ⟨#[]⟩,.string ⟨#[]⟩]),2,32):=by kernel_rfl
theorem dP_:(Tryz.prog.info? 26).map (fun i=>(i.zero,i.size,i.bytes))=some (some (.agg #[.int .i64 0,.int .i64 0]),2,16):=by kernel_rfl
end Go.Proofs.YtlikmmpmnaaifaaGreatDoor
namespace Go.Proofs.YtlikmmpmnaaifaaGreatDoor
open Go.RowKit Go.Shelf
attribute [local go_sem] Oper.semAt_some
theorem aOS (a b:Pl):ltP a b=decide (ordP a b<0):=by
 unfold ltP ordP aAL cmpI
 rw[←Bool.decide_and,←Bool.decide_or]
 refine decide_eq_decide.2 ?_
 (repeat' split) <;> omega
structure PqAt (B:Nat) (l:List (Pl)) (W:World):Prop where
 row:∀(k:Nat) (x:Pl),l[k]?=some x→W.cell? ⟨B,k*2,none⟩=some (.int .i64 x.x)∧W.cell? ⟨B,k*2+1,none⟩=some (.int .i64 x.y)
 fz:∀o,o<l.length*2→W.frozen? ⟨B,o,none⟩=false
 sz:B<W.heap.size
theorem PqAt.below {B:Nat} {l:List (Pl)} {W W':World} (h:PqAt B l W) (hb:Below W.heap.size W W'):PqAt B l W':=
 ⟨fun k x hx=>⟨(hb.cell (p:=⟨B,k*2,none⟩) h.sz).trans (h.row k x hx).1,(hb.cell (p:=⟨B,k*2+1,none⟩) h.sz).trans (h.row k x hx).2⟩,fun o ho=>(hb.frozen (p:=⟨B,o,none⟩) h.sz).trans (h.fz o ho),Nat.lt_of_lt_of_le h.sz hb.size⟩
theorem PqAt.drew {B:Nat} {l:List (Pl)} {W:World} (h:PqAt B l W):PqAt B l W.drew:=⟨h.row,h.fz,h.sz⟩
theorem PqAt.set {B:Nat} {l:List (Pl)} {W:World} (h:PqAt B l W) {k:Nat} (hk:k<l.length) (x:Pl):PqAt B (l.set k x) ((W.setCell ⟨B,k*2,none⟩ (.int .i64 x.x)).setCell ⟨B,k*2+1,none⟩ (.int .i64 x.y)):=by
 obtain⟨y,hy⟩:∃y,l[k]?=some y:=⟨l[k],List.getElem?_eq_getElem hk⟩
 obtain⟨y0,y1⟩:=h.row k y hy
 have n1:(⟨B,k*2,none⟩:Addr)≠⟨B,k*2+1,none⟩:=fun e=>by have:=congrArg Addr.off e;simp at this
 refine⟨fun j z hz=>?_,fun o ho=>?_,by simpa using h.sz⟩
 ·by_cases hj:k=j
  ·subst hj
   rw[List.getElem?_set_self hk] at hz
   cases hz
   refine⟨?_,?_⟩
   ·rw[World.cell?_setCell_other _ _ _ _ n1.symm]
    exact World.cell?_setCell_same _ _ _ y0
   ·exact World.cell?_setCell_same _ _ _ ((World.cell?_setCell_other _ _ _ _ n1).trans y1)
  ·rw[List.getElem?_set_ne hj] at hz
   obtain⟨z0,z1⟩:=h.row j z hz
   refine⟨?_,?_⟩
   ·rw[World.cell?_setCell_other _ _ _ _ (fun e=>by have:=congrArg Addr.off e;simp at this;omega),World.cell?_setCell_other _ _ _ _ (fun e=>by have:=congrArg Addr.off e;simp at this;omega)]
    exact z0
   ·rw[World.cell?_setCell_other _ _ _ _ (fun e=>by have:=congrArg Addr.off e;simp at this;omega),World.cell?_setCell_other _ _ _ _ (fun e=>by have:=congrArg Addr.off e;simp at this;omega)]
    exact z1
 ·have:=h.fz o (by simpa using ho)
  simpa[go_sem] using this
structure PzAt (B:Nat) (l:List (Pl)) (R:List (Nat×List Value)) (w W:World):Prop where
 az:AzAt R w W
 ns:PqAt B l W
 hB:w.heap.size≤B
 ne:∀x∈R,B≠x.1
theorem PzAt.below {B:Nat} {l:List (Pl)} {R:List (Nat×List Value)} {w W W':World} (h:PzAt B l R w W) (hb:Below W.heap.size W W'):PzAt B l R w W':=⟨h.az.below hb,h.ns.below hb,h.hB,h.ne⟩
theorem PzAt.drew {B:Nat} {l:List (Pl)} {R:List (Nat×List Value)} {w W:World} (h:PzAt B l R w W):PzAt B l R w W.drew:=⟨h.az.drew,h.ns.drew,h.hB,h.ne⟩
theorem PzAt.set {B:Nat} {l:List (Pl)} {R:List (Nat×List Value)} {w W:World} (h:PzAt B l R w W) {k:Nat} (hk:k<l.length) (x:Pl):PzAt B (l.set k x) R w ((W.setCell ⟨B,k*2,none⟩ (.int .i64 x.x)).setCell ⟨B,k*2+1,none⟩ (.int .i64 x.y)):=
 ⟨⟨(h.az.bw.setCell h.hB _).setCell h.hB _,fun x hx=>((h.az.row x hx).other (h.ne x hx) _ _).other (h.ne x hx) _ _⟩,h.ns.set hk x,h.hB,h.ne⟩
section
variable {B:Nat} {l:List (Pl)} {R:List (Nat×List Value)} {w W:World}
theorem PzAt.cons (h:PzAt B l R w W) {X:Nat} {vs:List Value} (c:ArAt X vs W) (hne:B≠X):PzAt B l ((X,vs)::R) w W:=
 ⟨h.az.cons c,h.ns,h.hB,fun x hx=>by rcases List.mem_cons.1 hx with rfl|hx;exact hne;exact h.ne x hx⟩
end
end Go.Proofs.YtlikmmpmnaaifaaGreatDoor
namespace Go.Proofs.YtlikmmpmnaaifaaGreatDoor
open Go.RowKit Go.Shelf
attribute [local go_sem] Oper.semAt_some
theorem OzAt.grown {e:TypeId} {v v':Value} {n n':Nat} {xs xs':List Value} {R:List (Nat×List Value)} {w W1 w':World} (h1:OzAt e v n xs R w W1) (hown:w'.ownsRow w.heap.size e 2 v' n' xs') (hg:W1.grownBy w' v.ownBlock)
  (hv:v'.ownBlock=v.ownBlock∨v'.ownBlock=some W1.heap.size):OzAt e v' n' xs' R w w':=by
 refine⟨⟨h1.az.bw.grown hg h1.az.bw.size (fun k hk=>(bB_ h1.own k hk).2),fun x hx=>?_⟩,hown,fun x hx=>?_⟩
 ·exact(h1.az.row x hx).of_block (hg.block x.1 (h1.az.row x hx).sz (fun hk=>h1.ne x hx hk.symm)) hg.size
 ·rcases hv with hv|hv
  ·rw[hv];exact h1.ne x hx
  ·rw[hv]
   intro hk
   have:=(h1.az.row x hx).sz
   have hk':=Option.some.inj hk
   omega
theorem bJ_ (l:List Pl):(plC l).length=l.length*2:=by
 induction l with
 | nil=>rfl
 | cons p l ih=>simp only[plC,List.length_cons,ih];omega
theorem eU_ (l k:List Pl):plC (l++k)=plC l++plC k:=by
 induction l with
 | nil=>rfl
 | cons p l ih=>simp only[List.cons_append,plC,ih]
theorem qF_ (l:List Pl):∀u∈plC l,u.oneCell'=true:=by
 induction l with
 | nil=>intro u hu;cases hu
 | cons p l ih=>
  intro u hu
  rcases List.mem_cons.1 hu with rfl|hu
  ·rfl
  ·rcases List.mem_cons.1 hu with rfl|hu
   ·rfl
   ·exact ih u hu
theorem mM_ {l:List Pl} {f:Nat→Option Value} (h:∀(k:Nat) (p:Pl),l[k]?=some p→f (k*2)=some (.int .i64 p.x)∧f (k*2+1)=some (.int .i64 p.y)):∀(i:Nat) (v:Value),(plC l)[i]?=some v→f i=some v:=by
 intro i v hv
 have hi:i<l.length*2:=by
  rcases Nat.lt_or_ge i (l.length*2) with h|h
  ·exact h
  ·rw[List.getElem?_eq_none (by rw[bJ_];exact h)] at hv;cases hv
 obtain⟨k,hk⟩:∃k,i=k*2∨i=k*2+1:=⟨i/2,by omega⟩
 obtain⟨p,hp⟩:∃p,l[k]?=some p:=⟨l[k]'(by omega),List.getElem?_eq_getElem _⟩
 obtain⟨h1,h2⟩:=h k p hp
 obtain⟨g1,g2⟩:=iR_ hp
 rcases hk with rfl|rfl
 ·rw[hv] at g1;rw[h1];exact g1.symm
 ·rw[hv] at g2;rw[h2];exact g2.symm
theorem OzAt.pz {e:TypeId} {B m cap:Nat} {l:List Pl} {R:List (Nat×List Value)} {w W:World} (h:OzAt e (.slice (some ⟨B,0,none⟩) m cap) m (plC l) R w W):PzAt B l R w W:=
 ⟨h.az,⟨fun _ _ hx=>⟨h.cell rfl (iR_ hx).1,h.cell rfl (iR_ hx).2⟩,fun o _=>h.fz rfl o,(h.blk rfl).1⟩,(h.blk rfl).2.1,(h.blk rfl).2.2.2⟩
theorem OzAt.ar {e:TypeId} {B m cap:Nat} {xs:List Value} {R:List (Nat×List Value)} {w W:World} (h:OzAt e (.slice (some ⟨B,0,none⟩) m cap) m xs R w W):AzAt ((B,xs)::R) w W:=
 h.az.cons ⟨fun _ _ hx=>h.cell rfl hx,fun o _=>h.fz rfl o,(h.blk rfl).1⟩
theorem PzAt.ar {B:Nat} {l:List Pl} {R:List (Nat×List Value)} {w W:World} (h:PzAt B l R w W):AzAt ((B,plC l)::R) w W:=
 h.az.cons ⟨mM_ (f:=fun i=>W.cell? ⟨B,i,none⟩) h.ns.row,fun o ho=>h.ns.fz o (by rwa[bJ_] at ho),h.ns.sz⟩
theorem PzAt.ps {B:Nat} {l:List Pl} {R:List (Nat×List Value)} {w W:World} (h:PzAt B l R w W):PsAt B l W:=⟨h.ns.row,h.ns.sz⟩
theorem vG_ {B:Nat} {ps:List Pl} {W:World} (h:PsAt B ps W):∀j u,(plC ps)[j]?=some u→W.cell? ((⟨B,0,none⟩:Addr).add j)=some u:=fun j u hj=>by
 have:=mM_ (f:=fun i=>W.cell? ⟨B,i,none⟩) h.row j u hj
 have e:((⟨B,0,none⟩:Addr).add j)=⟨B,j,none⟩:=by
  unfold Addr.add
  split
  ·rename_i h0
   first|(subst h0;rfl)|(simp at h0;subst h0;rfl)
  ·simp
 rw[e]
 exact this
theorem aPY {B cap n:Nat} {ps:List Pl} (hl:ps.length=n) (hn:n≤1000000) {R:List (Nat×List Value)} {w W:World} (hA:AzAt R w W) (h:PsAt B ps W) :
  Calls Tryz.prog 70 #[.slice (some ⟨B,0,none⟩) n cap] W fun e W'=>∃v,e=.returned v∧OzAt 26 v n (plC ps) R w W':=by
 have H0:=hid (OzAt.lit hA [] 26 0 rfl (by omega))
 have HP:=hid h
 have HL:=hid hl
 have hsz:=hA.bw.size
 clear hA h
 obtain⟨i0,hi0,hz0,hz1,hz2⟩:=info_parts dP_
 have hnil:∀W:World,(binOp .eql 27 (.slice (some ⟨B,0,none⟩) n cap) (.slice none 0 0)).run Tryz.prog W=.ok (.bool false) W:=fun _=>rfl
 go_enter Tryz.func70,Tryz.ntmps70
 go_wp2_with (first
  | (at_builtin;refine wpList_append_own_at _ rfl _ _ 27 rfl w.heap.size 26 i0 (.agg #[.int .i64 0,.int .i64 0]) 2 16 Tryz.underlying27 hi0 hz0 hz1 hz2 rfl (by decide) (.slice (some ⟨W.heap.size,0,none⟩) 0 0) 0 [] rfl H0.out.own ⟨B,0,none⟩ n cap (plC ps) rfl (by rw[bJ_,HL.out]) (vG_ (HP.out.below ((Below.refl _ _).alloc (Nat.le_refl _) _))) (qF_ ps) (by unfold maxLen;omega) (by omega) (by simp;omega) ?_;intro v' w7 hown' hgrow _ hat;have HZ7:=hid (H0.out.grown hown' hgrow hat);clear hown' hgrow hat)
  | fail)
 go_ret
 have:=HZ7.out
 rw[Nat.zero_add,List.nil_append] at this
 exact⟨_,rfl,this⟩
theorem left_s {a b c:Pl} (ha:vP a=true) (hb:vP b=true) (hc:vP c=true) (w:World) :
  Calls Tryz.prog 74 #[.agg #[.int .i64 a.x,.int .i64 a.y],.agg #[.int .i64 b.x,.int .i64 b.y],.agg #[.int .i64 c.x,.int .i64 c.y]] w fun e W'=>e=.returned (.bool (aI_ a b c))∧Below w.heap.size w W':=by
 have K:=hid (fun W=>turn_s ha hb hc W)
 have H0:=hid ((((AzAt.start w).push [.int .i64 a.x,.int .i64 a.y] 26).push [.int .i64 b.x,.int .i64 b.y] 26).push [.int .i64 c.x,.int .i64 c.y] 26)
 unfold aI_
 generalize aB_ a b c=t at K⊢
 go_enter Tryz.func74,Tryz.ntmps74
 go_wp2_with (first
  | (go_at_call 75;(with_reducible refine(K.out _).mono ?_);rintro e w1 ⟨rfl,hb⟩;have H1:=hid (H0.out.below hb).bw;clear hb)
  | fail)
 go_ret
 exact⟨rfl,H1.out⟩
theorem aPN {B C n c1 c2:Nat} {ps:List Pl} (hp:ps.length=n) (hn:n≤1000000) (w:World) (h1:PsAt B ps w) (h2:PsAt C ps w) :
  Calls Tryz.prog 83 #[.slice (some ⟨B,0,none⟩) n c1,.slice (some ⟨C,0,none⟩) n c2] w fun e w'=>e=.returned (.bool true)∧Below w.heap.size w w':=by
 have HP:=hid hp
 have H1:=hid h1
 have H2:=hid h2
 clear h1 h2 hp
 go_enter Tryz.func83,Tryz.ntmps83
 go_wp2
 go_loopw [13] (fun i wr=>∃k:Nat,k≤n∧i=.int .i64 (k:Int)∧Below w.heap.size w wr) (fun i _=>n-(intOf i).toNat)
 case atStart=>exact⟨0,Nat.zero_le _,rfl,Below.refl _ _⟩
 case round=>
  obtain⟨k,hk,rfl,hb⟩:=hrel
  by_cases hlt:k<n
  ·obtain⟨p,hp⟩:∃p,ps[k]?=some p:=⟨ps[k]'(by have:=HP.out;omega),List.getElem?_eq_getElem _⟩
   obtain⟨c0,c1'⟩:=((H1.out.below hb).row k p hp)
   obtain⟨d0,d1⟩:=((H2.out.below hb).row k p hp)
   have HB:=hid hb
   clear hb hp
   have i1:(0:Int)≤(k:Int):=by omega
   have i2:(k:Int)<(n:Int):=by omega
   go_wp2
   go_region
   all_goals
    go_wp2
    exact⟨⟨k+1,by omega,by go_num,HB.out.drew⟩,by simp only[intOf];omega⟩
  ·obtain rfl:k=n:=by omega
   have HB:=hid hb
   clear hb
   go_wp2
   go_ret
   exact⟨rfl,HB.out⟩
structure OsAt (e:TypeId) (s:Nat) (v:Value) (n:Nat) (xs:List Value) (R:List (Nat×List Value)) (w W:World):Prop where
 az:AzAt R w W
 own:W.ownsRow w.heap.size e s v n xs
 ne:∀x∈R,v.ownBlock≠some x.1
section
variable {e:TypeId} {s:Nat} {v:Value} {n:Nat} {xs:List Value} {R:List (Nat×List Value)} {w W:World}
theorem OsAt.below {W':World} (h:OsAt e s v n xs R w W) (hb:Below W.heap.size W W'):OsAt e s v n xs R w W':=⟨h.az.below hb,iU_ h.own hb,h.ne⟩
theorem OsAt.al (h:OsAt e s v n xs R w W) (o:Obj):OsAt e s v n xs R w (W.alloc o):=h.below ((Below.refl _ _).alloc (Nat.le_refl _) _)
theorem OsAt.sub {R':List (Nat×List Value)} (h:OsAt e s v n xs R w W) (hs:∀x∈R',x∈R):OsAt e s v n xs R' w W:=⟨h.az.sub hs,h.own,fun x hx=>h.ne x (hs x hx)⟩
theorem OsAt.cons (h:OsAt e s v n xs R w W) {B:Nat} {vs:List Value} (c:ArAt B vs W) (hne:v.ownBlock≠some B):OsAt e s v n xs ((B,vs)::R) w W:=
 ⟨h.az.cons c,h.own,fun x hx=>by rcases List.mem_cons.1 hx with rfl|hx;exact hne;exact h.ne x hx⟩
theorem OsAt.push (h:OsAt e s v n xs R w W) (l:List Value) (t:TypeId):OsAt e s v n xs ((W.heap.size,l)::R) w (W.alloc (.cells l.toArray t)):=
 (h.al _).cons (ArAt.mk' W l t) (fun k=>by have:=(bB_ h.own _ k).1;omega)
theorem OsAt.grown {v':Value} {n':Nat} {xs':List Value} {w':World} (h:OsAt e s v n xs R w W) (hown:w'.ownsRow w.heap.size e s v' n' xs') (hg:W.grownBy w' v.ownBlock)
  (hv:v'.ownBlock=v.ownBlock∨v'.ownBlock=some W.heap.size):OsAt e s v' n' xs' R w w':=by
 refine⟨⟨h.az.bw.grown hg h.az.bw.size (fun k hk=>(bB_ h.own k hk).2),fun x hx=>?_⟩,hown,fun x hx=>?_⟩
 ·exact(h.az.row x hx).of_block (hg.block x.1 (h.az.row x hx).sz (fun hk=>h.ne x hx hk.symm)) hg.size
 ·rcases hv with hv|hv
  ·rw[hv];exact h.ne x hx
  ·rw[hv]
   intro hk
   have:=(h.az.row x hx).sz
   have hk':=Option.some.inj hk
   omega
theorem OsAt.nil (h:AzAt R w W) (e:TypeId) (s:Nat):OsAt e s (.slice none 0 0) 0 [] R w W:=⟨h,World.ownsRow_nil _ _ _ _,fun x _ hk=>by cases hk⟩
theorem OsAt.cell (h:OsAt e s v n xs R w W) {B m cap k:Nat} {x:Value} (hv:v=.slice (some ⟨B,0,none⟩) m cap) (hx:xs[k]?=some x):W.cell? ⟨B,k,none⟩=some x:=by
 rcases h.own.2 with ⟨rfl,_⟩|⟨g,c,cur,rfl,_,hc,_,_,_,ht⟩
 ·cases hv
 ·obtain⟨rfl,_⟩:g=B∧True:=by
   injection hv with h1
   injection h1 with h1
   exact⟨congrArg Addr.block h1,trivial⟩
  rw[←ht] at hx
  unfold World.cell?
  rw[hc]
  have:=List.getElem?_take (l:=cur.toList) (i:=n*s) (j:=k)
  rw[this] at hx
  split at hx
  ·simpa using hx
  ·cases hx
theorem OsAt.fz (h:OsAt e s v n xs R w W) {B m cap:Nat} (hv:v=.slice (some ⟨B,0,none⟩) m cap) (k:Nat):W.frozen? ⟨B,k,none⟩=false:=by
 rcases h.own.2 with ⟨rfl,_⟩|⟨g,c,cur,rfl,_,hc,_,_,_,ht⟩
 ·cases hv
 ·obtain⟨rfl,_⟩:g=B∧True:=by
   injection hv with h1
   injection h1 with h1
   exact⟨congrArg Addr.block h1,trivial⟩
  unfold World.frozen?
  rw[hc]
  simp
theorem OsAt.blk (h:OsAt e s v n xs R w W) {B m cap:Nat} (hv:v=.slice (some ⟨B,0,none⟩) m cap):B<W.heap.size∧w.heap.size≤B∧n=m∧∀x∈R,B≠x.1:=by
 have hb:=bB_ h.own B (by rw[hv];rfl)
 refine⟨hb.1,hb.2,?_,fun x hx hk=>h.ne x hx (by rw[hv,hk];rfl)⟩
 rcases h.own.2 with ⟨rfl,_⟩|⟨g,c,cur,rfl,_⟩
 ·cases hv
 ·injection hv
theorem OsAt.form (h:OsAt e s v n xs R w W):(v=.slice none 0 0∧n=0∧xs=[])∨∃g c,v=.slice (some ⟨g,0,none⟩) n c∧w.heap.size≤g∧g<W.heap.size:=by
 have hb:=bB_ h.own
 have hl:=h.own.1
 rcases h.own.2 with ⟨rfl,hn⟩|⟨g,c,cur,rfl,h1,_⟩
 ·exact .inl ⟨rfl,hn,List.length_eq_zero_iff.1 (by rw[hl,hn,Nat.zero_mul])⟩
 ·exact .inr ⟨g,c,rfl,h1,(hb g rfl).1⟩
end
theorem OsAt.kept {e:TypeId} {s:Nat} {v:Value} {n:Nat} {xs:List Value} {R:List (Nat×List Value)} {w W W':World} {row:Option Nat} (h:OsAt e s v n xs R w W) (hne:∀x∈R,x.2≠[]) (hg:W.grownBy W' row) (hb:∀r,row=some r→w.heap.size≤r) (hr:∀r,row=some r→∃o:Obj,W.heap[r]?=some o∧o.isCells=false):OsAt e s v n xs R w W':=by
 refine⟨⟨h.az.bw.grown hg h.az.bw.size hb,fun x hx=>?_⟩,⟨h.own.1,?_⟩,h.ne⟩
 ·obtain⟨u,hu⟩:∃u,x.2[0]?=some u:=by
   cases e:x.2 with
   | nil=>exact absurd e (hne x hx)
   | cons u l=>exact⟨u,rfl⟩
  obtain⟨o,ho,hc⟩:=cells_of_cell ((h.az.row x hx).row 0 u hu)
  exact(h.az.row x hx).of_block (grownBy_keeps_cells hg hr ho hc) hg.size
 ·rcases h.own.2 with hn|⟨g,c,cur,hv,h1,h2,h3⟩
  ·exact .inl hn
  ·exact .inr ⟨g,c,cur,hv,h1,(grownBy_keeps_cells hg hr h2 rfl).trans h2,h3⟩
theorem OsAt.set {e:TypeId} {s:Nat} {v:Value} {n:Nat} {xs:List Value} {R:List (Nat×List Value)} {w W:World} {B i:Nat} {l:List Value} {u:Value} (h:OsAt e s v n xs ((B,l)::R) w W) (hB:w.heap.size≤B) (hd:∀x∈R,B≠x.1) (hi:l[i]?=some u) (t:Value):OsAt e s v n xs ((B,l.set i t)::R) w (W.setCell ⟨B,i,none⟩ t):=by
 have hne:=h.ne (B,l) (by simp)
 refine⟨h.az.set hB hd hi t,fJ_ h.own hne t,fun x hx=>?_⟩
 rcases List.mem_cons.1 hx with rfl|hx
 ·exact hne
 ·exact h.ne x (by simp[hx])
theorem OsAt.ar {e:TypeId} {s:Nat} {v:Value} {n:Nat} {xs:List Value} {R:List (Nat×List Value)} {w W:World} (h:OsAt e s v n xs R w W) {B m cap:Nat} (hv:v=.slice (some ⟨B,0,none⟩) m cap):ArAt B xs W:=⟨fun _ _ hi=>h.cell hv hi,fun o _=>h.fz hv o,(h.blk hv).1⟩
structure CsAt (a:Option Addr) (vs:List Value) (W:World):Prop where
 row:∀(i:Nat) (v:Value),vs[i]?=some v→∃b o:Nat,a=some ⟨b,o,none⟩∧b<W.heap.size∧W.cell? ⟨b,o+i,none⟩=some v
theorem CsAt.below {a:Option Addr} {vs:List Value} {W W':World} (h:CsAt a vs W) (hb:Below W.heap.size W W'):CsAt a vs W':=
 ⟨fun i v hv=>by
  obtain⟨b,o,e,h1,h2⟩:=h.row i v hv
  exact⟨b,o,e,Nat.lt_of_lt_of_le h1 hb.size,(World.cell?_of_block (w:=W) (hb.block b h1)).trans h2⟩⟩
theorem CsAt.nil (a:Option Addr) (W:World):CsAt a [] W:=⟨fun i v h=>by simp at h⟩
theorem CsAt.some {a:Option Addr} {vs:List Value} {W:World} (h:CsAt a vs W) (h0:0<vs.length):∃b o:Nat,a=Option.some ⟨b,o,none⟩∧b<W.heap.size∧∀(i:Nat) (v:Value),vs[i]?=Option.some v→W.cell? ⟨b,o+i,none⟩=Option.some v:=by
 obtain⟨b,o,rfl,h1,h2⟩:=h.row 0 _ (List.getElem?_eq_getElem h0)
 refine⟨b,o,rfl,h1,fun i v hv=>?_⟩
 obtain⟨b',o',e,_,h3⟩:=h.row i v hv
 injection e with e
 injection e with e1 e2
 subst e1 e2
 exact h3
theorem CsAt.of_ar {B:Nat} {vs:List Value} {W:World} (h:ArAt B vs W):CsAt (Option.some ⟨B,0,none⟩) vs W:=⟨fun i v hv=>⟨B,0,rfl,h.sz,by rw[Nat.zero_add];exact h.row i v hv⟩⟩
theorem CsAt.own {e:TypeId} {s:Nat} {v:Value} {n:Nat} {xs:List Value} {R:List (Nat×List Value)} {w W:World} (h:OsAt e s v n xs R w W):∃a c,v=.slice a n c∧CsAt a xs W:=by
 rcases h.form with ⟨rfl,rfl,rfl⟩|⟨g,c,rfl,_,hg⟩
 ·exact⟨none,0,rfl,CsAt.nil _ _⟩
 ·exact⟨_,c,rfl,⟨fun i v hv=>⟨g,0,rfl,hg,by rw[Nat.zero_add];exact h.cell rfl hv⟩⟩⟩
def icC (l:List Int):List Value:=l.map fun x=>.int .i64 x
theorem hC_ (l:List Int):(icC l).length=l.length:=by unfold icC;simp
theorem oY_ (l m:List Int):icC (l++m)=icC l++icC m:=by unfold icC;simp
theorem fZ_ {l:List Int} {k:Nat} {x:Int} (h:l[k]?=some x):(icC l)[k]?=some (.int .i64 x):=by unfold icC;rw[List.getElem?_map,h];rfl
theorem aFU (l:List Int):∀u∈icC l,u.oneCell'=true:=by
 intro u hu
 obtain⟨x,_,rfl⟩:=List.mem_map.1 hu
 rfl
theorem qU_:(Tryz.prog.info? 3).map (fun i=>(i.zero,i.size,i.bytes))=some (some (.int .i64 0),1,8):=by kernel_rfl
theorem aEX (W:World) (p:Value) (e:TypeId):∀j u,([p]:List Value)[j]?=some u→(W.alloc (.cells #[p] e)).cell? ((⟨W.heap.size,0,none⟩:Addr).add j)=some u:=fun j u hj=>by
 match j,hj with
 | 0,hj=>cases hj;simp[Addr.add]
 | j+1,hj=>simp at hj
end Go.Proofs.YtlikmmpmnaaifaaGreatDoor
