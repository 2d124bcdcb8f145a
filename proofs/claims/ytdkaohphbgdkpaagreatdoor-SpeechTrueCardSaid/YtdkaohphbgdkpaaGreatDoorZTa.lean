/- - -/
import Derived.Test.YtdkaohphbgdkpaaGreatDoorZSo
import Derived.Test.YtdkaohphbgdkpaaGreatDoorZSb
set_option maxHeartbeats 40000000
set_option maxRecDepth 1000000
namespace Go.Proofs.YtdkaohphbgdkpaaGreatDoor
open Go.RowKit Go.Shelf
attribute [local go_sem] Oper.semAt_some
structure Rw where
 e:TypeId
 s:Nat
 v:Value
 n:Nat
 xs:List Value
structure MoAt (rs:List Rw) (L:List (Nat×List Value)) (w W:World):Prop where
 az:AzAt L w W
 own:∀r∈rs,W.ownsRow w.heap.size r.e r.s r.v r.n r.xs
 ap:rs.Pairwise fun r q=>∀g,r.v.ownBlock=some g→q.v.ownBlock≠some g
 ne:∀r∈rs,∀x∈L,r.v.ownBlock≠some x.1
section
variable {rs:List Rw} {L:List (Nat×List Value)} {w W W':World}
theorem MoAt.below (h:MoAt rs L w W) (hb:Below W.heap.size W W'):MoAt rs L w W':=⟨h.az.below hb,fun r hr=>dA_ (h.own r hr) hb,h.ap,h.ne⟩
theorem MoAt.al (h:MoAt rs L w W) (o:Obj):MoAt rs L w (W.alloc o):=h.below ((Below.refl _ _).alloc (Nat.le_refl _) _)
theorem MoAt.sub {L':List (Nat×List Value)} (h:MoAt rs L w W) (hs:∀x∈L',x∈L):MoAt rs L' w W:=⟨h.az.sub hs,h.own,h.ap,fun r hr x hx=>h.ne r hr x (hs x hx)⟩
theorem MoAt.rsub {rs':List Rw} (h:MoAt rs L w W) (hs:rs'.Sublist rs):MoAt rs' L w W:=⟨h.az,fun r hr=>h.own r (hs.subset hr),h.ap.sublist hs,fun r hr=>h.ne r (hs.subset hr)⟩
theorem MoAt.perm {rs':List Rw} (h:MoAt rs L w W) (hp:rs.Perm rs'):MoAt rs' L w W:=
 ⟨h.az,fun r hr=>h.own r (hp.mem_iff.2 hr),(List.Perm.pairwise_iff (fun h g hg hk=>h g hk hg) hp).1 h.ap,fun r hr=>h.ne r (hp.mem_iff.2 hr)⟩
theorem MoAt.push (h:MoAt rs L w W) (l:List Value) (t:TypeId):MoAt rs ((W.heap.size,l)::L) w (W.alloc (.cells l.toArray t)):=by
 have h':=h.al (.cells l.toArray t)
 refine⟨h'.az.cons (ArAt.mk' W l t),h'.own,h'.ap,fun r hr x hx=>?_⟩
 rcases List.mem_cons.1 hx with rfl|hx
 ·intro k
  have:=(aF_ (h.own r hr) _ k).1
  simp only at this
  omega
 ·exact h.ne r hr x hx
theorem MoAt.start (h:AzAt L w W):MoAt [] L w W:=⟨h,fun _ hr=>(nomatch hr),List.Pairwise.nil,fun _ hr=>(nomatch hr)⟩
theorem MoAt.addNil (h:MoAt rs L w W) (e:TypeId) (s:Nat):MoAt (⟨e,s,.slice none 0 0,0,[]⟩::rs) L w W:=by
 refine⟨h.az,fun r hr=>?_,List.pairwise_cons.2 ⟨fun q _ g hg=>(by cases hg),h.ap⟩,fun r hr x hx=>?_⟩
 ·rcases List.mem_cons.1 hr with rfl|hr
  ·exact World.ownsRow_nil _ _ _ _
  ·exact h.own r hr
 ·rcases List.mem_cons.1 hr with rfl|hr
  ·intro k;cases k
  ·exact h.ne r hr x hx
theorem MoAt.os (h:MoAt rs L w W) {r:Rw} (hr:r∈rs):OsAt r.e r.s r.v r.n r.xs L w W:=⟨h.az,h.own r hr,h.ne r hr⟩
theorem MoAt.grown {r:Rw} {v':Value} {n':Nat} {xs':List Value} (h:MoAt (r::rs) L w W) (hown:W'.ownsRow w.heap.size r.e r.s v' n' xs') (hg:W.grownBy W' r.v.ownBlock)
  (hv:v'.ownBlock=r.v.ownBlock∨v'.ownBlock=some W.heap.size):MoAt (⟨r.e,r.s,v',n',xs'⟩::rs) L w W':=by
 have ho:=(h.os (r:=r) (by simp)).grown hown hg hv
 have hap:=List.pairwise_cons.1 h.ap
 refine⟨ho.az,fun q hq=>?_,List.pairwise_cons.2 ⟨fun q hq g hk=>?_,hap.2⟩,fun q hq=>?_⟩
 ·rcases List.mem_cons.1 hq with rfl|hq
  ·exact hown
  ·refine(h.own q (by simp[hq])).kept hg ?_
   cases hk:q.v.ownBlock with
   | none=>exact .inl rfl
   | some g=>exact .inr fun e=>hap.1 q hq g e.symm hk
 ·rcases hv with hv|hv
  ·exact hap.1 q hq g (by rw[←hv];exact hk)
  ·intro e
   have h1:=(aF_ (h.own q (by simp[hq])) g e).1
   have h2:=Option.some.inj (hk.symm.trans hv)
   omega
 ·rcases List.mem_cons.1 hq with rfl|hq
  ·exact ho.ne
  ·exact h.ne q (by simp[hq])
theorem MoAt.set {B i:Nat} {l:List Value} {u:Value} (h:MoAt rs ((B,l)::L) w W) (hB:w.heap.size≤B) (hd:∀x∈L,B≠x.1) (hi:l[i]?=some u) (t:Value):MoAt rs ((B,l.set i t)::L) w (W.setCell ⟨B,i,none⟩ t):=by
 refine⟨h.az.set hB hd hi t,fun r hr=>gN_ (h.own r hr) (h.ne r hr (B,l) (by simp)) t,h.ap,fun r hr x hx=>?_⟩
 rcases List.mem_cons.1 hx with rfl|hx
 ·exact h.ne r hr (B,l) (by simp)
 ·exact h.ne r hr x (by simp[hx])
theorem MoAt.drewN (h:MoAt rs L w W) (k:Nat):MoAt rs L w (W.drewN k):=h.below ⟨rfl,rfl,rfl,Nat.le_refl _,fun _ _=>rfl⟩
theorem MoAt.app {r:Rw} {z:Value} {bytes m B:Nat} {cs:List Value} (t:TypeId) (hu:Tryz.prog.underlying t=some (.slice r.e)) (hinfo:(Tryz.prog.info? r.e).map (fun i=>(i.zero,i.size,i.bytes))=some (some z,r.s,bytes)) (hz:z.cells.size=r.s) (hs0:0<r.s)
  (h:MoAt (r::rs) L w W) (c:Nat) (hB:(B,cs)∈L) (hl:cs.length=m*r.s) (h1:∀u∈cs,u.oneCell'=true) (h6:(r.n+m)*bytes≤140737488355328) (h63:r.n+m≤maxLen) (ty:TypeId) :
  ∃v' W',(Builtin.append_ #[t,t] ty #[r.v,.slice (some ⟨B,0,none⟩) m c]).run Tryz.prog W=.ok v' W'∧MoAt (⟨r.e,r.s,v',r.n+m,r.xs++cs⟩::rs) L w W'∧W.grownBy W' r.v.ownBlock∧(v'.ownBlock=r.v.ownBlock∨v'.ownBlock=some W.heap.size):=by
 obtain⟨i0,hi0,hz0,hz1,hz2⟩:=info_parts hinfo
 obtain⟨v',W',hr,h2,h3,_,h5⟩:=run_append_own_at (P:=Tryz.prog) W w.heap.size t ty r.e i0 z r.s bytes hu hi0 hz0 hz1 hz2 hz hs0 r.v r.n r.xs (h.own r (by simp)) ⟨B,0,none⟩ m c cs hl (fun j u hj=>by
  have:=(h.az.row (B,cs) hB).row j u hj
  rw[show(⟨B,0,none⟩:Addr).add j=⟨B,j,none⟩ by unfold Addr.add;split <;> simp_all]
  exact this) h1 h63 h6 h.az.bw.size
 exact⟨v',W',hr,h.grown h2 h3 h5,h3,h5⟩
end
def psC (l:List (Int×Int)):List Value:=l.flatMap fun p=>[.int .i64 p.1,.int .i64 p.2]
def tsC (l:List L3):List Value:=l.flatMap fun p=>[.int .i64 p.1,.int .i64 p.2.1,.int .i64 p.2.2]
theorem lP_ (l:List (Int×Int)) (p:Int×Int):psC (l++[p])=psC l++[.int .i64 p.1,.int .i64 p.2]:=by simp[psC]
theorem yS_ (l:List L3) (p:L3):tsC (l++[p])=tsC l++[.int .i64 p.1,.int .i64 p.2.1,.int .i64 p.2.2]:=by simp[tsC]
theorem iQ_ (l:List Sh) (s:Sh):ssC (l++[s])=ssC l++shC s:=by simp[ssC]
theorem psC_at {l:List (Int×Int)} {k:Nat} {p:Int×Int} (h:l[k]?=some p):(psC l)[k*2]?=some (.int .i64 p.1)∧(psC l)[k*2+1]?=some (.int .i64 p.2):=by
 induction l generalizing k with
 | nil=>simp at h
 | cons x l ih=>
  cases k with
  | zero=>cases h;exact⟨rfl,rfl⟩
  | succ k=>
   have:=ih (k:=k) (by simpa using h)
   have e:psC (x::l)=[.int .i64 x.1,.int .i64 x.2]++psC l:=rfl
   rw[e]
   constructor
   ·rw[List.getElem?_append_right (by simp;omega)]
    simpa[show(k+1)*2-2=k*2 by omega] using this.1
   ·rw[List.getElem?_append_right (by simp;omega)]
    simpa[show(k+1)*2+1-2=k*2+1 by omega] using this.2
theorem tsC_at {l:List L3} {k:Nat} {p:L3} (h:l[k]?=some p):(tsC l)[k*3]?=some (.int .i64 p.1)∧(tsC l)[k*3+1]?=some (.int .i64 p.2.1)∧(tsC l)[k*3+2]?=some (.int .i64 p.2.2):=by
 induction l generalizing k with
 | nil=>simp at h
 | cons x l ih=>
  cases k with
  | zero=>cases h;exact⟨rfl,rfl,rfl⟩
  | succ k=>
   have:=ih (k:=k) (by simpa using h)
   have e:tsC (x::l)=[.int .i64 x.1,.int .i64 x.2.1,.int .i64 x.2.2]++tsC l:=rfl
   rw[e]
   refine⟨?_,?_,?_⟩
   ·rw[List.getElem?_append_right (by simp;omega)]
    simpa[show(k+1)*3-3=k*3 by omega] using this.1
   ·rw[List.getElem?_append_right (by simp;omega)]
    simpa[show(k+1)*3+1-3=k*3+1 by omega] using this.2.1
   ·rw[List.getElem?_append_right (by simp;omega)]
    simpa[show(k+1)*3+2-3=k*3+2 by omega] using this.2.2
def sdR (v0 v1 v2 v3:Value) (x:SD):List Rw:=[⟨30,11,v0,x.shapes.length,ssC x.shapes⟩,⟨58,2,v1,x.inside.length,psC x.inside⟩,⟨58,2,v2,x.member.length,psC x.member⟩,⟨59,3,v3,x.leads.length,tsC x.leads⟩]
theorem pH_:(Tryz.prog.info? 30).map (fun i=>(i.zero,i.size,i.bytes))=some (some (.agg #[.int .i64 0,.int .i64 0,.int .i64 0,.int .i64 0,.int .i64 0,.int .i64 0,.int .i64 0,.int .i64 0,.int .i64 0,.int .i64 0,.string ⟨#[]⟩]),11,96):=by kernel_rfl
theorem lZ_:(Tryz.prog.info? 58).map (fun i=>(i.zero,i.size,i.bytes))=some (some (.agg #[.int .i64 0,.int .i64 0]),2,16):=by kernel_rfl
theorem sL_:(Tryz.prog.info? 59).map (fun i=>(i.zero,i.size,i.bytes))=some (some (.agg #[.int .i64 0,.int .i64 0,.int .i64 0]),3,24):=by kernel_rfl
section
variable {v0 v1 v2 v3:Value} {x:SD} {L:List (Nat×List Value)} {w W:World}
theorem uL_ (h:MoAt (sdR v0 v1 v2 v3 x) L w W) (s:Sh) (B c:Nat) (hB:(B,shC s)∈L) (hn:x.shapes.length≤100000) (ty:TypeId):∃v' W',(Builtin.append_ #[32,32] ty #[v0,.slice (some ⟨B,0,none⟩) 1 c]).run Tryz.prog W=.ok v' W'∧MoAt (sdR v' v1 v2 v3 { x with shapes:=x.shapes++[s] }) L w W'∧W.grownBy W' v0.ownBlock∧(v'.ownBlock=v0.ownBlock∨v'.ownBlock=some W.heap.size):=by
 obtain⟨v',W',hr,h2,h3,h4⟩:=MoAt.app (r:=⟨30,11,v0,x.shapes.length,ssC x.shapes⟩) (m:=1) 32 Tryz.underlying32 pH_ rfl (show 0<11 by decide) h c hB rfl (by simp[Value.oneCell']) (by simp only;omega) (by unfold maxLen;simp only;omega) ty
 refine⟨v',W',hr,?_,h3,h4⟩
 unfold sdR
 simp only[List.length_append,List.length_cons,List.length_nil,iQ_]
 exact h2
theorem uK_ (h:MoAt (sdR v0 v1 v2 v3 x) L w W) (p:Int×Int) (B c:Nat) (hB:(B,[.int .i64 p.1,.int .i64 p.2])∈L) (hn:x.inside.length≤100000) (ty:TypeId):∃v' W',(Builtin.append_ #[24,24] ty #[v1,.slice (some ⟨B,0,none⟩) 1 c]).run Tryz.prog W=.ok v' W'∧MoAt (sdR v0 v' v2 v3 { x with inside:=x.inside++[p] }) L w W'∧W.grownBy W' v1.ownBlock∧(v'.ownBlock=v1.ownBlock∨v'.ownBlock=some W.heap.size):=by
 obtain⟨v',W',hr,h2,h3,h4⟩:=MoAt.app (r:=⟨58,2,v1,x.inside.length,psC x.inside⟩) (m:=1) 24 Tryz.underlying24 lZ_ rfl (show 0<2 by decide) (h.perm (List.perm_middle (l₁:=[_]))) c hB rfl (by simp[Value.oneCell']) (by simp only;omega) (by unfold maxLen;simp only;omega) ty
 refine⟨v',W',hr,?_,h3,h4⟩
 unfold sdR
 simp only[List.length_append,List.length_cons,List.length_nil,lP_]
 exact h2.perm (List.perm_middle (l₁:=[_])).symm
theorem uJ_ (h:MoAt (sdR v0 v1 v2 v3 x) L w W) (p:Int×Int) (B c:Nat) (hB:(B,[.int .i64 p.1,.int .i64 p.2])∈L) (hn:x.member.length≤100000) (ty:TypeId):∃v' W',(Builtin.append_ #[24,24] ty #[v2,.slice (some ⟨B,0,none⟩) 1 c]).run Tryz.prog W=.ok v' W'∧MoAt (sdR v0 v1 v' v3 { x with member:=x.member++[p] }) L w W'∧W.grownBy W' v2.ownBlock∧(v'.ownBlock=v2.ownBlock∨v'.ownBlock=some W.heap.size):=by
 obtain⟨v',W',hr,h2,h3,h4⟩:=MoAt.app (r:=⟨58,2,v2,x.member.length,psC x.member⟩) (m:=1) 24 Tryz.underlying24 lZ_ rfl (show 0<2 by decide) (h.perm (List.perm_middle (l₁:=[_,_]))) c hB rfl (by simp[Value.oneCell']) (by simp only;omega) (by unfold maxLen;simp only;omega) ty
 refine⟨v',W',hr,?_,h3,h4⟩
 unfold sdR
 simp only[List.length_append,List.length_cons,List.length_nil,lP_]
 exact h2.perm (List.perm_middle (l₁:=[_,_])).symm
theorem uI_ (h:MoAt (sdR v0 v1 v2 v3 x) L w W) (p:L3) (B c:Nat) (hB:(B,[.int .i64 p.1,.int .i64 p.2.1,.int .i64 p.2.2])∈L) (hn:x.leads.length≤100000) (ty:TypeId):∃v' W',(Builtin.append_ #[60,60] ty #[v3,.slice (some ⟨B,0,none⟩) 1 c]).run Tryz.prog W=.ok v' W'∧MoAt (sdR v0 v1 v2 v' { x with leads:=x.leads++[p] }) L w W'∧W.grownBy W' v3.ownBlock∧(v'.ownBlock=v3.ownBlock∨v'.ownBlock=some W.heap.size):=by
 obtain⟨v',W',hr,h2,h3,h4⟩:=MoAt.app (r:=⟨59,3,v3,x.leads.length,tsC x.leads⟩) (m:=1) 60 Tryz.underlying60 sL_ rfl (show 0<3 by decide) (h.perm (List.perm_middle (l₁:=[_,_,_]))) c hB rfl (by simp[Value.oneCell']) (by simp only;omega) (by unfold maxLen;simp only;omega) ty
 refine⟨v',W',hr,?_,h3,h4⟩
 unfold sdR
 simp only[List.length_append,List.length_cons,List.length_nil,yS_]
 exact h2.perm (List.perm_middle (l₁:=[_,_,_])).symm
end
end Go.Proofs.YtdkaohphbgdkpaaGreatDoor
