/- - -/
import Derived.RangeFuncOwn
import Derived.Maps.AppendAt
import Derived.OwnWalk
import Derived.Laws.OwnMore
import Derived.Lib.QuietBelow
import Derived.BigQuiet
import Derived.Laws.StructEq
import Derived.Maps.OwnSet
import Derived.Maps.RangeWalk
import Derived.Test.YtdkaohphbgdkpaaGreatDoorZNum
import Derived.Test.YtdkaohphbgdkpaaGreatDoorZQT
import Derived.Test.YtdkaohphbgdkpaaGreatDoorZBack
set_option maxHeartbeats 40000000
set_option maxRecDepth 1000000
namespace Go.Proofs.YtdkaohphbgdkpaaGreatDoor
open Go.RowKit Go.Shelf
attribute [local go_sem] Oper.semAt_some
theorem AzAt.cons {L:List (Nat×List Value)} {w W:World} (h:AzAt L w W) {B:Nat} {vs:List Value} (c:ArAt B vs W):AzAt ((B,vs)::L) w W:=
 ⟨h.bw,fun x hx=>by rcases List.mem_cons.1 hx with rfl|hx;exact c;exact h.row x hx⟩
theorem ArAt.of_block {B:Nat} {vs:List Value} {W W':World} (h:ArAt B vs W) (hb:W'.heap[B]?=W.heap[B]?) (hs:W.heap.size≤W'.heap.size):ArAt B vs W':=
 ⟨fun i v hv=>(World.cell?_of_block (w:=W) (a:=⟨B,i,none⟩) hb).trans (h.row i v hv),fun o ho=>by
  have:=h.fz o ho
  unfold World.frozen? at *
  rw[hb]
  exact this,Nat.lt_of_lt_of_le h.sz hs⟩
theorem aF_ {W:World} {b:Nat} {e:TypeId} {s:Nat} {v:Value} {n:Nat} {xs:List Value} (h:W.ownsRow b e s v n xs):∀g,v.ownBlock=some g→g<W.heap.size∧b≤g:=by
 intro g hg
 rcases h.2 with ⟨rfl,_⟩|⟨g',cap,cur,rfl,hb,hc,_⟩
 ·cases hg
 ·obtain rfl:g'=g:=by simpa[Value.ownBlock] using hg
  exact⟨(Array.getElem?_eq_some_iff.1 hc).1,hb⟩
section
variable {e:TypeId} {v:Value} {n:Nat} {xs:List Value} {w W:World}
theorem dA_ {b s:Nat} {W':World} (h:W.ownsRow b e s v n xs) (hb:Below W.heap.size W W'):W'.ownsRow b e s v n xs:=by
 refine⟨h.1,?_⟩
 rcases h.2 with hn|⟨g,cap,cur,hv,h1,h2,h3⟩
 ·exact .inl hn
 ·exact .inr ⟨g,cap,cur,hv,h1,(hb.block g (Array.getElem?_eq_some_iff.1 h2).1).trans h2,h3⟩
theorem gN_ {b s:Nat} (h:W.ownsRow b e s v n xs) {B i:Nat} (hne:v.ownBlock≠some B) (u:Value):(W.setCell ⟨B,i,none⟩ u).ownsRow b e s v n xs:=by
 refine⟨h.1,?_⟩
 rcases h.2 with hn|⟨g,cap,cur,hv,h1,h2,h3⟩
 ·exact .inl hn
 ·subst hv
  have hgB:g≠B:=fun x=>hne (by rw[x];rfl)
  exact .inr ⟨g,cap,cur,rfl,h1,(Below.heap_setCell _ _ _ _ hgB).trans h2,h3⟩
end
structure OsAt (e:TypeId) (s:Nat) (v:Value) (n:Nat) (xs:List Value) (R:List (Nat×List Value)) (w W:World):Prop where
 az:AzAt R w W
 own:W.ownsRow w.heap.size e s v n xs
 ne:∀x∈R,v.ownBlock≠some x.1
section
variable {e:TypeId} {s:Nat} {v:Value} {n:Nat} {xs:List Value} {R:List (Nat×List Value)} {w W:World}
theorem OsAt.below {W':World} (h:OsAt e s v n xs R w W) (hb:Below W.heap.size W W'):OsAt e s v n xs R w W':=⟨h.az.below hb,dA_ h.own hb,h.ne⟩
theorem OsAt.al (h:OsAt e s v n xs R w W) (o:Obj):OsAt e s v n xs R w (W.alloc o):=h.below ((Below.refl _ _).alloc (Nat.le_refl _) _)
theorem OsAt.sub {R':List (Nat×List Value)} (h:OsAt e s v n xs R w W) (hs:∀x∈R',x∈R):OsAt e s v n xs R' w W:=⟨h.az.sub hs,h.own,fun x hx=>h.ne x (hs x hx)⟩
theorem OsAt.cons (h:OsAt e s v n xs R w W) {B:Nat} {vs:List Value} (c:ArAt B vs W) (hne:v.ownBlock≠some B):OsAt e s v n xs ((B,vs)::R) w W:=
 ⟨h.az.cons c,h.own,fun x hx=>by rcases List.mem_cons.1 hx with rfl|hx;exact hne;exact h.ne x hx⟩
theorem OsAt.push (h:OsAt e s v n xs R w W) (l:List Value) (t:TypeId):OsAt e s v n xs ((W.heap.size,l)::R) w (W.alloc (.cells l.toArray t)):=
 (h.al _).cons (ArAt.mk' W l t) (fun k=>by have:=(aF_ h.own _ k).1;omega)
theorem OsAt.grown {v':Value} {n':Nat} {xs':List Value} {w':World} (h:OsAt e s v n xs R w W) (hown:w'.ownsRow w.heap.size e s v' n' xs') (hg:W.grownBy w' v.ownBlock)
  (hv:v'.ownBlock=v.ownBlock∨v'.ownBlock=some W.heap.size):OsAt e s v' n' xs' R w w':=by
 refine⟨⟨h.az.bw.grown hg h.az.bw.size (fun k hk=>(aF_ h.own k hk).2),fun x hx=>?_⟩,hown,fun x hx=>?_⟩
 ·exact(h.az.row x hx).of_block (hg.block x.1 (h.az.row x hx).sz (fun hk=>h.ne x hx hk.symm)) hg.size
 ·rcases hv with hv|hv
  ·rw[hv];exact h.ne x hx
  ·rw[hv]
   intro hk
   have:=(h.az.row x hx).sz
   have hk':=Option.some.inj hk
   omega
theorem OsAt.nil (h:AzAt R w W) (e:TypeId) (s:Nat):OsAt e s (.slice none 0 0) 0 [] R w W:=⟨h,World.ownsRow_nil _ _ _ _,fun x _ hk=>by cases hk⟩
theorem OsAt.cell (h:OsAt e s v n xs R w W) {B m cap k:Nat} {x:Value} (hv:v=.slice (some ⟨B,0,none⟩) m cap) (hx:xs[k]?=some x):W.cell? ⟨B,k,none⟩=some x:=by
 rcases h.own.2 with ⟨rfl,_⟩|⟨g,c,cur,rfl,_,hc,_,_,_,ht⟩
 ·cases hv
 ·obtain⟨rfl,_⟩:g=B∧True:=by
   injection hv with h1
   injection h1 with h1
   exact⟨congrArg Addr.block h1,trivial⟩
  rw[←ht] at hx
  unfold World.cell?
  rw[hc]
  have:=List.getElem?_take (l:=cur.toList) (i:=n*s) (j:=k)
  rw[this] at hx
  split at hx
  ·simpa using hx
  ·cases hx
theorem OsAt.fz (h:OsAt e s v n xs R w W) {B m cap:Nat} (hv:v=.slice (some ⟨B,0,none⟩) m cap) (k:Nat):W.frozen? ⟨B,k,none⟩=false:=by
 rcases h.own.2 with ⟨rfl,_⟩|⟨g,c,cur,rfl,_,hc,_,_,_,ht⟩
 ·cases hv
 ·obtain⟨rfl,_⟩:g=B∧True:=by
   injection hv with h1
   injection h1 with h1
   exact⟨congrArg Addr.block h1,trivial⟩
  unfold World.frozen?
  rw[hc]
  simp
theorem OsAt.blk (h:OsAt e s v n xs R w W) {B m cap:Nat} (hv:v=.slice (some ⟨B,0,none⟩) m cap):B<W.heap.size∧w.heap.size≤B∧n=m∧∀x∈R,B≠x.1:=by
 have hb:=aF_ h.own B (by rw[hv];rfl)
 refine⟨hb.1,hb.2,?_,fun x hx hk=>h.ne x hx (by rw[hv,hk];rfl)⟩
 rcases h.own.2 with ⟨rfl,_⟩|⟨g,c,cur,rfl,_⟩
 ·cases hv
 ·injection hv
theorem OsAt.form (h:OsAt e s v n xs R w W):(v=.slice none 0 0∧n=0∧xs=[])∨∃g c,v=.slice (some ⟨g,0,none⟩) n c∧w.heap.size≤g∧g<W.heap.size:=by
 have hb:=aF_ h.own
 have hl:=h.own.1
 rcases h.own.2 with ⟨rfl,hn⟩|⟨g,c,cur,rfl,h1,_⟩
 ·exact .inl ⟨rfl,hn,List.length_eq_zero_iff.1 (by rw[hl,hn,Nat.zero_mul])⟩
 ·exact .inr ⟨g,c,rfl,h1,(hb g rfl).1⟩
end
theorem OsAt.kept {e:TypeId} {s:Nat} {v:Value} {n:Nat} {xs:List Value} {R:List (Nat×List Value)} {w W W':World} {row:Option Nat} (h:OsAt e s v n xs R w W) (hne:∀x∈R,x.2≠[]) (hg:W.grownBy W' row) (hb:∀r,row=some r→w.heap.size≤r) (hr:∀r,row=some r→∃o:Obj,W.heap[r]?=some o∧o.isCells=false):OsAt e s v n xs R w W':=by
 refine⟨⟨h.az.bw.grown hg h.az.bw.size hb,fun x hx=>?_⟩,⟨h.own.1,?_⟩,h.ne⟩
 ·obtain⟨u,hu⟩:∃u,x.2[0]?=some u:=by
   cases e:x.2 with
   | nil=>exact absurd e (hne x hx)
   | cons u l=>exact⟨u,rfl⟩
  obtain⟨o,ho,hc⟩:=cells_of_cell ((h.az.row x hx).row 0 u hu)
  exact(h.az.row x hx).of_block (grownBy_keeps_cells hg hr ho hc) hg.size
 ·rcases h.own.2 with hn|⟨g,c,cur,hv,h1,h2,h3⟩
  ·exact .inl hn
  ·exact .inr ⟨g,c,cur,hv,h1,(grownBy_keeps_cells hg hr h2 rfl).trans h2,h3⟩
theorem OsAt.set {e:TypeId} {s:Nat} {v:Value} {n:Nat} {xs:List Value} {R:List (Nat×List Value)} {w W:World} {B i:Nat} {l:List Value} {u:Value} (h:OsAt e s v n xs ((B,l)::R) w W) (hB:w.heap.size≤B) (hd:∀x∈R,B≠x.1) (hi:l[i]?=some u) (t:Value):OsAt e s v n xs ((B,l.set i t)::R) w (W.setCell ⟨B,i,none⟩ t):=by
 have hne:=h.ne (B,l) (by simp)
 refine⟨h.az.set hB hd hi t,gN_ h.own hne t,fun x hx=>?_⟩
 rcases List.mem_cons.1 hx with rfl|hx
 ·exact hne
 ·exact h.ne x (by simp[hx])
structure CsAt (a:Option Addr) (vs:List Value) (W:World):Prop where
 row:∀(i:Nat) (v:Value),vs[i]?=some v→∃b o:Nat,a=some ⟨b,o,none⟩∧b<W.heap.size∧W.cell? ⟨b,o+i,none⟩=some v
theorem CsAt.below {a:Option Addr} {vs:List Value} {W W':World} (h:CsAt a vs W) (hb:Below W.heap.size W W'):CsAt a vs W':=
 ⟨fun i v hv=>by
  obtain⟨b,o,e,h1,h2⟩:=h.row i v hv
  exact⟨b,o,e,Nat.lt_of_lt_of_le h1 hb.size,(World.cell?_of_block (w:=W) (hb.block b h1)).trans h2⟩⟩
theorem CsAt.nil (a:Option Addr) (W:World):CsAt a [] W:=⟨fun i v h=>by simp at h⟩
theorem CsAt.some {a:Option Addr} {vs:List Value} {W:World} (h:CsAt a vs W) (h0:0<vs.length):∃b o:Nat,a=Option.some ⟨b,o,none⟩∧b<W.heap.size∧∀(i:Nat) (v:Value),vs[i]?=Option.some v→W.cell? ⟨b,o+i,none⟩=Option.some v:=by
 obtain⟨b,o,rfl,h1,h2⟩:=h.row 0 _ (List.getElem?_eq_getElem h0)
 refine⟨b,o,rfl,h1,fun i v hv=>?_⟩
 obtain⟨b',o',e,_,h3⟩:=h.row i v hv
 injection e with e
 injection e with e1 e2
 subst e1 e2
 exact h3
theorem CsAt.of_ar {B:Nat} {vs:List Value} {W:World} (h:ArAt B vs W):CsAt (Option.some ⟨B,0,none⟩) vs W:=⟨fun i v hv=>⟨B,0,rfl,h.sz,by rw[Nat.zero_add];exact h.row i v hv⟩⟩
theorem CsAt.own {e:TypeId} {s:Nat} {v:Value} {n:Nat} {xs:List Value} {R:List (Nat×List Value)} {w W:World} (h:OsAt e s v n xs R w W):∃a c,v=.slice a n c∧CsAt a xs W:=by
 rcases h.form with ⟨rfl,rfl,rfl⟩|⟨g,c,rfl,_,hg⟩
 ·exact⟨none,0,rfl,CsAt.nil _ _⟩
 ·exact⟨_,c,rfl,⟨fun i v hv=>⟨g,0,rfl,hg,by rw[Nat.zero_add];exact h.cell rfl hv⟩⟩⟩
def icC (l:List Int):List Value:=l.map fun x=>.int .i64 x
theorem fJ_ (l m:List Int):icC (l++m)=icC l++icC m:=by unfold icC;simp
theorem wN_ {l:List Int} {k:Nat} {x:Int} (h:l[k]?=some x):(icC l)[k]?=some (.int .i64 x):=by unfold icC;rw[List.getElem?_map,h];rfl
theorem iG_:(Tryz.prog.info? 3).map (fun i=>(i.zero,i.size,i.bytes))=some (some (.int .i64 0),1,8):=by kernel_rfl
theorem aDO (W:World) (p:Value) (e:TypeId):∀j u,([p]:List Value)[j]?=some u→(W.alloc (.cells #[p] e)).cell? ((⟨W.heap.size,0,none⟩:Addr).add j)=some u:=fun j u hj=>by
 match j,hj with
 | 0,hj=>cases hj;simp[Addr.add]
 | j+1,hj=>simp at hj
theorem AzAt.ce {L:List (Nat×List Value)} {w W:World} (h:AzAt L w W) (k i:Nat) {B:Nat} {l:List Value} {v:Value} (h1:L[k]?=some (B,l)) (h2:l[i]?=some v):W.cell? ⟨B,i,none⟩=some v:=(h.row (B,l) (List.mem_of_getElem? h1)).row i v h2
theorem AzAt.cf {L:List (Nat×List Value)} {w W:World} (h:AzAt L w W) (k i:Nat) {B:Nat} {l:List Value} {v:Value} (h1:L[k]?=some (B,l)) (h2:l[i]?=some v):W.frozen? ⟨B,i,none⟩=false:=(h.row (B,l) (List.mem_of_getElem? h1)).fz i (List.getElem?_eq_some_iff.1 h2).1
structure ExAt (L:List (Nat×List Value)) (P:World→Prop) (w W:World):Prop where
 az:AzAt L w W
 p:P W
 st:∀A C:World,P A→Below A.heap.size A C→P C
section
variable {L:List (Nat×List Value)} {P:World→Prop} {w W:World}
theorem ExAt.below {W':World} (h:ExAt L P w W) (hb:Below W.heap.size W W'):ExAt L P w W':=⟨h.az.below hb,h.st _ _ h.p hb,h.st⟩
theorem ExAt.push (h:ExAt L P w W) (l:List Value) (t:TypeId):ExAt ((W.heap.size,l)::L) P w (W.alloc (.cells l.toArray t)):=⟨h.az.push l t,h.st _ _ h.p ((Below.refl _ _).alloc (Nat.le_refl _) _),h.st⟩
theorem ExAt.add (h:ExAt L P w W) {Q:World→Prop} (hq:Q W) (hs:∀A C:World,Q A→Below A.heap.size A C→Q C):ExAt L (fun V=>P V∧Q V) w W:=⟨h.az,⟨h.p,hq⟩,fun A C hA hb=>⟨h.st A C hA.1 hb,hs A C hA.2 hb⟩⟩
theorem ExAt.set {B i:Nat} {l:List Value} {u:Value} (h:ExAt ((B,l)::L) P w W) (hp:P w) (hB:w.heap.size≤B) (hd:∀x∈L,B≠x.1) (hi:l[i]?=some u) (t:Value):ExAt ((B,l.set i t)::L) P w (W.setCell ⟨B,i,none⟩ t):=⟨h.az.set hB hd hi t,h.st _ _ hp (h.az.set hB hd hi t).bw,h.st⟩
theorem ExAt.sub {L':List (Nat×List Value)} (h:ExAt L P w W) (hs:∀x∈L',x∈L):ExAt L' P w W:=⟨h.az.sub hs,h.p,h.st⟩
end
abbrev shC (s:Sh):List Value:=[.int .i64 s.code,.int .i64 s.kind,.int .i64 s.rect.x,.int .i64 s.rect.y,.int .i64 s.rect.w,.int .i64 s.rect.h,.int .i64 s.a.x,.int .i64 s.a.y,.int .i64 s.b.x,.int .i64 s.b.y,.string s.word]
def ssC (l:List Sh):List Value:=l.flatMap shC
theorem uD_ {l:List Sh} {k:Nat} {s:Sh} (h:l[k]?=some s) (j:Nat) (v:Value) (hv:(shC s)[j]?=some v):(ssC l)[k*11+j]?=some v:=by
 induction l generalizing k with
 | nil=>cases h
 | cons y l ih=>
  show(shC y++ssC l)[k*11+j]?=some v
  have hy:(shC y).length=11:=rfl
  cases k with
  | zero=>
   cases h
   have:j<11:=by
    rcases Nat.lt_or_ge j 11 with h|h
    ·exact h
    ·rw[List.getElem?_eq_none (by rw[hy];exact h)] at hv;cases hv
   rw[Nat.zero_mul,Nat.zero_add,List.getElem?_append_left (by rw[hy];exact this)]
   exact hv
  | succ k=>
   rw[List.getElem?_append_right (by rw[hy];omega),hy,show(k+1)*11+j-11=k*11+j by omega]
   exact ih (k:=k) (by simpa using h)
structure ShsAt (a:Option Addr) (ss:List Sh) (W:World):Prop where
 row:∀(k:Nat) (s:Sh),ss[k]?=some s→∃b o:Nat,a=some ⟨b,o,none⟩∧b<W.heap.size∧∀(j:Nat) (v:Value),(shC s)[j]?=some v→W.cell? ⟨b,o+k*11+j,none⟩=some v
theorem ShsAt.below {a:Option Addr} {ss:List Sh} {W W':World} (h:ShsAt a ss W) (hb:Below W.heap.size W W'):ShsAt a ss W':=⟨fun k s hs=>by
 obtain⟨b,o,e,h1,h2⟩:=h.row k s hs
 exact⟨b,o,e,Nat.lt_of_lt_of_le h1 hb.size,fun j v hv=>(World.cell?_of_block (w:=W) (hb.block b h1)).trans (h2 j v hv)⟩⟩
theorem ShsAt.of {a:Option Addr} {ss:List Sh} {W:World} (h:CsAt a (ssC ss) W):ShsAt a ss W:=⟨fun k s hs=>by
 obtain⟨b,o,rfl,h1,_⟩:=h.row _ _ (uD_ hs 0 _ rfl)
 refine⟨b,o,rfl,h1,fun j v hv=>?_⟩
 obtain⟨b',o',e,_,h2⟩:=h.row _ _ (uD_ hs j v hv)
 injection e with e
 injection e with e1 e2
 subst e1 e2
 rw[Nat.add_assoc]
 exact h2⟩
theorem ShsAt.pre {a:Option Addr} {l m:List Sh} {W:World} (h:ShsAt a (l++m) W):ShsAt a l W:=⟨fun k s hk=>h.row k s (by rw[List.getElem?_append_left (List.getElem?_eq_some_iff.1 hk).1];exact hk)⟩
end Go.Proofs.YtdkaohphbgdkpaaGreatDoor
namespace Go.Proofs.YtdkaohphbgdkpaaGreatDoor
open Go.RowKit Go.Shelf
attribute [local go_sem] Oper.semAt_some
theorem eq_rc (d:Nat) (a b:Rc) (W:World):(Op.equalIn (d+2) 26 (.agg #[.int .i64 a.x,.int .i64 a.y,.int .i64 a.w,.int .i64 a.h]) (.agg #[.int .i64 b.x,.int .i64 b.y,.int .i64 b.w,.int .i64 b.h])).run Tryz.prog W=Result.ok (decide (a=b)) W:=by
 have u3:=Tryz.underlying3
 have a3:=Tryz.isAgg3
 have z3:=Tryz.sizeOf3
 have hS:Tryz.prog.underlying 26=some (.struct (Tryz.prog.fieldsOf 26)):=by kernel_rfl
 have hp:Tryz.prog.stoodInHeld 26=false:=by kernel_rfl
 rw[run_equalIn_agg W (d+1) 26 _ _ hS hp]
 simp only[Program.fieldsOf,Tryz.underlying26]
 go_simp
 obtain⟨ax,ay,aw,ah⟩:=a
 obtain⟨bx,bY,bw,bh⟩:=b
 simp only[Rc.mk.injEq]
 repeat' split
 all_goals simp[*]
theorem toList_inj (a b:ByteArray):(a=b)=(a.toList=b.toList):=propext ⟨fun h=>by rw[h],fun h=>by
 rw[ByteArray.toList_eq,ByteArray.toList_eq] at h
 obtain⟨⟨a⟩⟩:=a
 obtain⟨⟨b⟩⟩:=b
 simpa using h⟩
theorem aEJ (a b:Sh) (W:World):(Op.equal 30 (.agg #[.int .i64 a.code,.int .i64 a.kind,.int .i64 a.rect.x,.int .i64 a.rect.y,.int .i64 a.rect.w,.int .i64 a.rect.h,.int .i64 a.a.x,.int .i64 a.a.y,.int .i64 a.b.x,.int .i64 a.b.y,.string a.word]) (.agg #[.int .i64 b.code,.int .i64 b.kind,.int .i64 b.rect.x,.int .i64 b.rect.y,.int .i64 b.rect.w,.int .i64 b.rect.h,.int .i64 b.a.x,.int .i64 b.a.y,.int .i64 b.b.x,.int .i64 b.b.y,.string b.word])).run Tryz.prog W=Result.ok (decide (a=b)) W:=by
 have u3:=Tryz.underlying3
 have a3:=Tryz.isAgg3
 have z3:=Tryz.sizeOf3
 have u9:=Tryz.underlying9
 have a9:=Tryz.isAgg9
 have z9:=Tryz.sizeOf9
 have a26:=Tryz.isAgg26
 have z26:=Tryz.sizeOf26
 have a8:=Tryz.isAgg28
 have z8:=Tryz.sizeOf28
 have hS:Tryz.prog.underlying 30=some (.struct (Tryz.prog.fieldsOf 30)):=by kernel_rfl
 have hp:Tryz.prog.stoodInHeld 30=false:=by kernel_rfl
 unfold Op.equal
 rw[show Op.maxDepth=9999+1 from rfl,run_equalIn_agg W 9999 30 _ _ hS hp]
 simp only[Program.fieldsOf,Tryz.underlying30]
 go_simp
 obtain⟨ac,ak,⟨ax,ay,aw,ah⟩,⟨apx,apy⟩,⟨aqx,aqy⟩,aw7⟩:=a
 obtain⟨bc,bk,⟨bx,bY,bw,bh⟩,⟨bpx,bpy⟩,⟨bqx,bqy⟩,bw7⟩:=b
 simp only[Sh.mk.injEq,Rc.mk.injEq,Pl.mk.injEq,toList_inj]
 repeat' split
 all_goals simp[*]
theorem xH_ (a b c d:Int) (W:World):(Op.equal 58 (.agg #[.int .i64 a,.int .i64 b]) (.agg #[.int .i64 c,.int .i64 d])).run Tryz.prog W=Result.ok (decide (a=c)&&decide (b=d)) W:=by
 have u3:=Tryz.underlying3
 have a3:=Tryz.isAgg3
 have z3:=Tryz.sizeOf3
 unfold Op.equal
 rw[show Op.maxDepth=9999+1 from rfl,Op.equalIn]
 simp only[Sem.run_bind,run_underlying Tryz.underlying58,Result.andThen_ok]
 simp only[Std.Legacy.Range.forIn_eq_forIn_range',Std.Legacy.Range.size,Nat.sub_zero,Nat.add_sub_cancel,Nat.div_one,List.range'_succ,List.range'_zero,List.forIn_cons,List.forIn_nil]
 go_simp
 repeat' split
 all_goals simp[*]
theorem qZ_ (a b c d e f:Int) (W:World):(Op.equal 59 (.agg #[.int .i64 a,.int .i64 b,.int .i64 c]) (.agg #[.int .i64 d,.int .i64 e,.int .i64 f])).run Tryz.prog W=Result.ok (decide (a=d)&&decide (b=e)&&decide (c=f)) W:=by
 have u3:=Tryz.underlying3
 have a3:=Tryz.isAgg3
 have z3:=Tryz.sizeOf3
 unfold Op.equal
 rw[show Op.maxDepth=9999+1 from rfl,Op.equalIn]
 simp only[Sem.run_bind,run_underlying Tryz.underlying59,Result.andThen_ok]
 simp only[Std.Legacy.Range.forIn_eq_forIn_range',Std.Legacy.Range.size,Nat.sub_zero,Nat.add_sub_cancel,Nat.div_one,List.range'_succ,List.range'_zero,List.forIn_cons,List.forIn_nil]
 go_simp
 repeat' split
 all_goals simp[*]
end Go.Proofs.YtdkaohphbgdkpaaGreatDoor
namespace Go.Proofs.YtdkaohphbgdkpaaGreatDoor
open Go.RowKit Go.Shelf Go.Sort Go.Maps
def rawE (v:Value):Option (DataW Value×List MemPlace):=some (.held v,[])
def aC_ (c:Int):Prop:=-9223372036854775808≤c∧c≤9223372036854775807
theorem wf_i64 {c:Int} (h:aC_ c):(Lit.int .i64 c).wf=true:=WalkArith.wf_i64 (by obtain⟨h1,h2⟩:=h;omega)
theorem bG_:Keyed Tryz.prog 3:=int_keyed Tryz.underlying3
def hdAt (D:DataW Value) (c:Int):Value:=match D.atKey (.int .i64 c) (.held (.slice none 0 0)) with | .held v=>v|_=>undef
structure GrAt (M n:Nat) (D:DataW Value) (G:Int→List Sh) (L:List (Nat×List Value)) (w W:World):Prop where
 az:AzAt L w W
 lo:w.heap.size≤M
 mp:W.ownsMap Tryz.prog 3 rawE M n D
 hd:∀c,aC_ c→D.atKey (.int .i64 c) (.held (.slice none 0 0))=.held (hdAt D c)
 ow:∀c,aC_ c→W.ownsRow w.heap.size 30 11 (hdAt D c) (G c).length (ssC (G c))
 ap:∀c c',aC_ c→aC_ c'→c≠c'→∀g,(hdAt D c).ownBlock=some g→(hdAt D c').ownBlock≠some g
 ne:∀c,aC_ c→∀x∈L,(hdAt D c).ownBlock≠some x.1
 nm:∀x∈L,x.1≠M
 pr:∀c,aC_ c→(Go.Maps.has D (.int .i64 c)=true↔G c≠[])
theorem kC_ (l:List Sh):(ssC l).length=l.length*11:=by
 induction l with
 | nil=>rfl
 | cons s l ih=>
  show(shC s++ssC l).length=_
  rw[List.length_append,ih]
  show 11+_=_
  simp
  omega
theorem zD_ (l:List Sh) (s:Sh):ssC (l++[s])=ssC l++shC s:=by simp[ssC]
theorem cC_ {b s:Nat} {e:TypeId} {v:Value} {n:Nat} {xs:List Value} {W W':World} {row:Option Nat} (h:W.ownsRow b e s v n xs) (hg:W.grownBy W' row) (hne:∀g,v.ownBlock=some g→row≠some g):W'.ownsRow b e s v n xs:=by
 refine⟨h.1,?_⟩
 rcases h.2 with hn|⟨g,cap,cur,hv,h1,h2,h3⟩
 ·exact .inl hn
 ·exact .inr ⟨g,cap,cur,hv,h1,(hg.block g (Array.getElem?_eq_some_iff.1 h2).1 (fun e=>hne g (by rw[hv];rfl) e.symm)).trans h2,h3⟩
section
variable {M n:Nat} {D:DataW Value} {G:Int→List Sh} {L:List (Nat×List Value)} {w W:World}
theorem GrAt.isMapBlock (h:GrAt M n D G L w W):∃es clock,W.heap[M]?=some (.map es clock):=by obtain⟨es,clock,hb,_⟩:=h.mp;exact⟨es,clock,hb⟩
theorem bF_ {b s:Nat} {e:TypeId} {v:Value} {k:Nat} {xs:List Value} (h:W.ownsRow b e s v k xs) {g:Nat} (hg:v.ownBlock=some g):∃cur fr,W.heap[g]?=some (.cells cur e fr):=by
 rcases h.2 with ⟨rfl,_⟩|⟨g',cap,cur,rfl,hb,hc,_⟩
 ·cases hg
 ·obtain rfl:g'=g:=by simpa[Value.ownBlock] using hg
  exact⟨cur,_,hc⟩
theorem GrAt.notM (h:GrAt M n D G L w W) {c:Int} (hc:aC_ c):(hdAt D c).ownBlock≠some M:=fun e=>by
 obtain⟨es,clock,hb⟩:=h.isMapBlock
 obtain⟨cur,fr,h2⟩:=bF_ (h.ow c hc) e
 rw[hb] at h2
 cases h2
theorem aP_ {W':World} (h:W.ownsMap Tryz.prog 3 rawE M n D) (hb:Below W.heap.size W W'):W'.ownsMap Tryz.prog 3 rawE M n D:=by
 obtain⟨es,clock,h1,h2⟩:=h
 exact⟨es,clock,(hb.block M (Array.getElem?_eq_some_iff.1 h1).1).trans h1,h2⟩
theorem GrAt.below {W':World} (h:GrAt M n D G L w W) (hb:Below W.heap.size W W'):GrAt M n D G L w W':=
 ⟨h.az.below hb,h.lo,aP_ h.mp hb,h.hd,fun c hc=>dA_ (h.ow c hc) hb,h.ap,h.ne,h.nm,h.pr⟩
theorem GrAt.sub {L':List (Nat×List Value)} (h:GrAt M n D G L w W) (hs:∀x∈L',x∈L):GrAt M n D G L' w W:=⟨h.az.sub hs,h.lo,h.mp,h.hd,h.ow,h.ap,fun c hc x hx=>h.ne c hc x (hs x hx),fun x hx=>h.nm x (hs x hx),h.pr⟩
theorem GrAt.cons {B:Nat} {l:List Value} (h:GrAt M n D G L w W) (c:ArAt B l W) (hn:∀c,aC_ c→(hdAt D c).ownBlock≠some B) (hM:B≠M):GrAt M n D G ((B,l)::L) w W:=
 ⟨h.az.cons c,h.lo,h.mp,h.hd,h.ow,h.ap,fun c hc x hx=>by
  rcases List.mem_cons.1 hx with rfl|hx
  ·exact hn c hc
  ·exact h.ne c hc x hx,fun x hx=>by
  rcases List.mem_cons.1 hx with rfl|hx
  ·exact hM
  ·exact h.nm x hx,h.pr⟩
theorem GrAt.push (h:GrAt M n D G L w W) (l:List Value) (t:TypeId):GrAt M n D G ((W.heap.size,l)::L) w (W.alloc (.cells l.toArray t)):=
 (h.below ((Below.refl _ _).alloc (Nat.le_refl _) _)).cons (ArAt.mk' W l t) (fun c hc e=>by have:=(aF_ (h.ow c hc) _ e).1;omega) (fun e=>by obtain⟨es,clock,hb⟩:=h.isMapBlock;have:=(Array.getElem?_eq_some_iff.1 hb).1;omega)
theorem GrAt.os (h:GrAt M n D G L w W) {c:Int} (hc:aC_ c):OsAt 30 11 (hdAt D c) (G c).length (ssC (G c)) L w W:=⟨h.az,h.ow c hc,h.ne c hc⟩
theorem GrAt.look (h:GrAt M n D G L w W) {c:Int} (hc:aC_ c) (hz:(zeroValue 32).run Tryz.prog W=.ok (.slice none 0 0) W):(Instr.lookup 124 (.map (some M)) (.int .i64 c) false).run Tryz.prog W=.ok (hdAt D c) W:=by
 obtain⟨v,ps,hrun,hv⟩:=h.mp.lookup bG_ Tryz.underlying124 hz (zd:=.held (.slice none 0 0)) (zp:=[]) rfl (keyOf_int_mk Tryz.underlying3 (wf_i64 hc))
 rw[h.hd c hc] at hv
 cases hv
 exact hrun
theorem iH_ {c x:Int} (hD:IsMap D) (v:Value):hdAt (D.put (.int .i64 c) (.held v)) x=if x=c then v else hdAt D x:=by
 unfold hdAt
 by_cases h:x=c
 ·subst h
  rw[if_pos rfl,atKey_put_same hD (by trivial)]
 ·rw[if_neg h,atKey_put_other (by intro e;cases e;exact h rfl)]
theorem GrAt.put (h:GrAt M n D G L w W) {c:Int} (hc:aC_ c) {s:Sh} {v':Value} {W1 W2:World} (h1:W1.ownsRow w.heap.size 30 11 v' ((G c).length+1) (ssC (G c)++shC s)) (hg:W.grownBy W1 (hdAt D c).ownBlock)
  (hat:v'.ownBlock=(hdAt D c).ownBlock∨v'.ownBlock=some W.heap.size) (h2:W2.ownsMap Tryz.prog 3 rawE M (n+1) (D.put (.int .i64 c) (.held v'))) (hg2:W1.grownBy W2 (some M)) :
  GrAt M (n+1) (D.put (.int .i64 c) (.held v')) (fun x=>if x=c then G c++[s] else G x) L w W2:=by
 have hD:IsMap D:=h.mp.isMap
 obtain⟨es,clock,hb⟩:=h.isMapBlock
 have hMs:M<W.heap.size:=(Array.getElem?_eq_some_iff.1 hb).1
 have hb1:W1.heap[M]?=some (.map es clock):=(hg.block M hMs (fun e=>h.notM hc e.symm)).trans hb
 have hvM:v'.ownBlock≠some M:=fun e=>by
  obtain⟨cur,fr,h3⟩:=bF_ h1 e
  rw[hb1] at h3
  cases h3
 have hlt:∀x,aC_ x→∀g,(hdAt D x).ownBlock=some g→g<W.heap.size:=fun x hx g e=>(aF_ (h.ow x hx) _ e).1
 have hB1:Below w.heap.size w W1:=h.az.bw.grown hg h.az.bw.size (fun k hk=>(aF_ (h.ow c hc) k hk).2)
 have hB2:Below w.heap.size w W2:=hB1.grown hg2 hB1.size (fun k hk=>by cases hk;exact h.lo)
 refine⟨⟨hB2,fun x hx=>?_⟩,h.lo,h2,fun x hx=>?_,fun x hx=>?_,fun x x' hx hx' hne g hxg=>?_,fun x hx y hy=>?_,h.nm,fun x hx=>?_⟩
 ·have r1:=(h.az.row x hx).of_block (hg.block x.1 (h.az.row x hx).sz (fun hk=>h.ne c hc x hx hk.symm)) hg.size
  exact r1.of_block (hg2.block x.1 r1.sz (fun hk=>h.nm x hx (Option.some.inj hk))) hg2.size
 ·rw[iH_ hD]
  by_cases e:x=c
  ·subst e
   rw[if_pos rfl,atKey_put_same hD (by trivial)]
  ·rw[if_neg e,atKey_put_other (by intro e';cases e';exact e rfl)]
   exact h.hd x hx
 ·rw[iH_ hD]
  by_cases e:x=c
  ·subst e
   rw[if_pos rfl]
   simp only[if_true]
   rw[List.length_append,zD_]
   exact cC_ h1 hg2 (fun g hg' e=>hvM (by rw[hg',←e]))
  ·rw[if_neg e]
   simp only[if_neg e]
   refine cC_ (cC_ (h.ow x hx) hg (fun g hg'=>h.ap x c hx hc e g hg')) hg2 (fun g hg' e'=>h.notM hx (by rw[hg',←e']))
 ·rw[iH_ hD] at hxg⊢
  by_cases e:x=c
  ·subst e
   rw[if_pos rfl] at hxg
   rw[if_neg (fun e'=>hne e'.symm)]
   rcases hat with ha|ha
   ·rw[ha] at hxg
    exact h.ap x x' hx hx' hne g hxg
   ·rw[ha] at hxg
    cases hxg
    exact fun e'=>absurd (hlt x' hx' _ e') (Nat.lt_irrefl _)
  ·rw[if_neg e] at hxg
   by_cases e2:x'=c
   ·subst e2
    rw[if_pos rfl]
    rcases hat with ha|ha
    ·rw[ha];exact h.ap x x' hx hx' hne g hxg
    ·rw[ha]
     intro e'
     have:=hlt x hx g hxg
     have:=Option.some.inj e'
     omega
   ·rw[if_neg e2]
    exact h.ap x x' hx hx' hne g hxg
 ·rw[iH_ hD]
  by_cases e:x=c
  ·subst e
   rw[if_pos rfl]
   rcases hat with ha|ha
   ·rw[ha];exact h.ne x hx y hy
   ·rw[ha]
    intro e'
    have:=(h.az.row y hy).sz
    have:=Option.some.inj e'
    omega
  ·rw[if_neg e]
   exact h.ne x hx y hy
 ·by_cases e:x=c
  ·subst e
   rw[Go.Maps.has_put_same hD (by trivial)]
   simp
  ·rw[Go.Maps.has_put_other (by intro e';cases e';exact e rfl)]
   simp only[if_neg e]
   exact h.pr x hx
theorem GrAt.start (h:AzAt L w W) (hL:∀x∈L,x.1≠W.heap.size):GrAt W.heap.size 0 (.map []) (fun _=>[]) L w (W.alloc (.map #[] 0)):=by
 have e:∀c,hdAt (.map []) c=.slice none 0 0:=fun c=>rfl
 refine⟨h.al _,h.bw.size,World.ownsMap_made _ _ _ _,fun c _=>by rw[e];rfl,fun c _=>by rw[e];exact World.ownsRow_nil _ _ _ _,fun c c' _ _ _ g hg=>(by rw[e] at hg;cases hg),fun c _ x _ hg=>(by rw[e] at hg;cases hg),hL,fun c _=>by rw[Go.Maps.has_eq];simp⟩
theorem GrAt.turned (h:GrAt M n D G L w W) {W':World} {r:Nat} (hg:W.grownBy W' (some r)) (hr:w.heap.size≤r) (hM:r≠M) (hL:∀x∈L,x.1≠r) (hs:∀c,aC_ c→(hdAt D c).ownBlock≠some r):GrAt M n D G L w W':=by
 have hB:Below w.heap.size w W':=h.az.bw.grown hg h.az.bw.size (fun k hk=>by cases hk;exact hr)
 exact⟨⟨hB,fun x hx=>(h.az.row x hx).of_block (hg.block x.1 (h.az.row x hx).sz (fun e=>hL x hx (Option.some.inj e))) hg.size⟩,h.lo,h.mp.kept hg (fun e=>hM (Option.some.inj e).symm),h.hd,
  fun c hc=>cC_ (h.ow c hc) hg (fun g hg' e=>hs c hc (by rw[hg',←e])),h.ap,h.ne,h.nm,h.pr⟩
theorem GrAt.sorted (h:GrAt M n D G L w W) {W':World} {c:Int} {l:List Sh} {g:Nat} (hc:aC_ c) (hg:(hdAt D c).ownBlock=some g) (hgr:W.grownBy W' (some g)) (hl:l.length=(G c).length) (ho:W'.ownsRow w.heap.size 30 11 (hdAt D c) (G c).length (ssC l)) :
  GrAt M n D (fun x=>if x=c then l else G x) L w W':=by
 have hB:Below w.heap.size w W':=h.az.bw.grown hgr h.az.bw.size (fun k hk=>by cases hk;exact(aF_ (h.ow c hc) _ hg).2)
 refine⟨⟨hB,fun x hx=>(h.az.row x hx).of_block (hgr.block x.1 (h.az.row x hx).sz (fun e=>h.ne c hc x hx (by rw[hg,←e]))) hgr.size⟩,h.lo,h.mp.kept hgr (fun e=>h.notM hc (by rw[hg,←e])),h.hd,fun x hx=>?_,h.ap,h.ne,h.nm,fun x hx=>?_⟩
 ·by_cases e:x=c
  ·subst e
   simp only[if_true]
   rw[hl]
   exact ho
  ·simp only[if_neg e]
   exact cC_ (h.ow x hx) hgr (fun g' hg' e'=>h.ap x c hx hc e g' hg' (by rw[hg,←e']))
 ·by_cases e:x=c
  ·subst e
   simp only[if_true]
   rw[h.pr x hx]
   constructor
   ·intro h1 h2;rw[h2] at hl;exact h1 (List.length_eq_zero_iff.1 hl.symm)
   ·intro h1 h2;rw[h2] at hl;exact h1 (List.length_eq_zero_iff.1 hl)
  ·simp only[if_neg e]
   exact h.pr x hx
end
end Go.Proofs.YtdkaohphbgdkpaaGreatDoor
