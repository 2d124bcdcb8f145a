/- - -/
import Derived.Maps.OwnIn
import Derived.Scope
import Derived.RangeFuncLeaves
import Derived.ControlIn
import Derived.Deep.CutRange
import Derived.Deep.RegionHeld3
import Derived.Deep.CutBlock
import Derived.Test.YtdkaohphbgdkpaaGreatDoorZSl
import Derived.Test.YtdkaohphbgdkpaaGreatDoorZTb
import Derived.Test.YtdkaohphbgdkpaaGreatDoorZSb
import Derived.Test.YtdkaohphbgdkpaaGreatDoorZTk
import Derived.Test.YtdkaohphbgdkpaaGreatDoorZSi
set_option linter.unusedSimpArgs false
set_option linter.unusedVariables false
set_option maxHeartbeats 40000000
set_option maxRecDepth 1000000
namespace Go.Proofs.YtdkaohphbgdkpaaGreatDoor
open Go.RowKit Go.Shelf Go.Sort Go.Maps
attribute [local go_sem] Oper.semAt_some
theorem KpO.app {c N i g n cap:Nat} {W W1:World} {v v':Value} (hv:v=.slice none 0 0∨v=.slice (some ⟨g,0,none⟩) n cap) (hc:W.cell? ⟨c,i,none⟩=some v) (hcN:c<N) (hg:W.grownBy W1 v.ownBlock) (hne:v.ownBlock≠some c)
  (hv':v'=.slice none 0 0∨∃g' m cp,v'=.slice (some ⟨g',0,none⟩) m cp) (hb:∀g',v'.ownBlock=some g'→g'<W1.heap.size) (hat:v'.ownBlock=v.ownBlock∨v'.ownBlock=some W.heap.size):KpO c N W (W1.setCell ⟨c,i,none⟩ v'):=by
 have hcs:c<W.heap.size:=by
  obtain⟨o,ho,_⟩:=cells_of_cell hc
  exact(Array.getElem?_eq_some_iff.1 ho).1
 have hc1:W1.heap[c]?=W.heap[c]?:=hg.block c hcs (fun e=>hne e.symm)
 have hW1:W1.cell? ⟨c,i,none⟩=some v:=(World.cell?_of_block (w:=W) (a:=⟨c,i,none⟩) hc1).trans hc
 have hsz:(W1.setCell ⟨c,i,none⟩ v').heap.size=W1.heap.size:=by simp[World.setCell]
 have key:∀g',Ow c (W1.setCell ⟨c,i,none⟩ v') g'→Ow c W g'∨v'.ownBlock=some g':=fun g' ⟨j,m,cp,a,h1,h2⟩=>by
  by_cases e:j=i
  ·subst e
   rw[World.cell?_setCell_same' _ _ _ (by rw[hW1];rfl)] at h1
   right
   rw[Option.some.inj h1,←h2]
   rfl
  ·have e3:(W1.setCell ⟨c,i,none⟩ v').cell? ⟨c,j,none⟩=W1.cell? ⟨c,j,none⟩:=by
    apply World.cell?_setCell_other
    intro e'
    injection e' with _ e2
    exact e e2.symm
   rw[e3] at h1
   exact .inl ⟨j,m,cp,a,(World.cell?_of_block (w:=W) (w':=W1) (a:=⟨c,j,none⟩) hc1).symm.trans h1,h2⟩
 have own0:∀g',v.ownBlock=some g'→Ow c W g':=fun g' hg'=>by
  rcases hv with e|e
  ·rw[e] at hg';cases hg'
  ·refine⟨i,n,cap,⟨g,0,none⟩,by rw[hc,e],?_⟩
   rw[e] at hg'
   exact Option.some.inj hg'
 refine⟨by rw[hsz];exact hg.size,fun g' hg'=>?_,fun hl g' hg'=>?_,fun k o hk ho hw hn=>?_⟩
 ·rcases key g' hg' with h1|h1
  ·exact .inl h1
  ·rcases hat with h2|h2
   ·exact .inl (own0 g' (by rw[←h2];exact h1))
   ·rw[h1] at h2
    exact .inr (Nat.le_of_eq (Option.some.inj h2).symm)
 ·rw[hsz]
  rcases key g' hg' with h1|h1
  ·exact Nat.lt_of_lt_of_le (hl g' h1) hg.size
  ·exact hb g' h1
 ·have hks:=(Array.getElem?_eq_some_iff.1 ho).1
  rw[Below.heap_setCell _ _ _ _ (show k≠c by omega)]
  exact(hg.block k hks (fun e=>hn (own0 k e.symm))).trans ho
def kH_ (ss:List Sh):List Int:=if bI_ ss then (rdx ss 0).map (·.code) else []
theorem OsAt.of_own {e:TypeId} {s:Nat} {v:Value} {n:Nat} {xs:List Value} {R:List (Nat×List Value)} {w:World} (B:Nat) (hB:w.heap.size≤B) (hR:∀x∈R,x.2≠[]):OwnFrom B (fun(_:Unit) W=>OsAt e s v n xs R w W):=
 fun _ W W' row h hg hr=>h.kept hR hg (fun r e=>Nat.le_trans hB (hr r e).1) (fun r e=>(hr r e).2)
theorem KpO.os {c N i s n n':Nat} {e:TypeId} {xs xs':List Value} {R R':List (Nat×List Value)} {w W W1:World} {v v':Value} (h:OsAt e s v n xs R w W) (h':OsAt e s v' n' xs' R' w W1) (hc:W.cell? ⟨c,i,none⟩=some v) (hcN:c<N) (hne:v.ownBlock≠some c) (hg:W.grownBy W1 v.ownBlock) (hat:v'.ownBlock=v.ownBlock∨v'.ownBlock=some W.heap.size) :
  KpO c N W (W1.setCell ⟨c,i,none⟩ v')∧KeepsOthers W (W1.setCell ⟨c,i,none⟩ v'):=by
 constructor
 ·have hv':v'=.slice none 0 0∨∃g' m cp,v'=.slice (some ⟨g',0,none⟩) m cp:=by
   rcases h'.form with ⟨e,_⟩|⟨g,cp,e,_⟩
   ·exact .inl e
   ·exact .inr ⟨g,_,cp,e⟩
  rcases h.form with ⟨e,_⟩|⟨g,cp,e,_⟩
  ·exact KpO.app (g:=0) (n:=0) (cap:=0) (.inl e) hc hcN hg hne hv' (fun g' hg'=>(aF_ h'.own g' hg').1) hat
  ·exact KpO.app (.inr e) hc hcN hg hne hv' (fun g' hg'=>(aF_ h'.own g' hg').1) hat
 ·refine(KeepsOthers.of_grownBy hg (fun j o hj ho=>?_)).trans (KeepsOthers.setCell _ _ _)
  rcases h.own.2 with ⟨e,_⟩|⟨g,cp,cur,e,_,h2,_⟩
  ·rw[e] at hj;cases hj
  ·rw[e] at hj
   obtain rfl:g=j:=Option.some.inj hj
   rw[h2] at ho
   cases ho
   rfl
theorem aDL {c:Nat} {W:World} {t:TypeId} {fr:Nat×Nat} (h:W.heap[c]?=some (.cells #[.slice none 0 0] t fr)) (g:Nat):¬Ow c W g:=by
 rintro⟨i,n,cap,a,h1,_⟩
 unfold World.cell? at h1
 rw[h] at h1
 match i,h1 with
 | 0,h1=>simp at h1
 | i+1,h1=>simp at h1
theorem ArAt.own_from {B:Nat} {l:List Value} (hl:l≠[]) (C:Nat):OwnFrom C (fun(_:Unit) W=>ArAt B l W):=fun _ W W' row h hg hr=>by
 obtain⟨u,hu⟩:∃u,l[0]?=some u:=by
  cases l with
  | nil=>exact absurd rfl hl
  | cons u l=>exact⟨u,rfl⟩
 obtain⟨o,ho,hc⟩:=cells_of_cell (h.row 0 u hu)
 exact h.of_block (grownBy_keeps_cells hg (fun r e=>(hr r e).2) ho hc) hg.size
theorem pB_ {a:Option Addr} {n cap:Nat} {ss:List Sh} (hn:ss.length=n) (hn6:n≤1000000) (w:World) (hS:ShsAt a ss w) (hq:IOps w∧FrOp w) (hd:bI_ ss=true→Dist ss) :
  Calls Tryz.prog 18 #[.slice a n cap] w fun e W'=>∃b cp,e=.returned (.tuple #[.slice b (kH_ ss).length cp,.int .i64 (if bI_ ss then 0 else 270)])∧CsAt b (icC (kH_ ss)) W'∧Below w.heap.size w W':=by
 have hdd:∀k:Nat,(Fence.wide.depth.isSome=true→1≤k):=fun k h=>by cases h
 have hw1:Below w.heap.size w (w.alloc (.cells #[.slice none 0 0] 23)):=(Below.refl _ _).alloc (Nat.le_refl _) _
 have KL:=Lib.hid (jR_ (cap:=cap) hn hn6 (w.alloc (.cells #[.slice none 0 0] 23)) (hS.below hw1) ⟨hq.1.below hw1,hq.2.under hw1⟩)
 have H0:=Lib.hid ((AzAt.start w).push [.slice none 0 0] 23)
 rw[←callsIn_wide (n:=9)]
 unfold kH_
 cases hl:bI_ ss with
 | false=>
  rw[hl] at KL
  clear hw1 hS hq hd
  refine callsIn_of_wp_marks Tryz.func18 rfl trivial ?_ rfl
  simp only[Tryz.ntmps18,List.size_toArray,List.length_cons,List.length_nil,Nat.reduceAdd,Nat.reduceSub,Array.replicate_succ,Array.replicate_zero,List.push_toArray,List.append_toArray,List.nil_append,List.cons_append]
  gi_wp2_with (first
   | (refine⟨trivial,?_⟩;gi_at_call 33;refine(callsIn_wide.2 KL.out).mono ?_;rintro e w1 ⟨rfl,hb⟩;have H1:=Lib.hid (H0.out.below hb);have z0:=H1.out.ce 0 0 rfl rfl;have z1:=H1.out.cf 0 0 rfl rfl;clear hb)
   | fail)
  have H2:=Lib.hid (H1.out.set (Nat.le_refl _) (fun x hx=>by cases hx) (i:=0) rfl (.slice none 0 0))
  have z2:=H2.out.ce 0 0 rfl rfl
  refine⟨.tuple #[.slice none 0 0,.int .i64 270],?_,none,⟨0,rfl⟩,CsAt.nil _ _,H2.out.bw⟩
  simp[results,Tryz.results18,go_sem,Result.andThen,z2]
 | true=>
  rw[hl] at KL
  have HLD:=Lib.hid (show Ld ss from⟨cL_ hl,hd hl⟩)
  have h60:ss.length≤1000:=Nat.le_trans (cR_ hl) (by omega)
  have H60:=Lib.hid h60
  have KO:=Lib.hid (show ∀W:World,Below w.heap.size w W→Calls Tryz.prog 35 #[.slice a n cap] W _ from fun W h=>nQ_ (cap:=cap) hn (by omega) HLD.out.bds HLD.out.dst W (hS.below h))
  clear hw1 hS hq hd
  refine callsIn_of_wp_marks Tryz.func18 rfl trivial ?_ rfl
  simp only[Tryz.ntmps18,List.size_toArray,List.length_cons,List.length_nil,Nat.reduceAdd,Nat.reduceSub,Array.replicate_succ,Array.replicate_zero,List.push_toArray,List.append_toArray,List.nil_append,List.cons_append]
  gi_wp2_with (first
   | (refine⟨trivial,?_⟩;gi_at_call 33;refine(callsIn_wide.2 KL.out).mono ?_;rintro e w1 ⟨rfl,hb⟩;have H1:=Lib.hid (H0.out.below hb);have HC:=Lib.hid (hb.block w.heap.size (by simp));clear hb)
   | (refine⟨trivial,?_⟩;gi_at_call 35;refine(callsIn_wide.2 (KO.out _ H1.out.bw)).mono ?_;rintro e w2 ⟨k0,D,rfl,hg⟩;have H2:=Lib.hid hg;clear hg)
   | fail)
  have hI:ItAt w.heap.size w1.heap.size w1.heap.size k0 D (aM_ ss) [(w1.heap.size+1,[.map (some w1.heap.size)])] w2:=by
   have hcb:w1.heap[w.heap.size]?=some (.cells #[.slice none 0 0] 23 (0,0)):=HC.out.trans (World.alloc_heap_new w _)
   exact ItAt.of_gr H2.out (H1.out.row _ (by simp:(w.heap.size,[Value.slice none 0 0])∈_)).sz (fun g hg=>absurd hg (aDL hcb g)) (fun x hx=>by simp only[List.mem_cons,List.not_mem_nil,or_false] at hx;subst hx;exact⟨by simp,by simp⟩)
  have hsz1:w.heap.size<w1.heap.size:=(H1.out.row _ (by simp:(w.heap.size,[Value.slice none 0 0])∈_)).sz
  have hb2:Below w1.heap.size w1 w2:=H2.out.az.bw
  have H3:=Lib.hid (OsAt.nil (H1.out.below hb2) 3 1)
  have HSZ:=Lib.hid (And.intro hsz1 hb2.size)
  have HT:(rdx ss 0).length≤1000:=by rw[(HLD.out.rdx_perm).length_eq];exact H60.out
  clear hl KL H0 KO hn6 H1 HC
  refine wpIn_rangeFunc_ownH rfl (by omega) (gf:=69) (lb:=#[.pointer (some ⟨w1.heap.size+1,0,none⟩)]) rfl trivial (enters_of Tryz.func69 (by kernel_rfl) rfl)
   (nR_ HLD.out h60 hI (HSZ.out.2)) (fun h k=>h.trans k) (fun W l o o' hl ho h1 h2=>KpO.putObj (w:=w2) (by have:=HSZ.out;omega) W l o o' hl ho h1 h2) (Below.refl _ _) (fun _=>rfl)
   (fun pre W=>∃v,OsAt 3 1 v pre.length (icC (pre.map (·.code))) [(w.heap.size,[v])] w W)
   (fun _ _ _=>False)
   ?I (fun _ _ _ _ _ hs _ _=>hs) ⟨_,H3.out⟩
   (fun x a' W=>∃B,a' = { tmps:=#[.slice a n cap,undef,.pointer (some ⟨w.heap.size,0,none⟩),.int .i64 0,.pointer (some ⟨B,0,none⟩),.slice a n cap,.bool true,.bool false,.slice a n cap,.func (.func 69) #[] #[.pointer (some ⟨w1.heap.size+1,0,none⟩)],shV x,undef,undef,undef,undef,undef,undef],defers:=[] }∧ArAt B (shC x) W) ?Ax ?assign ?body ?done ?stop
  case I=>
   intro pre W W' row ⟨v,h⟩ hg hr
   exact⟨v,OsAt.of_own w2.heap.size (by have:=HSZ.out;omega) (fun x hx=>by simp only[List.mem_cons,List.not_mem_nil,or_false] at hx;subst hx;simp) () W W' row h hg hr⟩
  case Ax=>
   intro x a' _ W W' row ⟨B,h1,h2⟩ hg hr
   exact⟨B,h1,ArAt.own_from (by simp) w2.heap.size () W W' row h2 hg hr⟩
  case assign=>
   intro l pre x W K ⟨v,hI⟩ hK
   have hb:Below W.heap.size W (W.alloc (.cells (shC x).toArray 30)):=(Below.refl _ _).alloc (Nat.le_refl _) _
   have hk:=hK _ _ ((KeepsOthers.alloc W (.cells (shC x).toArray 30)).from _) (KpO.of_below hb (by have:=hI.az.bw.size;have:=(hI.az.row _ (by simp:(w.heap.size,[v])∈_)).sz;simpa using this)) ⟨v,hI.below hb⟩ ⟨_,rfl,ArAt.mk' W (shC x) _⟩
   gi_wp2
   exact hk
  case body=>
   intro l pre x a' W hl hr ⟨v,hI⟩ ⟨B,e,hBx⟩ hlen
   subst e
   obtain⟨i0,hi,hz0,hz1,hz2⟩:=info_parts iG_
   have HI:=Lib.hid hI
   have HA:=Lib.hid (hI.al (.cells #[.int .i64 x.code] 3))
   have z0:=hI.az.ce 0 0 rfl rfl
   have zs:w.heap.size<W.heap.size:=(hI.az.row _ (by simp:(w.heap.size,[v])∈_)).sz
   have y0:=hBx.row 0 _ rfl
   have hpl:pre.length<1000:=by omega
   have ys:=hBx.sz
   clear hI hBx hr
   gi_wp2_with (first
    | (gi_at_builtin;refine wpListIn_append_own_at _ rfl _ _ 23 rfl w.heap.size 3 i0 (.int .i64 0) 1 8 Tryz.underlying23 hi hz0 hz1 hz2 rfl (by decide) v _ _ rfl HA.out.own ⟨_,0,none⟩ 1 1 [.int .i64 x.code] rfl rfl (aDO _ _ _) (by simp[Value.oneCell']) (by unfold maxLen;omega) (by omega) HA.out.az.bw.size ?_;intro v' w7 hown' hgrow hnil hat;have H7:=Lib.hid (HA.out.grown hown' hgrow hat);have HG:=Lib.hid (And.intro hgrow hat);have z7:=H7.out.az.ce 0 0 rfl rfl;have f7:=H7.out.az.cf 0 0 rfl rfl;obtain⟨b7,c7,hv7,_⟩:=CsAt.own H7.out;clear hown' hgrow hat hnil;subst hv7)
    | fail)
   have hb9:Below W.heap.size W (W.alloc (.cells #[.int .i64 x.code] 3)):=(Below.refl _ _).alloc (Nat.le_refl _) _
   have hne9:=HA.out.ne (w.heap.size,[v]) (by simp)
   obtain⟨hk1,hk2⟩:=KpO.os (N:=w1.heap.size) HA.out H7.out (HA.out.az.ce 0 0 rfl rfl) hsz1 hne9 HG.out.1 HG.out.2
   refine⟨((KeepsOthers.alloc W _).trans hk2).from _,(KpO.of_below hb9 zs).trans hk1,.slice b7 (pre.length+1) c7,?_⟩
   have h8:=H7.out.set (Nat.le_refl _) (fun x hx=>by cases hx) (i:=0) rfl (.slice b7 (pre.length+1) c7)
   rw[List.map_append,fJ_,List.length_append]
   exact h8
  case done=>
   intro D' ys W hD hys ⟨v,hI⟩ hK
   subst hys
   have z0:=hI.az.ce 0 0 rfl rfl
   have f0:=hI.az.cf 0 0 rfl rfl
   have H5:=Lib.hid (hI.set (Nat.le_refl _) (fun x hx=>by cases hx) (i:=0) rfl v)
   have z5:=H5.out.az.ce 0 0 rfl rfl
   have hK5:(W.setCell ⟨w.heap.size,0,none⟩ v).heap[D']?=some (.deferred (some [])):=(Below.heap_setCell _ _ _ _ (by show D'≠w.heap.size;have:=HSZ.out;omega)).trans hK
   obtain⟨b,cp,hvb,_⟩:=CsAt.own hI
   subst hvb
   gi_wp2
   refine⟨by simp,.inl ⟨_,_,rfl,run_takeDeferred hK5,?_⟩⟩
   have H6:=H5.out.kept (fun x hx=>by simp only[List.mem_cons,List.not_mem_nil,or_false] at hx;subst hx;simp) (grownBy_putObj' (W.setCell ⟨w.heap.size,0,none⟩ (.slice b (rdx ss 0).length cp)) D' (.deferred none)) (fun r e=>by cases e;have:=HSZ.out;omega) (fun r e=>by cases e;exact⟨_,hK5,rfl⟩)
   have z6:=H6.az.ce 0 0 rfl rfl
   obtain⟨b6,c6,e6,hcs⟩:=CsAt.own H6
   cases e6
   refine⟨.tuple #[.slice b (rdx ss 0).length cp,.int .i64 0],?_,b,⟨cp,rfl⟩,hcs,H6.az.bw⟩
   simp[results,Tryz.results18,go_sem,Result.andThen,z6]
  case stop=>
   intro D' c pre W _ _ h _
   exact h.elim
theorem KeepsOthers.of_below {W W':World} (hb:Below W.heap.size W W'):KeepsOthers W W':=⟨hb.size,fun k o hk _=>(hb.block k (Array.getElem?_eq_some_iff.1 hk).1).trans hk⟩
theorem MoAt.kept {rs:List Rw} {L:List (Nat×List Value)} {w W W':World} {row:Option Nat} (h:MoAt rs L w W) (hR:∀x∈L,x.2≠[]) (hg:W.grownBy W' row) (h1:∀r,row=some r→w.heap.size≤r) (h2:∀r,row=some r→∃o:Obj,W.heap[r]?=some o∧o.isCells=false):MoAt rs L w W':=
 ⟨(((h.addNil 0 1).os (List.mem_cons_self)).kept hR hg h1 h2).az,fun r hr=>((h.os hr).kept hR hg h1 h2).own,h.ap,h.ne⟩
structure SayAt (c N:Nat) (l:List Value) (rs:List Rw) (L:List (Nat×List Value)) (W0 w W:World):Prop where
 mo:MoAt rs ((c,l)::L) w W
 kp:KpO c N W0 W
 ko:KeepsOthers W0 W
section
variable {c N:Nat} {l:List Value} {rs rs':List Rw} {L:List (Nat×List Value)} {W0 w W W':World}
theorem SayAt.start (h:MoAt rs ((c,l)::L) w W):SayAt c N l rs L W w W:=⟨h,KpO.refl _ _ _,KeepsOthers.refl _⟩
theorem SayAt.szc (h:SayAt c N l rs L W0 w W):c<W.heap.size:=(h.mo.az.row (c,l) (by simp)).sz
theorem SayAt.below (h:SayAt c N l rs L W0 w W) (hb:Below W.heap.size W W'):SayAt c N l rs L W0 w W':=⟨h.mo.below hb,h.kp.trans (KpO.of_below hb h.szc),h.ko.trans (KeepsOthers.of_below hb)⟩
theorem SayAt.sub {L':List (Nat×List Value)} (h:SayAt c N l rs L W0 w W) (hs:∀x∈L',x∈L):SayAt c N l rs L' W0 w W:=⟨h.mo.sub fun x hx=>by
 rcases List.mem_cons.1 hx with rfl|hx
 ·exact List.mem_cons_self
 ·exact List.mem_cons_of_mem _ (hs x hx),h.kp,h.ko⟩
theorem SayAt.push (h:SayAt c N l rs L W0 w W) (k:List Value) (t:TypeId):SayAt c N l rs ((W.heap.size,k)::L) W0 w (W.alloc (.cells k.toArray t)):=by
 have hb:Below W.heap.size W (W.alloc (.cells k.toArray t)):=(Below.refl _ _).alloc (Nat.le_refl _) _
 refine⟨(h.mo.push k t).sub fun x hx=>?_,h.kp.trans (KpO.of_below hb h.szc),h.ko.trans (KeepsOthers.of_below hb)⟩
 simp only[List.mem_cons] at hx⊢
 rcases hx with hx|hx|hx
 ·exact .inr (.inl hx)
 ·exact .inl hx
 ·exact .inr (.inr hx)
theorem SayAt.put {i:Nat} {v v':Value} {r r':Rw} (h:SayAt c N l rs L W0 w W) (hm:MoAt rs' ((c,l)::L) w W') (hg:W.grownBy W' v.ownBlock) (hat:v'.ownBlock=v.ownBlock∨v'.ownBlock=some W.heap.size) (hi:l[i]?=some v) (hr:r∈rs) (e:r.v=v) (hr':r'∈rs') (e':r'.v=v') (he:r'.e=r.e) (hs:r'.s=r.s) (hcN:c<N) (hcw:w.heap.size≤c) (hd:∀x∈L,c≠x.1) :
  SayAt c N (l.set i v') rs' L W0 w (W'.setCell ⟨c,i,none⟩ v'):=by
 subst e e'
 have ho:=hm.os hr'
 rw[he,hs] at ho
 obtain⟨k1,k2⟩:=KpO.os (N:=N) (h.mo.os hr) ho (h.mo.az.ce 0 i rfl hi) hcN (h.mo.ne r hr (c,l) (by simp)) hg hat
 exact⟨hm.set hcw hd hi _,h.kp.trans k1,h.ko.trans k2⟩
end
theorem MoAt.beside {rs:List Rw} {L:List (Nat×List Value)} {w W:World} {c B:Nat} {l k:List Value} (h:MoAt rs ((c,l)::L) w W) (hB:ArAt B k W) (ho:¬Ow c W B) (hv:∀r∈rs,∃i:Nat,l[i]?=some r.v):MoAt rs ((c,l)::(B,k)::L) w W:=by
 refine⟨(h.az.cons hB).sub fun x hx=>?_,h.own,h.ap,fun r hr x hx=>?_⟩
 ·simp only[List.mem_cons] at hx⊢
  rcases hx with hx|hx|hx
  ·exact .inr (.inl hx)
  ·exact .inl hx
  ·exact .inr (.inr hx)
 ·simp only[List.mem_cons] at hx
  rcases hx with hx|rfl|hx
  ·exact h.ne r hr x (by simp[hx])
  ·intro e
   obtain⟨i,hi⟩:=hv r hr
   have hc:=h.az.ce 0 i rfl hi
   rcases(h.os hr).form with ⟨e1,_⟩|⟨g,cp,e1,_⟩
   ·rw[e1] at e;cases e
   ·rw[e1] at e hc
    obtain rfl:g=B:=Option.some.inj e
    exact ho ⟨i,_,_,_,hc,rfl⟩
  ·exact h.ne r hr x (by simp[hx])
theorem MoAt.block {rs:List Rw} {L:List (Nat×List Value)} {w W W':World} {row:Option Nat} {c:Nat} {v:Value} {l:List Value} (h:MoAt rs ((c,v::l)::L) w W) (hg:W.grownBy W' row) (h2:∀r,row=some r→∃o:Obj,W.heap[r]?=some o∧o.isCells=false):W'.heap[c]?=W.heap[c]?:=by
 obtain⟨o,ho,hc⟩:=cells_of_cell (h.az.ce 0 0 rfl rfl)
 exact grownBy_keeps_cells hg h2 ho hc
theorem dN_ {F:Fence} {nF:Nat} {P:Program} {ops:Array Oper} {rest:List Oper} {o:Oper} {a:Act} {Q:Exit→Act→World→Prop} {w W':World} {v u v':Value} (hgd:o.guard=none) (s y:Operand) (t:TypeId) (ho:o.op=.call { callee:=.builtin .append,args:=#[s,y],argTypes:=#[t,t] })
  (hs:a.eval s=v) (hy:a.eval y=u) (hr:(Builtin.append_ #[t,t] o.type #[v,u]).run P w=.ok v' W') (h:wpListIn F nF P ops Q rest (a.put o.dst v') W'):wpListIn F nF P ops Q (o::rest) a w:=by
 refine wpListIn_plain hgd fun K hK=>?_
 unfold Oper.wpIn
 refine⟨by simp[Oper.about,ho,resolve,Target.leads,Sem.run_pure],?_⟩
 rw[Oper.semAt_plain F _ _ (by rw[ho];intro c hc';cases hc')]
 simp[execOp,ho,resolve,invoke,builtin,hs,hy,hr,Result.andThen]
 exact hK _ _ h
section
variable {F:Fence} {n:Nat} {P:Program} {Q:Exit→Act→World→Prop} {a:Act} {w:World} {b:Frame} {k:List Item} {cs:List Frame}
theorem cI_ {c:Code} : step P (lone (b.atR a (.code (.scope c)::k)) cs w)=.next (lone (b.atR a (.code c::.inScope c::k)) cs w):=
 step_lone_go (by simp[stepG,stepG.exec,Frame.atR])
theorem lJ_ {c:Code} : step P (lone (b.atR a (.inScope c::k)) cs w)=.next (lone (b.atR a k) cs w):=
 step_lone_go (by simp[stepG,stepG.exec,Frame.atR])
theorem rM_ {c:Code} (h:c.wpIn F n P (Exit.noGoto Q) a w):(Code.scope c).wpIn F n P Q a w:=by
 intro b k cs hro hb hr
 have h0:(lone (b.atR a (.code (.scope c)::k)) cs w).fenced P F:=fenced_calm hb hr rfl
 obtain⟨e,a₁,w₁,hq,harr⟩:=h b (.inScope c::k) cs hro hb hr
 cases e with
 | normal=>exact⟨.normal,a₁,w₁,hq,.head h0 cI_ (StepsIn.trans harr (.one (fenced_calm hb hr rfl) lJ_))⟩
 | exit id=>
  have hx:exitTo id (.inScope c::k)=exitTo id k:=by simp[exitTo]
  exact⟨.exit id,a₁,w₁,hq,fun k' hk=>.head h0 cI_ (harr.1 k' (by rw[hx];exact hk)),
   fun hr' hk=>let ⟨k₁,h1,h2⟩:=harr.2 hr' (by rw[hx];exact hk);⟨k₁,h1,.head h0 cI_ h2⟩⟩
 | goto l=>exact hq.elim
 | ret=>exact⟨_,a₁,w₁,hq,.of_steps (.one h0 cI_) harr⟩
 | panic ch=>exact⟨_,a₁,w₁,hq,.of_steps (.one h0 cI_) harr⟩
 | outgrown=>exact⟨_,a₁,w₁,hq,.of_steps (.one h0 cI_) harr⟩
end
end Go.Proofs.YtdkaohphbgdkpaaGreatDoor
namespace Go.Proofs.YtdkaohphbgdkpaaGreatDoor
open Go.RowKit Go.Shelf Go.Sort Go.Maps
attribute [local go_sem] Oper.semAt_some
section
variable {α:Type} {P:Program} {w:World}
def aEM (B:Nat) (Kp:World→World→Prop) (I X:List α→World→Prop) (xs:List α) (W:World):Exit→Act→World→Prop
 | .normal,_,W'=>KeepsFrom B W W'∧Kp W W'∧I xs W'
 | .ret,_,W'=>KeepsFrom B W W'∧X xs W'
 | _,_,_=>False
theorem lN_ {g:Operand} {ps:Array Tmp} {assign body:Code} {Q:Exit→Act→World→Prop} {a:Act} {gf n T b:Nat} {lb:Array Value} (h1:1≤n) (hb:b<w.heap.size) (hg:a.eval g=.func (.func gf) #[] lb) (eg:∀args w,(callFunc gf args).run P w=.ok (.enter gf args) w)
  {encs:α→Array Value} {S S':List α→Prop} {A0:α→Prop} (Kp:World→World→Prop) (hKt:∀{A B C:World},Kp A B→Kp B C→Kp A C) (hKb:∀(W:World) (l:Nat) (o o':Obj),w.heap.size≤l→W.heap[l]?=some o→o.isCells=false→o.isWalk=false→Kp W (W.putObj l o'))
  (I X:List α→World→Prop) (hI:OwnFrom w.heap.size I) (hX:OwnFrom w.heap.size X) (hIb:∀pre W W',I pre W→W.grownBy W' (some b)→I pre W') (hT:∀pre W,I pre W→pre.length<T) (h0:I [] w) (hps:∀x,(encs x).size=ps.size)
  (hseq:∀(l:Nat) (J Jx:List α→World→Prop) (W:World),Below w.heap.size w W→AbidesFrom W.heap.size J→(∀pre W W',J pre W→W.grownBy W' (some b)→J pre W')→(∀pre W,J pre W→pre.length<T)→
   (∀pre x W1,A0 x→J pre W1→YieldAt Fence.wide (n-1-1) P l (encs x) W1 fun e W'=>(e=.returned (.bool true)∧J (pre++[x]) W'∧Kp W1 W')∨(e=.returned (.bool false)∧Jx (pre++[x]) W'))→J [] W→
   CallsIn Fence.wide (n-1) P gf (#[.func (.yield l) #[] #[]]++lb) W fun e W'=>(∃v,e=.returned v)∧((∃xs,S xs∧J xs W')∨∃pre,S' pre∧Jx pre W'))
  (a₁:α→Act)
  (hassign:∀(l:Nat) (x:α) (W:World) (K:Act→World→Prop),K (a₁ x) W→assign.wpIn (Fence.wide.inRound l) (n-1-1) P (Exit.then K (fun _ _ _=>False)) { tmps:=(ps.zip (encs x)).foldl (fun t (p,v)=>t.setIfInBounds p v) a.tmps,defers:=[] } W)
  (hbody:∀(l:Nat) (pre:List α) (x:α) (W:World),A0 x→I pre W→w.heap.size≤W.heap.size→body.wpIn (Fence.wide.inRound l) (n-1-1) P (aEM w.heap.size Kp I X (pre++[x]) W) (a₁ x) W)
  (hdone:∀(D:Nat) (xs:List α) (W:World),w.heap.size≤D→S xs→I xs W→W.heap[D]?=some (.deferred (some []))→Q .normal { a with defers:={ target:=.collected D,args:=#[] } :: a.defers } W)
  (hret:∀(D:Nat) (xs:List α) (W:World),w.heap.size≤D→S' xs→X xs W→W.heap[D]?=some (.deferred (some []))→Code.ret.wpIn Fence.wide n P Q { a with defers:={ target:=.collected D,args:=#[] } :: a.defers } W) :
  (Code.rangeFunc g ps assign body).wpIn Fence.wide n P Q a w:=by
 refine wpIn_rangeFunc fun fn hfn=>?_
 have hw1:=World.alloc_heap_new w (.deferred (some []))
 obtain⟨lp,hlp⟩:∃lp:LoopState→Option Code→Obj,lp=fun s j=>.loop { state:=s,pending:=j,fn,tmps:=a.tmps,params:=ps,assign,body,defers:=w.heap.size }:=⟨_,rfl⟩
 have hlc:∀s j,(lp s j).isCells=false∧(lp s j).isWalk=false:=fun s j=>by rw[hlp];exact⟨rfl,rfl⟩
 obtain⟨U,hU⟩:∃U,U=(w.alloc (.deferred (some []))).alloc (lp .ready none):=⟨_,rfl⟩
 have hUs:U.heap.size=w.heap.size+2:=by rw[hU];simp
 have hUb:Below w.heap.size w U:=by rw[hU];exact((Below.refl _ w).alloc (Nat.le_refl _) _).alloc (by simp) _
 have hUl:U.heap[w.heap.size+1]?=some (lp .ready none):=by
  have:=World.alloc_heap_new (w.alloc (.deferred (some []))) (lp .ready none)
  rw[World.size_alloc] at this
  rw[hU];exact this
 have hUd:U.heap[w.heap.size]?=some (.deferred (some [])):=by rw[hU];exact(Below.heap_alloc _ _ _ (by simp)).trans hw1
 let A:List α→World→Prop:=fun pre W=>I pre W∧W.heap[w.heap.size+1]?=some (lp .ready none)∧W.heap[w.heap.size]?=some (.deferred (some []))
 let Z:List α→World→Prop:=fun pre W=>X pre W∧W.heap[w.heap.size+1]?=some (lp .done (some .ret))∧W.heap[w.heap.size]?=some (.deferred (some []))
 have keep:∀{B C:World} {row:Option Nat} {k:Nat} {o:Obj},B.grownBy C row→(∀r,row=some r→U.heap.size≤r∧∃o:Obj,B.heap[r]?=some o∧o.isWalk=true)→k<w.heap.size+2→B.heap[k]?=some o→C.heap[k]?=some o:=fun hg hr hk ho=>
  (hg.block _ (Array.getElem?_eq_some_iff.1 ho).1 (fun e=>by have:=(hr _ e.symm).1;omega)).trans ho
 have rows:∀{B:World} {row:Option Nat},(∀r,row=some r→U.heap.size≤r∧∃o:Obj,B.heap[r]?=some o∧o.isWalk=true)→∀r,row=some r→w.heap.size≤r∧∃o:Obj,B.heap[r]?=some o∧o.isCells=false:=fun hr r e=>by
  obtain⟨h2,o,h3,h4⟩:=hr r e
  exact⟨by omega,o,h3,Obj.not_cells_of_walk h4⟩
 refine⟨w.heap.size+1,[{ target:=.collected w.heap.size,args:=#[] }],U,{ target:=.fn (.func gf) lb,args:=#[.func (.yield (w.heap.size+1)) #[] #[]] },U,gf,#[.func (.yield (w.heap.size+1)) #[] #[]]++lb,U,?_,?_,?_,?_,fun _=>h1,?_⟩
 ·rw[hU,hlp];exact run_enterLoop_outer _ _ _ _ _
 ·simp only[resolve,hg]
  simp[go_sem]
 ·intro f' _;trivial
 ·simp[invoke,go_sem,eg]
 refine(hseq (w.heap.size+1) A Z U hUb (fun s B C row h hg hr=>⟨hI s B C row h.1 hg (rows hr),keep hg hr (by omega) h.2.1,keep hg hr (by omega) h.2.2⟩)
  (fun s B C h hg=>⟨hIb s B C h.1 hg,(hg.block _ (Array.getElem?_eq_some_iff.1 h.2.1).1 (fun e=>by have:=Option.some.inj e;omega)).trans h.2.1,(hg.block _ (Array.getElem?_eq_some_iff.1 h.2.2).1 (fun e=>by have:=Option.some.inj e;omega)).trans h.2.2⟩) (fun pre W h=>hT pre W h.1) (fun pre x W hA0 h=>?_) ⟨by rw[hU];exact hI.alloc _ (hI.alloc _ h0),hUl,hUd⟩).mono ?_
 ·obtain⟨hi,hl,hd⟩:=h
  rw[hlp] at hl
  have hls:w.heap.size+1<W.heap.size:=(Array.getElem?_eq_some_iff.1 hl).1
  refine⟨fn,_,assign,body,run_yield hl (hps x),roundIn_of_wpIn hfn (hassign _ x W _ ⟨_,run_beginRound hl rfl,?_⟩)⟩
  obtain⟨V,hV⟩:∃V,V=W.putObj (w.heap.size+1) (lp .busy none):=⟨_,rfl⟩
  have hVl:V.heap[w.heap.size+1]?=some (lp .busy none):=by rw[hV];exact World.putObj_heap_same hls
  have hVd:V.heap[w.heap.size]?=some (.deferred (some [])):=by rw[hV];exact(World.putObj_heap_other (by omega)).trans hd
  have hVk:Kp W V:=by rw[hV];exact hKb _ _ _ _ (by omega) hl rfl rfl
  have hVi:I pre V:=by rw[hV];exact hI.putObj _ hi (by omega) hl rfl
  rw[hlp] at hV
  rw[←hV]
  have hVs:w.heap.size≤V.heap.size:=by
   have:V.heap.size=W.heap.size:=by rw[hV];simp
   omega
  refine wpIn_mono (hbody _ pre x V hA0 hVi hVs) fun e a3 W3 hp=>?_
  cases e with
  | normal=>
   obtain⟨k1,k2,k3⟩:=hp
   have l3:=k1.same _ _ (by omega) hVl (hlc _ _).1
   have d3:=k1.same _ _ (Nat.le_refl _) hVd rfl
   have l3':=l3
   rw[hlp] at l3'
   refine⟨_,_,run_endRound none l3',.inl ⟨rfl,⟨hI.putObj _ k3 (by omega) l3 (hlc _ _).1,?_,(World.putObj_heap_other (by omega)).trans d3⟩,hKt (hKt hVk k2) (hKb _ _ _ _ (by omega) l3 (hlc _ _).1 (hlc _ _).2)⟩⟩
   rw[hlp]
   exact World.putObj_heap_same (Array.getElem?_eq_some_iff.1 l3).1
  | ret=>
   obtain⟨k1,k3⟩:=hp
   have l3:=k1.same _ _ (by omega) hVl (hlc _ _).1
   have d3:=k1.same _ _ (Nat.le_refl _) hVd rfl
   have l3':=l3
   rw[hlp] at l3'
   refine⟨_,_,run_endRound (some .ret) l3',.inr ⟨rfl,hX.putObj _ k3 (by omega) l3 (hlc _ _).1,?_,(World.putObj_heap_other (by omega)).trans d3⟩⟩
   rw[hlp]
   exact World.putObj_heap_same (Array.getElem?_eq_some_iff.1 l3).1
  | exit _=>exact hp.elim
  | goto _=>exact hp.elim
  | panic _=>exact hp.elim
  | outgrown=>exact hp.elim
 ·rintro e W2 ⟨⟨v,rfl⟩,(⟨xs,hS,hi,hl,hd⟩|⟨pre,hS',hx,hl,hd⟩)⟩
  ·rw[hlp] at hl
   exact⟨none,_,run_endLoop hl (by simp),hdone _ xs _ (Nat.le_refl _) hS (hI.putObj _ hi (by omega) hl rfl) ((World.putObj_heap_other (by omega)).trans hd)⟩
  ·rw[hlp] at hl
   exact⟨some .ret,_,run_endLoop hl (by simp),hret _ pre _ (Nat.le_refl _) hS' (hX.putObj _ hx (by omega) hl rfl) ((World.putObj_heap_other (by omega)).trans hd)⟩
end
end Go.Proofs.YtdkaohphbgdkpaaGreatDoor
namespace Go.Proofs.YtdkaohphbgdkpaaGreatDoor
open Go.RowKit Go.Shelf Go.Sort Go.Maps
attribute [local go_sem] Oper.semAt_some
open Classical in
noncomputable def topN (P:Nat→Prop):Nat→Nat
 | 0=>0
 | T+1=>if P T then T else topN P T
theorem tS_ {P:Nat→Prop} : ∀{T k:Nat},P k→k<T→k≤topN P T
 | 0,k,_,h=>by omega
 | T+1,k,hp,h=>by
  unfold topN
  split
  ·omega
  ·next hn=>
   rcases Nat.lt_or_ge k T with h1|h1
   ·exact tS_ hp h1
   ·obtain rfl:k=T:=by omega
    exact absurd hp hn
theorem qG_ {P:Nat→Prop} : ∀{T k:Nat},P k→k<T→P (topN P T)∧topN P T<T
 | 0,k,_,h=>by omega
 | T+1,k,hp,h=>by
  unfold topN
  split
  ·next h1=>exact⟨h1,by omega⟩
  ·next hn=>
   rcases Nat.lt_or_ge k T with h1|h1
   ·have:=qG_ hp h1
    exact⟨this.1,by omega⟩
   ·obtain rfl:k=T:=by omega
    exact absurd hp hn
structure Ge where
 g:Gr
 a:Option Addr
 cap:Nat
abbrev geC (e:Ge):List Value:=[.int .i64 e.g.id,.int .i64 e.g.of,.slice e.a e.g.mem.length e.cap]
abbrev geV (e:Ge):Value:=.agg #[.int .i64 e.g.id,.int .i64 e.g.of,.slice e.a e.g.mem.length e.cap]
def zGe:Ge:=⟨⟨0,0,[]⟩,none,0⟩
def fndE (es:List Ge) (id:Int):Option Ge:=es.find? fun e=>decide (e.g.id=id)
def atE (es:List Ge) (id:Int):Ge:=(fndE es id).getD zGe
def itE (es:List Ge) (i:Int):Nat→Int
 | 0=>i
 | n+1=>(atE es (itE es i n)).g.of
def chE (es:List Ge) (i:Int) (n:Nat):List Int:=(List.range n).map (itE es i)
theorem rF_ (es:List Ge) (i:Int) (n:Nat):chE es i (n+1)=chE es i n++[itE es i n]:=by unfold chE;rw[List.range_succ,List.map_append];rfl
theorem pP_ (es:List Ge) (i:Int) (n:Nat):(chE es i n).length=n:=by unfold chE;simp
theorem itE_in {es:List Ge} (h:∀e∈es,aC_ e.g.of) {i:Int} (hi:aC_ i):∀n,aC_ (itE es i n)
 | 0=>hi
 | n+1=>by
  show aC_ (atE es (itE es i n)).g.of
  unfold atE
  cases hf:fndE es (itE es i n) with
  | none=>show aC_ 0;unfold aC_;omega
  | some e=>exact h e (List.mem_of_find?_eq_some hf)
structure OuAt (m1 k:Nat) (D:DataW Value) (es:List Ge) (bi bd:Nat) (v2:Value) (i:Int) (W:World):Prop where
 mp:W.ownsMap Tryz.prog 3 rawE m1 k D
 at':∀i,aC_ i→D.atKey (.int .i64 i) (.held (geV zGe))=.held (geV (atE es i))
 ix:ArAt bi [.map (some m1),v2] W
 id':ArAt bd [.int .i64 i] W
 ne:bi≠bd∧m1≠bd
def KpF (bi bd m1:Nat) (A B:World):Prop:=A.heap.size≤B.heap.size∧B.heap[bi]?=A.heap[bi]?∧B.heap[bd]?=A.heap[bd]?∧B.heap[m1]?=A.heap[m1]?
theorem KpF.trans {bi bd m1:Nat} {A B C:World} (h:KpF bi bd m1 A B) (k:KpF bi bd m1 B C):KpF bi bd m1 A C:=⟨Nat.le_trans h.1 k.1,k.2.1.trans h.2.1,k.2.2.1.trans h.2.2.1,k.2.2.2.trans h.2.2.2⟩
theorem aAX (a b c:Value) (w:World):(Instr.field 43 (.agg #[a,b,c]) 1).run Tryz.prog w=.ok b w:=by kernel_rfl
theorem jY_ (w:World):(zeroValue 43).run Tryz.prog w=.ok (geV zGe) w:=by kernel_rfl
section
variable {m1 k bi bd:Nat} {D:DataW Value} {es:List Ge} {v2:Value} {i:Int} {W W':World}
theorem OuAt.kp (h:OuAt m1 k D es bi bd v2 i W) (hk:KpF bi bd m1 W W'):OuAt m1 k D es bi bd v2 i W':=by
 obtain⟨es',clock,hb,hr⟩:=h.mp
 exact⟨⟨es',clock,hk.2.2.2.trans hb,hr⟩,h.at',h.ix.of_block hk.2.1 hk.1,h.id'.of_block hk.2.2.1 hk.1,h.ne⟩
theorem OuAt.look (h:OuAt m1 k D es bi bd v2 i W) {j:Int} (hc:aC_ j):(Instr.lookup 119 (.map (some m1)) (.int .i64 j) false).run Tryz.prog W=.ok (geV (atE es j)) W:=by
 obtain⟨v,ps,hrun,hv⟩:=h.mp.lookup bG_ Tryz.underlying119 (jY_ W) (zd:=.held (geV zGe)) (zp:=[]) rfl (keyOf_int_mk Tryz.underlying3 (wf_i64 hc))
 rw[h.at' j hc] at hv
 cases hv
 exact hrun
theorem OuAt.put (h:OuAt m1 k D es bi bd v2 i W) (j:Int):OuAt m1 k D es bi bd v2 j (W.setCell ⟨bd,0,none⟩ (.int .i64 j)):=by
 have hb:∀q,q≠bd→(W.setCell ⟨bd,0,none⟩ (.int .i64 j)).heap[q]?=W.heap[q]?:=fun q hq=>Below.heap_setCell _ _ _ _ hq
 obtain⟨es',clock,h1,hr⟩:=h.mp
 exact⟨⟨es',clock,(hb _ h.ne.2).trans h1,hr⟩,h.at',h.ix.of_block (hb _ h.ne.1) (by simp[World.setCell]),h.id'.set (i:=0) rfl _,h.ne⟩
end
theorem aDM {m1 k bi bd l T n:Nat} {D:DataW Value} {es:List Ge} {v2:Value} {i0:Int} (hof:∀e∈es,aC_ e.g.of) (hi0:aC_ i0) {J Jx:List Int→World→Prop} (W:World) (hW:OuAt m1 k D es bi bd v2 i0 W)
  (hJb:∀pre W W',J pre W→W.grownBy W' (some bd)→J pre W') (hT:∀pre W,J pre W→pre.length<T)
  (hY:∀pre x W1,aC_ x→J pre W1→YieldAt Fence.wide (n-1) Tryz.prog l #[.int .i64 x] W1 fun e W'=>(e=.returned (.bool true)∧J (pre++[x]) W'∧KpF bi bd m1 W1 W')∨(e=.returned (.bool false)∧Jx (pre++[x]) W')) (h0:J [] W) :
  CallsIn Fence.wide n Tryz.prog 129 #[.func (.yield l) #[] #[],.pointer (some ⟨bd,0,none⟩),.pointer (some ⟨bi,0,none⟩)] W fun e W'=>(∃v,e=.returned v)∧
   ((∃xs,(∃j,xs=chE es i0 j∧itE es i0 j = -1∧∀q,q<j→itE es i0 q≠-1)∧J xs W')∨∃pre,(∃j,pre=chE es i0 (j+1)∧∀q,q<j+1→itE es i0 q≠-1)∧Jx pre W'):=by
 have hdd:∀k:Nat,(Fence.wide.depth.isSome=true→1≤k):=fun k h=>by cases h
 obtain⟨R,hR⟩:∃R:World→Nat→Prop,R=fun wr j=>J (chE es i0 j) wr∧OuAt m1 k D es bi bd v2 (itE es i0 j) wr∧∀q,q<j→itE es i0 q≠-1:=⟨_,rfl⟩
 have hRT:∀wr j,R wr j→j<T:=fun wr j h=>by
  rw[hR] at h
  have:=hT _ _ h.1
  rw[pP_] at this
  exact this
 have HRT:=Lib.hid hRT
 have HR:=Lib.hid hR
 have HY:=Lib.hid hY
 have HJ:=Lib.hid hJb
 have HIT:=Lib.hid (itE_in hof hi0)
 have HS:=Lib.hid (show R W 0 from by rw[hR];exact⟨h0,hW,fun q hq=>by omega⟩)
 clear hR hRT hY hJb hT hW h0 hof hi0
 refine callsIn_of_wp Tryz.func129 rfl trivial ?_ rfl
 simp only[Tryz.ntmps129,List.size_toArray,List.length_cons,List.length_nil,Nat.reduceAdd,Nat.reduceSub,Array.replicate_succ,Array.replicate_zero,List.push_toArray,List.append_toArray,List.nil_append,List.cons_append]
 gi_wp2
 gi_loopw [] (fun wr=>∃j,R wr j) (fun wr=>T-topN (R wr) T)
 case atStart=>exact⟨0,HS.out⟩
 case round=>
  obtain⟨j0,hj0⟩:=hrel
  obtain⟨hj,hjT⟩:=qG_ hj0 (HRT.out _ _ hj0)
  obtain⟨j,hje⟩:∃j,j=topN (R wr) T:=⟨_,rfl⟩
  rw[←hje] at hj hjT⊢
  have hj':=hj
  rw[HR.out] at hj'
  obtain⟨hJ1,hO,hpre⟩:=hj'
  obtain⟨x,hx⟩:∃x,x=itE es i0 j:=⟨_,rfl⟩
  have HX:=Lib.hid hx
  have HP:=Lib.hid hpre
  have HO:=Lib.hid hO
  have HJ1:=Lib.hid hJ1
  have HTJ:=Lib.hid (And.intro hje hjT)
  have hin:aC_ x:=by rw[hx];exact HIT.out j
  rw[←hx] at hO
  have z0:=hO.id'.row 0 _ rfl
  clear hj hO hJ1 hpre hje hjT hj0
  by_cases h1:x = -1
  ·have HX1:=Lib.hid h1
   clear hx hin
   subst h1
   gi_wp2
   refine⟨fun _ h=>(by cases h),?_⟩
   gi_wp2
   go_end0
   exact⟨⟨_,rfl⟩,.inl ⟨_,⟨j,rfl,HX.out.symm,HP.out⟩,HJ1.out⟩⟩
  ·have t1:(x != -1)=true:=by simpa using h1
   have hp2:∀q,q<j+1→itE es i0 q≠-1:=fun q hq=>by
    rcases Nat.lt_or_ge q j with h|h
    ·exact HP.out q h
    ·obtain rfl:q=j:=by omega
     rw[←hx];exact h1
   have HP2:=Lib.hid hp2
   obtain⟨fn,tmps,assign,body,hy,hR⟩:=HY.out (chE es i0 j) x wr hin HJ1.out
   have hch:chE es i0 j++[x]=chE es i0 (j+1):=by rw[rF_,←hx]
   rw[hch] at hR
   rw[←hx] at HO
   clear hp2 hch h1 hx
   gi_wp2_with (first
    | ((try refine⟨hdd _,?_⟩);refine hR.mono ?_;clear hR;rintro e w2 (⟨rfl,j2,kp2⟩ | ⟨rfl,hx2⟩);have H2:=Lib.hid (HO.out.kp kp2);have HJ2:=Lib.hid j2;have z2:=H2.out.id'.row 0 _ rfl;have f2:=H2.out.id'.fz 0 (by simp);have y2:=H2.out.ix.row 0 _ rfl;have hlk:=H2.out.look hin;have hgv:geV (atE es x)=.agg #[.int .i64 (atE es x).g.id,.int .i64 (atE es x).g.of,.slice (atE es x).a (atE es x).g.mem.length (atE es x).cap]:=rfl;rw[hgv] at hlk;have hfd:=aAX (.int .i64 (atE es x).g.id) (.int .i64 (atE es x).g.of) (.slice (atE es x).a (atE es x).g.mem.length (atE es x).cap) w2;clear hgv kp2 j2))
   ·have hg:=grownBy_setCell' w2 bd (.int .i64 (atE es x).g.of)
    have e1:itE es i0 (j+1)=(atE es x).g.of:=by show(atE es (itE es i0 j)).g.of=_;rw[←HX.out]
    have hn:R (w2.setCell ⟨bd,0,none⟩ (.int .i64 (atE es x).g.of)) (j+1):=by
     rw[HR.out]
     exact⟨HJ.out _ _ _ HJ2.out hg,by rw[e1];exact H2.out.put _,HP2.out⟩
    refine⟨⟨j+1,hn⟩,?_⟩
    have h5:=tS_ hn (HRT.out _ _ hn)
    have:=HTJ.out
    have:=HRT.out _ _ hn
    omega
   ·go_end0
    exact⟨⟨_,rfl⟩,.inr ⟨_,⟨j,rfl,HP2.out⟩,hx2⟩⟩
end Go.Proofs.YtdkaohphbgdkpaaGreatDoor
namespace Go.Proofs.YtdkaohphbgdkpaaGreatDoor
open Go.RowKit Go.Shelf Go.Sort Go.Maps
attribute [local go_sem] Oper.semAt_some
structure GsAt (a:Option Addr) (es:List Ge) (W:World):Prop where
 row:∀(k:Nat) (e:Ge),es[k]?=some e→∃b o:Nat,a=some ⟨b,o,none⟩∧b<W.heap.size∧(∀(j:Nat) (v:Value),(geC e)[j]?=some v→W.cell? ⟨b,o+k*3+j,none⟩=some v)∧CsAt e.a (icC e.g.mem) W
theorem GsAt.below {a:Option Addr} {es:List Ge} {W W':World} (h:GsAt a es W) (hb:Below W.heap.size W W'):GsAt a es W':=⟨fun k e he=>by
 obtain⟨b,o,h1,h2,h3,h4⟩:=h.row k e he
 exact⟨b,o,h1,Nat.lt_of_lt_of_le h2 hb.size,fun j v hv=>(World.cell?_of_block (w:=W) (hb.block b h2)).trans (h3 j v hv),h4.below hb⟩⟩
theorem GsAt.ge {a:Option Addr} {es:List Ge} {W:World} (h:GsAt a es W) {k:Nat} {e:Ge} (he:es[k]?=some e):∃b o:Nat,a=some ⟨b,o,none⟩∧b<W.heap.size∧W.cell? ⟨b,o+k*3,none⟩=some (.int .i64 e.g.id)∧W.cell? ⟨b,o+k*3+1,none⟩=some (.int .i64 e.g.of)∧W.cell? ⟨b,o+k*3+2,none⟩=some (.slice e.a e.g.mem.length e.cap)∧CsAt e.a (icC e.g.mem) W:=by
 obtain⟨b,o,h1,h2,h3,h4⟩:=h.row k e he
 exact⟨b,o,h1,h2,h3 0 _ rfl,h3 1 _ rfl,h3 2 _ rfl,h4⟩
structure MmAt (M1 M2 n1 n2:Nat) (D1 D2:DataW Value) (es:List Ge) (cs:List Int) (L:List (Nat×List Value)) (w W:World):Prop where
 az:AzAt L w W
 m1:W.ownsMap Tryz.prog 3 rawE M1 n1 D1
 m2:W.ownsMap Tryz.prog 3 rawE M2 n2 D2
 lo:w.heap.size≤M1∧w.heap.size≤M2∧M1≠M2
 ne:∀x∈L,x.1≠M1∧x.1≠M2
 a1:∀i,aC_ i→D1.atKey (.int .i64 i) (.held (geV zGe))=.held (geV (atE es i))
 h1:∀i,aC_ i→has D1 (.int .i64 i)=(fndE es i).isSome
 h2:∀i,aC_ i→has D2 (.int .i64 i)=decide (i∈cs)
theorem yF_ (w:World):(zeroValue 3).run Tryz.prog w=.ok (.int .i64 0) w:=by kernel_rfl
section
variable {M1 M2 n1 n2:Nat} {D1 D2:DataW Value} {es:List Ge} {cs:List Int} {L:List (Nat×List Value)} {w W W':World}
theorem MmAt.below (h:MmAt M1 M2 n1 n2 D1 D2 es cs L w W) (hb:Below W.heap.size W W'):MmAt M1 M2 n1 n2 D1 D2 es cs L w W':=⟨h.az.below hb,aP_ h.m1 hb,aP_ h.m2 hb,h.lo,h.ne,h.a1,h.h1,h.h2⟩
theorem MmAt.sub {L':List (Nat×List Value)} (h:MmAt M1 M2 n1 n2 D1 D2 es cs L w W) (hs:∀x∈L',x∈L):MmAt M1 M2 n1 n2 D1 D2 es cs L' w W:=⟨h.az.sub hs,h.m1,h.m2,h.lo,fun x hx=>h.ne x (hs x hx),h.a1,h.h1,h.h2⟩
theorem MmAt.push (h:MmAt M1 M2 n1 n2 D1 D2 es cs L w W) (l:List Value) (t:TypeId):MmAt M1 M2 n1 n2 D1 D2 es cs ((W.heap.size,l)::L) w (W.alloc (.cells l.toArray t)):=by
 have h':=h.below ((Below.refl W.heap.size W).alloc (Nat.le_refl _) (.cells l.toArray t))
 refine⟨h'.az.cons (ArAt.mk' W l t),h'.m1,h'.m2,h.lo,fun x hx=>?_,h.a1,h.h1,h.h2⟩
 rcases List.mem_cons.1 hx with rfl|hx
 ·have e1:=h.m1.lt
  have e2:=h.m2.lt
  constructor
  ·show W.heap.size≠M1;omega
  ·show W.heap.size≠M2;omega
 ·exact h.ne x hx
theorem MmAt.look1 (h:MmAt M1 M2 n1 n2 D1 D2 es cs L w W) {j:Int} (hc:aC_ j):(Instr.lookup 119 (.map (some M1)) (.int .i64 j) true).run Tryz.prog W=.ok (.tuple #[geV (atE es j),.bool (fndE es j).isSome]) W:=by
 obtain⟨v,ps,hrun,hv⟩:=h.m1.look_ok bG_ Tryz.underlying119 (jY_ W) (zd:=.held (geV zGe)) (zp:=[]) rfl (keyOf_int_mk Tryz.underlying3 (wf_i64 hc))
 rw[h.a1 j hc] at hv
 rw[h.h1 j hc] at hrun
 cases hv
 exact hrun
theorem MmAt.look2 (h:MmAt M1 M2 n1 n2 D1 D2 es cs L w W) {j:Int} (hc:aC_ j):∃v,(Instr.lookup 103 (.map (some M2)) (.int .i64 j) true).run Tryz.prog W=.ok (.tuple #[v,.bool (decide (j∈cs))]) W:=by
 obtain⟨v,ps,hrun,hv⟩:=h.m2.look_ok bG_ Tryz.underlying103 (yF_ W) (zd:=.held (.int .i64 0)) (zp:=[]) rfl (keyOf_int_mk Tryz.underlying3 (wf_i64 hc))
 rw[h.h2 j hc] at hrun
 exact⟨v,hrun⟩
theorem oL_ {e:Ge} (hn:fndE es e.g.id=none) (i:Int):fndE (es++[e]) i=if i=e.g.id then some e else fndE es i:=by
 unfold fndE at *
 rw[List.find?_append]
 by_cases h:i=e.g.id
 ·subst h
  rw[hn,if_pos rfl]
  simp
 ·rw[if_neg h]
  have:[e].find? (fun e=>decide (e.g.id=i))=none:=by simp[Ne.symm h]
  rw[this]
  cases es.find? (fun e=>decide (e.g.id=i)) <;> rfl
theorem MmAt.put1 (h:MmAt M1 M2 n1 n2 D1 D2 es cs L w W) {e:Ge} (he:aC_ e.g.id) (hn:fndE es e.g.id=none) (h2:W'.ownsMap Tryz.prog 3 rawE M1 (n1+1) (D1.put (.int .i64 e.g.id) (.held (geV e)))) (hg:W.grownBy W' (some M1)) :
  MmAt M1 M2 (n1+1) n2 (D1.put (.int .i64 e.g.id) (.held (geV e))) D2 (es++[e]) cs L w W':=by
 have hb:Below w.heap.size w W':=h.az.bw.grown hg h.az.bw.size (fun k hk=>by cases hk;exact h.lo.1)
 have hD:=h.m1.isMap
 refine⟨⟨hb,fun x hx=>(h.az.row x hx).of_block (hg.block x.1 (h.az.row x hx).sz (fun e=>(h.ne x hx).1 (Option.some.inj e))) hg.size⟩,h2,h.m2.kept hg (fun e=>h.lo.2.2 (Option.some.inj e).symm),h.lo,h.ne,fun i hi=>?_,fun i hi=>?_,h.h2⟩
 ·unfold atE
  rw[oL_ hn]
  by_cases e1:i=e.g.id
  ·subst e1
   rw[if_pos rfl,atKey_put_same hD (by trivial)]
   rfl
  ·rw[if_neg e1,atKey_put_other (by intro e';cases e';exact e1 rfl)]
   exact h.a1 i hi
 ·rw[oL_ hn]
  by_cases e1:i=e.g.id
  ·subst e1
   rw[if_pos rfl,has_put_same hD (by trivial)]
   rfl
  ·rw[if_neg e1,has_put_other (by intro e';cases e';exact e1 rfl)]
   exact h.h1 i hi
theorem MmAt.put2 (h:MmAt M1 M2 n1 n2 D1 D2 es cs L w W) {c:Int} {v:Value} (h2:W'.ownsMap Tryz.prog 3 rawE M2 (n2+1) (D2.put (.int .i64 c) (.held v))) (hg:W.grownBy W' (some M2)) :
  MmAt M1 M2 n1 (n2+1) D1 (D2.put (.int .i64 c) (.held v)) es (cs++[c]) L w W':=by
 have hb:Below w.heap.size w W':=h.az.bw.grown hg h.az.bw.size (fun k hk=>by cases hk;exact h.lo.2.1)
 have hD:=h.m2.isMap
 refine⟨⟨hb,fun x hx=>(h.az.row x hx).of_block (hg.block x.1 (h.az.row x hx).sz (fun e=>(h.ne x hx).2 (Option.some.inj e))) hg.size⟩,h.m1.kept hg (fun e=>h.lo.2.2 (Option.some.inj e)),h2,h.lo,h.ne,h.a1,h.h1,fun i hi=>?_⟩
 by_cases e1:i=c
 ·subst e1
  rw[has_put_same hD (by trivial)]
  simp
 ·rw[has_put_other (by intro e';cases e';exact e1 rfl),h.h2 i hi]
  simp[e1]
theorem MmAt.set {B i:Nat} {l:List Value} {u:Value} (h:MmAt M1 M2 n1 n2 D1 D2 es cs ((B,l)::L) w W) (hB:w.heap.size≤B) (hd:∀x∈L,B≠x.1) (hi:l[i]?=some u) (t:Value):MmAt M1 M2 n1 n2 D1 D2 es cs ((B,l.set i t)::L) w (W.setCell ⟨B,i,none⟩ t):=by
 have hM:=h.ne (B,l) (by simp)
 have hk:∀q,q≠B→(W.setCell ⟨B,i,none⟩ t).heap[q]?=W.heap[q]?:=fun q hq=>Below.heap_setCell _ _ _ _ hq
 obtain⟨es1,c1,b1,r1⟩:=h.m1
 obtain⟨es2,c2,b2,r2⟩:=h.m2
 refine⟨h.az.set hB hd hi t,⟨es1,c1,(hk _ hM.1.symm).trans b1,r1⟩,⟨es2,c2,(hk _ hM.2.symm).trans b2,r2⟩,h.lo,fun x hx=>?_,h.a1,h.h1,h.h2⟩
 rcases List.mem_cons.1 hx with rfl|hx
 ·exact hM
 ·exact h.ne x (by simp[hx])
end
end Go.Proofs.YtdkaohphbgdkpaaGreatDoor
namespace Go.Proofs.YtdkaohphbgdkpaaGreatDoor
open Go.RowKit Go.Shelf Go.Sort Go.Maps
attribute [local go_sem] Oper.semAt_some
def gsE (es:List Ge):List Gr:=es.map (·.g)
theorem qX_ (es:List Ge) (id:Int):sU_ (gsE es) id=(fndE es id).map (·.g):=by
 unfold sU_ gsE fndE
 rw[List.find?_map]
 rfl
theorem aEA (es:List Ge) (i:Int):∀n,itE es i (n+1)=(atE es (itE es i n)).g.of:=fun _=>rfl
theorem iY_ {es:List Ge} {i:Int} : ∀j,j≤12→(∀q,q<j→itE es i q≠-1∧(fndE es (itE es i q)).isSome=true)→outG (gsE es) 12 i=outG (gsE es) (12-j) (itE es i j)
 | 0,_,_=>rfl
 | j+1,hj,h=>by
  rw[iY_ j (by omega) fun q hq=>h q (by omega)]
  obtain⟨h1,h2⟩:=h j (by omega)
  obtain⟨m,hm⟩:∃m,12-j=m+1:=⟨11-j,by omega⟩
  rw[hm,show 12-(j+1)=m by omega]
  show(if itE es i j = -1 then true else match sU_ (gsE es) (itE es i j) with|none=>false|some g=>outG (gsE es) m g.of)=_
  rw[if_neg h1,qX_,aEA]
  cases hf:fndE es (itE es i j) with
  | none=>rw[hf] at h2;cases h2
  | some e=>
   unfold atE
   rw[hf]
   rfl
theorem aDN {es:List Ge} {i:Int} {j:Nat} (hj:j≤12) (h:∀q,q<j→itE es i q≠-1∧(fndE es (itE es i q)).isSome=true) (he:itE es i j = -1):outG (gsE es) 12 i=true:=by
 rw[iY_ j hj h,he]
 cases 12-j with
 | zero=>rfl
 | succ m=>show(if (-1:Int) = -1 then true else _)=true;rw[if_pos rfl]
theorem out_no {es:List Ge} {i:Int} {j:Nat} (hj:j≤12) (h:∀q,q<j→itE es i q≠-1∧(fndE es (itE es i q)).isSome=true) (he:itE es i j≠-1) (hx:fndE es (itE es i j)=none∨j=12):outG (gsE es) 12 i=false:=by
 rw[iY_ j hj h]
 rcases hx with hx|rfl
 ·cases 12-j with
  | zero=>exact decide_eq_false he
  | succ m=>show(if itE es i j = -1 then true else match sU_ (gsE es) (itE es i j) with | none=>false | some g=>outG (gsE es) m g.of)=false;rw[if_neg he,qX_,hx];rfl
 ·exact decide_eq_false he
theorem aCK {es:List Ge} {i:Int} {j q:Nat} (hq:q<j):(chE es i j)[q]?=some (itE es i q):=by
 unfold chE
 rw[List.getElem?_map,List.getElem?_range hq]
 rfl
theorem vI_ (m1 m2:Value) (id:Int) (w:World) :
  Calls Tryz.prog 109 #[.agg #[m1,m2],.int .i64 id] w fun e W'=>e=.returned (.func (.func 129) #[] #[.pointer (some ⟨w.heap.size+1,0,none⟩),.pointer (some ⟨w.heap.size,0,none⟩)])∧W'=(w.alloc (.cells #[m1,m2] 121)).alloc (.cells #[.int .i64 id] 3):=by
 go_enter Tryz.func109,Tryz.ntmps109
 go_wp2
 go_ret
 exact⟨rfl,rfl⟩
def hM_:Code→List Code
 | .loop c=>c::hM_ c
 | .seq a b=>hM_ a++hM_ b
 | .cond _ a b=>hM_ a++hM_ b
 | .block _ c=>hM_ c
 | .scope c=>hM_ c
 | _=>[]
noncomputable def uW_:Code:=((hM_ (Tryz.f64.body.getD .skip))[2]?).getD .skip
theorem MmAt.own_from {M1 M2 n1 n2:Nat} {D1 D2:DataW Value} {es:List Ge} {cs:List Int} {L:List (Nat×List Value)} {w W W':World} {row:Option Nat} {B:Nat} (h:MmAt M1 M2 n1 n2 D1 D2 es cs L w W) (hne:∀x∈L,x.2≠[]) (hM:M1<B∧M2<B) (hB:w.heap.size≤B) (hg:W.grownBy W' row) (hr:∀r,row=some r→B≤r∧∃o:Obj,W.heap[r]?=some o∧o.isCells=false):MmAt M1 M2 n1 n2 D1 D2 es cs L w W':=by
 refine⟨⟨h.az.bw.grown hg h.az.bw.size fun k hk=>Nat.le_trans hB (hr k hk).1,fun x hx=>?_⟩,h.m1.kept hg fun e=>?_,h.m2.kept hg fun e=>?_,h.lo,h.ne,h.a1,h.h1,h.h2⟩
 ·obtain⟨u,hu⟩:∃u,x.2[0]?=some u:=by
   cases e:x.2 with
   | nil=>exact absurd e (hne x hx)
   | cons u l=>exact⟨u,rfl⟩
  obtain⟨o,ho,hc⟩:=cells_of_cell ((h.az.row x hx).row 0 u hu)
  exact(h.az.row x hx).of_block (grownBy_keeps_cells hg (fun r e=>(hr r e).2) ho hc) hg.size
 ·have:=(hr _ e.symm).1
  omega
 ·have:=(hr _ e.symm).1
  omega
theorem MmAt.own_cell {M1 M2 n1 n2:Nat} {D1 D2:DataW Value} {es:List Ge} {cs:List Int} {L:List (Nat×List Value)} {w W W':World} {B:Nat} (h:MmAt M1 M2 n1 n2 D1 D2 es cs L w W) (hne:∀x∈L,x.1≠B) (hM:M1≠B∧M2≠B) (hB:w.heap.size≤B) (hg:W.grownBy W' (some B)):MmAt M1 M2 n1 n2 D1 D2 es cs L w W':=
 ⟨⟨h.az.bw.grown hg h.az.bw.size fun k hk=>by cases hk;exact hB,fun x hx=>(h.az.row x hx).of_block (hg.block x.1 (h.az.row x hx).sz fun e=>hne x hx (Option.some.inj e)) hg.size⟩,h.m1.kept hg fun e=>hM.1 (Option.some.inj e),h.m2.kept hg fun e=>hM.2 (Option.some.inj e),h.lo,h.ne,h.a1,h.h1,h.h2⟩
theorem kO_ {A W W':World} {row:Option Nat} {B:Nat} (h:KeepsOthers A W) (hA:A.heap.size≤B) (hg:W.grownBy W' row) (hr:∀r,row=some r→B≤r∧∃o:Obj,W.heap[r]?=some o∧o.isCells=false):KeepsOthers A W':=
 ⟨Nat.le_trans h.size hg.size,fun k o hk ho=>(hg.block k (Array.getElem?_eq_some_iff.1 (h.same k o hk ho)).1 fun e=>by have:=(hr _ e.symm).1;have:=(Array.getElem?_eq_some_iff.1 hk).1;omega).trans (h.same k o hk ho)⟩
theorem sK_ {A W W':World} {B:Nat} (h:KeepsOthers A W) (hB:A.heap.size≤B) (hg:W.grownBy W' (some B)):KeepsOthers A W':=
 ⟨Nat.le_trans h.size hg.size,fun k o hk ho=>(hg.block k (Array.getElem?_eq_some_iff.1 (h.same k o hk ho)).1 fun e=>by have:=Option.some.inj e;have:=(Array.getElem?_eq_some_iff.1 hk).1;omega).trans (h.same k o hk ho)⟩
theorem rV_ {w wr:World} {a:Option Addr} {n cap i k1 n2:Nat} {D1 D2:DataW Value} {es:List Ge} {cs:List Int} {g:Ge} (v:Nat→Value) (ds:List Deferred) (hn:n≤1000) (HOF:Hid (∀e∈es,aC_ e.g.of)) (hid:aC_ g.g.id) (HP:Hid (GsAt a es w)) (hg:es[i]?=some g)
  (h0:v 0=.slice a n cap) ( h2:v 2=.pointer (some ⟨w.heap.size,0,none⟩)) ( h3:v 3=.pointer (some ⟨w.heap.size+1,0,none⟩)) ( h4:v 4=.pointer (some ⟨w.heap.size+1+1+1+1,0,none⟩)) ( h95:v 95=.slice a n cap) ( h96:v 96=.int .i64 (n:Int)) (h97:v 97=.int .i64 (i:Int)) (hlt:i<n)
  (H:Hid (MmAt (w.heap.size+1+1) (w.heap.size+1+1+1) k1 n2 D1 D2 es cs [(w.heap.size+1+1+1+1,[.map (some (w.heap.size+1+1)),.map (some (w.heap.size+1+1+1))]),(w.heap.size+1,[.bool false]),(w.heap.size,[.map none,.map none])] w wr)) (Q0:Exit→Act→World→Prop)
  (hend:∀(ys:List Value) (D:Nat) (W:World),ys.length=127→(ys[0]?=Option.some (v 0)∧ys[2]?=Option.some (v 2)∧ys[3]?=Option.some (v 3)∧ys[4]?=Option.some (v 4)∧ys[95]?=Option.some (v 95)∧ys[96]?=Option.some (v 96))→ys[97]?=Option.some (.int .i64 ((i:Int)+1))→MmAt (w.heap.size+1+1) (w.heap.size+1+1+1) k1 n2 D1 D2 es cs [(w.heap.size+1+1+1+1,[.map (some (w.heap.size+1+1)),.map (some (w.heap.size+1+1+1))]),(w.heap.size+1,[.bool false]),(w.heap.size,[.map none,.map none])] w W→outG (gsE es) 12 g.g.id=true→W.heap[D]?=Option.some (.deferred (Option.some []))→wr.heap.size≤D→KeepsOthers wr W→Q0 .normal ⟨ys.toArray,{ target:=.collected D,args:=#[] } :: ds⟩ W)
  (hbad:∀(ys:List Value) (D:Nat) (W:World),ys.length=127→ys[2]?=Option.some (v 2)→ys[3]?=Option.some (v 3)→AzAt [(w.heap.size+1,[.bool false]),(w.heap.size,[.map none,.map none])] w W→outG (gsE es) 12 g.g.id=false→W.heap[D]?=Option.some (.deferred (Option.some []))→wr.heap.size≤D→KeepsOthers wr W→Q0 .ret ⟨ys.toArray,{ target:=.collected D,args:=#[] } :: ds⟩ W) :
  uW_.wpIn Fence.wide 9 Tryz.prog Q0 ⟨[v 0,v 1,v 2,v 3,v 4,v 5,v 6,v 7,v 8,v 9,v 10,v 11,v 12,v 13,v 14,v 15,v 16,v 17,v 18,v 19,v 20,v 21,v 22,v 23,v 24,v 25,v 26,v 27,v 28,v 29,v 30,v 31,v 32,v 33,v 34,v 35,v 36,v 37,v 38,v 39,v 40,v 41,v 42,v 43,v 44,v 45,v 46,v 47,v 48,v 49,v 50,v 51,v 52,v 53,v 54,v 55,v 56,v 57,v 58,v 59,v 60,v 61,v 62,v 63,v 64,v 65,v 66,v 67,v 68,v 69,v 70,v 71,v 72,v 73,v 74,v 75,v 76,v 77,v 78,v 79,v 80,v 81,v 82,v 83,v 84,v 85,v 86,v 87,v 88,v 89,v 90,v 91,v 92,v 93,v 94,v 95,v 96,v 97,v 98,v 99,v 100,v 101,v 102,v 103,v 104,v 105,v 106,v 107,v 108,v 109,v 110,v 111,v 112,v 113,v 114,v 115,v 116,v 117,v 118,v 119,v 120,v 121,v 122,v 123,v 124,v 125,v 126].toArray,ds⟩ wr:=by
 have HEND:=Lib.hid hend
 have HBAD:=Lib.hid hbad
 obtain⟨⟨ei,eo,em⟩,ea,ec⟩:=g
 simp only at hid
 obtain⟨b,o,rfl,hb7,c0,c1,c2,hcs⟩:=(HP.out.below H.out.az.bw).ge hg
 simp only at c0 c1 c2 hcs
 have t9:decide ((i:Int)<(n:Int))=true:=decide_eq_true (by omega)
 have t8:(i:Int)<(n:Int):=by omega
 have t7:(0:Int)≤(i:Int):=by omega
 have gi:IntKind.i64.wrap ((i:Int)+1)=(i:Int)+1:=IntWalk.i64_in _ (by omega)
 have KO:=Lib.hid (fun W=>vI_ (.map (some (w.heap.size+1+1))) (.map (some (w.heap.size+1+1+1))) ei W)
 have H1:=Lib.hid (H.out.push [.int .i64 ei,.int .i64 eo,.slice ea em.length ec] 43)
 have H2:=Lib.hid (H1.out.push [.int .i64 0] 3)
 have x0:=H2.out.az.ce 2 0 rfl rfl
 have x1:=H2.out.az.ce 2 1 rfl rfl
 have hsz:w.heap.size+1+1+1+1<wr.heap.size:=(H.out.az.row (w.heap.size+1+1+1+1,[.map (some (w.heap.size+1+1)),.map (some (w.heap.size+1+1+1))]) (by simp)).sz
 have HID:=Lib.hid hid
 clear hend hbad hcs hg
 rw[h0,h2,h3,h4,h95,h96,h97]
 have HV:=Lib.hid (And.intro h0 ( And.intro h2 ( And.intro h3 ( And.intro h4 ( And.intro h95 (h96))))))
 clear h0 h2 h3 h4 h95 h96 h97 hid
 unfold uW_
 conv=>arg 4;whnf
 dsimp only
 gi_wp2_with (first
  | (refine⟨trivial,?_⟩;gi_at_call 109;(with_reducible refine(callsIn_wide.2 (KO.out _)).mono ?_);rintro e u1 ⟨rfl,rfl⟩)
  | fail)
 have H3:=Lib.hid ((H2.out.push [.map (some (w.heap.size+1+1)),.map (some (w.heap.size+1+1+1))] 121).push [.int .i64 ei] 3)
 simp only[World.size_alloc] at H3
 have hko:KeepsOthers wr ((((wr.alloc (.cells ([.int .i64 ei,.int .i64 eo,.slice ea em.length ec]:List Value).toArray 43)).alloc (.cells ([.int .i64 0]:List Value).toArray 3)).alloc (.cells ([.map (some (w.heap.size+1+1)),.map (some (w.heap.size+1+1+1))]:List Value).toArray 121)).alloc (.cells ([.int .i64 ei]:List Value).toArray 3)):=(((KeepsOthers.alloc _ _).trans (KeepsOthers.alloc _ _)).trans (KeepsOthers.alloc _ _)).trans (KeepsOthers.alloc _ _)
 obtain⟨X,hX⟩:∃X,X=wr.heap.size:=⟨_,rfl⟩
 obtain⟨W0,hW0⟩:∃W,W=((((wr.alloc (.cells ([.int .i64 ei,.int .i64 eo,.slice ea em.length ec]:List Value).toArray 43)).alloc (.cells ([.int .i64 0]:List Value).toArray 3)).alloc (.cells ([.map (some (w.heap.size+1+1)),.map (some (w.heap.size+1+1+1))]:List Value).toArray 121)).alloc (.cells ([.int .i64 ei]:List Value).toArray 3)):=⟨_,rfl⟩
 have hs0:W0.heap.size=X+4:=by rw[hW0,hX];simp
 rw[←hW0] at H3 hko
 rw[←hW0]
 rw[←hX] at H3 hsz
 rw[←hX]
 have HSZ:=Lib.hid (And.intro hs0 (And.intro hsz (And.intro hX H.out.lo)))
 have HKO:=Lib.hid hko
 have OU:=Lib.hid (show OuAt (w.heap.size+1+1) k1 D1 es (X+1+1) (X+1+1+1) (.map (some (w.heap.size+1+1+1))) ei W0 from⟨H3.out.m1,H3.out.a1,H3.out.az.row (X+1+1,[.map (some (w.heap.size+1+1)),.map (some (w.heap.size+1+1+1))]) (by simp),H3.out.az.row (X+1+1+1,[.int .i64 ei]) (by simp),by constructor <;> omega⟩)
 have H4:=Lib.hid (H3.out.sub (L':=(X+1,[.int .i64 ((([]:List Int).length:Nat):Int)])::[(w.heap.size+1+1+1+1,[.map (some (w.heap.size+1+1)),.map (some (w.heap.size+1+1+1))]),(w.heap.size+1,[.bool false]),(w.heap.size,[.map none,.map none])]) (by simp))
 clear hX hW0 hs0 hko H1 H2 H3 H KO x0 x1 c0 c1 c2
 refine lN_ (b:=X+1+1+1) (T:=13) (gf:=129) (lb:=#[.pointer (some ⟨X+1+1+1,0,none⟩),.pointer (some ⟨X+1+1,0,none⟩)]) (encs:=fun x:Int=>#[.int .i64 x]) (A0:=aC_)
  (S:=fun xs=>∃j,xs=chE es ei j∧itE es ei j = -1∧∀q,q<j→itE es ei q≠-1) (S':=fun pre=>∃j,pre=chE es ei (j+1)∧∀q,q<j+1→itE es ei q≠-1)
  (by omega) (by rw[HSZ.out.1];omega) rfl (enters_of Tryz.func129 (by kernel_rfl) rfl)
  (KpF (X+1+1) (X+1+1+1) (w.heap.size+1+1)) (fun h k=>h.trans k) ?Kb
  (fun pre W=>MmAt (w.heap.size+1+1) (w.heap.size+1+1+1) k1 n2 D1 D2 es cs ((X+1,[.int .i64 ((pre.length:Nat):Int)])::[(w.heap.size+1+1+1+1,[.map (some (w.heap.size+1+1)),.map (some (w.heap.size+1+1+1))]),(w.heap.size+1,[.bool false]),(w.heap.size,[.map none,.map none])]) w W∧KeepsOthers wr W∧pre.length≤12∧∀y∈pre,(fndE es y).isSome=true)
  (fun pre W=>AzAt [(w.heap.size+1,[.bool false]),(w.heap.size,[.map none,.map none])] w W∧KeepsOthers wr W∧∃pre' x,pre=pre'++[x]∧pre'.length≤12∧(∀y∈pre',(fndE es y).isSome=true)∧(fndE es x=none∨pre'.length=12))
  ?I ?X ?Ib (fun pre W h=>by have:=h.2.2.1;omega) ⟨H4.out,HKO.out,Nat.zero_le _,fun y hy=>nomatch hy⟩ (fun _=>rfl) ?seq (fun x=>{ tmps:=#[.slice (some ⟨b,o,none⟩) n cap,v 1,.pointer (some ⟨w.heap.size,0,none⟩),.pointer (some ⟨w.heap.size+1,0,none⟩),.pointer (some ⟨w.heap.size+1+1+1+1,0,none⟩),v 5,v 6,v 7,v 8,v 9,v 10,v 11,.pointer (some ⟨X,0,none⟩),.pointer (some ⟨X+1,0,none⟩),.int .i64 x,v 15,v 16,v 17,v 18,v 19,v 20,v 21,v 22,v 23,v 24,v 25,v 26,v 27,v 28,v 29,v 30,v 31,v 32,v 33,v 34,v 35,v 36,v 37,v 38,v 39,v 40,v 41,v 42,v 43,v 44,v 45,v 46,v 47,v 48,v 49,v 50,v 51,v 52,v 53,v 54,v 55,v 56,v 57,v 58,v 59,v 60,v 61,v 62,v 63,v 64,v 65,v 66,v 67,v 68,v 69,v 70,v 71,v 72,v 73,v 74,v 75,v 76,v 77,v 78,v 79,v 80,v 81,v 82,v 83,v 84,v 85,v 86,v 87,v 88,v 89,v 90,v 91,v 92,v 93,v 94,.slice (some ⟨b,o,none⟩) n cap,.int .i64 (n:Int),.int .i64 (i:Int),.bool true,.pointer (some ⟨b,o+i*3,none⟩),.agg #[.int .i64 ei,.int .i64 eo,.slice ea em.length ec],.agg #[.map (some (w.heap.size+1+1)),.map (some (w.heap.size+1+1+1))],.pointer (some ⟨X,0,none⟩),.int .i64 ei,.func (.func 129) #[] #[.pointer (some ⟨X+1+1+1,0,none⟩),.pointer (some ⟨X+1+1,0,none⟩)],.int .i64 x,v 106,v 107,v 108,v 109,v 110,v 111,v 112,v 113,v 114,v 115,v 116,v 117,v 118,v 119,v 120,v 121,v 122,v 123,v 124,v 125,v 126],defers:=[] }) ?assign ?body ?done ?ret
 case Kb=>
  intro W l o' o2 hl ho h1 h2
  have hs:=HSZ.out
  exact⟨by simp,World.putObj_heap_other (by omega),World.putObj_heap_other (by omega),World.putObj_heap_other (by omega)⟩
 case I=>
  rintro pre W W' row ⟨hm,hk,h3⟩ hg hr
  have hs:=HSZ.out
  exact⟨hm.own_from (by simp) (by omega) (by omega) hg hr,kO_ hk (by omega) hg hr,h3⟩
 case X=>
  rintro pre W W' row ⟨hm,hk,h3⟩ hg hr
  have hs:=HSZ.out
  exact⟨⟨hm.bw.grown hg hm.bw.size fun k hk=>by have:=(hr k hk).1;omega,fun x hx=>by
   obtain⟨u,hu⟩:∃u,x.2[0]?=some u:=by simp only[List.mem_cons,List.not_mem_nil,or_false] at hx;rcases hx with rfl|rfl <;> exact⟨_,rfl⟩
   obtain⟨o3,ho3,hc3⟩:=cells_of_cell ((hm.row x hx).row 0 u hu)
   exact(hm.row x hx).of_block (grownBy_keeps_cells hg (fun r e=>(hr r e).2) ho3 hc3) hg.size⟩,kO_ hk (by omega) hg hr,h3⟩
 case Ib=>
  rintro pre W W' ⟨hm,hk,h3⟩ hg
  have hs:=HSZ.out
  exact⟨hm.own_cell (by intro x hx;simp only[List.mem_cons,List.not_mem_nil,or_false] at hx;rcases hx with rfl|rfl|rfl|rfl <;> simp only <;> omega) (by omega) (by omega) hg,sK_ hk (by omega) hg,h3⟩
 case seq=>
  intro l J Jx W hW _ hJb hJT hY h0
  have hs:=HSZ.out
  have hou:=OU.out.kp (W':=W) ⟨hW.size,hW.block _ (by omega),hW.block _ (by omega),hW.block _ (by omega)⟩
  refine(aDM (n:=9-1) HOF.out HID.out W hou hJb hJT hY h0).mono ?_
  rintro e W' ⟨h1,h2⟩
  exact⟨h1,h2⟩
 case assign=>
  intro l x W K hK
  have HK:=Lib.hid hK
  clear hK
  gi_wp2
  exact HK.out
 case body=>
  rintro l pre x W hx ⟨hm,hk,hl,hkn⟩ hge
  have hs:=HSZ.out
  have HWS:=Lib.hid (show X+4≤W.heap.size by omega)
  have hlk:=hm.look1 hx
  have z0:=hm.az.ce 1 0 rfl rfl
  have z1:=hm.az.ce 0 0 rfl rfl
  have f1:=hm.az.cf 0 0 rfl rfl
  have q0:=hm.az.ce 3 0 rfl rfl
  have q1:=hm.az.ce 3 1 rfl rfl
  have q2:=hm.az.ce 2 0 rfl rfl
  have g0:=hm.az.cf 3 0 rfl rfl
  have g1:=hm.az.cf 3 1 rfl rfl
  have g2:=hm.az.cf 2 0 rfl rfl
  have hW:X+1<W.heap.size:=(hm.az.row (X+1,[.int .i64 (pre.length:Int)]) (by simp)).sz
  have hW0:w.heap.size<W.heap.size:=(hm.az.row (w.heap.size,[.map none,.map none]) (by simp)).sz
  have hW1:w.heap.size+1<W.heap.size:=(hm.az.row (w.heap.size+1,[.bool false]) (by simp)).sz
  have HM:=Lib.hid hm
  have HK:=Lib.hid hk
  obtain⟨np,hnp⟩:∃np,np=pre.length:=⟨_,rfl⟩
  have HNP:=Lib.hid (And.intro hnp hkn)
  obtain⟨kn,hkn'⟩:∃kn,kn=(fndE es x).isSome:=⟨_,rfl⟩
  have HKN:=Lib.hid hkn'
  rw[←hkn'] at hlk
  rw[←hnp] at hl z1
  have hgv:geV (atE es x)=.agg #[.int .i64 (atE es x).g.id,.int .i64 (atE es x).g.of,.slice (atE es x).a (atE es x).g.mem.length (atE es x).cap]:=rfl
  rw[hgv] at hlk
  clear hm hk hkn hnp hkn' hs hx hgv
  have hbad:∀W':World,W'=(((W.setCell ⟨w.heap.size,0,none⟩ (.map none)).setCell ⟨w.heap.size,1,none⟩ (.map none)).setCell ⟨w.heap.size+1,0,none⟩ (.bool false)).alloc (.cells #[.int .i64 (atE es x).g.id,.int .i64 (atE es x).g.of,.slice (atE es x).a (atE es x).g.mem.length (atE es x).cap] 43)→AzAt [(w.heap.size+1,[.bool false]),(w.heap.size,[.map none,.map none])] w W'∧KeepsOthers W W':=by
   rintro W' rfl
   have h1:=HM.out.az.sub (L':=[(w.heap.size,[.map none,.map none]),(w.heap.size+1,[.bool false])]) (by simp)
   have hD:∀x∈[(w.heap.size+1,[Value.bool false])],w.heap.size≠x.1:=by intro x hx;simp only[List.mem_cons,List.not_mem_nil,or_false] at hx;subst hx;simp only;omega
   have h2:=((h1.set (Nat.le_refl _) hD (i:=0) rfl (.map none)).set (Nat.le_refl _) hD (i:=1) rfl (.map none)).sub (L':=[(w.heap.size+1,[.bool false]),(w.heap.size,[.map none,.map none])]) (by simp)
   exact⟨(h2.set (by omega) (by intro x hx;simp only[List.mem_cons,List.not_mem_nil,or_false] at hx;subst hx;simp only;omega) (i:=0) rfl (.bool false)).al _,(((KeepsOthers.setCell _ _ _).trans (KeepsOthers.setCell _ _ _)).trans (KeepsOthers.setCell _ _ _)).trans (KeepsOthers.alloc _ _)⟩
  have HBD:=Lib.hid hbad
  clear hbad
  cases kn with
  | false=>
   gi_wp2
   obtain⟨h1,h2⟩:=HBD.out _ rfl
   exact⟨h2.from _,h1,HK.out.trans h2,pre,x,rfl,by rw[←HNP.out.1];exact hl,HNP.out.2,.inl (by have h:=HKN.out;cases hf:fndE es x with|none=>rfl|some e=>rw[hf] at h;cases h)⟩
  | true=>
   by_cases h12:np=12
   ·have t4:((np:Int)==12)=true:=by rw[h12];rfl
    have H12:=Lib.hid h12
    clear h12
    gi_wp2
    obtain⟨h1,h2⟩:=HBD.out _ rfl
    exact⟨h2.from _,h1,HK.out.trans h2,pre,x,rfl,by rw[←HNP.out.1];exact hl,HNP.out.2,.inr (by rw[←HNP.out.1];exact H12.out)⟩
   ·have t4:((np:Int)==12)=false:=by simp;omega
    have t3:IntKind.i64.wrap ((np:Int)+1)=(np:Int)+1:=IntWalk.i64_in _ (by omega)
    gi_wp2
    have hs:=HSZ.out
    have hm2:=HM.out.set (by omega) (by intro x hx;simp only[List.mem_cons,List.not_mem_nil,or_false] at hx;rcases hx with rfl|rfl|rfl <;> simp only <;> omega) (i:=0) rfl (.int .i64 ((np:Int)+1))
    have hb3:=(Below.refl (W.setCell ⟨X+1,0,none⟩ (.int .i64 ((np:Int)+1))).heap.size _).alloc (Nat.le_refl _) (.cells #[.int .i64 (atE es x).g.id,.int .i64 (atE es x).g.of,.slice (atE es x).a (atE es x).g.mem.length (atE es x).cap] 43)
    have hm3:=hm2.below hb3
    have hko:KeepsOthers W ((W.setCell ⟨X+1,0,none⟩ (.int .i64 ((np:Int)+1))).alloc (.cells #[.int .i64 (atE es x).g.id,.int .i64 (atE es x).g.of,.slice (atE es x).a (atE es x).g.mem.length (atE es x).cap] 43)):=(KeepsOthers.setCell _ _ _).trans (KeepsOthers.alloc _ _)
    have hkb:∀q,q<W.heap.size→q≠X+1→((W.setCell ⟨X+1,0,none⟩ (.int .i64 ((np:Int)+1))).alloc (.cells #[.int .i64 (atE es x).g.id,.int .i64 (atE es x).g.of,.slice (atE es x).a (atE es x).g.mem.length (atE es x).cap] 43)).heap[q]?=W.heap[q]?:=fun q hq hne=>(hb3.block q (by simpa[World.setCell] using hq)).trans (Below.heap_setCell _ _ _ _ hne)
    have hws:X+4≤W.heap.size:=HWS.out
    refine⟨hko.from _,⟨hko.size,hkb _ (by omega) (by omega),hkb _ (by omega) (by omega),hkb _ (by omega) (by omega)⟩,?_,HK.out.trans hko,?_,?_⟩
    ·rw[show(((pre++[x]).length:Nat):Int)=(np:Int)+1 by rw[HNP.out.1];simp]
     exact hm3
    ·rw[List.length_append,←HNP.out.1];simp only[List.length_cons,List.length_nil];omega
    ·intro y hy
     rcases List.mem_append.1 hy with hy|hy
     ·exact HNP.out.2 y hy
     ·obtain rfl:=List.mem_singleton.1 hy
      exact HKN.out.symm
 case done=>
  rintro D xs W hD ⟨j,rfl,he,hne⟩ ⟨hm,hk,hl,hkn⟩ hd
  have hs:=HSZ.out
  rw[pP_] at hl
  have ho:=aDN hl (fun q hq=>⟨hne q hq,hkn _ (List.mem_of_getElem? (aCK hq))⟩) he
  have HM:=Lib.hid (And.intro (hm.sub (L':=[(w.heap.size+1+1+1+1,[.map (some (w.heap.size+1+1)),.map (some (w.heap.size+1+1+1))]),(w.heap.size+1,[.bool false]),(w.heap.size,[.map none,.map none])]) (by intro x hx;exact List.mem_cons_of_mem _ hx)) (And.intro hk (And.intro hd (And.intro hD ho))))
  clear hm hk hd ho hkn hne he
  gi_wp2
  refine HEND.out _ D W ?_ ?_ ?_ HM.out.1 HM.out.2.2.2.2 HM.out.2.2.1 (by have:=HM.out.2.2.2.1;omega) HM.out.2.1
  ·rfl
  ·rw[HV.out.1,HV.out.2.1,HV.out.2.2.1,HV.out.2.2.2.1,HV.out.2.2.2.2.1,HV.out.2.2.2.2.2]
   exact⟨rfl,rfl,rfl,rfl,rfl,rfl⟩
  ·rfl
 case ret=>
  rintro D xs W hD ⟨j,rfl,hne⟩ ⟨hm,hk,pre',x,e,hl,hkn,hx⟩ hd
  have hs:=HSZ.out
  rw[rF_] at e
  obtain⟨e1,e2⟩:=List.append_inj' e rfl
  obtain rfl:itE es ei j=x:=by simpa using e2
  subst e1
  rw[pP_] at hl hx
  have ho:=out_no hl (fun q hq=>⟨hne q (by omega),hkn _ (List.mem_of_getElem? (aCK hq))⟩) (hne j (by omega)) hx
  have HM:=Lib.hid (And.intro hm (And.intro hk (And.intro hd (And.intro hD ho))))
  clear hm hk hd ho hkn hne hx
  gi_wp2
  refine HBAD.out _ D W ?_ ?_ ?_ HM.out.1 HM.out.2.2.2.2 HM.out.2.2.1 (by have:=HM.out.2.2.2.1;omega) HM.out.2.1
  ·rfl
  ·rw[HV.out.2.1];rfl
  ·rw[HV.out.2.2.1];rfl
theorem xX_ (xs:List Value) (h:xs.length=127):(List.range 127).map (fun i=>xs.getD i undef)=xs:=by
 apply List.ext_getElem
 ·simp[h]
 ·intro i h1 h2
  simp[List.getD,List.getElem?_eq_getElem h2]
theorem gE_ (xs:List Value) (h:xs.length=127):∃v:Nat→Value,xs=[v 0,v 1,v 2,v 3,v 4,v 5,v 6,v 7,v 8,v 9,v 10,v 11,v 12,v 13,v 14,v 15,v 16,v 17,v 18,v 19,v 20,v 21,v 22,v 23,v 24,v 25,v 26,v 27,v 28,v 29,v 30,v 31,v 32,v 33,v 34,v 35,v 36,v 37,v 38,v 39,v 40,v 41,v 42,v 43,v 44,v 45,v 46,v 47,v 48,v 49,v 50,v 51,v 52,v 53,v 54,v 55,v 56,v 57,v 58,v 59,v 60,v 61,v 62,v 63,v 64,v 65,v 66,v 67,v 68,v 69,v 70,v 71,v 72,v 73,v 74,v 75,v 76,v 77,v 78,v 79,v 80,v 81,v 82,v 83,v 84,v 85,v 86,v 87,v 88,v 89,v 90,v 91,v 92,v 93,v 94,v 95,v 96,v 97,v 98,v 99,v 100,v 101,v 102,v 103,v 104,v 105,v 106,v 107,v 108,v 109,v 110,v 111,v 112,v 113,v 114,v 115,v 116,v 117,v 118,v 119,v 120,v 121,v 122,v 123,v 124,v 125,v 126]∧∀i,i<127→xs[i]?=Option.some (v i):=
 ⟨fun i=>xs.getD i undef,(xX_ xs h).symm.trans rfl,fun i hi=>by simp[List.getD,List.getElem?_eq_getElem (show i<xs.length by omega)]⟩
def zF_ (Ds:List Nat) (W:World):World:=Ds.foldl (fun W D=>W.putObj D (.deferred none)) W
theorem kM_ {F:Fence} {n:Nat} {P:Program} {fn:Func} {tmps:Array Value} {R:Ending→World→Prop} : ∀(Ds:List Nat) (W:World),Ds.Nodup→(∀D∈Ds,W.heap[D]?=some (.deferred (some [])))→LeavesIn F n P fn tmps R [] .returning (zF_ Ds W)→LeavesInM F n P fn tmps R (Ds.map (fun D=>({ target:=.collected D,args:=#[] } : Deferred))) .returning W:=by
 intro Ds
 induction Ds with
 | nil=>exact fun W _ _ h=>h
 | cons D Ds ih=>
  intro W hN hD h
  refine⟨by simp,.inl ⟨D,W.putObj D (.deferred none),rfl,run_takeDeferred (hD D (by simp)),?_⟩⟩
  refine ih _ (List.nodup_cons.1 hN).2 (fun D' hD'=>?_) h
  have hne:D'≠D:=fun e=>(List.nodup_cons.1 hN).1 (e▸hD')
  exact(World.putObj_heap_other (fun e=>hne e)).trans (hD D' (by simp[hD']))
theorem xQ_ {R:List (Nat×List Value)} {w:World} (hne:∀x∈R,x.2≠[]):∀(Ds:List Nat) (W:World),Ds.Nodup→(∀D∈Ds,w.heap.size≤D∧W.heap[D]?=some (.deferred (some [])))→AzAt R w W→AzAt R w (zF_ Ds W):=by
 intro Ds
 induction Ds with
 | nil=>exact fun W _ _ h=>h
 | cons D Ds ih=>
  intro W hN hD h
  have hDD:=hD D (by simp)
  have hg:=grownBy_putObj' W D (.deferred none)
  refine ih _ (List.nodup_cons.1 hN).2 (fun D' hD'=>?_) ⟨h.bw.grown hg h.bw.size (fun r hr=>by cases hr;exact hDD.1),fun x hx=>?_⟩
  ·have hne:D'≠D:=fun e=>(List.nodup_cons.1 hN).1 (e▸hD')
   exact⟨(hD D' (by simp[hD'])).1,(World.putObj_heap_other (fun e=>hne e)).trans (hD D' (by simp[hD'])).2⟩
  ·obtain⟨u,hu⟩:∃u,x.2[0]?=some u:=by
    cases e:x.2 with
    | nil=>exact absurd e (hne x hx)
    | cons u l=>exact⟨u,rfl⟩
   obtain⟨o,ho,hc⟩:=cells_of_cell ((h.row x hx).row 0 u hu)
   exact(h.row x hx).of_block (grownBy_keeps_cells hg (fun r hr=>by cases hr;exact⟨_,hDD.2,rfl⟩) ho hc) hg.size
theorem uV_ {wr:World} {n:Nat} (v:Nat→Value) (ds:List Deferred) (h96:v 96=.int .i64 (n:Int)) (h97:v 97=.int .i64 (n:Int)) (Q0:Exit→Act→World→Prop)
  (hexit:∀(ys:List Value),ys.length=127→(ys[0]?=Option.some (v 0)∧ys[2]?=Option.some (v 2)∧ys[3]?=Option.some (v 3)∧ys[4]?=Option.some (v 4)∧ys[95]?=Option.some (v 95)∧ys[96]?=Option.some (v 96))→Q0 (.exit 4) ⟨ys.toArray,ds⟩ wr) :
  uW_.wpIn Fence.wide 9 Tryz.prog Q0 ⟨[v 0,v 1,v 2,v 3,v 4,v 5,v 6,v 7,v 8,v 9,v 10,v 11,v 12,v 13,v 14,v 15,v 16,v 17,v 18,v 19,v 20,v 21,v 22,v 23,v 24,v 25,v 26,v 27,v 28,v 29,v 30,v 31,v 32,v 33,v 34,v 35,v 36,v 37,v 38,v 39,v 40,v 41,v 42,v 43,v 44,v 45,v 46,v 47,v 48,v 49,v 50,v 51,v 52,v 53,v 54,v 55,v 56,v 57,v 58,v 59,v 60,v 61,v 62,v 63,v 64,v 65,v 66,v 67,v 68,v 69,v 70,v 71,v 72,v 73,v 74,v 75,v 76,v 77,v 78,v 79,v 80,v 81,v 82,v 83,v 84,v 85,v 86,v 87,v 88,v 89,v 90,v 91,v 92,v 93,v 94,v 95,v 96,v 97,v 98,v 99,v 100,v 101,v 102,v 103,v 104,v 105,v 106,v 107,v 108,v 109,v 110,v 111,v 112,v 113,v 114,v 115,v 116,v 117,v 118,v 119,v 120,v 121,v 122,v 123,v 124,v 125,v 126].toArray,ds⟩ wr:=by
 have HX:=Lib.hid hexit
 clear hexit
 have i3:decide ((n:Int)<(n:Int))=false:=decide_eq_false (by omega)
 have H96:=Lib.hid h96
 rw[h96,h97]
 clear h96 h97
 unfold uW_
 conv=>arg 4;whnf
 dsimp only
 gi_wp2
 refine HX.out _ ?_ ?_
 ·rfl
 ·exact⟨rfl,rfl,rfl,rfl,rfl,congrArg Option.some H96.out.symm⟩
theorem uU_ {w w0:World} {a:Option Addr} {n cap k1 n2:Nat} {D1 D2:DataW Value} {es:List Ge} {cs:List Int} (xs:List Value) (hn:es.length=n) (hn6:n≤1000) (HOF:Hid (∀e∈es,aC_ e.g.of)) (hid:∀e∈es,aC_ e.g.id) (HP:Hid (GsAt a es w))
  (hl:xs.length=127) (hx:xs[0]?=Option.some (.slice a n cap)∧xs[2]?=Option.some (.pointer (some ⟨w.heap.size,0,none⟩))∧xs[3]?=Option.some (.pointer (some ⟨w.heap.size+1,0,none⟩))∧xs[4]?=Option.some (.pointer (some ⟨w.heap.size+1+1+1+1,0,none⟩))∧xs[95]?=Option.some (.slice a n cap)∧xs[96]?=Option.some (.int .i64 (n:Int))) (h97:xs[97]?=Option.some (.int .i64 ((0:Nat):Int))) (H:MmAt (w.heap.size+1+1) (w.heap.size+1+1+1) k1 n2 D1 D2 es cs [(w.heap.size+1+1+1+1,[.map (some (w.heap.size+1+1)),.map (some (w.heap.size+1+1+1))]),(w.heap.size+1,[.bool false]),(w.heap.size,[.map none,.map none])] w w0) (Q0:Exit→Act→World→Prop)
  (hexit:∀(ys:List Value) (Ds:List Nat) (W:World),ys.length=127→(ys[0]?=Option.some (.slice a n cap)∧ys[2]?=Option.some (.pointer (some ⟨w.heap.size,0,none⟩))∧ys[3]?=Option.some (.pointer (some ⟨w.heap.size+1,0,none⟩))∧ys[4]?=Option.some (.pointer (some ⟨w.heap.size+1+1+1+1,0,none⟩))∧ys[95]?=Option.some (.slice a n cap)∧ys[96]?=Option.some (.int .i64 (n:Int)))→MmAt (w.heap.size+1+1) (w.heap.size+1+1+1) k1 n2 D1 D2 es cs [(w.heap.size+1+1+1+1,[.map (some (w.heap.size+1+1)),.map (some (w.heap.size+1+1+1))]),(w.heap.size+1,[.bool false]),(w.heap.size,[.map none,.map none])] w W→(gsE es).all (fun g=>outG (gsE es) 12 g.id)=true→(∀D∈Ds,w0.heap.size≤D∧W.heap[D]?=Option.some (.deferred (Option.some [])))→Ds.Nodup→Q0 (.exit 4) ⟨ys.toArray,Ds.map (fun D=>({ target:=.collected D,args:=#[] } : Deferred))⟩ W)
  (hret:∀(ys:List Value) (Ds:List Nat) (W:World),ys.length=127→ys[2]?=Option.some (.pointer (some ⟨w.heap.size,0,none⟩))→ys[3]?=Option.some (.pointer (some ⟨w.heap.size+1,0,none⟩))→AzAt [(w.heap.size+1,[.bool false]),(w.heap.size,[.map none,.map none])] w W→(gsE es).all (fun g=>outG (gsE es) 12 g.id)=false→(∀D∈Ds,w0.heap.size≤D∧W.heap[D]?=Option.some (.deferred (Option.some [])))→Ds.Nodup→Q0 .ret ⟨ys.toArray,Ds.map (fun D=>({ target:=.collected D,args:=#[] } : Deferred))⟩ W) :
  (Code.loop uW_).wpIn Fence.wide 9 Tryz.prog Q0 ⟨xs.toArray,[]⟩ w0:=by
 refine wpIn_loop (fun a' W=>∃(ys:List Value) (i:Nat) (Ds:List Nat),a'=⟨ys.toArray,Ds.map (fun D=>({ target:=.collected D,args:=#[] } : Deferred))⟩∧ys.length=127∧(ys[0]?=Option.some (.slice a n cap)∧ys[2]?=Option.some (.pointer (some ⟨w.heap.size,0,none⟩))∧ys[3]?=Option.some (.pointer (some ⟨w.heap.size+1,0,none⟩))∧ys[4]?=Option.some (.pointer (some ⟨w.heap.size+1+1+1+1,0,none⟩))∧ys[95]?=Option.some (.slice a n cap)∧ys[96]?=Option.some (.int .i64 (n:Int)))∧ys[97]?=Option.some (.int .i64 (i:Int))∧i≤n∧MmAt (w.heap.size+1+1) (w.heap.size+1+1+1) k1 n2 D1 D2 es cs [(w.heap.size+1+1+1+1,[.map (some (w.heap.size+1+1)),.map (some (w.heap.size+1+1+1))]),(w.heap.size+1,[.bool false]),(w.heap.size,[.map none,.map none])] w W∧(∀e∈es.take i,outG (gsE es) 12 e.g.id=true)∧(∀D∈Ds,w0.heap.size≤D∧W.heap[D]?=Option.some (.deferred (Option.some [])))∧Ds.Nodup∧w0.heap.size≤W.heap.size)
  (fun a' _=>n-(intOf (a'.tmps.getD 97 undef)).toNat) ⟨xs,0,[],rfl,hl,hx,h97,by omega,H,(fun e he=>by simp at he),(fun D hD=>by cases hD),List.nodup_nil,Nat.le_refl _⟩ ?_
 rintro a' W ⟨ys,i,Ds,rfl,hyl,hyx,hy97,hi,hm,hout,hds,hnd,hsz⟩
 obtain⟨v,hv',hvv⟩:=gE_ ys hyl
 have s0:=Option.some.inj ((hvv 0 (by omega)).symm.trans hyx.1)
 have s2:=Option.some.inj ((hvv 2 (by omega)).symm.trans hyx.2.1)
 have s3:=Option.some.inj ((hvv 3 (by omega)).symm.trans hyx.2.2.1)
 have s4:=Option.some.inj ((hvv 4 (by omega)).symm.trans hyx.2.2.2.1)
 have s95:=Option.some.inj ((hvv 95 (by omega)).symm.trans hyx.2.2.2.2.1)
 have s96:=Option.some.inj ((hvv 96 (by omega)).symm.trans hyx.2.2.2.2.2)
 have s97:=Option.some.inj ((hvv 97 (by omega)).symm.trans hy97)
 have back:∀zs:List Value,(zs[0]?=Option.some (v 0)∧zs[2]?=Option.some (v 2)∧zs[3]?=Option.some (v 3)∧zs[4]?=Option.some (v 4)∧zs[95]?=Option.some (v 95)∧zs[96]?=Option.some (v 96))→(zs[0]?=Option.some (.slice a n cap)∧zs[2]?=Option.some (.pointer (some ⟨w.heap.size,0,none⟩))∧zs[3]?=Option.some (.pointer (some ⟨w.heap.size+1,0,none⟩))∧zs[4]?=Option.some (.pointer (some ⟨w.heap.size+1+1+1+1,0,none⟩))∧zs[95]?=Option.some (.slice a n cap)∧zs[96]?=Option.some (.int .i64 (n:Int))):=by
  rintro zs ⟨z0,z2,z3,z4,z95,z96⟩
  rw[z0,z2,z3,z4,z95,z96,s0,s2,s3,s4,s95,s96]
  exact⟨rfl,rfl,rfl,rfl,rfl,rfl⟩
 have hmk:∀(D:Nat) (W':World),W'.heap[D]?=Option.some (.deferred (Option.some []))→W.heap.size≤D→KeepsOthers W W'→(∀D'∈D::Ds,w0.heap.size≤D'∧W'.heap[D']?=Option.some (.deferred (Option.some [])))∧(D::Ds).Nodup:=by
  intro D W' h1 h2 h3
  refine⟨fun D' hD'=>?_,List.nodup_cons.2 ⟨fun hm=>?_,hnd⟩⟩
  ·rcases List.mem_cons.1 hD' with rfl|hD'
   ·exact⟨by omega,h1⟩
   ·exact⟨(hds D' hD').1,h3.same D' _ (hds D' hD').2 rfl⟩
  ·have:=(Array.getElem?_eq_some_iff.1 (hds D hm).2).1
   omega
 rw[hv']
 by_cases hlt:i<n
 ·obtain⟨e,he⟩:∃e,es[i]?=some e:=⟨_,List.getElem?_eq_getElem (by omega)⟩
  refine rV_ (g:=e) v (Ds.map (fun D=>({ target:=.collected D,args:=#[] } : Deferred))) hn6 HOF (hid e (List.mem_of_getElem? he)) HP he s0 s2 s3 s4 s95 s96 s97 hlt (Lib.hid hm) _ (fun zs D W' hz hzx hz97 h1 h2 h3 h4 h5=>And.intro ⟨zs,i+1,D::Ds,rfl,hz,back zs hzx,by rw[hz97];rfl,by omega,h1,?_,(hmk D W' h3 h4 h5).1,(hmk D W' h3 h4 h5).2,by have:=h5.size;omega⟩ ?_) (fun zs D W' hz hz2 hz3 h1 h2 h3 h4 h5=>hret zs (D::Ds) W' hz (by rw[hz2,s2]) (by rw[hz3,s3]) h1 ?_ (hmk D W' h3 h4 h5).1 (hmk D W' h3 h4 h5).2)
  ·intro e' he'
   rw[List.take_add_one,he] at he'
   rcases List.mem_append.1 he' with he'|he'
   ·exact hout e' he'
   ·obtain rfl:e'=e:=by simpa using he'
    exact h2
  ·simp[Array.getD_eq_getD_getElem?,hz97,←hv',hy97,intOf]
   omega
  ·rw[List.all_eq_false]
   exact⟨e.g,List.mem_map.2 ⟨e,List.mem_of_getElem? he,rfl⟩,by rw[h2];simp⟩
 ·obtain rfl:i=n:=by omega
  refine uV_ v (Ds.map (fun D=>({ target:=.collected D,args:=#[] } : Deferred))) s96 s97 _ fun zs hz hzx=>hexit zs Ds W hz (back zs hzx) hm ?_ hds hnd
  rw[List.all_eq_true]
  intro g hg
  obtain⟨e,he,rfl⟩:=List.mem_map.1 hg
  exact hout e (by rw[List.take_of_length_le (by omega)];exact he)
structure GeIn (es:List Ge):Prop where
 len:es.length≤1000
 mem:∀e∈es,aC_ e.g.id∧aC_ e.g.of∧e.g.mem.length≤1000∧∀c∈e.g.mem,aC_ c
def csE (es:List Ge):List Int:=es.flatMap (·.g.mem)
theorem sP_ {gs:List Gr} {k:Nat} {g:Gr} (hg:gs[k]?=some g):dQ_ (gs.take k) (gs.drop k)=(decide (0≤g.id)&&decide (g.id≤999)&&(match (gs.take k).getLast? with|none=>true|some p=>decide (p.id<g.id))&&hC_ ((gs.take k).flatMap (·.mem)) [] g.mem&&dQ_ (gs.take (k+1)) (gs.drop (k+1))):=by
 have hd:gs.drop k=g::gs.drop (k+1):=by
  obtain⟨hk,he⟩:=List.getElem?_eq_some_iff.1 hg
  rw[List.drop_eq_getElem_cons hk,he]
 rw[hd,List.take_add_one,hg]
 rfl
theorem vY_ {pv m:List Int} {k:Nat} {c:Int} (hc:m[k]?=some c):hC_ pv (m.take k) (m.drop k)=(decide (1≤c)&&decide (c≤39999)&&(match (m.take k).getLast? with|none=>true|some p=>decide (p<c))&&decide (c ∉ pv)&&hC_ pv (m.take (k+1)) (m.drop (k+1))):=by
 have hd:m.drop k=c::m.drop (k+1):=by
  obtain⟨hk,he⟩:=List.getElem?_eq_some_iff.1 hc
  rw[List.drop_eq_getElem_cons hk,he]
 rw[hd,List.take_add_one,hc]
 rfl
theorem iP_ {α:Type} {l:List α} {k:Nat} (hk:k<l.length):(l.take (k+1)).getLast?=l[k]?:=by
 rw[List.take_add_one,List.getElem?_eq_getElem hk,Option.toList_some,List.getLast?_append]
 rfl
theorem zZ_ {pv m:List Int} {j:Nat} {c:Int} (hc:m[j]?=some c) (hl:∀q,(m.take j).getLast?=some q→∀p∈m.take j,p≤q) :
  hC_ pv (m.take j) (m.drop j)=(!(decide (c∈pv++m.take j) || !(decide (1≤c)&&decide (c≤39999)) || !(match (m.take j).getLast? with|none=>true|some p=>decide (p<c)))&&hC_ pv (m.take (j+1)) (m.drop (j+1))):=by
 rw[vY_ hc]
 cases e:(m.take j).getLast? with
 | none=>
  rw[List.getLast?_eq_none_iff] at e
  rw[e]
  simp only[List.append_nil,Bool.not_true,Bool.or_false,Bool.and_true]
  by_cases h1:c∈pv <;> by_cases h2:1≤c <;> by_cases h3:c≤39999 <;> simp[h1,h2,h3]
 | some q=>
  have hq:=hl q e
  by_cases h4:q<c
  ·have h5:c ∉ m.take j:=fun h=>by have:=hq c h;omega
   by_cases h1:c∈pv <;> by_cases h2:1≤c <;> by_cases h3:c≤39999 <;> simp[h1,h2,h3,h4,h5]
  ·simp[h4]
def AscE (es:List Ge):Prop:=∀q,es.getLast?=some q→∀p∈es,p.g.id≤q.g.id
theorem xU_ {es:List Ge} (h:AscE es) {e:Ge} (hl:∀q,es.getLast?=some q→q.g.id<e.g.id):fndE es e.g.id=none:=by
 unfold fndE
 rw[List.find?_eq_none]
 intro p hp
 cases hq:es.getLast? with
 | none=>rw[List.getLast?_eq_none_iff] at hq;rw[hq] at hp;cases hp
 | some q=>
  have:=h q hq p hp
  have:=hl q hq
  simp
  omega
theorem aBP {es:List Ge} (h:AscE es) {e:Ge} (hl:∀q,es.getLast?=some q→q.g.id<e.g.id):AscE (es++[e]):=by
 intro q hq p hp
 rw[List.getLast?_append] at hq
 simp at hq
 subst hq
 rcases List.mem_append.1 hp with hp|hp
 ·cases hq:es.getLast? with
  | none=>rw[List.getLast?_eq_none_iff] at hq;rw[hq] at hp;cases hp
  | some q=>
   have:=h q hq p hp
   have:=hl q hq
   omega
 ·simp at hp
  subst hp
  exact Int.le_refl _
theorem aDI {a:Option Addr} {n cap:Nat} {es:List Ge} (hn:es.length=n) (hin:GeIn es) (w:World) (hS:GsAt a es w) :
  Calls Tryz.prog 64 #[.slice a n cap] w fun e W'=>(∃m1 m2,e=.returned (.tuple #[.agg #[.map m1,.map m2],.bool (bJ_ (gsE es))]))∧Below w.heap.size w W':=by
 have hdd:∀k:Nat,(Fence.wide.depth.isSome=true→1≤k):=fun k h=>by cases h
 have HN:=Lib.hid hn
 have HIN:=Lib.hid hin
 have HP:=Lib.hid hS
 have H0:=Lib.hid (show MmAt (w.heap.size+1+1) (w.heap.size+1+1+1) 0 0 (.map []) (.map []) [] [] [(w.heap.size+1+1+1+1,[.map (some (w.heap.size+1+1)),.map (some (w.heap.size+1+1+1))]),(w.heap.size+1,[.bool false]),(w.heap.size,[.map none,.map none])] w _ from by
  have h1:=((AzAt.start w).push [.map none,.map none] 121).push [.bool false] 4
  simp only[World.size_alloc] at h1
  have h2:=(h1.al (.map #[] 0)).al (.map #[] 0)
  have h3:=h2.push [.map (some (w.heap.size+1+1)),.map (some (w.heap.size+1+1+1))] 121
  simp only[World.size_alloc] at h3
  have m1:=World.ownsMap_made ((w.alloc (.cells #[.map none,.map none] 121)).alloc (.cells #[.bool false] 4)) Tryz.prog 3 rawE
  have m2:=World.ownsMap_made (((w.alloc (.cells #[.map none,.map none] 121)).alloc (.cells #[.bool false] 4)).alloc (.map #[] 0)) Tryz.prog 3 rawE
  have m3:=aP_ (aP_ m1 ((Below.refl _ _).alloc (Nat.le_refl _) (.map #[] 0))) ((Below.refl _ _).alloc (Nat.le_refl _) (.cells #[.map (some (w.heap.size+1+1)),.map (some (w.heap.size+1+1+1))] 121))
  have m4:=aP_ m2 ((Below.refl _ _).alloc (Nat.le_refl _) (.cells #[.map (some (w.heap.size+1+1)),.map (some (w.heap.size+1+1+1))] 121))
  simp only[World.size_alloc] at m3 m4
  exact⟨h3,m3,m4,by omega,by intro x hx;simp only[List.mem_cons,List.not_mem_nil,or_false] at hx;rcases hx with rfl|rfl|rfl <;> (constructor <;> simp only <;> omega),fun i _=>rfl,fun i _=>rfl,fun i _=>by simp[has_eq]⟩)
 rw[←callsIn_wide (n:=9)]
 clear hn hin hS
 have hmm:=@run_makeMap Tryz.prog
 refine callsIn_of_wp_marks Tryz.func64 rfl trivial ?_ rfl
 simp only[Tryz.ntmps64,List.size_toArray,List.length_cons,List.length_nil,Nat.reduceAdd,Nat.reduceSub,Array.replicate_succ,Array.replicate_zero,List.push_toArray,List.append_toArray,List.nil_append,List.cons_append]
 rw[wpIn_wide]
 go_wp2
 go_loopw [22] (fun v22 wr=>∃(k n2:Nat) (D1 D2:DataW Value),k≤n∧v22=.int .i64 (k:Int)∧MmAt (w.heap.size+1+1) (w.heap.size+1+1+1) k n2 D1 D2 (es.take k) (csE (es.take k)) [(w.heap.size+1+1+1+1,[.map (some (w.heap.size+1+1)),.map (some (w.heap.size+1+1+1))]),(w.heap.size+1,[.bool false]),(w.heap.size,[.map none,.map none])] w wr∧n2≤k*1000∧AscE (es.take k)∧dQ_ [] (gsE es)=dQ_ ((gsE es).take k) ((gsE es).drop k)) (fun v22 _=>n-(intOf v22).toNat)
 case atStart=>exact⟨0,0,_,_,Nat.zero_le _,rfl,H0.out,Nat.zero_le _,(show AscE [] from fun q hq=>by cases hq),rfl⟩
 case round=>
  obtain⟨k,n2,D1,D2,hk,rfl,hm,hn2,hasc,hh⟩:=hrel
  have HASC:=Lib.hid hasc
  clear hasc
  have H1:=Lib.hid hm
  have HW:=Lib.hid (HP.out.below hm.az.bw)
  have HH:=Lib.hid hh
  clear hm hh
  by_cases hkn:k<n
  case neg=>
   obtain rfl:k=n:=by omega
   have t9:decide ((k:Int)<(k:Int))=false:=decide_eq_false (by omega)
   have hH:dQ_ [] (gsE es)=true:=by
    rw[HH.out,List.drop_of_length_le (by unfold gsE;rw[List.length_map,HN.out];exact Nat.le_refl _)]
    exact rfl
   have HHB:=Lib.hid hH
   have hM:=H1.out
   rw[List.take_of_length_le (Nat.le_of_eq HN.out)] at hM
   have hn6:k≤1000:=by have:=HIN.out.len;have:=HN.out;omega
   have hof:∀e∈es,aC_ e.g.of:=fun e he=>(HIN.out.mem e he).2.1
   have hidE:∀e∈es,aC_ e.g.id:=fun e he=>(HIN.out.mem e he).1
   clear hH
   go_upto_block 4 with fail
   rw[←wpIn_wide (n:=9)]
   gi_wp2
   refine uU_ (cap:=cap) _ HN.out hn6 (Lib.hid hof) hidE HP ?_ ?_ ?_ hM _ ?_ ?_
   ·rfl
   ·exact⟨rfl,rfl,rfl,rfl,rfl,rfl⟩
   ·rfl
   ·intro ys Ds W hyl hyx hm hall hds hnd
    obtain⟨v,hv,hvv⟩:=gE_ ys hyl
    have s0:=Option.some.inj ((hvv 0 (by omega)).symm.trans hyx.1)
    have s2:=Option.some.inj ((hvv 2 (by omega)).symm.trans hyx.2.1)
    have s3:=Option.some.inj ((hvv 3 (by omega)).symm.trans hyx.2.2.1)
    have s4:=Option.some.inj ((hvv 4 (by omega)).symm.trans hyx.2.2.2.1)
    rw[hv,s0,s2,s3,s4]
    have z0:=hm.az.ce 0 0 rfl rfl
    have z1:=hm.az.ce 0 1 rfl rfl
    have q0:=hm.az.ce 2 0 rfl rfl
    have q1:=hm.az.ce 2 1 rfl rfl
    have q2:=hm.az.ce 1 0 rfl rfl
    have g0:=hm.az.cf 2 0 rfl rfl
    have g1:=hm.az.cf 2 1 rfl rfl
    have g2:=hm.az.cf 1 0 rfl rfl
    obtain⟨fit,hfit⟩:∃q,q=decide ((k:Int)≤24):=⟨_,rfl⟩
    have t24:=hfit.symm
    have hval:bJ_ (gsE es)=fit:=by
     unfold bJ_
     rw[HHB.out,hall,hfit]
     have e1:(gsE es).length=k:=by unfold gsE;rw[List.length_map,HN.out]
     rw[e1]
     by_cases h:k≤24
     ·rw[decide_eq_true h,decide_eq_true (by omega)];rfl
     ·rw[decide_eq_false h,decide_eq_false (by omega)];rfl
    have HVA:=Lib.hid hval
    have HM:=Lib.hid hm
    have HDS:=Lib.hid (And.intro hds (And.intro hnd H1.out.az.bw.size))
    clear hval hfit hall hm hM hds hnd hyx hv hvv hyl s0 s2 s3 s4 hn6 hof hidE
    dsimp only
    go_wp2
    have hD:∀x∈[(w.heap.size+1,[Value.bool false])],w.heap.size≠x.1:=by intro x hx;simp only[List.mem_cons,List.not_mem_nil,or_false] at hx;subst hx;simp only;omega
    have H5:=HM.out.az.sub (L':=[(w.heap.size,[.map none,.map none]),(w.heap.size+1,[.bool false])]) (by simp)
    have H6:=((H5.set (Nat.le_refl _) hD (i:=0) rfl (.map (some (w.heap.size+1+1)))).set (Nat.le_refl _) hD (i:=1) rfl (.map (some (w.heap.size+1+1+1)))).sub (L':=[(w.heap.size+1,[.bool false]),(w.heap.size,[.map (some (w.heap.size+1+1)),.map (some (w.heap.size+1+1+1))])]) (by simp)
    have H7:=H6.set (by omega) (by intro x hx;simp only[List.mem_cons,List.not_mem_nil,or_false] at hx;subst hx;simp only;omega) (i:=0) rfl (.bool fit)
    have hs1:w.heap.size+1<wr.heap.size:=(H1.out.az.row (w.heap.size+1,[.bool false]) (by simp)).sz
    obtain⟨Wf,hWf⟩:∃Wf,Wf=((W.setCell ⟨w.heap.size,0,none⟩ (.map (some (w.heap.size+1+1)))).setCell ⟨w.heap.size,1,none⟩ (.map (some (w.heap.size+1+1+1)))).setCell ⟨w.heap.size+1,0,none⟩ (.bool fit):=⟨_,rfl⟩
    have hdf:∀D∈Ds,w.heap.size≤D∧Wf.heap[D]?=some (.deferred (some [])):=fun D hD=>by
     have h1:=HDS.out.1 D hD
     refine⟨by omega,?_⟩
     rw[hWf,Below.heap_setCell _ _ _ _ (show D≠w.heap.size+1 by omega),Below.heap_setCell _ _ _ _ (show D≠w.heap.size by omega),Below.heap_setCell _ _ _ _ (show D≠w.heap.size by omega)]
     exact h1.2
    rw[←hWf] at H7⊢
    clear hWf
    refine kM_ Ds Wf HDS.out.2.1 (fun D hD=>(hdf D hD).2) ?_
    have hsh:=xQ_ (by simp) Ds Wf HDS.out.2.1 hdf H7
    generalize zF_ Ds Wf=V at hsh⊢
    have y0:=hsh.ce 1 0 rfl rfl
    have y1:=hsh.ce 1 1 rfl rfl
    have y2:=hsh.ce 0 0 rfl rfl
    refine⟨.tuple #[.agg #[.map (some (w.heap.size+1+1)),.map (some (w.heap.size+1+1+1))],.bool fit],?_,⟨_,_,by rw[HVA.out]⟩,hsh.bw⟩
    simp[results,Tryz.results64,go_sem,Result.andThen,y0,y1,y2]
   ·intro ys Ds W hyl hy2 hy3 haz hall hds hnd
    obtain⟨v,hv,hvv⟩:=gE_ ys hyl
    have s2:=Option.some.inj ((hvv 2 (by omega)).symm.trans hy2)
    have s3:=Option.some.inj ((hvv 3 (by omega)).symm.trans hy3)
    rw[hv,s2,s3]
    have hval:bJ_ (gsE es)=false:=by
     unfold bJ_
     rw[hall]
     simp
    have hs1:w.heap.size+1<wr.heap.size:=(H1.out.az.row (w.heap.size+1,[.bool false]) (by simp)).sz
    have hdf:∀D∈Ds,w.heap.size≤D∧W.heap[D]?=some (.deferred (some [])):=fun D hD=>⟨by have:=(hds D hD).1;omega,(hds D hD).2⟩
    simp only[Exit.inBlock,Exit.then]
    refine kM_ Ds W hnd (fun D hD=>(hdf D hD).2) ?_
    have hsh:=xQ_ (by simp) Ds W hnd hdf haz
    generalize zF_ Ds W=V at hsh⊢
    have y0:=hsh.ce 1 0 rfl rfl
    have y1:=hsh.ce 1 1 rfl rfl
    have y2:=hsh.ce 0 0 rfl rfl
    refine⟨.tuple #[.agg #[.map none,.map none],.bool false],?_,⟨_,_,by rw[hval]⟩,hsh.bw⟩
    simp[results,Tryz.results64,go_sem,Result.andThen,y0,y1,y2]
  case pos=>
   have t9:decide ((k:Int)<(n:Int))=true:=decide_eq_true (by omega)
   obtain⟨e,he⟩:∃e,es[k]?=some e:=⟨_,List.getElem?_eq_getElem (by rw[HN.out];exact hkn)⟩
   obtain⟨⟨ei,eo,em⟩,ea,ec⟩:=e
   obtain⟨b,o,rfl,hb7,c0,c1,c2,hcs⟩:=HW.out.ge he
   simp only at c0 c1 c2 hcs
   have HCS:=Lib.hid (show CsAt ea (icC em) w from by obtain⟨_,_,_,_,_,_,_,h⟩:=HP.out.ge he;exact h)
   have HE:=Lib.hid he
   have HI:=Lib.hid (show aC_ ei∧aC_ eo∧em.length≤1000∧∀c∈em,aC_ c from HIN.out.mem _ (List.mem_of_getElem? he))
   have H3:=Lib.hid (H1.out.push ([.int .i64 ei,.int .i64 eo,.slice ea em.length ec]) 43)
   clear he hcs
   have hid:=HI.out.1
   obtain⟨ok1,hok1⟩:∃q,q=(decide (0≤ei)&&decide (ei≤999)):=⟨_,rfl⟩
   have KG:=Lib.hid (show ∀W:World,Calls Tryz.prog 108 #[.int .i64 ei,.int .i64 0,.int .i64 999] W fun e W'=>e=.returned (.bool ok1)∧Below W.heap.size W W' from fun W=>by rw[hok1];exact(gIn_s _ _ _ W).mono fun e W' h=>⟨h.1,by rw[h.2];exact Below.refl _ _⟩)
   obtain⟨ok2,hok2⟩:∃q:Bool,q=(match ((gsE es).take k).getLast? with|none=>true|some p=>decide (p.id<ei)):=⟨_,rfl⟩
   have HOK:=Lib.hid (And.intro hok1 hok2)
   clear hok1 hok2
   go_wp2
   go_cut [45] from 46 to 94 (fun v45 wX=>v45=.bool (!(ok1&&ok2))∧MmAt (w.heap.size+1+1) (w.heap.size+1+1+1) k n2 D1 D2 (es.take k) (csE (es.take k)) [(wr.heap.size,[.int .i64 ei,.int .i64 eo,.slice ea em.length ec]),(w.heap.size+1+1+1+1,[.map (some (w.heap.size+1+1)),.map (some (w.heap.size+1+1+1))]),(w.heap.size+1,[.bool false]),(w.heap.size,[.map none,.map none])] w wX)
   case first=>
    have y0:=cell_regrown (H3.out.az.ce 0 0 rfl rfl)
    have c9:=fun d os=>Calls.regrown_of (d:=d) (os:=os) (KG.out (grow (redrawn (wr.alloc (.cells ([.int .i64 ei,.int .i64 eo,.slice ea em.length ec]).toArray 43)) d) os))
    cases ok1 with
    | false=>
     refine wp_region_quiet_below (by kernel_rfl) (by kernel_rfl) ?_
     repeat (go_big_quiet_step (with_reducible first|exact c9 _ _))
     refine wpQuiet_nil ?_
     intro W2 hw2
     have hb2:Below (wr.alloc (.cells ([.int .i64 ei,.int .i64 eo,.slice ea em.length ec]).toArray 43)).heap.size (wr.alloc (.cells ([.int .i64 ei,.int .i64 eo,.slice ea em.length ec]).toArray 43)) W2:=by obtain⟨⟨dq,osq⟩,hw7⟩:=hw2;rw[hw7];exact below_regrown _ dq osq
     have H4:=Lib.hid (H3.out.below hb2)
     clear hw2 hb2
     go_wp2
     go_meet
     exact⟨rfl,H4.out⟩
    | true=>
     rcases Nat.eq_zero_or_pos k with hk0|hk0
     ·have t8:decide (0<k)=false:=decide_eq_false (by omega)
      have HK0:=Lib.hid hk0
      clear hk0
      refine wp_region_quiet_below (by kernel_rfl) (by kernel_rfl) ?_
      repeat (go_big_quiet_step (with_reducible first|exact c9 _ _))
      refine wpQuiet_nil ?_
      intro W2 hw2
      have hb2:Below (wr.alloc (.cells ([.int .i64 ei,.int .i64 eo,.slice ea em.length ec]).toArray 43)).heap.size (wr.alloc (.cells ([.int .i64 ei,.int .i64 eo,.slice ea em.length ec]).toArray 43)) W2:=by obtain⟨⟨dq,osq⟩,hw7⟩:=hw2;rw[hw7];exact below_regrown _ dq osq
      have H4:=Lib.hid (H3.out.below hb2)
      clear hw2 hb2
      go_wp2
      go_meet
      exact⟨by rw[HOK.out.2,HK0.out];rfl,H4.out⟩
     ·have t8:decide (0<k)=true:=decide_eq_true hk0
      obtain⟨k',hkk⟩:∃k',k=k'+1:=⟨k-1,by omega⟩
      obtain⟨p,hp⟩:∃p,es[k']?=some p:=⟨_,List.getElem?_eq_getElem (by rw[HN.out];omega)⟩
      obtain⟨b',o',e1,hb8,p0,-,-,-⟩:=HW.out.ge hp
      injection e1 with e1
      injection e1 with e1 e2
      subst e1 e2
      have hn1:n≤1000:=by have:=HIN.out.len;have:=HN.out;omega
      have g1:IntKind.i64.wrap ((k:Int)-1)=(k':Int):=(IntWalk.i64_in _ (by omega)).trans (by omega)
      have g2:(k':Int)<(n:Int):=by omega
      have p1:=cell_regrown ((World.cell?_of_block (Below.heap_alloc wr (.cells ([.int .i64 ei,.int .i64 eo,.slice ea em.length ec]).toArray 43) b hb7)).trans p0)
      have HPP:=Lib.hid hp
      have HKK:=Lib.hid hkk
      clear hp hkk hk0
      refine wp_region_quiet_below (by kernel_rfl) (by kernel_rfl) ?_
      repeat (go_big_quiet_step (with_reducible first|exact c9 _ _))
      refine wpQuiet_nil ?_
      intro W2 hw2
      have hb2:Below (wr.alloc (.cells ([.int .i64 ei,.int .i64 eo,.slice ea em.length ec]).toArray 43)).heap.size (wr.alloc (.cells ([.int .i64 ei,.int .i64 eo,.slice ea em.length ec]).toArray 43)) W2:=by obtain⟨⟨dq,osq⟩,hw7⟩:=hw2;rw[hw7];exact below_regrown _ dq osq
      have H4:=Lib.hid (H3.out.below hb2)
      clear hw2 hb2
      go_wp2
      go_meet
      refine⟨?_,H4.out⟩
      have e1:((gsE es).take k).getLast?=some p.g:=by
       rw[HKK.out,iP_ (by unfold gsE;rw[List.length_map,HN.out];omega)]
       unfold gsE
       rw[List.getElem?_map,HPP.out]
       rfl
      rw[HOK.out.2,e1]
      simp only[Bool.true_and]
      by_cases h:p.g.id<ei
      ·simp[h]
      ·simp[h]
       omega
   case rest=>
   obtain⟨rfl,hmx⟩:=hcut
   have H4:=Lib.hid hmx
   clear hmx
   have hstep:dQ_ [] (gsE es)=(ok1&&ok2&&hC_ (csE (es.take k)) [] em&&dQ_ ((gsE es).take (k+1)) ((gsE es).drop (k+1))):=by
    have hg:(gsE es)[k]?=some ⟨ei,eo,em⟩:=by unfold gsE;rw[List.getElem?_map,HE.out];rfl
    rw[HH.out,sP_ hg,HOK.out.1,HOK.out.2]
    have e2:((gsE es).take k).flatMap (·.mem)=csE (es.take k):=by
     unfold gsE csE
     rw[←List.map_take,List.flatMap_map]
    rw[e2]
   have HST:=Lib.hid hstep
   clear hstep
   cases hok:(ok1&&ok2) with
   | false=>
    have hval:bJ_ (gsE es)=false:=by
     unfold bJ_
     rw[HST.out,hok]
     simp
    have HVA:=Lib.hid hval
    clear hval hok
    have H5:=Lib.hid (H4.out.az.sub (L':=[(w.heap.size,[.map none,.map none]),(w.heap.size+1,[.bool false])]) (by simp))
    have x0:=H5.out.ce 0 0 rfl rfl
    have x1:=H5.out.ce 0 1 rfl rfl
    have x2:=H5.out.ce 1 0 rfl rfl
    have f0:=H5.out.cf 0 0 rfl rfl
    have f1:=H5.out.cf 0 1 rfl rfl
    have f2:=H5.out.cf 1 0 rfl rfl
    go_wp2
    have hD:∀x∈[(w.heap.size+1,[Value.bool false])],w.heap.size≠x.1:=by intro x hx;simp only[List.mem_cons,List.not_mem_nil,or_false] at hx;subst hx;simp only;omega
    have H6:=((H5.out.set (Nat.le_refl _) hD (i:=0) rfl (.map none)).set (Nat.le_refl _) hD (i:=1) rfl (.map none)).sub (L':=[(w.heap.size+1,[.bool false]),(w.heap.size,[.map none,.map none])]) (by simp)
    have H7:=Lib.hid (H6.set (by omega) (by intro x hx;simp only[List.mem_cons,List.not_mem_nil,or_false] at hx;subst hx;simp only;omega) (i:=0) rfl (.bool false))
    have z0:=H7.out.ce 1 0 rfl rfl
    have z1:=H7.out.ce 1 1 rfl rfl
    have z2:=H7.out.ce 0 0 rfl rfl
    refine⟨.tuple #[.agg #[.map none,.map none],.bool false],?_,⟨_,_,by rw[HVA.out]⟩,H7.out.bw⟩
    simp[results,Tryz.results64,go_sem,Result.andThen,z0,z1,z2]
   | true=>
    have hok':=hok
    rw[Bool.and_eq_true] at hok'
    have hl:∀q,(es.take k).getLast?=some q→q.g.id<ei:=fun q hq=>by
     have e1:((gsE es).take k).getLast?=some q.g:=by
      unfold gsE
      rw[←List.map_take,List.getLast?_map,hq]
      rfl
     have h2:=HOK.out.2
     rw[e1,hok'.2] at h2
     simpa using h2
    have HFN:=Lib.hid (xU_ (e:=⟨⟨ei,eo,em⟩,ea,ec⟩) HASC.out hl)
    have hasc2:=aBP (e:=⟨⟨ei,eo,em⟩,ea,ec⟩) HASC.out hl
    have htk:es.take (k+1)=es.take k++[⟨⟨ei,eo,em⟩,ea,ec⟩]:=by rw[List.take_add_one,HE.out];rfl
    have HTK:=Lib.hid htk
    rw[←htk] at hasc2
    have HASC2:=Lib.hid hasc2
    have hst:=HST.out
    rw[hok] at hst
    have HST2:=Lib.hid hst
    have HHID:=Lib.hid hid
    have hn1:n≤1000:=by have:=HIN.out.len;have:=HN.out;omega
    clear hok hok' hl hasc2 htk hst HST HASC
    have x0:=H4.out.az.ce 1 0 rfl rfl
    have y0:=H4.out.az.ce 0 0 rfl rfl
    have y1:=H4.out.az.ce 0 1 rfl rfl
    have y2:=H4.out.az.ce 0 2 rfl rfl
    go_wp2_with (first
     | (at_mapUpdate;refine wpList_mapUpdate_own _ rfl _ _ _ 119 rfl 3 43 bG_ Tryz.underlying119 rawE (w.heap.size+1+1) k D1 rfl H4.out.m1 (by unfold maxLen;omega) _ _ (.int .i64 ei) rfl rfl (keyOf_int_mk Tryz.underlying3 (wf_i64 HHID.out)) (.held (.agg #[.int .i64 ei,.int .i64 eo,.slice ea em.length ec])) [] rfl ?_;intro w5 hown5 hgrow5;have H5:=Lib.hid (H4.out.put1 (e:=⟨⟨ei,eo,em⟩,ea,ec⟩) HHID.out HFN.out hown5 hgrow5);have v2:=H5.out.az.ce 0 2 rfl rfl;clear hown5 hgrow5)
     | fail)
    obtain⟨m,hmE⟩:∃m,m=em.length:=⟨_,rfl⟩
    have hm1:m≤1000:=by rw[hmE];exact HI.out.2.2.1
    have HME:=Lib.hid hmE
    rw[←hmE]
    clear hmE
    go_loopw [55] (fun v55 wi=>∃(j n2':Nat) (D2':DataW Value),j≤m∧v55=.int .i64 (j:Int)∧MmAt (w.heap.size+1+1) (w.heap.size+1+1+1) (k+1) n2' (D1.put (.int .i64 ei) (.held (.agg #[.int .i64 ei,.int .i64 eo,.slice ea em.length ec]))) D2' (es.take k++[⟨⟨ei,eo,em⟩,ea,ec⟩]) (csE (es.take k)++em.take j) [(wr.heap.size,[.int .i64 ei,.int .i64 eo,.slice ea em.length ec]),(w.heap.size+1+1+1+1,[.map (some (w.heap.size+1+1)),.map (some (w.heap.size+1+1+1))]),(w.heap.size+1,[.bool false]),(w.heap.size,[.map none,.map none])] w wi∧n2'≤k*1000+j∧(∀q,(em.take j).getLast?=some q→∀p∈em.take j,p≤q)∧hC_ (csE (es.take k)) [] em=hC_ (csE (es.take k)) (em.take j) (em.drop j)) (fun v55 _=>m-(intOf v55).toNat)
    case atStart=>exact⟨0,n2,_,Nat.zero_le _,rfl,by simpa using H5.out,by omega,by simp,rfl⟩
    case round=>
     obtain⟨j,n3,D3,hjm,rfl,hm,hn3,hlast,hms⟩:=hrel
     have H6:=Lib.hid hm
     have HL:=Lib.hid hlast
     have HMS:=Lib.hid hms
     clear hm hlast hms
     by_cases hjk:j<m
     case neg=>
      obtain rfl:j=m:=by omega
      have t8:decide ((j:Int)<(j:Int))=false:=decide_eq_false (by omega)
      go_wp2
      have hT:=H6.out.sub (L':=[(w.heap.size+1+1+1+1,[.map (some (w.heap.size+1+1)),.map (some (w.heap.size+1+1+1))]),(w.heap.size+1,[.bool false]),(w.heap.size,[.map none,.map none])]) (by intro x hx;exact List.mem_cons_of_mem _ hx)
      have e3:csE (es.take k)++em.take j=csE (es.take (k+1)):=by
       rw[HTK.out]
       unfold csE
       rw[List.flatMap_append,HME.out,List.take_length]
       simp
      rw[e3,←HTK.out] at hT
      have hU:dQ_ [] (gsE es)=dQ_ ((gsE es).take (k+1)) ((gsE es).drop (k+1)):=by
       rw[HST2.out,HMS.out,HME.out,List.take_length,List.drop_length]
       simp[hC_]
      exact⟨⟨k+1,n3,_,D3,by omega,by go_num,hT,by omega,HASC2.out,hU⟩,by simp only[intOf];omega⟩
     case pos=>
      have t8:decide ((j:Int)<(m:Int))=true:=decide_eq_true (by omega)
      obtain⟨c,hc⟩:∃c,em[j]?=some c:=⟨_,List.getElem?_eq_getElem (by rw[←HME.out];exact hjk)⟩
      have hcin:aC_ c:=HI.out.2.2.2 c (List.mem_of_getElem? hc)
      have hcs2:=HCS.out.below H6.out.az.bw
      obtain⟨b2,o2,rfl,hb2,d0⟩:=hcs2.row j _ (wN_ hc)
      obtain⟨v0,hlk⟩:=H6.out.look2 hcin
      obtain⟨tw,htw⟩:∃q,q=decide (c∈csE (es.take k)++em.take j):=⟨_,rfl⟩
      rw[←htw] at hlk
      have HTW:=Lib.hid htw
      obtain⟨ok3,hok3⟩:∃q,q=(decide (1≤c)&&decide (c≤39999)):=⟨_,rfl⟩
      have KG2:=Lib.hid (show ∀W:World,Calls Tryz.prog 108 #[.int .i64 c,.int .i64 1,.int .i64 39999] W fun e W'=>e=.returned (.bool ok3)∧W'=W from fun W=>by rw[hok3];exact gIn_s _ _ _ W)
      obtain⟨ok4,hok4⟩:∃q:Bool,q=(match (em.take j).getLast? with|none=>true|some p=>decide (p<c)):=⟨_,rfl⟩
      have HOK3:=Lib.hid (And.intro hok3 hok4)
      have HCI:=Lib.hid hcin
      have HMC:=Lib.hid hc
      have x1:=H6.out.az.ce 1 1 rfl rfl
      have y2:=H6.out.az.ce 0 2 rfl rfl
      have y0:=H6.out.az.ce 0 0 rfl rfl
      clear hok3 hok4 htw hcs2 hcin hc
      go_upto_region 12 with fail
      go_cut [86] from 87 to 93 (fun v86 wX=>v86=.bool (tw || !ok3 || !ok4)∧wr=wX)
      case first=>
       cases tw with
       | true=>
        go_wp2
        go_meet
        exact⟨rfl,rfl⟩
       | false=>
        cases ok3 with
        | false=>
         go_wp2_with (go_at_call 108;(with_reducible refine(KG2.out _).mono ?_);rintro e w1 ⟨rfl,rfl⟩)
         go_meet
         exact⟨rfl,rfl⟩
        | true=>
         rcases Nat.eq_zero_or_pos j with hj0|hj0
         ·have t7:decide (0<j)=false:=decide_eq_false (by omega)
          have HJ0:=Lib.hid hj0
          clear hj0
          go_wp2_with (go_at_call 108;(with_reducible refine(KG2.out _).mono ?_);rintro e w1 ⟨rfl,rfl⟩)
          go_meet
          exact⟨by rw[HOK3.out.2,HJ0.out];rfl,rfl⟩
         ·have t7:decide (0<j)=true:=decide_eq_true hj0
          obtain⟨j',hjj⟩:∃j',j=j'+1:=⟨j-1,by omega⟩
          obtain⟨q,hq⟩:∃q,em[j']?=some q:=⟨_,List.getElem?_eq_getElem (by rw[←HME.out];omega)⟩
          obtain⟨b3,o3,e3,hb3,d1⟩:=(HCS.out.below H6.out.az.bw).row j' _ (wN_ hq)
          injection e3 with e3
          injection e3 with e3 e4
          subst e3 e4
          have g1:IntKind.i64.wrap ((j:Int)-1)=(j':Int):=(IntWalk.i64_in _ (by omega)).trans (by omega)
          have g2:(j':Int)<(m:Int):=by omega
          have g3:(j':Int)<(em.length:Int):=by have:=HME.out;omega
          obtain⟨cq,hcq⟩:∃cq,cq=decide (c≤q):=⟨_,rfl⟩
          have t6:=hcq.symm
          have HLQ:=Lib.hid (And.intro hq (And.intro hjj hcq))
          clear hq hjj hcq hj0
          go_wp2_with (go_at_call 108;(with_reducible refine(KG2.out _).mono ?_);rintro e w1 ⟨rfl,rfl⟩)
          go_meet
          refine⟨?_,rfl⟩
          have e1:(em.take j).getLast?=some q:=by rw[HLQ.out.2.1,iP_ (by rw[←HME.out];omega)];exact HLQ.out.1
          rw[HOK3.out.2,e1,HLQ.out.2.2]
          simp only[Bool.not_true,Bool.false_or]
          by_cases h:q<c
          ·simp[h]
          ·simp[h]
           omega
      case rest=>
      obtain⟨rfl,rfl⟩:=hcut
      have hstep:=zZ_ (pv:=csE (es.take k)) HMC.out HL.out
      rw[←HTW.out,←HOK3.out.1,←HOK3.out.2] at hstep
      have HSTP:=Lib.hid hstep
      clear hstep
      cases hfl:(tw || !ok3 || !ok4) with
      | true=>
       have hval:bJ_ (gsE es)=false:=by
        unfold bJ_
        rw[HST2.out,HMS.out,HSTP.out,hfl]
        simp
       have HVA:=Lib.hid hval
       clear hval hfl
       have H7:=Lib.hid (H6.out.az.sub (L':=[(w.heap.size,[.map none,.map none]),(w.heap.size+1,[.bool false])]) (by simp))
       have q0:=H7.out.ce 0 0 rfl rfl
       have q1:=H7.out.ce 0 1 rfl rfl
       have q2:=H7.out.ce 1 0 rfl rfl
       have f0:=H7.out.cf 0 0 rfl rfl
       have f1:=H7.out.cf 0 1 rfl rfl
       have f2:=H7.out.cf 1 0 rfl rfl
       go_wp2
       have hD:∀x∈[(w.heap.size+1,[Value.bool false])],w.heap.size≠x.1:=by intro x hx;simp only[List.mem_cons,List.not_mem_nil,or_false] at hx;subst hx;simp only;omega
       have H8:=((H7.out.set (Nat.le_refl _) hD (i:=0) rfl (.map none)).set (Nat.le_refl _) hD (i:=1) rfl (.map none)).sub (L':=[(w.heap.size+1,[.bool false]),(w.heap.size,[.map none,.map none])]) (by simp)
       have H9:=Lib.hid (H8.set (by omega) (by intro x hx;simp only[List.mem_cons,List.not_mem_nil,or_false] at hx;subst hx;simp only;omega) (i:=0) rfl (.bool false))
       have z0:=H9.out.ce 1 0 rfl rfl
       have z1:=H9.out.ce 1 1 rfl rfl
       have z2:=H9.out.ce 0 0 rfl rfl
       refine⟨.tuple #[.agg #[.map none,.map none],.bool false],?_,⟨_,_,by rw[HVA.out]⟩,H9.out.bw⟩
       simp[results,Tryz.results64,go_sem,Result.andThen,z0,z1,z2]
      | false=>
       have HO4:=Lib.hid (show ok4=true from by cases tw <;> cases ok3 <;> cases ok4 <;> simp_all)
       rw[hfl] at HSTP
       clear hfl
       go_wp2_with (first
        | (at_mapUpdate;refine wpList_mapUpdate_own _ rfl _ _ _ 103 rfl 3 3 bG_ Tryz.underlying103 rawE (w.heap.size+1+1+1) n3 D3 rfl H6.out.m2 (by unfold maxLen;omega) _ _ (.int .i64 c) rfl rfl (keyOf_int_mk Tryz.underlying3 (wf_i64 HCI.out)) (.held (.int .i64 ei)) [] rfl ?_;intro w6 hown6 hgrow6;have H7:=Lib.hid (H6.out.put2 hown6 hgrow6);clear hown6 hgrow6)
        | fail)
       have hlast:∀q,(em.take (j+1)).getLast?=some q→∀p∈em.take (j+1),p≤q:=fun q hq p hp=>by
        rw[iP_ (by rw[←HME.out];exact hjk),HMC.out] at hq
        obtain rfl:=Option.some.inj hq
        rw[List.take_add_one,HMC.out,Option.toList_some] at hp
        rcases List.mem_append.1 hp with hp|hp
        ·have h4:=HOK3.out.2
         rw[HO4.out] at h4
         cases e:(em.take j).getLast? with
         | none=>rw[List.getLast?_eq_none_iff] at e;rw[e] at hp;cases hp
         | some z=>
          rw[e] at h4
          have:=HL.out z e p hp
          have:z<c:=by simpa using h4.symm
          omega
        ·obtain rfl:=List.mem_singleton.1 hp
         exact Int.le_refl _
       have e4:csE (es.take k)++em.take j++[c]=csE (es.take k)++em.take (j+1):=by rw[List.append_assoc,List.take_add_one,HMC.out];rfl
       have H8:=H7.out
       rw[e4] at H8
       exact⟨⟨j+1,n3+1,_,by omega,by go_num,H8,by omega,hlast,by rw[HMS.out,HSTP.out];rfl⟩,by simp only[intOf];omega⟩
theorem yN_ {a:Option Addr} {n cap:Nat} {es:List Ge} (hn:es.length=n) (hin:GeIn es) (w:World) (hS:GsAt a es w) :
  Calls Tryz.prog 34 #[.slice a n cap] w fun e W'=>e=.returned (.bool (bJ_ (gsE es)))∧Below w.heap.size w W':=by
 have KR:=Lib.hid (aDI (cap:=cap) hn hin w hS)
 generalize bJ_ (gsE es)=r at *
 clear hS
 go_enter Tryz.func34,Tryz.ntmps34
 go_wp2_with (go_at_call 64;(with_reducible refine(KR.out).mono ?_);rintro e w1 ⟨⟨m1,m2,rfl⟩,hb⟩;have H3:=Lib.hid hb)
 go_ret
 exact⟨rfl,H3.out.trans ((Below.refl _ _).alloc H3.out.size _)⟩
end Go.Proofs.YtdkaohphbgdkpaaGreatDoor
namespace Go.Proofs.YtdkaohphbgdkpaaGreatDoor
open Go.RowKit Go.Shelf Go.Sort Go.Maps IntWalk
attribute [local go_sem] Oper.semAt_some
structure Wr where
 code:Int
 src:Int
 outp:Int
 dst:Int
 inp:Int
 dly:Int
def wrC (x:Wr):List Value:=[.int .i64 x.code,.int .i64 x.src,.int .i64 x.outp,.int .i64 x.dst,.int .i64 x.inp,.int .i64 x.dly]
structure WrsAt (a:Option Addr) (ls:List Wr) (W:World):Prop where
 row:∀(k:Nat) (x:Wr),ls[k]?=some x→∃b o:Nat,a=some ⟨b,o,none⟩∧b<W.heap.size∧∀(j:Nat) (v:Value),(wrC x)[j]?=some v→W.cell? ⟨b,o+k*6+j,none⟩=some v
theorem WrsAt.below {a:Option Addr} {ls:List Wr} {W W':World} (h:WrsAt a ls W) (hb:Below W.heap.size W W'):WrsAt a ls W':=⟨fun k e he=>by
 obtain⟨b,o,h1,h2,h3⟩:=h.row k e he
 exact⟨b,o,h1,Nat.lt_of_lt_of_le h2 hb.size,fun j v hv=>(World.cell?_of_block (w:=W) (hb.block b h2)).trans (h3 j v hv)⟩⟩
def ldW (x:Wr):L3:=(x.code,x.src,x.dst)
theorem wB_ {es:List Ge} {c:Int} (h:∀(j:Nat) (e:Ge),j<es.length→es[j]?=some e→c ∉ e.g.mem):memG (gsE es) c=none:=by
 unfold memG
 rw[List.find?_eq_none.2 (fun g hg=>?_)]
 ·rfl
 ·obtain⟨e,he,rfl⟩:=List.mem_map.1 hg
  obtain⟨j,hj,rfl⟩:=List.mem_iff_getElem.1 he
  have:=h j _ hj (List.getElem?_eq_getElem hj)
  simpa using this
theorem wA_ {es:List Ge} {c:Int} {g:Nat} {e:Ge} (h:∀(j:Nat) (e:Ge),j<g→es[j]?=some e→c ∉ e.g.mem) (he:es[g]?=some e) (hm:c∈e.g.mem):memG (gsE es) c=some e.g.id:=by
 induction es generalizing g with
 | nil=>simp at he
 | cons a es ih=>
  unfold memG gsE
  rw[List.map_cons]
  cases g with
  | zero=>
   cases he
   rw[List.find?_cons_of_pos (by simpa using hm)]
   rfl
  | succ g=>
   rw[List.find?_cons_of_neg (by have:=h 0 a (by omega) rfl;simpa using this)]
   exact ih (fun j e hj he=>h (j+1) e (by omega) he) he
theorem xS_ (ss:List Sh) (mem:Int→Option Int) (pre:List Sh) (x:Sh):asmD ⟨(pre++[x]).map (dZ_ ss mem),[]⟩=sdM (sdI { asmD ⟨pre.map (dZ_ ss mem),[]⟩ with shapes:=(asmD ⟨pre.map (dZ_ ss mem),[]⟩).shapes++[⟨x.code,x.kind,zRc,zPl,zPl,x.word⟩] } x.code (optC (parK ss x))) x.code (mem x.code):=by
 have h:=xT_ ⟨pre.map (dZ_ ss mem),[]⟩ x.kind x.code x.word (optC (parK ss x)) (mem x.code)
 rw[List.map_append,show[x].map (dZ_ ss mem)=[⟨x.kind,x.code,x.word.data.toList,optC (parK ss x),mem x.code⟩] from rfl,←h]
 cases optC (parK ss x) <;> cases mem x.code <;> rfl
theorem zQ_ {c:Nat} {W:World} {t:TypeId} {fr:Nat×Nat} (h:W.heap[c]?=some (.cells #[.slice none 0 0,.slice none 0 0,.slice none 0 0,.slice none 0 0] t fr)) (g:Nat):¬Ow c W g:=by
 rintro⟨i,n,cap,a,h1,_⟩
 unfold World.cell? at h1
 rw[h] at h1
 match i,h1 with
 | 0,h1=>simp at h1
 | 1,h1=>simp at h1
 | 2,h1=>simp at h1
 | 3,h1=>simp at h1
 | i+4,h1=>simp at h1
def eN_ (ss:List Sh) (es:List Ge) (ls:List Wr):SD:=asmD (aCZ ss (memG (gsE es)) (ls.map ldW))
def sayB (ss:List Sh) (es:List Ge) (ls:List Wr):Bool:=decide (ls.length≤40)&&bI_ ss&&bJ_ (gsE es)
def sayR (ss:List Sh) (es:List Ge) (ls:List Wr):Value:=if sayB ss es ls then .tuple #[.string (mW_ (eN_ ss es ls)),.int .i64 (if cF_ (eN_ ss es ls) then 0 else 270)] else .tuple #[.string ⟨#[]⟩,.int .i64 270]
theorem say_s {a ga wa:Option Addr} {n cap m gcap k wcap:Nat} {dv:Value} {ss:List Sh} {es:List Ge} {ls:List Wr} (hn:ss.length=n) (hn6:n≤1000000) (hm:es.length=m) (hk:ls.length=k) (hin:GeIn es) (hwl:k≤1000000) (w:World) (hS:ShsAt a ss w) (hGs:GsAt ga es w) (hW:WrsAt wa ls w) (hq:IOps w∧FrOp w) (hT:Glob w) (hd:bI_ ss=true→Dist ss) (hdv:∃da dn dc,dv=.slice da dn dc) :
  Calls Tryz.prog 16 #[.slice a n cap,.slice ga m gcap,.agg #[dv,.slice wa k wcap]] w fun e W'=>e=.returned (sayR ss es ls)∧Below w.heap.size w W':=by
 obtain⟨da,dn,dc,rfl⟩:=hdv
 have H0:=Lib.hid ((((AzAt.start w).push [.slice a n cap] 32).push [.slice ga m gcap] 34).push [.slice da dn dc,.slice wa k wcap] 39)
 have HS:=Lib.hid hS
 have HGS:=Lib.hid hGs
 have HW:=Lib.hid hW
 have KL:=Lib.hid (fun(W:World) (hb:Below w.heap.size w W)=>jR_ (cap:=cap) hn hn6 W (hS.below hb) ⟨hq.1.below hb,hq.2.under hb⟩)
 have KG:=Lib.hid (fun(W:World) (hb:Below w.heap.size w W)=>yN_ (cap:=gcap) hm hin W (hGs.below hb))
 have KO:=Lib.hid (show bI_ ss=true→∀W:World,Below w.heap.size w W→Calls Tryz.prog 35 #[.slice a n cap] W _ from fun hl W h=>nQ_ (cap:=cap) hn (by rw[←hn];exact Nat.le_trans (cR_ hl) (by omega)) (show Ld ss from⟨cL_ hl,hd hl⟩).bds (show Ld ss from⟨cL_ hl,hd hl⟩).dst W (hS.below h))
 have KP:=Lib.hid (show bI_ ss=true→∀(s:Sh) (W:World),Below w.heap.size w W→Calls Tryz.prog 36 #[.slice a n cap,shV s] W fun e W'=>e=.returned (.tuple #[shV (orZ (parK ss s)),.bool (parK ss s).isSome])∧Below W.heap.size W W' from fun hl s W h=>lR_ (cap:=cap) s hn hn6 (cL_ hl) W (hS.below h))
 have x0:=H0.out.ce 2 0 rfl rfl
 have x1:=H0.out.ce 1 0 rfl rfl
 have x2:=H0.out.ce 0 1 rfl rfl
 simp only[World.size_alloc] at x0 x1 x2
 have HIN:=Lib.hid hin
 have HLD:=Lib.hid (show bI_ ss=true→Ld ss from fun hl=>⟨cL_ hl,hd hl⟩)
 have HNN:=Lib.hid (And.intro hn (And.intro hm hk))
 have HT:=Lib.hid hT
 obtain⟨q0,hq0⟩:∃q,q=decide (40<k):=⟨_,rfl⟩
 have t0:decide ((40:Int)<(k:Int))=q0:=by rw[hq0];exact decide_eq_decide.2 (by omega)
 have t0':=hq0.symm
 obtain⟨q1,hq1⟩:∃q,q=bI_ ss:=⟨_,rfl⟩
 obtain⟨q2,hq2⟩:∃q,q=bJ_ (gsE es):=⟨_,rfl⟩
 have HQ:=Lib.hid (And.intro hq0 (And.intro hq1 hq2))
 have HR:=Lib.hid (show sayB ss es ls=(!q0&&q1&&q2) from by
  unfold sayB
  rw[hq0,hq1,hq2,hk]
  congr 2
  by_cases h:k≤40
  ·rw[decide_eq_true h,decide_eq_false (by omega)];rfl
  ·rw[decide_eq_false h,decide_eq_true (by omega)];rfl)
 rw[←hq1] at KL
 rw[←hq2] at KG
 clear hq0 hq1 hq2 hn hn6 hm hk hin hwl hS hGs hW hq hT hd
 rw[←callsIn_wide (n:=9)]
 refine callsIn_of_wp_marks Tryz.func16 rfl trivial ?_ rfl
 simp only[Tryz.ntmps16,List.size_toArray,List.length_cons,List.length_nil,Nat.reduceAdd,Nat.reduceSub,Array.replicate_succ,Array.replicate_zero,List.push_toArray,List.append_toArray,List.nil_append,List.cons_append]
 rw[wpIn_wide]
 cases q0 with
 | true=>
  go_wp2
  refine⟨.tuple #[.string ⟨#[]⟩,.int .i64 270],?_,?_,H0.out.bw⟩
  ·simp[results,Tryz.results16,go_sem]
  ·unfold sayR;rw[HR.out];rfl
 | false=>
 cases q1 with
 | false=>
  go_wp2_with (first
   | (go_at_call 33;(with_reducible refine(KL.out _ H0.out.bw).mono ?_);rintro e w1 ⟨rfl,hb1⟩;have H1:=Lib.hid (H0.out.below hb1);have x1:=H1.out.ce 1 0 rfl rfl;simp only[World.size_alloc] at x1;clear hb1)
   | fail)
  refine⟨.tuple #[.string ⟨#[]⟩,.int .i64 270],?_,?_,H1.out.bw⟩
  ·simp[results,Tryz.results16,go_sem]
  ·unfold sayR;rw[HR.out];rfl
 | true=>
 cases q2 with
 | false=>
  go_wp2_with (first
   | (go_at_call 34;(with_reducible refine(KG.out _ H1.out.bw).mono ?_);rintro e w2 ⟨rfl,hb2⟩;have H2:=Lib.hid (H1.out.below hb2);have x0:=H2.out.ce 2 0 rfl rfl;have x2:=H2.out.ce 0 1 rfl rfl;simp only[World.size_alloc] at x0 x2;clear hb2)
   | (go_at_call 33;(with_reducible refine(KL.out _ H0.out.bw).mono ?_);rintro e w1 ⟨rfl,hb1⟩;have H1:=Lib.hid (H0.out.below hb1);have x1:=H1.out.ce 1 0 rfl rfl;simp only[World.size_alloc] at x1;clear hb1)
   | fail)
  refine⟨.tuple #[.string ⟨#[]⟩,.int .i64 270],?_,?_,H2.out.bw⟩
  ·simp[results,Tryz.results16,go_sem]
  ·unfold sayR;rw[HR.out];rfl
 | true=>
 have hl:bI_ ss=true:=HQ.out.2.1.symm
 have HL:=Lib.hid (HLD.out hl)
 have KO2:=Lib.hid (KO.out hl)
 have KP2:=Lib.hid (KP.out hl)
 go_upto_region 4 with (first
  | (go_at_call 34;(with_reducible refine(KG.out _ H1.out.bw).mono ?_);rintro e w2 ⟨rfl,hb2⟩;have H2:=Lib.hid (H1.out.below hb2);have x0:=H2.out.ce 2 0 rfl rfl;have x2:=H2.out.ce 0 1 rfl rfl;simp only[World.size_alloc] at x0 x2;clear hb2)
  | (go_at_call 33;(with_reducible refine(KL.out _ H0.out.bw).mono ?_);rintro e w1 ⟨rfl,hb1⟩;have H1:=Lib.hid (H0.out.below hb1);have x1:=H1.out.ce 1 0 rfl rfl;simp only[World.size_alloc] at x1;clear hb1)
  | fail)
 have H3:=Lib.hid (H2.out.push [.slice none 0 0,.slice none 0 0,.slice none 0 0,.slice none 0 0] 62)
 have x0:=H3.out.ce 3 0 rfl rfl
 obtain⟨W3,hW3⟩:∃W3,W3=w2.alloc (.cells #[.slice none 0 0,.slice none 0 0,.slice none 0 0,.slice none 0 0] 62):=⟨_,rfl⟩
 have hcb:W3.heap[w2.heap.size]?=some (.cells #[.slice none 0 0,.slice none 0 0,.slice none 0 0,.slice none 0 0] 62 (0,0)):=by rw[hW3];exact World.alloc_heap_new w2 _
 obtain⟨c,hc⟩:∃c,c=w2.heap.size:=⟨_,rfl⟩
 have hcW:c<W3.heap.size:=by rw[hW3,World.size_alloc,hc];omega
 rw[←hW3] at H3 x0⊢
 rw[←hc] at H3 hcb⊢
 have HCB:=Lib.hid hcb
 have HCW:=Lib.hid (And.intro hcW (And.intro (show w.heap.size≤c by rw[hc];exact H2.out.bw.size) (show w.heap.size+1+1<c by have h2:=(H2.out.row _ (List.mem_cons_self)).sz;simp only[World.size_alloc] at h2;rw[hc];exact h2)))
 clear hcb hW3 hc hcW
 go_wp2_with (first
  | (go_at_call 35;(with_reducible refine(KO2.out _ H3.out.bw).mono ?_);rintro e w4 ⟨k0,D,rfl,hg⟩;have H4:=Lib.hid hg;clear hg)
  | fail)
 have hc4:∀g,¬Ow c W3 g:=zQ_ HCB.out
 have hI:ItAt c W3.heap.size W3.heap.size k0 D (aM_ ss) [(W3.heap.size+1,[.map (some W3.heap.size)])] w4:=
  ItAt.of_gr H4.out HCW.out.1 (fun g hg=>absurd hg (hc4 g)) (fun x hx=>by simp only[List.mem_cons,List.not_mem_nil,or_false] at hx;subst hx;exact⟨by simp,by simp⟩)
 have hb4:Below W3.heap.size W3 w4:=H4.out.az.bw
 have h60:ss.length≤1000:=Nat.le_trans (cR_ hl) (by omega)
 have HSZ:=Lib.hid (And.intro HCW.out.1 (And.intro HCW.out.2.1 hb4.size))
 have h5:=(((((MoAt.start (H3.out.below hb4)).addNil 59 3).addNil 58 2).addNil 58 2).addNil 30 11)
 simp only[World.size_alloc] at h5
 have H5:=Lib.hid h5
 clear h5
 rw[←wpIn_wide (n:=9)]
 refine wpIn_rangeFunc_ownH rfl (by omega) (gf:=69) (lb:=#[.pointer (some ⟨W3.heap.size+1,0,none⟩)]) rfl trivial (enters_of Tryz.func69 (by kernel_rfl) rfl)
  (nR_ HL.out h60 hI (HSZ.out.2.2)) (fun h k=>h.trans k) (fun W l o o' hl ho h1 h2=>KpO.putObj (w:=w4) (by have:=HSZ.out;omega) W l o o' hl ho h1 h2) (Below.refl _ _) (fun _=>rfl)
  (fun pre W=>∃v0 v1 v2,MoAt (sdR v0 v1 v2 (.slice none 0 0) (asmD ⟨pre.map (dZ_ ss (memG (gsE es))),[]⟩)) [(c,[v0,v1,v2,.slice none 0 0]),(w.heap.size+1+1,[.slice da dn dc,.slice wa k wcap]),(w.heap.size+1,[.slice ga m gcap]),(w.heap.size,[.slice a n cap])] w W∧∀g,Ow c W g→g<W.heap.size)
  (fun _ _ _=>False)
  ?I (fun _ _ _ _ _ hs _ _=>hs) ⟨.slice none 0 0,.slice none 0 0,.slice none 0 0,H5.out,hI.lt⟩
  (fun x a' W=>∃B,a' = { tmps:=#[.slice a n cap,.slice ga m gcap,.agg #[.slice da dn dc,.slice wa k wcap],.pointer (some ⟨w.heap.size,0,none⟩),.pointer (some ⟨w.heap.size+1,0,none⟩),.pointer (some ⟨w.heap.size+1+1,0,none⟩),.string ⟨#[]⟩,.int .i64 0,.pointer (some ⟨c,0,none⟩),.pointer (some ⟨B,0,none⟩),undef,undef,undef,undef,undef,undef,undef,undef,.pointer (some ⟨w.heap.size+1+1,1,none⟩),.slice wa k wcap,.int .i64 (k:Int),.bool false,.bool false,.slice a n cap,.bool true,.bool false,.bool false,.bool false,.slice ga m gcap,.bool true,.bool false,.bool false,.slice a n cap,.func (.func 69) #[] #[.pointer (some ⟨W3.heap.size+1,0,none⟩)],shV x,undef,undef,undef,undef,undef,undef,undef,undef,undef,undef,undef,undef,undef,undef,undef,undef,undef,undef,undef,undef,undef,undef,undef,undef,undef,undef,undef,undef,undef,undef,undef,undef,undef,undef,undef,undef,undef,undef,undef,undef,undef,undef,undef,undef,undef,undef,undef,undef,undef,undef,undef,undef,undef,undef,undef,undef,undef,undef,undef,undef,undef,undef,undef,undef,undef,undef,undef,undef,undef,undef,undef,undef,undef,undef,undef,undef,undef,undef,undef,undef,undef,undef],defers:=[] }∧ArAt B (shC x) W∧¬Ow c W B∧∃o:Obj,W.heap[c]?=some o∧o.isCells=true) ?Ax ?assign ?body ?done ?stop
 case I=>
  intro pre W W' row ⟨v0,v1,v2,h,hlt⟩ hg hr
  have hcb:=h.block hg (fun r e=>(hr r e).2)
  exact⟨v0,v1,v2,h.kept (fun x hx=>by
   simp only[List.mem_cons,List.not_mem_nil,or_false] at hx
   rcases hx with rfl|rfl|rfl|rfl <;> simp) hg (fun r e=>by have:=(hr r e).1;have:=HSZ.out;omega) (fun r e=>(hr r e).2),fun g hg'=>Nat.lt_of_lt_of_le (hlt g ((aW_ hcb).1 hg')) hg.size⟩
 case Ax=>
  intro x a' _ W W' row ⟨B,h1,h2,h3,o,h4,h5⟩ hg hr
  have hcb:W'.heap[c]?=W.heap[c]?:=grownBy_keeps_cells hg (fun r e=>(hr r e).2) h4 h5
  exact⟨B,h1,ArAt.own_from (by simp) w4.heap.size () W W' row h2 hg hr,fun h=>h3 ((aW_ hcb).1 h),o,hcb.trans h4,h5⟩
 case assign=>
  intro l pre x W K ⟨v0,v1,v2,hI,hlt⟩ hK
  have hb:Below W.heap.size W (W.alloc (.cells (shC x).toArray 30)):=(Below.refl _ _).alloc (Nat.le_refl _) _
  have hcs:c<W.heap.size:=(hI.az.row (c,[v0,v1,v2,.slice none 0 0]) (by simp)).sz
  have hcb:=hb.block c hcs
  obtain⟨o,ho,hoc⟩:=cells_of_cell (hI.az.ce 0 0 rfl rfl)
  have hk:=hK _ _ ((KeepsOthers.alloc W (.cells (shC x).toArray 30)).from _) (KpO.of_below hb hcs) ⟨v0,v1,v2,hI.below hb,fun g hg'=>Nat.lt_of_lt_of_le (hlt g ((aW_ hcb).1 hg')) hb.size⟩ ⟨_,rfl,ArAt.mk' W (shC x) _,fun h=>absurd (hlt _ ((aW_ hcb).1 h)) (Nat.lt_irrefl _),o,hcb.trans ho,hoc⟩
  gi_wp2
  exact hk
 case body=>
  intro l pre x a' W hlw hr ⟨v0,v1,v2,hI,hlt⟩ ⟨B,e,hBx,hnB,_⟩ hlen
  subst e
  have HLT:=Lib.hid hlt
  have H6:=Lib.hid (SayAt.start (hI.beside hBx hnB (fun r hr=>by
   unfold sdR at hr
   simp only[List.mem_cons,List.not_mem_nil,or_false] at hr
   rcases hr with rfl|rfl|rfl|rfl
   ·exact⟨0,rfl⟩
   ·exact⟨1,rfl⟩
   ·exact⟨2,rfl⟩
   ·exact⟨3,rfl⟩)):SayAt c W3.heap.size _ _ _ W w W)
  obtain⟨xd,hxd⟩:∃xd,xd=asmD ⟨pre.map (dZ_ ss (memG (gsE es))),[]⟩:=⟨_,rfl⟩
  rw[←hxd] at H6
  have HXD:=Lib.hid hxd
  have hl6:xd.shapes.length≤1000∧xd.inside.length≤1000∧xd.member.length≤1000:=by
   have hp:pre.length≤1000:=by have:=HL.out.rdx_perm.length_eq;omega
   rw[hxd]
   refine⟨?_,?_,?_⟩
   ·show(List.map _ _).length≤_;rw[List.length_map,List.length_map];exact hp
   ·refine Nat.le_trans (List.length_filterMap_le _ _) ?_;rw[List.length_map];exact hp
   ·refine Nat.le_trans (List.length_filterMap_le _ _) ?_;rw[List.length_map];exact hp
  have HL6:=Lib.hid hl6
  have z0:=H6.out.mo.az.ce 0 0 rfl rfl
  obtain⟨y0,y1,y2,y3,y4,y5,y6,y7,y8,y9,y10⟩:=H6.out.mo.az.sh 1 rfl
  have x0:=H6.out.mo.az.ce 4 0 rfl rfl
  have x1:=H6.out.mo.az.ce 3 0 rfl rfl
  have HP6:=Lib.hid (H6.out.push (shC ⟨x.code,x.kind,zRc,zPl,zPl,x.word⟩) 30)
  have hcs:c<W.heap.size:=H6.out.szc
  have HDS:=Lib.hid (show ∀y∈[(W.heap.size,shC ⟨x.code,x.kind,zRc,zPl,zPl,x.word⟩),(B,shC x),(w.heap.size+1+1,[.slice da dn dc,.slice wa k wcap]),(w.heap.size+1,[.slice ga m gcap]),(w.heap.size,[.slice a n cap])],c≠y.1 from fun y hy=>by
   simp only[List.mem_cons,List.not_mem_nil,or_false] at hy
   have hcB:c≠B:=fun e=>by
    have h1:=hI.az.ce 0 0 rfl rfl
    obtain⟨_,_,e2,_⟩:=hI.slice (r:=⟨30,11,v0,(asmD ⟨pre.map (dZ_ ss (memG (gsE es))),[]⟩).shapes.length,ssC (asmD ⟨pre.map (dZ_ ss (memG (gsE es))),[]⟩).shapes⟩) (by unfold sdR;simp)
    simp only at e2
    rw[e,hBx.row 0 _ rfl,e2] at h1
    cases h1
   have hc2:=HCW.out.2.2
   rcases hy with rfl|rfl|rfl|rfl|rfl <;> simp only <;> omega)
  clear hI hlt hBx hnB hxd hl6 hr
  gi_wp2
  refine rM_ ?_
  gi_upto_if 53 with (first
   | (refine⟨trivial,?_⟩;gi_at_call 36;(with_reducible refine(CallsIn.inRound l (callsIn_wide.2 (KP2.out x _ H7.out.mo.az.bw))).mono ?_);rintro e w8 ⟨rfl,hb8⟩;have H8:=Lib.hid ((H7.out.below hb8).push (shC (orZ (parK ss x))) 30);clear hb8)
   | (gi_at_builtin;obtain⟨v',W',hrun,hm,hg,hat⟩:=uL_ HP6.out.mo (⟨x.code,x.kind,zRc,zPl,zPl,x.word⟩:Sh) W.heap.size 1 (by simp) (by have:=HL6.out.1;omega) 32;obtain⟨b7,c7,e7,-⟩:=hm.slice (r:=⟨30,11,v',(xd.shapes++[(⟨x.code,x.kind,zRc,zPl,zPl,x.word⟩:Sh)]).length,ssC (xd.shapes++[(⟨x.code,x.kind,zRc,zPl,zPl,x.word⟩:Sh)])⟩) (by unfold sdR;simp);try simp only at e7;obtain⟨n7,hn7⟩:∃n7,n7=(xd.shapes++[(⟨x.code,x.kind,zRc,zPl,zPl,x.word⟩:Sh)]).length:=⟨_,rfl⟩;rw[←hn7] at e7;subst e7;clear hn7;refine dN_ rfl _ _ _ rfl rfl rfl hrun ?_;have z7:=hm.az.ce 0 0 rfl rfl;have f7:=hm.az.cf 0 0 rfl rfl;have H7:=Lib.hid (HP6.out.put (i:=0) (r:=⟨30,11,v0,xd.shapes.length,ssC xd.shapes⟩) (r':=⟨30,11,.slice b7 n7 c7,(xd.shapes++[(⟨x.code,x.kind,zRc,zPl,zPl,x.word⟩:Sh)]).length,ssC (xd.shapes++[(⟨x.code,x.kind,zRc,zPl,zPl,x.word⟩:Sh)])⟩) hm hg hat rfl (by unfold sdR;simp) rfl (by unfold sdR;simp) rfl rfl rfl HCW.out.1 HCW.out.2.1 HDS.out);have x0:=H7.out.mo.az.ce 5 0 rfl rfl;obtain⟨y0,y1,y2,y3,y4,y5,y6,y7,y8,y9,y10⟩:=H7.out.mo.az.sh 2 rfl;clear hm hg hat hrun)
   | fail)
  obtain⟨xe,hxe⟩:∃xe:SD,xe = { xd with shapes:=xd.shapes++[(⟨x.code,x.kind,zRc,zPl,zPl,x.word⟩:Sh)] }:=⟨_,rfl⟩
  rw[←hxe] at H8
  have HXE:=Lib.hid hxe
  obtain⟨qp,hqp⟩:∃q,q=(parK ss x).isSome:=⟨_,rfl⟩
  rw[←hqp]
  have HQP:=Lib.hid hqp
  have HLE:=Lib.hid (show xe.inside.length≤1000∧xe.member.length≤1000 from by rw[hxe];exact HL6.out.2)
  clear hxe hqp H6 HP6 z0 x0 x1 y0 y1 y2 y3 y4 y5 y6 y7 y8 y9 y10
  obtain⟨po,hpo⟩:∃po,po=orZ (parK ss x):=⟨_,rfl⟩
  rw[←hpo] at H8⊢
  obtain⟨w9,hw9⟩:∃w9,w9=w8.alloc (.cells (shC po).toArray 30):=⟨_,rfl⟩
  obtain⟨B8,hB8⟩:∃B,B=w8.heap.size:=⟨_,rfl⟩
  rw[←hw9,←hB8] at H8⊢
  have HPO:=Lib.hid hpo
  clear hpo hw9 hB8
  gi_cut [] from 54 (fun wX=>∃v1':Value,SayAt c W3.heap.size [.slice b7 n7 c7,v1',v2,.slice none 0 0] (sdR (.slice b7 n7 c7) v1' v2 (.slice none 0 0) (sdI xe x.code (optC (parK ss x)))) [(B,shC x),(w.heap.size+1+1,[.slice da dn dc,.slice wa k wcap]),(w.heap.size+1,[.slice ga m gcap]),(w.heap.size,[.slice a n cap])] W w wX)
  case first=>
   cases qp with
   | false=>
    have HN:=Lib.hid (show parK ss x=none from by cases h:parK ss x with|none=>rfl|some p=>have:=HQP.out;rw[h] at this;cases this)
    gi_wp2
    gi_meet
    have e:sdI xe x.code (optC (parK ss x))=xe:=by rw[HN.out];rfl
    exact⟨v1,by rw[e];exact H8.out.sub (fun y hy=>List.mem_cons_of_mem _ (List.mem_cons_of_mem _ hy))⟩
   | true=>
    obtain⟨pz,hpz⟩:∃pz,parK ss x=some pz:=by
     cases h:parK ss x with
     | none=>have:=HQP.out;rw[h] at this;cases this
     | some p=>exact⟨p,rfl⟩
    have HE:=Lib.hid (show sdI xe x.code (optC (parK ss x)) = { xe with inside:=xe.inside++[(x.code,po.code)] } from by rw[HPO.out,hpz];rfl)
    have h8:=H8.out.sub (L':=[(B,shC x),(w.heap.size+1+1,[.slice da dn dc,.slice wa k wcap]),(w.heap.size+1,[.slice ga m gcap]),(w.heap.size,[.slice a n cap])]) (fun y hy=>List.mem_cons_of_mem _ (List.mem_cons_of_mem _ hy))
    have hc9:=h8.szc
    have HD9:=Lib.hid (show ∀y∈[(w9.heap.size,[Value.int .i64 x.code,.int .i64 po.code]),(B,shC x),(w.heap.size+1+1,[.slice da dn dc,.slice wa k wcap]),(w.heap.size+1,[.slice ga m gcap]),(w.heap.size,[.slice a n cap])],c≠y.1 from fun y hy=>by
     rcases List.mem_cons.1 hy with rfl|hy
     ·simp only;omega
     ·exact HDS.out y (List.mem_cons_of_mem _ hy))
    have HP9:=Lib.hid (h8.push [.int .i64 x.code,.int .i64 po.code] 58)
    have z1:=H8.out.mo.az.ce 0 1 rfl rfl
    have y0:=H8.out.mo.az.ce 3 0 rfl rfl
    have p0:=H8.out.mo.az.ce 1 0 rfl rfl
    clear hpz h8 hc9
    gi_wp2_with (first
     | (gi_at_builtin;obtain⟨v',W',hrun,hm,hg,hat⟩:=uK_ HP9.out.mo (x.code,po.code) w9.heap.size 1 (by simp) (by have:=HLE.out.1;omega) 24;obtain⟨b9,c9,e9,-⟩:=hm.slice (r:=⟨58,2,v',(xe.inside++[(x.code,po.code)]).length,psC (xe.inside++[(x.code,po.code)])⟩) (by unfold sdR;simp);try simp only at e9;obtain⟨n9,hn9⟩:∃n9,n9=(xe.inside++[(x.code,po.code)]).length:=⟨_,rfl⟩;rw[←hn9] at e9;subst e9;clear hn9;refine dN_ rfl _ _ _ rfl rfl rfl hrun ?_;have z9:=hm.az.ce 0 1 rfl rfl;have f9:=hm.az.cf 0 1 rfl rfl;have H10:=Lib.hid (HP9.out.put (i:=1) (r:=⟨58,2,v1,xe.inside.length,psC xe.inside⟩) (r':=⟨58,2,.slice b9 n9 c9,(xe.inside++[(x.code,po.code)]).length,psC (xe.inside++[(x.code,po.code)])⟩) hm hg hat rfl (by unfold sdR;simp) rfl (by unfold sdR;simp) rfl rfl rfl HCW.out.1 HCW.out.2.1 HD9.out);clear hm hg hat hrun)
     | fail)
    gi_meet
    exact⟨_,by rw[HE.out];exact H10.out.sub (fun y hy=>List.mem_cons_of_mem _ hy)⟩
  case rest=>
  obtain⟨v1',h11⟩:=hcut
  have H11:=Lib.hid h11
  have x4:=h11.mo.az.ce 3 0 rfl rfl
  clear h11 H8
  gi_wp2
  refine wpIn_label ?_
  gi_wp2
  obtain⟨xi,hxi⟩:∃xi,xi=sdI xe x.code (optC (parK ss x)):=⟨_,rfl⟩
  rw[←hxi] at H11
  have HXI:=Lib.hid hxi
  clear hxi
  gi_loopw [66] (fun v66 wr=>∃g:Nat,g≤m∧v66=.int .i64 (g:Int)∧Hid (∀(j:Nat) (e:Ge),j<g→es[j]?=some e→x.code ∉ e.g.mem)∧SayAt c W3.heap.size [.slice b7 n7 c7,v1',v2,.slice none 0 0] (sdR (.slice b7 n7 c7) v1' v2 (.slice none 0 0) xi) [(B,shC x),(w.heap.size+1+1,[.slice da dn dc,.slice wa k wcap]),(w.heap.size+1,[.slice ga m gcap]),(w.heap.size,[.slice a n cap])] W w wr) (fun v66 _=>m-(intOf v66).toNat)
  case atStart=>exact⟨0,Nat.zero_le _,rfl,Lib.hid (fun j e h=>absurd h (Nat.not_lt_zero _)),H11.out⟩
  case round=>
   obtain⟨g,hg,rfl,HNO,h12⟩:=hrel
   have H12:=Lib.hid h12
   clear h12 H11
   by_cases hgm:g<m
   case neg=>
    obtain rfl:g=m:=by omega
    have t9:decide ((g:Int)<(g:Int))=false:=decide_eq_false (by omega)
    gi_wp2
    have hmg:memG (gsE es) x.code=none:=wB_ (by rw[HNN.out.2.1];exact HNO.out)
    have hI2:asmD ⟨(pre++[x]).map (dZ_ ss (memG (gsE es))),[]⟩=xi:=by rw[xS_,hmg,HXI.out,HXE.out,HXD.out];rfl
    refine⟨H12.out.ko.from _,H12.out.kp,.slice b7 n7 c7,v1',v2,?_,H12.out.kp.lt HLT.out⟩
    rw[hI2]
    exact(H12.out.sub (fun y hy=>List.mem_cons_of_mem _ hy)).mo
   case pos=>
    obtain⟨⟨⟨gid,gof,gm⟩,ea,ec⟩,he⟩:∃e,es[g]?=some e:=⟨es[g]'(by rw[HNN.out.2.1];exact hgm),List.getElem?_eq_getElem _⟩
    obtain⟨gb,go,hga,hgb,q0,q1,q2,hcs⟩:=(HGS.out.below H12.out.mo.az.bw).ge he
    subst hga
    have HE:=Lib.hid he
    have HCS:=Lib.hid hcs
    have hml:gm.length≤1000:=(HIN.out.mem _ (List.mem_of_getElem? he)).2.2.1
    have hml2:m≤1000:=by have:=HIN.out.len;have:=HNN.out.2.1;omega
    have HML:=Lib.hid (And.intro hml hml2)
    have H13:=Lib.hid (H12.out.push [.int .i64 gid,.int .i64 gof,.slice ea gm.length ec] 43)
    have p0:=H13.out.mo.az.ce 1 2 rfl rfl
    have i1:(0:Int)≤(g:Int):=by omega
    have i2:(g:Int)<(m:Int):=by omega
    clear he hcs hml hml2
    gi_wp2
    obtain⟨w13,hw13⟩:∃V,V=wr.alloc (.cells [.int .i64 gid,.int .i64 gof,.slice ea gm.length ec].toArray 43):=⟨_,rfl⟩
    obtain⟨G13,hG13⟩:∃V,V=wr.heap.size:=⟨_,rfl⟩
    have HCG:=Lib.hid (show c≠G13 from by have:=H12.out.szc;omega)
    have hbw:Below wr.heap.size wr w13:=by rw[hw13];exact(Below.refl _ _).alloc (Nat.le_refl _) _
    have HCS2:=Lib.hid (show CsAt ea (icC gm) w13 from HCS.out.below hbw)
    rw[←hw13,←hG13] at H13⊢
    clear hw13 hG13 p0 hbw HCS q0 q1 q2
    gi_loopw [73] (fun v73 wq=>∃j:Nat,j≤gm.length∧v73=.int .i64 (j:Int)∧Hid (∀i:Nat,i<j→gm[i]?≠some x.code)∧Hid (Below w13.heap.size w13 wq)∧SayAt c W3.heap.size [.slice b7 n7 c7,v1',v2,.slice none 0 0] (sdR (.slice b7 n7 c7) v1' v2 (.slice none 0 0) xi) [(G13,[.int .i64 gid,.int .i64 gof,.slice ea gm.length ec]),(B,shC x),(w.heap.size+1+1,[.slice da dn dc,.slice wa k wcap]),(w.heap.size+1,[.slice (some ⟨gb,go,none⟩) m gcap]),(w.heap.size,[.slice a n cap])] W w wq) (fun v73 _=>gm.length-(intOf v73).toNat)
    case atStart=>exact⟨0,Nat.zero_le _,rfl,Lib.hid (fun i h=>absurd h (Nat.not_lt_zero _)),Lib.hid (Below.refl _ _),H13.out⟩
    case round=>
     obtain⟨j,hj,rfl,HNJ,HBQ,h14⟩:=hrel
     have H14:=Lib.hid h14
     clear h14
     by_cases hjm:j<gm.length
     case neg=>
      have hje:j=gm.length:=by omega
      have t9:decide ((j:Int)<(gm.length:Int))=false:=decide_eq_false (by omega)
      clear H13
      gi_wp2
      have hb2:=HML.out.2
      rw[wrap64_in ((g:Int)+1) (by omega)]
      refine⟨⟨g+1,by omega,by go_num,Lib.hid (fun j' e' hj' he'=>?_),H14.out.sub (fun y hy=>List.mem_cons_of_mem _ hy)⟩,by simp only[intOf];omega⟩
      by_cases hlt:j'<g
      ·exact HNO.out j' e' hlt he'
      ·obtain rfl:j'=g:=by omega
       rw[HE.out] at he'
       cases he'
       intro hm
       obtain⟨i,hi,hi2⟩:=List.mem_iff_getElem.1 hm
       exact HNJ.out i (by rw[hje];exact hi) (by rw[List.getElem?_eq_getElem hi];exact congrArg some hi2)
     case pos=>
      obtain⟨cm,hcm⟩:∃cm,gm[j]?=some cm:=⟨gm[j],List.getElem?_eq_getElem hjm⟩
      obtain⟨mb,mo,hma,hmb,hmc⟩:=(HCS2.out.below HBQ.out).row j (.int .i64 cm) (by unfold icC;rw[List.getElem?_map,hcm];rfl)
      subst hma
      have i3:(0:Int)≤(j:Int):=by omega
      have i4:(j:Int)<(gm.length:Int):=by omega
      have y0:=H14.out.mo.az.ce 2 0 rfl rfl
      have HCM:=Lib.hid hcm
      clear hcm
      by_cases hx:cm=x.code
      case neg=>
       have t8:(cm==x.code)=false:=beq_eq_false_iff_ne.2 hx
       clear H13
       gi_wp2
       have hb2:=HML.out.1
       rw[wrap64_in ((j:Int)+1) (by omega)]
       refine⟨⟨j+1,by omega,by go_num,Lib.hid (fun i hi=>?_),HBQ,H14.out⟩,by simp only[intOf];omega⟩
       by_cases hlt:i<j
       ·exact HNJ.out i hlt
       ·obtain rfl:i=j:=by omega
        rw[HCM.out]
        intro h
        exact hx (Option.some.inj h)
      case pos=>
       subst hx
       have t8:(x.code==x.code)=true:=beq_self_eq_true _
       have HMG:=Lib.hid (show memG (gsE es) x.code=some gid from wA_ HNO.out HE.out (List.mem_of_getElem? HCM.out))
       have hsz:=H14.out.szc
       have HD15:=Lib.hid (show ∀y∈[(wr.heap.size,[Value.int .i64 x.code,.int .i64 gid]),(G13,[.int .i64 gid,.int .i64 gof,.slice (some ⟨mb,mo,none⟩) gm.length ec]),(B,shC x),(w.heap.size+1+1,[.slice da dn dc,.slice wa k wcap]),(w.heap.size+1,[.slice (some ⟨gb,go,none⟩) m gcap]),(w.heap.size,[.slice a n cap])],c≠y.1 from fun y hy=>by
        rcases List.mem_cons.1 hy with rfl|hy
        ·simp only;omega
        ·rcases List.mem_cons.1 hy with rfl|hy
         ·exact HCG.out
         ·exact HDS.out y (List.mem_cons_of_mem _ hy))
       have HP15:=Lib.hid (H14.out.push [.int .i64 x.code,.int .i64 gid] 58)
       have z1:=H14.out.mo.az.ce 0 2 rfl rfl
       have g0:=H14.out.mo.az.ce 1 0 rfl rfl
       have hlm:xi.member.length≤1000:=by
        have e:xi.member=xe.member:=by rw[HXI.out];unfold sdI;split <;> rfl
        rw[e];exact HLE.out.2
       have HLM:=Lib.hid hlm
       clear hsz hlm H13
       gi_wp2_with (first
        | (gi_at_builtin;obtain⟨v',W',hrun,hm,hg,hat⟩:=uJ_ HP15.out.mo (x.code,gid) wr.heap.size 1 (by simp) (by have:=HLM.out;omega) 24;obtain⟨b9,c9,e9,-⟩:=hm.slice (r:=⟨58,2,v',(xi.member++[(x.code,gid)]).length,psC (xi.member++[(x.code,gid)])⟩) (by unfold sdR;simp);try simp only at e9;obtain⟨n9,hn9⟩:∃n9,n9=(xi.member++[(x.code,gid)]).length:=⟨_,rfl⟩;rw[←hn9] at e9;subst e9;clear hn9;refine dN_ rfl _ _ _ rfl rfl rfl hrun ?_;have z9:=hm.az.ce 0 2 rfl rfl;have f9:=hm.az.cf 0 2 rfl rfl;have H16:=Lib.hid (HP15.out.put (i:=2) (r:=⟨58,2,v2,xi.member.length,psC xi.member⟩) (r':=⟨58,2,.slice b9 n9 c9,(xi.member++[(x.code,gid)]).length,psC (xi.member++[(x.code,gid)])⟩) hm hg hat rfl (by unfold sdR;simp) rfl (by unfold sdR;simp) rfl rfl rfl HCW.out.1 HCW.out.2.1 HD15.out);clear hm hg hat hrun)
        | fail)
       have hI2:asmD ⟨(pre++[x]).map (dZ_ ss (memG (gsE es))),[]⟩ = { xi with member:=xi.member++[(x.code,gid)] }:=by rw[xS_,HMG.out,HXI.out,HXE.out,HXD.out];rfl
       refine⟨H16.out.ko.from _,H16.out.kp,.slice b7 n7 c7,v1',.slice b9 n9 c9,?_,H16.out.kp.lt HLT.out⟩
       rw[hI2]
       exact(H16.out.sub (fun y hy=>List.mem_cons_of_mem _ (List.mem_cons_of_mem _ (List.mem_cons_of_mem _ hy)))).mo
 case done=>
  intro D' ys W hD hys ⟨v0,v1,v2,hI,hlt⟩ hK
  subst hys
  obtain⟨xr,hxr⟩:∃xr,xr=asmD ⟨(rdx ss 0).map (dZ_ ss (memG (gsE es))),[]⟩:=⟨_,rfl⟩
  rw[←hxr] at hI
  have HXR:=Lib.hid hxr
  have H6:=Lib.hid (SayAt.start hI:SayAt c W3.heap.size _ _ _ W w W)
  have HK:=Lib.hid (And.intro hK (show c<D' by have:=HSZ.out;omega))
  have x0:=hI.az.ce 1 1 rfl rfl
  have hk40:k≤40:=by
   have:=HQ.out.1
   have:=of_decide_eq_false this.symm
   omega
  clear hI hlt hxr hK hD
  gi_wp2
  rw[←wpIn_wide (n:=9)]
  gi_wp2
  gi_loopw [96] (fun v96 wr=>∃(j:Nat) (v3:Value),j≤k∧v96=.int .i64 (j:Int)∧SayAt c W3.heap.size [v0,v1,v2,v3] (sdR v0 v1 v2 v3 { xr with leads:=(ls.take j).map ldW }) [(w.heap.size+1+1,[.slice da dn dc,.slice wa k wcap]),(w.heap.size+1,[.slice ga m gcap]),(w.heap.size,[.slice a n cap])] W w wr) (fun v96 _=>k-(intOf v96).toNat)
  case atStart=>exact⟨0,_,Nat.zero_le _,rfl,by
   have e:({ xr with leads:=(ls.take 0).map ldW } : SD)=xr:=by rw[HXR.out];rfl
   rw[e];exact H6.out⟩
  case round=>
   obtain⟨j,v3,hj,rfl,h7⟩:=hrel
   have H7:=Lib.hid h7
   clear h7 H6
   by_cases hjk:j<k
   case neg=>
    have hje:j=k:=by omega
    have t9:decide ((j:Int)<(k:Int))=false:=decide_eq_false (by omega)
    obtain⟨xs,hxs⟩:∃xs,xs=eN_ ss es ls:=⟨_,rfl⟩
    have h7:=H7.out
    have e7:({ xr with leads:=(ls.take j).map ldW } : SD)=xs:=by
     rw[hje,←HNN.out.2.2,List.take_length,HXR.out,hxs];rfl
    rw[e7] at h7
    obtain⟨b0,c0,e0,s0,l0⟩:=h7.mo.slice (r:=⟨30,11,v0,xs.shapes.length,ssC xs.shapes⟩) (by unfold sdR;simp)
    obtain⟨b1,c1,e1,s1,-⟩:=h7.mo.slice (r:=⟨58,2,v1,xs.inside.length,psC xs.inside⟩) (by unfold sdR;simp)
    obtain⟨b2,c2,e2,s2,-⟩:=h7.mo.slice (r:=⟨58,2,v2,xs.member.length,psC xs.member⟩) (by unfold sdR;simp)
    obtain⟨b3,c3,e3,s3,-⟩:=h7.mo.slice (r:=⟨59,3,v3,xs.leads.length,tsC xs.leads⟩) (by unfold sdR;simp)
    simp only at e0 e1 e2 e3 s0 s1 s2 s3 l0
    subst e0 e1 e2 e3
    have hlr:(rdx ss 0).length≤60:=by rw[HL.out.rdx_perm.length_eq];exact cR_ hl
    have hbb:SdB c0 xs:=by
     rw[hxs] at l0⊢
     refine⟨⟨?_,l0⟩,?_,?_,?_⟩
     ·show(List.map _ (List.map _ _)).length≤_;rw[List.length_map,List.length_map];omega
     ·refine Nat.le_trans (List.length_filterMap_le _ _) ?_;show(List.map _ _).length≤_;rw[List.length_map];omega
     ·refine Nat.le_trans (List.length_filterMap_le _ _) ?_;show(List.map _ _).length≤_;rw[List.length_map];omega
     ·show(List.map _ _).length≤_;rw[List.length_map,HNN.out.2.2];omega
    have KT:=Lib.hid (tX_ (a0:=b0) (a1:=b1) (a2:=b2) (a3:=b3) (c0:=c0) (c1:=c1) (c2:=c2) (c3:=c3) xs hbb wr ⟨ShsAt.of s0,PrsAt.of s1,PrsAt.of s2,TrsAt.of s3⟩ (HT.out.below h7.mo.az.bw))
    obtain⟨en,hen⟩:∃en:Int,en=if cF_ xs then 0 else 270:=⟨_,rfl⟩
    rw[←hen] at KT
    have HEN:=Lib.hid hen
    have z0:=h7.mo.az.ce 0 0 rfl rfl
    have z1:=h7.mo.az.ce 0 1 rfl rfl
    have z2:=h7.mo.az.ce 0 2 rfl rfl
    have z3:=h7.mo.az.ce 0 3 rfl rfl
    have H8:=Lib.hid h7
    have HXS:=Lib.hid hxs
    clear h7 e7 s0 s1 s2 s3 l0 hbb hxs H7 hlr hen
    gi_wp2_with (first
     | (refine⟨trivial,?_⟩;gi_at_call 27;(with_reducible refine(callsIn_wide.2 KT.out).mono ?_);rintro e w9 ⟨rfl,hb9⟩;have H9:=Lib.hid (H8.out.below hb9);clear hb9)
     | fail)
    have hK9:=H9.out.ko.same D' _ HK.out.1 rfl
    refine⟨by simp,.inl ⟨_,_,rfl,run_takeDeferred hK9,?_⟩⟩
    have H10:=H9.out.mo.kept (fun x hx=>by
     simp only[List.mem_cons,List.not_mem_nil,or_false] at hx
     rcases hx with rfl|rfl|rfl|rfl <;> simp) (grownBy_putObj' w9 D' (.deferred none)) (fun r e=>by cases e;have:=HSZ.out;have:=HK.out.2;omega) (fun r e=>by cases e;exact⟨_,hK9,rfl⟩)
    refine⟨.tuple #[.string (mW_ xs),.int .i64 en],?_,?_,H10.az.bw⟩
    ·simp[results,Tryz.results16,go_sem]
    ·unfold sayR;rw[HR.out,HEN.out,HXS.out];rfl
   case pos=>
    obtain⟨⟨wc,ws,wo,wd,wi,wy⟩,hx⟩:∃x,ls[j]?=some x:=⟨ls[j]'(by rw[HNN.out.2.2];exact hjk),List.getElem?_eq_getElem _⟩
    obtain⟨wb,wof,hwa,hwb,hwc⟩:=(HW.out.below H7.out.mo.az.bw).row j _ hx
    subst hwa
    have q0:wr.cell? ⟨wb,wof+j*6,none⟩=some (.int .i64 wc):=hwc 0 _ rfl
    have q1:=hwc 1 _ rfl
    have q2:=hwc 2 _ rfl
    have q3:=hwc 3 _ rfl
    have q4:=hwc 4 _ rfl
    have q5:=hwc 5 _ rfl
    have H8:=Lib.hid (H7.out.push [.int .i64 wc,.int .i64 ws,.int .i64 wo,.int .i64 wd,.int .i64 wi,.int .i64 wy] 45)
    have z3:=H8.out.mo.az.ce 0 3 rfl rfl
    have y0:=H8.out.mo.az.ce 1 0 rfl rfl
    have y1:=H8.out.mo.az.ce 1 1 rfl rfl
    have y3:=H8.out.mo.az.ce 1 3 rfl rfl
    have i1:(0:Int)≤(j:Int):=by omega
    have i2:(j:Int)<(k:Int):=by omega
    have HX:=Lib.hid hx
    clear hx hwc
    have hsz:=H7.out.szc
    have h2c:=HCW.out.2.2
    have HD9:=Lib.hid (show ∀y∈[(wr.heap.size+1,[Value.int .i64 wc,.int .i64 ws,.int .i64 wd]),(wr.heap.size,[.int .i64 wc,.int .i64 ws,.int .i64 wo,.int .i64 wd,.int .i64 wi,.int .i64 wy]),(w.heap.size+1+1,[.slice da dn dc,.slice (some ⟨wb,wof,none⟩) k wcap]),(w.heap.size+1,[.slice ga m gcap]),(w.heap.size,[.slice a n cap])],c≠y.1 from fun y hy=>by
     simp only[List.mem_cons,List.not_mem_nil,or_false] at hy
     rcases hy with rfl|rfl|rfl|rfl|rfl <;> simp only <;> omega)
    have hp9:=H8.out.push [.int .i64 wc,.int .i64 ws,.int .i64 wd] 59
    simp only[World.size_alloc] at hp9
    have HP9:=Lib.hid hp9
    have e8:({ xr with leads:=(ls.take j).map ldW } : SD).leads.length=j:=by show(List.map _ _).length=_;rw[List.length_map,List.length_take,HNN.out.2.2];omega
    have HE8:=Lib.hid (And.intro e8 hk40)
    clear hsz h2c e8 hp9
    gi_wp2_with (first
     | (gi_at_builtin;obtain⟨v',W',hrun,hm,hg,hat⟩:=uI_ HP9.out.mo (wc,ws,wd) (wr.heap.size+1) 1 (by simp) (by have:=HE8.out;omega) 60;obtain⟨b9,c9,e9,-⟩:=hm.slice (r:=⟨59,3,v',((ls.take j).map ldW++[(wc,ws,wd)]).length,tsC ((ls.take j).map ldW++[(wc,ws,wd)])⟩) (by unfold sdR;simp);try simp only at e9;obtain⟨n9,hn9⟩:∃n9,n9=((ls.take j).map ldW++[(wc,ws,wd)]).length:=⟨_,rfl⟩;rw[←hn9] at e9;subst e9;clear hn9;refine dN_ rfl _ _ _ rfl rfl rfl hrun ?_;have z9:=hm.az.ce 0 3 rfl rfl;have f9:=hm.az.cf 0 3 rfl rfl;have H10:=Lib.hid (HP9.out.put (i:=3) (r:=⟨59,3,v3,((ls.take j).map ldW).length,tsC ((ls.take j).map ldW)⟩) (r':=⟨59,3,.slice b9 n9 c9,((ls.take j).map ldW++[(wc,ws,wd)]).length,tsC ((ls.take j).map ldW++[(wc,ws,wd)])⟩) hm hg hat rfl (by unfold sdR;simp) rfl (by unfold sdR;simp) rfl rfl rfl HCW.out.1 HCW.out.2.1 HD9.out);clear hm hg hat hrun)
     | fail)
    have e9:ls.take (j+1)=ls.take j++[⟨wc,ws,wo,wd,wi,wy⟩]:=by rw[List.take_add_one,HX.out];rfl
    refine⟨⟨j+1,.slice b9 n9 c9,by omega,by go_num,?_⟩,by simp only[intOf];omega⟩
    rw[e9,List.map_append]
    exact H10.out.sub (fun y hy=>List.mem_cons_of_mem _ (List.mem_cons_of_mem _ hy))
 case stop=>exact fun D' c pre W _ _ h _=>h.elim
end Go.Proofs.YtdkaohphbgdkpaaGreatDoor
namespace Go.Proofs.YtdkaohphbgdkpaaGreatDoor
open Go.RowKit Go.Shelf Go.Sort
deriving instance DecidableEq for It
deriving instance DecidableEq for St
deriving instance DecidableEq for HR
def exA:Sh:=⟨7,2,⟨100,300,800,400⟩,zPl,zPl,⟨#[]⟩⟩
def exB:Sh:=⟨8,3,⟨100,0,800,200⟩,zPl,zPl,⟨#[]⟩⟩
def exC:Sh:=⟨9,4,⟨200,400,50,50⟩,zPl,zPl,⟨#[78]⟩⟩
def exD:Sh:=⟨10,2,⟨1000,300,800,400⟩,zPl,zPl,⟨#[]⟩⟩
def exL:List Sh:=[exA,exB,exC,exD]
def exGr (G:Nat):List Ge:=[⟨⟨4,-1,[9]⟩,some ⟨G,0,none⟩,1⟩]
def exW:List Wr:=[⟨8,7,0,10,0,0⟩]
def exSD:SD:=⟨[⟨8,3,zRc,zPl,zPl,⟨#[]⟩⟩,⟨7,2,zRc,zPl,zPl,⟨#[]⟩⟩,⟨9,4,zRc,zPl,zPl,⟨#[78]⟩⟩,⟨10,2,zRc,zPl,zPl,⟨#[]⟩⟩],[(9,7)],[(9,4)],[(8,7,10)]⟩
def exT:ByteArray:=⟨#[97,114,114,111,119,32,56,46,32,98,111,120,32,55,46,32,108,101,116,116,101,114,32,57,32,114,101,97,100,115,32,78,32,105,110,32,55,32,111,102,32,103,114,111,117,112,32,52,46,32,98,111,120,32,49,48,46,32,97,114,114,111,119,32,56,32,108,101,97,100,115,32,102,114,111,109,32,55,32,116,111,32,49,48,46]⟩
def exU:ByteArray:=⟨#[98,111,120,32,55,46,32,108,101,116,116,101,114,32,57,32,114,101,97,100,115,32,78,32,105,110,32,56,46]⟩
theorem xE_:bI_ exL=true:=by decide +kernel
theorem xF_:Dist exL:=by
 unfold Dist exL
 simp[exA,exB,exC,exD]
theorem aAZ:kH_ exL=[8,7,9,10]:=by decide +kernel
theorem aEG (G:Nat):eN_ exL (exGr G) exW=exSD:=by
 have e:gsE (exGr G)=[⟨4,-1,[9]⟩]:=rfl
 unfold eN_
 rw[e]
 decide +kernel
theorem aAY:bJ_ [⟨4,-1,[9]⟩]=true:=by decide +kernel
theorem aEF (G:Nat):sayB exL (exGr G) exW=true:=by
 have e:gsE (exGr G)=[⟨4,-1,[9]⟩]:=rfl
 unfold sayB
 rw[e,aAY,xE_]
 rfl
theorem qY_:cF_ exSD=true:=by decide +kernel
theorem xD_:mW_ exSD=exT:=by decide +kernel
theorem xC_:bI_ [⟨0,0,zRc,zPl,zPl,⟨#[]⟩⟩]=false:=by decide +kernel
theorem ex_p9:eU_ exL 9=(7,true,0):=by decide +kernel
theorem ex_p7:eU_ exL 7=(0,false,0):=by decide +kernel
theorem ex_say (G:Nat):sayR exL (exGr G) exW=.tuple #[.string exT,.int .i64 0]:=by
 unfold sayR
 rw[aEF,aEG,xD_,qY_]
 rfl
theorem aEH:∃st,eA_ ⟨[],[]⟩ 0 exT.data.toList=.ok st∧asmD st=exSD:=by
 refine⟨⟨[⟨3,8,[],none,none⟩,⟨2,7,[],none,none⟩,⟨4,9,[78],some 7,some 4⟩,⟨2,10,[],none,none⟩],[(8,7,10)]⟩,by decide +kernel,by decide +kernel⟩
theorem ex_bad:eA_ ⟨[],[]⟩ 0 exU.data.toList=.bad 1:=by decide +kernel
theorem ex_no:decide (exSD=⟨[],[],[],[]⟩)=false:=by decide +kernel
end Go.Proofs.YtdkaohphbgdkpaaGreatDoor
namespace Go.Proofs.YtdkaohphbgdkpaaGreatDoor
open Go.RowKit Go.Shelf Go.Sort
attribute [local go_sem] Oper.semAt_some
theorem GsAt.one {G R:Nat} {W:World} (g:Gr) (h1:ArAt R [.int .i64 g.id,.int .i64 g.of,.slice (some ⟨G,0,none⟩) g.mem.length 1] W) (h2:ArAt G (icC g.mem) W):GsAt (some ⟨R,0,none⟩) [⟨g,some ⟨G,0,none⟩,1⟩] W:=⟨fun k e he=>by
 cases k with
 | zero=>
  cases he
  exact⟨R,0,rfl,h1.sz,fun j v hv=>by rw[show 0+0*3+j=j by omega];exact h1.row j v hv,CsAt.of_ar h2⟩
 | succ k=>simp at he⟩
theorem WrsAt.one {R:Nat} {W:World} (x:Wr) (h1:ArAt R (wrC x) W):WrsAt (some ⟨R,0,none⟩) [x] W:=⟨fun k e he=>by
 cases k with
 | zero=>
  cases he
  exact⟨R,0,rfl,h1.sz,fun j v hv=>by rw[show 0+0*6+j=j by omega];exact h1.row j v hv⟩
 | succ k=>simp at he⟩
structure ExP (w:World) (e:Ending) (W':World):Prop where
 h:∃B G M R:Nat,e=.returned (.tuple #[.slice (some ⟨B,0,none⟩) 4 4,.slice (some ⟨G,0,none⟩) 1 1,.agg #[.slice none 0 0,.slice (some ⟨R,0,none⟩) 1 1]])∧ShsAt (some ⟨B,0,none⟩) exL W'∧GsAt (some ⟨G,0,none⟩) (exGr M) W'∧WrsAt (some ⟨R,0,none⟩) exW W'
 bw:Below w.heap.size w W'
theorem xB_ (w:World):Calls Tryz.prog 31 #[] w (ExP w):=by
 have h0:=(((((AzAt.start w).push [.slice none 0 0,.slice (some ⟨w.heap.size+1+1+1+1,0,none⟩) 1 1] 39).push (ssC exL) 30).push [.int .i64 9] 3).push [.int .i64 4,.int .i64 (-1),.slice (some ⟨w.heap.size+1+1,0,none⟩) 1 1] 43).push [.int .i64 8,.int .i64 7,.int .i64 0,.int .i64 10,.int .i64 0,.int .i64 0] 45
 simp only[World.size_alloc] at h0
 have HX:=Lib.hid (show ExP w (.returned (.tuple #[.slice (some ⟨w.heap.size+1,0,none⟩) 4 4,.slice (some ⟨w.heap.size+1+1+1,0,none⟩) 1 1,.agg #[.slice none 0 0,.slice (some ⟨w.heap.size+1+1+1+1,0,none⟩) 1 1]])) _ from
  ⟨⟨w.heap.size+1,w.heap.size+1+1+1,w.heap.size+1+1,w.heap.size+1+1+1+1,rfl,ShsAt.of (CsAt.of_ar (h0.row (w.heap.size+1,ssC exL) (.tail _ (.tail _ (.tail _ (.head _)))))),GsAt.one ⟨4,-1,[9]⟩ (h0.row (_,_) (by simp)) (h0.row (_,_) (by simp)),WrsAt.one ⟨8,7,0,10,0,0⟩ (h0.row (_,_) (by simp))⟩,h0.bw⟩)
 clear h0
 go_enter Tryz.func31,Tryz.ntmps31
 go_wp2
 refine bodyPost_ret (v:=.tuple #[.slice (some ⟨w.heap.size+1,0,none⟩) 4 4,.slice (some ⟨w.heap.size+1+1+1,0,none⟩) 1 1,.agg #[.slice none 0 0,.slice (some ⟨w.heap.size+1+1+1+1,0,none⟩) 1 1]]) ?_ rfl HX.out
 simp[results,Tryz.results31,go_sem,Result.andThen]
def OkW (W:World):Prop:=(IOps W∧FrOp W)∧GlobE W∧Glob W∧MaxW W
theorem OkW.below {w w':World} (h:OkW w) (hb:Below w.heap.size w w'):OkW w':=⟨⟨h.1.1.below hb,h.1.2.under hb⟩,h.2.1.below hb,h.2.2.1.below hb,h.2.2.2.below hb⟩
theorem sd_of {v0 v1 v2 v3:Value} {x:SD} {w W:World} (h:MoAt (sdR v0 v1 v2 v3 x) [] w W):∃a0 c0 a1 c1 a2 c2 a3 c3,v0=.slice a0 x.shapes.length c0∧v1=.slice a1 x.inside.length c1∧v2=.slice a2 x.member.length c2∧v3=.slice a3 x.leads.length c3∧SdAt a0 a1 a2 a3 x W∧x.shapes.length≤c0:=by
 obtain⟨b0,c0,e0,s0,l0⟩:=h.slice (r:=⟨30,11,v0,x.shapes.length,ssC x.shapes⟩) (by unfold sdR;simp)
 obtain⟨b1,c1,e1,s1,-⟩:=h.slice (r:=⟨58,2,v1,x.inside.length,psC x.inside⟩) (by unfold sdR;simp)
 obtain⟨b2,c2,e2,s2,-⟩:=h.slice (r:=⟨58,2,v2,x.member.length,psC x.member⟩) (by unfold sdR;simp)
 obtain⟨b3,c3,e3,s3,-⟩:=h.slice (r:=⟨59,3,v3,x.leads.length,tsC x.leads⟩) (by unfold sdR;simp)
 exact⟨b0,c0,b1,c1,b2,c2,b3,c3,e0,e1,e2,e3,⟨ShsAt.of s0,PrsAt.of s1,PrsAt.of s2,TrsAt.of s3⟩,l0⟩
theorem exg_in (M:Nat):GeIn (exGr M):=⟨by unfold exGr;simp,fun e he=>by
 unfold exGr at he
 rw[List.mem_singleton.1 he]
 refine⟨show(-9223372036854775808:Int)≤4∧(4:Int)≤9223372036854775807 by decide,show(-9223372036854775808:Int)≤-1∧(-1:Int)≤9223372036854775807 by decide,by simp,fun c hc=>?_⟩
 simp only[List.mem_singleton] at hc
 subst hc
 unfold aC_;decide⟩
theorem jJ_:exSD.shapes.length≤1000000∧exSD.inside.length≤1000000∧exSD.member.length≤1000000∧exSD.leads.length≤1000000:=by decide
theorem ex_KO {B c:Nat} (W:World) (hq:OkW W) (hS:ShsAt (some ⟨B,0,none⟩) exL W):Calls Tryz.prog 18 #[.slice (some ⟨B,0,none⟩) 4 c] W fun e W'=>∃b cp,e=.returned (.tuple #[.slice b 4 cp,.int .i64 0])∧CsAt b (icC [8,7,9,10]) W'∧Below W.heap.size W W':=by
 have:=pB_ (cap:=c) (ss:=exL) (n:=4) rfl (by omega) W hS hq.1 (fun _=>xF_)
 rw[aAZ,xE_] at this
 exact this
theorem ex_KZ (W:World) (hq:OkW W):Calls Tryz.prog 18 #[.slice (some ⟨W.heap.size,0,none⟩) 1 1] (W.alloc (.cells #[.int .i64 0,.int .i64 0,.int .i64 0,.int .i64 0,.int .i64 0,.int .i64 0,.int .i64 0,.int .i64 0,.int .i64 0,.int .i64 0,.string ⟨#[]⟩] 30)) fun e W'=>(∃b cp,e=.returned (.tuple #[.slice b 0 cp,.int .i64 270]))∧Below W.heap.size W W':=by
 have hb:Below W.heap.size W (W.alloc (.cells #[.int .i64 0,.int .i64 0,.int .i64 0,.int .i64 0,.int .i64 0,.int .i64 0,.int .i64 0,.int .i64 0,.int .i64 0,.int .i64 0,.string ⟨#[]⟩] 30)):=(Below.refl _ _).alloc (Nat.le_refl _) _
 have:=pB_ (cap:=1) (ss:=[⟨0,0,zRc,zPl,zPl,⟨#[]⟩⟩]) (n:=1) rfl (by omega) _ (ShsAt.of (CsAt.of_ar (ArAt.mk' W (ssC [⟨0,0,zRc,zPl,zPl,⟨#[]⟩⟩]) 30))) (hq.below hb).1 (fun h=>by rw[xC_] at h;cases h)
 unfold kH_ at this
 rw[xC_] at this
 refine this.mono ?_
 rintro e W' ⟨b,cp,h1,_,h2⟩
 exact⟨⟨b,cp,h1⟩,hb.trans (h2.mono hb.size)⟩
theorem ex_KS {B G M R c gc wc:Nat} (W:World) (hq:OkW W) (hS:ShsAt (some ⟨B,0,none⟩) exL W) (hG:GsAt (some ⟨G,0,none⟩) (exGr M) W) (hW:WrsAt (some ⟨R,0,none⟩) exW W):Calls Tryz.prog 16 #[.slice (some ⟨B,0,none⟩) 4 c,.slice (some ⟨G,0,none⟩) 1 gc,.agg #[.slice none 0 0,.slice (some ⟨R,0,none⟩) 1 wc]] W fun e W'=>e=.returned (.tuple #[.string exT,.int .i64 0])∧Below W.heap.size W W':=by
 have:=say_s (cap:=c) (gcap:=gc) (wcap:=wc) (ss:=exL) (es:=exGr M) (ls:=exW) (dv:=.slice none 0 0) (n:=4) (m:=1) (k:=1) rfl (by omega) rfl rfl (exg_in M) (by omega) W hS hG hW hq.1 hq.2.2.1 (fun _=>xF_) ⟨_,_,_,rfl⟩
 rw[ex_say] at this
 exact this
theorem ex_KH (W:World) (hq:OkW W):Calls Tryz.prog 24 #[.string exT] W fun e W'=>(∃a0 c0 a1 c1 a2 c2 a3 c3,e=.returned (.tuple #[.agg #[.slice a0 4 c0,.slice a1 1 c1,.slice a2 1 c2,.slice a3 1 c3],.int .i64 85,.int .i64 0])∧SdAt a0 a1 a2 a3 exSD W'∧4≤c0)∧Below W.heap.size W W':=by
 refine(yC_ exT (by decide) W hq.2.1 hq.2.2.1 hq.2.2.2).mono ?_
 intro e W' h
 obtain⟨st,h1,h2⟩:=aEH
 unfold eO_ at h
 rw[h1] at h
 obtain⟨v0,v1,v2,v3,rfl,hm⟩:=h
 rw[h2] at hm
 have hb:=hm.az.bw
 obtain⟨a0,c0,a1,c1,a2,c2,a3,c3,rfl,rfl,rfl,rfl,hs,hc⟩:=sd_of hm
 exact⟨⟨a0,c0,a1,c1,a2,c2,a3,c3,rfl,hs,hc⟩,hb⟩
theorem ex_KU (W:World) (hq:OkW W):Calls Tryz.prog 24 #[.string exU] W fun e W'=>e=.returned (.tuple #[.agg #[.slice none 0 0,.slice none 0 0,.slice none 0 0,.slice none 0 0],.int .i64 1,.int .i64 270])∧Below W.heap.size W W':=by
 refine(yC_ exU (by decide) W hq.2.1 hq.2.2.1 hq.2.2.2).mono ?_
 intro e W' h
 unfold eO_ at h
 rw[ex_bad] at h
 exact h
theorem ex_KT {a0 a1 a2 a3:Option Addr} {c0 c1 c2 c3:Nat} (W:World) (hq:OkW W) (hS:SdAt a0 a1 a2 a3 exSD W) (hc:4≤c0):Calls Tryz.prog 27 #[.agg #[.slice a0 4 c0,.slice a1 1 c1,.slice a2 1 c2,.slice a3 1 c3]] W fun e W'=>e=.returned (.tuple #[.string exT,.int .i64 0])∧Below W.heap.size W W':=by
 have:=tX_ (c0:=c0) (c1:=c1) (c2:=c2) (c3:=c3) exSD ⟨⟨jJ_.1,hc⟩,jJ_.2.1,jJ_.2.2.1,jJ_.2.2.2⟩ W hS hq.2.2.1
 rw[xD_,qY_] at this
 exact this
theorem ex_KP9 {B c:Nat} (W:World) (hq:OkW W) (hS:ShsAt (some ⟨B,0,none⟩) exL W):Calls Tryz.prog 21 #[.slice (some ⟨B,0,none⟩) 4 c,.int .i64 9] W fun e W'=>e=.returned (.tuple #[.int .i64 7,.bool true,.int .i64 0])∧Below W.heap.size W W':=by
 have:=iW_ (cap:=c) 9 (ss:=exL) (n:=4) rfl (by omega) W hS hq.1
 rw[ex_p9] at this
 exact this
theorem ex_KP7 {B c:Nat} (W:World) (hq:OkW W) (hS:ShsAt (some ⟨B,0,none⟩) exL W):Calls Tryz.prog 21 #[.slice (some ⟨B,0,none⟩) 4 c,.int .i64 7] W fun e W'=>e=.returned (.tuple #[.int .i64 0,.bool false,.int .i64 0])∧Below W.heap.size W W':=by
 have:=iW_ (cap:=c) 7 (ss:=exL) (n:=4) rfl (by omega) W hS hq.1
 rw[ex_p7] at this
 exact this
theorem aEI:(⟨(List.append [97,114,114,111,119,32,56,46,32,98,111,120,32,55,46,32,108,101,116,116,101,114,32,57,32,114,101,97,100,115,32,78,32,105,110,32,55,32,111,102,32,103] [114,111,117,112,32,52,46,32,98,111,120,32,49,48,46,32,97,114,114,111,119,32,56,32,108,101,97,100,115,32,102,114,111,109,32,55,32,116,111,32,49,48,46]).toArray⟩:ByteArray)=exT:=rfl
theorem aBA:exT.size=85:=by decide
theorem xG_:(exT.size:Int)=85:=by rw[aBA];rfl
theorem ex_KI {b:Option Addr} {cp B:Nat} (W V:World) (hb:Below W.heap.size W V) (hS:CsAt b (icC [8,7,9,10]) W) (hV:CsAt (some ⟨B,0,none⟩) (icC [8,7,9,10]) V):Calls Tryz.prog 20 #[.slice b 4 cp,.slice (some ⟨B,0,none⟩) 4 4] V fun e W'=>e=.returned (.bool true)∧Below V.heap.size V W':=by
 have:=aCF (c:=cp) (d:=4) (n:=4) (m:=4) rfl rfl (by omega) V (hS.below hb) hV
 exact this
theorem ex_KR {a0 a1 a2 a3 b0 b1 b2 b3:Option Addr} {c0 c1 c2 c3 d0 d1 d2 d3:Nat} (W:World) (hS:SdAt a0 a1 a2 a3 exSD W) (hV:SdAt b0 b1 b2 b3 exSD W):Calls Tryz.prog 26 #[.agg #[.slice a0 4 c0,.slice a1 1 c1,.slice a2 1 c2,.slice a3 1 c3],.agg #[.slice b0 4 d0,.slice b1 1 d1,.slice b2 1 d2,.slice b3 1 d3]] W fun e W'=>e=.returned (.bool true)∧Below W.heap.size W W':=by
 have:=qM_ (c0:=c0) (c1:=c1) (c2:=c2) (c3:=c3) (d0:=d0) (d1:=d1) (d2:=d2) (d3:=d3) exSD exSD jJ_ W hS hV
 rw[decide_eq_true rfl] at this
 exact this
theorem ex_KQ {a0 a1 a2 a3 b0 b1 b2 b3:Option Addr} {c0 c1 c2 c3 d0 d1 d2 d3:Nat} (W:World) (hS:SdAt a0 a1 a2 a3 exSD W) (hV:SdAt b0 b1 b2 b3 exSD W):Calls Tryz.prog 29 #[.agg #[.slice a0 4 c0,.slice a1 1 c1,.slice a2 1 c2,.slice a3 1 c3],.agg #[.slice b0 4 d0,.slice b1 1 d1,.slice b2 1 d2,.slice b3 1 d3]] W fun e W'=>e=.returned (.bool true)∧Below W.heap.size W W':=by
 have:=aBZ (c0:=c0) (c1:=c1) (c2:=c2) (c3:=c3) (d0:=d0) (d1:=d1) (d2:=d2) (d3:=d3) exSD exSD jJ_ W hS hV
 rw[decide_eq_true rfl] at this
 exact this
theorem ex_KN {a0 a1 a2 a3:Option Addr} {c0 c1 c2 c3:Nat} (W:World) (hS:SdAt a0 a1 a2 a3 exSD W):Calls Tryz.prog 29 #[.agg #[.slice a0 4 c0,.slice a1 1 c1,.slice a2 1 c2,.slice a3 1 c3],.agg #[.slice none 0 0,.slice none 0 0,.slice none 0 0,.slice none 0 0]] W fun e W'=>e=.returned (.bool false)∧Below W.heap.size W W':=by
 have:=aBZ (b0:=none) (b1:=none) (b2:=none) (b3:=none) (c0:=c0) (c1:=c1) (c2:=c2) (c3:=c3) (d0:=0) (d1:=0) (d2:=0) (d3:=0) exSD ⟨[],[],[],[]⟩ jJ_ W hS ⟨⟨fun k s h=>by simp at h⟩,⟨fun k s h=>by simp at h⟩,⟨fun k s h=>by simp at h⟩,⟨fun k s h=>by simp at h⟩⟩
 rw[ex_no] at this
 exact this
theorem lM_ {w:World} (hq:OkW w):Calls Tryz.prog 11 #[] w fun e w'=>e=.returned (.bool true)∧Below w.heap.size w w':=by
 have HX:=Lib.hid (show ExAt [] OkW w w from⟨AzAt.start w,hq,fun A C h hb=>h.below hb⟩)
 clear hq
 go_enter Tryz.func11,Tryz.ntmps11
 go_upto_region 2 with (first
  | (go_at_call 31;(with_reducible refine(xB_ w).mono ?_);rintro e u1 ⟨⟨B,G,M,R,rfl,hs,hg,hw⟩,hb⟩;have H1:=Lib.hid (((((HX.out.below hb).add (Q:=ShsAt (some ⟨B,0,none⟩) exL) hs (fun A C h k=>h.below k)).add (Q:=GsAt (some ⟨G,0,none⟩) (exGr M)) hg (fun A C h k=>h.below k)).add (Q:=WrsAt (some ⟨R,0,none⟩) exW) hw (fun A C h k=>h.below k)).push [.slice none 0 0,.slice (some ⟨R,0,none⟩) 1 1] 39);clear hs hg hw hb)
  | fail)
 obtain⟨W1,hW1⟩:∃V,V=u1.alloc (.cells #[.slice none 0 0,.slice (some ⟨R,0,none⟩) 1 1] 39):=⟨_,rfl⟩
 obtain⟨N1,hN1⟩:∃V,V=u1.heap.size:=⟨_,rfl⟩
 rw[←hW1,←hN1] at H1⊢
 clear hW1 hN1 HX
 go_upto_region 5 with (first
  | (go_at_call 24;(with_reducible refine(ex_KH _ H3.out.p.1.1.1.1).mono ?_);rintro e u4 ⟨⟨a0,c0,a1,c1,a2,c2,a3,c3,rfl,hs,hc⟩,hb⟩;have H4:=Lib.hid (((H3.out.below hb).add (Q:=SdAt a0 a1 a2 a3 exSD) hs (fun A C h k=>h.below k)).push [.slice a0 4 c0,.slice a1 1 c1,.slice a2 1 c2,.slice a3 1 c3] 62);have HC:=Lib.hid hc;clear hs hb hc n0 n1)
  | (go_at_call 16;(with_reducible refine(ex_KS _ H2.out.p.1.1.1.1 H2.out.p.1.1.1.2 H2.out.p.1.1.2 H2.out.p.1.2).mono ?_);rintro e u3 ⟨rfl,hb⟩;have H3:=Lib.hid (H2.out.below hb);clear hb)
  | (go_at_call 18;(with_reducible refine(ex_KO _ H1.out.p.1.1.1 H1.out.p.1.1.2).mono ?_);rintro e u2 ⟨b,cp,rfl,hc,hb⟩;have H2:=Lib.hid ((H1.out.below hb).add (Q:=CsAt b (icC [8,7,9,10])) hc (fun A C h k=>h.below k));clear hc hb;have n0:=H2.out.az.ce 0 0 rfl rfl;have n1:=H2.out.az.ce 0 1 rfl rfl)
  | fail)
 obtain⟨W4,hW4⟩:∃V,V=u4.alloc (.cells #[.slice a0 4 c0,.slice a1 1 c1,.slice a2 1 c2,.slice a3 1 c3] 62):=⟨_,rfl⟩
 obtain⟨N4,hN4⟩:∃V,V=u4.heap.size:=⟨_,rfl⟩
 rw[←hW4,←hN4] at H4⊢
 clear hW4 hN4 H1 H2 H3
 have y0:=H4.out.az.ce 0 0 rfl rfl
 have y1:=H4.out.az.ce 0 1 rfl rfl
 have y2:=H4.out.az.ce 0 2 rfl rfl
 have y3:=H4.out.az.ce 0 3 rfl rfl
 have eU:exU=⟨#[98,111,120,32,55,46,32,108,101,116,116,101,114,32,57,32,114,101,97,100,115,32,78,32,105,110,32,56,46]⟩:=rfl
 have HU:=Lib.hid eU
 clear eU
 go_upto_region 7 with (first
  | (go_at_call 27;(with_reducible refine(ex_KT _ H4.out.p.1.1.1.1.1 H4.out.p.2 HC.out).mono ?_);rintro e u5 ⟨rfl,hb⟩;have H5:=Lib.hid (H4.out.below hb);clear hb y0 y1 y2 y3)
  | (go_at_call 24;rw[←HU.out];(with_reducible refine(ex_KU _ H5.out.p.1.1.1.1.1).mono ?_);rintro e u6 ⟨rfl,hb⟩;have H6:=Lib.hid ((H5.out.below hb).push [.slice none 0 0,.slice none 0 0,.slice none 0 0,.slice none 0 0] 62);clear hb)
  | fail)
 obtain⟨W6,hW6⟩:∃V,V=u6.alloc (.cells #[.slice none 0 0,.slice none 0 0,.slice none 0 0,.slice none 0 0] 62):=⟨_,rfl⟩
 obtain⟨N6,hN6⟩:∃V,V=u6.heap.size:=⟨_,rfl⟩
 rw[←hW6,←hN6] at H6⊢
 clear hW6 hN6 H4 H5
 go_upto_region 10 with (first
  | (go_at_call 18;(with_reducible refine(ex_KZ _ H8.out.p.1.1.1.1.1).mono ?_);rintro e u9 ⟨⟨zb,zc,rfl⟩,hb⟩;have H9:=Lib.hid (H8.out.below hb);clear hb)
  | (go_at_call 21;(with_reducible refine(ex_KP7 _ H7.out.p.1.1.1.1.1 H7.out.p.1.1.1.1.2).mono ?_);rintro e u8 ⟨rfl,hb⟩;have H8:=Lib.hid (H7.out.below hb);clear hb)
  | (go_at_call 21;(with_reducible refine(ex_KP9 _ H6.out.p.1.1.1.1.1 H6.out.p.1.1.1.1.2).mono ?_);rintro e u7 ⟨rfl,hb⟩;have H7:=Lib.hid (H6.out.below hb);clear hb)
  | fail)
 clear H6 H7 H8
 go_upto_region 14 with fail
 rw[aEI]
 have h13:=((((H9.out.push (ssC exSD.shapes) 30).push [.int .i64 9,.int .i64 7] 58).push [.int .i64 9,.int .i64 4] 58).push [.int .i64 8,.int .i64 7,.int .i64 10] 59).push [.slice (some ⟨u9.heap.size,0,none⟩) 4 4,.slice (some ⟨u9.heap.size+1,0,none⟩) 1 1,.slice (some ⟨u9.heap.size+1+1,0,none⟩) 1 1,.slice (some ⟨u9.heap.size+1+1+1,0,none⟩) 1 1] 62
 simp only[World.size_alloc] at h13
 have h13s:=h13.add (Q:=SdAt (some ⟨u9.heap.size,0,none⟩) (some ⟨u9.heap.size+1,0,none⟩) (some ⟨u9.heap.size+1+1,0,none⟩) (some ⟨u9.heap.size+1+1+1,0,none⟩) exSD) ⟨ShsAt.of (CsAt.of_ar (h13.az.row (u9.heap.size,ssC exSD.shapes) (.tail _ (.tail _ (.tail _ (.tail _ (.head _))))))),PrsAt.of (CsAt.of_ar (h13.az.row (_,_) (.tail _ (.tail _ (.tail _ (.head _)))))),PrsAt.of (CsAt.of_ar (h13.az.row (_,_) (.tail _ (.tail _ (.head _))))),TrsAt.of (CsAt.of_ar (h13.az.row (_,_) (.tail _ (.head _))))⟩ (fun A C h k=>h.below k)
 obtain⟨W13,hW13⟩:∃V,V=((((u9.alloc (.cells (ssC exSD.shapes).toArray 30)).alloc (.cells [.int .i64 9,.int .i64 7].toArray 58)).alloc (.cells [.int .i64 9,.int .i64 4].toArray 58)).alloc (.cells [.int .i64 8,.int .i64 7,.int .i64 10].toArray 59)).alloc (.cells [.slice (some ⟨u9.heap.size,0,none⟩) 4 4,.slice (some ⟨u9.heap.size+1,0,none⟩) 1 1,.slice (some ⟨u9.heap.size+1+1,0,none⟩) 1 1,.slice (some ⟨u9.heap.size+1+1+1,0,none⟩) 1 1].toArray 62):=⟨_,rfl⟩
 rw[←hW13] at h13s
 have H13:=Lib.hid h13s
 have eW:((((u9.alloc (.cells #[.int .i64 8,.int .i64 3,.int .i64 0,.int .i64 0,.int .i64 0,.int .i64 0,.int .i64 0,.int .i64 0,.int .i64 0,.int .i64 0,.string ⟨#[]⟩,.int .i64 7,.int .i64 2,.int .i64 0,.int .i64 0,.int .i64 0,.int .i64 0,.int .i64 0,.int .i64 0,.int .i64 0,.int .i64 0,.string ⟨#[]⟩,.int .i64 9,.int .i64 4,.int .i64 0,.int .i64 0,.int .i64 0,.int .i64 0,.int .i64 0,.int .i64 0,.int .i64 0,.int .i64 0,.string ⟨#[78]⟩,.int .i64 10,.int .i64 2,.int .i64 0,.int .i64 0,.int .i64 0,.int .i64 0,.int .i64 0,.int .i64 0,.int .i64 0,.int .i64 0,.string ⟨#[]⟩] 30)).alloc (.cells #[.int .i64 9,.int .i64 7] 58)).alloc (.cells #[.int .i64 9,.int .i64 4] 58)).alloc (.cells #[.int .i64 8,.int .i64 7,.int .i64 10] 59)).alloc (.cells #[.slice (some ⟨u9.heap.size,0,none⟩) 4 4,.slice (some ⟨u9.heap.size+1,0,none⟩) 1 1,.slice (some ⟨u9.heap.size+1+1,0,none⟩) 1 1,.slice (some ⟨u9.heap.size+1+1+1,0,none⟩) 1 1] 62)=W13:=hW13.symm
 rw[eW]
 clear eW hW13 h13 h13s H9
 generalize u9.heap.size=Q at *
 have H14:=Lib.hid (H13.out.push [.int .i64 8,.int .i64 7,.int .i64 9,.int .i64 10] 3)
 have KI:=Lib.hid (ex_KI (b:=b) (cp:=cp) (B:=W13.heap.size) W13 (W13.alloc (.cells #[.int .i64 8,.int .i64 7,.int .i64 9,.int .i64 10] 3)) ((Below.refl _ _).alloc (Nat.le_refl _) _) H13.out.p.1.1.2 (CsAt.of_ar (ArAt.mk' W13 (icC [8,7,9,10]) 3)))
 have hsz:=xG_
 have hTT:(exT.toList==exT.toList)=true:=beq_self_eq_true _
 go_wp2_with (first
  | (have _:=H17;go_at_call 29;(with_reducible refine(ex_KN _ H17.out.p.1.2).mono ?_);rintro e u18 ⟨rfl,hb⟩;have H18:=Lib.hid (H17.out.below hb);clear hb)
  | (have _:=H16;go_at_call 29;(with_reducible refine(ex_KQ _ H16.out.p.1.2 H16.out.p.2).mono ?_);rintro e u17 ⟨rfl,hb⟩;have H17:=Lib.hid (H16.out.below hb);clear hb;have y0:=H17.out.az.ce 7 0 rfl rfl;have y1:=H17.out.az.ce 7 1 rfl rfl;have y2:=H17.out.az.ce 7 2 rfl rfl;have y3:=H17.out.az.ce 7 3 rfl rfl)
  | (have _:=H15;go_at_call 26;(with_reducible refine(ex_KR _ H15.out.p.1.2 H15.out.p.2).mono ?_);rintro e u16 ⟨rfl,hb⟩;have H16:=Lib.hid (H15.out.below hb);clear hb;have y0:=H16.out.az.ce 7 0 rfl rfl;have y1:=H16.out.az.ce 7 1 rfl rfl;have y2:=H16.out.az.ce 7 2 rfl rfl;have y3:=H16.out.az.ce 7 3 rfl rfl;have z0:=H16.out.az.ce 1 0 rfl rfl;have z1:=H16.out.az.ce 1 1 rfl rfl;have z2:=H16.out.az.ce 1 2 rfl rfl;have z3:=H16.out.az.ce 1 3 rfl rfl)
  | (go_at_call 20;(with_reducible refine(KI.out).mono ?_);rintro e u14 ⟨rfl,hb⟩;have H15:=Lib.hid (H14.out.below hb);clear hb;have y0:=H15.out.az.ce 7 0 rfl rfl;have y1:=H15.out.az.ce 7 1 rfl rfl;have y2:=H15.out.az.ce 7 2 rfl rfl;have y3:=H15.out.az.ce 7 3 rfl rfl;have z0:=H15.out.az.ce 1 0 rfl rfl;have z1:=H15.out.az.ce 1 1 rfl rfl;have z2:=H15.out.az.ce 1 2 rfl rfl;have z3:=H15.out.az.ce 1 3 rfl rfl)
  | fail)
 go_ret
 exact⟨rfl,H18.out.az.bw⟩
def memK (ss:List Sh) (xs:List Int) (j i:Nat):List Int:=(((ss.zip xs).take i).filter fun p=>decide (aI_ p.2 4=j)).map fun p=>p.1.code
def pJ_ (ss:List Sh) (xs:List Int):List Gr:=[⟨0,-1,memK ss xs 0 (min ss.length xs.length)⟩,⟨4,0,memK ss xs 1 (min ss.length xs.length)⟩,⟨9,-1,memK ss xs 2 (min ss.length xs.length)⟩]
theorem vZ_ {ss:List Sh} {xs:List Int} {i j:Nat} {s:Sh} {x:Int} (hs:ss[i]?=some s) (hx:xs[i]?=some x):memK ss xs j (i+1)=memK ss xs j i++(if aI_ x 4=j then [s.code] else []):=by
 have hz:(ss.zip xs)[i]?=some (s,x):=by rw[List.getElem?_zip_eq_some];exact⟨hs,hx⟩
 unfold memK
 rw[List.take_add_one,hz,Option.toList_some,List.filter_append,List.map_append]
 congr 1
 by_cases h:aI_ x 4=j
 ·rw[if_pos h,List.filter_cons_of_pos (by simpa using h)];rfl
 ·rw[if_neg h,List.filter_cons_of_neg (by simpa using h)];rfl
theorem iF_ (ss:List Sh) (xs:List Int) (j i:Nat):(memK ss xs j i).length≤i:=by
 unfold memK
 rw[List.length_map]
 exact Nat.le_trans (List.length_filter_le _ _) (by rw[List.length_take];exact Nat.min_le_left _ _)
def GrP (ss:List Sh) (xs:List Int) (w:World) (e:Ending) (W':World):Prop:=(∃(G:Nat) (es:List Ge),e=.returned (.slice (some ⟨G,0,none⟩) 3 3)∧es.length=3∧gsE es=pJ_ ss xs∧GsAt (some ⟨G,0,none⟩) es W')∧Below w.heap.size w W'
theorem sQ_ {G:Nat} {a0 a1 a2:Option Addr} {c0 c1 c2:Nat} {i0 o0 i1 o1 i2 o2:Int} {m0 m1 m2:List Int} {W:World} (h:ArAt G [.int .i64 i0,.int .i64 o0,.slice a0 m0.length c0,.int .i64 i1,.int .i64 o1,.slice a1 m1.length c1,.int .i64 i2,.int .i64 o2,.slice a2 m2.length c2] W) (h0:CsAt a0 (icC m0) W) (h1:CsAt a1 (icC m1) W) (h2:CsAt a2 (icC m2) W) :
  GsAt (some ⟨G,0,none⟩) [⟨⟨i0,o0,m0⟩,a0,c0⟩,⟨⟨i1,o1,m1⟩,a1,c1⟩,⟨⟨i2,o2,m2⟩,a2,c2⟩] W:=⟨fun k e he=>by
 match k,he with
 | 0,he=>
  cases he
  exact⟨G,0,rfl,h.sz,fun j v hv=>by
   match j,hv with
   | 0,hv=>cases hv;exact h.row 0 _ rfl
   | 1,hv=>cases hv;exact h.row 1 _ rfl
   | 2,hv=>cases hv;exact h.row 2 _ rfl
   | j+3,hv=>simp at hv,h0⟩
 | 1,he=>
  cases he
  exact⟨G,0,rfl,h.sz,fun j v hv=>by
   match j,hv with
   | 0,hv=>cases hv;exact h.row 3 _ rfl
   | 1,hv=>cases hv;exact h.row 4 _ rfl
   | 2,hv=>cases hv;exact h.row 5 _ rfl
   | j+3,hv=>simp at hv,h1⟩
 | 2,he=>
  cases he
  exact⟨G,0,rfl,h.sz,fun j v hv=>by
   match j,hv with
   | 0,hv=>cases hv;exact h.row 6 _ rfl
   | 1,hv=>cases hv;exact h.row 7 _ rfl
   | 2,hv=>cases hv;exact h.row 8 _ rfl
   | j+3,hv=>simp at hv,h2⟩
 | k+3,he=>simp at he⟩
theorem kS_ {a b:Option Addr} {m n c d:Nat} {ss:List Sh} {xs:List Int} (hm:ss.length=m) (hm9:m≤9) (hn:xs.length=n) (hlo:∀x∈xs,inI x) (w:World) (hS:ShsAt a ss w) (hX:CsAt b (icC xs) w) :
  Calls Tryz.prog 13 #[.slice a m c,.slice b n d] w (GrP ss xs w):=by
 have hmx:Tryz.prog.follows .mixedOrders=true:=by kernel_rfl
 have HP:=Lib.hid (And.intro hS (And.intro hX (And.intro hlo (And.intro hm hn))))
 have KK:=Lib.hid (show ∀(c:Int) (h0:inI c) (W:World),Calls Tryz.prog 32 #[.int .i64 c,.int .i64 4] W fun e W'=>e=.returned (.int .i64 (aI_ c 4:Nat))∧Below W.heap.size W W' from fun c h0 W=>hZ_ c 4 h0.1 h0.2 (by decide) (by decide) W)
 have hmo:=(((MoAt.start (AzAt.start w)).addNil 3 1).addNil 3 1).addNil 3 1
 have H0:=Lib.hid (hmo.push [.int .i64 0,.int .i64 (-1),.slice none 0 0,.int .i64 4,.int .i64 0,.slice none 0 0,.int .i64 9,.int .i64 (-1),.slice none 0 0] 43)
 clear hS hX hlo hm hn hmo
 go_enter Tryz.func13,Tryz.ntmps13
 go_wp2
 obtain⟨W0,hW0⟩:∃V,V=w.alloc (.cells #[.int .i64 0,.int .i64 (-1),.slice none 0 0,.int .i64 4,.int .i64 0,.slice none 0 0,.int .i64 9,.int .i64 (-1),.slice none 0 0] 43):=⟨_,rfl⟩
 obtain⟨G,hG⟩:∃V,V=w.heap.size:=⟨_,rfl⟩
 have HG:=Lib.hid (show w.heap.size≤G by omega)
 rw[←hW0,←hG] at H0⊢
 clear hW0 hG
 go_loopw [6] (fun v6 wr=>∃(i:Nat) (a0 a1 a2:Option Addr) (n0 n1 n2 c0 c1 c2:Nat),i≤m∧i≤n∧v6=.int .i64 (i:Int)∧Hid (n0=(memK ss xs 0 i).length∧n1=(memK ss xs 1 i).length∧n2=(memK ss xs 2 i).length)∧MoAt [⟨3,1,.slice a0 n0 c0,n0,icC (memK ss xs 0 i)⟩,⟨3,1,.slice a1 n1 c1,n1,icC (memK ss xs 1 i)⟩,⟨3,1,.slice a2 n2 c2,n2,icC (memK ss xs 2 i)⟩] [(G,[.int .i64 0,.int .i64 (-1),.slice a0 n0 c0,.int .i64 4,.int .i64 0,.slice a1 n1 c1,.int .i64 9,.int .i64 (-1),.slice a2 n2 c2])] w wr) (fun v6 _=>9-(intOf v6).toNat)
 case atStart=>exact⟨0,none,none,none,0,0,0,0,0,0,Nat.zero_le _,Nat.zero_le _,rfl,Lib.hid ⟨rfl,rfl,rfl⟩,H0.out⟩
 case round=>
  obtain⟨i,a0,a1,a2,n0,n1,n2,c0,c1,c2,him,hin,rfl,HN,ho⟩:=hrel
  have H1:=Lib.hid ho
  clear ho H0
  by_cases hlt:i<m∧i<n
  case neg=>
   have HE:=Lib.hid (show i=min ss.length xs.length by rw[HP.out.2.2.2.1,HP.out.2.2.2.2];omega)
   have HQ:=Lib.hid (show GrP ss xs w (.returned (.slice (some ⟨G,0,none⟩) 3 3)) wr from by
    have h:=H1.out
    obtain⟨h0,h1,h2⟩:=HN.out
    rw[HE.out] at h h0 h1 h2
    have s0:=h.slice (r:=⟨3,1,.slice a0 n0 c0,n0,icC (memK ss xs 0 (min ss.length xs.length))⟩) (by simp)
    have s1:=h.slice (r:=⟨3,1,.slice a1 n1 c1,n1,icC (memK ss xs 1 (min ss.length xs.length))⟩) (by simp)
    have s2:=h.slice (r:=⟨3,1,.slice a2 n2 c2,n2,icC (memK ss xs 2 (min ss.length xs.length))⟩) (by simp)
    obtain⟨_,_,e0,s0,-⟩:=s0
    obtain⟨_,_,e1,s1,-⟩:=s1
    obtain⟨_,_,e2,s2,-⟩:=s2
    cases e0
    cases e1
    cases e2
    subst h0 h1 h2
    exact⟨⟨G,_,rfl,rfl,rfl,sQ_ (h.az.row (_,_) List.mem_cons_self) s0 s1 s2⟩,h.az.bw⟩)
   clear HE
   by_cases hmi:i<m
   ·have h2:¬i<n:=fun h=>hlt ⟨hmi,h⟩
    have t1:decide ((i:Int)<(m:Int))=true:=decide_eq_true (by omega)
    have t2:decide ((i:Int)<(n:Int))=false:=decide_eq_false (by omega)
    go_wp2
    go_ret
    exact HQ.out
   ·have t1:decide ((i:Int)<(m:Int))=false:=decide_eq_false (by omega)
    go_wp2
    go_ret
    exact HQ.out
  obtain⟨hlm,hln⟩:=hlt
  obtain⟨s,hs⟩:∃s,ss[i]?=some s:=⟨ss[i]'(by rw[HP.out.2.2.2.1];exact hlm),List.getElem?_eq_getElem _⟩
  obtain⟨x,hx⟩:∃x,xs[i]?=some x:=⟨xs[i]'(by rw[HP.out.2.2.2.2];exact hln),List.getElem?_eq_getElem _⟩
  have hxi:=HP.out.2.2.1 x (List.mem_of_getElem? hx)
  have KX:=Lib.hid (fun W:World=>KK.out x hxi W)
  have hk:=aV_ x (n:=4) (by decide)
  have HM:=Lib.hid (fun j:Nat=>vZ_ (j:=j) hs hx)
  obtain⟨sb,so,hsa,hsb,x0,-⟩:=HP.out.1.sh hs
  subst hsa
  obtain⟨xb,xo,hxa,hxb,y0⟩:=HP.out.2.1.row i (.int .i64 x) (by unfold icC;rw[List.getElem?_map,hx];rfl)
  subst hxa
  have HB:=Lib.hid (And.intro hsb (And.intro x0 (And.intro hxb y0)))
  have q0:=(H1.out.az.bw.cell (p:=⟨xb,xo+i,none⟩) hxb).trans y0
  generalize aI_ x 4=pk at *
  have i1:(0:Int)≤(i:Int):=by omega
  have i2:(i:Int)<(m:Int):=by omega
  have i3:(i:Int)<(n:Int):=by omega
  have t1:decide ((i:Int)<(m:Int))=true:=decide_eq_true i2
  have t2:decide ((i:Int)<(n:Int))=true:=decide_eq_true i3
  clear hs hx hxi x0 y0 hxb hsb KK
  go_upto_if 30 with (first
   | (go_at_call 32;(with_reducible refine(KX.out _).mono ?_);rintro e u1 ⟨rfl,hb1⟩;have H2:=Lib.hid (H1.out.below hb1);clear hb1)
   | fail)
  clear H1 q0
  have hlen0:=iF_ ss xs 0 i
  have hlen1:=iF_ ss xs 1 i
  have hlen2:=iF_ ss xs 2 i
  have HLE:=Lib.hid (show n0≤9∧n1≤9∧n2≤9 from by obtain⟨h0,h1,h2⟩:=HN.out;omega)
  clear hlen0 hlen1 hlen2
  rcases(show pk=0∨pk=1∨pk=2∨pk=3 from by omega) with rfl|rfl|rfl|rfl
  ·have HR:=Lib.hid (H2.out)
   have e0:=HM.out 0
   have e1:=HM.out 1
   have e2:=HM.out 2
   rw[if_pos rfl] at e0
   rw[if_neg (by decide)] at e1
   rw[if_neg (by decide)] at e2
   have HE:=Lib.hid (And.intro e0 (And.intro e1 e2))
   clear e0 e1 e2
   go_upto_region 7 with fail
   have HBG:=Lib.hid (show G<u1.heap.size from(H2.out.az.row (G,_) List.mem_cons_self).sz)
   have HBB:=Lib.hid (show ∀y∈[(u1.heap.size,[Value.int .i64 s.code])],G≠y.1 from fun y hy=>by
    rw[List.mem_singleton.1 hy]
    have:=HBG.out
    simp only
    omega)
   have HA:=Lib.hid (HR.out.drew.push [.int .i64 s.code] 3)
   have p0:=(H2.out.az.bw.cell (p:=⟨sb,so+i*11,none⟩) HB.out.1).trans HB.out.2.1
   have g0:=H2.out.az.ce 0 2 rfl rfl
   have hGu:=HBG.out
   first|(go_region_law (first
    | (refine fE_ rfl (.tmp 37) (.tmp 43) rfl HA.out s.code u1.heap.size 1 List.mem_cons_self (by have:=HLE.out;omega) rfl rfl ?_;intro b9 c9 w9 h9;have HJ:=Lib.hid ((h9).sub (L':=(G,[.int .i64 0,.int .i64 (-1),.slice a0 n0 c0,.int .i64 4,.int .i64 0,.slice a1 n1 c1,.int .i64 9,.int .i64 (-1),.slice a2 n2 c2])::[(u1.heap.size,[Value.int .i64 s.code])]) (fun y hy=>by simp only[List.mem_cons,List.not_mem_nil,or_false] at hy⊢;exact hy.symm));have z1:=HJ.out.az.ce 0 2 rfl rfl;have f1:=HJ.out.az.cf 0 2 rfl rfl;clear h9)
    | fail)) | fail
   all_goals
    go_wp2
    have HS:=Lib.hid (HJ.out.set HG.out HBB.out (i:=2) rfl (.slice b9 (n0+1) c9))
    refine⟨⟨i+1,b9,a1,a2,(n0+1),n1,n2,c9,c1,c2,by omega,by omega,by go_num,Lib.hid ?_,?_⟩,by simp only[intOf];omega⟩
    ·rw[HE.out.1,HE.out.2.1,HE.out.2.2]
     obtain⟨h0,h1,h2⟩:=HN.out
     simp only[List.length_append,List.length_cons,List.length_nil]
     omega
    ·rw[HE.out.1,HE.out.2.1,HE.out.2.2]
     simp only[List.append_nil]
     exact HS.out.sub (fun y hy=>by rw[List.mem_singleton.1 hy];exact List.mem_cons_self)
  ·have HR:=Lib.hid (H2.out.perm (List.Perm.swap _ _ _))
   have e0:=HM.out 0
   have e1:=HM.out 1
   have e2:=HM.out 2
   rw[if_neg (by decide)] at e0
   rw[if_pos rfl] at e1
   rw[if_neg (by decide)] at e2
   have HE:=Lib.hid (And.intro e0 (And.intro e1 e2))
   clear e0 e1 e2
   go_upto_region 7 with fail
   have HBG:=Lib.hid (show G<u1.heap.size from(H2.out.az.row (G,_) List.mem_cons_self).sz)
   have HBB:=Lib.hid (show ∀y∈[(u1.heap.size,[Value.int .i64 s.code])],G≠y.1 from fun y hy=>by
    rw[List.mem_singleton.1 hy]
    have:=HBG.out
    simp only
    omega)
   have HA:=Lib.hid (HR.out.drew.push [.int .i64 s.code] 3)
   have p0:=(H2.out.az.bw.cell (p:=⟨sb,so+i*11,none⟩) HB.out.1).trans HB.out.2.1
   have g0:=H2.out.az.ce 0 5 rfl rfl
   have hGu:=HBG.out
   first|(go_region_law (first
    | (refine fE_ rfl (.tmp 37) (.tmp 43) rfl HA.out s.code u1.heap.size 1 List.mem_cons_self (by have:=HLE.out;omega) rfl rfl ?_;intro b9 c9 w9 h9;have HJ:=Lib.hid ((h9.perm (List.Perm.swap _ _ _)).sub (L':=(G,[.int .i64 0,.int .i64 (-1),.slice a0 n0 c0,.int .i64 4,.int .i64 0,.slice a1 n1 c1,.int .i64 9,.int .i64 (-1),.slice a2 n2 c2])::[(u1.heap.size,[Value.int .i64 s.code])]) (fun y hy=>by simp only[List.mem_cons,List.not_mem_nil,or_false] at hy⊢;exact hy.symm));have z1:=HJ.out.az.ce 0 5 rfl rfl;have f1:=HJ.out.az.cf 0 5 rfl rfl;clear h9)
    | fail)) | fail
   all_goals
    go_wp2
    have HS:=Lib.hid (HJ.out.set HG.out HBB.out (i:=5) rfl (.slice b9 (n1+1) c9))
    refine⟨⟨i+1,a0,b9,a2,n0,(n1+1),n2,c0,c9,c2,by omega,by omega,by go_num,Lib.hid ?_,?_⟩,by simp only[intOf];omega⟩
    ·rw[HE.out.1,HE.out.2.1,HE.out.2.2]
     obtain⟨h0,h1,h2⟩:=HN.out
     simp only[List.length_append,List.length_cons,List.length_nil]
     omega
    ·rw[HE.out.1,HE.out.2.1,HE.out.2.2]
     simp only[List.append_nil]
     exact HS.out.sub (fun y hy=>by rw[List.mem_singleton.1 hy];exact List.mem_cons_self)
  ·have HR:=Lib.hid (H2.out.perm (((List.Perm.swap _ _ _).cons _).trans (List.Perm.swap _ _ _)))
   have e0:=HM.out 0
   have e1:=HM.out 1
   have e2:=HM.out 2
   rw[if_neg (by decide)] at e0
   rw[if_neg (by decide)] at e1
   rw[if_pos rfl] at e2
   have HE:=Lib.hid (And.intro e0 (And.intro e1 e2))
   clear e0 e1 e2
   go_upto_region 7 with fail
   have HBG:=Lib.hid (show G<u1.heap.size from(H2.out.az.row (G,_) List.mem_cons_self).sz)
   have HBB:=Lib.hid (show ∀y∈[(u1.heap.size,[Value.int .i64 s.code])],G≠y.1 from fun y hy=>by
    rw[List.mem_singleton.1 hy]
    have:=HBG.out
    simp only
    omega)
   have HA:=Lib.hid (HR.out.drew.push [.int .i64 s.code] 3)
   have p0:=(H2.out.az.bw.cell (p:=⟨sb,so+i*11,none⟩) HB.out.1).trans HB.out.2.1
   have g0:=H2.out.az.ce 0 8 rfl rfl
   have hGu:=HBG.out
   first|(go_region_law (first
    | (refine fE_ rfl (.tmp 37) (.tmp 43) rfl HA.out s.code u1.heap.size 1 List.mem_cons_self (by have:=HLE.out;omega) rfl rfl ?_;intro b9 c9 w9 h9;have HJ:=Lib.hid ((h9.perm ((List.Perm.swap _ _ _).trans ((List.Perm.swap _ _ _).cons _))).sub (L':=(G,[.int .i64 0,.int .i64 (-1),.slice a0 n0 c0,.int .i64 4,.int .i64 0,.slice a1 n1 c1,.int .i64 9,.int .i64 (-1),.slice a2 n2 c2])::[(u1.heap.size,[Value.int .i64 s.code])]) (fun y hy=>by simp only[List.mem_cons,List.not_mem_nil,or_false] at hy⊢;exact hy.symm));have z1:=HJ.out.az.ce 0 8 rfl rfl;have f1:=HJ.out.az.cf 0 8 rfl rfl;clear h9)
    | fail)) | fail
   all_goals
    go_wp2
    have HS:=Lib.hid (HJ.out.set HG.out HBB.out (i:=8) rfl (.slice b9 (n2+1) c9))
    refine⟨⟨i+1,a0,a1,b9,n0,n1,(n2+1),c0,c1,c9,by omega,by omega,by go_num,Lib.hid ?_,?_⟩,by simp only[intOf];omega⟩
    ·rw[HE.out.1,HE.out.2.1,HE.out.2.2]
     obtain⟨h0,h1,h2⟩:=HN.out
     simp only[List.length_append,List.length_cons,List.length_nil]
     omega
    ·rw[HE.out.1,HE.out.2.1,HE.out.2.2]
     simp only[List.append_nil]
     exact HS.out.sub (fun y hy=>by rw[List.mem_singleton.1 hy];exact List.mem_cons_self)
  ·have e0:=HM.out 0
   have e1:=HM.out 1
   have e2:=HM.out 2
   rw[if_neg (by decide)] at e0 e1 e2
   have HE:=Lib.hid (And.intro e0 (And.intro e1 e2))
   clear e0 e1 e2
   go_wp2
   refine⟨⟨i+1,a0,a1,a2,n0,n1,n2,c0,c1,c2,by omega,by omega,by go_num,Lib.hid ?_,?_⟩,by simp only[intOf];omega⟩
   ·rw[HE.out.1,HE.out.2.1,HE.out.2.2]
    simp only[List.append_nil]
    exact HN.out
   ·rw[HE.out.1,HE.out.2.1,HE.out.2.2]
    simp only[List.append_nil]
    exact H2.out
def fV_ (ss:List Sh) (k:Nat):Int:=(ss[k]?.map (·.code)).getD 0
def wrN (ss:List Sh) (z:Int×Int) (i:Nat):Wr:=⟨3+100*(i:Int),fV_ ss (aI_ z.1 ss.length),0,fV_ ss (aI_ z.2 ss.length),0,0⟩
def netK (ss:List Sh) (zs:List (Int×Int)) (k:Nat):List Wr:=if ss=[] then [] else (zs.take k).zipIdx.map fun x=>wrN ss x.1 x.2
theorem nT_ (ss:List Sh) (zs:List (Int×Int)):netK ss zs 0=[]:=by unfold netK;split <;> rfl
theorem vT_ {ss:List Sh} {zs:List (Int×Int)} {k:Nat} {z:Int×Int} (hs:ss≠[]) (h:zs[k]?=some z):netK ss zs (k+1)=netK ss zs k++[wrN ss z k]:=by
 have hk:k<zs.length:=(List.getElem?_eq_some_iff.1 h).1
 unfold netK
 rw[if_neg hs,if_neg hs,List.take_add_one,h]
 simp[List.zipIdx_append,Nat.min_eq_left (Nat.le_of_lt hk)]
theorem lU_ (ss:List Sh) (zs:List (Int×Int)) (k:Nat):(netK ss zs k).length=if ss=[] then 0 else min k zs.length:=by
 unfold netK
 split
 ·rfl
 ·simp
def wsC (l:List Wr):List Value:=l.flatMap wrC
theorem yG_ (l:List Wr) (x:Wr):wsC (l++[x])=wsC l++wrC x:=by simp[wsC]
theorem aBV {l:List Wr} {k:Nat} {s:Wr} (h:l[k]?=some s) (j:Nat) (v:Value) (hv:(wrC s)[j]?=some v):(wsC l)[k*6+j]?=some v:=by
 induction l generalizing k with
 | nil=>cases h
 | cons y l ih=>
  show(wrC y++wsC l)[k*6+j]?=some v
  have hy:(wrC y).length=6:=rfl
  cases k with
  | zero=>
   cases h
   have hj:j<6:=by have:=(List.getElem?_eq_some_iff.1 hv).1;exact this
   rw[Nat.zero_mul,Nat.zero_add,List.getElem?_append_left (by omega)]
   exact hv
  | succ k=>
   rw[List.getElem?_append_right (by omega),hy,show(k+1)*6+j-6=k*6+j by omega]
   exact ih (by simpa using h)
theorem WrsAt.of {a:Option Addr} {ls:List Wr} {W:World} (h:CsAt a (wsC ls) W):WrsAt a ls W:=⟨fun k s hs=>by
 obtain⟨b,o,rfl,h1,_⟩:=h.row _ _ (aBV hs 0 _ rfl)
 refine⟨b,o,rfl,h1,fun j v hv=>?_⟩
 obtain⟨b',o',e,_,h2⟩:=h.row _ _ (aBV hs j v hv)
 injection e with e
 injection e with e1 e2
 subst e1 e2
 rw[show o+k*6+j=o+(k*6+j) by omega]
 exact h2⟩
theorem wL_:(Tryz.prog.info? 45).map (fun i=>(i.zero,i.size,i.bytes))=some (some (.agg #[.int .i64 0,.int .i64 0,.int .i64 0,.int .i64 0,.int .i64 0,.int .i64 0]),6,48):=by kernel_rfl
theorem yH_ {ops:Array Oper} {rest:List Oper} {o:Oper} {a:Act} {Q:Exit→Act→World→Prop} (hgd:o.guard=none) (sl y:Operand) (ho:o.op=.call { callee:=.builtin .append,args:=#[sl,y],argTypes:=#[37,37] })
  {rs:List Rw} {v:Value} {n:Nat} {ss:List Wr} {L:List (Nat×List Value)} {w W:World} (h:MoAt (⟨45,6,v,n,wsC ss⟩::rs) L w W) (s:Wr) (B c:Nat) (hB:(B,wrC s)∈L) (hn:n≤10000) (hv:a.eval sl=v) (hx:a.eval y=.slice (some ⟨B,0,none⟩) 1 c)
  (hK:∀b' c' W',MoAt (⟨45,6,.slice b' (n+1) c',n+1,wsC (ss++[s])⟩::rs) L w W'→wpList Tryz.prog ops Q rest (a.put o.dst (.slice b' (n+1) c')) W'):wpList Tryz.prog ops Q (o::rest) a W:=
 lD_ (r:=⟨45,6,v,n,wsC ss⟩) hgd sl y ho Tryz.underlying37 wL_ rfl (show 0<6 by decide) (by decide) h c hB rfl (by simp[wrC,Value.oneCell']) (by simp only;omega) hv hx (fun b' c' W' h'=>hK b' c' W' (by rw[yG_];exact h'))
def NeP (ss:List Sh) (zs:List (Int×Int)) (w:World) (e:Ending) (W':World):Prop:=(∃(a:Option Addr) (c:Nat),e=.returned (.agg #[.slice none 0 0,.slice a (netK ss zs 5).length c])∧WrsAt a (netK ss zs 5) W')∧Below w.heap.size w W'
theorem vV_ {a b:Option Addr} {m n c d:Nat} {ss:List Sh} {zs:List (Int×Int)} (hm:ss.length=m) (hm9:m≤9) (hn:zs.length=n) (hlo:∀z∈zs,inI z.1∧inI z.2) (w:World) (hS:ShsAt a ss w) (hX:PrsAt b zs w) :
  Calls Tryz.prog 14 #[.slice a m c,.slice b n d] w (NeP ss zs w):=by
 have hmx:Tryz.prog.follows .mixedOrders=true:=by kernel_rfl
 have HP:=Lib.hid (And.intro hS (And.intro hX (And.intro hlo (And.intro hm hn))))
 have KK:=Lib.hid (show 0<m→∀(c:Int) (h0:inI c) (W:World),Calls Tryz.prog 32 #[.int .i64 c,.int .i64 (m:Int)] W fun e W'=>e=.returned (.int .i64 (aI_ c m:Nat))∧Below W.heap.size W W' from fun hm0 c h0 W=>hZ_ c m h0.1 h0.2 hm0 (by omega) W)
 have hmo:=((MoAt.start (AzAt.start w)).addNil 45 6)
 have hmo:=(hmo.push [.slice none 0 0,.slice none 0 0] 39).push [.slice none 0 0,.slice none 0 0] 39
 simp only[World.size_alloc] at hmo
 have H0:=Lib.hid hmo
 clear hS hX hlo hm hn hmo
 go_enter Tryz.func14,Tryz.ntmps14
 go_wp2
 obtain⟨W0,hW0⟩:∃V,V=(w.alloc (.cells #[.slice none 0 0,.slice none 0 0] 39)).alloc (.cells #[.slice none 0 0,.slice none 0 0] 39):=⟨_,rfl⟩
 obtain⟨G,hG⟩:∃V,V=w.heap.size:=⟨_,rfl⟩
 have HG:=Lib.hid (show w.heap.size≤G by omega)
 rw[←hW0,←hG] at H0⊢
 clear hW0 hG
 go_loopw [6] (fun v6 wr=>∃(i:Nat) (a0:Option Addr) (c0:Nat) (q:Nat),i≤n∧i≤5∧v6=.int .i64 (i:Int)∧Hid (q=(netK ss zs i).length∧(m=0→i=0))∧MoAt [⟨45,6,.slice a0 q c0,q,wsC (netK ss zs i)⟩] [(G+1,[.slice none 0 0,.slice a0 q c0]),(G,[.slice none 0 0,.slice none 0 0])] w wr) (fun v6 _=>5-(intOf v6).toNat)
 case atStart=>exact⟨0,none,0,0,Nat.zero_le _,Nat.zero_le _,rfl,Lib.hid ⟨by rw[nT_];rfl,fun _=>rfl⟩,by rw[nT_];exact H0.out⟩
 case round=>
  obtain⟨i,a0,c0,q,hin,hi5,rfl,HN,ho⟩:=hrel
  have H1:=Lib.hid ho
  clear ho H0
  by_cases hlt:i<n∧i<5∧0<m
  case neg=>
   have HE:=Lib.hid (show netK ss zs i=netK ss zs 5 by
    by_cases hm0:m=0
    ·have hs:ss=[]:=List.eq_nil_of_length_eq_zero (by rw[HP.out.2.2.2.1];exact hm0)
     unfold netK
     rw[if_pos hs,if_pos hs]
    ·have e:zs.take i=zs.take 5:=by
      by_cases h5:i=5
      ·rw[h5]
      ·rw[List.take_of_length_le (by rw[HP.out.2.2.2.2];omega),List.take_of_length_le (by rw[HP.out.2.2.2.2];omega)]
     unfold netK
     rw[e])
   have z0:=H1.out.az.ce 0 0 rfl rfl
   have z1:=H1.out.az.ce 0 1 rfl rfl
   have y0:=H1.out.az.ce 1 0 rfl rfl
   have y1:=H1.out.az.ce 1 1 rfl rfl
   have f0:=H1.out.az.cf 1 0 rfl rfl
   have f1:=H1.out.az.cf 1 1 rfl rfl
   have H3:=Lib.hid (((H1.out.sub (L':=[(G,[.slice none 0 0,.slice none 0 0]),(G+1,[.slice none 0 0,.slice a0 q c0])]) (fun y hy=>by
    simp only[List.mem_cons,List.not_mem_nil,or_false] at hy⊢
    exact hy.symm)).set HG.out (fun y hy=>by rw[List.mem_singleton.1 hy];simp only;omega) (i:=0) rfl (.slice none 0 0)).set HG.out (fun y hy=>by rw[List.mem_singleton.1 hy];simp only;omega) (i:=1) rfl (.slice a0 q c0))
   have w0:=H3.out.az.ce 0 0 rfl rfl
   have w1:=H3.out.az.ce 0 1 rfl rfl
   have HQ:=Lib.hid (show NeP ss zs w (.returned (.agg #[.slice none 0 0,.slice a0 q c0])) _ from by
    have h:=H3.out
    obtain⟨h0,-⟩:=HN.out
    rw[HE.out] at h h0
    obtain⟨_,_,e0,s0,-⟩:=h.slice (r:=⟨45,6,.slice a0 q c0,q,wsC (netK ss zs 5)⟩) (by simp)
    cases e0
    exact⟨⟨a0,c0,by rw[←h0],WrsAt.of s0⟩,h.az.bw⟩)
   clear HE
   by_cases h1:i<n
   ·have t1:decide ((i:Int)<(n:Int))=true:=decide_eq_true (by omega)
    by_cases h2:i<5
    ·have h3:m=0:=Nat.eq_zero_of_not_pos (fun h=>hlt ⟨h1,h2,h⟩)
     subst h3
     have t2:decide ((i:Int)<5)=true:=decide_eq_true (by omega)
     go_wp2
     refine bodyPost_ret (v:=.agg #[.slice none 0 0,.slice a0 q c0]) ?_ rfl HQ.out
     simp[results,Tryz.results14,go_sem,Result.andThen,w0,w1]
    ·have h3:i=5:=by omega
     subst h3
     go_wp2
     refine bodyPost_ret (v:=.agg #[.slice none 0 0,.slice a0 q c0]) ?_ rfl HQ.out
     simp[results,Tryz.results14,go_sem,Result.andThen,w0,w1]
   ·have t1:decide ((i:Int)<(n:Int))=false:=decide_eq_false (by omega)
    go_wp2
    refine bodyPost_ret (v:=.agg #[.slice none 0 0,.slice a0 q c0]) ?_ rfl HQ.out
    simp[results,Tryz.results14,go_sem,Result.andThen,w0,w1]
  obtain⟨hln,hl5,hm0⟩:=hlt
  obtain⟨z,hz⟩:∃z,zs[i]?=some z:=⟨zs[i]'(by rw[HP.out.2.2.2.2];exact hln),List.getElem?_eq_getElem _⟩
  have hzi:=HP.out.2.2.1 z (List.mem_of_getElem? hz)
  have hne:ss≠[]:=fun e=>by have:=HP.out.2.2.2.1;rw[e] at this;simp at this;omega
  have HW:=Lib.hid (vT_ hne hz)
  have K1:=Lib.hid (fun W:World=>KK.out hm0 z.1 hzi.1 W)
  have K2:=Lib.hid (fun W:World=>KK.out hm0 z.2 hzi.2 W)
  have hp1:=aV_ z.1 (n:=m) hm0
  have hp2:=aV_ z.2 (n:=m) hm0
  have HWN:=Lib.hid (show wrN ss z i=⟨3+100*(i:Int),fV_ ss (aI_ z.1 m),0,fV_ ss (aI_ z.2 m),0,0⟩ by unfold wrN;rw[HP.out.2.2.2.1])
  generalize aI_ z.1 m=m1 at *
  generalize aI_ z.2 m=m2 at *
  obtain⟨s1,hs1⟩:∃s,ss[m1]?=some s:=⟨ss[m1]'(by rw[HP.out.2.2.2.1];exact hp1),List.getElem?_eq_getElem _⟩
  obtain⟨s2,hs2⟩:∃s,ss[m2]?=some s:=⟨ss[m2]'(by rw[HP.out.2.2.2.1];exact hp2),List.getElem?_eq_getElem _⟩
  have HC:=Lib.hid (show wrN ss z i=⟨3+100*(i:Int),s1.code,0,s2.code,0,0⟩ by rw[HWN.out];unfold fV_;rw[hs1,hs2];rfl)
  obtain⟨sb,so,hsa,hsb,x1,-⟩:=HP.out.1.sh hs1
  subst hsa
  obtain⟨sb',so',hsa,hsb',x2,-⟩:=HP.out.1.sh hs2
  cases hsa
  obtain⟨zb,zo,hza,hzb,y1,y2⟩:=HP.out.2.1.row i _ hz
  subst hza
  have HB:=Lib.hid (And.intro hsb (And.intro x1 (And.intro x2 (And.intro hzb (And.intro y1 y2)))))
  have i1:(0:Int)≤(i:Int):=by omega
  have i3:(i:Int)<(n:Int):=by omega
  have t1:decide ((i:Int)<(n:Int))=true:=decide_eq_true i3
  have t2:decide ((i:Int)<5)=true:=decide_eq_true (by omega)
  have t3:decide (0<m)=true:=decide_eq_true hm0
  have g1:IntKind.i64.wrap (100*(i:Int))=100*(i:Int):=IntWalk.i64_in _ (by omega)
  have g2:IntKind.i64.wrap (3+100*(i:Int))=3+100*(i:Int):=IntWalk.i64_in _ (by omega)
  have j1:(0:Int)≤(m1:Int):=by omega
  have j2:(m1:Int)<(m:Int):=by omega
  have j3:(0:Int)≤(m2:Int):=by omega
  have j4:(m2:Int)<(m:Int):=by omega
  clear hs1 hs2 hz hzi x1 x2 y1 y2 hsb hsb' hzb KK hne HWN
  go_upto_region 5 with fail
  refine bL_ (A:=?fr5) 30 52 1 [.int .i64 (3+100*(i:Int)),.int .i64 s1.code,.int .i64 0,.int .i64 s2.code,.int .i64 0,.int .i64 0] 45 hmx (by kernel_rfl) ?h5 ⟨_,rfl,rfl,?wa5,fun W=>?al5⟩ ?ht5
  case h5=>
   intro U hU
   have hp:=H1.out.below hU
   have u0:=cell_regrown (hp.az.ce 0 1 rfl rfl)
   have u1:=cell_regrown ((hp.az.bw.cell (p:=⟨sb,so+m1*11,none⟩) HB.out.1).trans HB.out.2.1)
   have u2:=cell_regrown ((hp.az.bw.cell (p:=⟨sb,so+m2*11,none⟩) HB.out.1).trans HB.out.2.2.1)
   have u3:=cell_regrown ((hp.az.bw.cell (p:=⟨zb,zo+i*2,none⟩) HB.out.2.2.2.1).trans HB.out.2.2.2.2.1)
   have u4:=cell_regrown ((hp.az.bw.cell (p:=⟨zb,zo+i*2+1,none⟩) HB.out.2.2.2.1).trans HB.out.2.2.2.2.2)
   have cc1:=fun d os=>Calls.regrown_of (d:=d) (os:=os) (K1.out (grow (redrawn U d) os))
   have cc2:=fun d os=>Calls.regrown_of (d:=d) (os:=os) (K2.out (grow (redrawn U d) os))
   clear hp
   simp only[List.take_succ_cons,List.take_zero]
   repeat (go_big_quiet_step (with_reducible first|exact cc1 _ _|exact cc2 _ _))
   refine wpQuiet_nil ?_
   rfl
  case wa5=>rfl
  case al5=>simp[go_sem]
  case ht5=>
   intro B W hW hB cB
   have HA:=Lib.hid (H1.out.cons hW hB cB)
   have HGB:=Lib.hid (show G+1<wr.heap.size∧wr.heap.size≤B from⟨(H1.out.az.row (G+1,_) List.mem_cons_self).sz,hB⟩)
   clear hW hB cB H1 K1 K2
   simp only[List.drop_succ_cons,List.drop_zero]
   refine yH_ rfl _ _ rfl HA.out (wrN ss z i) B 1 (by rw[HC.out];exact List.mem_cons_self) (by have:=HN.out.1;rw[lU_] at this;split at this <;> omega) rfl rfl ?_
   intro b9 c9 w9 h9
   have HJ:=Lib.hid (h9.sub (L':=(G+1,[.slice none 0 0,.slice a0 q c0])::[(G,[.slice none 0 0,.slice none 0 0])]) (fun y hy=>List.mem_cons_of_mem _ hy))
   have z1:=HJ.out.az.ce 0 1 rfl rfl
   have f1:=HJ.out.az.cf 0 1 rfl rfl
   clear h9 HA
   go_wp2
   have HS:=Lib.hid (HJ.out.set (by have:=HG.out;omega) (fun y hy=>by rw[List.mem_singleton.1 hy];simp only;omega) (i:=1) rfl (.slice b9 (q+1) c9))
   refine⟨⟨i+1,b9,c9,q+1,by omega,by omega,by go_num,Lib.hid ⟨by rw[HW.out,List.length_append,←HN.out.1];rfl,fun h=>by omega⟩,?_⟩,by simp only[intOf];omega⟩
   rw[HW.out]
   exact HS.out
end Go.Proofs.YtdkaohphbgdkpaaGreatDoor
namespace Go.Proofs.YtdkaohphbgdkpaaGreatDoor
open Go.RowKit Go.Shelf Go.Sort
theorem iD_ {prev:List Int} : ∀{l pre:List Int},(∀c∈l,(1≤c∧c≤39999)∧c ∉ prev)→(pre++l).Pairwise (· < ·)→hC_ prev pre l=true
 | [],_,_,_=>rfl
 | c::r,pre,h1,h2=>by
  have hc:=h1 c List.mem_cons_self
  unfold hC_
  rw[iD_ (fun x hx=>h1 x (List.mem_cons_of_mem _ hx)) (by rw[List.append_assoc];exact h2),decide_eq_true hc.1.1,decide_eq_true hc.1.2,decide_eq_true hc.2]
  cases e:pre.getLast? with
  | none=>rfl
  | some p=>
   have hp:p∈pre:=List.mem_of_getLast? e
   have:=(List.pairwise_append.1 h2).2.2 p hp c List.mem_cons_self
   simp[this]
theorem iE_ {ss:List Sh} {xs:List Int} {j i:Nat} {c:Int} (h:c∈memK ss xs j i):∃(k:Nat) (s:Sh) (x:Int),ss[k]?=some s∧xs[k]?=some x∧aI_ x 4=j∧s.code=c:=by
 unfold memK at h
 obtain⟨p,hp,rfl⟩:=List.mem_map.1 h
 obtain⟨hp1,hp2⟩:=List.mem_filter.1 hp
 have hp3:=List.mem_of_mem_take hp1
 obtain⟨k,hk,e⟩:=List.mem_iff_getElem.1 hp3
 have hz:(ss.zip xs)[k]?=some (p.1,p.2):=by rw[List.getElem?_eq_getElem hk,e]
 rw[List.getElem?_zip_eq_some] at hz
 exact⟨k,p.1,p.2,hz.1,hz.2,of_decide_eq_true hp2,rfl⟩
theorem lW_ {ss:List Sh} (ha:ss.Pairwise (fun a b=>a.code<b.code)) (xs:List Int) (j i:Nat):(memK ss xs j i).Pairwise (· < ·):=by
 unfold memK
 rw[List.pairwise_map]
 have hz:(ss.zip xs).Pairwise fun p q=>p.1.code<q.1.code:=by
  rw[List.pairwise_iff_getElem] at ha⊢
  intro a b h1 h2 hab
  rw[List.getElem_zip,List.getElem_zip]
  rw[List.length_zip] at h1 h2
  exact ha a b (by omega) (by omega) hab
 exact(hz.sublist (List.take_sublist _ _)).sublist List.filter_sublist
theorem hD_ {ss:List Sh} (hd:Dist ss) {xs:List Int} {j k i m:Nat} (hjk:j≠k) {c:Int} (h:c∈memK ss xs j i):c ∉ memK ss xs k m:=by
 intro h'
 obtain⟨a,s,x,h1,h2,h3,h4⟩:=iE_ h
 obtain⟨b,t,y,g1,g2,g3,g4⟩:=iE_ h'
 obtain rfl:a=b:=by
  unfold Dist at hd
  rw[List.pairwise_iff_getElem] at hd
  obtain⟨p1,e1⟩:=List.getElem?_eq_some_iff.1 h1
  obtain⟨p2,e2⟩:=List.getElem?_eq_some_iff.1 g1
  rcases Nat.lt_trichotomy a b with hlt|he|hlt
  ·exact absurd (by rw[e1,e2,h4,g4]) (hd a b p1 p2 hlt)
  ·exact he
  ·exact absurd (by rw[e1,e2,h4,g4]) (hd b a p2 p1 hlt)
 rw[h2] at g2
 cases g2
 exact hjk (h3.symm.trans g3)
theorem sR_ {ss:List Sh} (hc:∀s∈ss,1≤s.code∧s.code≤39999) (ha:ss.Pairwise (fun a b=>a.code<b.code)) (xs:List Int):bJ_ (pJ_ ss xs)=true:=by
 have hd:=gC_ ha
 have hcd:∀(j i:Nat),∀c∈memK ss xs j i,1≤c∧c≤39999:=fun j i c h=>by
  obtain⟨k,s,x,h1,_,_,h4⟩:=iE_ h
  rw[←h4]
  exact hc s (List.mem_of_getElem? h1)
 have m0:=iD_ (prev:=[]) (l:=memK ss xs 0 (min ss.length xs.length)) (pre:=[]) (fun c h=>⟨hcd _ _ c h,fun h=>by cases h⟩) (lW_ ha _ _ _)
 have m1:=iD_ (prev:=memK ss xs 0 (min ss.length xs.length)) (l:=memK ss xs 1 (min ss.length xs.length)) (pre:=[]) (fun c h=>⟨hcd _ _ c h,hD_ hd (by decide) h⟩) (lW_ ha _ _ _)
 have m2:=iD_ (prev:=memK ss xs 0 (min ss.length xs.length)++memK ss xs 1 (min ss.length xs.length)) (l:=memK ss xs 2 (min ss.length xs.length)) (pre:=[]) (fun c h=>⟨hcd _ _ c h,fun h'=>by
  rcases List.mem_append.1 h' with h'|h'
  ·exact hD_ hd (by decide) h h'
  ·exact hD_ hd (by decide) h h'⟩) (lW_ ha _ _ _)
 unfold pJ_ bJ_
 generalize memK ss xs 0 (min ss.length xs.length)=a at *
 generalize memK ss xs 1 (min ss.length xs.length)=b at *
 generalize memK ss xs 2 (min ss.length xs.length)=d at *
 simp[dQ_,outG,sU_,m0,m1,m2]
theorem rD_ {ss:List Sh} (hc:∀s∈ss,1≤s.code∧s.code≤39999) (z:Int) (hs:ss≠[]):1≤fV_ ss (aI_ z ss.length)∧fV_ ss (aI_ z ss.length)≤39999:=by
 have h:=aV_ z (n:=ss.length) (List.length_pos_iff.2 hs)
 unfold fV_
 rw[List.getElem?_eq_getElem h]
 exact hc _ (List.getElem_mem h)
theorem vU_ {ss:List Sh} {zs:List (Int×Int)} {k i:Nat} {x:Wr} (h:(netK ss zs k)[i]?=some x):ss≠[]∧i<k∧∃z,zs[i]?=some z∧x=wrN ss z i:=by
 unfold netK at h
 split at h
 ·simp at h
 next hs=>
  rw[List.getElem?_map,List.getElem?_zipIdx,List.getElem?_take] at h
  by_cases hi:i<k
  ·rw[if_pos hi] at h
   cases hz:zs[i]? with
   | none=>rw[hz] at h;cases h
   | some z=>rw[hz] at h;cases h;exact⟨hs,hi,z,rfl,by simp⟩
  ·rw[if_neg hi] at h;cases h
theorem vS_ {ss:List Sh} (hc:∀s∈ss,1≤s.code∧s.code≤39999) (zs:List (Int×Int)):cW_ [] ((netK ss zs 5).map ldW)=true:=by
 rw[dX_]
 intro a s b e
 rw[List.nil_append]
 have hi:((netK ss zs 5).map ldW)[a.length]?=some s:=by rw[e];simp
 rw[List.getElem?_map] at hi
 cases hx:(netK ss zs 5)[a.length]? with
 | none=>rw[hx] at hi;cases hi
 | some x=>
  rw[hx] at hi
  obtain⟨hs,hi5,z,hz,rfl⟩:=vU_ hx
  have es:ldW (wrN ss z a.length)=s:=Option.some.inj hi
  subst es
  have c1:=rD_ hc z.1 hs
  have c2:=rD_ hc z.2 hs
  have h1:aN_ (ldW (wrN ss z a.length)).1=true:=by
   show aN_ (3+100*(a.length:Int))=true
   unfold aN_
   rw[Bool.and_eq_true,decide_eq_true_eq,decide_eq_true_eq]
   omega
  have h2:aN_ (ldW (wrN ss z a.length)).2.1=true:=by
   show aN_ (fV_ ss (aI_ z.1 ss.length))=true
   unfold aN_
   rw[Bool.and_eq_true,decide_eq_true_eq,decide_eq_true_eq]
   exact c1
  have h3:aN_ (ldW (wrN ss z a.length)).2.2=true:=by
   show aN_ (fV_ ss (aI_ z.2 ss.length))=true
   unfold aN_
   rw[Bool.and_eq_true,decide_eq_true_eq,decide_eq_true_eq]
   exact c2
  unfold okL
  rw[h1,h2,h3]
  cases hl:a.getLast? with
  | none=>rfl
  | some p=>
   have hp:p∈a:=List.mem_of_getLast? hl
   obtain⟨j,hj,ej⟩:=List.mem_iff_getElem.1 hp
   have hpj:((netK ss zs 5).map ldW)[j]?=some p:=by
    rw[e,List.getElem?_append_left hj,List.getElem?_eq_getElem hj,ej]
   rw[List.getElem?_map] at hpj
   cases hy:(netK ss zs 5)[j]? with
   | none=>rw[hy] at hpj;cases hpj
   | some y=>
    rw[hy] at hpj
    obtain⟨_,_,z',_,rfl⟩:=vU_ hy
    have ep:ldW (wrN ss z' j)=p:=Option.some.inj hpj
    subst ep
    have:(3+100*(j:Int))<3+100*(a.length:Int):=by omega
    show(true&&true&&true&&decide ((3+100*(j:Int))<3+100*(a.length:Int)))=true
    rw[decide_eq_true this]
    rfl
theorem nL_ {ss:List Sh} (hl:bI_ ss=true) (hd:Dist ss) {es:List Ge} (hv:bJ_ (gsE es)=true) {ls:List Wr} (hn:ls.length≤40) (hls:cW_ [] (ls.map ldW)=true):sayB ss es ls=true∧cF_ (eN_ ss es ls)=true:=by
 have H:Ld ss:=⟨cL_ hl,hd⟩
 constructor
 ·unfold sayB
  rw[decide_eq_true hn,hl,hv]
  rfl
 ·refine uP_ (H.say_ok (cR_ hl) (fun s hs=>?_) (memG_b hv) (by rw[List.length_map];exact hn) hls)
  unfold bI_ at hl
  simp only[Bool.and_eq_true,Bool.not_eq_true',List.any_eq_false] at hl
  have:=hl.2 s hs
  simpa using this
theorem kF_ {ss:List Sh} (hl:bI_ ss=true) (hd:Dist ss) {es:List Ge} (hv:bJ_ (gsE es)=true) {ls:List Wr} (hn:ls.length≤40) (hls:cW_ [] (ls.map ldW)=true):sayR ss es ls=.tuple #[.string (mW_ (eN_ ss es ls)),.int .i64 0]:=by
 obtain⟨h1,h2⟩:=nL_ hl hd hv hn hls
 unfold sayR
 rw[h1,h2]
 rfl
theorem aDE {ss:List Sh} {u v:Int} (hv:∀s∈ss,vRc (mvS u v s).rect=true∧vRc s.rect=true) (hd:Ld ss) (es:List Ge) (ls:List Wr):eN_ (ss.map (mvS u v)) es ls=eN_ ss es ls:=by
 unfold eN_ aCZ
 have e:rdx (ss.map (mvS u v)) 0=(rdx ss 0).map (mvS u v):=rd_mv hv _ _
 rw[e,List.map_map]
 have e2:(rdx ss 0).map (dZ_ (ss.map (mvS u v)) (memG (gsE es))∘mvS u v)=(rdx ss 0).map (dZ_ ss (memG (gsE es))):=List.map_congr_left fun s hs=>by
  have hm:s∈ss:=hd.mem_rdx.1 hs
  show dZ_ (ss.map (mvS u v)) (memG (gsE es)) (mvS u v s)=dZ_ ss (memG (gsE es)) s
  unfold dZ_
  rw[aCB hv hm]
  cases parK ss s <;> rfl
 rw[e2]
end Go.Proofs.YtdkaohphbgdkpaaGreatDoor
