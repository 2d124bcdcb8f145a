/- - -/
import Derived.WalkKit
import Derived.WalkSpells
import Derived.WalkLawsBesides
import Derived.Lib.Hide
set_option maxHeartbeats 40000000
set_option maxRecDepth 1000000
namespace Go.Proofs.YtdkaohphbgdkpaaGreatDoor
open Go.RowKit
def cE_ (lo hi:Nat) (w w':World):Prop:=∀k,lo≤k→k<hi→w'.heap[k]?=w.heap[k]?
theorem cE_.of_below {B lo hi:Nat} {w w':World} (h:Below B w w') (hb:hi≤B):cE_ lo hi w w':=fun k _ hk=>h.block k (by omega)
theorem cE_.refl (lo hi:Nat) (w:World):cE_ lo hi w w:=fun _ _ _=>rfl
theorem cE_.setCell {lo hi:Nat} {a w:World} (h:cE_ lo hi a w) {p:Addr} (hp:p.block<lo∨hi≤p.block) (u:Value):cE_ lo hi a (w.setCell p u):=fun k h1 h2=>(Below.heap_setCell _ _ _ _ (by omega)).trans (h k h1 h2)
def Sl (w:World) (v:Value) (n sz:Nat) (cs:List Value) (lo hi:Nat):Prop:=
 ∃(a:Option Addr) (cap:Nat),v=.slice a n cap∧n≤cap∧cap≤maxLen∧cs.length=n*sz∧(a=none→cap=0)∧
  (∀ad,a=some ad→∃b off,ad=⟨b,off,none⟩∧lo≤b∧b<hi∧∀i u,cs[i]?=some u→w.cell? ⟨b,off+i,none⟩=some u)
theorem Sl.mono {w:World} {v:Value} {n sz:Nat} {cs:List Value} {lo hi lo' hi':Nat} (h:Sl w v n sz cs lo hi) (h1:lo'≤lo) (h2:hi≤hi'):Sl w v n sz cs lo' hi':=by
 obtain⟨a,cap,hv,h3,h4,h5,h6,h7⟩:=h
 refine⟨a,cap,hv,h3,h4,h5,h6,fun ad ha=>?_⟩
 obtain⟨b,off,e,l1,l2,l3⟩:=h7 ad ha
 exact⟨b,off,e,by omega,by omega,l3⟩
theorem Sl.keep {w w':World} {v:Value} {n sz:Nat} {cs:List Value} {lo hi:Nat} (h:Sl w v n sz cs lo hi) (hk:cE_ lo hi w w'):Sl w' v n sz cs lo hi:=by
 obtain⟨a,cap,hv,h3,h4,h5,h6,h7⟩:=h
 refine⟨a,cap,hv,h3,h4,h5,h6,fun ad ha=>?_⟩
 obtain⟨b,off,e,l1,l2,l3⟩:=h7 ad ha
 refine⟨b,off,e,l1,l2,fun i u hu=>?_⟩
 rw[World.cell?_of_block (w:=w) (hk b l1 l2)]
 exact l3 i u hu
theorem Sl.below {w w':World} {v:Value} {n sz:Nat} {cs:List Value} {lo hi B:Nat} (h:Sl w v n sz cs lo hi) (hk:Below B w w') (hb:hi≤B):Sl w' v n sz cs lo hi:=h.keep (cE_.of_below hk hb)
theorem Sl.nil (w:World) (sz lo hi:Nat):Sl w (.slice none 0 0) 0 sz [] lo hi:=⟨none,0,rfl,Nat.le_refl _,by decide,by simp,fun _=>rfl,fun ad h=>by cases h⟩
abbrev Ns (w:World) (v:Value) (xs:List Nat) (lo hi:Nat):Prop:=Sl w v xs.length 1 (xs.map fun n:Nat=>Value.int .i64 (n:Int)) lo hi
theorem Ns.take {w:World} {a:Option Addr} {cap:Nat} {xs:List Nat} {lo hi:Nat} (h:Ns w (.slice a xs.length cap) xs lo hi) {k:Nat} (hk:k≤xs.length):Ns w (.slice a k cap) (xs.take k) lo hi:=by
 obtain⟨a',cap',hv,h3,h4,h5,h6,h7⟩:=h
 simp only[Value.slice.injEq,true_and] at hv
 obtain⟨rfl,rfl⟩:=hv
 refine⟨a,cap,by simp[Nat.min_eq_left hk],by simp;omega,h4,by simp,h6,fun ad ha=>?_⟩
 obtain⟨b,off,e,l1,l2,l3⟩:=h7 ad ha
 refine⟨b,off,e,l1,l2,fun i u hu=>?_⟩
 refine l3 i u ?_
 rw[List.map_take,List.getElem?_take] at hu
 split at hu
 ·exact hu
 ·cases hu
theorem Ns.len {w:World} {v:Value} {xs:List Nat} {lo hi:Nat} (h:Ns w v xs lo hi):xs.length≤maxLen:=by
 obtain⟨a',cap',hv,h3,h4,_⟩:=h
 omega
theorem Ns.at {w:World} {a:Option Addr} {cap:Nat} {xs:List Nat} {lo hi n:Nat} (h:Ns w (.slice a n cap) xs lo hi) {k:Nat} (hk:k<xs.length) :
  ∃b off,a=some ⟨b,off,none⟩∧lo≤b∧b<hi∧w.cell? ⟨b,off+k,none⟩=some (.int .i64 (xs[k]'hk:Nat)):=by
 obtain⟨a',cap',hv,h3,h4,h5,h6,h7⟩:=h
 simp only[Value.slice.injEq] at hv
 obtain⟨rfl,rfl,rfl⟩:=hv
 cases a with
 | none=>have:=h6 rfl;omega
 | some ad=>
  obtain⟨b,off,e,l1,l2,l3⟩:=h7 ad rfl
  exact⟨b,off,by rw[e],l1,l2,l3 k _ (by simp[hk])⟩
theorem aBR (b o j:Nat):(⟨b,o,none⟩:Addr).add j=⟨b,o+j,none⟩:=by unfold Addr.add;split <;> simp_all
theorem aAH (xs:List Nat):∀u∈xs.map (fun n:Nat=>Value.int .i64 (n:Int)),u.oneCell'=true:=by
 intro u hu
 obtain⟨n,_,rfl⟩:=List.mem_map.1 hu
 rfl
theorem Sl.of_owns {w:World} {base:Nat} {e:TypeId} {sz:Nat} {v:Value} {n:Nat} {cs:List Value} (h:w.ownsRow base e sz v n cs):Sl w v n sz cs base w.heap.size:=by
 obtain⟨h1,⟨rfl,rfl⟩|⟨g,cap,cur,rfl,hb,hg,hn,hm,hs,ht⟩⟩:=h
 ·have:cs=[]:=List.eq_nil_of_length_eq_zero (by simpa using h1)
  subst this
  exact Sl.nil w sz _ _
 ·refine⟨some ⟨g,0,none⟩,cap,rfl,hn,hm,h1,fun h=>by simp at h,fun ad ha=>?_⟩
  simp only[Option.some.injEq] at ha
  subst ha
  refine⟨g,0,rfl,hb,(Array.getElem?_eq_some_iff.1 hg).1,fun i u hu=>?_⟩
  rw[Nat.zero_add,cell_of_row w g i cur e (0,0) hg]
  rw[←ht,List.getElem?_take] at hu
  split at hu
  ·simpa using hu
  ·cases hu
structure Still (w w':World):Prop where
 os:w'.os=w.os
 tape:w'.tape=w.tape
 output:w'.output=w.output
 heap:w'.heap=w.heap
theorem Still.drewN (w:World) (q:Nat):Still w (w.drewN q):=⟨rfl,rfl,rfl,rfl⟩
theorem Still.below {w w':World} (h:Still w w') (B:Nat):Below B w w':=⟨h.os,h.tape,h.output,by rw[h.heap];exact Nat.le_refl _,fun k _=>by rw[h.heap]⟩
theorem Still.owns {w w':World} (h:Still w w') {base:Nat} {e:TypeId} {sz:Nat} {v:Value} {n:Nat} {cs:List Value} (ho:w.ownsRow base e sz v n cs):w'.ownsRow base e sz v n cs:=by
 obtain⟨h1,h2⟩:=ho
 refine⟨h1,?_⟩
 rw[h.heap]
 exact h2
theorem cU_ {B:Nat} {w wr w2 w3:World} {e:TypeId} {sz n:Nat} {v:Value} {cs:List Value} {o:Obj} (hb:Below B w wr) (hst:Below B wr w2) (hB:B≤wr.heap.size) (hown:wr.ownsRow B e sz v n cs)
  (hgrow:(w2.alloc o).grownBy w3 v.ownBlock):Below B w w3:=
 ((hb.trans hst).alloc (Nat.le_trans hB hst.size) o).grown hgrow (by have:=hst.size;simp;omega) (fun k e=>(hown.lt k e).1)
theorem bV_ {w:World} {B:Nat} {e:TypeId} {v:Value} {ds:List Nat} {d:Int} (h0:0≤d) (h:w.ownsRow B e 1 v (ds.length+1) (ds.map (fun d:Nat=>Value.int .i64 (d:Int))++[Value.int .i64 d])) :
  w.ownsRow B e 1 v (ds++[d.toNat]).length ((ds++[d.toNat]).map fun d:Nat=>Value.int .i64 (d:Int)):=by
 have e:((d.toNat:Nat):Int)=d:=by omega
 simpa[e] using h
theorem lO_ {P:Program} {f:FuncId} {args:Array Value} {w:World} {n:Nat} {v:Value}
  (h:Calls P f args (w.drewN n) fun e w'=>e=.returned v∧w.drewN n=w'):Calls P f args (w.drewN n) fun e w''=>e=.returned v∧∃m,w''=w.drewN m:=
 h.mono fun _ _ ⟨he,hm⟩=>⟨he,n,hm.symm⟩
theorem Sl.drewN {w:World} {v:Value} {n sz:Nat} {cs:List Value} {lo hi:Nat} (h:Sl w v n sz cs lo hi) (q:Nat):Sl (w.drewN q) v n sz cs lo hi:=h.keep fun _ _ _=>rfl
def lenOf:Value→Nat | .slice _ n _=>n|_=>0
theorem cV_ {k:IntKind} {a b:Int} (h:a=b):Ending.returned (.int k a)=.returned (.int k b):=by rw[h]
theorem qN_ {a b:Bool} (h:a=b):Ending.returned (.bool a)=.returned (.bool b):=by rw[h]
theorem mM_ {W w1:World} (hb:Below W.heap.size W w1):(∀b o,b<W.heap.size→w1.cell? ⟨b,o,none⟩=W.cell? ⟨b,o,none⟩)∧(∀b o,b<W.heap.size→w1.frozen? ⟨b,o,none⟩=W.frozen? ⟨b,o,none⟩):=
 ⟨fun b o h=>hb.cell (p:=⟨b,o,none⟩) h,fun b o h=>hb.frozen (p:=⟨b,o,none⟩) h⟩
end Go.Proofs.YtdkaohphbgdkpaaGreatDoor
