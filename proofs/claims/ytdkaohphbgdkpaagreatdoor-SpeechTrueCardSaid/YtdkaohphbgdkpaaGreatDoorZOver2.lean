/- - -/
import Derived.Laws.EntriesVeiled
import Derived.Sort.CutIn
import Derived.Test.YtdkaohphbgdkpaaGreatDoorZSum
import Derived.Test.YtdkaohphbgdkpaaGreatDoorZApp
set_option maxHeartbeats 40000000
set_option maxRecDepth 1000000
namespace Go.Proofs.YtdkaohphbgdkpaaGreatDoor
open Go.RowKit Go.Shelf
attribute [local go_sem] Oper.semAt_some
def fB_ (m:Nat) (s:List Nat×Nat) (p:Nat×Nat):List Nat×Nat:=(s.1.set p.1 ((s.2*10000+p.2)/m),(s.2*10000+p.2)%m)
def eQ_ (m L:Nat) (l:List (Nat×Nat)):List Nat×Nat:=l.foldl (fB_ m) (List.replicate L 0,0)
theorem fL_ (m L:Nat) (l:List (Nat×Nat)) (p:Nat×Nat):eQ_ m L (l++[p])=fB_ m (eQ_ m L l) p:=by simp[eQ_]
theorem fA_ (m L:Nat) (l:List (Nat×Nat)):(eQ_ m L l).1.length=L:=by
 obtain⟨r,hr⟩:∃r,r=l.reverse:=⟨_,rfl⟩
 obtain rfl:l=r.reverse:=by rw[hr];simp
 clear hr
 induction r with
 | nil=>simp[eQ_]
 | cons p r ih=>rw[List.reverse_cons,fL_];simp[fB_,ih]
theorem rA_ {m:Nat} (hm:0<m) (L:Nat) (l:List (Nat×Nat)):(eQ_ m L l).2<m:=by
 obtain⟨r,hr⟩:∃r,r=l.reverse:=⟨_,rfl⟩
 obtain rfl:l=r.reverse:=by rw[hr];simp
 clear hr
 cases r with
 | nil=>simpa[eQ_] using hm
 | cons p r=>rw[List.reverse_cons,fL_];exact Nat.mod_lt _ hm
theorem aBD {m:Nat} (hm:0<m) (xs:List Nat) (k:Nat) (hk:k≤xs.length) (hd:∀d∈xs,d<10000) :
  (eQ_ m xs.length (bkUp xs k)).2=val 10000 (xs.drop (xs.length-k))%m∧val 10000 ((eQ_ m xs.length (bkUp xs k)).1.drop (xs.length-k))=val 10000 (xs.drop (xs.length-k))/m∧
  (∀q∈(eQ_ m xs.length (bkUp xs k)).1,q<10000):=by
 induction k with
 | zero=>
  simp[bkUp,eQ_,val]
 | succ k ih=>
  obtain⟨h1,h2,h3⟩:=ih (by omega)
  have hlen:=fA_ m xs.length (bkUp xs k)
  have hlt:=rA_ hm xs.length (bkUp xs k)
  rw[fC_,fL_,xP_ xs k (by omega)]
  generalize eQ_ m xs.length (bkUp xs k)=s at h1 h2 h3 hlen hlt
  obtain⟨qs,R⟩:=s
  simp only at h1 h2 h3 hlen hlt
  have hdd:xs[xs.length-1-k]?.getD 0<10000:=dL_ (B:=9999) hd _
  generalize xs[xs.length-1-k]?.getD 0=d at hdd
  generalize val 10000 (xs.drop (xs.length-k))=V at h1 h2
  have hT:d+10000*V=(R*10000+d)+m*(10000*(V/m)):=by
   have:=Nat.mod_add_div V m
   rw[←h1] at this
   have e:m*(10000*(V/m))=10000*(m*(V/m)):=by rw[←Nat.mul_assoc,Nat.mul_comm m 10000,Nat.mul_assoc]
   omega
  have hi:xs.length-(k+1)<qs.length:=by omega
  refine⟨?_,?_,?_⟩
  ·simp only[fB_]
   rw[hT,Nat.add_mul_mod_self_left]
  ·simp only[fB_]
   rw[hT,Nat.add_mul_div_left _ _ hm,show xs.length-1-k=xs.length-(k+1) from by omega,List.drop_eq_getElem_cons (by simpa using hi)]
   simp only[val,List.getElem_set_self]
   rw[List.drop_set_of_lt (by omega),show xs.length-(k+1)+1=xs.length-k from by omega,h2]
  ·intro q hq
   simp only[fB_] at hq
   rcases List.mem_or_eq_of_mem_set hq with h|h
   ·exact h3 q h
   ·rw[h,Nat.div_lt_iff_lt_mul hm]
    have:(R+1)*10000≤m*10000:=Nat.mul_le_mul_right _ hlt
    rw[Nat.mul_comm 10000 m]
    omega
theorem rT_ {m T r:Nat} (hT:T<m*10000) (hr:r≤9999) (h1:∀i,i<r→decide (T<m*(i+1))=false) (h2:∀i,r≤i→i<9999→decide (T<m*(i+1))=true):r=T/m:=by
 have hm:0<m:=by
  rcases Nat.eq_zero_or_pos m with h|h
  ·subst h;omega
  ·exact h
 symm
 rw[Nat.div_eq_iff hm]
 have hle:r*m≤T:=by
  cases r with
  | zero=>omega
  | succ r=>have:=h1 r (by omega);simp only[decide_eq_false_iff_not,Nat.not_lt] at this;rw[Nat.mul_comm];exact this
 have hgt:T<m*(r+1):=by
  by_cases h:r<9999
  ·have:=h2 r (Nat.le_refl _) h;simpa using this
  ·obtain rfl:r=9999:=by omega
   exact hT
 rw[Nat.mul_succ,Nat.mul_comm m r] at hgt
 omega
structure OvAt (N Ln m lo2 hi2:Nat) (v2:Value) (w W:World) (qs:List Nat) (R:Nat) (vr:Value) (hr:Nat):Prop where
 cm:W.cell? ⟨N,0,none⟩=some v2
 nm:Nm W v2 m lo2 hi2
 cq:W.cell? ⟨N+1,0,none⟩=some (.slice (some ⟨N+3,0,none⟩) Ln Ln)
 oq:W.ownsRow (N+3) 3 1 (.slice (some ⟨N+3,0,none⟩) Ln Ln) Ln (qs.map fun n:Nat=>Value.int .i64 (n:Int))
 fq:W.frozen? ⟨N+1,0,none⟩=false
 cr:W.cell? ⟨N+2,0,none⟩=some vr
 nr:Nm W vr R (N+4) hr
 hr:hr≤W.heap.size
 fr:W.frozen? ⟨N+2,0,none⟩=false
 sz:N+5≤W.heap.size
 bw:Below N w W
section
variable {N Ln m lo2 hi2:Nat} {v2:Value} {w W W':World} {qs:List Nat} {R:Nat} {vr:Value} {hr:Nat}
theorem cZ_ {W W':World} {base:Nat} {e:TypeId} {sz n g c:Nat} {cs:List Value} (h:W.ownsRow base e sz (.slice (some ⟨g,0,none⟩) n c) n cs) (hb:W'.heap[g]?=W.heap[g]?):W'.ownsRow base e sz (.slice (some ⟨g,0,none⟩) n c) n cs:=by
 obtain⟨h1,h2|⟨g',cap,cur,e1,e2,e3,e4⟩⟩:=h
 ·simp at h2
 ·simp only[Value.slice.injEq,Option.some.injEq,Addr.mk.injEq,and_true,true_and] at e1
  obtain⟨rfl,rfl⟩:=e1
  exact⟨h1,.inr ⟨g,c,cur,rfl,e2,hb.trans e3,e4⟩⟩
theorem OvAt.below (h:OvAt N Ln m lo2 hi2 v2 w W qs R vr hr) (h2:hi2≤N) (hb:Below W.heap.size W W'):OvAt N Ln m lo2 hi2 v2 w W' qs R vr hr:=by
 have hs:=h.sz
 have hs':=hb.size
 refine⟨(hb.cell (p:=⟨N,0,none⟩) (show N<_ by omega)).trans h.cm,h.nm.below hb (by omega),(hb.cell (p:=⟨N+1,0,none⟩) (show N+1<_ by omega)).trans h.cq,cZ_ h.oq (hb.block _ (by omega)),
  (hb.frozen (p:=⟨N+1,0,none⟩) (show N+1<_ by omega)).trans h.fq,(hb.cell (p:=⟨N+2,0,none⟩) (show N+2<_ by omega)).trans h.cr,h.nr.below hb h.hr,Nat.le_trans h.hr hs',(hb.frozen (p:=⟨N+2,0,none⟩) (show N+2<_ by omega)).trans h.fr,by omega,h.bw.trans (hb.mono (by omega))⟩
theorem OvAt.own {row:Option Nat} (h:OvAt N Ln m lo2 hi2 v2 w W qs R vr hr) (hg:W.grownBy W' row) (hrow:∀r,row=some r→N+5≤r∧∃o:Obj,W.heap[r]?=some o∧o.isCells=false):OvAt N Ln m lo2 hi2 v2 w W' qs R vr hr:=by
 have hs:=h.sz
 have hr':=fun r e=>(hrow r e).2
 refine⟨cell_kept h.cm hg hr',h.nm.own hg hr',cell_kept h.cq hg hr',cZ_ h.oq (hg.block _ (by omega) (fun e=>by have:=(hrow _ e.symm).1;omega)),(frozen_kept h.cq hg hr').trans h.fq,cell_kept h.cr hg hr',h.nr.own hg hr',Nat.le_trans h.hr hg.size,(frozen_kept h.cr hg hr').trans h.fr,Nat.le_trans h.sz hg.size,?_⟩
 exact h.bw.grown hg (by omega) (fun k e=>by have:=(hrow k e).1;omega)
theorem aS_ {W:World} {p q:Addr} (hne:q.block≠p.block) (u:Value):(W.setCell p u).cell? q=W.cell? q:=World.cell?_of_block (w:=W) (Below.heap_setCell W p u _ hne)
theorem OvAt.setR {v':Value} {R' h':Nat} (h:OvAt N Ln m lo2 hi2 v2 w W qs R vr hr) (h2:hi2≤N) (hv:Nm W v' R' (N+4) h') (hh:h'≤W.heap.size):OvAt N Ln m lo2 hi2 v2 w (W.setCell ⟨N+2,0,none⟩ v') qs R' v' h':=by
 have hs:(W.setCell ⟨N+2,0,none⟩ v').heap.size=W.heap.size:=by simp[World.setCell]
 refine⟨(aS_ (by simp) _).trans h.cm,h.nm.keep ((cE_.refl _ _ _).setCell (p:=⟨N+2,0,none⟩) (.inr (show hi2≤N+2 by omega)) _),(aS_ (by simp) _).trans h.cq,cZ_ h.oq (Below.heap_setCell _ _ _ _ (by simp)),?_,World.cell?_setCell_same' _ _ _ (by rw[h.cr];rfl),
  hv.keep ((cE_.refl _ _ _).setCell (p:=⟨N+2,0,none⟩) (.inl (by simp)) _),by rw[hs];exact hh,?_,by rw[hs];exact h.sz,h.bw.setCell (by simp) _⟩
 ·rw[World.frozen?_setCell];exact h.fq
 ·rw[World.frozen?_setCell];exact h.fr
theorem OvAt.setQ {i q:Nat} (h:OvAt N Ln m lo2 hi2 v2 w W qs R vr hr) (h2:hi2≤N):OvAt N Ln m lo2 hi2 v2 w (W.setCell ⟨N+3,i,none⟩ (.int .i64 (q:Int))) (qs.set i q) R vr hr:=by
 have hs:(W.setCell ⟨N+3,i,none⟩ (.int .i64 (q:Int))).heap.size=W.heap.size:=by simp[World.setCell]
 have hst:=(h.oq.stored i (.int .i64 (q:Int))).1
 refine⟨(aS_ (by simp) _).trans h.cm,h.nm.keep ((cE_.refl _ _ _).setCell (p:=⟨N+3,i,none⟩) (.inr (show hi2≤N+3 by omega)) _),(aS_ (by simp) _).trans h.cq,?_,?_,(aS_ (by simp) _).trans h.cr,
  h.nr.keep ((cE_.refl _ _ _).setCell (p:=⟨N+3,i,none⟩) (.inl (by simp)) _),by rw[hs];exact h.hr,?_,by rw[hs];exact h.sz,h.bw.setCell (show N≤N+3 by omega) _⟩
 ·rw[List.map_set];exact hst
 ·rw[World.frozen?_setCell];exact h.fq
 ·rw[World.frozen?_setCell];exact h.fr
end
def hT_ (N Bs:Nat) (A B:World):Prop:=KeepsOthers A B∧cK_ N Bs A B
theorem hT_.refl (N Bs:Nat) (A:World):hT_ N Bs A A:=⟨KeepsOthers.refl A,cK_.refl _ _ _⟩
theorem hT_.below {N Bs:Nat} {W A B:World} (h:hT_ N Bs W A) (hb:Below A.heap.size A B) (h1:N≤A.heap.size) (h2:Bs<A.heap.size):hT_ N Bs W B:=⟨h.1.trans (dY_ hb),h.2.trans (cK_.of_below hb h1 h2)⟩
theorem hT_.setCell {N Bs:Nat} {W A:World} (h:hT_ N Bs W A) {p:Addr} (h1:N≤p.block) (h2:Bs≠p.block) (u:Value):hT_ N Bs W (A.setCell p u):=⟨h.1.trans (KeepsOthers.setCell _ _ _),h.2.setCell h1 h2 u⟩
theorem sA_ {N Ln m lo2 hi2 B0 i d R T Qd h1:Nat} {v2:Value} {w W wc w6 w7:World} {qs:List Nat} {vr:Value} {a:Option Addr} {L c:Nat} {s:List Nat×Nat} (h2:hi2≤N) (hN:N≤wc.heap.size) (hs:hT_ N (N+4) W wc) (hO:OvAt N Ln m lo2 hi2 v2 w wc (qs.set i Qd) T vr h1)
  (h6:Below wc.heap.size wc w6) (h7:Below w6.heap.size w6 w7) (hv:Nm w7 (.slice a L c) (T-m*Qd) w6.heap.size w7.heap.size) (hT:s=(qs.set i ((R*10000+d)/m),(R*10000+d)%m)) (hQ:Qd=T/m) (hTT:T=R*10000+d) :
  KeepsFrom B0 W (w7.setCell ⟨N+2,0,none⟩ (.slice a L c))∧cK_ N (N+4) W (w7.setCell ⟨N+2,0,none⟩ (.slice a L c))∧∃vr hr,OvAt N Ln m lo2 hi2 v2 w (w7.setCell ⟨N+2,0,none⟩ (.slice a L c)) s.1 s.2 vr hr:=by
 have hsz:=hO.sz
 have hs6:=h6.size
 have h67:Below wc.heap.size wc w7:=h6.trans (h7.mono hs6)
 have hst:=(hs.below h67 hN (by omega)).setCell (p:=⟨N+2,0,none⟩) (show N≤N+2 by omega) (show N+4≠N+2 by omega) (.slice a L c)
 refine⟨hst.1.from _,hst.2,.slice a L c,w7.heap.size,?_⟩
 have hmod:T-m*Qd=T%m:=by rw[hQ];have:=Nat.mod_add_div T m;omega
 rw[hmod] at hv
 rw[hT,←hTT,←hQ]
 exact((hO.below h2 h67).setR h2 (hv.mono (by omega) (Nat.le_refl _)) (Nat.le_refl _))
theorem aCA {N Ln m lo2 hi2:Nat} {v2:Value} {w W:World} {qs:List Nat} {R:Nat} {vr:Value} {hr:Nat} (h:OvAt N Ln m lo2 hi2 v2 w W qs R vr hr) {i:Nat} (hi:i<qs.length):W.cell? ⟨N+3,i,none⟩=some (.int .i64 (qs[i]:Nat)):=by
 have h1:=h.oq.1
 rw[h.oq.cellAt i (by simp at h1;omega)]
 simp[hi]
theorem aDS {w:World} {v:Value} {d R L lo hi:Nat} (hL:L=(dig 10000 R).length) (h:Sl w v (1+L) 1 (#[Value.int .i64 (d:Int)].toList++(dig 10000 R).map fun n:Nat=>Value.int .i64 (n:Int)) lo hi):Ns w v (d::dig 10000 R) lo hi:=by
 show Sl w v (d::dig 10000 R).length 1 _ _ _
 rw[List.length_cons,←hL,Nat.add_comm L 1]
 exact h
def oQ_ (n:Nat):Array Value:=madeCells #[.int .i64 0] n
theorem rK_ (n:Nat):(oQ_ n).toList=(List.replicate n 0).map fun n:Nat=>Value.int .i64 (n:Int):=by
 unfold oQ_
 rw[toList_madeCells_one]
 simp
theorem rJ_ (n:Nat):(oQ_ n).size=n:=size_madeCells _ _
theorem iA_ (v1 v2:Value) (n m:Nat) (lo1 hi1 lo2 hi2:Nat) (w:World) (h1:Nm w v1 n lo1 hi1) (h2:Nm w v2 m lo2 hi2) (b1:hi1≤w.heap.size) (b2:hi2≤w.heap.size) (hf:(dig 10000 n).length≤900000) (hf2:(dig 10000 m).length≤900000) (hm:0<m) :
  Calls Tryz.prog 214 #[v1,v2] w fun e w'=>(∃q r,e=.returned (.tuple #[q,r])∧Nm w' q (n/m) w.heap.size w'.heap.size∧Nm w' r (n%m) w.heap.size w'.heap.size)∧Below w.heap.size w w':=by
 obtain⟨i0,hi,hz0,hz1,hz2⟩:=info_parts pW_
 obtain⟨a1,cap1,rfl⟩:∃a cap,v1=.slice a (dig 10000 n).length cap:=by obtain⟨a,cap,e,_⟩:=h1;exact⟨a,cap,e⟩
 obtain⟨a2,cap2,rfl⟩:∃a cap,v2=.slice a (dig 10000 m).length cap:=by obtain⟨a,cap,e,_⟩:=h2;exact⟨a,cap,e⟩
 have hd1:=bR_ (B:=10000) (by omega) n
 have hvn:=cA_ (B:=10000) (by omega) n
 have hdn:=eF_ (B:=10000) (by omega)
 obtain⟨xs,hxs⟩:∃xs,xs=dig 10000 n:=⟨_,rfl⟩
 obtain⟨Lm,hLm⟩:∃L,L=(dig 10000 m).length:=⟨_,rfl⟩
 have h1':Ns w (.slice a1 (dig 10000 n).length cap1) (dig 10000 n) lo1 hi1:=h1
 rw[←hxs] at h1' hf hd1 hvn⊢
 rw[←hLm] at h2 hf2⊢
 have H1:=Lib.hid h1'
 have H2:=Lib.hid h2
 have HLM:=Lib.hid hLm
 have HVN:=Lib.hid hvn
 have HD1:=Lib.hid hd1
 clear h1 h1' h2 hLm hxs hvn hd1 hdn
 have hmk:∀X:World,(Instr.makeSlice 243 (.int .i64 (xs.length:Int)) (.int .i64 (xs.length:Int))).run Tryz.prog X=.ok (.slice (some ⟨X.heap.size,0,none⟩) xs.length xs.length) (X.alloc (.cells (oQ_ xs.length) 3)):=fun X=>by
  have hr:=run_make (P:=Tryz.prog) X 243 3 i0 (.int .i64 0) Tryz.underlying243 hi hz0 .i64 .i64 (xs.length:Int) (xs.length:Int) (by omega) (Int.le_refl _) (by rw[hz2];omega) (by omega)
  rw[hr,hz1]
  simp[oQ_,Value.cells]
 refine(callsIn_wide (n:=3)).1 ?_
 refine callsIn_of_wp_marks Tryz.func214 rfl trivial ?_ rfl
 simp only[Tryz.ntmps214,List.size_toArray,List.length_cons,List.length_nil,Nat.reduceAdd,Nat.reduceSub,Array.replicate_succ,Array.replicate_zero,List.push_toArray,List.append_toArray,List.nil_append,List.cons_append]
 gi_wp2_with (refine⟨trivial,?_⟩;gi_at_call 229;refine(pS_ Fence.wide _ trivial rfl _ _ _ _).mono ?_;rintro e w' ⟨rfl,rfl⟩)
 obtain⟨N,hN⟩:∃N,N=w.heap.size:=⟨_,rfl⟩
 rw[show w.heap.size+1+1+1+1=N+4 from by omega,show w.heap.size+1+1+1=N+3 from by omega,show w.heap.size+1+1=N+2 from by omega,show w.heap.size+1=N+1 from by omega,←hN]
 obtain⟨W0,hW0⟩:∃W0,(((w.alloc (.cells #[.slice a2 Lm cap2] 243)).alloc (.cells #[.slice (some ⟨N+3,0,none⟩) xs.length xs.length] 243)).alloc (.cells #[.slice none 0 0] 243)).alloc (.cells (oQ_ xs.length) 3)=W0:=⟨_,rfl⟩
 have hs0:W0.heap.size=N+4:=by rw[←hW0];simp[hN]
 have hB0:Below w.heap.size w W0:=by rw[←hW0];exact((((Below.refl _ _).alloc (Nat.le_refl _) _).alloc (by simp) _).alloc (by simp;omega) _).alloc (by simp;omega) _
 have hOv:OvAt N xs.length m lo2 hi2 (.slice a2 Lm cap2) w (W0.alloc (.cells #[.slice a1 xs.length cap1] 243)) (List.replicate xs.length 0) 0 (.slice none 0 0) (N+4):=by
  have hB1:Below W0.heap.size W0 (W0.alloc (.cells #[.slice a1 xs.length cap1] 243)):=(Below.refl _ _).alloc (Nat.le_refl _) _
  have hB2:Below w.heap.size w (W0.alloc (.cells #[.slice a1 xs.length cap1] 243)):=hB0.trans (hB1.mono (by omega))
  have cM:W0.cell? ⟨N,0,none⟩=some (.slice a2 Lm cap2):=by rw[←hW0];simp[go_sem,hN]
  have cQ:W0.cell? ⟨N+1,0,none⟩=some (.slice (some ⟨N+3,0,none⟩) xs.length xs.length):=by rw[←hW0];simp[go_sem,hN]
  have cR:W0.cell? ⟨N+2,0,none⟩=some (.slice none 0 0):=by rw[←hW0];simp[go_sem,hN]
  have fQ:W0.frozen? ⟨N+1,0,none⟩=false:=by rw[←hW0];simp[go_sem,hN]
  have fR:W0.frozen? ⟨N+2,0,none⟩=false:=by rw[←hW0];simp[go_sem,hN]
  have oQ:W0.ownsRow (N+3) 3 1 (.slice (some ⟨N+3,0,none⟩) xs.length xs.length) xs.length ((List.replicate xs.length 0).map fun n:Nat=>Value.int .i64 (n:Int)):=by
   rw[←rK_,←hW0]
   have:=World.ownsRow_lit (base:=N+3) (e:=3) (size:=1) (((w.alloc (.cells #[.slice a2 Lm cap2] 243)).alloc (.cells #[.slice (some ⟨N+3,0,none⟩) xs.length xs.length] 243)).alloc (.cells #[.slice none 0 0] 243)) (oQ_ xs.length) xs.length (by simp[hN]) (by unfold maxLen;omega) (by simp[rJ_])
   have e:(((w.alloc (.cells #[.slice a2 Lm cap2] 243)).alloc (.cells #[.slice (some ⟨N+3,0,none⟩) xs.length xs.length] 243)).alloc (.cells #[.slice none 0 0] 243)).heap.size=N+3:=by simp[hN]
   rw[e] at this
   exact this
  refine⟨cell_later hB1 cM,H2.out.below hB2 b2,cell_later hB1 cQ,cZ_ oQ (hB1.block _ (by omega)),(hB1.frozen (p:=⟨N+1,0,none⟩) (show N+1<_ by omega)).trans fQ,cell_later hB1 cR,Sl.nil _ _ _ _,by simp[hs0],(hB1.frozen (p:=⟨N+2,0,none⟩) (show N+2<_ by omega)).trans fR,by simp[hs0],by rw[hN];exact hB2⟩
 have bN:=(Boxed.new W0 243 (.slice a1 xs.length cap1)).cell
 rw[hs0] at bN
 have hB1:Below W0.heap.size W0 (W0.alloc (.cells #[.slice a1 xs.length cap1] 243)):=(Below.refl _ _).alloc (Nat.le_refl _) _
 have hsz1:(W0.alloc (.cells #[.slice a1 xs.length cap1] 243)).heap.size=N+5:=by simp[hs0]
 rw[hW0]
 have HN:=Lib.hid hN
 have hN1:N≤w.heap.size:=by omega
 have hN2:w.heap.size≤N:=by omega
 clear hW0 hN
 refine wpIn_rangeFunc_ownG rfl (by omega) (gf:=241) (lb:=#[.pointer (some ⟨N+4,0,none⟩)]) rfl trivial (enters_of Tryz.func241 (by kernel_rfl) rfl)
  (hH_ Fence.wide _ trivial rfl (by omega) (N+4) N lo1 hi1 _ xs (W0.alloc (.cells #[.slice a1 xs.length cap1] 243)) (by omega) (by omega) bN ((H1.out.below hB0 b1).below hB1 (by omega)) (by omega) HD1.out)
  cK_.trans (pG_ (by omega) (by omega)) (Below.refl _ _) (fun _=>rfl)
  (fun pre W=>∃vr hr,OvAt N xs.length m lo2 hi2 (.slice a2 Lm cap2) w W (eQ_ m xs.length (pre.map (·.1))).1 (eQ_ m xs.length (pre.map (·.1))).2 vr hr)
  (fun _ _ _=>False)
  ?I (fun _ _ _ _ _ hs _ _=>hs) ?h0
  (fun x=>{ tmps:=#[.slice a1 xs.length cap1,.slice a2 Lm cap2,undef,.pointer (some ⟨N,0,none⟩),.pointer (some ⟨N+1,0,none⟩),.pointer (some ⟨N+2,0,none⟩),.int .i64 (x.1.1:Int),.int .i64 (x.1.2:Int),undef,undef,.slice a1 xs.length cap1,.int .i64 (xs.length:Int),.slice (some ⟨N+3,0,none⟩) xs.length xs.length,.slice a1 xs.length cap1,.func (.func 241) #[] #[.pointer (some ⟨N+4,0,none⟩)],.int .i64 (x.1.1:Int),.int .i64 (x.1.2:Int),undef,undef,undef,undef,undef,undef,undef,undef,undef,undef,undef,undef,undef,undef,undef,undef,undef,undef,undef,undef,undef,undef,undef,undef],defers:=[] }) ?assign ?body ?done ?stop
 case I=>
  intro s A B row hs hg hr
  obtain⟨vr,h,ho⟩:=hs
  exact⟨vr,h,ho.own hg (fun r e=>by have:=hr r e;rw[hsz1] at this;exact this)⟩
 case h0=>exact⟨_,_,hOv⟩
 case assign=>
  intro l x W K hK
  simp only[sZ_]
  gi_wp2
  exact hK
 case body=>
  rintro l pre x W ⟨vr,hr,hO⟩ hlen
  have hT:(eQ_ m xs.length ((pre++[x]).map (·.1)))=fB_ m (eQ_ m xs.length (pre.map (·.1))) x.1:=by rw[List.map_append];exact fL_ _ _ _ _
  have hlt:=rA_ hm xs.length (pre.map (·.1))
  have hqs:=fA_ m xs.length (pre.map (·.1))
  generalize eQ_ m xs.length (pre.map (·.1))=s at hO hT hlt hqs
  obtain⟨qs,R⟩:=s
  simp only[fB_] at hO hT hlt hqs
  obtain⟨⟨i,d⟩,hxi,hxd⟩:=x
  simp only at hxi hxd hT⊢
  have HT:=Lib.hid hT
  obtain⟨T,hTT⟩:∃T,T=R*10000+d:=⟨_,rfl⟩
  have hTm:T<m*10000:=by
   have:(R+1)*10000≤m*10000:=Nat.mul_le_mul_right _ hlt
   omega
  have hLR:(dig 10000 R).length≤900000:=by
   have:=aR_ (B:=10000) (by omega) (Nat.le_of_lt hlt)
   have:=HLM.out
   omega
  obtain⟨ar,Lr,cr,rfl,hLr⟩:∃a L c,vr=.slice a L c∧L=(dig 10000 R).length:=by obtain⟨a,c,e,_⟩:=hO.nr;exact⟨a,_,c,e,rfl⟩
  have hcr:=hO.cr
  have hcr1:∀o,(W.alloc o).cell? ⟨N+2,0,none⟩=some (.slice ar Lr cr):=fun o=>(World.cell?_of_block (w:=W) (Below.heap_alloc W o _ (by have:=hO.sz;show N+2<W.heap.size;omega))).trans hcr
  have hsrc:∀o,Sl (W.alloc o) (.slice ar Lr cr) Lr 1 ((dig 10000 R).map fun n:Nat=>Value.int .i64 (n:Int)) (N+4) hr:=fun o=>by
   rw[hLr]
   have:=hO.nr.keep (w':=W.alloc o) (fun k h1 h2=>Below.heap_alloc W o k (by have:=hO.hr;omega))
   rw[←hLr] at this⊢
   exact this
  have hLr2:Lr≤900000:=by omega
  have HLR:=Lib.hid hLr
  have HSRC:=Lib.hid hsrc
  have HO:=Lib.hid hO
  have hszW:=hO.sz
  have HTT:=Lib.hid hTT
  have HQS:=Lib.hid hqs
  have hmx:Tryz.prog.follows .mixedOrders=true:=by kernel_rfl
  clear hT hTT hLR hLr hsrc hO hqs
  gi_wp2_with (first
   | (gi_at_builtin;refine gF_ _ rfl _ _ 243 rfl W.heap.size 3 i0 (.int .i64 0) 1 8 Tryz.underlying243 hi hz0 hz1 hz2 rfl (by decide) (.slice (some ⟨W.heap.size,0,none⟩) 1 1) _ _ rfl (World.ownsRow_lit W #[.int .i64 (d:Int)] 1 (Nat.le_refl _) (by decide) rfl) _ _ _ _ _ rfl (HSRC.out _) (aAH _) (by unfold maxLen;omega) (by omega) (by simp) ?_;intro v' w1 hown' hgrow;have hBw1:Below W.heap.size W w1:=((Below.refl _ W).alloc (Nat.le_refl _) _).grown hgrow (by simp) (fun k e=>by simp[Value.ownBlock] at e;omega);have HOWN:=Lib.hid hown';clear hown' hgrow)
   | (refine⟨trivial,?_⟩;gi_at_call 233;refine(CallsIn.inRound l (callsIn_wide.2 (cH_ _ (d::dig 10000 R) _ _ _ (aDS HLR.out (Sl.of_owns HOWN.out))))).mono ?_;rintro e w2 ⟨⟨vT,rfl,hvT⟩,rfl⟩;obtain⟨aT,LT,cT,rfl⟩:∃a L c,vT=.slice a L c:=(by obtain⟨a,c,e,_⟩:=hvT;exact⟨_,_,_,e⟩);have HVT:=Lib.hid hvT;have HO1:=Lib.hid (HO.out.below (by omega) hBw1);clear hvT hcr hcr1;have hcr2:=HO1.out.cr;have hfr2:=HO1.out.fr;have hcm2:=HO1.out.cm))
  obtain⟨X,hX⟩:∃X,(w1.setCell ⟨N+2,0,none⟩ (.slice aT LT cT)).alloc (.cells #[.func (.func 234) #[.slice a2 Lm cap2] #[]] 278)=X:=⟨_,rfl⟩
  obtain⟨B,hB⟩:∃B,B=w1.heap.size:=⟨_,rfl⟩
  have hw1:=hBw1.size
  have hvT:Nm w1 (.slice aT LT cT) T (N+4) w1.heap.size:=by
   have h1:=HVT.out
   rw[eF_ (B:=10000) (by omega) _ (by intro y hy;rcases List.mem_cons.1 hy with rfl|hy;exact hxd;exact bR_ (by omega) R y hy)] at h1
   simp only[val,cA_ (B:=10000) (by omega)] at h1
   rw[show d+10000*R=T from by have:=HTT.out;omega] at h1
   exact h1.mono (by omega) (Nat.le_refl _)
  have hsS:(w1.setCell ⟨N+2,0,none⟩ (.slice aT LT cT)).heap.size=w1.heap.size:=by simp[World.setCell]
  have hbS:Below (w1.setCell ⟨N+2,0,none⟩ (.slice aT LT cT)).heap.size (w1.setCell ⟨N+2,0,none⟩ (.slice aT LT cT)) X:=by rw[←hX];exact(Below.refl _ _).alloc (Nat.le_refl _) _
  have OX:OvAt N xs.length m lo2 hi2 (.slice a2 Lm cap2) w X qs T (.slice aT LT cT) w1.heap.size:=(HO1.out.setR (by omega) hvT (Nat.le_refl _)).below (by omega) hbS
  have hXs:X.heap.size=B+1:=by rw[←hX];simp[hsS,hB]
  have cB:X.cell? ⟨B,0,none⟩=some (.func (.func 234) #[.slice a2 Lm cap2] #[]):=by rw[←hX,hB,←hsS];exact(Boxed.new _ _ _).cell
  have sX:hT_ N (N+4) W X:=((((hT_.refl N (N+4) W).below hBw1 (by omega) (by omega)).setCell (p:=⟨N+2,0,none⟩) (by simp) (by simp) _).below hbS (by rw[hsS];omega) (by rw[hsS];omega))
  obtain⟨Qd,hQd⟩:∃q,q=T/m:=⟨_,rfl⟩
  have hQ9:Qd≤9999:=by
   have:T/m<10000:=by rw[Nat.div_lt_iff_lt_mul hm,Nat.mul_comm];exact hTm
   omega
  have hsea:∀Y,Below X.heap.size X Y→Calls Tryz.prog 236 #[.int .i64 9999,.func (.func 235) #[] #[.pointer (some ⟨B,0,none⟩),.pointer (some ⟨N+2,0,none⟩)]] Y fun e w'=>e=.returned (.int .i64 (Qd:Int))∧Below Y.heap.size Y w':=fun Y hY=>by
   refine(rU_ 235 #[.pointer (some ⟨B,0,none⟩),.pointer (some ⟨N+2,0,none⟩)] (fun d=>decide (T<m*(d+1))) 9999 Y (enters_of Tryz.func235 (by kernel_rfl) rfl) (fun k w' hk hb=>?_) (fun a b hab ha=>?_) (by decide)).mono ?_
   ·have hXw:Below X.heap.size X w':=hY.trans (hb.mono hY.size)
    have Ow:=OX.below (by omega) hXw
    exact oS_ k B (N+2) _ _ m T lo2 hi2 (N+4) w1.heap.size w' hk (cell_later hXw cB) Ow.cr Ow.nm Ow.nr (by have:=Ow.sz;omega) Ow.hr (by show _≤_;have:=HLM.out;omega)
   ·simp only[decide_eq_true_eq] at ha⊢
    exact Nat.lt_of_lt_of_le ha (Nat.mul_le_mul_left _ (by omega))
   ·rintro e w' ⟨⟨r,rfl,h1,h2,h3⟩,hb⟩
    exact⟨by rw[rT_ hTm h1 h2 h3,hQd],hb⟩
  have HSEA:=Lib.hid hsea
  have HQD:=Lib.hid hQd
  have HCB:=Lib.hid cB
  have HOX:=Lib.hid OX
  have HSX:=Lib.hid sX
  have HXS:=Lib.hid hXs
  have hB5:N+5≤B:=by have:=OX.sz;omega
  have cqX:=OX.cq
  have cmX:=OX.cm
  have crX:=OX.cr
  have hbX:B<X.heap.size:=by omega
  rw[←hB,hX]
  clear hX hsea hQd OX sX hXs hsS hbS hvT hcr2 hfr2 hcm2 hB hw1
  gi_cut [] from 25 (fun wX=>OvAt N xs.length m lo2 hi2 (.slice a2 Lm cap2) w wX (qs.set i Qd) T (.slice aT LT cT) w1.heap.size∧hT_ N (N+4) W wX∧wX.cell? ⟨B,0,none⟩=some (.func (.func 234) #[.slice a2 Lm cap2] #[])∧B<wX.heap.size)
  case first=>
   gi_region_with_o (first
    | (refine⟨trivial,?_⟩;gi_at_call 236;refine(CallsIn.inRound l (callsIn_wide.2 (HSEA.out _ (by first | exact Below.refl _ _ | exact(Below.refl _ X).drew)))).mono ?_;rintro e w5 ⟨rfl,hb5⟩;have hX5:Below X.heap.size X w5:=(by first | exact hb5 | exact((Below.refl _ X).drew).trans hb5);clear hb5;have HO5:=Lib.hid (HOX.out.below (by omega) hX5);have cq5:=HO5.out.cq;have cqi5:=aCA HO5.out (by rw[HQS.out];exact hxi);have fqi5:=HO5.out.oq.frozenAt i))
   all_goals
    gi_wp2
    gi_meet
    exact⟨HO5.out.setQ (by omega),(HSX.out.below hX5 (by omega) (by omega)).setCell (p:=⟨N+3,i,none⟩) (show N≤N+3 by omega) (show N+4≠N+3 by omega) _,(aS_ (show B≠N+3 by omega) _).trans (cell_later hX5 HCB.out),by have:=hX5.size;simp[World.setCell];omega⟩
  case rest=>
   obtain⟨OC,sC,cC,hBC⟩:=hcut
   have crC:=OC.cr
   have frC:=OC.fr
   have cqC:=OC.cq
   have cqiC:wc.cell? ⟨N+3,i,none⟩=some (.int .i64 (Qd:Int)):=by
    have:=aCA OC (i:=i) (by rw[List.length_set,HQS.out];exact hxi)
    rw[this]
    simp
   have szC:=OC.sz
   have HOC:=Lib.hid OC
   have HSC:=Lib.hid sC
   have HCC:=Lib.hid cC
   have hle:m*Qd≤T:=by rw[HQD.out];exact Nat.mul_div_le T m
   have hfT:Few T:=by
    show _≤_
    have h1:(dig 10000 (m*10000)).length=Lm+1:=by rw[Nat.mul_comm,←Nat.zero_add (10000*m),rC_ (by omega) (by omega) (by omega)];simp[HLM.out]
    have h2:=aR_ (B:=10000) (by omega) (Nat.le_of_lt hTm)
    omega
   have hfQ:Few (m*Qd):=Nat.le_trans (aR_ (by omega) hle) hfT
   have hfm:Few m:=by show _≤_;have:=HLM.out;omega
   have HFT:=Lib.hid hfT
   have HFQ:=Lib.hid hfQ
   have HFM:=Lib.hid hfm
   clear OC sC hfT hfQ hfm
   clear hmk HSEA HOX HSX HXS cqX cmX crX hbX HVT HOWN HO1 HO HCB H1 H2 HVN HD1 hs0 hB0 bN hB1 hOv hBw1 HSRC HLR hLr2 hszW HQS hi hz0 hz1 hz2 hf hf2 b1 hlt hTm hlen HLM
   gi_wp2
   gi_region_with_o (first
    | (refine⟨trivial,?_⟩;gi_at_call 234;refine(CallsIn.inRound l (callsIn_wide.2 (aCL _ m Qd lo2 hi2 _ (by exact HOC.out.nm.keep (fun _ _ _=>rfl)) (by exact Nat.le_trans b2 (Nat.le_trans hN2 (Nat.le_trans (Nat.le_add_right N 5) szC))) HFM.out hQ9))).mono ?_;rintro e w6 ⟨⟨vB,rfl,hvB⟩,hb6⟩;have hC6:Below wc.heap.size wc w6:=(by first | exact hb6 | exact((Below.refl _ wc).drew).trans hb6);clear hb6;have HVB:=Lib.hid hvB;clear hvB;have HO6:=Lib.hid (HOC.out.below (by omega) hC6);have cr6:=HO6.out.cr;have cq6:=HO6.out.cq)
    | (refine⟨trivial,?_⟩;gi_at_call 231;refine(CallsIn.inRound l (callsIn_wide.2 (gQ_ _ _ T (m*Qd) _ _ _ _ _ (by exact HO6.out.nr) (by exact HVB.out) (by exact HO6.out.hr) (by exact Nat.le_refl _) HFT.out HFQ.out hle))).mono ?_;rintro e w7 ⟨⟨vP,rfl,hvP⟩,hb7⟩;obtain⟨aP,LP,cP,rfl⟩:∃a L c,vP=.slice a L c:=(by obtain⟨a,c,e,_⟩:=hvP;exact⟨_,_,_,e⟩);have HVP:=Lib.hid hvP;clear hvP;have HO7:=Lib.hid (HO6.out.below (by omega) hb7);have cr7:=HO7.out.cr;have fr7:=HO7.out.fr))
   all_goals
    gi_wp2
    exact sA_ (by omega) (Nat.le_trans (Nat.le_add_right N 5) szC) HSC.out HOC.out hC6 hb7 HVP.out HT.out HQD.out HTT.out
 case done=>
  rintro D ys W hD hys ⟨vr,hr,hO⟩ hK
  rw[hys] at hO
  have hb:=aBD hm xs xs.length (Nat.le_refl _) HD1.out
  have hql:=fA_ m xs.length (bkUp xs xs.length)
  generalize eQ_ m xs.length (bkUp xs xs.length)=s at hO hb hql
  obtain⟨qs,R⟩:=s
  simp only[Nat.sub_self,List.drop_zero,HVN.out] at hO hb hql
  obtain⟨hR,hV,hlt⟩:=hb
  subst hR
  have hq:Ns W (.slice (some ⟨N+3,0,none⟩) xs.length xs.length) qs (N+3) W.heap.size:=by
   show Sl W _ qs.length 1 _ _ _
   rw[hql]
   exact Sl.of_owns hO.oq
  have htr:trim qs=dig 10000 (n/m):=by rw[eF_ (by omega) qs hlt,hV]
  obtain⟨ar,Lr,cr,rfl⟩:∃a L c,vr=.slice a L c:=by obtain⟨a,c,e,_⟩:=hO.nr;exact⟨a,_,c,e⟩
  have hszD:N+5≤D:=by rw[hsz1] at hD;exact hD
  have szW:=hO.sz
  have cq:=hO.cq
  have cR:=hO.cr
  have fq:=hO.fq
  have fR:=hO.fr
  have HO:=Lib.hid hO
  have HQ:=Lib.hid hq
  have HTR:=Lib.hid htr
  have HK:=Lib.hid hK
  have hmx:Tryz.prog.follows .mixedOrders=true:=by kernel_rfl
  clear hO hq htr hK hys hV hlt hql hmk hOv hB1 hB0 bN
  gi_wp2
  gi_region_with_o (first
   | (refine⟨trivial,?_⟩;gi_at_call 233;refine(callsIn_wide.2 (cH_ _ qs _ _ _ (by exact HQ.out.keep (fun _ _ _=>rfl)))).mono ?_;rintro e w2 ⟨⟨vT,rfl,hvT⟩,rfl⟩;obtain⟨aT,LT,cT,rfl⟩:∃a L c,vT=.slice a L c:=(by obtain⟨a,c,e,_⟩:=hvT;exact⟨_,_,_,e⟩);have HVT:=Lib.hid hvT;clear hvT))
  all_goals
   gi_wp2
   obtain⟨Y,hY⟩:∃Y,((W.setCell ⟨N+1,0,none⟩ (.slice aT LT cT)).setCell ⟨N+2,0,none⟩ (.slice ar Lr cr)).drew=Y:=⟨_,rfl⟩
   have hsY:Y.heap.size=W.heap.size:=by rw[←hY];show((W.setCell _ _).setCell _ _).heap.size=_;simp[World.setCell]
   have hKY:Y.heap[D]?=some (.deferred (some [])):=by
    rw[←hY]
    exact(((KeepsOthers.setCell W _ _).trans (KeepsOthers.setCell _ _ _)).trans (KeepsOthers.drew _)).same D _ HK.out rfl
   have cY1:Y.cell? ⟨N+1,0,none⟩=some (.slice aT LT cT):=by
    rw[←hY,cell_drew_own,aS_ (by simp)]
    exact World.cell?_setCell_same' _ _ _ (by rw[cq];rfl)
   have cY2:Y.cell? ⟨N+2,0,none⟩=some (.slice ar Lr cr):=by
    rw[←hY,cell_drew_own]
    exact World.cell?_setCell_same' _ _ _ (by rw[aS_ (by simp),cR];rfl)
   have hag:cE_ (N+3) W.heap.size W Y:=by
    rw[←hY]
    exact((cE_.refl (N+3) W.heap.size W).setCell (p:=⟨N+1,0,none⟩) (.inl (show N+1<N+3 by omega)) _).setCell (p:=⟨N+2,0,none⟩) (.inl (show N+2<N+3 by omega)) _
   have hbY:Below w.heap.size w Y:=by
    rw[←hY]
    exact(((HO.out.bw.setCell (p:=⟨N+1,0,none⟩) (by simp) _).setCell (p:=⟨N+2,0,none⟩) (by simp) _).drew).mono hN2
   have n1:Nm Y (.slice aT LT cT) (n/m) (N+3) W.heap.size:=by
    have:=HVT.out
    rw[HTR.out] at this
    exact this.keep (fun k e1 e2=>hag k e1 e2)
   have n2:Nm Y (.slice ar Lr cr) (n%m) (N+4) hr:=HO.out.nr.keep (fun k e1 e2=>hag k (by omega) (by have:=HO.out.hr;omega))
   have hrW:=HO.out.hr
   rw[hY]
   clear hY
   have hg:=grownBy_putObj' Y D (.deferred none)
   have hrow:∀r,some D=some r→∃o:Obj,Y.heap[r]?=some o∧o.isCells=false:=fun r e=>by cases e;exact⟨_,hKY,rfl⟩
   have c4:=cell_kept cY1 hg hrow
   have c5:=cell_kept cY2 hg hrow
   have hsP:(Y.putObj D (.deferred none)).heap.size=Y.heap.size:=by simp[World.putObj]
   refine⟨by simp,.inl ⟨_,_,rfl,run_takeDeferred (by exact hKY),?_⟩⟩
   refine⟨.tuple #[.slice aT LT cT,.slice ar Lr cr],?_,⟨_,_,rfl,?_,?_⟩,?_⟩
   ·simp[results,Tryz.f214,go_sem,c4,c5]
   ·exact(n1.own hg hrow).mono (by omega) (by omega)
   ·exact(n2.own hg hrow).mono (by omega) (by omega)
   ·exact hbY.trans (belowK_b (w:=w) (Nat.le_refl _) Y D _ _ (by omega) hKY rfl rfl)
 case stop=>
  rintro D c pre W _ _ h _
  exact h.elim
end Go.Proofs.YtdkaohphbgdkpaaGreatDoor
