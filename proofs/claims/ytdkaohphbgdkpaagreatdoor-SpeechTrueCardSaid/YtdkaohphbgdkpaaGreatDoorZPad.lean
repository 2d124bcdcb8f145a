/- - -/
import Derived.Test.YtdkaohphbgdkpaaGreatDoorZParse
import Derived.Test.YtdkaohphbgdkpaaGreatDoorZBack
import Derived.Test.YtdkaohphbgdkpaaGreatDoorZBuild
import Derived.Test.YtdkaohphbgdkpaaGreatDoorZSum
set_option maxHeartbeats 40000000
set_option maxRecDepth 1000000
namespace Go.Proofs.YtdkaohphbgdkpaaGreatDoor
def pad4 (d:Nat):List UInt8:=List.replicate (4-(txtN d).length) 48++txtN d
theorem rN_ (k:Nat):valB (List.replicate k 48)=0:=by
 induction k with
 | zero=>rfl
 | succ k ih=>rw[List.replicate_succ,iM_,ih];simp
theorem tO_ (d:Nat):valB (pad4 d)=d:=by rw[pad4,eD_,rN_,bO_];simp
theorem hU_ {d:Nat} (h:d<10000):(txtN d).length≤4:=(hB_ (n:=d) (k:=4) (by omega)).2 h
theorem gB_ {d:Nat} (h:d<10000):(pad4 d).length=4:=by
 have:=hU_ h
 rw[pad4,List.length_append,List.length_replicate];omega
theorem pA_ (d:Nat):∀c∈pad4 d,48≤c.toNat∧c.toNat≤57:=by
 intro c hc
 rcases List.mem_append.1 hc with h|h
 ·rw[List.eq_of_mem_replicate h];decide
 ·exact aZ_ d c h
theorem tP_ {n:Nat} (h:10000≤n):txtN n=txtN (n/10000)++pad4 (n%10000):=by
 have hp:0<n/10000:=by omega
 have h1:(txtN (n/10000)++pad4 (n%10000)).head?≠some 48:=by
  have:=iO_ hp
  cases ht:txtN (n/10000) with
  | nil=>exact absurd ht (gX_ _)
  | cons c t=>rw[ht] at this;simpa using this
 have h2:=(iN_ (l:=txtN (n/10000)++pad4 (n%10000)) (by simp[gX_]) (by
  intro c hc
  rcases List.mem_append.1 hc with h|h
  ·exact aZ_ _ c h
  ·exact pA_ _ c h) h1).1
 rw[eD_,bO_,tO_,gB_ (by omega)] at h2
 rw[show n/10000*10^4+n%10000=n from by omega] at h2
 exact h2
def eM_ (L:Nat) (l:List (Nat×Nat)):List UInt8:=l.foldl (fun acc p=>acc++if p.1+1<L then pad4 p.2 else txtN p.2) []
theorem hQ_ (L:Nat) (l:List (Nat×Nat)) (p:Nat×Nat):eM_ L (l++[p])=eM_ L l++if p.1+1<L then pad4 p.2 else txtN p.2:=by simp[eM_]
theorem jX_ (L:Nat) (l:List (Nat×Nat)) (acc:List UInt8) (h:∀p∈l,p.2<10000):(l.foldl (fun(acc:List UInt8) (p:Nat×Nat)=>acc++if p.1+1<L then pad4 p.2 else txtN p.2) acc).length≤acc.length+4*l.length:=by
 induction l generalizing acc with
 | nil=>simp
 | cons p l ih=>
  have h1:=ih (acc++if p.1+1<L then pad4 p.2 else txtN p.2) (fun q hq=>h q (List.mem_cons_of_mem _ hq))
  have hp:=h p (by simp)
  have:(if p.1+1<L then pad4 p.2 else txtN p.2).length≤4:=by
   split
   ·exact Nat.le_of_eq (gB_ hp)
   ·exact hU_ hp
  rw[List.foldl_cons]
  refine Nat.le_trans h1 ?_
  simp only[List.length_cons,List.length_append]
  omega
theorem sX_ {n:Nat} (k:Nat) (h0:0<k) (hk:k≤(dig 10000 n).length):eM_ (dig 10000 n).length (bkUp (dig 10000 n) k)=txtN (n/10000^((dig 10000 n).length-k)):=by
 obtain⟨L,hL⟩:∃L,(dig 10000 n).length=L:=⟨_,rfl⟩
 have hhi:n<10000^L:=(aQ_ (by omega) n L).1 (by omega)
 have hlo:10000^(L-1)≤n:=by
  rcases Nat.lt_or_ge n (10000^(L-1)) with h|h
  ·have:=(aQ_ (B:=10000) (by omega) n (L-1)).2 h
   omega
  ·exact h
 induction k with
 | zero=>omega
 | succ k ih=>
  rw[fC_,hQ_]
  simp only[dig_getD (B:=10000) (by omega)]
  rw[hL] at hk⊢
  rcases Nat.eq_zero_or_pos k with h|h
  ·subst h
   have h1:n/10000^(L-1)<10000:=by
    rw[Nat.div_lt_iff_lt_mul (Nat.pow_pos (by omega))]
    have:10000^L=10000*10000^(L-1):=by rw[←Nat.pow_succ',Nat.succ_eq_add_one,Nat.sub_add_cancel (by omega)]
    omega
   rw[if_neg (by omega),show L-1-0=L-1 from rfl,Nat.mod_eq_of_lt h1]
   simp[bkUp,eM_]
  ·rw[hL] at ih
   rw[ih h (by omega),if_pos (by omega)]
   have e1:L-(k+1)=L-1-k:=by omega
   have e2:n/10000^(L-k)=n/10000^(L-1-k)/10000:=by
    rw[Nat.div_div_eq_div_mul,←Nat.pow_succ]
    congr 2
    omega
   rw[e1,e2,←tP_]
   rw[Nat.le_div_iff_mul_le (Nat.pow_pos (by omega)),←Nat.pow_succ']
   exact Nat.le_trans (Nat.pow_le_pow_right (by omega) (by omega)) hlo
theorem pQ_ {n:Nat} (hn:0<n):eM_ (dig 10000 n).length (bkUp (dig 10000 n) (dig 10000 n).length)=txtN n:=by
 have h:0<(dig 10000 n).length:=by rw[cD_ (by omega) hn];simp
 rw[sX_ _ h (Nat.le_refl _)]
 simp
end Go.Proofs.YtdkaohphbgdkpaaGreatDoor
namespace Go.Proofs.YtdkaohphbgdkpaaGreatDoor
open Go.RowKit Go.Shelf
attribute [local go_sem] Oper.semAt_some
structure Glob (w:World):Prop where
 tab : Lib.TabIs Tryz.prog w "internal/strconv.uint64pow10" .u64 Lib.pow10Tab
theorem Glob.below {w w':World} (h:Glob w) (hb:Below w.heap.size w w'):Glob w':=by
 refine⟨?_⟩
 obtain ⟨g, hg⟩ : ∃ g, Tryz.prog.globalNamed "internal/strconv.uint64pow10" = some g := by
  cases hh : Tryz.prog.globalNamed "internal/strconv.uint64pow10" with
  | some g=>exact⟨g,rfl⟩
  | none=>have h:=h.tab;unfold Lib.TabIs World.var? at h;rw[hh] at h;cases h
 have h:=h.tab
 unfold Lib.TabIs World.var? at h⊢
 rw[hg] at h⊢
 simp only[Option.bind_some] at h⊢
 have hlt:g<w.heap.size:=by
  rcases Nat.lt_or_ge g w.heap.size with h'|h'
  ·exact h'
  ·rw[Array.getElem?_eq_none h'] at h;cases h
 rw[hb.block g hlt]
 exact h
theorem tA_ (w:World) (k:Nat) (os:Array Obj):Below w.heap.size w (Sort.grow (w.drewN k) os):=by
 have h:Below w.heap.size w (w.drewN k):=(Still.drewN w k).below _
 exact⟨h.os,h.tape,h.output,by simp[Sort.grow,World.drewN],fun i hi=>by
  show(w.heap++os)[i]?=_
  rw[Array.getElem?_append_left hi]⟩
theorem dC_ (z:Int) (w:World) (hG:Glob w) (h0 : -9223372036854775808≤z) (h1:z≤9223372036854775807) :
  Calls Tryz.prog 51 #[.int .i64 z] w fun e w'=>e=.returned (.string (str z))∧Below w.heap.size w w':=by
 refine(Tryz.strconv_Itoa z h0 h1 w hG.tab).mono ?_
 rintro e w' ⟨rfl,k,os,rfl⟩
 refine⟨?_,tA_ w k os⟩
 rw[aAD]
 rfl
theorem aBS (d:Nat) (w:World) (hG:Glob w) (h1:d<10000) :
  Calls Tryz.prog 51 #[.int .i64 (d:Int)] w fun e w'=>(∃s:ByteArray,e=.returned (.string s)∧s.data.toList=txtN d∧s.size≤4)∧Below w.heap.size w w':=by
 refine(dC_ d w hG (by omega) (by omega)).mono ?_
 rintro e w' ⟨rfl,hb⟩
 have e1:txt (d:Int)=txtN d:=by unfold txt;rw[if_neg (by omega)];rfl
 refine⟨⟨_,rfl,?_,?_⟩,hb⟩
 ·rw[cY_,e1]
 ·rw[hV_,e1];exact hU_ h1
theorem dU_ (s:ByteArray):s.size=s.data.toList.length:=(Array.length_toList).symm
theorem oO_ (t s:ByteArray):(t++s).data.toList=t.data.toList++s.data.toList:=by simp
theorem kG_ (k:Nat):Lib.repeatL [48] k=List.replicate k (48:UInt8):=by
 induction k with
 | zero=>rfl
 | succ k ih=>simp[Lib.repeatL] at ih⊢;simp[List.replicate_succ,ih]
theorem tE_ (d:Nat) (s:ByteArray) (hd:s.data.toList=txtN d) (hs:s.size≤4) (w:World) :
  Calls Tryz.prog 232 #[.string ⟨#[48]⟩,.int .i64 (4-(s.size:Int))] w fun e w'=>(∃t:ByteArray,e=.returned (.string t)∧(t++s).data.toList=pad4 d∧t.size≤4)∧Below w.heap.size w w':=by
 have e:(4-(s.size:Int))=((4-s.size:Nat):Int):=by omega
 rw[e]
 refine(Tryz.strings_Repeat ⟨#[48]⟩ (4-s.size) w (by omega) (by show 1*_≤_;omega)).mono ?_
 rintro e w' ⟨rfl,hb⟩
 have ht:(⟨(Lib.repeatL (⟨#[48]⟩:ByteArray).data.toList (4-s.size)).toArray⟩:ByteArray).data.toList=List.replicate (4-s.size) 48:=kG_ _
 refine⟨⟨_,rfl,?_,by rw[dU_,ht,List.length_replicate];omega⟩,hb⟩
 rw[oO_,hd,dU_ s,hd]
 show Lib.repeatL [48] _++_=_
 rw[kG_]
 rfl
theorem jP_ {T e:TypeId} {B b:Nat} {bs:List Value} {W W':World} {row:Option Nat} (h:Lib.IsBuilderF T e B b bs W) (hg:W.grownBy W' row) (hr:∀r,row=some r→∃o:Obj,W.heap[r]?=some o∧o.isCells=false):Lib.IsBuilderF T e B b bs W':=by
 have key:∀p,Lib.BuilderAtF T e B b p bs W→Lib.BuilderAtF T e B b p bs W':=by
  rintro p ⟨hB,v,hb,hown,hne⟩
  have blk:∀(k:Nat) (c:Array Value) (t:TypeId) (fz:Nat×Nat),W.heap[k]?=some (Obj.cells c t fz)→W'.heap[k]?=some (Obj.cells c t fz):=by
   intro k c t fz hk
   rw[hg.block k (Array.getElem?_eq_some_iff.1 hk).1 ?_]
   ·exact hk
   ·intro e
    obtain⟨o,h1,h2⟩:=hr k e.symm
    rw[hk] at h1
    cases h1
    cases h2
  refine⟨hB,v,blk _ _ _ _ hb,⟨hown.1,?_⟩,hne⟩
  rcases hown.2 with hn|⟨g,cap,cur,fz,hv,hbg,hg2,rest⟩
  ·exact .inl hn
  ·exact .inr ⟨g,cap,cur,fz,hv,hbg,blk _ _ _ _ hg2,rest⟩
 exact h.elim (fun x=>.inl (key _ x)) (fun x=>.inr (key _ x))
theorem iZ_ {b:Nat} {W W':World} (h:Lib.OthersKept 5 (some b) W W') (hs:W.heap.size≤W'.heap.size) (hb:∀o,W.heap[b]?=some o→o.isCells=true):KeepsOthers W W':=by
 refine⟨hs,fun k o hk ho=>h k o hk ?_ ?_⟩
 ·intro e
  simp only[Option.some.injEq] at e
  subst e
  rw[hb o hk] at ho
  cases ho
 ·rintro c fz rfl
  cases ho
structure TxJ (N L:Nat) (neg:Bool) (a:Option Addr) (c:Nat) (l:List UInt8) (W:World):Prop where
 x0:W.cell? ⟨N,0,none⟩=some (.bool neg)
 x1:W.cell? ⟨N,1,none⟩=some (.slice a L c)
 ib:Lib.IsBuilderF 145 5 (N+1) (N+1) (Lib.byteCells l) W
 sz:N+3≤W.heap.size
 bx:∃cs,W.heap[N+2]?=some (Obj.cells cs 243 (0,0))
theorem xO_ {W W':World} {row:Option Nat} (hg:W.grownBy W' row) (hr:∀r,row=some r→∃o:Obj,W.heap[r]?=some o∧o.isCells=false) {k:Nat} {c:Array Value} {t:TypeId} {fz:Nat×Nat} (hk:W.heap[k]?=some (Obj.cells c t fz)):W'.heap[k]?=some (Obj.cells c t fz):=by
 rw[hg.block k (Array.getElem?_eq_some_iff.1 hk).1 ?_]
 ·exact hk
 ·intro e
  obtain⟨o,h1,h2⟩:=hr k e.symm
  rw[hk] at h1
  cases h1
  cases h2
theorem TxJ.own {N L:Nat} {neg:Bool} {a:Option Addr} {c:Nat} {l:List UInt8} {W W':World} {row:Option Nat} (h:TxJ N L neg a c l W) (hg:W.grownBy W' row) (hr:∀r,row=some r→∃o:Obj,W.heap[r]?=some o∧o.isCells=false):TxJ N L neg a c l W':=
 ⟨cell_kept h.x0 hg hr,cell_kept h.x1 hg hr,jP_ h.ib hg hr,Nat.le_trans h.sz hg.size,let ⟨cs,hc⟩:=h.bx;⟨cs,xO_ hg hr hc⟩⟩
theorem TxJ.below {N L:Nat} {neg:Bool} {a:Option Addr} {c:Nat} {l:List UInt8} {W W':World} (h:TxJ N L neg a c l W) (hb:Below W.heap.size W W'):TxJ N L neg a c l W':=by
 have hs:=h.sz
 exact⟨(hb.cell (p:=⟨N,0,none⟩) (show N<_ by omega)).trans h.x0,(hb.cell (p:=⟨N,1,none⟩) (show N<_ by omega)).trans h.x1,jP_ h.ib (row:=none) ⟨hb.os,hb.tape,hb.output,hb.size,fun k hk _=>hb.block k hk⟩ (fun r e=>by cases e),Nat.le_trans h.sz hb.size,let ⟨cs,hc⟩:=h.bx;⟨cs,(hb.block _ (by omega)).trans hc⟩⟩
theorem aCN {N L:Nat} {neg:Bool} {a:Option Addr} {c:Nat} {l t:List UInt8} (s:ByteArray) (W:World) (h:TxJ N L neg a c l W) (hs:s.data.toList=t) (hl:l.length+t.length≤140737488355328) :
  Calls Tryz.prog 100 #[.pointer (some ⟨N+1,0,none⟩),.string s] W fun e w'=>(∃v,e=.returned v∧TxJ N L neg a c (l++t) w')∧Below (N+1) W w'∧KeepsOthers W w'∧w'.heap[N+2]?=W.heap[N+2]?:=by
 have hsz:s.size=t.length:=by rw[←hs];exact(Array.length_toList).symm
 refine(Tryz.WriteString_k (N+1) (N+1) (Lib.byteCells l) s W h.ib (by have e:(Lib.byteCells l).length=l.length:=List.length_map _;omega) (by have:=h.sz;omega)).mono ?_
 rintro e w' ⟨rfl,hB,hbl,hok⟩
 have hs2:=h.sz
 obtain⟨cs,hcs⟩:=h.bx
 have hbk:w'.heap[N+2]?=some (Obj.cells cs 243 (0,0)):=hok _ _ hcs (by simp) (by rintro c' fz e;cases e)
 refine⟨⟨_,rfl,⟨?_,?_,?_,?_,⟨cs,hbk⟩⟩⟩,hbl,?_,hbk.trans hcs.symm⟩
 ·exact(hbl.cell (p:=⟨N,0,none⟩) (show N<_ by omega)).trans h.x0
 ·exact(hbl.cell (p:=⟨N,1,none⟩) (show N<_ by omega)).trans h.x1
 ·rw[Lib.strCells_eq,hs,←Lib.byteCells_append] at hB
  exact .inr hB
 ·exact Nat.le_trans h.sz hbl.size
 ·refine iZ_ hok hbl.size ?_
  intro o ho
  rcases h.ib with ⟨_,v,hb,_⟩|⟨_,v,hb,_⟩
  ·rw[hb] at ho;cases ho;rfl
  ·rw[hb] at ho;cases ho;rfl
theorem tD_ {N L:Nat} {neg:Bool} {a:Option Addr} {c:Nat} {l:List UInt8} (W:World) (h:TxJ N L neg a c l W) :
  Calls Tryz.prog 101 #[.pointer (some ⟨N+1,0,none⟩)] W fun e w'=>(∃s:ByteArray,e=.returned (.string s)∧s.data.toList=l)∧TxJ N L neg a c l w'∧Below (N+1) W w'∧KeepsOthers W w':=by
 refine(Tryz.Builder_String_any_k (N+1) (N+1) l W h.ib (by have:=h.sz;omega)).mono ?_
 rintro e w' ⟨rfl,hB,hbl,hok⟩
 have hs2:=h.sz
 obtain⟨cs,hcs⟩:=h.bx
 have hbk:w'.heap[N+2]?=some (Obj.cells cs 243 (0,0)):=hok _ _ hcs (by simp) (by rintro c' fz e;cases e)
 refine⟨⟨_,rfl,by simp⟩,⟨(hbl.cell (p:=⟨N,0,none⟩) (show N<_ by omega)).trans h.x0,(hbl.cell (p:=⟨N,1,none⟩) (show N<_ by omega)).trans h.x1,hB,Nat.le_trans h.sz hbl.size,⟨cs,hbk⟩⟩,hbl,?_⟩
 refine iZ_ hok hbl.size ?_
 intro o ho
 rcases h.ib with ⟨_,v,hb,_⟩|⟨_,v,hb,_⟩
 ·rw[hb] at ho;cases ho;rfl
 ·rw[hb] at ho;cases ho;rfl
theorem kB_ {N B:Nat} {w W w2 w3:World} (hB:Below N w W) (hs:N+3≤W.heap.size) (h12:Below W.heap.size W w2) (hb3:Below (N+1) w2 w3) (hk3:KeepsOthers w2 w3) (hx3:w3.heap[N+2]?=w2.heap[N+2]?) :
  KeepsFrom B W w3∧cK_ N (N+1+1) W w3∧Below N w w3:=
 ⟨((dY_ h12).trans hk3).from _,⟨(h12.mono (by omega)).trans (hb3.mono (by omega)),hx3.trans (h12.block _ (by omega))⟩,hB.trans ((h12.mono (by omega)).trans (hb3.mono (by omega)))⟩
theorem tT_ (neg:Bool) (a:Option Addr) (c:Nat) (w:World) :
  Calls Tryz.prog 213 #[.agg #[.bool neg,.slice a 0 c]] w fun e w'=>e=.returned (.tuple #[.string ⟨#[48]⟩,.int .i64 0])∧Below w.heap.size w w':=by
 go_enter Tryz.func213,Tryz.ntmps213
 go_wp2_with fail
 refine bodyPost_ret (v:=.tuple #[.string ⟨#[48]⟩,.int .i64 0]) ?_ rfl ⟨rfl,(Below.refl _ _).alloc (Nat.le_refl _) _⟩
 simp[results,Tryz.results213,go_sem]
theorem yU_ (neg:Bool) (a:Option Addr) (c n lo hi:Nat) (w:World) (hG:Glob w) (h:Nm w (.slice a (dig 10000 n).length c) n lo hi) (b:hi≤w.heap.size) (hf:Few n) (hn:0<n) :
  Calls Tryz.prog 213 #[.agg #[.bool neg,.slice a (dig 10000 n).length c]] w fun e w'=>e=.returned (if nDig n≤200 then .tuple #[.string ⟨((if neg then [45] else [])++txtN n).toArray⟩,.int .i64 0] else .tuple #[.string ⟨#[]⟩,.int .i64 30])∧Below w.heap.size w w':=by
 have hL:0<(dig 10000 n).length:=by rw[cD_ (by omega) hn];simp
 have hLm:=h.len
 unfold maxLen at hLm
 obtain⟨l,hl⟩:∃l,txtN n=l:=⟨_,rfl⟩
 have hnd:nDig n=l.length:=by unfold nDig;rw[hl]
 rw[hnd,hl]
 clear hnd
 have H:=Lib.hid h
 clear h
 refine(callsIn_wide (n:=3)).1 ?_
 refine callsIn_of_wp_marks Tryz.func213 rfl trivial ?_ rfl
 simp only[Tryz.ntmps213,List.size_toArray,List.length_cons,List.length_nil,Nat.reduceAdd,Nat.reduceSub,Array.replicate_succ,Array.replicate_zero,List.push_toArray,List.append_toArray,List.nil_append,List.cons_append]
 gi_wp2_with (refine⟨trivial,?_⟩;gi_at_call 229;refine(pS_ Fence.wide _ trivial rfl _ _ _ _).mono ?_;rintro e w' ⟨rfl,rfl⟩)
 obtain⟨W0,hW0⟩:∃W0,(w.alloc (.cells #[.bool neg,.slice a (dig 10000 n).length c] 245)).alloc (.cells #[.pointer none,.slice none 0 0] 145)=W0:=⟨_,rfl⟩
 have hs0:W0.heap.size=w.heap.size+1+1:=by rw[←hW0];simp
 have hB0:Below w.heap.size w W0:=by rw[←hW0];exact((Below.refl _ _).alloc (Nat.le_refl _) _).alloc (by simp) _
 have bN:=Boxed.new W0 243 (.slice a (dig 10000 n).length c)
 rw[hs0] at bN
 have hJ:TxJ w.heap.size (dig 10000 n).length neg a c [] (W0.alloc (.cells #[.slice a (dig 10000 n).length c] 243)):=by
  refine⟨?_,?_,?_,by simp;omega,⟨_,by rw[show w.heap.size+2=W0.heap.size from hs0.symm];exact World.alloc_heap_new _ _⟩⟩
  ·rw[←hW0];simp[go_sem]
  ·rw[←hW0];simp[go_sem]
  ·refine Lib.IsBuilderF.alloc ?_ _
   refine Lib.IsBuilderF.of (.inl ⟨Nat.le_refl _,.slice none 0 0,?_,⟨by simp[Lib.byteCells],.inl ⟨rfl,rfl⟩⟩,by simp[Value.ownBlock]⟩)
   rw[←hW0]
   have:=World.alloc_heap_new (w.alloc (.cells #[.bool neg,.slice a (dig 10000 n).length c] 245)) (.cells #[.pointer none,.slice none 0 0] 145)
   rwa[World.size_alloc] at this
 rw[hW0]
 clear hW0
 have hB1:Below W0.heap.size W0 (W0.alloc (.cells #[.slice a (dig 10000 n).length c] 243)):=(Below.refl _ _).alloc (Nat.le_refl _) _
 refine wpIn_rangeFunc_ownG rfl (by omega) (gf:=241) (lb:=#[.pointer (some ⟨w.heap.size+1+1,0,none⟩)]) rfl trivial (enters_of Tryz.func241 (by kernel_rfl) rfl)
  (hH_ Fence.wide _ trivial rfl (by omega) (w.heap.size+1+1) w.heap.size lo hi _ (dig 10000 n) (W0.alloc (.cells #[.slice a (dig 10000 n).length c] 243)) (by simp;omega) (by simp;omega) bN.cell ((H.out.below hB0 b).below hB1 (by omega)) b (bR_ (by omega) n))
  cK_.trans (pG_ (by simp;omega) (by simp;omega)) (Below.refl _ _) (fun _=>rfl)
  (fun pre W=>TxJ w.heap.size (dig 10000 n).length neg a c (eM_ (dig 10000 n).length (pre.map (·.1))) W∧Below w.heap.size w W)
  (fun _ _ _=>False)
  ?I (fun _ _ _ _ _ hs _ _=>hs) ?h0
  (fun x=>{ tmps:=#[.agg #[.bool neg,.slice a (dig 10000 n).length c],.pointer (some ⟨w.heap.size,0,none⟩),.string ⟨#[]⟩,.int .i64 0,.pointer (some ⟨w.heap.size+1,0,none⟩),.int .i64 (x.1.1:Int),.int .i64 (x.1.2:Int),undef,undef,.pointer (some ⟨w.heap.size,1,none⟩),.slice a (dig 10000 n).length c,.int .i64 ((dig 10000 n).length:Int),.bool false,.pointer (some ⟨w.heap.size,1,none⟩),.slice a (dig 10000 n).length c,.func (.func 241) #[] #[.pointer (some ⟨w.heap.size+1+1,0,none⟩)],.int .i64 (x.1.1:Int),.int .i64 (x.1.2:Int),undef,undef,undef,undef,undef,undef,undef,undef,undef,undef,undef,undef,undef,undef,undef,undef,undef,undef,undef,undef,undef,undef,undef,undef,undef],defers:=[] }) ?assign ?body ?done ?stop
 case I=>
  refine OwnFrom.and (Own.from (fun s A B row hs hg hr=>hs.own hg hr) _) (ownFrom_below (Nat.le_refl _) (by simp;omega))
 case h0=>exact⟨hJ,hB0.trans (hB1.mono (by omega))⟩
 case assign=>
  intro l x W K hK
  simp only[sZ_]
  gi_wp2
  exact hK
 case body=>
  rintro l pre x W ⟨hJW,hB⟩ hlen
  obtain⟨A,hA⟩:∃A,A=eM_ (dig 10000 n).length (pre.map (·.1)):=⟨_,rfl⟩
  have hAl:A.length≤4*pre.length:=by
   rw[hA]
   have:=jX_ (dig 10000 n).length (pre.map (·.1)) [] (fun p hp=>by obtain⟨q,_,rfl⟩:=List.mem_map.1 hp;exact q.2.2)
   rw[List.length_map,List.length_nil,Nat.zero_add] at this
   exact this
  have hnext:eM_ (dig 10000 n).length ((pre++[x]).map (·.1))=A++if x.1.1+1<(dig 10000 n).length then pad4 x.1.2 else txtN x.1.2:=by rw[List.map_append,hA];exact hQ_ _ _ _
  rw[←hA] at hJW
  have HX:=Lib.hid hnext
  have hfew:A.length≤4000000:=by unfold Few at hf;omega
  have HG:=Lib.hid (hG.below hB)
  clear hA hnext
  obtain⟨⟨i,d⟩,hxi,hxd⟩:=x
  simp only at hxi hxd HX⊢
  have HJ:=Lib.hid hJW
  clear hJW
  have hsz:=hB.size
  have hp4:=gB_ hxd
  have ht4:=hU_ hxd
  gi_wp2_with (first
   | (refine⟨trivial,?_⟩;gi_at_call 51;with_reducible refine(CallsIn.inRound l (callsIn_wide.2 (aBS d _ (by exact HG.out) hxd))).mono ?_;rintro e w1 ⟨⟨s,rfl,hs,hs4⟩,hb1⟩;have HJ1:=Lib.hid (HJ.out.below hb1);have q1:=HJ1.out.x1)
   | (refine⟨trivial,?_⟩;gi_at_call 232;with_reducible refine(CallsIn.inRound l (callsIn_wide.2 (tE_ d s hs hs4 _))).mono ?_;rintro e w2 ⟨⟨t,rfl,hts,htl⟩,hb2⟩;have HJ2:=Lib.hid (HJ1.out.below hb2))
   | (refine⟨trivial,?_⟩;gi_at_call 100;with_reducible refine(CallsIn.inRound l (callsIn_wide.2 (aCN (t:=pad4 d) _ _ HJ2.out hts (by omega)))).mono ?_;rintro e w3 ⟨⟨v,rfl,hJ3⟩,hb3,hk3,hx3⟩)
   | (refine⟨trivial,?_⟩;gi_at_call 100;with_reducible refine(CallsIn.inRound l (callsIn_wide.2 (aCN (t:=txtN d) _ _ HJ1.out hs (by omega)))).mono ?_;rintro e w3 ⟨⟨v,rfl,hJ3⟩,hb3,hk3,hx3⟩))
  ·have hc:=kB_ (B:=(W0.alloc (.cells #[.slice a (dig 10000 n).length c] 243)).heap.size) hB HJ.out.sz (hb1.trans (hb2.mono hb1.size)) hb3 hk3 hx3
   have hx:=HX.out
   rw[if_pos (by omega)] at hx
   rw[←hx] at hJ3
   exact⟨hc.1,hc.2.1,hJ3,hc.2.2⟩
  ·have hc:=kB_ (B:=(W0.alloc (.cells #[.slice a (dig 10000 n).length c] 243)).heap.size) hB HJ.out.sz hb1 hb3 hk3 hx3
   have hx:=HX.out
   rw[if_neg (by omega)] at hx
   rw[←hx] at hJ3
   exact⟨hc.1,hc.2.1,hJ3,hc.2.2⟩
 case done=>
  rintro D ys W hD hys ⟨hJ,hB⟩ hK
  rw[hys,pQ_ hn] at hJ
  have HJ:=Lib.hid hJ
  clear hJ hys
  rw[hl] at HJ
  gi_wp2_with (refine⟨trivial,?_⟩;gi_at_call 101;with_reducible refine(callsIn_wide.2 (tD_ _ HJ.out)).mono ?_;rintro e w3 ⟨⟨s,rfl,hs⟩,hJ3,hb3,hk3⟩;have hsz:s.size=l.length:=(by rw[dU_,hs]);have q1:=hJ3.x0)
  all_goals
   have hK3:=hk3.same D _ hK rfl
   have hbl:=(hB.trans (hb3.mono (by omega))).trans (belowK_b (w:=w) (Nat.le_refl _) w3 D _ (.deferred none) (by simp at hD;omega) hK3 rfl rfl)
  ·refine⟨by simp,.inl ⟨_,_,rfl,run_takeDeferred hK3,?_⟩⟩
   refine⟨.tuple #[.string ⟨#[]⟩,.int .i64 30],?_,rfl,hbl⟩
   simp[results,Tryz.f213,go_sem]
  ·refine⟨by simp,.inl ⟨_,_,rfl,run_takeDeferred hK3,?_⟩⟩
   refine⟨.tuple #[.string (⟨#[45]⟩++s),.int .i64 0],?_,?_,hbl⟩
   ·simp[results,Tryz.f213,go_sem]
   ·have e:(⟨#[45]⟩++s:ByteArray)=⟨(45::l).toArray⟩:=by
     apply ByteArray.ext
     apply Array.toList_inj.1
     rw[oO_,hs]
     rfl
    rw[e]
  ·refine⟨by simp,.inl ⟨_,_,rfl,run_takeDeferred hK3,?_⟩⟩
   refine⟨.tuple #[.string s,.int .i64 0],?_,?_,hbl⟩
   ·simp[results,Tryz.f213,go_sem]
   ·have e:s=⟨l.toArray⟩:=by
     apply ByteArray.ext
     apply Array.toList_inj.1
     rw[hs]
    rw[e]
 case stop=>
  rintro D c pre W _ _ h _
  exact h.elim
end Go.Proofs.YtdkaohphbgdkpaaGreatDoor
namespace Go.Proofs.YtdkaohphbgdkpaaGreatDoor
open Go.RowKit Go.Shelf
theorem oV_ (v1 v2:Value) (x y:Int) (lo1 hi1 lo2 hi2:Nat) (w:World) (h1:Zg w v1 x lo1 hi1) (h2:Zg w v2 y lo2 hi2) (b1:hi1≤w.heap.size) (b2:hi2≤w.heap.size) (l1:Few x.natAbs) (l2:Few y.natAbs) :
  Calls Tryz.prog 212 #[v1,v2] w fun e w'=>(∃v,e=.returned v∧Zg w' v (x+y) w.heap.size w'.heap.size)∧Below w.heap.size w w':=by
 obtain⟨neg,n,a1,c1,rfl,hn,rfl⟩:=h1.form
 obtain⟨ng,m,a2,c2,rfl,hm,rfl⟩:=h2.form
 have e1:(if neg=true then -(n:Int) else n).natAbs=n:=by split <;> omega
 have e2:(if ng=true then -(m:Int) else m).natAbs=m:=by split <;> omega
 rw[e1] at l1
 rw[e2] at l2
 by_cases hne:neg=ng
 ·subst hne
  refine(zB_ neg a1 a2 c1 c2 n m lo1 hi1 lo2 hi2 w hn hm b1 b2 l1 l2).mono ?_
  rintro e w' ⟨⟨s,rfl,hs⟩,hb⟩
  refine⟨⟨_,rfl,neg,n+m,s,rfl,hs,?_⟩,hb⟩
  cases neg <;> simp <;> omega
 ·refine(sum_ne neg ng (by cases neg <;> cases ng <;> simp_all) a1 a2 c1 c2 n m lo1 hi1 lo2 hi2 w hn hm b1 b2 l1 l2).mono ?_
  rintro e w' ⟨⟨s,⟨hle,rfl,hs⟩|⟨hle,rfl,hs⟩⟩,hb⟩
  ·refine⟨⟨_,rfl,neg,n-m,s,rfl,hs,?_⟩,hb⟩
   cases neg <;> cases ng <;> simp_all <;> omega
  ·refine⟨⟨_,rfl,ng,m-n,s,rfl,hs,?_⟩,hb⟩
   cases neg <;> cases ng <;> simp_all <;> omega
end Go.Proofs.YtdkaohphbgdkpaaGreatDoor
