/- - -/
import Derived.Deep.CutBlock
import Derived.Deep.CutRange
import Derived.Test.YtdkaohphbgdkpaaGreatDoorZTb
import Derived.Test.YtdkaohphbgdkpaaGreatDoorZQT
set_option linter.unusedSimpArgs false
set_option linter.unusedVariables false
set_option maxHeartbeats 40000000
set_option maxRecDepth 1000000
namespace Go.Proofs.YtdkaohphbgdkpaaGreatDoor
open Go.RowKit Go.Shelf Go.Sort
attribute [local go_sem] Oper.semAt_some
def MaxW (w:World):Prop:=(∃m,w.cell? ⟨0,0,none⟩=some (.int .i64 m))∧0<w.heap.size
theorem MaxW.below {w w':World} (h:MaxW w) (hb:Below w.heap.size w w'):MaxW w':=by
 obtain⟨⟨m,hm⟩,h0⟩:=h
 exact⟨⟨m,(hb.cell (p:=⟨0,0,none⟩) h0).trans hm⟩,Nat.lt_of_lt_of_le h0 hb.size⟩
def HearP (o:Option St) (X:Nat) (L:List (Nat×List Value)) (w:World) (e:Ending) (W':World):Prop:=e=.returned (.bool o.isSome)∧AzAt L w W'∧∀st',o=some st'→∃v0 v1 v2 v3,MoAt (sdR v0 v1 v2 v3 (asmD st')) ((X,[v0,v1,v2,v3])::L) w W'
theorem HrAt.bad {X B5 Bw:Nat} {v0 v1 v2 v3:Value} {rs:List Rw} {u:Value} {all:List ByteArray} {L L':List (Nat×List Value)} {w W:World} {o:Option St} (h:HrAt X B5 Bw v0 v1 v2 v3 rs u all L' w W) (hs:∀y∈L,y∈L') (ho:o=none):HearP o X L w (.returned (.bool false)) W:=by
 subst ho
 refine⟨rfl,h.mo.az.sub fun y hy=>?_,fun st' h=>(nomatch h)⟩
 simp only[List.mem_cons]
 exact .inr (.inr (.inr (hs y hy)))
theorem aDB (s:ByteArray) (hs:s.size≤999999) (W:World) (hM:MaxW W):Calls Tryz.prog 82 #[.string s,.string ⟨#[32]⟩] W fun e W'=>∃all:List ByteArray,bsL all=bB_ 32 s.data.toList∧all≠[]∧e=.returned (.slice (some ⟨W.heap.size,0,none⟩) all.length all.length)∧W'=W.alloc (.cells (ucC all).toArray 9)∧all.length≤1000000∧∀a∈all,a.size≤1000000:=by
 obtain⟨⟨m,hm⟩,_⟩:=hM
 refine(Tryz.strings_Split s ⟨#[32]⟩ m W (by omega) hm (Nat.le_refl 1)).mono ?_
 rintro e W' ⟨rfl,rfl⟩
 have hl:=Lib.splitB_all ⟨#[32]⟩ (Nat.le_refl 1) 0 _ s rfl
 refine⟨_,iR_ s,fun h=>by rw[h] at hl;simp at hl,by rw[hl],rfl,by rw[hl];have:=Lib.countB_le ⟨#[32]⟩ (Nat.le_refl 1) _ s (Nat.le_refl _);omega,fun a ha=>?_⟩
 have:=nD_ 32 s.data.toList a.data.toList (by rw[←iR_ s];exact List.mem_map.2 ⟨a,ha,rfl⟩)
 rw[dU_]
 rw[dU_] at hs
 omega
theorem qK_ {a b:Option Addr} {n m c d:Nat} (h:Value.slice a n c=.slice b m d):a=b∧n=m∧c=d:=by
 injection h with h1 h2 h3
 exact⟨h1,h2,h3⟩
section
variable {X B5 Bw:Nat} {v0 v1 v2 v3:Value} {x:SD} {u:Value} {all:List ByteArray} {L:List (Nat×List Value)} {w W:World}
theorem HrAt.row0 (h:HrAt X B5 Bw v0 v1 v2 v3 (sdR v0 v1 v2 v3 x) u all L w W) {b:Option Addr} {n c:Nat} (e:v0=.slice b n c):n=x.shapes.length∧ShsAt b x.shapes W∧n≤c:=by
 obtain⟨a,c',e1,h1,h2⟩:=h.mo.slice (r:=⟨30,11,v0,x.shapes.length,ssC x.shapes⟩) (by unfold sdR;simp)
 obtain⟨rfl,rfl,rfl⟩:=qK_ (e.symm.trans e1)
 exact⟨rfl,ShsAt.of h1,h2⟩
theorem HrAt.row3 (h:HrAt X B5 Bw v0 v1 v2 v3 (sdR v0 v1 v2 v3 x) u all L w W) {b:Option Addr} {n c:Nat} (e:v3=.slice b n c):n=x.leads.length∧TrsAt b x.leads W∧n≤c:=by
 obtain⟨a,c',e1,h1,h2⟩:=h.mo.slice (r:=⟨59,3,v3,x.leads.length,tsC x.leads⟩) (by unfold sdR;simp)
 obtain⟨rfl,rfl,rfl⟩:=qK_ (e.symm.trans e1)
 exact⟨rfl,TrsAt.of h1,h2⟩
theorem aCQ {ops:Array Oper} {rest:List Oper} {o:Oper} {a:Act} {Q:Exit→Act→World→Prop} (hgd:o.guard=none) (s y:Operand) (ho:o.op=.call { callee:=.builtin .append,args:=#[s,y],argTypes:=#[60,60] })
  (p:L3) (B:Nat) (h:HrAt X B5 Bw v0 v1 v2 v3 (sdR v0 v1 v2 v3 x) u all ((B,[.int .i64 p.1,.int .i64 p.2.1,.int .i64 p.2.2])::L) w W) (hs:a.eval s=v3) (hx:a.eval y=.slice (some ⟨B,0,none⟩) 1 1) {n:Nat} (hnn:n=x.leads.length) (hn:x.leads.length≤100000)
  (hK:∀b' c' W',HrAt X B5 Bw v0 v1 v2 v3 (sdR v0 v1 v2 (.slice b' (n+1) c') { x with leads:=x.leads++[p] }) u all ((B,[.int .i64 p.1,.int .i64 p.2.1,.int .i64 p.2.2])::L) w W'→wpList Tryz.prog ops Q rest (a.put o.dst (.slice b' (n+1) c')) W'):wpList Tryz.prog ops Q (o::rest) a W:=by
 refine wpList_plain hgd fun K hK'=>?_
 obtain⟨v',W',hr,h2,_⟩:=uI_ h.mo p B 1 (by simp) hn o.type
 obtain⟨b',c',e,_⟩:=h2.slice (r:=⟨59,3,v',(x.leads++[p]).length,tsC (x.leads++[p])⟩) (by unfold sdR;simp)
 simp only[List.length_append,List.length_cons,List.length_nil] at e
 rw[←hnn] at e
 subst e
 unfold Oper.wp execOp
 simp only[ho,resolve,invoke,builtin,Sem.run_bind,Sem.run_pure,Result.andThen_ok,List.map_toArray,List.map_cons,List.map_nil,hs,hx,hr]
 exact hK' _ _ (hK b' c' W' (h.rows h2))
end
theorem aBI (a b c:Int) (B:Nat) (W:World) (hB:W.heap.size=B):Calls Tryz.prog 86 #[.slice (some ⟨B,0,none⟩) 3 3] (W.alloc (.cells #[.int .i64 a,.int .i64 b,.int .i64 c] 3)) fun e W'=>e=.returned (.bool (aN_ a&&aN_ b&&aN_ c))∧Below W.heap.size W W':=by
 subst hB
 refine(fO_ (l:=[a,b,c]) (n:=3) rfl (by omega) _ (CsAt.of_ar (ArAt.mk' W [.int .i64 a,.int .i64 b,.int .i64 c] 3))).mono ?_
 rintro e W' ⟨rfl,hb⟩
 exact⟨by simp[Bool.and_assoc],((Below.refl W.heap.size W).alloc (Nat.le_refl _) (.cells #[.int .i64 a,.int .i64 b,.int .i64 c] 3)).trans (hb.mono (by simp))⟩
def nxB (ls:List L3) (c:Int):Bool:=match ls.getLast? with|none=>true|some p=>decide (p.1<c)
theorem okL_eq (ls:List L3) (a b c:Int):okL ls (a,b,c)=(aN_ a&&aN_ b&&aN_ c&&nxB ls a):=rfl
theorem HrAt.setL {X B5 Bw:Nat} {v0 v1 v2 v3:Value} {rs:List Rw} {u:Value} {all:List ByteArray} {L:List (Nat×List Value)} {w W:World} {B i:Nat} {l:List Value} {y:Value} (h:HrAt X B5 Bw v0 v1 v2 v3 rs u all ((B,l)::L) w W) (hB:w.heap.size≤B) (hw:B≠Bw) (hd:∀z∈L,B≠z.1) (hi:l[i]?=some y) (t:Value):HrAt X B5 Bw v0 v1 v2 v3 rs u all ((B,l.set i t)::L) w (W.setCell ⟨B,i,none⟩ t):=by
 have hX:=h.dX.2.2.2 (B,l) (by simp)
 have h5:=h.d5.2.2 (B,l) (by simp)
 have h1:=(h.mo.sub (L':=(B,l)::(X,[v0,v1,v2,v3])::(B5,[u])::(Bw,ucC all)::L) (fun z hz=>by
  simp only[List.mem_cons] at hz⊢
  rcases hz with hz|hz|hz|hz|hz
  ·exact .inr (.inr (.inr (.inl hz)))
  ·exact .inl hz
  ·exact .inr (.inl hz)
  ·exact .inr (.inr (.inl hz))
  ·exact .inr (.inr (.inr (.inr hz))))).set hB (fun z hz=>by
   simp only[List.mem_cons] at hz
   rcases hz with rfl|rfl|rfl|hz
   ·exact fun e=>hX e.symm
   ·exact fun e=>h5 e.symm
   ·exact hw
   ·exact hd z hz) hi t
 refine⟨h1.sub fun z hz=>?_,⟨h.dX.1,h.dX.2.1,h.dX.2.2.1,fun z hz=>?_⟩,⟨h.d5.1,h.d5.2.1,fun z hz=>?_⟩⟩
 ·simp only[List.mem_cons] at hz⊢
  rcases hz with hz|hz|hz|hz|hz
  ·exact .inr (.inl hz)
  ·exact .inr (.inr (.inl hz))
  ·exact .inr (.inr (.inr (.inl hz)))
  ·exact .inl hz
  ·exact .inr (.inr (.inr (.inr hz)))
 ·rcases List.mem_cons.1 hz with rfl|hz
  ·exact hX
  ·exact h.dX.2.2.2 z (List.mem_cons_of_mem _ hz)
 ·rcases List.mem_cons.1 hz with rfl|hz
  ·exact h5
  ·exact h.d5.2.2 z (List.mem_cons_of_mem _ hz)
structure HrC (all:List ByteArray) (ws:List Bs) (w:World):Prop where
 l:all.length≤1000000
 z:∀a∈all,a.size≤1000000
 e:bsL all=ws
 g:GlobE w
 t:Glob w
theorem fS_ {X B5 Bw:Nat} {v0 v1 v2 v3:Value} {rs:List Rw} {u:Value} {all:List ByteArray} {ws:List Bs} {L:List (Nat×List Value)} {w W:World} (hc:HrC all ws w) {o Bq c k:Nat} {want:List ByteArray} {wl:List Bs} (hwl:bsL want=wl) (hk:want.length=k) (hk6:k≤1000) (hu:WdAt u Bw all o) (h:HrAt X B5 Bw v0 v1 v2 v3 rs u all ((Bq,ucC want)::L) w W) :
  Calls Tryz.prog 83 #[.slice (some ⟨Bq,0,none⟩) k c,.pointer (some ⟨B5,0,none⟩)] W fun e W'=>∃z u' o',e=.returned (.tuple #[.int .i64 z,.bool (takN wl (ws.drop o)).isSome])∧(∀n,takN wl (ws.drop o)=some n→n=z)∧HrAt X B5 Bw v0 v1 v2 v3 rs u' all L w W'∧WdAt u' Bw all o'∧o'=if (takN wl (ws.drop o)).isSome then o+(k+1) else o:=by
 subst hwl
 rw[←hc.e]
 exact wP_ h hu hk hk6 hc.l hc.z hc.g hc.t
theorem aBC {l:List Bs} {k:Nat} {a b:Bs} (h0:(l.drop k)[0]?=some a) (h1:(l.drop k)[1]?=some b):l.drop k=a::b::l.drop (k+2):=by
 have e:(l.drop k).drop 2=l.drop (k+2):=List.drop_drop
 rw[←e]
 match l.drop k,h0,h1 with
 | x::y::r,h0,h1=>cases h0;cases h1;rfl
theorem kX_ (W:World):Below W.heap.size W W.drew:=⟨rfl,rfl,rfl,Nat.le_refl _,fun _ _=>rfl⟩
theorem aBH (a:Int) (B:Nat) (W:World) (h:CsAt (some ⟨B,0,none⟩) (icC [a]) W):Calls Tryz.prog 86 #[.slice (some ⟨B,0,none⟩) 1 1] W fun e W'=>e=.returned (.bool (aN_ a))∧Below W.heap.size W W':=by
 refine(fO_ (l:=[a]) (n:=1) rfl (by omega) W h).mono ?_
 rintro e W' ⟨rfl,hb⟩
 exact⟨by simp,hb⟩
def isLd (ws:List Bs):Bool:=decide (ws.length=7)&&decide (ws[2]?=some aH_)
theorem hear_s {X:Nat} {v0 v1 v2 v3:Value} {st:St} {L:List (Nat×List Value)} {w:World} (sent:ByteArray) (hs:sent.size≤999999) (hok:OkSt st) (W:World) (h:MoAt (sdR v0 v1 v2 v3 (asmD st)) ((X,[v0,v1,v2,v3])::L) w W) (hd:w.heap.size≤X∧∀y∈L,X≠y.1∧y.1<W.heap.size) (hG:GlobE w) (hT:Glob w) (hM:MaxW w) :
  Calls Tryz.prog 47 #[.pointer (some ⟨X,0,none⟩),.string sent] W fun e W'=>HearP (cJ_ st (bB_ 32 sent.data.toList)) X L w e W':=by
 obtain⟨b0,c0,e0,-⟩:=h.slice (r:=⟨30,11,v0,(asmD st).shapes.length,ssC (asmD st).shapes⟩) (by unfold sdR;simp)
 obtain⟨b3,c3,e3,-⟩:=h.slice (r:=⟨59,3,v3,(asmD st).leads.length,tsC (asmD st).leads⟩) (by unfold sdR;simp)
 simp only at e0 e3
 obtain⟨n0,hn0⟩:∃n,n=(asmD st).shapes.length:=⟨_,rfl⟩
 obtain⟨n3,hn3⟩:∃n,n=(asmD st).leads.length:=⟨_,rfl⟩
 have HN0:=Lib.hid (show n0=st.its.length by rw[hn0];exact List.length_map _)
 have HN3:=Lib.hid (show n3=st.ls.length from hn3)
 rw[←hn0] at e0
 rw[←hn3] at e3
 subst e0 e3
 clear hn0 hn3
 have H:=Lib.hid h
 have HD:=Lib.hid hd
 have HO:=Lib.hid hok
 have HG:=Lib.hid hG
 have HT:=Lib.hid hT
 have KS:=Lib.hid (aDB sent hs W (hM.below h.az.bw))
 have hXs:X<W.heap.size:=(h.az.row (X,[.slice b0 n0 c0,v1,v2,.slice b3 n3 c3]) (by simp)).sz
 have HXS:=Lib.hid hXs
 obtain⟨ws,hws0⟩:∃ws,ws=bB_ 32 sent.data.toList:=⟨_,rfl⟩
 rw[←hws0]
 have HWS0:=Lib.hid hws0
 clear hws0
 clear h hd hok hG hT hM hs hXs
 go_enter Tryz.func47,Tryz.ntmps47
 go_upto_region 3 with (first
  | (go_at_call 82;(with_reducible refine(KS.out).mono ?_);rintro e w1 ⟨all,hws,hne,rfl,rfl,hl6,hz6⟩))
 obtain⟨u,hu⟩:∃u,u=Value.slice (some ⟨W.heap.size,0,none⟩) all.length all.length:=⟨_,rfl⟩
 obtain⟨Bw,hBw⟩:∃B,B=W.heap.size:=⟨_,rfl⟩
 obtain⟨n,hn⟩:∃n,n=all.length:=⟨_,rfl⟩
 have h2:HrAt X (Bw+1) Bw (.slice b0 n0 c0) v1 v2 (.slice b3 n3 c3) (sdR (.slice b0 n0 c0) v1 v2 (.slice b3 n3 c3) (asmD st)) u all L w ((W.alloc (.cells (ucC all).toArray 9)).alloc (.cells #[u] 66)):=by
  have h1:=(H.out.push (ucC all) 9).push [u] 66
  simp only[World.size_alloc,←hBw] at h1
  have h3:=HXS.out
  refine⟨h1.sub fun y hy=>?_,⟨HD.out.1,by omega,by omega,fun y hy=>(HD.out.2 y hy).1⟩,⟨by have:=HD.out.1;omega,by omega,fun y hy=>by have:=(HD.out.2 y hy).2;omega⟩⟩
  simp only[List.mem_cons] at hy⊢
  rcases hy with hy|hy|hy|hy
  ·exact .inr (.inr (.inl hy))
  ·exact .inl hy
  ·exact .inr (.inl hy)
  ·exact .inr (.inr (.inr hy))
 have hwd:WdAt u Bw all 0:=⟨Nat.zero_le _,0,by rw[hu,hBw];rfl,fun _=>rfl⟩
 obtain⟨W2,hW2⟩:∃W2,W2=((W.alloc (.cells (ucC all).toArray 9)).alloc (.cells #[u] 66)):=⟨_,rfl⟩
 rw[←hW2] at h2
 have HW:=Lib.hid h2
 have HU:=Lib.hid hwd
 have HN:=Lib.hid (And.intro hn (show 0<n by rw[hn];exact List.length_pos_iff.2 hne))
 have HWS:=Lib.hid (show bsL all=ws by rw[HWS0.out];exact hws)
 have hlen:ws.length=n:=by rw[hn,←HWS.out,List.length_map]
 have HWL:=Lib.hid hlen
 have HC:=Lib.hid (show HrC all ws w from⟨hl6,hz6,HWS.out,HG.out,HT.out⟩)
 rw[←hu,←hBw,←hW2]
 clear h2 hwd hws hl6 hz6 hlen hW2 hBw hne KS H HD HXS hu hn
 have x5:=HW.out.c5
 obtain⟨q34,hq34⟩:∃q,q=isLd ws:=⟨_,rfl⟩
 have HQ:=Lib.hid hq34
 clear hq34
 go_cut [34] from 26 to 33 (fun v34 wX=>v34=.bool q34∧wX=W2)
 case first=>
  have hun:u=Value.slice (some ⟨Bw,0,none⟩) n n:=by
   obtain⟨_,p,hp,h0⟩:=HU.out
   rw[hp,Nat.sub_zero,h0 (by have:=HN.out;omega),←HN.out.1]
  by_cases h7:n=7
  ·obtain⟨a2,ha2⟩:∃a,all[2]?=some a:=⟨_,List.getElem?_eq_getElem (by have:=HN.out;omega)⟩
   have y2:=HW.out.wd ha2
   have eq2:(a2.toList == [108,101,97,100,115])=q34:=by
    rw[HQ.out]
    unfold isLd
    rw[HWL.out,decide_eq_true h7,Bool.true_and,ByteArray.toList_eq]
    have e:ws[2]?=some a2.data.toList:=by rw[←HWS.out,List.getElem?_map,ha2];rfl
    rw[e]
    by_cases h:a2.data.toList=aH_
    ·rw[h];rfl
    ·rw[decide_eq_false (fun e=>h (Option.some.inj e))]
     exact beq_eq_false_iff_ne.2 h
   have t7:((n:Int)==7)=true:=by rw[h7];rfl
   have t6:(2:Int)<(n:Int):=by omega
   have H7:=Lib.hid h7
   subst hun
   clear h7
   go_wp2
   go_meet
   exact⟨rfl,rfl⟩
  ·have t7:((n:Int)==7)=false:=by simp;omega
   have HQF:=Lib.hid (show q34=false from by rw[HQ.out];unfold isLd;rw[HWL.out,decide_eq_false h7];rfl)
   subst hun
   go_wp2
   go_meet
   exact⟨by rw[HQF.out],rfl⟩
 case rest=>
 obtain⟨rfl,rfl⟩:=hcut
 go_upto_if 34 with fail
 go_cut [7,8] from 35 to 111 (fun v7 v8 wX=>∃u',WdAt u' Bw all 0∧HrAt X (Bw+1) Bw (.slice b0 n0 c0) v1 v2 (.slice b3 n3 c3) (sdR (.slice b0 n0 c0) v1 v2 (.slice b3 n3 c3) (asmD st)) u' all L w wX∧Hid (¬wD_ ws))
 case first=>
  cases q34 with
  | false=>
   go_wp2
   go_meet
   exact⟨u,HU.out,HW.out,Lib.hid (fun h=>by
    have e:=HQ.out
    unfold isLd at e
    rw[decide_eq_true h.1,decide_eq_true h.2.1] at e
    cases e)⟩
  | true=>
   have hld:ws.length=7∧ws[2]?=some aH_:=by
    have e:=HQ.out
    unfold isLd at e
    have e2:=e.symm
    rw[Bool.and_eq_true,decide_eq_true_eq,decide_eq_true_eq] at e2
    exact e2
   have HLD:=Lib.hid hld
   have HP:=Lib.hid (show HrAt X (Bw+1) Bw (.slice b0 n0 c0) v1 v2 (.slice b3 n3 c3) (sdR (.slice b0 n0 c0) v1 v2 (.slice b3 n3 c3) (asmD st)) u all ((wc.heap.size,ucC [⟨#[97,114,114,111,119]⟩])::L) w (wc.alloc (.cells #[.string ⟨#[97,114,114,111,119]⟩] 9)) from HW.out.push (ucC [⟨#[97,114,114,111,119]⟩]) 9)
   have K1:=Lib.hid (fS_ (c:=1) HC.out (wl:=[bA_]) rfl (show([⟨#[97,114,114,111,119]⟩]:List ByteArray).length=1 from rfl) (by omega) HU.out HP.out)
   obtain⟨oc,hoc⟩:∃oc,oc=takN [bA_] (ws.drop 0):=⟨_,rfl⟩
   rw[←hoc] at K1
   have HOC:=Lib.hid (show takN [bA_] ws=oc from hoc.symm)
   clear hld hoc x5
   cases oc with
   | none=>
    go_wp2_with (first
     | (go_at_call 83;(with_reducible refine(K1.out).mono ?_);rintro e w1 ⟨z,u1,o1,rfl,hz,h1,hu1,ho1⟩;have H1:=Lib.hid (And.intro h1 (And.intro hu1 ho1)))
     | fail)
    go_meet
    exact⟨u1,by have h:=H1.out.2.1;rw[H1.out.2.2] at h;exact h,H1.out.1,Lib.hid (fun h=>by
     have e:=h.2.2
     rw[HOC.out] at e
     cases e)⟩
   | some c=>
    as_aux_lemma=>
    obtain⟨oa,hoa⟩:∃o,o=takN [aH_,eC_] (ws.drop 2):=⟨_,rfl⟩
    have HOA:=Lib.hid hoa
    clear hoa
    go_upto_region 8 with (first
     | (have _:=K3;go_at_call 83;(with_reducible refine(K3.out).mono ?_);rintro e w3 ⟨z3,u3,o3,rfl,hz3,h3,hu3,ho3⟩;have H3:=Lib.hid h3;have HZ3:=Lib.hid hz3;clear h3 hz3 hu3 ho3)
     | (have _:=K2;go_at_call 83;(with_reducible refine(K2.out).mono ?_);rintro e w2 ⟨z2,u2,o2,rfl,hz2,h2,hu2,ho2⟩;have HO2:=Lib.hid ho2;have HZ2:=Lib.hid hz2;have HP3:=Lib.hid (show HrAt X (Bw+1) Bw (.slice b0 n0 c0) v1 v2 (.slice b3 n3 c3) (sdR (.slice b0 n0 c0) v1 v2 (.slice b3 n3 c3) (asmD st)) u2 all ((w2.heap.size,ucC [⟨#[116,111]⟩])::L) w (w2.alloc (.cells #[.string ⟨#[116,111]⟩] 9)) from h2.push (ucC [⟨#[116,111]⟩]) 9);have K3:=Lib.hid (fS_ (c:=1) HC.out (wl:=[wTo]) rfl (show([⟨#[116,111]⟩]:List ByteArray).length=1 from rfl) (by omega) hu2 HP3.out);clear h2 hz2 hu2 ho2)
     | (go_at_call 83;(with_reducible refine(K1.out).mono ?_);rintro e w1 ⟨z1,u1,o1,rfl,hz1,h1,hu1,ho1⟩;have ho1':o1=2:=ho1;subst ho1';have hzc:c=z1:=hz1 c rfl;subst hzc;have HP2:=Lib.hid (show HrAt X (Bw+1) Bw (.slice b0 n0 c0) v1 v2 (.slice b3 n3 c3) (sdR (.slice b0 n0 c0) v1 v2 (.slice b3 n3 c3) (asmD st)) u1 all ((w1.heap.size,ucC [⟨#[108,101,97,100,115]⟩,⟨#[102,114,111,109]⟩])::L) w (w1.alloc (.cells #[.string ⟨#[108,101,97,100,115]⟩,.string ⟨#[102,114,111,109]⟩] 9)) from h1.push (ucC [⟨#[108,101,97,100,115]⟩,⟨#[102,114,111,109]⟩]) 9);have K2:=Lib.hid (fS_ (c:=2) HC.out (wl:=[aH_,eC_]) rfl (show([⟨#[108,101,97,100,115]⟩,⟨#[102,114,111,109]⟩]:List ByteArray).length=2 from rfl) (by omega) hu1 HP2.out);rw[←HOA.out] at K2;clear h1 hz1 hu1 ho1)
     | fail)
    obtain⟨ob,hob⟩:∃o,o=takN [wTo] (ws.drop o2):=⟨_,rfl⟩
    have HOB:=Lib.hid hob
    obtain⟨qa,hqa⟩:∃q,q=oa.isSome:=⟨_,rfl⟩
    obtain⟨qb,hqb⟩:∃q,q=(takN [wTo] (ws.drop o2)).isSome:=⟨_,rfl⟩
    rw[←hqa,←hqb]
    have HQA:=Lib.hid hqa
    have HQB:=Lib.hid (show qb=ob.isSome by rw[hqb,hob])
    obtain⟨nx,hnx⟩:∃q,q=nxB st.ls c:=⟨_,rfl⟩
    have HNX:=Lib.hid hnx
    have hn40:n3≤40:=by rw[HN3.out];exact HO.out.m
    clear hqa hqb hob hnx K1 HP HP2 K2 HP3 K3 HW
    go_cut [13] from 54 to 76 (fun v13 wX=>v13=.bool nx∧HrAt X (Bw+1) Bw (.slice b0 n0 c0) v1 v2 (.slice b3 n3 c3) (sdR (.slice b0 n0 c0) v1 v2 (.slice b3 n3 c3) (asmD st)) u3 all L w wX)
    case first=>
     have x3:=cell_regrown H3.out.cX.2.2.2
     by_cases hz0:n3=0
     ·have t0:((n3:Int)==0)=true:=by rw[hz0];rfl
      have HNX2:=Lib.hid (show nx=true from by
       rw[HNX.out]
       have:st.ls=[]:=List.eq_nil_of_length_eq_zero (by rw[←HN3.out];exact hz0)
       rw[this]
       rfl)
      clear hz0
      refine wp_region_quiet_below (by kernel_rfl) (by kernel_rfl) ?_
      repeat (go_big_quiet_step (fail))
      refine wpQuiet_nil ?_
      intro W5 hw5
      have hb5:Below w3.heap.size w3 W5:=by obtain⟨⟨dq,osq⟩,hw7⟩:=hw5;rw[hw7];exact below_regrown _ dq osq
      have H4:=Lib.hid (H3.out.below hb5)
      clear hw5 hb5
      go_wp2
      go_meet
      exact⟨by rw[HNX2.out],H4.out⟩
     ·have t0:((n3:Int)==0)=false:=by simp;omega
      obtain⟨k',hk'⟩:∃k',n3=k'+1:=⟨n3-1,by omega⟩
      obtain⟨p,hp⟩:∃p,st.ls[k']?=some p:=⟨_,List.getElem?_eq_getElem (by rw[←HN3.out];omega)⟩
      obtain⟨bb,oo,rfl,hb8,p0,-,-⟩:=(H3.out.row3 rfl).2.1.row k' p hp
      have g1:IntKind.i64.wrap ((n3:Int)-1)=(k':Int):=(IntWalk.i64_in _ (by omega)).trans (by omega)
      have g2:(k':Int)<(n3:Int):=by omega
      have p1:=cell_regrown p0
      obtain⟨q3,hq3⟩:∃q,q=decide (p.1<c):=⟨_,rfl⟩
      have t6:=hq3.symm
      have HNX2:=Lib.hid (show nx=q3 from by
       rw[HNX.out,hq3]
       unfold nxB
       have:st.ls.getLast?=some p:=by rw[List.getLast?_eq_getElem?,←HN3.out,hk',Nat.add_sub_cancel];exact hp
       rw[this])
      clear hz0 hq3 hk' hp p0
      refine wp_region_quiet_below (by kernel_rfl) (by kernel_rfl) ?_
      repeat (go_big_quiet_step (fail))
      refine wpQuiet_nil ?_
      intro W5 hw5
      have hb5:Below w3.heap.size w3 W5:=by obtain⟨⟨dq,osq⟩,hw7⟩:=hw5;rw[hw7];exact below_regrown _ dq osq
      have H4:=Lib.hid (H3.out.below hb5)
      clear hw5 hb5
      go_wp2
      go_meet
      exact⟨by rw[HNX2.out],H4.out⟩
    case rest=>
    obtain⟨rfl,hcx⟩:=hcut
    have H4:=Lib.hid hcx
    have HP4:=Lib.hid (hcx.push [.int .i64 c,.int .i64 z2,.int .i64 z3] 59)
    have x3:=hcx.cX.2.2.2
    have hXs:=hcx.szX
    have KA:=Lib.hid (fun B W hB=>aBI c z2 z3 B W hB)
    clear hcx H3
    go_upto_region 10 with (first
     | (at_builtin;refine aCQ rfl _ _ rfl (c,z2,z3) _ HP4.out rfl rfl (n:=n3) HN3.out (by have:=HN3.out;show st.ls.length≤100000;omega) ?_;intro b4 c4 W4 h4;have H5:=Lib.hid h4;have y3:=h4.cX.2.2.2;have f3:=h4.fX.2.2.2;clear h4)
     | fail)
    have H6:=Lib.hid (H5.out.setX (i:=3) rfl (t:=.slice b4 (n3+1) c4) rfl)
    have y6:=H6.out.cX.2.2.2
    have HSZ:=Lib.hid H6.out.szX
    have hll:=wQ_ (st:=st) HLD.out.1 HLD.out.2 HOC.out
    rw[←HOA.out] at hll
    have HLL:=Lib.hid hll
    have hno:qa=false∨qb=false→cJ_ st ws=none:=by
     rintro hq
     cases oa with
     | none=>exact HLL.out.2 (.inl rfl)
     | some n=>
      have ho2:o2=5:=HO2.out
      subst ho2
      rcases hq with hq|hq
      ·rw[HQA.out] at hq
       cases hq
      ·rw[HQB.out] at hq
       refine HLL.out.2 (.inr ?_)
       rw[←HOB.out]
       cases ob with
       | none=>rfl
       | some m=>cases hq
    have hyes:qa=true→qb=true→cJ_ st ws=if okL st.ls (c,z2,z3)=true∧st.ls.length<40 then some ⟨st.its,st.ls++[(c,z2,z3)]⟩ else none:=by
     intro h1 h2
     cases oa with
     | none=>rw[HQA.out] at h1;cases h1
     | some n=>
      have ho2:o2=5:=HO2.out
      subst ho2
      cases ob with
      | none=>rw[HQB.out] at h2;cases h2
      | some m=>
       obtain rfl:=HZ2.out n rfl
       obtain rfl:=HZ3.out m HOB.out.symm
       exact HLL.out.1 _ _ rfl HOB.out.symm
    have HNO:=Lib.hid hno
    have HYES:=Lib.hid hyes
    clear hll hno hyes
    cases qa with
    | false=>
     have HBD:=Lib.hid (HNO.out (.inl rfl))
     clear HNO
     go_wp2
     go_ret
     exact H6.out.bad (fun y hy=>List.mem_cons_of_mem _ hy) HBD.out
    | true=>
     cases qb with
     | false=>
      have HBD:=Lib.hid (HNO.out (.inr rfl))
      clear HNO
      go_wp2
      go_ret
      exact H6.out.bad (fun y hy=>List.mem_cons_of_mem _ hy) HBD.out
     | true=>
      have hy:=HYES.out rfl rfl
      rw[okL_eq,←HNX.out] at hy
      have HY:=Lib.hid hy
      clear hy
      cases nx with
      | false=>
       have HBD:=Lib.hid (show cJ_ st ws=none by rw[HY.out,Bool.and_false];simp)
       clear HNO HY
       go_wp2
       go_ret
       exact H6.out.bad (fun y hy=>List.mem_cons_of_mem _ hy) HBD.out
      | true=>
       generalize (aN_ c&&aN_ z2&&aN_ z3)=qc at KA HY
       cases qc with
       | false=>
        have HBD:=Lib.hid (show cJ_ st ws=none by rw[HY.out];simp)
        clear HNO HY
        go_wp2_with (first
         | (go_at_call 86;(with_reducible refine(KA.out _ _ (by simp)).mono ?_);rintro e w6 ⟨rfl,hb6⟩;have H7:=Lib.hid (H6.out.below hb6))
         | fail)
        go_ret
        exact H7.out.bad (fun y hy=>List.mem_cons_of_mem _ hy) HBD.out
       | true=>
        obtain⟨ql,hql⟩:∃q,q=decide ((n3:Int)+1≤40):=⟨_,rfl⟩
        have t8:=hql.symm
        have HQL:=Lib.hid hql
        have hy:=HY.out
        simp only[Bool.and_true,true_and] at hy
        have HY2:=Lib.hid hy
        clear hql hy HY HNO
        go_wp2_with (first
         | (go_at_call 86;(with_reducible refine(KA.out _ _ (by simp)).mono ?_);rintro e w6 ⟨rfl,hb6⟩;have H7:=Lib.hid (H6.out.below hb6);have y7:=H7.out.cX.2.2.2)
         | fail)
        go_ret
        have hy:=HY2.out
        cases ql with
        | false=>exact H7.out.bad (fun y hy=>List.mem_cons_of_mem _ hy) (by rw[hy,if_neg];intro h;have:=of_decide_eq_false HQL.out.symm;have:=HN3.out;omega)
        | true=>
         have h40:=of_decide_eq_true HQL.out.symm
         rw[if_pos (by have:=HN3.out;omega)] at hy
         rw[hy]
         refine⟨rfl,H7.out.mo.az.sub fun y hy=>?_,fun st' hst=>?_⟩
         ·simp only[List.mem_cons]
          exact .inr (.inr (.inr (.inr hy)))
         ·cases hst
          refine⟨_,_,_,_,H7.out.mo.sub fun y hy=>?_⟩
          simp only[List.mem_cons] at hy⊢
          rcases hy with hy|hy
          ·exact .inl hy
          ·exact .inr (.inr (.inr (.inr hy)))
 case rest=>
 obtain⟨u1,hu1,h1,HNL⟩:=hcut
 have hd14:w.heap.size≤wc.heap.size∧wc.heap.size≠Bw∧∀y∈L,wc.heap.size≠y.1:=by
  refine⟨h1.mo.az.bw.size,?_,fun y hy=>?_⟩
  ·have:=(h1.mo.az.row (Bw,ucC all) (by simp)).sz
   simp only at this
   omega
  ·have:=(h1.mo.az.row y (by simp[hy])).sz
   omega
 have H2:=Lib.hid (h1.push (shC ⟨0,0,zRc,zPl,zPl,⟨#[]⟩⟩) 30)
 have HU2:=Lib.hid hu1
 clear hu1 h1 HW HU x5 HQ
 go_upto_block 0 with (first
  | (go_at_call 50;(with_reducible refine(vW_ _).mono ?_);rintro e w1 ⟨rfl,hb⟩;have H3:=Lib.hid (H2.out.below hb);clear hb)
  | fail)
 obtain⟨B14,hB14⟩:∃B,B=wc.heap.size:=⟨_,rfl⟩
 rw[←hB14] at H3 hd14⊢
 have D14:=Lib.hid hd14
 clear hB14 hd14 H2
 go_cut [15,16,17,18] from 113 to 131 (fun v15 v16 v17 v18 wX=>∃(kd c:Int) (o:Nat) (u':Value),HrAt X (Bw+1) Bw (.slice b0 n0 c0) v1 v2 (.slice b3 n3 c3) (sdR (.slice b0 n0 c0) v1 v2 (.slice b3 n3 c3) (asmD st)) u' all ((B14,shC ⟨c,kd,zRc,zPl,zPl,⟨#[]⟩⟩)::L) w wX∧WdAt u' Bw all o∧((kd=0∧c=0∧o=0∧∀k,1≤k→k≤5→takN [aL_ k] ws=none)∨(1≤kd∧kd≤5∧takN [aL_ kd] ws=some c∧o=2)))
 case first=>
  go_wp2_with fail
  go_loopw [113] (fun v113 wr=>∃(k:Nat) (u':Value),k≤6∧v113=.int .i64 (k:Int)∧HrAt X (Bw+1) Bw (.slice b0 n0 c0) v1 v2 (.slice b3 n3 c3) (sdR (.slice b0 n0 c0) v1 v2 (.slice b3 n3 c3) (asmD st)) u' all ((B14,shC ⟨0,0,zRc,zPl,zPl,⟨#[]⟩⟩)::L) w wr∧WdAt u' Bw all 0∧Hid (∀j:Int,1≤j→j<k→takN [aL_ j] ws=none)) (fun v113 _=>6-(intOf v113).toNat)
  case atStart=>exact⟨0,u1,by omega,rfl,H3.out,HU2.out,Lib.hid (fun j h1 h2=>by omega)⟩
  case round=>
   obtain⟨k,u',hk,rfl,h4,hu4,HJ⟩:=hrel
   have H4:=Lib.hid h4
   have HU4:=Lib.hid hu4
   clear h4 hu4 H3 HU2
   have hk6:k=6∨k=0∨k=1∨k=2∨k=3∨k=4∨k=5:=by omega
   rcases hk6 with rfl|rfl|rfl|rfl|rfl|rfl|rfl
   ·go_wp2
    go_meet
    exact⟨0,0,0,u',H4.out,HU4.out,.inl ⟨rfl,rfl,rfl,fun j h1 h2=>HJ.out j h1 (by omega)⟩⟩
   ·have ix:=vX_
    go_wp2
    exact⟨⟨0+1,u',by omega,by rfl,H4.out,HU4.out,Lib.hid (fun j h1 h2=>by omega)⟩,by simp only[intOf];omega⟩
   ·have ix:=nY_
    have HP:=Lib.hid (show HrAt X (Bw+1) Bw (.slice b0 n0 c0) v1 v2 (.slice b3 n3 c3) (sdR (.slice b0 n0 c0) v1 v2 (.slice b3 n3 c3) (asmD st)) u' all ((wr.heap.size,ucC [⟨#[108,105,110,101]⟩])::(B14,shC ⟨0,0,zRc,zPl,zPl,⟨#[]⟩⟩)::L) w (wr.alloc (.cells #[.string ⟨#[108,105,110,101]⟩] 9)) from H4.out.push (ucC [⟨#[108,105,110,101]⟩]) 9)
    have K1:=Lib.hid (fS_ (c:=1) HC.out (wl:=[aL_ 1]) rfl (show([⟨#[108,105,110,101]⟩]:List ByteArray).length=1 from rfl) (by omega) HU4.out HP.out)
    obtain⟨oc,hoc⟩:∃oc,oc=takN [aL_ 1] (ws.drop 0):=⟨_,rfl⟩
    rw[←hoc] at K1
    have HOC:=Lib.hid (show takN [aL_ 1] ws=oc from hoc.symm)
    clear hoc
    cases oc with
    | none=>
     go_wp2_with (first
      | (go_at_call 83;(with_reducible refine(K1.out).mono ?_);rintro e w1 ⟨z,u1,o1,rfl,hz,h1,hu1,ho1⟩;have H5:=Lib.hid (And.intro h1 (And.intro hu1 ho1));clear h1 hu1 ho1)
      | fail)
     exact⟨⟨1+1,u1,by omega,by rfl,H5.out.1,by have h:=H5.out.2.1;rw[H5.out.2.2] at h;exact h,Lib.hid (fun j h1 h2=>by
      rcases(show j<1∨1≤j by omega) with h|h
      ·exact HJ.out j h1 h
      ·obtain rfl:j=1:=by omega
       exact HOC.out)⟩,by simp only[intOf];omega⟩
    | some c=>
     go_wp2_with (first
      | (go_at_call 83;(with_reducible refine(K1.out).mono ?_);rintro e w1 ⟨z,u1,o1,rfl,hz,h1,hu1,ho1⟩;have ho1':o1=2:=ho1;subst ho1';have hzc:c=z:=hz c rfl;subst hzc;have H5:=Lib.hid h1;have HU5:=Lib.hid hu1;have y0:=h1.mo.az.ce 3 0 rfl rfl;have y1:=h1.mo.az.ce 3 1 rfl rfl;have f0:=h1.mo.az.cf 3 0 rfl rfl;have f1:=h1.mo.az.cf 3 1 rfl rfl;clear h1 hu1 ho1 hz)
      | fail)
     have H6:=(H5.out.setL D14.out.1 D14.out.2.1 D14.out.2.2 (i:=1) rfl (.int .i64 1)).setL D14.out.1 D14.out.2.1 D14.out.2.2 (i:=0) rfl (.int .i64 c)
     go_meet
     exact⟨1,c,2,u1,H6,HU5.out,.inr ⟨by omega,by omega,HOC.out,rfl⟩⟩
   ·have ix:=nX_
    have HP:=Lib.hid (show HrAt X (Bw+1) Bw (.slice b0 n0 c0) v1 v2 (.slice b3 n3 c3) (sdR (.slice b0 n0 c0) v1 v2 (.slice b3 n3 c3) (asmD st)) u' all ((wr.heap.size,ucC [⟨#[98,111,120]⟩])::(B14,shC ⟨0,0,zRc,zPl,zPl,⟨#[]⟩⟩)::L) w (wr.alloc (.cells #[.string ⟨#[98,111,120]⟩] 9)) from H4.out.push (ucC [⟨#[98,111,120]⟩]) 9)
    have K1:=Lib.hid (fS_ (c:=1) HC.out (wl:=[aL_ 2]) rfl (show([⟨#[98,111,120]⟩]:List ByteArray).length=1 from rfl) (by omega) HU4.out HP.out)
    obtain⟨oc,hoc⟩:∃oc,oc=takN [aL_ 2] (ws.drop 0):=⟨_,rfl⟩
    rw[←hoc] at K1
    have HOC:=Lib.hid (show takN [aL_ 2] ws=oc from hoc.symm)
    clear hoc
    cases oc with
    | none=>
     go_wp2_with (first
      | (go_at_call 83;(with_reducible refine(K1.out).mono ?_);rintro e w1 ⟨z,u1,o1,rfl,hz,h1,hu1,ho1⟩;have H5:=Lib.hid (And.intro h1 (And.intro hu1 ho1));clear h1 hu1 ho1)
      | fail)
     exact⟨⟨2+1,u1,by omega,by rfl,H5.out.1,by have h:=H5.out.2.1;rw[H5.out.2.2] at h;exact h,Lib.hid (fun j h1 h2=>by
      rcases(show j<2∨2≤j by omega) with h|h
      ·exact HJ.out j h1 h
      ·obtain rfl:j=2:=by omega
       exact HOC.out)⟩,by simp only[intOf];omega⟩
    | some c=>
     go_wp2_with (first
      | (go_at_call 83;(with_reducible refine(K1.out).mono ?_);rintro e w1 ⟨z,u1,o1,rfl,hz,h1,hu1,ho1⟩;have ho1':o1=2:=ho1;subst ho1';have hzc:c=z:=hz c rfl;subst hzc;have H5:=Lib.hid h1;have HU5:=Lib.hid hu1;have y0:=h1.mo.az.ce 3 0 rfl rfl;have y1:=h1.mo.az.ce 3 1 rfl rfl;have f0:=h1.mo.az.cf 3 0 rfl rfl;have f1:=h1.mo.az.cf 3 1 rfl rfl;clear h1 hu1 ho1 hz)
      | fail)
     have H6:=(H5.out.setL D14.out.1 D14.out.2.1 D14.out.2.2 (i:=1) rfl (.int .i64 2)).setL D14.out.1 D14.out.2.1 D14.out.2.2 (i:=0) rfl (.int .i64 c)
     go_meet
     exact⟨2,c,2,u1,H6,HU5.out,.inr ⟨by omega,by omega,HOC.out,rfl⟩⟩
   ·have ix:=nW_
    have HP:=Lib.hid (show HrAt X (Bw+1) Bw (.slice b0 n0 c0) v1 v2 (.slice b3 n3 c3) (sdR (.slice b0 n0 c0) v1 v2 (.slice b3 n3 c3) (asmD st)) u' all ((wr.heap.size,ucC [⟨#[97,114,114,111,119]⟩])::(B14,shC ⟨0,0,zRc,zPl,zPl,⟨#[]⟩⟩)::L) w (wr.alloc (.cells #[.string ⟨#[97,114,114,111,119]⟩] 9)) from H4.out.push (ucC [⟨#[97,114,114,111,119]⟩]) 9)
    have K1:=Lib.hid (fS_ (c:=1) HC.out (wl:=[aL_ 3]) rfl (show([⟨#[97,114,114,111,119]⟩]:List ByteArray).length=1 from rfl) (by omega) HU4.out HP.out)
    obtain⟨oc,hoc⟩:∃oc,oc=takN [aL_ 3] (ws.drop 0):=⟨_,rfl⟩
    rw[←hoc] at K1
    have HOC:=Lib.hid (show takN [aL_ 3] ws=oc from hoc.symm)
    clear hoc
    cases oc with
    | none=>
     go_wp2_with (first
      | (go_at_call 83;(with_reducible refine(K1.out).mono ?_);rintro e w1 ⟨z,u1,o1,rfl,hz,h1,hu1,ho1⟩;have H5:=Lib.hid (And.intro h1 (And.intro hu1 ho1));clear h1 hu1 ho1)
      | fail)
     exact⟨⟨3+1,u1,by omega,by rfl,H5.out.1,by have h:=H5.out.2.1;rw[H5.out.2.2] at h;exact h,Lib.hid (fun j h1 h2=>by
      rcases(show j<3∨3≤j by omega) with h|h
      ·exact HJ.out j h1 h
      ·obtain rfl:j=3:=by omega
       exact HOC.out)⟩,by simp only[intOf];omega⟩
    | some c=>
     go_wp2_with (first
      | (go_at_call 83;(with_reducible refine(K1.out).mono ?_);rintro e w1 ⟨z,u1,o1,rfl,hz,h1,hu1,ho1⟩;have ho1':o1=2:=ho1;subst ho1';have hzc:c=z:=hz c rfl;subst hzc;have H5:=Lib.hid h1;have HU5:=Lib.hid hu1;have y0:=h1.mo.az.ce 3 0 rfl rfl;have y1:=h1.mo.az.ce 3 1 rfl rfl;have f0:=h1.mo.az.cf 3 0 rfl rfl;have f1:=h1.mo.az.cf 3 1 rfl rfl;clear h1 hu1 ho1 hz)
      | fail)
     have H6:=(H5.out.setL D14.out.1 D14.out.2.1 D14.out.2.2 (i:=1) rfl (.int .i64 3)).setL D14.out.1 D14.out.2.1 D14.out.2.2 (i:=0) rfl (.int .i64 c)
     go_meet
     exact⟨3,c,2,u1,H6,HU5.out,.inr ⟨by omega,by omega,HOC.out,rfl⟩⟩
   ·have ix:=nV_
    have HP:=Lib.hid (show HrAt X (Bw+1) Bw (.slice b0 n0 c0) v1 v2 (.slice b3 n3 c3) (sdR (.slice b0 n0 c0) v1 v2 (.slice b3 n3 c3) (asmD st)) u' all ((wr.heap.size,ucC [⟨#[108,101,116,116,101,114]⟩])::(B14,shC ⟨0,0,zRc,zPl,zPl,⟨#[]⟩⟩)::L) w (wr.alloc (.cells #[.string ⟨#[108,101,116,116,101,114]⟩] 9)) from H4.out.push (ucC [⟨#[108,101,116,116,101,114]⟩]) 9)
    have K1:=Lib.hid (fS_ (c:=1) HC.out (wl:=[aL_ 4]) rfl (show([⟨#[108,101,116,116,101,114]⟩]:List ByteArray).length=1 from rfl) (by omega) HU4.out HP.out)
    obtain⟨oc,hoc⟩:∃oc,oc=takN [aL_ 4] (ws.drop 0):=⟨_,rfl⟩
    rw[←hoc] at K1
    have HOC:=Lib.hid (show takN [aL_ 4] ws=oc from hoc.symm)
    clear hoc
    cases oc with
    | none=>
     go_wp2_with (first
      | (go_at_call 83;(with_reducible refine(K1.out).mono ?_);rintro e w1 ⟨z,u1,o1,rfl,hz,h1,hu1,ho1⟩;have H5:=Lib.hid (And.intro h1 (And.intro hu1 ho1));clear h1 hu1 ho1)
      | fail)
     exact⟨⟨4+1,u1,by omega,by rfl,H5.out.1,by have h:=H5.out.2.1;rw[H5.out.2.2] at h;exact h,Lib.hid (fun j h1 h2=>by
      rcases(show j<4∨4≤j by omega) with h|h
      ·exact HJ.out j h1 h
      ·obtain rfl:j=4:=by omega
       exact HOC.out)⟩,by simp only[intOf];omega⟩
    | some c=>
     go_wp2_with (first
      | (go_at_call 83;(with_reducible refine(K1.out).mono ?_);rintro e w1 ⟨z,u1,o1,rfl,hz,h1,hu1,ho1⟩;have ho1':o1=2:=ho1;subst ho1';have hzc:c=z:=hz c rfl;subst hzc;have H5:=Lib.hid h1;have HU5:=Lib.hid hu1;have y0:=h1.mo.az.ce 3 0 rfl rfl;have y1:=h1.mo.az.ce 3 1 rfl rfl;have f0:=h1.mo.az.cf 3 0 rfl rfl;have f1:=h1.mo.az.cf 3 1 rfl rfl;clear h1 hu1 ho1 hz)
      | fail)
     have H6:=(H5.out.setL D14.out.1 D14.out.2.1 D14.out.2.2 (i:=1) rfl (.int .i64 4)).setL D14.out.1 D14.out.2.1 D14.out.2.2 (i:=0) rfl (.int .i64 c)
     go_meet
     exact⟨4,c,2,u1,H6,HU5.out,.inr ⟨by omega,by omega,HOC.out,rfl⟩⟩
   ·have ix:=nU_
    have HP:=Lib.hid (show HrAt X (Bw+1) Bw (.slice b0 n0 c0) v1 v2 (.slice b3 n3 c3) (sdR (.slice b0 n0 c0) v1 v2 (.slice b3 n3 c3) (asmD st)) u' all ((wr.heap.size,ucC [⟨#[109,97,114,107]⟩])::(B14,shC ⟨0,0,zRc,zPl,zPl,⟨#[]⟩⟩)::L) w (wr.alloc (.cells #[.string ⟨#[109,97,114,107]⟩] 9)) from H4.out.push (ucC [⟨#[109,97,114,107]⟩]) 9)
    have K1:=Lib.hid (fS_ (c:=1) HC.out (wl:=[aL_ 5]) rfl (show([⟨#[109,97,114,107]⟩]:List ByteArray).length=1 from rfl) (by omega) HU4.out HP.out)
    obtain⟨oc,hoc⟩:∃oc,oc=takN [aL_ 5] (ws.drop 0):=⟨_,rfl⟩
    rw[←hoc] at K1
    have HOC:=Lib.hid (show takN [aL_ 5] ws=oc from hoc.symm)
    clear hoc
    cases oc with
    | none=>
     go_wp2_with (first
      | (go_at_call 83;(with_reducible refine(K1.out).mono ?_);rintro e w1 ⟨z,u1,o1,rfl,hz,h1,hu1,ho1⟩;have H5:=Lib.hid (And.intro h1 (And.intro hu1 ho1));clear h1 hu1 ho1)
      | fail)
     exact⟨⟨5+1,u1,by omega,by rfl,H5.out.1,by have h:=H5.out.2.1;rw[H5.out.2.2] at h;exact h,Lib.hid (fun j h1 h2=>by
      rcases(show j<5∨5≤j by omega) with h|h
      ·exact HJ.out j h1 h
      ·obtain rfl:j=5:=by omega
       exact HOC.out)⟩,by simp only[intOf];omega⟩
    | some c=>
     go_wp2_with (first
      | (go_at_call 83;(with_reducible refine(K1.out).mono ?_);rintro e w1 ⟨z,u1,o1,rfl,hz,h1,hu1,ho1⟩;have ho1':o1=2:=ho1;subst ho1';have hzc:c=z:=hz c rfl;subst hzc;have H5:=Lib.hid h1;have HU5:=Lib.hid hu1;have y0:=h1.mo.az.ce 3 0 rfl rfl;have y1:=h1.mo.az.ce 3 1 rfl rfl;have f0:=h1.mo.az.cf 3 0 rfl rfl;have f1:=h1.mo.az.cf 3 1 rfl rfl;clear h1 hu1 ho1 hz)
      | fail)
     have H6:=(H5.out.setL D14.out.1 D14.out.2.1 D14.out.2.2 (i:=1) rfl (.int .i64 5)).setL D14.out.1 D14.out.2.1 D14.out.2.2 (i:=0) rfl (.int .i64 c)
     go_meet
     exact⟨5,c,2,u1,H6,HU5.out,.inr ⟨by omega,by omega,HOC.out,rfl⟩⟩
 case rest=>
 obtain⟨kd,c,o,u2,h5,hu5,hkk⟩:=hcut
 have hok:0≤kd∧kd≤5∧o≤2:=by rcases hkk with ⟨rfl,rfl,rfl,_⟩|⟨h1,h2,_,rfl⟩ <;> omega
 have HOK:=Lib.hid hok
 have HKK:=Lib.hid hkk
 have H5:=Lib.hid h5
 have HU5:=Lib.hid hu5
 have g14:=Lib.hid (And.intro (h5.mo.az.sh 3 rfl) (h5.mo.az.shf 3 rfl))
 obtain⟨y0,y1,y2,y3,y4,y5,y6,y7,y8,y9,y10⟩:=h5.mo.az.sh 3 rfl
 obtain⟨f0,f1,f2,f3,f4,f5,f6,f7,f8,f9,f10⟩:=h5.mo.az.shf 3 rfl
 have x5:=h5.c5
 have z5:=h5.f5
 simp only at y1 y10
 clear hok hkk h5 hu5
 obtain⟨qr,hqr⟩:∃q,q=decide (kd=4∧1<(ws.drop o).length∧(ws.drop o)[0]?=some bZ_):=⟨_,rfl⟩
 have HQR:=Lib.hid hqr
 clear hqr
 go_upto_region 20 with fail
 go_cut [145] from 132 to 144 (fun v145 wX=>v145=.bool qr∧wX=wc)
 case first=>
  by_cases h4:kd=4
  case neg=>
   have t4:(kd==(4:Int))=false:=beq_eq_false_iff_ne.2 h4
   have HQF:=Lib.hid (show qr=false from by rw[HQR.out];exact decide_eq_false (fun h=>h4 h.1))
   clear h4
   go_wp2
   go_meet
   exact⟨by rw[HQF.out],rfl⟩
  case pos=>
   obtain⟨pp,hp,hpo⟩:=HU5.out.2
   obtain⟨nr,hnr⟩:∃n,n=all.length-o:=⟨_,rfl⟩
   rw[←hnr] at hp
   have hwl:(ws.drop o).length=nr:=by rw[List.length_drop,HWL.out,HN.out.1,hnr]
   have HWR:=Lib.hid hwl
   subst h4 hp
   clear hwl
   by_cases h1:1<nr
   case neg=>
    have t1:decide ((1:Int)<(nr:Int))=false:=decide_eq_false (by omega)
    have HQF:=Lib.hid (show qr=false from by rw[HQR.out,HWR.out];exact decide_eq_false (fun h=>h1 h.2.1))
    clear h1 hpo hnr
    go_wp2
    go_meet
    exact⟨by rw[HQF.out],rfl⟩
   case pos=>
    have ho:o<all.length:=by omega
    obtain rfl:pp=o:=hpo ho
    obtain⟨a0,ha0⟩:∃a,all[pp]?=some a:=⟨_,List.getElem?_eq_getElem ho⟩
    have y0:=H5.out.wd ha0
    have e0:(ws.drop pp)[0]?=some a0.data.toList:=by rw[List.getElem?_drop,←HWS.out,List.getElem?_map,Nat.add_zero,ha0];rfl
    have t1:decide ((1:Int)<(nr:Int))=true:=decide_eq_true (by omega)
    have g0:(0:Int)<(nr:Int):=by omega
    have t6:(a0.toList == [114,101,97,100,115])=qr:=by
     rw[HQR.out,HWR.out,e0,ByteArray.toList_eq]
     by_cases h:a0.data.toList=bZ_
     ·rw[h,decide_eq_true ⟨rfl,h1,rfl⟩];rfl
     ·rw[decide_eq_false (fun e=>h (Option.some.inj e.2.2))]
      exact beq_eq_false_iff_ne.2 h
    clear hnr hpo ha0 e0 h1
    go_wp2
    go_meet
    exact⟨rfl,rfl⟩
 case rest=>
 obtain⟨rfl,rfl⟩:=hcut
 go_upto_if 145 with fail
 go_cut [] from 146 to 151 (fun wX=>∃(wd:ByteArray) (o':Nat) (u':Value),HrAt X (Bw+1) Bw (.slice b0 n0 c0) v1 v2 (.slice b3 n3 c3) (sdR (.slice b0 n0 c0) v1 v2 (.slice b3 n3 c3) (asmD st)) u' all ((B14,shC ⟨c,kd,zRc,zPl,zPl,wd⟩)::L) w wX∧WdAt u' Bw all o'∧takR kd (ws.drop o)=(wd.data.toList,ws.drop o'))
 case first=>
  cases qr with
  | false=>
   have HR:=Lib.hid (aCW (of_decide_eq_false HQR.out.symm))
   go_wp2
   go_meet
   exact⟨⟨#[]⟩,o,u2,H5.out,HU5.out,HR.out⟩
  | true=>
   have hq:=of_decide_eq_true HQR.out.symm
   obtain⟨pp,hp,hpo⟩:=HU5.out.2
   obtain⟨nr,hnr⟩:∃n,n=all.length-o:=⟨_,rfl⟩
   have hwl:(ws.drop o).length=nr:=by rw[List.length_drop,HWL.out,HN.out.1,hnr]
   rw[hwl] at hq
   rw[←hnr] at hp
   obtain⟨h4,h1,e0⟩:=hq
   have ho:o<all.length:=by omega
   obtain rfl:pp=o:=hpo ho
   obtain⟨a1,ha1⟩:∃a,all[pp+1]?=some a:=⟨_,List.getElem?_eq_getElem (by omega)⟩
   have w1:=H5.out.wd ha1
   have e1:(ws.drop pp)[1]?=some a1.data.toList:=by rw[List.getElem?_drop,←HWS.out,List.getElem?_map,ha1];rfl
   have HR:=Lib.hid (yX_ (aBC e0 e1))
   have HNR:=Lib.hid (And.intro hnr h1)
   have g1:(1:Int)<(nr:Int):=by omega
   have g2:(2:Int)≤(nr:Int):=by omega
   have hD:=D14.out
   subst h4 hp
   clear hnr hwl e0 e1 ho hpo ha1 h1
   by_cases h2:nr=2
   ·subst h2
    go_wp2
    go_region
    go_wp2
    go_meet
    have h6:=((H5.out.setL hD.1 hD.2.1 hD.2.2 (i:=10) rfl (.string a1)).setW (.slice (some ⟨Bw,pp,none⟩) 0 0)).below (kX_ _)
    exact⟨a1,pp+2,_,h6,⟨by have:=HNR.out;omega,pp,by rw[show all.length-(pp+2)=0 by have:=HNR.out;omega],fun hlt=>by have:=HNR.out;omega⟩,HR.out⟩
   ·go_wp2
    go_region
    go_wp2
    go_meet
    have h6:=((H5.out.setL hD.1 hD.2.1 hD.2.2 (i:=10) rfl (.string a1)).setW (.slice (some ⟨Bw,pp+2,none⟩) (nr-2) (nr-2))).below (kX_ _)
    exact⟨a1,pp+2,_,h6,⟨by have:=HNR.out;omega,pp+2,by rw[show all.length-(pp+2)=nr-2 by have:=HNR.out;omega],fun hlt=>rfl⟩,HR.out⟩
 case rest=>
 obtain⟨wd,o',u',h6,hu6,hr6⟩:=hcut
 obtain⟨y0,y1,y2,y3,y4,y5,y6,y7,y8,y9,y10⟩:=h6.mo.az.sh 3 rfl
 have x0:=h6.cX.1
 have x3:=h6.cX.2.2.2
 obtain⟨hr0,hS0,-⟩:=h6.row0 rfl
 have H6:=Lib.hid h6
 have HU6:=Lib.hid hu6
 have HR6:=Lib.hid hr6
 have hn6:(asmD st).shapes.length≤1000000:=by have:=HO.out.n;show(st.its.map shOf).length≤_;rw[List.length_map];omega
 have KA:=Lib.hid (fun B W hB=>aBH c B W hB)
 have KF:=Lib.hid (fun W=>mD_ ⟨c,kd,zRc,zPl,zPl,wd⟩ W)
 have KX:=Lib.hid (fun(W:World) (hb:Below wc.heap.size wc W)=>mA_ (cap:=c0) c hr0.symm (by omega) W (hS0.below hb))
 rw[lY_] at KX
 obtain⟨iz,hiz⟩:∃iz,iz=ixZ (ixS c (asmD st).shapes):=⟨_,rfl⟩
 rw[←hiz] at KX
 obtain⟨qz,hqz⟩:∃q,q=(decide (0<n3)||decide (60≤n0) || !aN_ c || !bS_ kd wd.data.toList||decide (0≤iz)):=⟨_,rfl⟩
 have HIZ:=Lib.hid hiz
 have HQZ:=Lib.hid hqz
 clear h6 hu6 hr6 hr0 hS0 hiz hqz hn6
 go_upto_region 22 with fail
 go_cut [187] from 152 to 186 (fun v187 wX=>v187=.bool qz∧HrAt X (Bw+1) Bw (.slice b0 n0 c0) v1 v2 (.slice b3 n3 c3) (sdR (.slice b0 n0 c0) v1 v2 (.slice b3 n3 c3) (asmD st)) u' all ((B14,shC ⟨c,kd,zRc,zPl,zPl,wd⟩)::L) w wX)
 case first=>
  by_cases hq3:0<n3
  ·have t1:decide (0<n3)=true:=decide_eq_true hq3
   have HF:=Lib.hid (show qz=true from by rw[HQZ.out,decide_eq_true hq3];simp)
   have z0:=cell_regrown x0
   have z3:=cell_regrown x3
   clear hq3
   refine wp_region_quiet_below (by kernel_rfl) (by kernel_rfl) ?_
   repeat (go_big_quiet_step (fail))
   refine wpQuiet_nil ?_
   intro W5 hw5
   have hb5:Below wc.heap.size wc W5:=by obtain⟨⟨dq,osq⟩,hw7⟩:=hw5;rw[hw7];exact below_regrown _ dq osq
   have H7:=Lib.hid (H6.out.below hb5)
   clear hw5 hb5
   go_wp2
   go_meet
   exact⟨by rw[HF.out],H7.out⟩
  ·have t1:decide (0<n3)=false:=decide_eq_false hq3
   by_cases hq0:60≤n0
   ·have t2:decide (60≤n0)=true:=decide_eq_true hq0
    have t2':decide ((60:Int)≤(n0:Int))=true:=decide_eq_true (by omega)
    have HF:=Lib.hid (show qz=true from by rw[HQZ.out,decide_eq_true hq0];simp)
    have z0:=cell_regrown x0
    have z3:=cell_regrown x3
    clear hq3 hq0
    refine wp_region_quiet_below (by kernel_rfl) (by kernel_rfl) ?_
    repeat (go_big_quiet_step (fail))
    refine wpQuiet_nil ?_
    intro W5 hw5
    have hb5:Below wc.heap.size wc W5:=by obtain⟨⟨dq,osq⟩,hw7⟩:=hw5;rw[hw7];exact below_regrown _ dq osq
    have H7:=Lib.hid (H6.out.below hb5)
    clear hw5 hb5
    go_wp2
    go_meet
    exact⟨by rw[HF.out],H7.out⟩
   ·have t2:decide (60≤n0)=false:=decide_eq_false hq0
    have t2':decide ((60:Int)≤(n0:Int))=false:=decide_eq_false (by omega)
    rw[decide_eq_false hq3,decide_eq_false hq0] at HQZ
    simp only[Bool.false_or] at HQZ
    clear hq3 hq0
    generalize aN_ c=qc at KA HQZ
    cases qc with
    | false=>
     have HF:=Lib.hid (show qz=true from by rw[HQZ.out];simp)
     refine eB_ (A:=?frA) 17 169 170 1 16 _ _ (.bool false) (fun W=>HrAt X (Bw+1) Bw (.slice b0 n0 c0) v1 v2 (.slice b3 n3 c3) (sdR (.slice b0 n0 c0) v1 v2 (.slice b3 n3 c3) (asmD st)) u' all ((B14,shC ⟨c,kd,zRc,zPl,zPl,wd⟩)::L) w W∧Below wc.heap.size wc W) (fun B W=>(HrAt X (Bw+1) Bw (.slice b0 n0 c0) v1 v2 (.slice b3 n3 c3) (sdR (.slice b0 n0 c0) v1 v2 (.slice b3 n3 c3) (asmD st)) u' all ((B14,shC ⟨c,kd,zRc,zPl,zPl,wd⟩)::L) w W∧Below wc.heap.size wc W)∧CsAt (some ⟨B,0,none⟩) (icC [c]) W) (by kernel_rfl) (by kernel_rfl) ⟨rfl,rfl⟩ ⟨rfl,rfl⟩ (fun U V h hb=>⟨h.1.below hb,h.2.trans (hb.mono h.2.size)⟩) (fun B U V h hb=>⟨⟨h.1.1.below hb,h.1.2.trans (hb.mono h.1.2.size)⟩,h.2.below hb⟩) (fun B U h=>h.1) (fun W hb=>⟨H6.out.below hb,hb⟩) ?h ?g1 ?g2 ?s1 ?s2 ?ht
     case h=>
      intro U hU
      have z0:=cell_regrown hU.1.cX.1
      have z3:=cell_regrown hU.1.cX.2.2.2
      obtain⟨k0,k1,k2,k3,k4,k5,k6,k7,k8,k9,k10⟩:=hU.1.mo.az.sh 3 rfl
      have y0:=cell_regrown k0
      have y1:=cell_regrown k1
      have y2:=cell_regrown k2
      have y3:=cell_regrown k3
      have y4:=cell_regrown k4
      have y5:=cell_regrown k5
      have y6:=cell_regrown k6
      have y7:=cell_regrown k7
      have y8:=cell_regrown k8
      have y9:=cell_regrown k9
      have y10:=cell_regrown k10
      have c8:=fun d os=>Calls.regrown_of (d:=d) (os:=os) (KF.out (grow (redrawn U d) os))
      have c9:=fun d os=>Calls.regrown_of (d:=d) (os:=os) (KX.out (grow (redrawn U d) os) (hU.2.trans ((below_regrown U d os).mono hU.2.size)))
      clear hU k0 k1 k2 k3 k4 k5 k6 k7 k8 k9 k10
      simp only[List.take_succ_cons,List.take_zero]
      repeat (go_big_quiet_step (fail))
      refine wpQuiet_nil ?_
      simp only[List.drop_succ_cons,List.drop_zero,List.take_succ_cons,List.take_zero,Act.put,List.setIfInBounds_toArray,List.set_cons_succ,List.set_cons_zero]
      repeat (go_big_quiet_step (with_reducible first|exact c8 _ _|exact c9 _ _))
      refine wpQuiet_nil ?_
      rfl
     case g1=>rfl
     case g2=>exact fun _=>rfl
     case s1=>
      intro W hW
      have hb:Below W.heap.size W (W.alloc (.cells #[.int .i64 c] 3)):=(Below.refl _ _).alloc (Nat.le_refl _) _
      refine⟨_,?_,⟨hW.1.below hb,hW.2.trans (hb.mono hW.2.size)⟩,CsAt.of_ar (ArAt.mk' W [.int .i64 c] 3)⟩
      simp[go_sem]
     case s2=>
      intro B W hW
      have he:=enters_of Tryz.func86 (by kernel_rfl) rfl #[.slice (some ⟨B,0,none⟩) 1 1] W
      refine⟨86,#[.slice (some ⟨B,0,none⟩) 1 1],?_,(KA.out B W hW.2).mono ?_⟩
      ·simp[execOp,resolve,invoke,Act.put,Act.eval,Deferred.ofValue,Result.andThen,he]
      rintro e W' ⟨rfl,hb⟩
      exact⟨rfl,hW.1.1.below hb,hW.1.2.trans (hb.mono hW.1.2.size)⟩
     case ht=>
      intro B W hW
      have HW:=Lib.hid hW
      clear hW
      simp only[List.drop_succ_cons,List.drop_zero]
      go_wp2
      go_meet
      exact⟨by rw[HF.out],HW.out.1⟩
    | true=>
     generalize bS_ kd wd.data.toList=qf at KF HQZ
     cases qf with
     | false=>
      have HF:=Lib.hid (show qz=true from by rw[HQZ.out];simp)
      refine eB_ (A:=?frB) 17 169 170 1 16 _ _ (.bool true) (fun W=>HrAt X (Bw+1) Bw (.slice b0 n0 c0) v1 v2 (.slice b3 n3 c3) (sdR (.slice b0 n0 c0) v1 v2 (.slice b3 n3 c3) (asmD st)) u' all ((B14,shC ⟨c,kd,zRc,zPl,zPl,wd⟩)::L) w W∧Below wc.heap.size wc W) (fun B W=>(HrAt X (Bw+1) Bw (.slice b0 n0 c0) v1 v2 (.slice b3 n3 c3) (sdR (.slice b0 n0 c0) v1 v2 (.slice b3 n3 c3) (asmD st)) u' all ((B14,shC ⟨c,kd,zRc,zPl,zPl,wd⟩)::L) w W∧Below wc.heap.size wc W)∧CsAt (some ⟨B,0,none⟩) (icC [c]) W) (by kernel_rfl) (by kernel_rfl) ⟨rfl,rfl⟩ ⟨rfl,rfl⟩ (fun U V h hb=>⟨h.1.below hb,h.2.trans (hb.mono h.2.size)⟩) (fun B U V h hb=>⟨⟨h.1.1.below hb,h.1.2.trans (hb.mono h.1.2.size)⟩,h.2.below hb⟩) (fun B U h=>h.1) (fun W hb=>⟨H6.out.below hb,hb⟩) ?h ?g1 ?g2 ?s1 ?s2 ?ht
      case h=>
       intro U hU
       have z0:=cell_regrown hU.1.cX.1
       have z3:=cell_regrown hU.1.cX.2.2.2
       obtain⟨k0,k1,k2,k3,k4,k5,k6,k7,k8,k9,k10⟩:=hU.1.mo.az.sh 3 rfl
       have y0:=cell_regrown k0
       have y1:=cell_regrown k1
       have y2:=cell_regrown k2
       have y3:=cell_regrown k3
       have y4:=cell_regrown k4
       have y5:=cell_regrown k5
       have y6:=cell_regrown k6
       have y7:=cell_regrown k7
       have y8:=cell_regrown k8
       have y9:=cell_regrown k9
       have y10:=cell_regrown k10
       have c8:=fun d os=>Calls.regrown_of (d:=d) (os:=os) (KF.out (grow (redrawn U d) os))
       have c9:=fun d os=>Calls.regrown_of (d:=d) (os:=os) (KX.out (grow (redrawn U d) os) (hU.2.trans ((below_regrown U d os).mono hU.2.size)))
       clear hU k0 k1 k2 k3 k4 k5 k6 k7 k8 k9 k10
       simp only[List.take_succ_cons,List.take_zero]
       repeat (go_big_quiet_step (fail))
       refine wpQuiet_nil ?_
       simp only[List.drop_succ_cons,List.drop_zero,List.take_succ_cons,List.take_zero,Act.put,List.setIfInBounds_toArray,List.set_cons_succ,List.set_cons_zero]
       repeat (go_big_quiet_step (with_reducible first|exact c8 _ _|exact c9 _ _))
       refine wpQuiet_nil ?_
       rfl
      case g1=>rfl
      case g2=>exact fun _=>rfl
      case s1=>
       intro W hW
       have hb:Below W.heap.size W (W.alloc (.cells #[.int .i64 c] 3)):=(Below.refl _ _).alloc (Nat.le_refl _) _
       refine⟨_,?_,⟨hW.1.below hb,hW.2.trans (hb.mono hW.2.size)⟩,CsAt.of_ar (ArAt.mk' W [.int .i64 c] 3)⟩
       simp[go_sem]
      case s2=>
       intro B W hW
       have he:=enters_of Tryz.func86 (by kernel_rfl) rfl #[.slice (some ⟨B,0,none⟩) 1 1] W
       refine⟨86,#[.slice (some ⟨B,0,none⟩) 1 1],?_,(KA.out B W hW.2).mono ?_⟩
       ·simp[execOp,resolve,invoke,Act.put,Act.eval,Deferred.ofValue,Result.andThen,he]
       rintro e W' ⟨rfl,hb⟩
       exact⟨rfl,hW.1.1.below hb,hW.1.2.trans (hb.mono hW.1.2.size)⟩
      case ht=>
       intro B W hW
       have HW:=Lib.hid hW
       clear hW
       simp only[List.drop_succ_cons,List.drop_zero]
       go_wp2
       go_meet
       exact⟨by rw[HF.out],HW.out.1⟩
     | true=>
      have HF:=Lib.hid (show qz=decide (0≤iz) from by rw[HQZ.out];simp)
      refine eB_ (A:=?frC) 17 169 170 1 16 _ _ (.bool true) (fun W=>HrAt X (Bw+1) Bw (.slice b0 n0 c0) v1 v2 (.slice b3 n3 c3) (sdR (.slice b0 n0 c0) v1 v2 (.slice b3 n3 c3) (asmD st)) u' all ((B14,shC ⟨c,kd,zRc,zPl,zPl,wd⟩)::L) w W∧Below wc.heap.size wc W) (fun B W=>(HrAt X (Bw+1) Bw (.slice b0 n0 c0) v1 v2 (.slice b3 n3 c3) (sdR (.slice b0 n0 c0) v1 v2 (.slice b3 n3 c3) (asmD st)) u' all ((B14,shC ⟨c,kd,zRc,zPl,zPl,wd⟩)::L) w W∧Below wc.heap.size wc W)∧CsAt (some ⟨B,0,none⟩) (icC [c]) W) (by kernel_rfl) (by kernel_rfl) ⟨rfl,rfl⟩ ⟨rfl,rfl⟩ (fun U V h hb=>⟨h.1.below hb,h.2.trans (hb.mono h.2.size)⟩) (fun B U V h hb=>⟨⟨h.1.1.below hb,h.1.2.trans (hb.mono h.1.2.size)⟩,h.2.below hb⟩) (fun B U h=>h.1) (fun W hb=>⟨H6.out.below hb,hb⟩) ?h ?g1 ?g2 ?s1 ?s2 ?ht
      case h=>
       intro U hU
       have z0:=cell_regrown hU.1.cX.1
       have z3:=cell_regrown hU.1.cX.2.2.2
       obtain⟨k0,k1,k2,k3,k4,k5,k6,k7,k8,k9,k10⟩:=hU.1.mo.az.sh 3 rfl
       have y0:=cell_regrown k0
       have y1:=cell_regrown k1
       have y2:=cell_regrown k2
       have y3:=cell_regrown k3
       have y4:=cell_regrown k4
       have y5:=cell_regrown k5
       have y6:=cell_regrown k6
       have y7:=cell_regrown k7
       have y8:=cell_regrown k8
       have y9:=cell_regrown k9
       have y10:=cell_regrown k10
       have c8:=fun d os=>Calls.regrown_of (d:=d) (os:=os) (KF.out (grow (redrawn U d) os))
       have c9:=fun d os=>Calls.regrown_of (d:=d) (os:=os) (KX.out (grow (redrawn U d) os) (hU.2.trans ((below_regrown U d os).mono hU.2.size)))
       clear hU k0 k1 k2 k3 k4 k5 k6 k7 k8 k9 k10
       simp only[List.take_succ_cons,List.take_zero]
       repeat (go_big_quiet_step (fail))
       refine wpQuiet_nil ?_
       simp only[List.drop_succ_cons,List.drop_zero,List.take_succ_cons,List.take_zero,Act.put,List.setIfInBounds_toArray,List.set_cons_succ,List.set_cons_zero]
       repeat (go_big_quiet_step (with_reducible first|exact c8 _ _|exact c9 _ _))
       refine wpQuiet_nil ?_
       rfl
      case g1=>rfl
      case g2=>exact fun _=>rfl
      case s1=>
       intro W hW
       have hb:Below W.heap.size W (W.alloc (.cells #[.int .i64 c] 3)):=(Below.refl _ _).alloc (Nat.le_refl _) _
       refine⟨_,?_,⟨hW.1.below hb,hW.2.trans (hb.mono hW.2.size)⟩,CsAt.of_ar (ArAt.mk' W [.int .i64 c] 3)⟩
       simp[go_sem]
      case s2=>
       intro B W hW
       have he:=enters_of Tryz.func86 (by kernel_rfl) rfl #[.slice (some ⟨B,0,none⟩) 1 1] W
       refine⟨86,#[.slice (some ⟨B,0,none⟩) 1 1],?_,(KA.out B W hW.2).mono ?_⟩
       ·simp[execOp,resolve,invoke,Act.put,Act.eval,Deferred.ofValue,Result.andThen,he]
       rintro e W' ⟨rfl,hb⟩
       exact⟨rfl,hW.1.1.below hb,hW.1.2.trans (hb.mono hW.1.2.size)⟩
      case ht=>
       intro B W hW
       have HW:=Lib.hid hW
       clear hW
       simp only[List.drop_succ_cons,List.drop_zero]
       go_wp2
       go_meet
       exact⟨by rw[HF.out],HW.out.1⟩
 case rest=>
 obtain⟨rfl,h7⟩:=hcut
 have HB:=Lib.hid (pI_ HN0.out HN3.out HNL.out HKK.out HR6.out HIZ.out HQZ.out)
 have H7:=Lib.hid h7
 have x1:=h7.cX.2.1
 clear h7 KA KF KX HQZ HIZ
 cases qz with
 | true=>
  have HBD:=Lib.hid (show cJ_ st ws=none by rw[HB.out,if_neg (fun h=>nomatch h.1)])
  go_wp2
  go_ret
  exact H7.out.bad (fun y hy=>List.mem_cons_of_mem _ hy) HBD.out
 | false=>
 have HP:=Lib.hid (show HrAt X (Bw+1) Bw (.slice b0 n0 c0) v1 v2 (.slice b3 n3 c3) (sdR (.slice b0 n0 c0) v1 v2 (.slice b3 n3 c3) (asmD st)) u' all ((wc.heap.size,ucC [⟨#[105,110]⟩])::(B14,shC ⟨c,kd,zRc,zPl,zPl,wd⟩)::L) w (wc.alloc (.cells #[.string ⟨#[105,110]⟩] 9)) from H7.out.push (ucC [⟨#[105,110]⟩]) 9)
 have K1:=Lib.hid (fS_ (c:=1) HC.out (wl:=[wIn]) rfl (show([⟨#[105,110]⟩]:List ByteArray).length=1 from rfl) (by omega) HU6.out HP.out)
 obtain⟨oi,hoi⟩:∃oi,oi=takN [wIn] (ws.drop o'):=⟨_,rfl⟩
 rw[←hoi] at K1
 have HOI:=Lib.hid hoi.symm
 clear hoi
 go_upto_if 194 with (first
  | (go_at_call 83;(with_reducible refine(K1.out).mono ?_);rintro e w8 ⟨z8,u8,o8,rfl,hz8,h8,hu8,ho8⟩;have H8:=Lib.hid h8;have HZ8:=Lib.hid hz8;have HU8:=Lib.hid hu8;have HO8:=Lib.hid ho8;have x1:=h8.cX.2.1;have x0:=h8.cX.1;clear h8 hz8 hu8 ho8)
  | fail)
 obtain⟨qi,hqi⟩:∃q,q=oi.isSome:=⟨_,rfl⟩
 rw[←hqi]
 have HQI:=Lib.hid hqi
 clear hqi K1 HP
 go_cut [] from 195 to 214 (fun wX=>∃(ins:Option Int) (v1':Value),HrAt X (Bw+1) Bw (.slice b0 n0 c0) v1' v2 (.slice b3 n3 c3) (sdR (.slice b0 n0 c0) v1' v2 (.slice b3 n3 c3) (sdI (asmD st) c ins)) u8 all ((B14,shC ⟨c,kd,zRc,zPl,zPl,wd⟩)::L) w wX∧takI (ws.drop o')=(ins,ws.drop o8)∧insB st.its ins=true)
 case first=>
  cases qi with
  | false=>
   have hno:oi=none:=by
    cases oi with
    | none=>rfl
    | some n=>have:=HQI.out;cases this
   have ho:o8=o':=by rw[HO8.out,hno];rfl
   have HTI:=Lib.hid (uA_ (r:=ws.drop o') (by rw[HOI.out,hno]))
   have HOE:=Lib.hid ho
   clear hno ho
   go_wp2
   go_meet
   exact⟨none,v1,H8.out,by rw[HTI.out,HOE.out],rfl⟩
  | true=>
   obtain⟨n,hn⟩:∃n,oi=some n:=by
    cases oi with
    | none=>have:=HQI.out;cases this
    | some n=>exact⟨n,rfl⟩
   obtain rfl:n=z8:=HZ8.out n hn
   have ho:o8=o'+2:=by rw[HO8.out,hn];rfl
   have HTI:=Lib.hid (show takI (ws.drop o')=(some n,ws.drop o8) by rw[tZ_ (HOI.out.trans hn),List.drop_drop,ho])
   obtain⟨hr0,hS0,-⟩:=H8.out.row0 rfl
   have hbx:=aER HO.out n
   have KB:=Lib.hid (wK_ (cap:=c0) n hr0.symm (by have:=HN0.out;have:=HO.out.n;omega) w8 hS0)
   rw[hbx] at KB
   obtain⟨qb,hqb⟩:∃q,q=(st.its.any fun u=>decide (u.code=n)&&decide (u.kind=2)):=⟨_,rfl⟩
   rw[←hqb] at KB
   have HQB:=Lib.hid hqb
   clear hn ho hr0 hS0 hbx hqb
   cases qb with
   | false=>
    have HBD:=Lib.hid (show cJ_ st ws=none by rw[HB.out,if_neg];rintro⟨_,h2,_⟩;rw[HTI.out] at h2;exact absurd (HQB.out.trans h2) (by simp))
    go_wp2_with (first
     | (go_at_call 88;(with_reducible refine(KB.out).mono ?_);rintro e w9 ⟨rfl,hb9⟩;have H9:=Lib.hid (H8.out.below hb9);clear hb9)
     | fail)
    go_ret
    exact H9.out.bad (fun y hy=>List.mem_cons_of_mem _ hy) HBD.out
   | true=>
    go_upto_region 28 with (first
     | (go_at_call 88;(with_reducible refine(KB.out).mono ?_);rintro e w9 ⟨rfl,hb9⟩;have H9:=Lib.hid (H8.out.below hb9);have x1:=H9.out.cX.2.1;clear hb9)
     | fail)
    have HLI:=Lib.hid (show(asmD st).inside.length≤100000 from by
     have h1:(asmD st).inside.length≤st.its.length:=List.length_filterMap_le _ _
     have:=HO.out.n
     omega)
    refine bX_ (A:=?frI) 9 211 212 1 _ _ (fun W=>HrAt X (Bw+1) Bw (.slice b0 n0 c0) v1 v2 (.slice b3 n3 c3) (sdR (.slice b0 n0 c0) v1 v2 (.slice b3 n3 c3) (asmD st)) u8 all ((B14,shC ⟨c,kd,zRc,zPl,zPl,wd⟩)::L) w W) (fun B W=>HrAt X (Bw+1) Bw (.slice b0 n0 c0) v1 v2 (.slice b3 n3 c3) (sdR (.slice b0 n0 c0) v1 v2 (.slice b3 n3 c3) (asmD st)) u8 all ((B,[.int .i64 c,.int .i64 n])::(B14,shC ⟨c,kd,zRc,zPl,zPl,wd⟩)::L) w W) (fun B v W=>HrAt X (Bw+1) Bw (.slice b0 n0 c0) v1 v2 (.slice b3 n3 c3) (sdR (.slice b0 n0 c0) v v2 (.slice b3 n3 c3) (sdI (asmD st) c (some n))) u8 all ((B,[.int .i64 c,.int .i64 n])::(B14,shC ⟨c,kd,zRc,zPl,zPl,wd⟩)::L) w W) (by kernel_rfl) (by kernel_rfl) ⟨rfl,rfl,rfl⟩ ⟨rfl,rfl,rfl⟩ (fun U V h hb=>h.below hb) (fun B U V h hb=>h.below hb) (fun B v U V h hb=>h.below hb) (fun W hb=>H9.out.below hb) ?h ?s1 ?s2 ?ht
    case h=>
     intro U hU
     have hz:HrAt X (Bw+1) Bw (.slice b0 n0 c0) v1 v2 (.slice b3 n3 c3) (sdR (.slice b0 n0 c0) v1 v2 (.slice b3 n3 c3) (asmD st)) u8 all ((B14,shC ⟨c,kd,zRc,zPl,zPl,wd⟩)::L) w U∨∃v',HrAt X (Bw+1) Bw (.slice b0 n0 c0) v1 v2 (.slice b3 n3 c3) (sdR (.slice b0 n0 c0) v' v2 (.slice b3 n3 c3) (sdI (asmD st) c (some n))) u8 all ((B14,shC ⟨c,kd,zRc,zPl,zPl,wd⟩)::L) w U:=by
      rcases hU with h|⟨B,h⟩|⟨B,v,h⟩
      ·exact .inl h
      ·exact .inl (h.sub fun y hy=>List.mem_cons_of_mem _ hy)
      ·exact .inr ⟨v,h.sub fun y hy=>List.mem_cons_of_mem _ hy⟩
     have hX:U.cell? ⟨X,1,none⟩=some v1:=by rcases hz with h|⟨_,h⟩ <;> exact h.cX.2.1
     have hy:U.cell? ⟨B14,0,none⟩=some (.int .i64 c):=by rcases hz with h|⟨_,h⟩ <;> exact h.mo.az.ce 3 0 rfl rfl
     have z1:=cell_regrown hX
     have y0:=cell_regrown hy
     clear hU hz hX hy
     simp only[List.take_succ_cons,List.take_zero]
     repeat (go_big_quiet_step (fail))
     refine wpQuiet_nil ?_
     rfl
    case s1=>
     intro W hW
     refine⟨_,?_,hW.push [.int .i64 c,.int .i64 n] 58⟩
     simp[go_sem]
    case s2=>
     intro B W hW
     obtain⟨v',W',hrun,hW2,_⟩:=uK_ hW.mo (c,n) B 1 (by simp) HLI.out 24
     refine⟨v',W',?_,hW.rows hW2⟩
     simp[execOp,resolve,invoke,builtin,Act.put,Act.eval,hrun,Result.andThen]
    case ht=>
     intro B v W hW
     obtain⟨bb,cc,e,-⟩:=hW.mo.slice (r:=⟨58,2,v,((sdI (asmD st) c (some n))).inside.length,psC ((sdI (asmD st) c (some n))).inside⟩) (by unfold sdR;simp)
     simp only at e
     obtain⟨nn,hnn⟩:∃nn,nn=((sdI (asmD st) c (some n))).inside.length:=⟨_,rfl⟩
     rw[←hnn] at e
     clear hnn
     subst e
     have HV:=Lib.hid (hW.setX (i:=1) rfl (t:=.slice bb nn cc) rfl)
     have z1:=hW.fX.2.1
     have y1:=hW.cX.2.1
     clear hW
     simp only[List.drop_succ_cons,List.drop_zero]
     go_wp2
     go_meet
     exact⟨some n,_,HV.out.sub (fun y hy=>List.mem_cons_of_mem _ hy),HTI.out,HQB.out.symm⟩
 case rest=>
 obtain⟨ins,v1',h9,hti,hbi⟩:=hcut
 have H10:=Lib.hid h9
 have HTI:=Lib.hid hti
 have HBI:=Lib.hid hbi
 have x2:=h9.cX.2.2.1
 clear h9 hti hbi x1 x0
 have HP:=Lib.hid (show HrAt X (Bw+1) Bw (.slice b0 n0 c0) v1' v2 (.slice b3 n3 c3) (sdR (.slice b0 n0 c0) v1' v2 (.slice b3 n3 c3) (sdI (asmD st) c ins)) u8 all ((wc.heap.size,ucC [⟨#[111,102]⟩,⟨#[103,114,111,117,112]⟩])::(B14,shC ⟨c,kd,zRc,zPl,zPl,wd⟩)::L) w (wc.alloc (.cells #[.string ⟨#[111,102]⟩,.string ⟨#[103,114,111,117,112]⟩] 9)) from H10.out.push (ucC [⟨#[111,102]⟩,⟨#[103,114,111,117,112]⟩]) 9)
 have K1:=Lib.hid (fS_ (c:=2) HC.out (wl:=[wOf,bT_]) rfl (show([⟨#[111,102]⟩,⟨#[103,114,111,117,112]⟩]:List ByteArray).length=2 from rfl) (by omega) HU8.out HP.out)
 obtain⟨om,hom⟩:∃om,om=takN [wOf,bT_] (ws.drop o8):=⟨_,rfl⟩
 rw[←hom] at K1
 have HOM:=Lib.hid hom.symm
 clear hom
 go_upto_if 221 with (first
  | (go_at_call 83;(with_reducible refine(K1.out).mono ?_);rintro e w9 ⟨z9,u9,o9,rfl,hz9,h9,hu9,ho9⟩;have H11:=Lib.hid h9;have HZ9:=Lib.hid hz9;have HU9:=Lib.hid hu9;have HO9:=Lib.hid ho9;have x2:=h9.cX.2.2.1;have x0:=h9.cX.1;clear h9 hz9 hu9 ho9)
  | fail)
 obtain⟨qm,hqm⟩:∃q,q=om.isSome:=⟨_,rfl⟩
 rw[←hqm]
 have HQM:=Lib.hid hqm
 clear hqm K1 HP
 go_cut [] from 222 to 236 (fun wX=>∃(mm:Option Int) (v2':Value),HrAt X (Bw+1) Bw (.slice b0 n0 c0) v1' v2' (.slice b3 n3 c3) (sdR (.slice b0 n0 c0) v1' v2' (.slice b3 n3 c3) (sdM (sdI (asmD st) c ins) c mm)) u9 all ((B14,shC ⟨c,kd,zRc,zPl,zPl,wd⟩)::L) w wX∧takM (ws.drop o8)=(mm,ws.drop o9)∧memB mm=true)
 case first=>
  cases qm with
  | false=>
   have hno:om=none:=by
    cases om with
    | none=>rfl
    | some n=>have:=HQM.out;cases this
   have ho:o9=o8:=by rw[HO9.out,hno];rfl
   have HTM:=Lib.hid (mY_ (r:=ws.drop o8) (by rw[HOM.out,hno]))
   have HOE:=Lib.hid ho
   clear hno ho
   go_wp2
   go_meet
   exact⟨none,v2,H11.out,by rw[HTM.out,HOE.out],rfl⟩
  | true=>
   obtain⟨n,hn⟩:∃n,om=some n:=by
    cases om with
    | none=>have:=HQM.out;cases this
    | some n=>exact⟨n,rfl⟩
   obtain rfl:n=z9:=HZ9.out n hn
   have ho:o9=o8+3:=by rw[HO9.out,hn];rfl
   have HTM:=Lib.hid (show takM (ws.drop o8)=(some n,ws.drop o9) by rw[mX_ (HOM.out.trans hn),List.drop_drop,ho])
   clear hn ho
   by_cases h9:n≤999
   case neg=>
    have t9:decide ((999:Int)<n)=true:=decide_eq_true (by omega)
    have HBD:=Lib.hid (show cJ_ st ws=none by
     rw[HB.out,if_neg]
     rintro⟨_,_,h3,_⟩
     rw[HTI.out] at h3
     simp only at h3
     rw[HTM.out] at h3
     exact h9 (of_decide_eq_true h3))
    clear h9
    go_wp2
    go_ret
    exact H11.out.bad (fun y hy=>List.mem_cons_of_mem _ hy) HBD.out
   case pos=>
    have t9:decide ((999:Int)<n)=false:=decide_eq_false (by omega)
    have H99:=Lib.hid h9
    clear h9
    go_upto_region 33 with fail
    have HLM:=Lib.hid (show(sdI (asmD st) c ins).member.length≤100000 from by
     have h1:(asmD st).member.length≤st.its.length:=List.length_filterMap_le _ _
     have h2:(sdI (asmD st) c ins).member=(asmD st).member:=by cases ins <;> rfl
     have:=HO.out.n
     rw[h2]
     omega)
    refine bX_ (A:=?frM) 9 233 234 1 _ _ (fun W=>HrAt X (Bw+1) Bw (.slice b0 n0 c0) v1' v2 (.slice b3 n3 c3) (sdR (.slice b0 n0 c0) v1' v2 (.slice b3 n3 c3) (sdI (asmD st) c ins)) u9 all ((B14,shC ⟨c,kd,zRc,zPl,zPl,wd⟩)::L) w W) (fun B W=>HrAt X (Bw+1) Bw (.slice b0 n0 c0) v1' v2 (.slice b3 n3 c3) (sdR (.slice b0 n0 c0) v1' v2 (.slice b3 n3 c3) (sdI (asmD st) c ins)) u9 all ((B,[.int .i64 c,.int .i64 n])::(B14,shC ⟨c,kd,zRc,zPl,zPl,wd⟩)::L) w W) (fun B v W=>HrAt X (Bw+1) Bw (.slice b0 n0 c0) v1' v2 (.slice b3 n3 c3) (sdR (.slice b0 n0 c0) v1' v (.slice b3 n3 c3) (sdM (sdI (asmD st) c ins) c (some n))) u9 all ((B,[.int .i64 c,.int .i64 n])::(B14,shC ⟨c,kd,zRc,zPl,zPl,wd⟩)::L) w W) (by kernel_rfl) (by kernel_rfl) ⟨rfl,rfl,rfl⟩ ⟨rfl,rfl,rfl⟩ (fun U V h hb=>h.below hb) (fun B U V h hb=>h.below hb) (fun B v U V h hb=>h.below hb) (fun W hb=>H11.out.below hb) ?h ?s1 ?s2 ?ht
    case h=>
     intro U hU
     have hz:HrAt X (Bw+1) Bw (.slice b0 n0 c0) v1' v2 (.slice b3 n3 c3) (sdR (.slice b0 n0 c0) v1' v2 (.slice b3 n3 c3) (sdI (asmD st) c ins)) u9 all ((B14,shC ⟨c,kd,zRc,zPl,zPl,wd⟩)::L) w U∨∃v',HrAt X (Bw+1) Bw (.slice b0 n0 c0) v1' v2 (.slice b3 n3 c3) (sdR (.slice b0 n0 c0) v1' v' (.slice b3 n3 c3) (sdM (sdI (asmD st) c ins) c (some n))) u9 all ((B14,shC ⟨c,kd,zRc,zPl,zPl,wd⟩)::L) w U:=by
      rcases hU with h|⟨B,h⟩|⟨B,v,h⟩
      ·exact .inl h
      ·exact .inl (h.sub fun y hy=>List.mem_cons_of_mem _ hy)
      ·exact .inr ⟨v,h.sub fun y hy=>List.mem_cons_of_mem _ hy⟩
     have hX:U.cell? ⟨X,2,none⟩=some v2:=by rcases hz with h|⟨_,h⟩ <;> exact h.cX.2.2.1
     have hy:U.cell? ⟨B14,0,none⟩=some (.int .i64 c):=by rcases hz with h|⟨_,h⟩ <;> exact h.mo.az.ce 3 0 rfl rfl
     have z1:=cell_regrown hX
     have y0:=cell_regrown hy
     clear hU hz hX hy
     simp only[List.take_succ_cons,List.take_zero]
     repeat (go_big_quiet_step (fail))
     refine wpQuiet_nil ?_
     rfl
    case s1=>
     intro W hW
     refine⟨_,?_,hW.push [.int .i64 c,.int .i64 n] 58⟩
     simp[go_sem]
    case s2=>
     intro B W hW
     obtain⟨v',W',hrun,hW2,_⟩:=uJ_ hW.mo (c,n) B 1 (by simp) HLM.out 24
     refine⟨v',W',?_,hW.rows hW2⟩
     simp[execOp,resolve,invoke,builtin,Act.put,Act.eval,hrun,Result.andThen]
    case ht=>
     intro B v W hW
     obtain⟨bb,cc,e,-⟩:=hW.mo.slice (r:=⟨58,2,v,((sdM (sdI (asmD st) c ins) c (some n))).member.length,psC ((sdM (sdI (asmD st) c ins) c (some n))).member⟩) (by unfold sdR;simp)
     simp only at e
     obtain⟨nn,hnn⟩:∃nn,nn=((sdM (sdI (asmD st) c ins) c (some n))).member.length:=⟨_,rfl⟩
     rw[←hnn] at e
     clear hnn
     subst e
     have HV:=Lib.hid (hW.setX (i:=2) rfl (t:=.slice bb nn cc) rfl)
     have z1:=hW.fX.2.2.1
     have y1:=hW.cX.2.2.1
     clear hW
     simp only[List.drop_succ_cons,List.drop_zero]
     go_wp2
     go_meet
     exact⟨some n,_,HV.out.sub (fun y hy=>List.mem_cons_of_mem _ hy),HTM.out,decide_eq_true H99.out⟩
 case rest=>
 obtain⟨mm,v2',h12,htm,hbm⟩:=hcut
 have H13:=Lib.hid h12
 have HTM:=Lib.hid htm
 have HBM:=Lib.hid hbm
 have HSH:=Lib.hid (show(sdM (sdI (asmD st) c ins) c mm).shapes=(asmD st).shapes from by cases ins <;> cases mm <;> rfl)
 have HLS:=Lib.hid (show(sdM (sdI (asmD st) c ins) c mm).shapes.length≤100000 from by
  rw[HSH.out]
  show(st.its.map shOf).length≤_
  have:=HO.out.n
  rw[List.length_map]
  omega)
 obtain⟨pp,hp,-⟩:=HU9.out.2
 obtain⟨nr,hnr⟩:∃n,n=all.length-o9:=⟨_,rfl⟩
 rw[←hnr] at hp
 have HNR:=Lib.hid hnr
 have HPP:=Lib.hid hp
 obtain⟨ql,hql⟩:∃q,q=decide (nr=0):=⟨_,rfl⟩
 have t0:((nr:Int)==0)=ql:=by
  rw[hql]
  by_cases h:nr=0
  ·rw[h];rfl
  ·rw[decide_eq_false h];exact beq_eq_false_iff_ne.2 (by omega)
 have HQL:=Lib.hid hql
 clear h12 htm hbm x2 x0 hnr hql hp
 go_upto_region 34 with fail
 refine bX_ (A:=?frS) 6 243 244 1 _ _ (fun W=>HrAt X (Bw+1) Bw (.slice b0 n0 c0) v1' v2' (.slice b3 n3 c3) (sdR (.slice b0 n0 c0) v1' v2' (.slice b3 n3 c3) (sdM (sdI (asmD st) c ins) c mm)) u9 all ((B14,shC ⟨c,kd,zRc,zPl,zPl,wd⟩)::L) w W) (fun B W=>HrAt X (Bw+1) Bw (.slice b0 n0 c0) v1' v2' (.slice b3 n3 c3) (sdR (.slice b0 n0 c0) v1' v2' (.slice b3 n3 c3) (sdM (sdI (asmD st) c ins) c mm)) u9 all ((B,shC ⟨c,kd,zRc,zPl,zPl,wd⟩)::(B14,shC ⟨c,kd,zRc,zPl,zPl,wd⟩)::L) w W) (fun B v W=>HrAt X (Bw+1) Bw (.slice b0 n0 c0) v1' v2' (.slice b3 n3 c3) (sdR v v1' v2' (.slice b3 n3 c3) { (sdM (sdI (asmD st) c ins) c mm) with shapes:=(sdM (sdI (asmD st) c ins) c mm).shapes++[⟨c,kd,zRc,zPl,zPl,wd⟩] }) u9 all ((B,shC ⟨c,kd,zRc,zPl,zPl,wd⟩)::(B14,shC ⟨c,kd,zRc,zPl,zPl,wd⟩)::L) w W) (by kernel_rfl) (by kernel_rfl) ⟨rfl,rfl,rfl⟩ ⟨rfl,rfl,rfl⟩ (fun U V h hb=>h.below hb) (fun B U V h hb=>h.below hb) (fun B v U V h hb=>h.below hb) (fun W hb=>H13.out.below hb) ?h ?s1 ?s2 ?ht
 case h=>
  intro U hU
  have hX:U.cell? ⟨X,0,none⟩=some (.slice b0 n0 c0):=by
   rcases hU with h|⟨B,h⟩|⟨B,v,h⟩ <;> exact h.cX.1
  have hz:AzAt [(B14,shC ⟨c,kd,zRc,zPl,zPl,wd⟩)] w U:=by
   rcases hU with h|⟨B,h⟩|⟨B,v,h⟩ <;> exact h.mo.az.sub (fun y hy=>by simp only[List.mem_cons,List.not_mem_nil,or_false] at hy;subst hy;simp)
  have z0:=cell_regrown hX
  obtain⟨k0,k1,k2,k3,k4,k5,k6,k7,k8,k9,k10⟩:=hz.sh 0 rfl
  have y0:=cell_regrown k0
  have y1:=cell_regrown k1
  have y2:=cell_regrown k2
  have y3:=cell_regrown k3
  have y4:=cell_regrown k4
  have y5:=cell_regrown k5
  have y6:=cell_regrown k6
  have y7:=cell_regrown k7
  have y8:=cell_regrown k8
  have y9:=cell_regrown k9
  have y10:=cell_regrown k10
  clear hU hz hX k0 k1 k2 k3 k4 k5 k6 k7 k8 k9 k10
  simp only[List.take_succ_cons,List.take_zero]
  repeat (go_big_quiet_step (fail))
  refine wpQuiet_nil ?_
  rfl
 case s1=>
  intro W hW
  refine⟨_,?_,hW.push (shC ⟨c,kd,zRc,zPl,zPl,wd⟩) 30⟩
  simp[go_sem]
 case s2=>
  intro B W hW
  obtain⟨v',W',hrun,hW2,_⟩:=uL_ hW.mo ⟨c,kd,zRc,zPl,zPl,wd⟩ B 1 (by simp) HLS.out 32
  refine⟨v',W',?_,hW.rows hW2⟩
  simp[execOp,resolve,invoke,builtin,Act.put,Act.eval,hrun,Result.andThen]
 case ht=>
  intro B v W hW
  obtain⟨bb,cc,e,-⟩:=hW.mo.slice (r:=⟨30,11,v,({ (sdM (sdI (asmD st) c ins) c mm) with shapes:=(sdM (sdI (asmD st) c ins) c mm).shapes++[⟨c,kd,zRc,zPl,zPl,wd⟩] } : SD).shapes.length,ssC ({ (sdM (sdI (asmD st) c ins) c mm) with shapes:=(sdM (sdI (asmD st) c ins) c mm).shapes++[⟨c,kd,zRc,zPl,zPl,wd⟩] } : SD).shapes⟩) (by unfold sdR;simp)
  simp only at e
  obtain⟨nn,hnn⟩:∃nn,nn=({ (sdM (sdI (asmD st) c ins) c mm) with shapes:=(sdM (sdI (asmD st) c ins) c mm).shapes++[⟨c,kd,zRc,zPl,zPl,wd⟩] } : SD).shapes.length:=⟨_,rfl⟩
  simp only at hnn
  rw[←hnn] at e
  clear hnn
  subst e
  have HV:=Lib.hid (hW.setX (i:=0) rfl (t:=.slice bb nn cc) rfl)
  have z1:=hW.fX.1
  have y1:=hW.cX.1
  have x5:=HV.out.c5
  rw[HPP.out] at x5
  clear hW
  simp only[List.drop_succ_cons,List.drop_zero]
  go_wp2
  go_ret
  have hb:=HB.out
  rw[HTI.out] at hb
  simp only at hb
  rw[HTM.out] at hb
  simp only at hb
  have hlw:ws.length=all.length:=by rw[HWL.out];exact HN.out.1
  cases ql with
  | false=>
   have h0:=of_decide_eq_false HQL.out.symm
   exact HV.out.bad (fun y hy=>List.mem_cons_of_mem _ (List.mem_cons_of_mem _ hy)) (by
    rw[hb,if_neg]
    rintro⟨_,_,_,h4⟩
    have:=List.drop_eq_nil_iff.1 h4
    have:=HNR.out
    omega)
  | true=>
   have h0:=of_decide_eq_true HQL.out.symm
   have hd:ws.drop o9=[]:=List.drop_eq_nil_iff.2 (by have:=HNR.out;omega)
   rw[if_pos ⟨trivial,HBI.out,HBM.out,hd⟩] at hb
   rw[hb]
   refine⟨rfl,HV.out.mo.az.sub fun y hy=>?_,fun st' hst=>?_⟩
   ·simp only[List.mem_cons]
    exact .inr (.inr (.inr (.inr (.inr hy))))
   ·cases hst
    have hm:=HV.out.mo
    rw[HSH.out,xT_] at hm
    refine⟨_,_,_,_,hm.sub fun y hy=>?_⟩
    simp only[List.mem_cons] at hy⊢
    rcases hy with hy|hy
    ·exact .inl hy
    ·exact .inr (.inr (.inr (.inr (.inr hy))))
end Go.Proofs.YtdkaohphbgdkpaaGreatDoor
namespace Go.Proofs.YtdkaohphbgdkpaaGreatDoor
open Go.RowKit Go.Shelf Go.Sort
attribute [local go_sem] Oper.semAt_some
theorem qJ_ {α:Type} {l pre suf:List α} {x y:α} (e:l++[x]=pre++y::suf):(suf=[]∧pre=l∧y=x)∨∃s',l=pre++y::s':=by
 rcases List.eq_nil_or_concat suf with rfl|⟨s',z,rfl⟩
 ·have:=List.append_inj' e rfl
  exact .inl ⟨rfl,this.1.symm,(List.cons.inj this.2).1.symm⟩
 ·right
  rw[List.concat_eq_append,show pre++y::(s'++[z])=(pre++y::s')++[z] by simp] at e
  exact⟨s',(List.append_inj' e rfl).1⟩
theorem aAS {x y:St} {w:List Bs} (h:OkSt x) (hk:cJ_ x w=some y):OkSt y:=by
 unfold cJ_ at hk
 split at hk
 next l _=>
  split at hk
  next hc=>
   cases hk
   refine⟨h.n,by simp;omega,h.its,fun pre l' suf e=>?_⟩
   rcases qJ_ e with ⟨rfl,rfl,rfl⟩|⟨s',e'⟩
   ·exact hc.1
   ·exact h.ls pre l' s' e'
  next=>cases hk
 next=>
  split at hk
  next t _=>
   split at hk
   next hc=>
    cases hk
    refine⟨by simp;omega,h.m,fun pre t' suf e=>?_,h.ls⟩
    rcases qJ_ e with ⟨rfl,rfl,rfl⟩|⟨s',e'⟩
    ·exact hc.2.2
    ·exact h.its pre t' s' e'
   next=>cases hk
  next=>cases hk
def cutQ (many:Nat) (r:Bs):Bool:=(Lib.cut r [46]).2.2&&(decide (many=0)||Lib.hasPrefix (Lib.cut r [46]).1 [32])
def cutS (many:Nat) (r:Bs):Bs:=if many=0 then (Lib.cut r [46]).1 else Lib.trimPrefix (Lib.cut r [46]).1 [32]
theorem vR_ (many:Nat) (r:Bs):fP_ many r=if cutQ many r=true then some (cutS many r,(Lib.cut r [46]).2.1) else none:=by
 unfold fP_ cutQ cutS
 rw[jN_]
 cases h:(Lib.cut r [46]).2.2 with
 | false=>rfl
 | true=>
  rw[if_pos rfl]
  simp only[Bool.true_and]
  by_cases hm:many=0
  ·rw[if_pos hm,if_pos hm];simp[hm]
  ·rw[if_neg hm,if_neg hm]
   simp only[hm,decide_false,Bool.false_or]
   generalize (Lib.cut r [46]).1=s
   match s with
   | []=>rfl
   | c::s=>
    by_cases hc:c=32
    ·subst hc
     rfl
    ·have hp:Lib.hasPrefix (c::s) [32]=false:=by simp[Lib.hasPrefix,List.isPrefixOf,Ne.symm hc]
     rw[hp]
     split
     next s' b' e=>injection e with e1 e2;exact absurd e1 hc
     next=>rfl
theorem aBG (many:Nat) (r:Bs):(cutS many r).length≤r.length:=by
 have h0:(Lib.cut r [46]).1.length≤r.length:=by
  have h:=jN_ r
  cases hq:(Lib.cut r [46]).2.2 with
  | true=>
   rw[hq,if_pos rfl] at h
   have e:=(kW_ h).1
   conv=>rhs;rw[e]
   simp
  | false=>
   unfold Lib.cut at hq⊢
   split
   next hc=>rw[if_pos hc] at hq;cases hq
   next=>exact Nat.le_refl _
 unfold cutS
 split
 ·exact h0
 ·unfold Lib.trimPrefix
  split
  ·rw[List.length_drop];omega
  ·exact h0
def aBX (v:Value):Nat:=match v with | .string s=>s.size|_=>0
def rL_:Value:=.agg #[.slice none 0 0,.slice none 0 0,.slice none 0 0,.slice none 0 0]
def eO_ (s:ByteArray) (w:World) (e:Ending) (W':World):Prop:=match eA_ ⟨[],[]⟩ 0 s.data.toList with
 | .ok st=>∃v0 v1 v2 v3,e=.returned (.tuple #[.agg #[v0,v1,v2,v3],.int .i64 s.size,.int .i64 0])∧MoAt (sdR v0 v1 v2 v3 (asmD st)) [] w W'
 | .bad n=>e=.returned (.tuple #[rL_,.int .i64 n,.int .i64 270])∧Below w.heap.size w W'
theorem eO_.bad {s:ByteArray} {w W':World} {e:Ending} {n:Nat} (h:eA_ ⟨[],[]⟩ 0 s.data.toList=.bad n) (he:e=.returned (.tuple #[rL_,.int .i64 n,.int .i64 270])) (hb:Below w.heap.size w W'):eO_ s w e W':=by
 unfold eO_
 rw[h]
 exact⟨he,hb⟩
theorem eO_.ok {s:ByteArray} {w W':World} {e:Ending} {st:St} {v0 v1 v2 v3:Value} (h:eA_ ⟨[],[]⟩ 0 s.data.toList=.ok st) (he:e=.returned (.tuple #[.agg #[v0,v1,v2,v3],.int .i64 s.size,.int .i64 0])) (hb:MoAt (sdR v0 v1 v2 v3 (asmD st)) [] w W'):eO_ s w e W':=by
 unfold eO_
 rw[h]
 exact⟨v0,v1,v2,v3,he,hb⟩
theorem yC_ (s:ByteArray) (hs:s.size≤20000) (w:World) (hG:GlobE w) (hT:Glob w) (hM:MaxW w) :
  Calls Tryz.prog 24 #[.string s] w fun e W'=>eO_ s w e W':=by
 have HG:=Lib.hid hG
 have HT:=Lib.hid hT
 have HM:=Lib.hid hM
 have t1:decide ((20000:Int)<(s.size:Int))=false:=decide_eq_false (by omega)
 have t1':decide (20000<s.size)=false:=decide_eq_false (by omega)
 have h0:MoAt (sdR (.slice none 0 0) (.slice none 0 0) (.slice none 0 0) (.slice none 0 0) (asmD ⟨[],[]⟩)) [(w.heap.size+1,[.slice none 0 0,.slice none 0 0,.slice none 0 0,.slice none 0 0]),(w.heap.size,[.slice none 0 0,.slice none 0 0,.slice none 0 0,.slice none 0 0])] w ((w.alloc (.cells #[.slice none 0 0,.slice none 0 0,.slice none 0 0,.slice none 0 0] 62)).alloc (.cells #[.slice none 0 0,.slice none 0 0,.slice none 0 0,.slice none 0 0] 62)):=by
  have h1:=(((AzAt.start w).push [.slice none 0 0,.slice none 0 0,.slice none 0 0,.slice none 0 0] 62).push [.slice none 0 0,.slice none 0 0,.slice none 0 0,.slice none 0 0] 62)
  simp only[World.size_alloc] at h1
  exact((((MoAt.start h1).addNil 59 3).addNil 58 2).addNil 58 2).addNil 30 11
 have H0:=Lib.hid h0
 clear h0 hG hT hM
 go_enter Tryz.func24,Tryz.ntmps24
 go_wp2
 go_loopw [6,7] (fun v6 v7 wr=>∃(rest:ByteArray) (many:Nat) (st:St) (v0 v1 v2 v3:Value),v6=.string rest∧v7=.int .i64 (many:Int)∧many+rest.size≤s.size∧Hid (eA_ ⟨[],[]⟩ 0 s.data.toList=eA_ st many rest.data.toList)∧Hid (OkSt st)∧MoAt (sdR v0 v1 v2 v3 (asmD st)) [(w.heap.size+1,[v0,v1,v2,v3]),(w.heap.size,[.slice none 0 0,.slice none 0 0,.slice none 0 0,.slice none 0 0])] w wr) (fun v6 _ _=>aBX v6)
 case atStart=>exact⟨s,0,⟨[],[]⟩,_,_,_,_,rfl,rfl,by omega,Lib.hid rfl,Lib.hid zT_,H0.out⟩
 case round=>
  obtain⟨rest,many,st,v0,v1,v2,v3,rfl,rfl,hle,HX,HO,hmo⟩:=hrel
  have H1:=Lib.hid hmo
  have HLE:=Lib.hid (And.intro hle hs)
  have x0:=hmo.az.ce 0 0 rfl rfl
  have x1:=hmo.az.ce 0 1 rfl rfl
  have x2:=hmo.az.ce 0 2 rfl rfl
  have x3:=hmo.az.ce 0 3 rfl rfl
  clear hmo
  obtain⟨b0,c0,e0,-⟩:=H1.out.slice (r:=⟨30,11,v0,(asmD st).shapes.length,ssC (asmD st).shapes⟩) (by unfold sdR;simp)
  obtain⟨b1,c1,e1,-⟩:=H1.out.slice (r:=⟨58,2,v1,(asmD st).inside.length,psC (asmD st).inside⟩) (by unfold sdR;simp)
  obtain⟨b2,c2,e2,-⟩:=H1.out.slice (r:=⟨58,2,v2,(asmD st).member.length,psC (asmD st).member⟩) (by unfold sdR;simp)
  obtain⟨b3,c3,e3,-⟩:=H1.out.slice (r:=⟨59,3,v3,(asmD st).leads.length,tsC (asmD st).leads⟩) (by unfold sdR;simp)
  simp only at e0 e1 e2 e3
  obtain⟨n0,hn0⟩:∃n,n=(asmD st).shapes.length:=⟨_,rfl⟩
  obtain⟨n1,hn1⟩:∃n,n=(asmD st).inside.length:=⟨_,rfl⟩
  obtain⟨n2,hn2⟩:∃n,n=(asmD st).member.length:=⟨_,rfl⟩
  obtain⟨n3,hn3⟩:∃n,n=(asmD st).leads.length:=⟨_,rfl⟩
  rw[←hn0] at e0
  rw[←hn1] at e1
  rw[←hn2] at e2
  rw[←hn3] at e3
  subst e0 e1 e2 e3
  clear hn0 hn1 hn2 hn3
  by_cases he:rest=⟨#[]⟩
  ·subst he
   have g0:=H1.out.az.cf 1 0 rfl rfl
   have g1:=H1.out.az.cf 1 1 rfl rfl
   have g2:=H1.out.az.cf 1 2 rfl rfl
   have g3:=H1.out.az.cf 1 3 rfl rfl
   have k0:=H1.out.az.ce 1 0 rfl rfl
   have k1:=H1.out.az.ce 1 1 rfl rfl
   have k2:=H1.out.az.ce 1 2 rfl rfl
   have k3:=H1.out.az.ce 1 3 rfl rfl
   go_wp2
   have h2:=((((H1.out.sub (L':=[(w.heap.size,[.slice none 0 0,.slice none 0 0,.slice none 0 0,.slice none 0 0])]) (by simp)).set (Nat.le_refl _) (by simp) (i:=0) rfl (.slice b0 n0 c0)).set (Nat.le_refl _) (by simp) (i:=1) rfl (.slice b1 n1 c1)).set (Nat.le_refl _) (by simp) (i:=2) rfl (.slice b2 n2 c2)).set (Nat.le_refl _) (by simp) (i:=3) rfl (.slice b3 n3 c3)
   generalize ((((wr.setCell ⟨w.heap.size,0,none⟩ (.slice b0 n0 c0)).setCell ⟨w.heap.size,1,none⟩ (.slice b1 n1 c1)).setCell ⟨w.heap.size,2,none⟩ (.slice b2 n2 c2)).setCell ⟨w.heap.size,3,none⟩ (.slice b3 n3 c3))=WF at h2⊢
   have q0:=h2.az.ce 0 0 rfl rfl
   have q1:=h2.az.ce 0 1 rfl rfl
   have q2:=h2.az.ce 0 2 rfl rfl
   have q3:=h2.az.ce 0 3 rfl rfl
   refine bodyPost_ret (v:=.tuple #[.agg #[.slice b0 n0 c0,.slice b1 n1 c1,.slice b2 n2 c2,.slice b3 n3 c3],.int .i64 s.size,.int .i64 0]) ?_ rfl (eO_.ok (HX.out.trans (wR_ _ _)) rfl (h2.sub (by simp)))
   simp[results,Tryz.results24,go_sem,q0,q1,q2,q3,Result.andThen]
  ·have hne:rest.data.toList≠[]:=fun e=>he (by
    apply ByteArray.ext
    exact Array.toList_inj.1 (by simpa using e))
   have t8:rest.toList.isEmpty=false:=by rw[ByteArray.toList_eq];simpa using hne
   have t8':(!rest.toList.isEmpty)=true:=by rw[t8];rfl
   have hrl:rest.size=rest.data.toList.length:=dU_ _
   obtain⟨⟨m,hm⟩,hm0⟩:=(HM.out.below H1.out.az.bw)
   have KC:=Lib.hid (Tryz.strings_Cut rest ⟨#[46]⟩ m wr (by omega) hm)
   have HNT:=Lib.hid (vR_ many rest.data.toList)
   have hcl:=aBG many rest.data.toList
   have HNE:=Lib.hid hne
   obtain⟨sn,hsn⟩:∃sn:ByteArray,sn=⟨(cutS many rest.data.toList).toArray⟩:=⟨_,rfl⟩
   obtain⟨qn,hqn⟩:∃q,q=cutQ many rest.data.toList:=⟨_,rfl⟩
   obtain⟨ca,hca⟩:∃x,x=(Lib.cut rest.data.toList [46]).1:=⟨_,rfl⟩
   obtain⟨cb,hcb⟩:∃x,x=(Lib.cut rest.data.toList [46]).2.1:=⟨_,rfl⟩
   obtain⟨cq,hcq⟩:∃x,x=(Lib.cut rest.data.toList [46]).2.2:=⟨_,rfl⟩
   have HSN:=Lib.hid (show sn=⟨(if many=0 then ca else Lib.trimPrefix ca [32]).toArray⟩ by rw[hsn,hca];rfl)
   have HQN:=Lib.hid (show qn=(cq&&(decide (many=0)||Lib.hasPrefix ca [32])) by rw[hqn,hca,hcq];rfl)
   have hNT:=HNT.out
   rw[←hqn,←hcb] at hNT
   have HN:=Lib.hid hNT
   have HSD:=Lib.hid (show sn.data.toList=cutS many rest.data.toList by rw[hsn])
   have HSZ:=Lib.hid (show sn.size≤999999 by rw[dU_,HSD.out];omega)
   change Hid (Calls Tryz.prog 45 #[.string rest,.string ⟨#[46]⟩] wr fun e w'=>e=.returned (.tuple #[.string ⟨(Lib.cut rest.data.toList [46]).1.toArray⟩,.string ⟨(Lib.cut rest.data.toList [46]).2.1.toArray⟩,.bool (Lib.cut rest.data.toList [46]).2.2])∧∃n,w'=wr.drewN n) at KC
   rw[←hca,←hcb,←hcq] at KC
   have KP:=Lib.hid (fun W=>Tryz.strings_CutPrefix ⟨ca.toArray⟩ ⟨#[32]⟩ W)
   obtain⟨sb,hsb⟩:∃sb:ByteArray,sb=⟨cb.toArray⟩:=⟨_,rfl⟩
   have HSB:=Lib.hid (show sb.data.toList=cb by rw[hsb])
   rw[←hsb] at KC
   clear hne hrl hm hm0 hcl hsn hqn hca hcb hcq hNT HNT hsb he
   go_upto_if 29 with (first
    | (go_at_call 45;(with_reducible refine(KC.out).mono ?_);rintro e w2 ⟨rfl,nd,rfl⟩;have H2:=Lib.hid (H1.out.drewN nd))
    | fail)
   obtain⟨W2,hW2⟩:∃W2,W2=wr.drewN nd:=⟨_,rfl⟩
   rw[←hW2] at H2⊢
   clear hW2
   obtain⟨q5,hq5⟩:∃q,q=decide (0<many):=⟨_,rfl⟩
   rw[←hq5]
   have HQ5:=Lib.hid hq5
   clear hq5
   go_cut [8,10,11,12] from 30 to 39 (fun v8 v10 v11 v12 wX=>v8=.string sn∧v10=.bool qn∧wX=W2)
   case first=>
    cases q5 with
    | false=>
     have hm:many=0:=by have:=of_decide_eq_false HQ5.out.symm;omega
     have HE:=Lib.hid (show sn=⟨ca.toArray⟩∧qn=cq from⟨by rw[HSN.out,if_pos hm],by rw[HQN.out,decide_eq_true hm];simp⟩)
     clear hm
     go_wp2
     go_meet
     exact⟨by rw[HE.out.1],by rw[HE.out.2],rfl⟩
    | true=>
     have hm:¬many=0:=by have:=of_decide_eq_true HQ5.out.symm;omega
     have HE:=Lib.hid (show sn=⟨(Lib.trimPrefix ca [32]).toArray⟩∧qn=(cq&&Lib.hasPrefix ca [32]) from⟨by rw[HSN.out,if_neg hm],by rw[HQN.out,decide_eq_false hm];simp⟩)
     clear hm
     cases cq with
     | false=>
      go_wp2_with (first
       | (go_at_call 46;(with_reducible refine(KP.out _).mono ?_);rintro e w3 ⟨rfl,rfl⟩)
       | fail)
      go_meet
      exact⟨by rw[HE.out.1],by rw[HE.out.2];rfl,rfl⟩
     | true=>
      go_wp2_with (first
       | (go_at_call 46;(with_reducible refine(KP.out _).mono ?_);rintro e w3 ⟨rfl,rfl⟩)
       | fail)
      go_meet
      exact⟨by rw[HE.out.1],by rw[HE.out.2];rfl,rfl⟩
   case rest=>
   obtain⟨rfl,rfl,rfl⟩:=hcut
   cases qn with
   | false=>
    have HBD:=Lib.hid (show eA_ st many rest.data.toList=.bad many from hE_ HNE.out (by rw[HN.out];rfl))
    have g0:=H2.out.az.cf 1 0 rfl rfl
    have g1:=H2.out.az.cf 1 1 rfl rfl
    have g2:=H2.out.az.cf 1 2 rfl rfl
    have g3:=H2.out.az.cf 1 3 rfl rfl
    have k0:=H2.out.az.ce 1 0 rfl rfl
    have k1:=H2.out.az.ce 1 1 rfl rfl
    have k2:=H2.out.az.ce 1 2 rfl rfl
    have k3:=H2.out.az.ce 1 3 rfl rfl
    clear KC KP
    go_wp2
    have h2:=((((H2.out.az.sub (L':=[(w.heap.size,[.slice none 0 0,.slice none 0 0,.slice none 0 0,.slice none 0 0])]) (by simp)).set (Nat.le_refl _) (by simp) (i:=0) rfl (.slice none 0 0)).set (Nat.le_refl _) (by simp) (i:=1) rfl (.slice none 0 0)).set (Nat.le_refl _) (by simp) (i:=2) rfl (.slice none 0 0)).set (Nat.le_refl _) (by simp) (i:=3) rfl (.slice none 0 0)
    generalize ((((wc.setCell ⟨w.heap.size,0,none⟩ (.slice none 0 0)).setCell ⟨w.heap.size,1,none⟩ (.slice none 0 0)).setCell ⟨w.heap.size,2,none⟩ (.slice none 0 0)).setCell ⟨w.heap.size,3,none⟩ (.slice none 0 0))=WF at h2⊢
    have q0:=h2.ce 0 0 rfl rfl
    have q1:=h2.ce 0 1 rfl rfl
    have q2:=h2.ce 0 2 rfl rfl
    have q3:=h2.ce 0 3 rfl rfl
    refine bodyPost_ret (v:=.tuple #[rL_,.int .i64 many,.int .i64 270]) ?_ rfl (eO_.bad (n:=many) (HX.out.trans HBD.out) rfl h2.bw)
    unfold rL_
    simp[results,Tryz.results24,go_sem,q0,q1,q2,q3,Result.andThen]
   | true=>
    have hXl:w.heap.size+1<wc.heap.size:=(H2.out.az.row (w.heap.size+1,[.slice b0 n0 c0,.slice b1 n1 c1,.slice b2 n2 c2,.slice b3 n3 c3]) (by simp)).sz
    have KH:=Lib.hid (hear_s sn HSZ.out HO.out wc H2.out ⟨by omega,fun y hy=>by simp only[List.mem_singleton] at hy;subst hy;simp only;omega⟩ HG.out HT.out HM.out)
    rw[HSD.out] at KH
    have hNT:=HN.out
    rw[if_pos rfl] at hNT
    have HN2:=Lib.hid hNT
    obtain⟨o,ho⟩:∃o,o=cJ_ st (bB_ 32 (cutS many rest.data.toList)):=⟨_,rfl⟩
    rw[←ho] at KH
    have HOO:=Lib.hid ho.symm
    clear ho hNT hXl KC KP
    cases o with
    | none=>
     have HBD:=Lib.hid (show eA_ st many rest.data.toList=.bad many from eJ_ HN2.out HOO.out)
     go_wp2_with (first
      | (go_at_call 47;(with_reducible refine(KH.out).mono ?_);rintro e w4 ⟨rfl,h4,-⟩;have H4:=Lib.hid h4;have g0:=h4.cf 0 0 rfl rfl;have g1:=h4.cf 0 1 rfl rfl;have g2:=h4.cf 0 2 rfl rfl;have g3:=h4.cf 0 3 rfl rfl;have k0:=h4.ce 0 0 rfl rfl;have k1:=h4.ce 0 1 rfl rfl;have k2:=h4.ce 0 2 rfl rfl;have k3:=h4.ce 0 3 rfl rfl;clear h4)
      | fail)
     have h2:=((((H4.out.sub (L':=[(w.heap.size,[.slice none 0 0,.slice none 0 0,.slice none 0 0,.slice none 0 0])]) (by simp)).set (Nat.le_refl _) (by simp) (i:=0) rfl (.slice none 0 0)).set (Nat.le_refl _) (by simp) (i:=1) rfl (.slice none 0 0)).set (Nat.le_refl _) (by simp) (i:=2) rfl (.slice none 0 0)).set (Nat.le_refl _) (by simp) (i:=3) rfl (.slice none 0 0)
     generalize ((((w4.setCell ⟨w.heap.size,0,none⟩ (.slice none 0 0)).setCell ⟨w.heap.size,1,none⟩ (.slice none 0 0)).setCell ⟨w.heap.size,2,none⟩ (.slice none 0 0)).setCell ⟨w.heap.size,3,none⟩ (.slice none 0 0))=WF at h2⊢
     have q0:=h2.ce 0 0 rfl rfl
     have q1:=h2.ce 0 1 rfl rfl
     have q2:=h2.ce 0 2 rfl rfl
     have q3:=h2.ce 0 3 rfl rfl
     refine bodyPost_ret (v:=.tuple #[rL_,.int .i64 many,.int .i64 270]) ?_ rfl (eO_.bad (n:=many) (HX.out.trans HBD.out) rfl h2.bw)
     unfold rL_
     simp[results,Tryz.results24,go_sem,q0,q1,q2,q3,Result.andThen]
    | some st'=>
     go_wp2_with (first
      | (go_at_call 47;(with_reducible refine(KH.out).mono ?_);rintro e w4 ⟨rfl,-,h4⟩;have H4:=Lib.hid (h4 st' rfl);clear h4)
      | fail)
     obtain⟨y0,y1,y2,y3,h4⟩:=H4.out
     have hlt:=jC_ HN2.out
     have hsb:sb.size=cb.length:=by rw[dU_,HSB.out]
     have hrs:rest.size=rest.data.toList.length:=dU_ _
     exact⟨⟨sb,many+1,st',y0,y1,y2,y3,by rfl,by go_num,by have:=HLE.out;omega,Lib.hid (by rw[HX.out,HSB.out];exact kQ_ HN2.out HOO.out),Lib.hid (aAS HO.out HOO.out),h4⟩,by simp only[aBX];omega⟩
end Go.Proofs.YtdkaohphbgdkpaaGreatDoor
