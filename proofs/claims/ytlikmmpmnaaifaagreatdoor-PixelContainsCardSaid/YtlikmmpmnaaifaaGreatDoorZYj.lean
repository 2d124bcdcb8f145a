/- - -/
import Derived.Maps.OwnIn
import Derived.Lib.QuietBelowIn
import Derived.Lib.QuietBelow
import Derived.BigQuiet
import Derived.Deep.CutRange
import Derived.RangeFuncLeaves
import Derived.ControlIn
import Derived.Deep.RegionHeld3
import Derived.Lib.AppendZerosOnto
import Derived.Lib.Walk
import Derived.Laws.AppendOwnNone
import Derived.Shelf.SlSortCmp.WholeK
import Derived.Test.YtlikmmpmnaaifaaGreatDoorZVg
import Derived.Test.YtlikmmpmnaaifaaGreatDoorZPl14
import Derived.Test.YtlikmmpmnaaifaaGreatDoorZBack
import Derived.Test.YtlikmmpmnaaifaaGreatDoorZPt
import Derived.Test.YtlikmmpmnaaifaaGreatDoorZShelfS
import Derived.Test.YtlikmmpmnaaifaaGreatDoorZSg
import Derived.Test.YtlikmmpmnaaifaaGreatDoorZPl15
set_option maxHeartbeats 40000000
set_option maxRecDepth 1000000
open Go.Lib (hid)
namespace Go.Proofs.YtlikmmpmnaaifaaGreatDoor
open Go.RowKit Go.Shelf Go.Sort
attribute [local go_sem] Oper.semAt_some
structure InksAt (a:Option Addr) (ks:List Ik) (W:World):Prop where
 row:∀(i:Nat) (k:Ik),ks[i]?=some k→∃(b o:Nat) (ca:Option Addr) (cc:Nat),a=some ⟨b,o,none⟩∧b<W.heap.size∧W.cell? ⟨b,o+i*2,none⟩=some (.int .i64 k.code)∧W.cell? ⟨b,o+i*2+1,none⟩=some (.slice ca k.cells.length cc)∧CsAt ca (icC k.cells) W∧k.cells.length≤cc
theorem InksAt.below {a:Option Addr} {ks:List Ik} {W W':World} (h:InksAt a ks W) (hb:Below W.heap.size W W'):InksAt a ks W':=⟨fun i k hk=>by
 obtain⟨b,o,ca,cc,e,h1,h2,h3,h4,h5⟩:=h.row i k hk
 exact⟨b,o,ca,cc,e,Nat.lt_of_lt_of_le h1 hb.size,(World.cell?_of_block (w:=W) (hb.block b h1)).trans h2,(World.cell?_of_block (w:=W) (hb.block b h1)).trans h3,h4.below hb,h5⟩⟩
def inkV (l:List (Ik×Nat×Nat)):List Value:=l.flatMap fun e=>[.int .i64 e.1.code,.slice (some ⟨e.2.1,0,none⟩) e.1.cells.length e.2.2]
def inkR (l:List (Ik×Nat×Nat)):List (Nat×List Value):=l.map fun e=>(e.2.1,icC e.1.cells)
theorem nD_ (l:List (Ik×Nat×Nat)):(inkV l).length=l.length*2:=by
 induction l with
 | nil=>rfl
 | cons e l ih=>
  show([_,_]++inkV l).length=_
  rw[List.length_append,ih]
  simp
  omega
theorem tN_ (l:List (Ik×Nat×Nat)) (e:Ik×Nat×Nat):inkV (l++[e])=inkV l++[.int .i64 e.1.code,.slice (some ⟨e.2.1,0,none⟩) e.1.cells.length e.2.2]:=by simp[inkV]
theorem qT_ {l:List (Ik×Nat×Nat)} {k:Nat} {e:Ik×Nat×Nat} (h:l[k]?=some e):(inkV l)[k*2]?=some (.int .i64 e.1.code)∧(inkV l)[k*2+1]?=some (.slice (some ⟨e.2.1,0,none⟩) e.1.cells.length e.2.2):=by
 induction l generalizing k with
 | nil=>cases h
 | cons y l ih=>
  have e':inkV (y::l)=.int .i64 y.1.code::.slice (some ⟨y.2.1,0,none⟩) y.1.cells.length y.2.2::inkV l:=rfl
  rw[e']
  cases k with
  | zero=>cases h;exact⟨rfl,rfl⟩
  | succ k=>
   have:=ih (k:=k) (by simpa using h)
   rw[show(k+1)*2=k*2+1+1 by omega]
   exact this
theorem aKU {l:List (Ik×Nat×Nat)} {k:Nat} {e:Ik×Nat×Nat} (h:l[k]?=some e):(e.2.1,icC e.1.cells)∈inkR l:=List.mem_map.2 ⟨e,List.mem_of_getElem? h,rfl⟩
def ssC (l:List Sh):List Value:=l.flatMap shC
theorem aMQ {l:List Sh} {k:Nat} {s:Sh} (h:l[k]?=some s) (j:Nat) (v:Value) (hv:(shC s)[j]?=some v):(ssC l)[k*11+j]?=some v:=by
 induction l generalizing k with
 | nil=>cases h
 | cons y l ih=>
  show(shC y++ssC l)[k*11+j]?=some v
  have hy:(shC y).length=11:=rfl
  cases k with
  | zero=>
   cases h
   have:j<11:=by
    rcases Nat.lt_or_ge j 11 with h|h
    ·exact h
    ·rw[List.getElem?_eq_none (by rw[hy];exact h)] at hv;cases hv
   rw[Nat.zero_mul,Nat.zero_add,List.getElem?_append_left (by rw[hy];exact this)]
   exact hv
  | succ k=>
   rw[List.getElem?_append_right (by rw[hy];omega),hy,show(k+1)*11+j-11=k*11+j by omega]
   exact ih (k:=k) (by simpa using h)
structure ShsAt (a:Option Addr) (ss:List Sh) (W:World):Prop where
 row:∀(k:Nat) (s:Sh),ss[k]?=some s→∃b o:Nat,a=some ⟨b,o,none⟩∧b<W.heap.size∧∀(j:Nat) (v:Value),(shC s)[j]?=some v→W.cell? ⟨b,o+k*11+j,none⟩=some v
theorem ShsAt.below {a:Option Addr} {ss:List Sh} {W W':World} (h:ShsAt a ss W) (hb:Below W.heap.size W W'):ShsAt a ss W':=⟨fun k s hs=>by
 obtain⟨b,o,e,h1,h2⟩:=h.row k s hs
 exact⟨b,o,e,Nat.lt_of_lt_of_le h1 hb.size,fun j v hv=>(World.cell?_of_block (w:=W) (hb.block b h1)).trans (h2 j v hv)⟩⟩
theorem ShsAt.of {a:Option Addr} {ss:List Sh} {W:World} (h:CsAt a (ssC ss) W):ShsAt a ss W:=⟨fun k s hs=>by
 obtain⟨b,o,rfl,h1,_⟩:=h.row _ _ (aMQ hs 0 _ rfl)
 refine⟨b,o,rfl,h1,fun j v hv=>?_⟩
 obtain⟨b',o',e,_,h2⟩:=h.row _ _ (aMQ hs j v hv)
 injection e with e
 injection e with e1 e2
 subst e1 e2
 rw[Nat.add_assoc]
 exact h2⟩
def kM_:Code→List Code
 | .loop c=>c::kM_ c
 | .seq a b=>kM_ a++kM_ b
 | .cond _ a b=>kM_ a++kM_ b
 | .block _ c=>kM_ c
 | .scope c=>kM_ c
 | _=>[]
noncomputable def oQ_:Code:=((kM_ (Tryz.f41.body.getD .skip))[0]?).getD .skip
structure PnAt (vI:Value) (ie:List (Ik×Nat×Nat)) (R:List (Nat×List Value)) (w w0 W:World):Prop where
 os:OsAt 79 2 vI ie.length (inkV ie) R w W
 ko:KeepsOthers w0 W
section
variable {vI:Value} {ie:List (Ik×Nat×Nat)} {R:List (Nat×List Value)} {w w0 W:World}
theorem PnAt.below {W':World} (h:PnAt vI ie R w w0 W) (hb:Below W.heap.size W W'):PnAt vI ie R w w0 W':=⟨h.os.below hb,h.ko.trans (aM_ hb)⟩
theorem PnAt.push (h:PnAt vI ie R w w0 W) (l:List Value) (t:TypeId):PnAt vI ie ((W.heap.size,l)::R) w w0 (W.alloc (.cells l.toArray t)):=⟨h.os.push l t,h.ko.trans (aM_ ((Below.refl _ _).alloc (Nat.le_refl _) _))⟩
end
theorem iT_ {b s n:Nat} {e:TypeId} {v:Value} {xs:List Value} {W:World} (h:W.ownsRow b e s v n xs):∀(j:Nat) (o:Obj),v.ownBlock=some j→W.heap[j]?=some o→o.isCells=true:=by
 intro j o hj ho
 rcases h.2 with ⟨rfl,_⟩|⟨g,c,cur,rfl,_,hc,_⟩
 ·cases hj
 ·obtain rfl:g=j:=by simpa[Value.ownBlock] using hj
  rw[hc] at ho
  cases ho
  rfl
noncomputable def aQB (ats:Array TypeId) (ty:TypeId) (args:Array Value):Sem Value:=Builtin.append_ ats ty args
theorem rQ_ (ats:Array TypeId) (ty:TypeId) (args:Array Value):Builtin.append_ ats ty args=aQB ats ty args:=rfl
attribute [local go_sem ↓] rQ_
theorem tE_ {e:TypeId} {s n:Nat} {v:Value} {xs:List Value} {R:List (Nat×List Value)} {w W:World} (h:OsAt e s v n xs R w W) (hn:0<n):∃g c,v=.slice (some ⟨g,0,none⟩) n c:=by
 rcases h.form with ⟨_,e,_⟩|⟨g,c,e,_⟩
 ·omega
 ·exact⟨g,c,e⟩
theorem lO_:(Tryz.prog.info? 79).map (fun i=>(i.zero,i.size,i.bytes))=some (some (.agg #[.int .i64 0,.slice none 0 0]),2,32):=by kernel_rfl
theorem mP_ {X:Nat} {W10 W U W':World} {vc v':Value} {n:Nat} {xs PC:List Value} {c:Value} {t:TypeId} (hX:W10.heap.size=X) (h:OsAt 3 1 vc n xs [(X,[vc]),(X+1,PC)] W10 W) (hU:Below W.heap.size W U)
  (hown:W'.ownsRow W10.heap.size 3 1 v' (n+1) (xs++[c])) (hg:(U.alloc (.cells #[c] t)).grownBy W' vc.ownBlock) (hat:v'.ownBlock=vc.ownBlock∨v'.ownBlock=some (U.alloc (.cells #[c] t)).heap.size) (B0:Nat) :
  KeepsFrom B0 W (W'.setCell ⟨X,0,none⟩ v')∧aX_ X (X+1) W (W'.setCell ⟨X,0,none⟩ v')∧∃vc,OsAt 3 1 vc (n+1) (xs++[c]) [(X,[vc]),(X+1,PC)] W10 (W'.setCell ⟨X,0,none⟩ v'):=by
 have hsX:=(h.az.row (X,[vc]) (by simp)).sz
 have hsB:=(h.az.row (X+1,PC) (by simp)).sz
 have h1:=(h.below hU).al (.cells #[c] t)
 have hB1:Below W.heap.size W (U.alloc (.cells #[c] t)):=hU.trans (((Below.refl _ _).alloc (Nat.le_refl _) _).mono hU.size)
 have h2:=h1.grown hown hg hat
 have hr:∀k,vc.ownBlock=some k→W10.heap.size≤k:=fun k hk=>(bB_ h1.own k hk).2
 refine⟨(((aM_ hB1).trans (KeepsOthers.of_grownBy hg (iT_ h1.own))).trans (KeepsOthers.setCell _ _ _)).from _,?_,v',?_⟩
 ·refine aX_.setCell (n₀:=X) (Bs:=X+1) (p:=⟨X,0,none⟩) ⟨(hB1.mono (by simp only at hsX;omega)).grown hg (by have:=hB1.size;simp only at hsX;omega) (fun k hk=>by have:=hr k hk;omega),?_⟩ (Nat.le_refl _) (by show X+1≠X;omega) _
  exact(hg.block (X+1) (h1.az.row (X+1,PC) (by simp)).sz (fun e=>h1.ne (X+1,PC) (by simp) e.symm)).trans (hB1.block (X+1) hsB)
 ·exact h2.set (by omega) (by intro x hx;rw[List.mem_singleton.1 hx];show X≠X+1;omega) (i:=0) rfl v'
theorem tO_ (l:List (Ik×Nat×Nat)) (e:Ik×Nat×Nat):inkR (l++[e])=inkR l++[(e.2.1,icC e.1.cells)]:=by simp[inkR]
theorem aEP {X3 X4 gc cc np:Nat} {f:Fr} {vI v9:Value} {ie:List (Ik×Nat×Nat)} {R Rc:List (Nat×List Value)} {w wr W10 u3 w9:World} {cd:Int} {cl:List Int} {t:TypeId}
  (h7:PnAt vI ie R w wr u3) (hR:∀x∈((X3,frC f vI)::(X4,frC ⟨0,0,0,0,0⟩ (.slice none 0 0))::inkR ie),x∈R) (hc:OsAt 3 1 (.slice (some ⟨gc,0,none⟩) np cc) np (icC cl) Rc W10 u3) (hnp:cl.length=np) (hg0:∀k,vI.ownBlock=some k→k<W10.heap.size) (hx:w.heap.size≤X3∧X3≠X4∧∀e∈ie,X3≠e.2.1∧e.1.cells.length≤e.2.2∧w.heap.size≤e.2.1) (hx3:X3<W10.heap.size)
  (hown:w9.ownsRow w.heap.size 79 2 v9 (ie.length+1) (inkV ie++[.int .i64 cd,.slice (some ⟨gc,0,none⟩) np cc])) (hg:(u3.alloc (.cells #[.int .i64 cd,.slice (some ⟨gc,0,none⟩) np cc] t)).grownBy w9 vI.ownBlock)
  (hat:v9.ownBlock=vI.ownBlock∨v9.ownBlock=some (u3.alloc (.cells #[.int .i64 cd,.slice (some ⟨gc,0,none⟩) np cc] t)).heap.size) :
  (w9.cell? ⟨X3,5,none⟩=some vI∧w9.frozen? ⟨X3,5,none⟩=false)∧OsAt 79 2 v9 (ie++[((⟨cd,cl⟩:Ik),gc,cc)]).length (inkV (ie++[((⟨cd,cl⟩:Ik),gc,cc)])) ((X3,frC f v9)::(X4,frC ⟨0,0,0,0,0⟩ (.slice none 0 0))::inkR (ie++[((⟨cd,cl⟩:Ik),gc,cc)])) w (w9.setCell ⟨X3,5,none⟩ v9)∧
   KeepsOthers u3 (w9.setCell ⟨X3,5,none⟩ v9)∧(w.heap.size≤X3∧X3≠X4∧∀e∈ie++[((⟨cd,cl⟩:Ik),gc,cc)],X3≠e.2.1∧e.1.cells.length≤e.2.2∧w.heap.size≤e.2.1):=by
 have hgc:W10.heap.size≤gc∧gc<u3.heap.size:=⟨(hc.blk rfl).2.1,(hc.blk rfl).1⟩
 have h8:=((h7.os.sub hR).al (.cells #[.int .i64 cd,.slice (some ⟨gc,0,none⟩) np cc] t))
 have h9:=h8.grown hown hg hat
 have hgne:vI.ownBlock≠some gc:=fun e=>by have:=hg0 _ e;omega
 have har:ArAt gc (icC cl) w9:=((hc.ar rfl).al _).of_block (hg.block gc (by simp;omega) (fun e=>hgne e.symm)) hg.size
 have h10:=h9.cons har (by
  rcases hat with e|e
  ·rw[e];exact hgne
  ·rw[e]
   intro k
   have:=Option.some.inj k
   simp at this
   omega)
 have hcell:=(h9.az.row (X3,frC f vI) (by simp)).row 5 vI rfl
 have hfz:=(h9.az.row (X3,frC f vI) (by simp)).fz 5 (by simp[frC])
 have hxe:∀e∈ie++[((⟨cd,cl⟩:Ik),gc,cc)],X3≠e.2.1∧e.1.cells.length≤e.2.2∧w.heap.size≤e.2.1:=by
  intro e he
  rcases List.mem_append.1 he with he|he
  ·exact hx.2.2 e he
  ·rw[List.mem_singleton.1 he]
   have hcap:np≤cc:=by
    rcases hc.own.2 with ⟨e,_⟩|⟨g,c,cur,e,_,_,h3,_⟩
    ·cases e
    ·injection e with _ _ e
     omega
   exact⟨show X3≠gc by omega,show cl.length≤cc by omega,show w.heap.size≤gc by have:=hx.1;omega⟩
 refine⟨⟨hcell,hfz⟩,?_,?_,⟨hx.1,hx.2.1,hxe⟩⟩
 ·have h11:=(h10.sub (R':=(X3,frC f vI)::(X4,frC ⟨0,0,0,0,0⟩ (.slice none 0 0))::inkR (ie++[((⟨cd,cl⟩:Ik),gc,cc)])) (fun x hx=>by
   rw[tO_] at hx
   simp only[List.mem_cons,List.mem_append,List.not_mem_nil,or_false] at hx⊢
   rcases hx with hx|hx|hx|hx <;> simp[hx])).set (B:=X3) (i:=5) hx.1 (fun x hx'=>by
    rcases List.mem_cons.1 hx' with rfl|hx'
    ·exact hx.2.1
    ·obtain⟨e,he,rfl⟩:=List.mem_map.1 hx'
     exact(hxe e he).1) rfl v9
  rw[List.length_append,tN_]
  show OsAt _ _ _ (ie.length+1) (inkV ie++[.int .i64 cd,.slice (some ⟨gc,0,none⟩) cl.length cc]) _ _ _
  rw[hnp]
  exact h11
 ·exact((aM_ ((Below.refl _ _).alloc (Nat.le_refl _) _)).trans (KeepsOthers.of_grownBy hg (iT_ h8.own))).trans (KeepsOthers.setCell _ _ _)
theorem aOW {f:Fr} (hf:FrOk f) (l:List Pl):(pixP hf).map (fun x=>aS_ l x.1)=inkL f l:=by
 have:=congrArg (List.map (aS_ l)) (aJY hf)
 rw[List.map_map] at this
 rw[show(pixP hf).map (fun x=>aS_ l x.1)=(pixP hf).map (aS_ l∘(·.1)) from rfl,this]
 unfold pixL inkL
 rw[List.map_map]
 rfl
theorem vH_ {w wr:World} {sa:Option Addr} {sn sc i X3 X4:Nat} {ss:List Sh} {f:Fr} {vI:Value} {ie:List (Ik×Nat×Nat)} (v:Nat→Value) (ds:List Deferred)
  (HI:Hid (IOps w∧FrOp w)) (HF:Hid (FrOk f)) (HS:Hid (ShsAt sa ss w)) (HL:Hid (ss.length=sn)) (hn:sn≤20) (HO:Hid (∀s∈ss,okSh s=true)) (HA:Hid (∀(i:Nat) (a b:Sh),ss[i]?=some a→ss[i+1]?=some b→a.code<b.code))
  (h0:v 0=.slice sa sn sc) (h3:v 3=.pointer (some ⟨X3,0,none⟩)) (h30:v 30=.slice sa sn sc) (h31:v 31=.int .i64 (sn:Int)) (h32:v 32=.int .i64 (i:Int)) (hlt:i<sn)
  (H:Hid (OsAt 79 2 vI ie.length (inkV ie) ((X3,frC f vI)::(X4,frC ⟨0,0,0,0,0⟩ (.slice none 0 0))::inkR ie) w wr)) (HP:Hid (ie.map (·.1)=aF_ f (ss.take i))) (HD:Hid (w.heap.size≤X3∧X3≠X4∧∀e∈ie,X3≠e.2.1∧e.1.cells.length≤e.2.2∧w.heap.size≤e.2.1)) (Q0:Exit→Act→World→Prop)
  (hend:∀(ys:List Value) (D:Nat) (W:World) (vI:Value) (ie:List (Ik×Nat×Nat)),ys.length=89→(ys[0]?=Option.some (v 0)∧ys[3]?=Option.some (v 3)∧ys[4]?=Option.some (v 4)∧ys[5]?=Option.some (v 5)∧ys[30]?=Option.some (v 30)∧ys[31]?=Option.some (v 31))→ys[32]?=Option.some (.int .i64 ((i:Int)+1))→
   OsAt 79 2 vI ie.length (inkV ie) ((X3,frC f vI)::(X4,frC ⟨0,0,0,0,0⟩ (.slice none 0 0))::inkR ie) w W→ie.map (·.1)=aF_ f (ss.take (i+1))→(w.heap.size≤X3∧X3≠X4∧∀e∈ie,X3≠e.2.1∧e.1.cells.length≤e.2.2∧w.heap.size≤e.2.1)→W.heap[D]?=Option.some (.deferred (Option.some []))→wr.heap.size≤D→KeepsOthers wr W→Q0 .normal ⟨ys.toArray,{ target:=.collected D,args:=#[] } :: ds⟩ W) :
  oQ_.wpIn Fence.wide 3 Tryz.prog Q0 ⟨[v 0,v 1,v 2,v 3,v 4,v 5,v 6,v 7,v 8,v 9,v 10,v 11,v 12,v 13,v 14,v 15,v 16,v 17,v 18,v 19,v 20,v 21,v 22,v 23,v 24,v 25,v 26,v 27,v 28,v 29,v 30,v 31,v 32,v 33,v 34,v 35,v 36,v 37,v 38,v 39,v 40,v 41,v 42,v 43,v 44,v 45,v 46,v 47,v 48,v 49,v 50,v 51,v 52,v 53,v 54,v 55,v 56,v 57,v 58,v 59,v 60,v 61,v 62,v 63,v 64,v 65,v 66,v 67,v 68,v 69,v 70,v 71,v 72,v 73,v 74,v 75,v 76,v 77,v 78,v 79,v 80,v 81,v 82,v 83,v 84,v 85,v 86,v 87,v 88].toArray,ds⟩ wr:=by
 have HEND:=hid hend
 have HIE:=hid (show ie.length≤20 by
  have h1:=congrArg List.length HP.out
  rw[List.length_map] at h1
  have h2:(aF_ f (ss.take i)).length≤(ss.take i).length:=List.length_filterMap_le _ _
  rw[List.length_take] at h2
  omega)
 have HX3:=hid (show X3<wr.heap.size from(H.out.az.row (X3,frC f vI) (by simp)).sz)
 have H0:=hid (show PnAt vI ie ((X3,frC f vI)::(X4,frC ⟨0,0,0,0,0⟩ (.slice none 0 0))::inkR ie) w wr wr from⟨H.out,KeepsOthers.refl _⟩)
 obtain⟨s,hs⟩:∃s,ss[i]?=Option.some s:=⟨ss[i]'(by have:=HL.out;omega),List.getElem?_eq_getElem _⟩
 obtain⟨b,of,rfl,hbl,hcs⟩:=HS.out.row i s hs
 have HC:=hid (show ∀(j:Nat) (u:Value),(shC s)[j]?=Option.some u→wr.cell? ⟨b,of+i*11+j,none⟩=Option.some u from fun j u hu=>(World.cell?_of_block (w:=w) (H.out.az.bw.block b hbl)).trans (hcs j u hu))
 have c0:wr.cell? ⟨b,of+i*11,none⟩=Option.some (.int .i64 s.code):=HC.out 0 _ rfl
 have c1:=HC.out 1 _ rfl
 have c2:=HC.out 2 _ rfl
 have c3:=HC.out 3 _ rfl
 have c4:=HC.out 4 _ rfl
 have c5:=HC.out 5 _ rfl
 have c6:=HC.out 6 _ rfl
 have c7:=HC.out 7 _ rfl
 have c8:=HC.out 8 _ rfl
 have c9:=HC.out 9 _ rfl
 have c10:=HC.out 10 _ rfl
 have i1:(0:Int)≤(i:Int):=by omega
 have i2:(i:Int)<(sn:Int):=by omega
 have i3:decide ((i:Int)<(sn:Int))=true:=decide_eq_true i2
 have gi:IntKind.i64.wrap ((i:Int)+1)=(i:Int)+1:=IntWalk.i64_in _ (by omega)
 have hok:=HO.out s (List.mem_of_getElem? hs)
 have HOL:=hid (jQ_ hok)
 have HTK:=hid (show aF_ f (ss.take (i+1))=aF_ f (ss.take i)++(inkO f s).toList by rw[List.take_add_one,hs];unfold aF_;rw[List.filterMap_append];congr 1)
 have HOS:=hid (show inkO f s=if 0<sumL (inkL f (outL s)) then Option.some ⟨s.code,inkL f (outL s)⟩ else none from rfl)
 have K1:=hid (fun W=>tD_ hok W)
 generalize outL s=l at HOL K1 HOS
 obtain⟨nl,hnl⟩:∃nl,nl=l.length:=⟨_,rfl⟩
 have HNL:=hid hnl
 rw[←hnl] at K1
 obtain⟨p,t,hpt⟩:∃p t,l=p::t:=by
  cases h:l with
  | nil=>exact absurd h HOL.out.ne
  | cons p t=>exact⟨p,t,rfl⟩
 have HPT:=hid hpt
 have K2:=hid (fun(g c:Nat) (W:World) (h:PsAt g l W)=>by
  have:=aMF (B:=g) (cap:=c) (n:=nl) (p:=p) (l:=t) (by rw[hnl,hpt]) (by rw[←hpt];exact HOL.out.few) W (by rw[←hpt];exact h)
  exact this)
 have HPREV:=hid (show i=0∨∃(q:Int) (k:Nat),i=k+1∧w.cell? ⟨b,of+k*11,none⟩=Option.some (.int .i64 q)∧q<s.code by
  rcases Nat.eq_zero_or_pos i with h|h
  ·exact .inl h
  ·obtain⟨k,rfl⟩:∃k,i=k+1:=⟨i-1,by omega⟩
   obtain⟨a,ha⟩:∃a,ss[k]?=Option.some a:=⟨ss[k]'(by have:=HL.out;omega),List.getElem?_eq_getElem _⟩
   obtain⟨b',of',e',hb',hca⟩:=HS.out.row k a ha
   injection e' with e'
   injection e' with e1 e2
   subst e1 e2
   exact .inr ⟨a.code,k,rfl,hca 0 _ rfl,HA.out k a s ha hs⟩)
 have HBL:=hid hbl
 clear hend hs hcs hok hnl hpt hbl H
 rw[h0,h3,h30,h31,h32]
 have HV:=hid (And.intro h0 (And.intro h3 (And.intro h30 (And.intro h31 h32))))
 clear h0 h3 h30 h31 h32
 unfold oQ_
 conv=>arg 4;whnf
 dsimp only
 gi_wp2_with (first
  | (refine⟨trivial,?_⟩;gi_at_call 48;(with_reducible refine(callsIn_wide.2 (K1.out _)).mono ?_);rintro e u1 ⟨g8,k8,rfl,hg,hb⟩;have H1:=hid (((H0.out.push (shC s) 63).below hb).push [.slice (some ⟨g8,0,none⟩) nl k8] 27);have G1:=hid hg;clear hb hg)
  | fail)
 obtain⟨X7,hX7⟩:∃X,X=wr.heap.size:=⟨_,rfl⟩
 obtain⟨X8,hX8⟩:∃X,X=u1.heap.size:=⟨_,rfl⟩
 obtain⟨W8,hW8⟩:∃W,W=u1.alloc (.cells #[.slice (some ⟨g8,0,none⟩) nl k8] 27):=⟨_,rfl⟩
 have H2:=hid (show PnAt vI ie ((X8,[.slice (some ⟨g8,0,none⟩) nl k8])::(X7,shC s)::(X3,frC f vI)::(X4,frC ⟨0,0,0,0,0⟩ (.slice none 0 0))::inkR ie) w wr W8 from by rw[hX8,hX7,hW8];exact H1.out)
 have G2:=hid (show PsAt g8 l W8 from by rw[hW8];exact G1.out.below ((Below.refl _ _).alloc (Nat.le_refl _) _))
 have HWR:=hid (show wr.heap.size≤X7 from by rw[hX7];exact Nat.le_refl _)
 rw[←hX7,←hX8,←hW8]
 clear hX7 hX8 hW8 H0 H1 G1 K1 c0 c1 c2 c3 c4 c5 c6 c7 c8 c9 c10
 gi_cut [58] from 42 (fun v58 wX=>v58=.bool false∧PnAt vI ie ((X8,[.slice (some ⟨g8,0,none⟩) nl k8])::(X7,shC s)::(X3,frC f vI)::(X4,frC ⟨0,0,0,0,0⟩ (.slice none 0 0))::inkR ie) w wr wX∧PsAt g8 l wX)
 case first=>
  rcases HPREV.out with hz|⟨q,k,hk,hq,hlt2⟩
  ·have z1:¬0<i:=by omega
   have z2:decide ((0:Int)<(i:Int))=false:=decide_eq_false (by omega)
   clear hz
   refine wpIn_region_quiet_below rfl (by kernel_rfl) (by kernel_rfl) ?_
   repeat (gi_big_quiet_step (fail))
   refine wpQuietIn_nil ?_
   intro W2 hw2
   have hb2:Below W8.heap.size W8 W2:=by obtain⟨⟨dq,osq⟩,hw7⟩:=hw2;rw[hw7];exact below_regrown W8 dq osq
   gi_wp2
   go_meet
   exact⟨rfl,H2.out.below hb2,G2.out.below hb2⟩
  ·have z1:0<i:=by omega
   have z2:decide ((0:Int)<(i:Int))=true:=decide_eq_true (by omega)
   have z3:IntKind.i64.wrap ((i:Int)-1)=(k:Int):=by rw[IntWalk.i64_in _ (by omega)];omega
   have z4:(0:Int)≤(k:Int):=by omega
   have z5:(k:Int)<(sn:Int):=by omega
   have z6:decide (s.code≤q)=false:=decide_eq_false (by omega)
   have z7:¬s.code≤q:=by omega
   have x0:=cell_regrown ((H2.out.os.az.at (B:=X7) (l:=shC s) (by simp)).row 0 _ rfl)
   have x1:=cell_regrown ((World.cell?_of_block (w:=w) (H2.out.os.az.bw.block b HBL.out)).trans hq)
   clear hk hq hlt2
   refine wpIn_region_quiet_below rfl (by kernel_rfl) (by kernel_rfl) ?_
   repeat (gi_big_quiet_step (fail))
   refine wpQuietIn_nil ?_
   intro W2 hw2
   have hb2:Below W8.heap.size W8 W2:=by obtain⟨⟨dq,osq⟩,hw7⟩:=hw2;rw[hw7];exact below_regrown W8 dq osq
   gi_wp2
   go_meet
   exact⟨rfl,H2.out.below hb2,G2.out.below hb2⟩
 case rest=>
  obtain⟨rfl,hN,hg⟩:=hcut
  obtain⟨ia,ic,rfl,_⟩:=CsAt.own hN.os
  have H3:=hid hN
  have G3:=hid hg
  have x8:=(hN.os.az.at (B:=X8) (l:=[.slice (some ⟨g8,0,none⟩) nl k8]) (by simp)).row 0 _ rfl
  clear hN hg H2 G2 HPREV
  gi_wp2_with (first
   | (refine⟨trivial,?_⟩;gi_at_call 21;(with_reducible refine(callsIn_wide.2 (K2.out _ _ _ G3.out)).mono ?_);rintro e u2 ⟨rfl,hb⟩;have K2B:=hid hb;have H4:=hid (((H3.out.below hb).push [.int .i64 (aA_ p t).x,.int .i64 (aA_ p t).y,.int .i64 (aA_ p t).w,.int .i64 (aA_ p t).h] 29).push [.slice none 0 0] 77);have G4:=hid (G3.out.below hb);clear hb x8;have h_:=H4.out.os.az.at (B:=X3) (l:=frC f (.slice ia ie.length ic)) (by simp);have y0:=h_.row 0 _ rfl;have y1:=h_.row 1 _ rfl;have y2:=h_.row 2 _ rfl;have y3:=h_.row 3 _ rfl;have y4:=h_.row 4 _ rfl;have y5:=h_.row 5 _ rfl;clear h_)
   | (refine⟨trivial,?_⟩;gi_at_call 105;refine(aEI Fence.wide _ trivial rfl f _ _ _ _).mono ?_;rintro e w' ⟨rfl,rfl⟩)
   | fail)
  obtain⟨X10,hX10⟩:∃X,X=u2.heap.size:=⟨_,rfl⟩
  obtain⟨W10,hW10⟩:∃W,W=u2.alloc (.cells #[.int .i64 (aA_ p t).x,.int .i64 (aA_ p t).y,.int .i64 (aA_ p t).w,.int .i64 (aA_ p t).h] 29):=⟨_,rfl⟩
  have hs10:W10.heap.size=X10+1:=by rw[hW10,hX10];simp
  obtain⟨W0,hW0⟩:∃W,W=(W10.alloc (.cells #[.slice none 0 0] 77)).alloc (.cells (frC f (.slice ia ie.length ic)).toArray 58):=⟨_,rfl⟩
  have hsz0:W0.heap.size=X10+3:=by rw[hW0];simp[hs10]
  have H5:=hid (show PnAt (.slice ia ie.length ic) ie ((X10,[.int .i64 (aA_ p t).x,.int .i64 (aA_ p t).y,.int .i64 (aA_ p t).w,.int .i64 (aA_ p t).h])::(X8,[.slice (some ⟨g8,0,none⟩) nl k8])::(X7,shC s)::(X3,frC f (.slice ia ie.length ic))::(X4,frC ⟨0,0,0,0,0⟩ (.slice none 0 0))::inkR ie) w wr W10 from by
   rw[hW10,hX10]
   exact(H3.out.below K2B.out).push [.int .i64 (aA_ p t).x,.int .i64 (aA_ p t).y,.int .i64 (aA_ p t).w,.int .i64 (aA_ p t).h] 29)
  have G5:=hid (show PsAt g8 l W10 from by rw[hW10];exact G4.out.below ((Below.refl _ _).alloc (Nat.le_refl _) _))
  have HW0:=hid (show AzAt [(X10+1,[.slice none 0 0]),(X10+1+1,frC f (.slice ia ie.length ic))] W10 W0 from by
   have hp:=((AzAt.start W10).push [.slice none 0 0] 77).push (frC f (.slice ia ie.length ic)) 58
   simp only[World.size_alloc,hs10] at hp
   rw[hW0]
   exact hp.sub (by simp))
  rw[←hX10,←hW10,←hW0]
  clear y0 y1 y2 y3 y4 y5 H4 G4 H3 G3 K2B hX10 hW10 hW0
  refine wpIn_rangeFunc_ownH rfl (by omega) (gf:=161) (lb:=#[.pointer (some ⟨X10+1+1,0,none⟩)]) rfl trivial (enters_of Tryz.func161 (by kernel_rfl) rfl)
   (sZ_ Fence.wide _ trivial rfl (by omega) (X10+1+1) (X10+1) HF.out (.slice ia ie.length ic) W0 (fun j u hj=>(HW0.out.at (B:=X10+1+1) (l:=frC f (.slice ia ie.length ic)) (by simp)).row j u hj) (by omega) (by omega))
   aX_.trans (jS_ (by omega) (by omega)) (Below.refl _ _) (fun _=>rfl)
   (fun pre W=>∃vc,OsAt 3 1 vc pre.length (icC (pre.map fun x=>aS_ l x.1)) [(X10+1,[vc]),(X10+1+1,frC f (.slice ia ie.length ic))] W10 W)
   (fun _ _ _=>False)
   ?I (fun _ _ _ _ _ hs _ _=>hs) ?h0
   (fun x a' W=>∃A:Nat,a' = { tmps:=#[.slice (some ⟨b,of,none⟩) sn sc,v 1,v 2,.pointer (some ⟨X3,0,none⟩),v 4,v 5,.int .i64 (i:Int),.pointer (some ⟨X7,0,none⟩),.pointer (some ⟨X8,0,none⟩),.int .i64 0,.pointer (some ⟨X10,0,none⟩),.int .i64 0,.pointer (some ⟨X10+1,0,none⟩),.pointer (some ⟨A,0,none⟩),v 14,v 15,v 16,v 17,v 18,v 19,v 20,v 21,v 22,v 23,v 24,v 25,v 26,v 27,v 28,v 29,.slice (some ⟨b,of,none⟩) sn sc,.int .i64 (sn:Int),.int .i64 (i:Int),.bool true,.int .i64 (i:Int),.pointer (some ⟨b,of+i*11,none⟩),.agg #[.int .i64 s.code,.int .i64 s.kind,.int .i64 s.rect.x,.int .i64 s.rect.y,.int .i64 s.rect.w,.int .i64 s.rect.h,.int .i64 s.a.x,.int .i64 s.a.y,.int .i64 s.b.x,.int .i64 s.b.y,.string s.word],.tuple #[.slice (some ⟨g8,0,none⟩) nl k8,.int .i64 0],.agg #[.int .i64 s.code,.int .i64 s.kind,.int .i64 s.rect.x,.int .i64 s.rect.y,.int .i64 s.rect.w,.int .i64 s.rect.h,.int .i64 s.a.x,.int .i64 s.a.y,.int .i64 s.b.x,.int .i64 s.b.y,.string s.word],.tuple #[.slice (some ⟨g8,0,none⟩) nl k8,.int .i64 0],.slice (some ⟨g8,0,none⟩) nl k8,.int .i64 0,u42,u43,u44,u45,u46,u47,u48,u49,u50,u51,u52,u53,u54,u55,u56,u57,.bool false,u59,.tuple #[.agg #[.int .i64 (aA_ p t).x,.int .i64 (aA_ p t).y,.int .i64 (aA_ p t).w,.int .i64 (aA_ p t).h],.int .i64 0],.slice (some ⟨g8,0,none⟩) nl k8,.tuple #[.agg #[.int .i64 (aA_ p t).x,.int .i64 (aA_ p t).y,.int .i64 (aA_ p t).w,.int .i64 (aA_ p t).h],.int .i64 0],.agg #[.int .i64 (aA_ p t).x,.int .i64 (aA_ p t).y,.int .i64 (aA_ p t).w,.int .i64 (aA_ p t).h],.int .i64 0,.agg #[.int .i64 f.x,.int .i64 f.y,.int .i64 f.w,.int .i64 f.h,.int .i64 f.s,.slice ia ie.length ic],.func (.func 161) #[] #[.pointer (some ⟨X10+1+1,0,none⟩)],.agg #[.int .i64 x.1.x,.int .i64 x.1.y,.int .i64 x.1.w,.int .i64 x.1.h],u68,u69,u70,u71,u72,u73,u74,u75,u76,u77,u78,u79,u80,u81,u82,u83,u84,u85,u86,u87,u88],defers:=[] }∧(W.cell? ⟨A,0,none⟩=some (.int .i64 x.1.x)∧W.cell? ⟨A,1,none⟩=some (.int .i64 x.1.y)∧W.cell? ⟨A,2,none⟩=some (.int .i64 x.1.w)∧W.cell? ⟨A,3,none⟩=some (.int .i64 x.1.h)))
   ?hAx ?assign ?body ?done ?stop
  case I=>
   rintro pre A B row ⟨vc,hs⟩ hg hr
   exact⟨vc,hs.kept (by simp[frC]) hg (fun r e=>by have:=(hr r e).1;omega) (fun r e=>(hr r e).2)⟩
  case h0=>exact⟨.slice none 0 0,OsAt.nil HW0.out _ _⟩
  case hAx=>
   rintro x a' _ X Y row ⟨A,e,h1,h2,h3,h4⟩ hg hr
   have hr':∀r,row=some r→∃o:Obj,X.heap[r]?=some o∧o.isCells=false:=fun r e=>(hr r e).2
   exact⟨A,e,cell_kept h1 hg hr',cell_kept h2 hg hr',cell_kept h3 hg hr',cell_kept h4 hg hr'⟩
  case assign=>
   rintro q pre x W K ⟨vc,hI⟩ hK
   simp only[aJT]
   have HI2:=hid hI
   have HK:=hid hK
   clear hI hK
   gi_wp2
   have hsz:X10+3≤W.heap.size:=by have:=(HI2.out.az.row (X10+1+1,frC f (.slice ia ie.length ic)) (by simp)).sz;simp only at this;omega
   have hb2:Below W.heap.size W (W.alloc (.cells #[.int .i64 x.1.x,.int .i64 x.1.y,.int .i64 x.1.w,.int .i64 x.1.h] 29)):=(Below.refl _ _).alloc (Nat.le_refl _) _
   refine HK.out _ _ ((aM_ hb2).from _) (aX_.of_below hb2 (by omega) (by omega)) ⟨vc,HI2.out.below hb2⟩ ⟨W.heap.size,rfl,?_,?_,?_,?_⟩ <;> simp[go_sem]
  case body=>
   rintro q pre x a' W hl hr ⟨vc,hI⟩ ⟨A,rfl,h1,h2,h3,h4⟩ hlen
   have HI2:=hid hI
   have hw10:=hI.az.bw
   have z8:=(hw10.cell (p:=⟨X8,0,none⟩) (H5.out.os.az.at (B:=X8) (l:=[.slice (some ⟨g8,0,none⟩) nl k8]) (by simp)).sz).trans ((H5.out.os.az.at (B:=X8) (l:=[.slice (some ⟨g8,0,none⟩) nl k8]) (by simp)).row 0 _ rfl)
   have hx10:=(H5.out.os.az.at (B:=X10) (l:=[.int .i64 (aA_ p t).x,.int .i64 (aA_ p t).y,.int .i64 (aA_ p t).w,.int .i64 (aA_ p t).h]) (by simp)).sz
   have r0:=(hw10.cell (p:=⟨X10,0,none⟩) hx10).trans ((H5.out.os.az.at (B:=X10) (l:=[.int .i64 (aA_ p t).x,.int .i64 (aA_ p t).y,.int .i64 (aA_ p t).w,.int .i64 (aA_ p t).h]) (by simp)).row 0 _ rfl)
   have r1:=(hw10.cell (p:=⟨X10,1,none⟩) hx10).trans ((H5.out.os.az.at (B:=X10) (l:=[.int .i64 (aA_ p t).x,.int .i64 (aA_ p t).y,.int .i64 (aA_ p t).w,.int .i64 (aA_ p t).h]) (by simp)).row 1 _ rfl)
   have r2:=(hw10.cell (p:=⟨X10,2,none⟩) hx10).trans ((H5.out.os.az.at (B:=X10) (l:=[.int .i64 (aA_ p t).x,.int .i64 (aA_ p t).y,.int .i64 (aA_ p t).w,.int .i64 (aA_ p t).h]) (by simp)).row 2 _ rfl)
   have r3:=(hw10.cell (p:=⟨X10,3,none⟩) hx10).trans ((H5.out.os.az.at (B:=X10) (l:=[.int .i64 (aA_ p t).x,.int .i64 (aA_ p t).y,.int .i64 (aA_ p t).w,.int .i64 (aA_ p t).h]) (by simp)).row 3 _ rfl)
   have h_:=hI.az.at (B:=X10+1) (l:=[vc]) (by simp)
   have zc:=h_.row 0 _ rfl
   have zf:=h_.fz 0 (by simp)
   clear h_
   have hXW:=(hI.az.at (B:=X10+1) (l:=[vc]) (by simp)).sz
   have hbD:Below w.heap.size w W.drew:=(H5.out.os.az.bw.trans (hw10.mono H5.out.os.az.bw.size)).drew
   have hgD:PsAt g8 l W.drew:=(G5.out.below hw10).below (Below.refl _ _).drew
   have hlen2:pre.length≤400:=by have:=(qP_ HF.out).2;omega
   have K3:=hid (aLO (B:=g8) (cap:=k8) HNL.out.symm HOL.out HPT.out x.2.1 x.2.2.1 x.2.2.2 (HI.out.1.below hbD) (HI.out.2.below hbD) hgD)
   have HE:=hid (show icC ((pre++[x]).map fun x=>aS_ l x.1)=icC (pre.map fun x=>aS_ l x.1)++[.int .i64 (aS_ l x.1)] by rw[List.map_append,oY_];rfl)
   have HLN:=hid (show(pre++[x]).length=pre.length+1 by simp)
   generalize aS_ l x.1=c at K3 HE
   generalize icC (pre.map fun x=>aS_ l x.1)=xs at HI2 HE
   generalize pre.length=n at HI2 HLN hlen2
   obtain⟨i0,hi0,hz0,hz1,hz2⟩:=info_parts qU_
   clear hr hl hI hlen
   have hmx:Tryz.prog.follows .mixedOrders=true:=by kernel_rfl
   gi_wp2
   gi_region_with_o (first
    | (refine⟨trivial,?_⟩;gi_at_call 106;(with_reducible refine(CallsIn.inRound q (callsIn_wide.2 K3.out)).mono ?_);rintro e u5 ⟨rfl,hb5⟩;have HB5:=hid (((Below.refl W.heap.size W).drew).trans hb5);have y0:=(HB5.out.cell (p:=⟨X10+1,0,none⟩) hXW).trans zc;have yf:=(HB5.out.frozen (p:=⟨X10+1,0,none⟩) hXW).trans zf;have ysz:X10+1<u5.heap.size:=Nat.lt_of_lt_of_le hXW HB5.out.size;clear hb5;obtain⟨v9,w9,hr9,hown',hgrow,_,hat⟩:=run_append_own_at (P:=Tryz.prog) (u5.alloc (.cells #[.int .i64 c] 3)) W10.heap.size 77 77 3 i0 (.int .i64 0) 1 8 Tryz.underlying77 hi0 hz0 hz1 hz2 rfl (by decide) vc n xs ((HI2.out.below HB5.out).al _).own ⟨u5.heap.size,0,none⟩ 1 1 [.int .i64 c] rfl (aEX _ _ _) (by simp[Value.oneCell']) (by unfold maxLen;omega) (by omega) ((HI2.out.below HB5.out).al _).az.bw.size;have cc:=hid (mP_ hs10 HI2.out HB5.out hown' hgrow hat W0.heap.size);have h9:=((HI2.out.below HB5.out).al _).grown hown' hgrow hat;obtain⟨g9,k9,rfl⟩:=tE_ h9 (Nat.succ_pos _);have h_:=h9.az.at (B:=X10+1) (l:=[vc]) (by simp);have q0:=h_.row 0 _ rfl;have q1:=h_.fz 0 (by simp);clear h_;clear hown' hgrow hat h9;rw[rQ_] at hr9)
    | (fail;gi_at_builtin;refine wpListIn_append_own_at _ rfl _ _ 77 rfl W10.heap.size 3 i0 (.int .i64 0) 1 8 Tryz.underlying77 hi0 hz0 hz1 hz2 rfl (by decide) vc n xs rfl ((HI2.out.below HB5.out).al _).own ⟨u5.heap.size,0,none⟩ 1 1 [.int .i64 c] rfl rfl (aEX _ _ _) (by simp[Value.oneCell']) (by unfold maxLen;omega) (by omega) ((HI2.out.below HB5.out).al _).az.bw.size ?_;intro v9 w9 hown' hgrow _ hat;have cc:=hid (mP_ hs10 HI2.out HB5.out hown' hgrow hat W0.heap.size);clear hown' hgrow hat)
    | fail)
   all_goals
    gi_wp2
    refine⟨cc.out.1,cc.out.2.1,?_⟩
    simp only[HLN.out,HE.out]
    exact cc.out.2.2
  case done=>
   rintro D ys W hD rfl ⟨vc,hI⟩ hK
   rw[aOW] at hI
   obtain⟨gc,cc,rfl⟩:=tE_ hI (by rw[dV_];have:=(qP_ HF.out).1;omega)
   have hcs:=CsAt.of_ar (hI.ar rfl)
   have hbW:=hI.az.bw
   have HIK:=hid hI
   have HB:=hid (tM_ HF.out HOL.out)
   have HLC:=hid (show(inkL f l).length=(pixP HF.out).length by rw[iB_,dV_])
   obtain⟨np,hnp⟩:∃np,np=(pixP HF.out).length:=⟨_,rfl⟩
   have hnp2:1≤np∧np≤400:=by rw[hnp,dV_];exact qP_ HF.out
   rw[←hnp] at hI HIK HLC
   have K5:=hid (aJD (a:=some ⟨gc,0,none⟩) (cap:=cc) HLC.out (by omega) HB.out W hcs)
   have H6:=hid (H5.out.below hbW)
   have HDK:=hid (And.intro hK hD)
   have zc:=(hI.az.at (B:=X10+1) (l:=[.slice (some ⟨gc,0,none⟩) np cc]) (by simp)).row 0 _ rfl
   obtain⟨cl,hcl⟩:∃cl,cl=inkL f l:=⟨_,rfl⟩
   rw[←hcl] at K5 HOS HIK HB HLC
   have HSU:=hid (show 0<sumL cl∨¬0<sumL cl from Decidable.em _)
   have H3W:=HX3
   generalize sumL cl=su at K5 HOS HSU
   clear hI hcs hK hcl hnp hbW
   rcases HSU.out with hpos|hneg
   ·have e1:decide (0<su)=true:=decide_eq_true hpos
    have HO1:=hid (show inkO f s=some ⟨s.code,cl⟩ by rw[HOS.out,if_pos hpos])
    clear HOS HSU
    obtain⟨i0,hi0,hz0,hz1,hz2⟩:=info_parts lO_
    gi_wp2_with (first
     | (refine⟨trivial,?_⟩;gi_at_call 107;(with_reducible refine(callsIn_wide.2 K5.out).mono ?_);rintro e u3 ⟨rfl,hb⟩;have H7:=hid (H6.out.below hb);have HI7:=hid (HIK.out.below hb);have HB7:=hid hb;clear hb zc;have zc:=(HI7.out.az.at (B:=X10+1) (l:=[.slice (some ⟨gc,0,none⟩) np cc]) (by simp)).row 0 _ rfl;have x5:=(H7.out.os.az.at (B:=X3) (l:=frC f (.slice ia ie.length ic)) (by simp)).row 5 _ rfl;have x7:=(H7.out.os.az.at (B:=X7) (l:=shC s) (by simp)).row 0 _ rfl;obtain⟨v9,w9,hr9,hown',hgrow,_,hat⟩:=run_append_own_at (P:=Tryz.prog) (u3.alloc (.cells #[.int .i64 s.code,.slice (some ⟨gc,0,none⟩) np cc] 79)) w.heap.size 56 56 79 i0 (.agg #[.int .i64 0,.slice none 0 0]) 2 32 Tryz.underlying56 hi0 hz0 hz1 hz2 rfl (by decide) (.slice ia ie.length ic) ie.length (inkV ie) (H7.out.os.al _).own ⟨u3.heap.size,0,none⟩ 1 1 [.int .i64 s.code,.slice (some ⟨gc,0,none⟩) np cc] rfl (jK_ _ _ _ _) (by simp[Value.oneCell']) (by have:=HIE.out;unfold maxLen;omega) (by have:=HIE.out;omega) (H7.out.os.al _).az.bw.size;have HADD:=hid (aEP (X3:=X3) (X4:=X4) (f:=f) H7.out (fun _ hx=>List.mem_cons_of_mem _ (List.mem_cons_of_mem _ (List.mem_cons_of_mem _ hx))) HI7.out HLC.out (fun k hk=>(bB_ H5.out.os.own k hk).1) HD.out (by have:=HX3.out;have:=H5.out.ko.size;omega) hown' hgrow hat);have hof:=CsAt.own (H7.out.os);clear hof;obtain⟨g9,k9,rfl⟩:∃g c,v9=.slice (some ⟨g,0,none⟩) (ie.length+1) c:=tE_ ((H7.out.os.al _).grown hown' hgrow hat) (Nat.succ_pos _);have q0:=HADD.out.1.1;have q1:=HADD.out.1.2;clear hown' hgrow hat;rw[rQ_] at hr9)
     | fail)
    refine HEND.out _ D _ _ _ ?_ ?_ ?_ HADD.out.2.1 ?_ HADD.out.2.2.2 ?_ ?_ ?_
    ·rfl
    ·exact⟨congrArg Option.some HV.out.1.symm,congrArg Option.some HV.out.2.1.symm,rfl,rfl,congrArg Option.some HV.out.2.2.1.symm,congrArg Option.some HV.out.2.2.2.1.symm⟩
    ·rfl
    ·rw[List.map_append,HP.out,HTK.out,HO1.out];rfl
    ·exact HADD.out.2.2.1.same D _ ((HB7.out.block D (Array.getElem?_eq_some_iff.1 HDK.out.1).1).trans HDK.out.1) rfl
    ·have:=HDK.out.2;have:=H5.out.ko.size;omega
    ·exact H7.out.ko.trans HADD.out.2.2.1
   ·have e1:decide (0<su)=false:=decide_eq_false hneg
    have HO1:=hid (show inkO f s=none by rw[HOS.out,if_neg hneg])
    clear HOS HSU
    gi_wp2_with (first
     | (refine⟨trivial,?_⟩;gi_at_call 107;(with_reducible refine(callsIn_wide.2 K5.out).mono ?_);rintro e u3 ⟨rfl,hb⟩;have H7:=hid (H6.out.below hb);have HB7:=hid hb;clear hb zc)
     | fail)
    refine HEND.out _ D _ _ _ ?_ ?_ ?_ (H7.out.os.sub (fun _ hx=>List.mem_cons_of_mem _ (List.mem_cons_of_mem _ (List.mem_cons_of_mem _ hx)))) ?_ HD.out ?_ ?_ ?_
    ·rfl
    ·exact⟨congrArg Option.some HV.out.1.symm,congrArg Option.some HV.out.2.1.symm,rfl,rfl,congrArg Option.some HV.out.2.2.1.symm,congrArg Option.some HV.out.2.2.2.1.symm⟩
    ·rfl
    ·rw[HP.out,HTK.out,HO1.out];simp
    ·exact(HB7.out.block D (Array.getElem?_eq_some_iff.1 HDK.out.1).1).trans HDK.out.1
    ·have:=HDK.out.2;have:=H5.out.ko.size;omega
    ·exact H7.out.ko
  case stop=>
   rintro D c pre W _ _ hF
   exact hF.elim
end Go.Proofs.YtlikmmpmnaaifaaGreatDoor
namespace Go.Proofs.YtlikmmpmnaaifaaGreatDoor
open Go.RowKit Go.Shelf Go.Sort
attribute [local go_sem] Oper.semAt_some
theorem aCQ {f:Fr} {ks:List Ik} {i:Nat} {k:Ik} (hk:ks[i]?=some k):tstB f ks i=(jI_ k.code && !decide (¬(k.cells.length:Int)=f.w*f.h) && !k.cells.any offB && !(sumL k.cells==0)&&zT_ ks i):=by
 rw[pX_ hk]
 unfold inkB
 have e:(!k.cells.any offB)=k.cells.all (fun c=>decide (0≤c)&&decide (c≤4096)):=by
  rw[List.not_any_eq_all_not]
  congr 1
  funext c
  unfold offB
  rw[Bool.not_not]
 rw[←e,show(sumL k.cells==0)=decide (sumL k.cells=0) from rfl]
 simp
theorem aAZ (q1 z q2 q3 q4 q5:Bool):q1=false∨(q1=true∧z=true∧q2=true)∨(q1=true∧z=false∧q3=true)∨(q1=true∧z=true∧q2=false∧q3=true)∨(q1=true∧z=false∧q3=false∧q4=true)∨(q1=true∧z=true∧q2=false∧q3=false∧q4=true)∨
  (q1=true∧z=false∧q3=false∧q4=false∧q5=true)∨(q1=true∧z=true∧q2=false∧q3=false∧q4=false∧q5=true)∨(q1=true∧z=false∧q3=false∧q4=false∧q5=false)∨(q1=true∧z=true∧q2=false∧q3=false∧q4=false∧q5=false):=by
 cases q1 <;> cases z <;> cases q2 <;> cases q3 <;> cases q4 <;> cases q5 <;> simp
theorem gJ_ {f:Fr} {a:Option Addr} {n c:Nat} {ks:List Ik} (hl:ks.length=n) (w:World) (h:InksAt a ks w) :
  Calls Tryz.prog 53 #[.agg #[.int .i64 f.x,.int .i64 f.y,.int .i64 f.w,.int .i64 f.h,.int .i64 f.s,.slice a n c]] w fun e w'=>e=.returned (.bool (bK_ f ks))∧Below w.heap.size w w':=by
 have K0:=hid (fun W=>qW_ f a n c W)
 have H0:=hid ((AzAt.start w).push (frC f (.slice a n c)) 58)
 have HL:=hid hl
 have HP:=hid h
 clear hl h
 cases hf:frB f with
 | false=>
  rw[show bK_ f ks=false by unfold bK_;rw[hf];rfl]
  rw[hf] at K0
  clear hf HP HL
  go_enter Tryz.func53,Tryz.ntmps53
  go_wp2_with (go_at_call 104;(with_reducible refine(K0.out _).mono ?_);rintro e u1 ⟨rfl,hb⟩;have H1:=hid (H0.out.below hb);clear hb)
  go_ret
  exact⟨rfl,H1.out.bw⟩
 | true=>
 by_cases h20:n≤20
 case neg=>
  rw[show bK_ f ks=false by unfold bK_;rw[hf,HL.out,decide_eq_false h20];rfl]
  rw[hf] at K0
  have n1:(20:Int)<(n:Int):=by omega
  have n2:decide ((n:Int) > 20)=true:=decide_eq_true n1
  have n3:20<n:=by omega
  clear hf HP HL
  go_enter Tryz.func53,Tryz.ntmps53
  go_wp2_with (go_at_call 104;(with_reducible refine(K0.out _).mono ?_);rintro e u1 ⟨rfl,hb⟩;have H1:=hid (H0.out.below hb);clear hb;have x5:=(H1.out.at (B:=w.heap.size) (l:=frC f (.slice a n c)) (by simp)).row 5 _ rfl)
  go_ret
  exact⟨rfl,H1.out.bw⟩
 have HF:=hid (nG_.1 hf)
 have HF0:=hid hf
 rw[hf] at K0
 have n2:decide ((n:Int) > 20)=false:=decide_eq_false (by omega)
 have n3:¬(20:Int)<(n:Int):=by omega
 have hmx:Tryz.prog.follows .mixedOrders=true:=by kernel_rfl
 clear hf
 go_enter Tryz.func53,Tryz.ntmps53
 go_wp2_with (go_at_call 104;(with_reducible refine(K0.out _).mono ?_);rintro e u1 ⟨rfl,hb⟩;have H1:=hid (H0.out.below hb);clear hb;have x5:=(H1.out.at (B:=w.heap.size) (l:=frC f (.slice a n c)) (by simp)).row 5 _ rfl)
 clear x5 n2 n3
 go_loopw [18] (fun v18 wr=>∃i:Nat,i≤n∧v18=.int .i64 (i:Int)∧(∀j,j<i→tstB f ks j=true)∧AzAt [(w.heap.size,frC f (.slice a n c))] w wr) (fun v18 _=>n-(intOf v18).toNat)
 case atStart=>exact⟨0,Nat.zero_le _,rfl,fun j hj=>absurd hj (by omega),H1.out⟩
 case round=>
  obtain⟨i,hi,rfl,ht,hw⟩:=hrel
  have HT:=hid ht
  have HW:=hid hw
  clear ht hw
  by_cases hlt:i<n
  case neg=>
   obtain rfl:i=n:=by omega
   have HV:=hid (wZ_ HF0.out (by rw[HL.out];omega) (by rw[HL.out];exact HT.out))
   go_wp2
   go_ret
   exact⟨aN_ HV.out.symm,HW.out.bw⟩
  obtain⟨k,hk⟩:∃k,ks[i]?=some k:=⟨ks[i]'(by rw[HL.out];exact hlt),List.getElem?_eq_getElem _⟩
  obtain⟨b,o,ca,cc,rfl,hbl,c0,c1,hcs,_⟩:=(HP.out.below HW.out.bw).row i k hk
  have HPR:=hid (show i=0∨∃(j:Nat) (p:Ik),i=j+1∧ks[j]?=some p∧wr.cell? ⟨b,o+j*2,none⟩=some (.int .i64 p.code) by
   rcases Nat.eq_zero_or_pos i with h|h
   ·exact .inl h
   ·obtain⟨j,rfl⟩:∃j,i=j+1:=⟨i-1,by omega⟩
    obtain⟨p,hp⟩:∃p,ks[j]?=some p:=⟨ks[j]'(by rw[HL.out];omega),List.getElem?_eq_getElem _⟩
    obtain⟨b',o',_,_,e',_,g0,_⟩:=(HP.out.below HW.out.bw).row j p hp
    injection e' with e'
    injection e' with e1 e2
    subst e1 e2
    exact .inr ⟨j,p,rfl,hp,g0⟩)
  have HTS:=hid (aCQ (f:=f) hk)
  obtain⟨m,hm⟩:∃m,m=k.cells.length:=⟨_,rfl⟩
  have HM:=hid hm.symm
  rw[←hm] at c1
  obtain⟨z,hz⟩:∃z,z=decide (0<i):=⟨_,rfl⟩
  obtain⟨q1,h1⟩:∃q,q=jI_ k.code:=⟨_,rfl⟩
  obtain⟨q2,h2⟩:∃q,q = !zT_ ks i:=⟨_,rfl⟩
  obtain⟨q3,h3⟩:∃q,q=((m:Int) != f.w*f.h):=⟨_,rfl⟩
  obtain⟨q4,h4⟩:∃q,q=k.cells.any offB:=⟨_,rfl⟩
  obtain⟨q5,h5⟩:∃q,q=(sumL k.cells==0):=⟨_,rfl⟩
  have HQ:=hid (show tstB f ks i=(q1 && !q3 && !q4 && !q5 && !(z&&q2)) by
   have ez:(z&&q2)=q2:=by
    rcases HPR.out with e|⟨j,_,e,_⟩
    ·have e2:q2=false:=by rw[h2,e];rfl
     rw[e2,Bool.and_false]
    ·have e1:z=true:=by rw[hz,e];exact decide_eq_true (by omega)
     rw[e1,Bool.true_and]
   rw[ez,HTS.out,h1,h2,h3,h4,h5,Bool.not_not,HM.out]
   congr 4
   rw[Bool.eq_iff_iff]
   simp)
  have HG:=hid (show z=true→∃(j:Nat) (pc:Int),IntKind.i64.wrap ((i:Int)-1)=(j:Int)∧(j:Int)<(n:Int)∧wr.cell? ⟨b,o+j*2,none⟩=some (.int .i64 pc)∧decide (k.code≤pc)=q2 by
   intro ez
   rcases HPR.out with e|⟨j,p,rfl,hp,g⟩
   ·rw[e] at hz;rw[hz] at ez;cases ez
   ·refine⟨j,p.code,by rw[IntWalk.i64_in _ (by omega)];omega,by omega,g,?_⟩
    rw[h2,pY_ hp hk,Bool.eq_iff_iff]
    simp)
  have hnp:=mU_ HF.out
  have hnb:=qP_ HF.out
  have e3:IntKind.i64.wrap (f.w*f.h)=f.w*f.h:=IntWalk.i64_in _ (by omega)
  have K1:=hid (fun W=>by have:=yN_ k.code W;rw[←h1] at this;exact this)
  have HC:=hid hcs
  have H3:=hid h3
  have HZ:=hid hz
  have HM2:=hid (show q3=false→m≤400 by
   intro e
   rw[h3] at e
   have:(m:Int)=f.w*f.h:=by simpa using e
   omega)
  have K4:=hid (show ∀W,CsAt ca (icC k.cells) W→q3=false→Calls Tryz.prog 122 #[.slice ca m cc,.func (.func 121) #[] #[]] W fun e w'=>e=.returned (.bool q4)∧Below W.heap.size W w' by
   intro W hW e
   rw[h4]
   exact wJ_ HM.out (by have:=HM2.out e;omega) W hW)
  obtain⟨su,hsu⟩:∃su,su=sumL k.cells:=⟨_,rfl⟩
  have K5:=hid (show ∀W,CsAt ca (icC k.cells) W→q3=false→q4=false→Calls Tryz.prog 107 #[.slice ca m cc] W fun e w'=>e=.returned (.int .i64 su)∧Below W.heap.size W w' by
   intro W hW e e4
   rw[hsu]
   refine aJD HM.out (by have:=HM2.out e;omega) (fun x hx=>?_) W hW
   rw[h4] at e4
   have:=List.any_eq_false.1 e4 x hx
   unfold offB at this
   simpa using this)
  have H5:=hid (show(su==0)=q5 by rw[h5,hsu])
  obtain⟨kc,hkc⟩:∃kc,kc=k.code:=⟨_,rfl⟩
  rw[←hkc] at c0 K1 HG
  clear hm h1 h2 h3 h4 h5 hz hcs hk hkc hsu hnp hnb
  go_wp2
  obtain⟨W0,hW0⟩:∃W0,W0=wr.alloc (.cells #[.int .i64 kc,.slice ca m cc] 79):=⟨_,rfl⟩
  have H2:=hid (show AzAt [(wr.heap.size,[.int .i64 kc,.slice ca m cc]),(w.heap.size,frC f (.slice (some ⟨b,o,none⟩) n c))] w W0 from by rw[hW0];exact HW.out.push [.int .i64 kc,.slice ca m cc] 79)
  have HB0:=hid (show Below wr.heap.size wr W0 from by rw[hW0];exact(Below.refl _ _).alloc (Nat.le_refl _) _)
  have HC2:=hid (HC.out.below HB0.out)
  have HG2:=hid (show z=true→∃(j:Nat) (pc:Int),IntKind.i64.wrap ((i:Int)-1)=(j:Int)∧(j:Int)<(n:Int)∧W0.cell? ⟨b,o+j*2,none⟩=some (.int .i64 pc)∧decide (kc≤pc)=q2 from fun ez=>by
   obtain⟨j,pc,g1,g2,g3,g4⟩:=HG.out ez
   exact⟨j,pc,g1,g2,(HB0.out.cell (p:=⟨b,o+j*2,none⟩) hbl).trans g3,g4⟩)
  rw[←hW0]
  clear hW0 c0 c1 HG
  have h_:=H2.out.at (B:=wr.heap.size) (l:=[.int .i64 kc,.slice ca m cc]) (by simp)
  have x0:=cell_regrown (h_.row 0 _ rfl)
  have x1:=cell_regrown (h_.row 1 _ rfl)
  clear h_
  have h_:=H2.out.at (B:=w.heap.size) (l:=frC f (.slice (some ⟨b,o,none⟩) n c)) (by simp)
  have y2:=cell_regrown (h_.row 2 _ rfl)
  have y3:=cell_regrown (h_.row 3 _ rfl)
  have y5:=cell_regrown (h_.row 5 _ rfl)
  clear h_
  have d1:=fun d os=>Calls.regrown_of (d:=d) (os:=os) (K1.out (grow (redrawn W0 d) os))
  have d4:=fun d os e=>Calls.regrown_of (d:=d) (os:=os) (K4.out (grow (redrawn W0 d) os) (HC2.out.below (below_regrown W0 d os)) e)
  have d5:=fun d os e e4=>Calls.regrown_of (d:=d) (os:=os) (K5.out (grow (redrawn W0 d) os) (HC2.out.below (below_regrown W0 d os)) e e4)
  have j1:(0:Int)≤(i:Int):=by omega
  rcases aAZ q1 z q2 q3 q4 q5 with rfl|⟨rfl,rfl,rfl⟩|⟨rfl,rfl,rfl⟩|⟨rfl,rfl,rfl,rfl⟩|⟨rfl,rfl,rfl,rfl⟩|⟨rfl,rfl,rfl,rfl,rfl⟩|⟨rfl,rfl,rfl,rfl,rfl⟩|⟨rfl,rfl,rfl,rfl,rfl,rfl⟩|⟨rfl,rfl,rfl,rfl,rfl⟩|⟨rfl,rfl,rfl,rfl,rfl,rfl⟩
  all_goals
   have t3:=H3.out.symm
   have t5:=H5.out
   have tz:=HZ.out.symm
   try
    have G:=HG2.out rfl
    obtain⟨j,pc,g1,g2,g3,g4⟩:=G
    replace g3:=cell_regrown g3
   refine wp_region_quiet_below (by kernel_rfl) (by kernel_rfl) ?_
   repeat (go_big_quiet_step (with_reducible first|exact d1 _ _|exact d4 _ _ rfl|with_reducible exact d5 _ _ rfl rfl))
   refine wpQuiet_nil ?_
   intro W2 hw2
   have hb2:Below W0.heap.size W0 W2:=by obtain⟨⟨dq,osq⟩,hw7⟩:=hw2;rw[hw7];exact below_regrown W0 dq osq
   have H4:=hid ((H2.out.below hb2).sub (L':=[(w.heap.size,frC f (.slice (some ⟨b,o,none⟩) n c))]) (by simp))
   clear hw2 hb2
  all_goals
   go_wp2
   first
    | (go_ret
       exact⟨aN_ (aIR (by rw[HL.out];exact hlt) (by rw[HQ.out];simp)).symm,H4.out.bw⟩)
    | exact⟨⟨i+1,by omega,by go_num,fun j hj=>by
      rcases Nat.lt_succ_iff_lt_or_eq.1 hj with hj|rfl
      ·exact HT.out j hj
      ·rw[HQ.out];rfl,H4.out⟩,by simp only[intOf];omega⟩
def gA_ (ks:List Ik) (i:Nat):List Sn:=(ks.zipIdx.take i).flatMap fun e=>rowL e.2 e.1 ks.zipIdx
def rowI (ks:List Ik) (i:Nat) (a:Ik) (k:Nat):List Sn:=rowL i a (ks.zipIdx.take k)
theorem rT_ {ks:List Ik} {i:Nat} {a:Ik} (h:ks[i]?=some a):ks.zipIdx[i]?=some (a,i):=by
 rw[List.getElem?_zipIdx,h]
 simp
theorem zZ_ {ks:List Ik} {i:Nat} {a:Ik} (h:ks[i]?=some a):gA_ ks (i+1)=gA_ ks i++rowI ks i a ks.length:=by
 unfold gA_ rowI
 rw[List.take_add_one,rT_ h,List.flatMap_append,List.take_of_length_le (show ks.zipIdx.length≤ks.length by simp)]
 simp
theorem aDV {ks:List Ik} : gA_ ks ks.length=eT_ ks:=by
 unfold gA_ eT_
 rw[List.take_of_length_le (by simp)]
theorem sR_ {ks:List Ik} {i k:Nat} {a b:Ik} (h:ks[k]?=some b):rowI ks i a (k+1)=rowI ks i a k++(if i=k then [] else kV_ i k a b):=by
 unfold rowI rowL
 rw[List.take_add_one,rT_ h,List.flatMap_append]
 simp
theorem aDQ (i k:Nat) (a b:Ik):(kV_ i k a b).length≤2:=by
 unfold kV_
 rw[List.length_append]
 split <;> split <;> simp
theorem lH_ (i:Nat) (a:Ik):∀l:List (Ik×Nat),(rowL i a l).length≤2*l.length
 | []=>by simp[rowL]
 | e::l=>by
  have:=lH_ i a l
  unfold rowL at this⊢
  rw[List.flatMap_cons,List.length_append,List.length_cons]
  have h2:=aDQ i e.2 a e.1
  split
  ·rw[List.length_nil];omega
  ·omega
theorem aJK (ks:List Ik) (i:Nat) (a:Ik) (k:Nat) (h:ks.length≤20):(rowI ks i a k).length≤40:=by
 have:=lH_ i a (ks.zipIdx.take k)
 have h2:(ks.zipIdx.take k).length≤ks.length:=by rw[List.length_take,List.length_zipIdx];omega
 unfold rowI
 omega
theorem rA_ {α:Type} (f:α→List Sn) (M:Nat) (h:∀x,(f x).length≤M):∀l:List α,(l.flatMap f).length≤M*l.length
 | []=>by simp
 | x::l=>by
  rw[List.flatMap_cons,List.length_append,List.length_cons,Nat.mul_add,Nat.mul_one]
  have h1:=h x
  have h2:=rA_ f M h l
  omega
theorem aDU (ks:List Ik) (i:Nat) (h:ks.length≤20):(gA_ ks i).length≤800:=by
 have:=rA_ (fun e:Ik×Nat=>rowL e.2 e.1 ks.zipIdx) 40 (fun e=>by have:=lH_ e.2 e.1 ks.zipIdx;rw[List.length_zipIdx] at this;omega) (ks.zipIdx.take i)
 have h2:(ks.zipIdx.take i).length≤20:=by rw[List.length_take,List.length_zipIdx];omega
 unfold gA_
 omega
theorem lB_ {a b:List Int} {n:Nat} {x y:Int} (ha:a[n]?=some x) (hb:b[n]?=some y):(a.take (n+1)).zip (b.take (n+1))=(a.take n).zip (b.take n)++[(x,y)]:=by
 rw[List.take_add_one,List.take_add_one,ha,hb]
 have h1:=(List.getElem?_eq_some_iff.1 ha).1
 have h2:=(List.getElem?_eq_some_iff.1 hb).1
 rw[List.zip_append (by rw[List.length_take,List.length_take];omega)]
 rfl
theorem anySn {α:Type} (p:α→Bool) (l:List α) (x:α):(l++[x]).any p=(l.any p||p x):=by simp
theorem allSn {α:Type} (p:α→Bool) (l:List α) (x:α):(l++[x]).all p=(l.all p&&p x):=by simp
structure AccAt (A B:List Int) (m:Nat) (o s i w:Bool):Prop where
 o:o=aAI (A.take m) (B.take m)
 s:s=sH_ (A.take m) (B.take m)
 i:i=zP_ (A.take m) (B.take m)
 w:w=rV_ (A.take m) (B.take m)
theorem AccAt.next {A B:List Int} {m:Nat} {o s i w:Bool} (h:AccAt A B m o s i w) {x y:Int} (hx:A[m]?=some x) (hy:B[m]?=some y):AccAt A B (m+1) (o||(decide (0<x)&&decide (0<y))) (s||decide (4096<x+y)) (i&&decide (y≤x+1)) (w&&(decide (y=0)||decide (x=4096))):=by
 obtain⟨h1,h2,h3,h4⟩:=h
 constructor
 ·unfold aAI;rw[lB_ hx hy,anySn,h1];rfl
 ·unfold sH_;rw[lB_ hx hy,anySn,h2];rfl
 ·unfold zP_;rw[lB_ hx hy,allSn,h3];rfl
 ·unfold rV_;rw[lB_ hx hy,allSn,h4];rfl
theorem OsAt.cast {e:TypeId} {s n n':Nat} {v:Value} {xs xs':List Value} {R:List (Nat×List Value)} {w W:World} (h:OsAt e s v n xs R w W) (hn:n'=n) (hx:xs'=xs):OsAt e s v n' xs' R w W:=hn▸hx▸h
theorem lP_ (W:World) (a b c d:Value) (e:TypeId):∀j u,([a,b,c,d]:List Value)[j]?=some u→(W.alloc (.cells #[a,b,c,d] e)).cell? ((⟨W.heap.size,0,none⟩:Addr).add j)=some u:=fun j u hj=>by
 match j,hj with
 | 0,hj=>cases hj;simp[Addr.add]
 | 1,hj=>cases hj;simp[Addr.add]
 | 2,hj=>cases hj;simp[Addr.add]
 | 3,hj=>cases hj;simp[Addr.add]
 | j+4,hj=>simp at hj
theorem aFO:(Tryz.prog.info? 75).map (fun i=>(i.zero,i.size,i.bytes))=some (some (.agg #[.int .i64 0,.int .i64 0,.int .i64 0,.bool false]),4,32):=by kernel_rfl
def aMJ (l:List Sn) (w:World) (e:Ending) (W':World):Prop:=∃a c,e=.returned (.tuple #[.slice a l.length c,.int .i64 0])∧CsAt a (seC l) W'∧Below w.heap.size w W'
theorem aMT {f:Fr} {a:Option Addr} {n c:Nat} {ks:List Ik} (hl:ks.length=n) (hv:bK_ f ks=true) (w:World) (h:InksAt a ks w) :
  Calls Tryz.prog 45 #[.agg #[.int .i64 f.x,.int .i64 f.y,.int .i64 f.w,.int .i64 f.h,.int .i64 f.s,.slice a n c]] w (aMJ (eT_ ks) w):=by
 have KV:=hid (fun W (h:InksAt a ks W)=>by have:=gJ_ (f:=f) (c:=c) hl W h;rw[hv] at this;exact this)
 have H0:=hid (show AzAt [(w.heap.size,frC f (.slice a n c))] w (w.alloc (.cells #[.int .i64 f.x,.int .i64 f.y,.int .i64 f.w,.int .i64 f.h,.int .i64 f.s,.slice a n c] 58)) from(AzAt.start w).push (frC f (.slice a n c)) 58)
 have HP0:=hid (h.below H0.out.bw)
 have HL:=hid hl
 have HP:=hid h
 have HK:=hid (bO_.1 hv)
 have hn20:n≤20:=by rw[←hl];exact HK.out.len
 obtain⟨i0,hi0,hz0,hz1,hz2⟩:=info_parts aFO
 clear hl hv h
 go_enter Tryz.func45,Tryz.ntmps45
 go_wp2_with (go_at_call 53;(with_reducible refine(KV.out _ HP0.out).mono ?_);rintro e u1 ⟨rfl,hb⟩;have H1:=hid (H0.out.below hb);clear hb;have x5:=H1.out.ce 0 5 rfl rfl)
 clear x5
 go_loopw [4,22] (fun v4 v22 wr=>∃i:Nat,i≤n∧v22=.int .i64 (i:Int)∧OsAt 75 4 v4 (gA_ ks i).length (seC (gA_ ks i)) [(w.heap.size,frC f (.slice a n c))] w wr) (fun _ v22 _=>n-(intOf v22).toNat)
 case atStart=>exact⟨0,Nat.zero_le _,rfl,OsAt.nil H1.out _ _⟩
 case round=>
  obtain⟨i,hi,rfl,ho⟩:=hrel
  have HO:=hid ho
  clear ho
  by_cases hlt:i<n
  case neg=>
   obtain rfl:i=n:=by omega
   have HE:=hid (show gA_ ks i=eT_ ks by rw[←HL.out];exact aDV)
   rw[HE.out] at HO
   obtain⟨oa,oc,hoe,hcs⟩:=CsAt.own HO.out
   subst hoe
   have HC:=hid hcs
   clear hcs
   go_wp2
   go_ret2
   exact⟨oa,oc,rfl,HC.out,HO.out.az.bw⟩
  obtain⟨x,hx⟩:∃x,ks[i]?=some x:=⟨ks[i]'(by rw[HL.out];exact hlt),List.getElem?_eq_getElem _⟩
  obtain⟨b,o,ca,cc,rfl,hbl,c0',c1',hcs,_⟩:=HP.out.row i x hx
  have c0:=(HO.out.az.bw.cell (p:=⟨b,o+i*2,none⟩) hbl).trans c0'
  have c1:=(HO.out.az.bw.cell (p:=⟨b,o+i*2+1,none⟩) hbl).trans c1'
  clear c0' c1'
  have i1:(0:Int)≤(i:Int):=by omega
  have i2:(i:Int)<(n:Int):=by omega
  have x5:=HO.out.az.ce 0 5 rfl rfl
  have hN:=HK.out.many x (List.mem_of_getElem? hx)
  obtain⟨N,hNe⟩:∃N,N=npx f:=⟨_,rfl⟩
  have hN4:1≤N∧N≤400:=by rw[hNe];exact qP_ HK.out.fr
  rw[hN,←hNe] at c1
  have HXN:=hid (hN.trans hNe.symm)
  have HNE:=hid hNe
  have HX:=hid hx
  have HCS:=hid hcs
  clear hx hcs hN hNe
  obtain⟨xc,hxc⟩:∃xc,xc=x.code:=⟨_,rfl⟩
  have HXC:=hid hxc
  rw[←hxc] at c0
  clear hxc
  have HI:=hid (HO.out.push [.int .i64 xc,.slice ca N cc] 79)
  have g5:=HI.out.az.ce 1 5 rfl rfl
  go_wp2
  obtain⟨W1,hW1⟩:∃W1,W1=wr.alloc (.cells #[.int .i64 xc,.slice ca N cc] 79):=⟨_,rfl⟩
  obtain⟨X,hX⟩:∃X,X=wr.heap.size:=⟨_,rfl⟩
  have HI2:=hid (show OsAt 75 4 u4 (gA_ ks i++rowI ks i x 0).length (seC (gA_ ks i++rowI ks i x 0)) [(X,[.int .i64 xc,.slice ca N cc]),(w.heap.size,frC f (.slice (some ⟨b,o,none⟩) n c))] w W1 from by
   rw[show rowI ks i x 0=[] from rfl,List.append_nil,hX,hW1]
   exact HI.out)
  rw[←hW1,←hX]
  clear hW1 HI HO g5 x5 c0 c1
  have hXl:X<W1.heap.size:=(HI2.out.az.row _ (show(X,[Value.int .i64 xc,.slice ca N cc])∈_ by simp)).sz
  clear hXl hX
  go_loopw [4,30] (fun v4 v30 wr=>∃k:Nat,k≤n∧v30=.int .i64 (k:Int)∧OsAt 75 4 v4 (gA_ ks i++rowI ks i x k).length (seC (gA_ ks i++rowI ks i x k)) [(X,[.int .i64 xc,.slice ca N cc]),(w.heap.size,frC f (.slice (some ⟨b,o,none⟩) n c))] w wr) (fun _ v30 _=>n-(intOf v30).toNat)
  case atStart=>exact⟨0,Nat.zero_le _,rfl,HI2.out⟩
  case round=>
   obtain⟨k,hk,rfl,ho⟩:=hrel
   have HO:=hid ho
   clear ho
   by_cases hlk:k<n
   case neg=>
    obtain rfl:k=n:=by omega
    have HE:=hid (show gA_ ks i++rowI ks i x k=gA_ ks (i+1) by rw[zZ_ HX.out,HL.out])
    rw[HE.out] at HO
    go_wp2
    exact⟨⟨i+1,by omega,by go_num,HO.out.sub (by simp)⟩,by simp only[intOf];omega⟩
   obtain⟨y,hy⟩:∃y,ks[k]?=some y:=⟨ks[k]'(by rw[HL.out];exact hlk),List.getElem?_eq_getElem _⟩
   obtain⟨b',o',cb,cd,eb,hbk,d0',d1',hds,_⟩:=HP.out.row k y hy
   injection eb with eb
   injection eb with eb1 eb2
   subst eb1 eb2
   have d0:=(HO.out.az.bw.cell (p:=⟨b,o+k*2,none⟩) hbl).trans d0'
   have d1:=(HO.out.az.bw.cell (p:=⟨b,o+k*2+1,none⟩) hbl).trans d1'
   clear d0' d1'
   have j1:(0:Int)≤(k:Int):=by omega
   have j2:(k:Int)<(n:Int):=by omega
   have hN:=HK.out.many y (List.mem_of_getElem? hy)
   rw[hN,←HNE.out] at d1
   have HYN:=hid (hN.trans HNE.out.symm)
   have HY:=hid hy
   obtain⟨yc,hyc⟩:∃yc,yc=y.code:=⟨_,rfl⟩
   have HYC:=hid hyc
   rw[←hyc] at d0
   obtain⟨Y,hYe⟩:∃Y,Y=wr.heap.size:=⟨_,rfl⟩
   have HI3:=hid (HO.out.push [.int .i64 yc,.slice cb N cd] 79)
   have HDS:=hid hds
   rw[←hYe] at HI3
   clear hds hyc hy hN
   by_cases hik:i=k
   ·subst hik
    have HE:=hid (show rowI ks i x (i+1)=rowI ks i x i by rw[sR_ HY.out,if_pos rfl,List.append_nil])
    rw[←HE.out] at HI3
    clear hYe
    go_wp2
    exact⟨⟨i+1,by omega,by go_num,HI3.out.sub (by simp)⟩,by simp only[intOf];omega⟩
   have e1:((i:Int)==(k:Int))=false:=by simpa using fun e=>hik (by omega)
   have HE:=hid (show rowI ks i x (k+1)=rowI ks i x k++kV_ i k x y by rw[sR_ HY.out,if_neg hik])
   have xa:=HI3.out.az.ce 1 1 rfl rfl
   go_wp2
   obtain⟨W3,hW3⟩:∃W3,W3=wr.alloc (.cells #[.int .i64 yc,.slice cb N cd] 79):=⟨_,rfl⟩
   rw[←hW3] at HI3⊢
   rw[←hYe]
   clear xa hW3 hYe
   have xb:=HI3.out.az.ce 0 1 rfl rfl
   have HA3:=hid (HCS.out.below HI3.out.az.bw)
   have HB3:=hid (HDS.out.below HI3.out.az.bw)
   have HXB:=hid (HK.out.cell x (List.mem_of_getElem? HX.out))
   have HYB:=hid (HK.out.cell y (List.mem_of_getElem? HY.out))
   go_loop [9,10,11,12,41] (fun v9 v10 v11 v12 v41=>∃(m:Nat) (qo qs qi qw:Bool),m≤N∧v41=.int .i64 (m:Int)∧v9=.bool qo∧v10=.bool qs∧v11=.bool qi∧v12=.bool qw∧AccAt x.cells y.cells m qo qs qi qw) (fun _ _ _ _ v41=>N-(intOf v41).toNat)
   case atStart=>exact⟨0,false,false,true,true,Nat.zero_le _,rfl,rfl,rfl,rfl,rfl,⟨rfl,rfl,rfl,rfl⟩⟩
   case round=>
    obtain⟨m,qo,qs,qi,qw,hm,rfl,rfl,rfl,rfl,rfl,hacc⟩:=hrel
    have HA:=hid hacc
    clear hacc
    by_cases hlm:m<N
    ·obtain⟨p,hp⟩:∃p,x.cells[m]?=some p:=⟨x.cells[m]'(by rw[HXN.out];exact hlm),List.getElem?_eq_getElem _⟩
     obtain⟨q,hq⟩:∃q,y.cells[m]?=some q:=⟨y.cells[m]'(by rw[HYN.out];exact hlm),List.getElem?_eq_getElem _⟩
     obtain⟨b1,o1,rfl,_,k0⟩:=HA3.out.row m _ (fZ_ hp)
     obtain⟨b2,o2,rfl,_,k1⟩:=HB3.out.row m _ (fZ_ hq)
     have pb:=HXB.out p (List.mem_of_getElem? hp)
     have qb:=HYB.out q (List.mem_of_getElem? hq)
     have HPQ:=hid (And.intro hp hq)
     have g1:IntKind.i64.wrap (p+q)=p+q:=IntWalk.i64_in _ (by omega)
     have g2:IntKind.i64.wrap (p+1)=p+1:=IntWalk.i64_in _ (by omega)
     have l1:(0:Int)≤(m:Int):=by omega
     have l2:(m:Int)<(N:Int):=by omega
     clear hp hq
     go_upto_region 16 with fail
     go_cut [9] from 42 to 83 (fun v9 wX=>v9=.bool (qo||(decide (0<p)&&decide (0<q)))∧W3=wX)
     case first=>
      cases qo
      all_goals
       go_wp2_with fail
       all_goals
        go_meet
        exact⟨by first|(simp[*];done)|(simp[*];omega),rfl⟩
     case rest=>
     obtain⟨rfl,rfl⟩:=hcut
     go_upto_region 17 with fail
     go_cut [10] from 42 to 83 (fun v10 wX=>v10=.bool (qs||decide (4096<p+q))∧W3=wX)
     case first=>
      cases qs
      all_goals
       go_wp2_with fail
       all_goals
        go_meet
        exact⟨by first|(simp[*];done)|(simp[*];omega),rfl⟩
     case rest=>
     obtain⟨rfl,rfl⟩:=hcut
     go_upto_region 18 with fail
     go_cut [11] from 42 to 83 (fun v11 wX=>v11=.bool (qi&&decide (q≤p+1))∧W3=wX)
     case first=>
      cases qi
      all_goals
       go_wp2_with fail
       all_goals
        go_meet
        exact⟨by first|(simp[*];done)|(simp[*];omega),rfl⟩
     case rest=>
     obtain⟨rfl,rfl⟩:=hcut
     go_upto_region 19 with fail
     obtain⟨t1,e1⟩:∃t,(q==0)=t:=⟨_,rfl⟩
     obtain⟨t2,e2⟩:∃t,(p==4096)=t:=⟨_,rfl⟩
     have HN:=hid (show AccAt x.cells y.cells (m+1) (qo||(decide (0<p)&&decide (0<q))) (qs||decide (4096<p+q)) (qi&&decide (q≤p+1)) (qw&&(t1||t2)) from by rw[←e1,←e2];exact HA.out.next HPQ.out.1 HPQ.out.2)
     generalize (qo||(decide (0<p)&&decide (0<q)))=zo at HN⊢
     generalize (qs||decide (4096<p+q))=zs at HN⊢
     generalize (qi&&decide (q≤p+1))=zi at HN⊢
     cases qw <;> cases t1 <;> cases t2
     all_goals
      go_wp2_with fail
      exact⟨⟨m+1,_,_,_,_,by omega,by go_num,rfl,rfl,rfl,rfl,HN.out⟩,by simp only[intOf];omega⟩
    ·obtain rfl:m=N:=by omega
     have HAF:=hid (show AccAt x.cells y.cells m qo qs qi qw∧x.cells.take m=x.cells∧y.cells.take m=y.cells from⟨HA.out,List.take_of_length_le (by rw[HXN.out];exact Nat.le_refl _),List.take_of_length_le (by rw[HYN.out];exact Nat.le_refl _)⟩)
     have HF:=hid (show kV_ i k x y=(if qo=true∧i<k then [⟨1,xc,yc,qs⟩] else [])++(if qi=true then [⟨2,xc,yc,qw⟩] else []) by
      obtain⟨⟨a1,a2,a3,a4⟩,hx,hy⟩:=HAF.out
      rw[hx,hy] at a1 a2 a3 a4
      rw[HXC.out,HYC.out,a1,a2,a3,a4]
      rfl)
     obtain⟨L,hL⟩:∃L,L=gA_ ks i++rowI ks i x k:=⟨_,rfl⟩
     have HLN:=hid (show gA_ ks i++rowI ks i x (k+1)=L++kV_ i k x y by rw[HE.out,hL,List.append_assoc])
     have hLl:L.length≤840:=by
      rw[hL,List.length_append]
      have h1:=aDU ks i (by rw[HL.out];exact hn20)
      have h2:=aJK ks i x k (by rw[HL.out];exact hn20)
      omega
     rw[←hL] at HI3
     clear hL xb
     obtain⟨nl,hnl⟩:∃nl,nl=L.length:=⟨_,rfl⟩
     have HNL:=hid hnl.symm
     rw[←hnl] at HI3 hLl
     obtain⟨xs,hxs⟩:∃xs,xs=seC L:=⟨_,rfl⟩
     have HXS:=hid hxs.symm
     rw[←hxs] at HI3
     clear hnl hxs
     have xa0:=HI3.out.az.ce 1 0 rfl rfl
     have xb0:=HI3.out.az.ce 0 0 rfl rfl
     have hq:(qo=true∧i<k)∨(qo=false∨(qo=true∧¬i<k)):=by
      cases qo <;> simp <;> omega
     rcases hq with ⟨rfl,hlt2⟩|hq
     ·have t1:decide ((i:Int)<(k:Int))=true:=decide_eq_true (by omega)
      have t2:decide (i<k)=true:=decide_eq_true hlt2
      cases qi
      ·go_wp2_with (first
        | (at_builtin;refine wpList_append_own_at _ rfl _ _ 71 rfl w.heap.size 75 i0 (.agg #[.int .i64 0,.int .i64 0,.int .i64 0,.bool false]) 4 32 Tryz.underlying71 hi0 hz0 hz1 hz2 rfl (by decide) u4 nl xs rfl (HI3.out.al _).own ⟨W3.heap.size,0,none⟩ 1 1 [.int .i64 1,.int .i64 xc,.int .i64 yc,.bool qs] rfl rfl (lP_ _ _ _ _ _ _) (by simp[Value.oneCell']) (by unfold maxLen;omega) (by omega) (HI3.out.al _).az.bw.size ?_;intro v5 w5 hown' hgrow _ hat;have HJ:=hid ((HI3.out.al _).grown hown' hgrow hat);clear hown' hgrow hat)
        | fail)
       refine⟨⟨k+1,by omega,by go_num,(HJ.out.sub (by simp)).cast (by rw[HLN.out,HF.out,if_pos ⟨rfl,hlt2⟩,←HNL.out];simp) (by rw[HLN.out,HF.out,if_pos ⟨rfl,hlt2⟩,←HXS.out];simp[seC,snC])⟩,by simp only[intOf];omega⟩
      ·go_wp2_with (first
        | (have _:=HJ;at_builtin;refine wpList_append_own_at _ rfl _ _ 71 rfl w.heap.size 75 i0 (.agg #[.int .i64 0,.int .i64 0,.int .i64 0,.bool false]) 4 32 Tryz.underlying71 hi0 hz0 hz1 hz2 rfl (by decide) v5 (nl+1) (xs++[.int .i64 1,.int .i64 xc,.int .i64 yc,.bool qs]) rfl (HJ.out.al _).own ⟨w5.heap.size,0,none⟩ 1 1 [.int .i64 2,.int .i64 xc,.int .i64 yc,.bool qw] rfl rfl (lP_ _ _ _ _ _ _) (by simp[Value.oneCell']) (by unfold maxLen;omega) (by omega) (HJ.out.al _).az.bw.size ?_;intro v6 w6 hown' hgrow _ hat;have HJ2:=hid ((HJ.out.al _).grown hown' hgrow hat);clear hown' hgrow hat)
        | (at_builtin;refine wpList_append_own_at _ rfl _ _ 71 rfl w.heap.size 75 i0 (.agg #[.int .i64 0,.int .i64 0,.int .i64 0,.bool false]) 4 32 Tryz.underlying71 hi0 hz0 hz1 hz2 rfl (by decide) u4 nl xs rfl (HI3.out.al _).own ⟨W3.heap.size,0,none⟩ 1 1 [.int .i64 1,.int .i64 xc,.int .i64 yc,.bool qs] rfl rfl (lP_ _ _ _ _ _ _) (by simp[Value.oneCell']) (by unfold maxLen;omega) (by omega) (HI3.out.al _).az.bw.size ?_;intro v5 w5 hown' hgrow _ hat;have HJ:=hid ((HI3.out.al _).grown hown' hgrow hat);clear hown' hgrow hat;have xa1:=HJ.out.az.ce 1 0 rfl rfl;have xb1:=HJ.out.az.ce 0 0 rfl rfl)
        | fail)
       refine⟨⟨k+1,by omega,by go_num,(HJ2.out.sub (by simp)).cast (by rw[HLN.out,HF.out,if_pos ⟨rfl,hlt2⟩,←HNL.out];simp) (by rw[HLN.out,HF.out,if_pos ⟨rfl,hlt2⟩,←HXS.out];simp[seC,snC])⟩,by simp only[intOf];omega⟩
     ·have hno:¬(qo=true∧i<k):=by
       rintro⟨h1,h2⟩
       rcases hq with h|⟨_,h⟩
       ·rw[h1] at h;cases h
       ·exact h h2
      have HNO:=hid hno
      clear hno
      rcases hq with rfl|⟨rfl,hlt2⟩
      all_goals
       try
        have t1:decide ((i:Int)<(k:Int))=false:=decide_eq_false (by omega)
        have t2:decide (i<k)=false:=decide_eq_false hlt2
       cases qi
       ·go_wp2_with fail
        refine⟨⟨k+1,by omega,by go_num,(HI3.out.sub (by simp)).cast (by rw[HLN.out,HF.out,if_neg HNO.out,←HNL.out];simp) (by rw[HLN.out,HF.out,if_neg HNO.out,←HXS.out];simp)⟩,by simp only[intOf];omega⟩
       ·go_wp2_with (first
         | (at_builtin;refine wpList_append_own_at _ rfl _ _ 71 rfl w.heap.size 75 i0 (.agg #[.int .i64 0,.int .i64 0,.int .i64 0,.bool false]) 4 32 Tryz.underlying71 hi0 hz0 hz1 hz2 rfl (by decide) u4 nl xs rfl (HI3.out.al _).own ⟨W3.heap.size,0,none⟩ 1 1 [.int .i64 2,.int .i64 xc,.int .i64 yc,.bool qw] rfl rfl (lP_ _ _ _ _ _ _) (by simp[Value.oneCell']) (by unfold maxLen;omega) (by omega) (HI3.out.al _).az.bw.size ?_;intro v5 w5 hown' hgrow _ hat;have HJ:=hid ((HI3.out.al _).grown hown' hgrow hat);clear hown' hgrow hat)
         | fail)
        refine⟨⟨k+1,by omega,by go_num,(HJ.out.sub (by simp)).cast (by rw[HLN.out,HF.out,if_neg HNO.out,←HNL.out];simp) (by rw[HLN.out,HF.out,if_neg HNO.out,←HXS.out];simp[seC,snC])⟩,by simp only[intOf];omega⟩
theorem aME (xs:List Value) (h:xs.length=89):(List.range 89).map (fun i=>xs.getD i undef)=xs:=by
 apply List.ext_getElem
 ·simp[h]
 ·intro i h1 h2
  simp[List.getD,List.getElem?_eq_getElem h2]
theorem pR_ (xs:List Value) (h:xs.length=89):∃v:Nat→Value,xs=[v 0,v 1,v 2,v 3,v 4,v 5,v 6,v 7,v 8,v 9,v 10,v 11,v 12,v 13,v 14,v 15,v 16,v 17,v 18,v 19,v 20,v 21,v 22,v 23,v 24,v 25,v 26,v 27,v 28,v 29,v 30,v 31,v 32,v 33,v 34,v 35,v 36,v 37,v 38,v 39,v 40,v 41,v 42,v 43,v 44,v 45,v 46,v 47,v 48,v 49,v 50,v 51,v 52,v 53,v 54,v 55,v 56,v 57,v 58,v 59,v 60,v 61,v 62,v 63,v 64,v 65,v 66,v 67,v 68,v 69,v 70,v 71,v 72,v 73,v 74,v 75,v 76,v 77,v 78,v 79,v 80,v 81,v 82,v 83,v 84,v 85,v 86,v 87,v 88]∧∀i,i<89→xs[i]?=Option.some (v i):=
 ⟨fun i=>xs.getD i undef,(aME xs h).symm.trans rfl,fun i hi=>by simp[List.getD,List.getElem?_eq_getElem (show i<xs.length by omega)]⟩
def bM_ (B:Nat) (a:Option Addr) (ks:List Ik) (W:World):Prop:=∀V:World,W.heap.size≤V.heap.size→(∀b,B≤b→b<W.heap.size→V.heap[b]?=W.heap[b]?)→InksAt a ks V
theorem bM_.at {B:Nat} {a:Option Addr} {ks:List Ik} {W:World} (h:bM_ B a ks W):InksAt a ks W:=h W (Nat.le_refl _) fun _ _ _=>rfl
theorem bM_.below {B:Nat} {a:Option Addr} {ks:List Ik} {W W':World} (h:bM_ B a ks W) (hb:Below W.heap.size W W'):bM_ B a ks W':=fun V hs hv=>h V (Nat.le_trans hb.size hs) fun b h1 h2=>(hv b h1 (Nat.lt_of_lt_of_le h2 hb.size)).trans (hb.block b h2)
theorem bM_.set {B X i:Nat} {v:Value} {a:Option Addr} {ks:List Ik} {W:World} (h:bM_ B a ks W) (hX:X<B):bM_ B a ks (W.setCell ⟨X,i,none⟩ v):=fun V hs hv=>h V (by rw[World.size_setCell] at hs;exact hs) fun b h1 h2=>(hv b h1 (by rw[World.size_setCell];exact h2)).trans (heap_setCell_other _ _ _ _ (by show b≠X;omega))
theorem tL_ {v:Value} {ie:List (Ik×Nat×Nat)} {R:List (Nat×List Value)} {w W:World} (h:OsAt 79 2 v ie.length (inkV ie) R w W) (hR:∀x∈inkR ie,x∈R) (hcp:∀e∈ie,e.1.cells.length≤e.2.2) (hlo:∀e∈ie,w.heap.size≤e.2.1):∃a c,v=.slice a ie.length c∧bM_ w.heap.size a (ie.map (·.1)) W:=by
 obtain⟨a,c,rfl,hc⟩:=CsAt.own h
 refine⟨a,c,rfl,fun V hs hv=>⟨fun i k hk=>?_⟩⟩
 rw[List.getElem?_map] at hk
 cases he:ie[i]? with
 | none=>rw[he] at hk;cases hk
 | some e=>
  rw[he] at hk
  obtain rfl:e.1=k:=by simpa using hk
  obtain⟨b,o,rfl,h1,h2⟩:=hc.row _ _ (qT_ he).1
  obtain⟨b',o',e',_,h3⟩:=hc.row _ _ (qT_ he).2
  injection e' with e'
  injection e' with e1 e2
  subst e1 e2
  have hb:w.heap.size≤b:=by
   rcases h.form with ⟨ev,_⟩|⟨g,c',ev,hg,_⟩
   ·cases ev
   ·injection ev with ev
    injection ev with ev
    injection ev with ev
    omega
  have har:=h.az.row _ (hR _ (aKU he))
  have hm:=List.mem_of_getElem? he
  exact⟨b,o,_,_,rfl,by omega,(World.cell?_of_block (w:=W) (hv b hb h1)).trans h2,(World.cell?_of_block (w:=W) (hv b hb h1)).trans h3,CsAt.of_ar (har.of_block (hv e.2.1 (hlo e hm) har.sz) hs),hcp e hm⟩
def aNY (Ds:List Nat) (W:World):World:=Ds.foldl (fun W D=>W.putObj D (.deferred none)) W
theorem vN_ {F:Fence} {n:Nat} {P:Program} {fn:Func} {tmps:Array Value} {R:Ending→World→Prop} : ∀(Ds:List Nat) (W:World),Ds.Nodup→(∀D∈Ds,W.heap[D]?=some (.deferred (some [])))→LeavesIn F n P fn tmps R [] .returning (aNY Ds W)→LeavesInM F n P fn tmps R (Ds.map (fun D=>({ target:=.collected D,args:=#[] } : Deferred))) .returning W:=by
 intro Ds
 induction Ds with
 | nil=>exact fun W _ _ h=>h
 | cons D Ds ih=>
  intro W hN hD h
  refine⟨by simp,.inl ⟨D,W.putObj D (.deferred none),rfl,run_takeDeferred (hD D (by simp)),?_⟩⟩
  refine ih _ (List.nodup_cons.1 hN).2 (fun D' hD'=>?_) h
  have hne:D'≠D:=fun e=>(List.nodup_cons.1 hN).1 (e▸hD')
  exact(World.putObj_heap_other (fun e=>hne e)).trans (hD D' (by simp[hD']))
theorem aOL {e:TypeId} {s:Nat} {v:Value} {n:Nat} {xs:List Value} {R:List (Nat×List Value)} {w:World} (hne:∀x∈R,x.2≠[]):∀(Ds:List Nat) (W:World),Ds.Nodup→(∀D∈Ds,w.heap.size≤D∧W.heap[D]?=some (.deferred (some [])))→OsAt e s v n xs R w W→OsAt e s v n xs R w (aNY Ds W):=by
 intro Ds
 induction Ds with
 | nil=>exact fun W _ _ h=>h
 | cons D Ds ih=>
  intro W hN hD h
  have hDD:=hD D (by simp)
  refine ih _ (List.nodup_cons.1 hN).2 (fun D' hD'=>?_) (h.kept hne (grownBy_putObj' W D (.deferred none)) (fun r hr=>by cases hr;exact hDD.1) (fun r hr=>by cases hr;exact⟨_,hDD.2,rfl⟩))
  have hne:D'≠D:=fun e=>(List.nodup_cons.1 hN).1 (e▸hD')
  exact⟨(hD D' (by simp[hD'])).1,(World.putObj_heap_other (fun e=>hne e)).trans (hD D' (by simp[hD'])).2⟩
theorem aAE {wr:World} {sn:Nat} (v:Nat→Value) (ds:List Deferred) (h31:v 31=.int .i64 (sn:Int)) (h32:v 32=.int .i64 (sn:Int)) (Q0:Exit→Act→World→Prop)
  (hexit:∀(ys:List Value),ys.length=89→(ys[0]?=Option.some (v 0)∧ys[3]?=Option.some (v 3)∧ys[4]?=Option.some (v 4)∧ys[5]?=Option.some (v 5)∧ys[30]?=Option.some (v 30)∧ys[31]?=Option.some (v 31))→Q0 (.exit 0) ⟨ys.toArray,ds⟩ wr) :
  oQ_.wpIn Fence.wide 3 Tryz.prog Q0 ⟨[v 0,v 1,v 2,v 3,v 4,v 5,v 6,v 7,v 8,v 9,v 10,v 11,v 12,v 13,v 14,v 15,v 16,v 17,v 18,v 19,v 20,v 21,v 22,v 23,v 24,v 25,v 26,v 27,v 28,v 29,v 30,v 31,v 32,v 33,v 34,v 35,v 36,v 37,v 38,v 39,v 40,v 41,v 42,v 43,v 44,v 45,v 46,v 47,v 48,v 49,v 50,v 51,v 52,v 53,v 54,v 55,v 56,v 57,v 58,v 59,v 60,v 61,v 62,v 63,v 64,v 65,v 66,v 67,v 68,v 69,v 70,v 71,v 72,v 73,v 74,v 75,v 76,v 77,v 78,v 79,v 80,v 81,v 82,v 83,v 84,v 85,v 86,v 87,v 88].toArray,ds⟩ wr:=by
 have HX:=hid hexit
 clear hexit
 have i3:decide ((sn:Int)<(sn:Int))=false:=decide_eq_false (by omega)
 have H31:=hid h31
 rw[h31,h32]
 clear h31 h32
 unfold oQ_
 conv=>arg 4;whnf
 dsimp only
 gi_wp2
 refine HX.out _ ?_ ?_
 ·rfl
 ·exact⟨rfl,rfl,rfl,rfl,rfl,congrArg Option.some H31.out.symm⟩
theorem aAD {w:World} {sa:Option Addr} {sn sc X3 X4:Nat} {ss:List Sh} {f:Fr} {w0:World} (xs:List Value) (HI:Hid (IOps w∧FrOp w)) (HF:Hid (FrOk f)) (HS:Hid (ShsAt sa ss w)) (HL:Hid (ss.length=sn)) (hn:sn≤20) (HO:Hid (∀s∈ss,okSh s=true)) (HA:Hid (∀(i:Nat) (a b:Sh),ss[i]?=some a→ss[i+1]?=some b→a.code<b.code))
  (hl:xs.length=89) (hx:xs[0]?=Option.some (.slice sa sn sc)∧xs[3]?=Option.some (.pointer (some ⟨X3,0,none⟩))∧xs[4]?=Option.some (.pointer (some ⟨X4,0,none⟩))∧xs[5]?=Option.some (.int .i64 0)∧xs[30]?=Option.some (.slice sa sn sc)∧xs[31]?=Option.some (.int .i64 (sn:Int))) (h32:xs[32]?=Option.some (.int .i64 (0:Nat))) (H:OsAt 79 2 (.slice none 0 0) ([]:List (Ik×Nat×Nat)).length (inkV ([]:List (Ik×Nat×Nat))) ((X3,frC f (.slice none 0 0))::(X4,frC ⟨0,0,0,0,0⟩ (.slice none 0 0))::inkR ([]:List (Ik×Nat×Nat))) w w0) (hd:w.heap.size≤X3∧X3≠X4) (Q0:Exit→Act→World→Prop)
  (hexit:∀(ys:List Value) (Ds:List Nat) (W:World) (vI:Value) (ie:List (Ik×Nat×Nat)),ys.length=89→(ys[0]?=Option.some (.slice sa sn sc)∧ys[3]?=Option.some (.pointer (some ⟨X3,0,none⟩))∧ys[4]?=Option.some (.pointer (some ⟨X4,0,none⟩))∧ys[5]?=Option.some (.int .i64 0)∧ys[30]?=Option.some (.slice sa sn sc)∧ys[31]?=Option.some (.int .i64 (sn:Int)))→OsAt 79 2 vI ie.length (inkV ie) ((X3,frC f vI)::(X4,frC ⟨0,0,0,0,0⟩ (.slice none 0 0))::inkR ie) w W→ie.map (·.1)=aF_ f ss→(∀D∈Ds,w0.heap.size≤D∧W.heap[D]?=Option.some (.deferred (Option.some [])))→Ds.Nodup→(∀e∈ie,e.1.cells.length≤e.2.2∧w.heap.size≤e.2.1)→Q0 (.exit 0) ⟨ys.toArray,Ds.map (fun D=>({ target:=.collected D,args:=#[] } : Deferred))⟩ W) :
  (Code.loop oQ_).wpIn Fence.wide 3 Tryz.prog Q0 ⟨xs.toArray,[]⟩ w0:=by
 refine wpIn_loop (fun a W=>∃(ys:List Value) (i:Nat) (Ds:List Nat) (vI:Value) (ie:List (Ik×Nat×Nat)),a=⟨ys.toArray,Ds.map (fun D=>({ target:=.collected D,args:=#[] } : Deferred))⟩∧ys.length=89∧(ys[0]?=Option.some (.slice sa sn sc)∧ys[3]?=Option.some (.pointer (some ⟨X3,0,none⟩))∧ys[4]?=Option.some (.pointer (some ⟨X4,0,none⟩))∧ys[5]?=Option.some (.int .i64 0)∧ys[30]?=Option.some (.slice sa sn sc)∧ys[31]?=Option.some (.int .i64 (sn:Int)))∧ys[32]?=Option.some (.int .i64 (i:Int))∧i≤sn∧OsAt 79 2 vI ie.length (inkV ie) ((X3,frC f vI)::(X4,frC ⟨0,0,0,0,0⟩ (.slice none 0 0))::inkR ie) w W∧ie.map (·.1)=aF_ f (ss.take i)∧(w.heap.size≤X3∧X3≠X4∧∀e∈ie,X3≠e.2.1∧e.1.cells.length≤e.2.2∧w.heap.size≤e.2.1)∧(∀D∈Ds,w0.heap.size≤D∧W.heap[D]?=Option.some (.deferred (Option.some [])))∧Ds.Nodup∧w0.heap.size≤W.heap.size)
  (fun a _=>sn-(intOf (a.tmps.getD 32 undef)).toNat) ⟨xs,0,[],.slice none 0 0,[],rfl,hl,hx,h32,by omega,H,rfl,⟨hd.1,hd.2,fun e he=>by cases he⟩,(fun D hD=>by cases hD),List.nodup_nil,Nat.le_refl _⟩ ?_
 rintro a W ⟨ys,i,Ds,vI,ie,rfl,hyl,hyx,hy32,hi,hos,hmap,hdx,hds,hnd,hsz⟩
 obtain⟨v,hv',hvv⟩:=pR_ ys hyl
 have s0:=Option.some.inj ((hvv 0 (by omega)).symm.trans hyx.1)
 have s3:=Option.some.inj ((hvv 3 (by omega)).symm.trans hyx.2.1)
 have s4:=Option.some.inj ((hvv 4 (by omega)).symm.trans hyx.2.2.1)
 have s5:=Option.some.inj ((hvv 5 (by omega)).symm.trans hyx.2.2.2.1)
 have s30:=Option.some.inj ((hvv 30 (by omega)).symm.trans hyx.2.2.2.2.1)
 have s31:=Option.some.inj ((hvv 31 (by omega)).symm.trans hyx.2.2.2.2.2)
 have s32:=Option.some.inj ((hvv 32 (by omega)).symm.trans hy32)
 have back:∀zs:List Value,(zs[0]?=Option.some (v 0)∧zs[3]?=Option.some (v 3)∧zs[4]?=Option.some (v 4)∧zs[5]?=Option.some (v 5)∧zs[30]?=Option.some (v 30)∧zs[31]?=Option.some (v 31))→(zs[0]?=Option.some (.slice sa sn sc)∧zs[3]?=Option.some (.pointer (some ⟨X3,0,none⟩))∧zs[4]?=Option.some (.pointer (some ⟨X4,0,none⟩))∧zs[5]?=Option.some (.int .i64 0)∧zs[30]?=Option.some (.slice sa sn sc)∧zs[31]?=Option.some (.int .i64 (sn:Int))):=by
  rintro zs ⟨z0,z3,z4,z5,z30,z31⟩
  rw[z0,z3,z4,z5,z30,z31,s0,s3,s4,s5,s30,s31]
  exact⟨rfl,rfl,rfl,rfl,rfl,rfl⟩
 have key:∀Q1:Exit→Act→World→Prop,(i<sn→∀(zs:List Value) (D:Nat) (W':World) (vI:Value) (ie:List (Ik×Nat×Nat)),zs.length=89→(zs[0]?=Option.some (.slice sa sn sc)∧zs[3]?=Option.some (.pointer (some ⟨X3,0,none⟩))∧zs[4]?=Option.some (.pointer (some ⟨X4,0,none⟩))∧zs[5]?=Option.some (.int .i64 0)∧zs[30]?=Option.some (.slice sa sn sc)∧zs[31]?=Option.some (.int .i64 (sn:Int)))→zs[32]?=Option.some (.int .i64 ((i:Int)+1))→OsAt 79 2 vI ie.length (inkV ie) ((X3,frC f vI)::(X4,frC ⟨0,0,0,0,0⟩ (.slice none 0 0))::inkR ie) w W'→ie.map (·.1)=aF_ f (ss.take (i+1))→(w.heap.size≤X3∧X3≠X4∧∀e∈ie,X3≠e.2.1∧e.1.cells.length≤e.2.2∧w.heap.size≤e.2.1)→W'.heap[D]?=Option.some (.deferred (Option.some []))→W.heap.size≤D→KeepsOthers W W'→Q1 .normal ⟨zs.toArray,{ target:=.collected D,args:=#[] } :: Ds.map (fun D=>({ target:=.collected D,args:=#[] } : Deferred))⟩ W')→
   (i=sn→∀(zs:List Value),zs.length=89→(zs[0]?=Option.some (.slice sa sn sc)∧zs[3]?=Option.some (.pointer (some ⟨X3,0,none⟩))∧zs[4]?=Option.some (.pointer (some ⟨X4,0,none⟩))∧zs[5]?=Option.some (.int .i64 0)∧zs[30]?=Option.some (.slice sa sn sc)∧zs[31]?=Option.some (.int .i64 (sn:Int)))→Q1 (.exit 0) ⟨zs.toArray,Ds.map (fun D=>({ target:=.collected D,args:=#[] } : Deferred))⟩ W)→oQ_.wpIn Fence.wide 3 Tryz.prog Q1 ⟨ys.toArray,Ds.map (fun D=>({ target:=.collected D,args:=#[] } : Deferred))⟩ W:=by
  intro Q1 hn1 hx1
  rw[hv']
  by_cases hlt:i<sn
  ·exact vH_ v (Ds.map (fun D=>({ target:=.collected D,args:=#[] } : Deferred))) HI HF HS HL hn HO HA s0 s3 s30 s31 s32 hlt (hid hos) (hid hmap) (hid hdx) Q1 fun zs D W' vI ie hz hzx hz32 h1 h2 h3 h4 h5 h6=>hn1 hlt zs D W' vI ie hz (back zs hzx) hz32 h1 h2 h3 h4 h5 h6
  ·obtain rfl:i=sn:=by omega
   exact aAE v (Ds.map (fun D=>({ target:=.collected D,args:=#[] } : Deferred))) s31 s32 Q1 fun zs hz hzx=>hx1 rfl zs hz (back zs hzx)
 refine key _ (fun hlt zs D W' vI ie hz hzx hz32 h1 h2 h3 h4 h5 h6=>And.intro ⟨zs,i+1,D::Ds,vI,ie,rfl,hz,hzx,by rw[hz32];rfl,by omega,h1,h2,h3,?_,?_,by have:=h6.size;omega⟩ ?_) (fun he zs hz h=>hexit zs Ds W vI ie hz h hos (by rw[hmap,he,←HL.out,List.take_length]) hds hnd fun e he=>(hdx.2.2 e he).2)
 ·intro D' hD'
  rcases List.mem_cons.1 hD' with rfl|hD'
  ·exact⟨by omega,h4⟩
  ·exact⟨(hds D' hD').1,h6.same D' _ (hds D' hD').2 rfl⟩
 ·refine List.nodup_cons.2 ⟨fun hm=>?_,hnd⟩
  have:=(Array.getElem?_eq_some_iff.1 (hds D hm).2).1
  omega
 ·simp[Array.getD_eq_getD_getElem?,hz32,hy32,intOf]
  omega
theorem oW_ {f:Fr} {ss:List Sh} {ie:List (Ik×Nat×Nat)} (hmap:ie.map (·.1)=aF_ f ss) {e:Ik×Nat×Nat} (he:e∈ie):0<sumL e.1.cells:=by
 have hm:e.1∈aF_ f ss:=by rw[←hmap];exact List.mem_map.2 ⟨e,he,rfl⟩
 obtain⟨s,_,hs⟩:=eW_ hm
 obtain⟨e1,h⟩:=dI_ hs
 rw[e1]
 exact h
theorem aOY {ie:List (Ik×Nat×Nat)} (hp:∀e∈ie,0<sumL e.1.cells):∀x∈inkR ie,x.2≠[]:=by
 intro x hx
 obtain⟨e,he,rfl⟩:=List.mem_map.1 hx
 have:=hp e he
 intro h0
 have hl:=congrArg List.length h0
 rw[hC_] at hl
 rw[List.length_eq_zero_iff.1 hl] at this
 exact absurd this (by decide)
theorem aIF {v:Value} {n X3 X4:Nat} {xs l3:List Value} {ie:List (Ik×Nat×Nat)} {w W:World} (h:OsAt 79 2 v n xs ((X3,l3)::(X4,frC ⟨0,0,0,0,0⟩ (.slice none 0 0))::inkR ie) w W) {e:Ik×Nat×Nat} (he:e∈ie) (hp:0<sumL e.1.cells):X4≠e.2.1:=by
 intro hx
 have hr:=h.az.row (e.2.1,icC e.1.cells) (by simp only[List.mem_cons];exact .inr (.inr (List.mem_map.2 ⟨e,he,rfl⟩)))
 have hb:=h.az.row (X4,frC ⟨0,0,0,0,0⟩ (.slice none 0 0)) (by simp)
 have hc:∀(i:Nat) (c:Int) (u:Value),e.1.cells[i]?=some c→(frC ⟨0,0,0,0,0⟩ (.slice none 0 0))[i]?=some u→u=.int .i64 c:=fun i c u h1 h2=>by
  have k1:=hr.row i _ (fZ_ h1)
  have k2:=hb.row i u h2
  simp only at k1 k2
  rw[hx,k1] at k2
  exact(Option.some.inj k2).symm
 have h5:e.1.cells[5]?=none:=by
  cases h:e.1.cells[5]? with
  | none=>rfl
  | some c=>exact absurd (hc 5 c _ h rfl) (by simp)
 have hz:∀c∈e.1.cells,c=0:=fun c hm=>by
  obtain⟨i,hi,e1⟩:=List.getElem_of_mem hm
  have hi5:i<5:=by have:=List.getElem?_eq_none_iff.1 h5;omega
  have h1:e.1.cells[i]?=some c:=by rw[List.getElem?_eq_getElem hi,e1]
  match i,hi5,h1 with
  | 0,_,h1=>have:=hc 0 c _ h1 rfl;injection this with _ this;exact this.symm
  | 1,_,h1=>have:=hc 1 c _ h1 rfl;injection this with _ this;exact this.symm
  | 2,_,h1=>have:=hc 2 c _ h1 rfl;injection this with _ this;exact this.symm
  | 3,_,h1=>have:=hc 3 c _ h1 rfl;injection this with _ this;exact this.symm
  | 4,_,h1=>have:=hc 4 c _ h1 rfl;injection this with _ this;exact this.symm
 obtain⟨c,hm,hc0⟩:=(iI_ fun c hm=>by rw[hz c hm];exact Int.le_refl _).1 hp
 rw[hz c hm] at hc0
 exact absurd hc0 (by decide)
theorem aIE {f:Fr} {v:Value} {n X3 X4:Nat} {xs l3:List Value} {ie:List (Ik×Nat×Nat)} {w W:World} (h:OsAt 79 2 v n xs ((X3,l3)::(X4,frC ⟨0,0,0,0,0⟩ (.slice none 0 0))::inkR ie) w W) (hX4:w.heap.size≤X4) (hp:∀e∈ie,0<sumL e.1.cells) :
  OsAt 79 2 v n xs ((X4,frC f v)::inkR ie) w ((((((W.setCell ⟨X4,0,none⟩ (.int .i64 f.x)).setCell ⟨X4,1,none⟩ (.int .i64 f.y)).setCell ⟨X4,2,none⟩ (.int .i64 f.w)).setCell ⟨X4,3,none⟩ (.int .i64 f.h)).setCell ⟨X4,4,none⟩ (.int .i64 f.s)).setCell ⟨X4,5,none⟩ v):=by
 have hd:∀x∈inkR ie,X4≠x.1:=fun x hx=>by
  obtain⟨e,he,rfl⟩:=List.mem_map.1 hx
  exact aIF h he (hp e he)
 have h0:=h.sub (R':=(X4,frC ⟨0,0,0,0,0⟩ (.slice none 0 0))::inkR ie) (fun x hx=>List.mem_cons_of_mem _ hx)
 exact(((((h0.set hX4 hd (i:=0) rfl (.int .i64 f.x)).set hX4 hd (i:=1) rfl (.int .i64 f.y)).set hX4 hd (i:=2) rfl (.int .i64 f.w)).set hX4 hd (i:=3) rfl (.int .i64 f.h)).set hX4 hd (i:=4) rfl (.int .i64 f.s)).set hX4 hd (i:=5) rfl v
theorem mO_ {w:World} {sa:Option Addr} {sn sc:Nat} {ss:List Sh} {f:Fr} (HI:Hid (IOps w∧FrOp w)) (HF:Hid (FrOk f)) (HS:Hid (ShsAt sa ss w)) (HL:Hid (ss.length=sn)) (hn:sn≤20) (HO:Hid (∀s∈ss,okSh s=true)) (HA:Hid (∀(i:Nat) (a b:Sh),ss[i]?=some a→ss[i+1]?=some b→a.code<b.code)) :
  Calls Tryz.prog 41 #[.slice sa sn sc,.agg #[.int .i64 f.x,.int .i64 f.y,.int .i64 f.w,.int .i64 f.h,.int .i64 f.s,.slice none 0 0]] w fun e W'=>(∃a c,e=.returned (.tuple #[.agg #[.int .i64 f.x,.int .i64 f.y,.int .i64 f.w,.int .i64 f.h,.int .i64 f.s,.slice a (aF_ f ss).length c],.int .i64 0])∧bM_ w.heap.size a (aF_ f ss) W')∧Below w.heap.size w W':=by
 refine(callsIn_wide (n:=3)).1 ?_
 refine callsIn_of_wp_marks Tryz.func41 rfl trivial ?_ rfl
 simp only[Tryz.ntmps41,List.size_toArray,List.length_cons,List.length_nil,Nat.reduceAdd,Nat.reduceSub,Array.replicate_succ,Array.replicate_zero,List.push_toArray,List.append_toArray,List.nil_append,List.cons_append]
 have KF:=hid (fun W=>qW_ f none 0 0 W)
 have hfb:frB f=true:=nG_.2 HF.out
 rw[hfb] at KF
 have H0:=hid (((AzAt.start w).push (frC f (.slice none 0 0)) 58).push (frC ⟨0,0,0,0,0⟩ (.slice none 0 0)) 58)
 simp only[World.size_alloc] at H0
 have n1:decide ((sn:Int) > 20)=false:=decide_eq_false (by omega)
 have n2:¬(20:Int)<(sn:Int):=by omega
 have n3:decide ((20:Int)<(sn:Int))=false:=decide_eq_false (by omega)
 clear hfb
 gi_wp2_with (first
  | (refine⟨trivial,?_⟩;gi_at_call 104;(with_reducible refine(callsIn_wide.2 (KF.out _)).mono ?_);rintro e u1 ⟨rfl,hb⟩;have H1:=hid (H0.out.below hb);clear hb;have h_:=H1.out.at (B:=w.heap.size) (l:=frC f (.slice none 0 0)) (by simp);have x5:=h_.row 5 _ rfl;have f5:=h_.fz 5 (by simp[frC]);clear h_)
  | fail)
 have H2:=hid (show AzAt [(w.heap.size,frC f (.slice none 0 0)),(w.heap.size+1,frC ⟨0,0,0,0,0⟩ (.slice none 0 0))] w (u1.setCell ⟨w.heap.size,5,none⟩ (.slice none 0 0)) from(H1.out.sub (L':=[(w.heap.size,frC f (.slice none 0 0)),(w.heap.size+1,frC ⟨0,0,0,0,0⟩ (.slice none 0 0))]) (by simp)).set (Nat.le_refl _) (by simp) (i:=5) rfl (.slice none 0 0))
 obtain⟨W0,hW0⟩:∃W,W=u1.setCell ⟨w.heap.size,5,none⟩ (.slice none 0 0):=⟨_,rfl⟩
 rw[←hW0] at H2⊢
 clear hW0 x5 f5 H1 H0
 refine aAD _ HI HF HS HL hn HO HA rfl ⟨rfl,rfl,rfl,rfl,rfl,rfl⟩ rfl (OsAt.nil H2.out _ _) ⟨Nat.le_refl _,by omega⟩ _ ?_
 intro ys Ds W vI ie hyl hyx hos hmap hds hnd hcaps
 obtain⟨ia,ic,rfl,_⟩:=CsAt.own hos
 obtain⟨v,hv,hvv⟩:=pR_ ys hyl
 have s3:=Option.some.inj ((hvv 3 (by omega)).symm.trans hyx.2.1)
 have s4:=Option.some.inj ((hvv 4 (by omega)).symm.trans hyx.2.2.1)
 have s5:=Option.some.inj ((hvv 5 (by omega)).symm.trans hyx.2.2.2.1)
 obtain⟨g,hg⟩:∃g:Nat,g=w.heap.size+1:=⟨_,rfl⟩
 rw[hv,s3,s4,s5]
 have z0:=hos.az.ce 0 0 rfl rfl
 have z1:=hos.az.ce 0 1 rfl rfl
 have z2:=hos.az.ce 0 2 rfl rfl
 have z3:=hos.az.ce 0 3 rfl rfl
 have z4:=hos.az.ce 0 4 rfl rfl
 have z5:=hos.az.ce 0 5 rfl rfl
 have y0:=hos.az.ce 1 0 rfl rfl
 have y1:=hos.az.ce 1 1 rfl rfl
 have y2:=hos.az.ce 1 2 rfl rfl
 have y3:=hos.az.ce 1 3 rfl rfl
 have y4:=hos.az.ce 1 4 rfl rfl
 have y5:=hos.az.ce 1 5 rfl rfl
 have q0:=hos.az.cf 1 0 rfl rfl
 have q1:=hos.az.cf 1 1 rfl rfl
 have q2:=hos.az.cf 1 2 rfl rfl
 have q3:=hos.az.cf 1 3 rfl rfl
 have q4:=hos.az.cf 1 4 rfl rfl
 have q5:=hos.az.cf 1 5 rfl rfl
 have hX4:=(H2.out.row _ (show(w.heap.size+1,frC ⟨0,0,0,0,0⟩ (.slice none 0 0))∈_ by simp)).sz
 have HH:=hid (And.intro hos (And.intro hmap (And.intro hds (And.intro hnd (And.intro hX4 hcaps)))))
 clear hv hvv hyl hyx hos hmap hds hnd hcaps s3 s4 s5 H2 KF hX4
 dsimp only
 gi_wp2
 obtain⟨hos,hmap,hds,hnd,hX4,hcaps⟩:=HH.out
 have hfin:=aIE (f:=f) hos (by omega) fun e he=>oW_ hmap he
 obtain⟨Wf,hWf⟩:∃Wf,Wf=(((((W.setCell ⟨w.heap.size+1,0,none⟩ (.int .i64 f.x)).setCell ⟨w.heap.size+1,1,none⟩ (.int .i64 f.y)).setCell ⟨w.heap.size+1,2,none⟩ (.int .i64 f.w)).setCell ⟨w.heap.size+1,3,none⟩ (.int .i64 f.h)).setCell ⟨w.heap.size+1,4,none⟩ (.int .i64 f.s)).setCell ⟨w.heap.size+1,5,none⟩ (.slice ia ie.length ic):=⟨_,rfl⟩
 have hdf:∀D∈Ds,w.heap.size≤D∧Wf.heap[D]?=Option.some (.deferred (Option.some [])):=fun D hD=>by
  have h1:=hds D hD
  have hne:D≠w.heap.size+1:=by omega
  refine⟨by omega,?_⟩
  rw[hWf,heap_setCell_other _ _ _ _ hne,heap_setCell_other _ _ _ _ hne,heap_setCell_other _ _ _ _ hne,heap_setCell_other _ _ _ _ hne,heap_setCell_other _ _ _ _ hne,heap_setCell_other _ _ _ _ hne]
  exact h1.2
 rw[←hWf] at hfin⊢
 clear hWf
 refine vN_ Ds Wf hnd (fun D hD=>(hdf D hD).2) ?_
 have hsh:=aOL (R:=(w.heap.size+1,frC f (.slice ia ie.length ic))::inkR ie) (fun x hx=>by
  rcases List.mem_cons.1 hx with rfl|hx
  ·simp[frC]
  ·exact aOY (fun e he=>oW_ hmap he) x hx) Ds Wf hnd hdf hfin
 generalize aNY Ds Wf=V at hsh
 have x0:=hsh.az.ce 0 0 rfl rfl
 have x1:=hsh.az.ce 0 1 rfl rfl
 have x2:=hsh.az.ce 0 2 rfl rfl
 have x3:=hsh.az.ce 0 3 rfl rfl
 have x4:=hsh.az.ce 0 4 rfl rfl
 have x5:=hsh.az.ce 0 5 rfl rfl
 obtain⟨a,c,ea,hik⟩:=tL_ hsh (fun x hx=>by simp[hx]) (fun e he=>(hcaps e he).1) (fun e he=>(hcaps e he).2)
 injection ea with ea1 _ ea2
 subst ea1 ea2
 rw[hmap] at hik
 have hln:(aF_ f ss).length=ie.length:=by rw[←hmap,List.length_map]
 refine⟨.tuple #[.agg #[.int .i64 f.x,.int .i64 f.y,.int .i64 f.w,.int .i64 f.h,.int .i64 f.s,.slice ia ie.length ic],.int .i64 0],?_,⟨ia,⟨ic,by rw[hln]⟩,hik⟩,hsh.az.bw⟩
 simp[results,Tryz.results41,go_sem,Result.andThen,x0,x1,x2,x3,x4,x5]
theorem sS_ (W x y w j:Nat) (cs:List Int):regC W x y w (j+1) cs=regC W x y w j cs++(cs.drop ((y+j)*W+x)).take w:=by
 unfold regC
 rw[List.range_succ,List.flatMap_append,List.flatMap_singleton]
theorem aJP {W H x y w h:Nat} {cs:List Int} (hc:cs.length=W*H) (hx:x+w≤W) (hy:y+h≤H):(regC W x y w h cs).length=h*w:=by
 induction h with
 | zero=>simp[regC]
 | succ j ih=>
  have:=aDR (H:=H) (W:=W) (x:=x) (y:=y) (w:=w) (h:=j+1) (j:=j) hx hy (by omega)
  rw[sS_,List.length_append,ih (by omega),List.length_take,List.length_drop,hc,show(j+1)*w=j*w+w by rw[Nat.add_mul,Nat.one_mul]]
  omega
theorem aPA {l:List Int} {T wd j:Nat} {u:Value} (h:(icC ((l.drop T).take wd))[j]?=some u):(icC l)[T+j]?=some u:=by
 unfold icC at *
 rw[List.map_take,List.map_drop,List.getElem?_take] at h
 split at h
 ·rw[List.getElem?_drop] at h
  exact h
 ·cases h
theorem OsAt.turn {e:TypeId} {s n n':Nat} {v:Value} {xs xs':List Value} {R:List (Nat×List Value)} {w W:World} (h:OsAt e s v n xs R w W) (hn:n'=n) (hx:xs'=xs):OsAt e s v n' xs' R w W:=hn▸hx▸h
theorem aOX {X3 gc cc np:Nat} {l3:List Value} {vI v9:Value} {ie:List (Ik×Nat×Nat)} {RX Rc:List (Nat×List Value)} {w W10 u3 w9:World} {cd:Int} {cl:List Int} {t:TypeId}
  (h:OsAt 79 2 vI ie.length (inkV ie) ((X3,l3)::(RX++inkR ie)) w u3) (h5:l3[5]?=some vI) (hd:∀x∈RX,X3≠x.1) (hne:∀e∈ie,X3≠e.2.1∧e.1.cells.length≤e.2.2∧w.heap.size≤e.2.1) (hX:w.heap.size≤X3∧X3<W10.heap.size) (hg0:∀k,vI.ownBlock=some k→k<W10.heap.size)
  (hc:OsAt 3 1 (.slice (some ⟨gc,0,none⟩) np cc) np (icC cl) Rc W10 u3) (hnp:cl.length=np)
  (hown:w9.ownsRow w.heap.size 79 2 v9 (ie.length+1) (inkV ie++[.int .i64 cd,.slice (some ⟨gc,0,none⟩) np cc])) (hg:(u3.alloc (.cells #[.int .i64 cd,.slice (some ⟨gc,0,none⟩) np cc] t)).grownBy w9 vI.ownBlock)
  (hat:v9.ownBlock=vI.ownBlock∨v9.ownBlock=some (u3.alloc (.cells #[.int .i64 cd,.slice (some ⟨gc,0,none⟩) np cc] t)).heap.size) :
  (w9.cell? ⟨X3,5,none⟩=some vI∧w9.frozen? ⟨X3,5,none⟩=false)∧OsAt 79 2 v9 (ie++[((⟨cd,cl⟩:Ik),gc,cc)]).length (inkV (ie++[((⟨cd,cl⟩:Ik),gc,cc)])) ((X3,l3.set 5 v9)::(RX++inkR (ie++[((⟨cd,cl⟩:Ik),gc,cc)]))) w (w9.setCell ⟨X3,5,none⟩ v9)∧
   (∀e∈ie++[((⟨cd,cl⟩:Ik),gc,cc)],X3≠e.2.1∧e.1.cells.length≤e.2.2∧w.heap.size≤e.2.1):=by
 have hgc:W10.heap.size≤gc∧gc<u3.heap.size:=⟨(hc.blk rfl).2.1,(hc.blk rfl).1⟩
 have h8:=h.al (.cells #[.int .i64 cd,.slice (some ⟨gc,0,none⟩) np cc] t)
 have h9:=h8.grown hown hg hat
 have hgne:vI.ownBlock≠some gc:=fun e=>by have:=hg0 _ e;omega
 have har:ArAt gc (icC cl) w9:=((hc.ar rfl).al _).of_block (hg.block gc (by simp;omega) (fun e=>hgne e.symm)) hg.size
 have h10:=h9.cons har (by
  rcases hat with e|e
  ·rw[e];exact hgne
  ·rw[e]
   intro k
   have:=Option.some.inj k
   simp at this
   omega)
 have hrow:=h9.az.row (X3,l3) (by simp)
 have hcap:np≤cc:=by
  rcases hc.own.2 with ⟨e,_⟩|⟨g,c,cur,e,_,_,h3,_⟩
  ·cases e
  ·injection e with _ _ e
   omega
 have hne':∀e∈ie++[((⟨cd,cl⟩:Ik),gc,cc)],X3≠e.2.1∧e.1.cells.length≤e.2.2∧w.heap.size≤e.2.1:=by
  intro e he
  rcases List.mem_append.1 he with he|he
  ·exact hne e he
  ·rw[List.mem_singleton.1 he]
   exact⟨show X3≠gc by omega,show cl.length≤cc by omega,show w.heap.size≤gc by omega⟩
 refine⟨⟨hrow.row 5 vI h5,hrow.fz 5 (List.getElem?_eq_some_iff.1 h5).1⟩,?_,hne'⟩
 have h11:=(h10.sub (R':=(X3,l3)::(RX++inkR (ie++[((⟨cd,cl⟩:Ik),gc,cc)]))) (fun x hx=>by
  rw[tO_] at hx
  simp only[List.mem_cons,List.mem_append,List.not_mem_nil,or_false] at hx⊢
  rcases hx with hx|hx|hx|hx <;> simp[hx])).set (B:=X3) (i:=5) hX.1 (fun x hx'=>by
   rcases List.mem_append.1 hx' with hx'|hx'
   ·exact hd x hx'
   ·obtain⟨e,he,rfl⟩:=List.mem_map.1 hx'
    exact(hne' e he).1) h5 v9
 rw[List.length_append,tN_]
 show OsAt _ _ _ (ie.length+1) (inkV ie++[.int .i64 cd,.slice (some ⟨gc,0,none⟩) cl.length cc]) _ _ _
 rw[hnp]
 exact h11
def wW_ (f:Fr) (ks:List Ik) (w:World) (e:Ending) (W':World):Prop:=∃a c,e=.returned (.tuple #[.agg #[.int .i64 f.x,.int .i64 f.y,.int .i64 f.w,.int .i64 f.h,.int .i64 f.s,.slice a ks.length c],.int .i64 0])∧bM_ w.heap.size a ks W'∧Below w.heap.size w W'
theorem xW_ {f:Fr} {a:Option Addr} {n c x y wd hd:Nat} {ks:List Ik} (hl:ks.length=n) (hv:bK_ f ks=true) (hx:x+wd≤f.w.toNat) (hy:y+hd≤f.h.toNat) (h1:1≤wd) (h2:1≤hd) (w:World) (h:InksAt a ks w) :
  Calls Tryz.prog 51 #[.agg #[.int .i64 f.x,.int .i64 f.y,.int .i64 f.w,.int .i64 f.h,.int .i64 f.s,.slice a n c],.int .i64 (x:Int),.int .i64 (y:Int),.int .i64 (wd:Int),.int .i64 (hd:Int)] w (wW_ (regF f x y wd hd) (ks.filterMap (regK f.w.toNat x y wd hd)) w):=by
 have P:=bO_.1 hv
 have b1:=P.fr.w1;have b2:=P.fr.w2;have b3:=P.fr.h1;have b4:=P.fr.hh;have b5:=P.fr.s1;have b6:=P.fr.s2;have b7:=P.fr.x1;have b8:=P.fr.x2;have b9:=P.fr.y1;have b10:=P.fr.y2
 have hh400:f.h≤400:=by have:=Int.mul_le_mul_of_nonneg_right (show(1:Int)≤f.w by omega) (show 0≤f.h by omega);omega
 obtain⟨Wn,hWn⟩:∃Wn:Nat,f.w=(Wn:Int):=⟨f.w.toNat,by omega⟩
 obtain⟨Hn,hHn⟩:∃Hn:Nat,f.h=(Hn:Int):=⟨f.h.toNat,by omega⟩
 have eW:f.w.toNat=Wn:=by omega
 have eH:f.h.toNat=Hn:=by omega
 have KV:=hid (fun W (h:InksAt a ks W)=>by have:=gJ_ (f:=f) (c:=c) hl W h;rw[hv] at this;exact this)
 have H0:=hid (show AzAt [(w.heap.size+1,frC ⟨0,0,0,0,0⟩ (.slice none 0 0)),(w.heap.size,frC f (.slice a n c))] w ((w.alloc (.cells #[.int .i64 f.x,.int .i64 f.y,.int .i64 f.w,.int .i64 f.h,.int .i64 f.s,.slice a n c] 58)).alloc (.cells #[.int .i64 0,.int .i64 0,.int .i64 0,.int .i64 0,.int .i64 0,.slice none 0 0] 58)) from by
  have hp:=((AzAt.start w).push (frC f (.slice a n c)) 58).push (frC ⟨0,0,0,0,0⟩ (.slice none 0 0)) 58
  simp only[World.size_alloc] at hp
  exact hp)
 have HP0:=hid (h.below H0.out.bw)
 have HL:=hid hl
 have HP:=hid h
 have HK:=hid P
 have hn20:n≤20:=by rw[←hl];exact P.len
 have m1:=Int.mul_nonneg (show(0:Int)≤(x:Int) by omega) (show 0≤f.s by omega)
 have m2:=Int.mul_nonneg (show(0:Int)≤(y:Int) by omega) (show 0≤f.s by omega)
 have m3:=Int.mul_le_mul_of_nonneg_right (show(x:Int)≤f.w by omega) (show 0≤f.s by omega)
 have m4:=Int.mul_le_mul_of_nonneg_right (show(y:Int)≤f.h by omega) (show 0≤f.s by omega)
 have HRF:=hid (show regF f x y wd hd=⟨f.x+(x:Int)*f.s,f.y+(y:Int)*f.s,wd,hd,f.s⟩ from rfl)
 have g1:IntKind.i64.wrap ((x:Int)*f.s)=(x:Int)*f.s:=IntWalk.i64_in _ (by omega)
 have g2:IntKind.i64.wrap ((y:Int)*f.s)=(y:Int)*f.s:=IntWalk.i64_in _ (by omega)
 have g3:IntKind.i64.wrap (f.x+(x:Int)*f.s)=f.x+(x:Int)*f.s:=IntWalk.i64_in _ (by omega)
 have g4:IntKind.i64.wrap (f.y+(y:Int)*f.s)=f.y+(y:Int)*f.s:=IntWalk.i64_in _ (by omega)
 have g5:IntKind.i64.wrap (f.w-1)=f.w-1:=IntWalk.i64_in _ (by omega)
 have g6:IntKind.i64.wrap (f.h-1)=f.h-1:=IntWalk.i64_in _ (by omega)
 have g7:IntKind.i64.wrap (f.w-(x:Int))=f.w-(x:Int):=IntWalk.i64_in _ (by omega)
 have g8:IntKind.i64.wrap (f.h-(y:Int))=f.h-(y:Int):=IntWalk.i64_in _ (by omega)
 have c1:=hid (fun W=>eV_ (n:=(x:Int)) (lo:=0) (hi:=f.w-1) (by omega) (by omega) W)
 have c2:=hid (fun W=>eV_ (n:=(y:Int)) (lo:=0) (hi:=f.h-1) (by omega) (by omega) W)
 have c3:=hid (fun W=>eV_ (n:=(wd:Int)) (lo:=1) (hi:=f.w-(x:Int)) (by omega) (by omega) W)
 have c4:=hid (fun W=>eV_ (n:=(hd:Int)) (lo:=1) (hi:=f.h-(y:Int)) (by omega) (by omega) W)
 obtain⟨i0,hi0,hz0,hz1,hz2⟩:=info_parts qU_
 obtain⟨i9,hi1,hy0,hy1,hy2⟩:=info_parts lO_
 have hx':(x:Int)+wd≤f.w:=by omega
 have hy':(y:Int)+hd≤f.h:=by omega
 have HWN:=hid (And.intro hWn (And.intro hHn (And.intro eW eH)))
 have HXY:=hid (And.intro hx hy)
 clear hl hv h P hWn hHn eW eH hx hy
 go_enter Tryz.func51,Tryz.ntmps51
 go_wp2_with (first
  | (go_at_call 53;(with_reducible refine(KV.out _ HP0.out).mono ?_);rintro e u1 ⟨rfl,hb⟩;have H1:=hid (H0.out.below hb);clear hb;have x2:=H1.out.ce 1 2 rfl rfl)
  | (go_at_call 119;(with_reducible refine(c1.out _).mono ?_);rintro e u2 ⟨rfl,hb⟩;have H2:=hid (H1.out.below hb);clear hb x2;have x3:=H2.out.ce 1 3 rfl rfl)
  | (go_at_call 119;(with_reducible refine(c2.out _).mono ?_);rintro e u3 ⟨rfl,hb⟩;have H3:=hid (H2.out.below hb);clear hb x3;have x2:=H3.out.ce 1 2 rfl rfl)
  | (go_at_call 119;(with_reducible refine(c3.out _).mono ?_);rintro e u4 ⟨rfl,hb⟩;have H4:=hid (H3.out.below hb);clear hb x2;have x3:=H4.out.ce 1 3 rfl rfl)
  | (go_at_call 119;(with_reducible refine(c4.out _).mono ?_);rintro e u5 ⟨rfl,hb⟩;have H5:=hid (H4.out.below hb);clear hb x3;have x0:=H5.out.ce 1 0 rfl rfl;have x1:=H5.out.ce 1 1 rfl rfl;have x4:=H5.out.ce 1 4 rfl rfl;have x5:=H5.out.ce 1 5 rfl rfl;have HQ:=hid (show AzAt [(u5.heap.size,frC (regF f x y wd hd) (.slice none 0 0)),(w.heap.size+1,frC ⟨0,0,0,0,0⟩ (.slice none 0 0)),(w.heap.size,frC f (.slice a n c))] w (u5.alloc (.cells #[.int .i64 (f.x+(x:Int)*f.s),.int .i64 (f.y+(y:Int)*f.s),.int .i64 (wd:Int),.int .i64 (hd:Int),.int .i64 f.s,.slice none 0 0] 58)) from H5.out.push (frC (regF f x y wd hd) (.slice none 0 0)) 58);have x5':=HQ.out.ce 2 5 rfl rfl)
  | fail)
 clear x0 x1 x4 x5 x5' c1 c2 c3 c4 g1 g2 g3 g4 g5 g6 g7 g8 KV H0 H1 H2 H3 H4 HP0
 obtain⟨X12,hX12⟩:∃X,X=u5.heap.size:=⟨_,rfl⟩
 obtain⟨W6,hW6⟩:∃W,W=u5.alloc (.cells #[.int .i64 (f.x+(x:Int)*f.s),.int .i64 (f.y+(y:Int)*f.s),.int .i64 (wd:Int),.int .i64 (hd:Int),.int .i64 f.s,.slice none 0 0] 58):=⟨_,rfl⟩
 rw[←hX12,←hW6] at HQ⊢
 have hXw:w.heap.size+1<X12:=by rw[hX12];exact(H5.out.row _ (show(w.heap.size+1,frC ⟨0,0,0,0,0⟩ (.slice none 0 0))∈_ by simp)).sz
 have HX12:=hid hXw
 clear hX12 hW6 H5 hXw
 have HS:=hid (show OsAt 79 2 (.slice none 0 0) ([]:List (Ik×Nat×Nat)).length (inkV ([]:List (Ik×Nat×Nat))) ((X12,frC (regF f x y wd hd) (.slice none 0 0))::([(w.heap.size+1,frC ⟨0,0,0,0,0⟩ (.slice none 0 0)),(w.heap.size,frC f (.slice a n c))]++inkR ([]:List (Ik×Nat×Nat)))) w W6 from(OsAt.nil HQ.out _ _))
 go_loopw [78] (fun v78 wr=>∃(i:Nat) (ia:Option Addr) (ic:Nat) (ie:List (Ik×Nat×Nat)),i≤n∧v78=.int .i64 (i:Int)∧OsAt 79 2 (.slice ia ie.length ic) ie.length (inkV ie) ((X12,frC (regF f x y wd hd) (.slice ia ie.length ic))::([(w.heap.size+1,frC ⟨0,0,0,0,0⟩ (.slice none 0 0)),(w.heap.size,frC f (.slice a n c))]++inkR ie)) w wr∧ie.map (·.1)=(ks.take i).filterMap (regK f.w.toNat x y wd hd)∧(∀e∈ie,X12≠e.2.1∧e.1.cells.length≤e.2.2∧w.heap.size≤e.2.1)) (fun v78 _=>n-(intOf v78).toNat)
 case atStart=>exact⟨0,none,0,[],Nat.zero_le _,rfl,HS.out,rfl,fun e he=>by cases he⟩
 case round=>
  obtain⟨i,ia,ic,ie,hi,rfl,ho,hmap,hne⟩:=hrel
  have HO:=hid ho
  have HMP:=hid hmap
  have HNE:=hid hne
  clear ho hmap hne
  have hie:ie.length≤20:=by
   have h1:=congrArg List.length HMP.out
   rw[List.length_map] at h1
   have h2:((ks.take i).filterMap (regK f.w.toNat x y wd hd)).length≤(ks.take i).length:=List.length_filterMap_le _ _
   rw[List.length_take,HL.out] at h2
   omega
  have hXr:X12<wr.heap.size:=(HO.out.az.row _ (show(X12,frC (regF f x y wd hd) (.slice ia ie.length ic))∈_ by simp)).sz
  have HXR:=hid hXr
  clear hXr
  by_cases hlt:i<n
  case neg=>
   obtain rfl:i=n:=by omega
   have HMA:=hid (show ie.map (·.1)=ks.filterMap (regK f.w.toNat x y wd hd) by rw[HMP.out,List.take_of_length_le (by rw[HL.out];exact Nat.le_refl _)])
   have HPS:=hid (show ∀e∈ie,0<sumL e.1.cells from fun e he=>by
    have hm:e.1∈ks.filterMap (regK f.w.toNat x y wd hd):=by rw[←HMA.out];exact List.mem_map.2 ⟨e,he,rfl⟩
    obtain⟨k,_,hk⟩:=List.mem_filterMap.1 hm
    unfold regK at hk
    split at hk
    ·next h0=>rw[←Option.some.inj hk];exact h0
    ·cases hk)
   have z0:=HO.out.az.ce 0 0 rfl rfl
   have z1:=HO.out.az.ce 0 1 rfl rfl
   have z2:=HO.out.az.ce 0 2 rfl rfl
   have z3:=HO.out.az.ce 0 3 rfl rfl
   have z4:=HO.out.az.ce 0 4 rfl rfl
   have z5:=HO.out.az.ce 0 5 rfl rfl
   have y0:=HO.out.az.ce 1 0 rfl rfl
   have y1:=HO.out.az.ce 1 1 rfl rfl
   have y2:=HO.out.az.ce 1 2 rfl rfl
   have y3:=HO.out.az.ce 1 3 rfl rfl
   have y4:=HO.out.az.ce 1 4 rfl rfl
   have y5:=HO.out.az.ce 1 5 rfl rfl
   have q0:=HO.out.az.cf 1 0 rfl rfl
   have q1:=HO.out.az.cf 1 1 rfl rfl
   have q2:=HO.out.az.cf 1 2 rfl rfl
   have q3:=HO.out.az.cf 1 3 rfl rfl
   have q4:=HO.out.az.cf 1 4 rfl rfl
   have q5:=HO.out.az.cf 1 5 rfl rfl
   have HFI:=hid (aIE (f:=regF f x y wd hd) (X4:=w.heap.size+1) (HO.out.sub (R':=(X12,frC (regF f x y wd hd) (.slice ia ie.length ic))::(w.heap.size+1,frC ⟨0,0,0,0,0⟩ (.slice none 0 0))::inkR ie) (fun z hz=>by simp only[List.mem_cons] at hz;rcases hz with hz|hz|hz <;> simp[hz])) (by omega) HPS.out)
   obtain⟨qx,hqx⟩:∃q,q=(regF f x y wd hd).x:=⟨_,rfl⟩
   obtain⟨qy,hqy⟩:∃q,q=(regF f x y wd hd).y:=⟨_,rfl⟩
   rw[←hqx] at z0
   rw[←hqy] at z1
   have HQX:=hid (And.intro hqx hqy)
   clear hqx hqy
   go_wp2
   have hfin:=HFI.out
   rw[←HQX.out.1,←HQX.out.2] at hfin
   obtain⟨Wf,hWf⟩:∃Wf,Wf=(((((wr.setCell ⟨w.heap.size+1,0,none⟩ (.int .i64 qx)).setCell ⟨w.heap.size+1,1,none⟩ (.int .i64 qy)).setCell ⟨w.heap.size+1,2,none⟩ (.int .i64 (regF f x y wd hd).w)).setCell ⟨w.heap.size+1,3,none⟩ (.int .i64 (regF f x y wd hd).h)).setCell ⟨w.heap.size+1,4,none⟩ (.int .i64 (regF f x y wd hd).s)).setCell ⟨w.heap.size+1,5,none⟩ (.slice ia ie.length ic):=⟨_,rfl⟩
   rw[←hWf] at hfin⊢
   clear hWf
   have x0:=hfin.az.ce 0 0 rfl rfl
   have x1:=hfin.az.ce 0 1 rfl rfl
   have x2:=hfin.az.ce 0 2 rfl rfl
   have x3:=hfin.az.ce 0 3 rfl rfl
   have x4:=hfin.az.ce 0 4 rfl rfl
   have x5:=hfin.az.ce 0 5 rfl rfl
   obtain⟨a',c',ea,hik⟩:=tL_ hfin (fun z hz=>by simp[hz]) (fun e he=>(HNE.out e he).2.1) (fun e he=>(HNE.out e he).2.2)
   injection ea with ea1 _ ea2
   subst ea1 ea2
   have hln:(ks.filterMap (regK f.w.toNat x y wd hd)).length=ie.length:=by rw[←HMA.out,List.length_map]
   rw[HMA.out] at hik
   refine bodyPost_ret (v:=.tuple #[.agg #[.int .i64 (regF f x y wd hd).x,.int .i64 (regF f x y wd hd).y,.int .i64 (regF f x y wd hd).w,.int .i64 (regF f x y wd hd).h,.int .i64 (regF f x y wd hd).s,.slice ia ie.length ic],.int .i64 0]) ?_ rfl ⟨ia,ic,by rw[hln],hik,hfin.az.bw⟩
   simp[results,Tryz.results51,go_sem,Result.andThen,x0,x1,x2,x3,x4,x5]
  obtain⟨k,hk⟩:∃k,ks[i]?=some k:=⟨ks[i]'(by rw[HL.out];exact hlt),List.getElem?_eq_getElem _⟩
  obtain⟨b,o,ca,cc,rfl,hbl,c0',c1',hcs,hcc⟩:=HP.out.row i k hk
  have c0:=(HO.out.az.bw.cell (p:=⟨b,o+i*2,none⟩) hbl).trans c0'
  have c1:=(HO.out.az.bw.cell (p:=⟨b,o+i*2+1,none⟩) hbl).trans c1'
  clear c0' c1'
  have i1:(0:Int)≤(i:Int):=by omega
  have i2:(i:Int)<(n:Int):=by omega
  have hN:=HK.out.many k (List.mem_of_getElem? hk)
  obtain⟨Wn,hWn⟩:∃Wn:Nat,Wn=f.w.toNat:=⟨_,rfl⟩
  obtain⟨Hn,hHn⟩:∃Hn:Nat,Hn=f.h.toNat:=⟨_,rfl⟩
  have hNW:npx f=Wn*Hn:=by unfold npx;rw[hWn,hHn]
  have hxy:=HXY.out
  rw[←hWn,←hHn] at hxy
  have hrl:=fun j (hj:j≤hd)=>aJP (cs:=k.cells) (W:=Wn) (H:=Hn) (x:=x) (y:=y) (w:=wd) (h:=j) (by rw[hN,hNW]) hxy.1 (by omega)
  have hnb:=(qP_ HK.out.fr).2
  obtain⟨N,hNe⟩:∃N,N=npx f:=⟨_,rfl⟩
  rw[hN,←hNe] at c1 hcc
  rw[←hNe] at hN hNW hnb
  have hrow:=fun j (hj:j<hd)=>aDR (H:=Hn) (W:=Wn) (x:=x) (y:=y) (w:=wd) (h:=hd) (j:=j) hxy.1 hxy.2 hj
  rw[←hNW] at hrow
  have HKC:=hid (HK.out.cell k (List.mem_of_getElem? hk))
  have HKK:=hid hk
  have HCS:=hid hcs
  have HRL:=hid hrl
  have HRW:=hid hrow
  have HN:=hid hN
  have HNB:=hid (show hd*wd≤N∧N≤400 from⟨by rw[hNW,Nat.mul_comm Wn Hn];exact Nat.mul_le_mul (by omega) (by omega),hnb⟩)
  have hWi:f.w=(Wn:Int):=by omega
  have HWI:=hid (And.intro hWi hWn)
  obtain⟨kc,hkc⟩:∃kc,kc=k.code:=⟨_,rfl⟩
  have HKD:=hid hkc
  rw[←hkc] at c0
  clear hk hcs hrl hrow hN hWi hkc hNe hNW hWn hHn hxy hnb
  obtain⟨X14,hX14⟩:∃X,X=wr.heap.size:=⟨_,rfl⟩
  have H10:=hid (HO.out.push [.int .i64 kc,.slice ca N cc] 79)
  go_wp2
  obtain⟨W10,hW10⟩:∃W,W=wr.alloc (.cells #[.int .i64 kc,.slice ca N cc] 79):=⟨_,rfl⟩
  have hs10:W10.heap.size=X14+1:=by rw[hW10,hX14];simp
  have HC10:=hid (show CsAt ca (icC k.cells) W10 from HCS.out.below (by rw[hW10];exact HO.out.az.bw.alloc HO.out.az.bw.size _))
  rw[←hX14] at H10 HXR⊢
  rw[←hW10] at H10⊢
  clear hX14 hW10 HO
  have hwd:y+hd≤400:=by omega
  go_loopw [15,16] (fun v15 v16 wr=>∃j:Nat,j≤hd∧v16=.int .i64 ((y:Int)+(j:Int))∧OsAt 3 1 v15 (j*wd) (icC (regC Wn x y wd j k.cells)) [] W10 wr) (fun _ v16 _=>y+hd-(intOf v16).toNat)
  case atStart=>exact⟨0,Nat.zero_le _,by simp,by rw[Nat.zero_mul];exact OsAt.nil (AzAt.start W10) _ _⟩
  case round=>
   obtain⟨j,hj,rfl,ho⟩:=hrel
   have HI:=hid ho
   have HS2:=hid (H10.out.below ho.az.bw)
   have x2:=HS2.out.az.ce 3 2 rfl rfl
   have xa:=HS2.out.az.ce 0 1 rfl rfl
   by_cases hjh:j<hd
   ·clear ho
    obtain⟨bc,oc,ea,hbc,hcell⟩:=(HC10.out.below HI.out.az.bw).some (by rw[hC_,HN.out];have:=HRW.out j hjh;omega)
    subst ea
    obtain⟨A,hA⟩:∃A:Nat,A=(y+j)*Wn:=⟨_,rfl⟩
    obtain⟨T,hT⟩:∃T:Nat,T=A+x:=⟨_,rfl⟩
    have hr:=HRW.out j hjh
    rw[←hA,←hT] at hr
    have hN4:=HNB.out.2
    have hAi:((y:Int)+(j:Int))*f.w=(A:Int):=by rw[HWI.out.1,hA,Int.natCast_mul,Int.natCast_add]
    have gA:IntKind.i64.wrap (((y:Int)+(j:Int))*f.w)=(A:Int):=by rw[hAi];exact IntWalk.i64_in _ (by omega)
    have gB:IntKind.i64.wrap ((A:Int)+(x:Int))=(T:Int):=by rw[IntWalk.i64_in _ (by omega)];omega
    have HNX:=hid (show icC (regC Wn x y wd (j+1) k.cells)=icC (regC Wn x y wd j k.cells)++icC ((k.cells.drop T).take wd) by rw[sS_,oY_,hT,hA])
    have HNL:=hid (show(icC ((k.cells.drop T).take wd)).length=wd*1 by rw[hC_,List.length_take,List.length_drop,HN.out];omega)
    have HCL:=hid (show ∀(q:Nat) (u:Value),(icC ((k.cells.drop T).take wd))[q]?=some u→wr.cell? ((⟨bc,oc+T,none⟩:Addr).add q)=some u from fun q u hu=>by
     have:=hcell (T+q) u (aPA hu)
     rw[show(⟨bc,oc+T,none⟩:Addr).add q=⟨bc,oc+(T+q),none⟩ by by_cases hq:q=0 <;> simp[Addr.add,hq,Nat.add_assoc]]
     exact this)
    have hjw:j*wd≤400:=by
     have:=Nat.mul_le_mul_right wd hj
     have:=HNB.out.1
     omega
    have t1:decide ((y:Int)+(j:Int)<(y:Int)+(hd:Int))=true:=decide_eq_true (by omega)
    have t2:(0:Int)≤(T:Int):=by omega
    have t3:(T:Int)+(wd:Int)≤(cc:Int):=by omega
    have t4:T+wd≤cc:=by omega
    have t5:T<cc:=by omega
    have t6:T+wd-T=wd:=by omega
    have t7:(T:Int)+(wd:Int)-(T:Int)=(wd:Int):=by omega
    have t8:((T:Int)+(wd:Int)).toNat=T+wd:=by omega
    have HJ:=hid hj
    clear hA hT hAi hcell
    have HN1:=hid (aFU ((k.cells.drop T).take wd))
    generalize icC ((k.cells.drop T).take wd)=news at HNX HNL HCL HN1
    generalize icC (regC Wn x y wd j k.cells)=xs at HI HNX
    generalize hjn:j*wd=jn at HI hjw
    have HJN:=hid hjn
    clear hjn
    go_wp2_with (first
     | (at_builtin;refine wpList_append_own_at _ rfl _ _ 77 rfl W10.heap.size 3 i0 (.int .i64 0) 1 8 Tryz.underlying77 hi0 hz0 hz1 hz2 rfl (by decide) u15 jn xs rfl HI.out.own ⟨bc,oc+T,none⟩ wd wd news rfl HNL.out HCL.out HN1.out (by unfold maxLen;omega) (by omega) HI.out.az.bw.size ?_;intro v5 w5 hown' hgrow _ hat;have HJ5:=hid (HI.out.grown hown' hgrow hat);clear hown' hgrow hat)
     | fail)
    exact⟨⟨j+1,by omega,by rw[show((j+1:Nat):Int)=(j:Int)+1 by omega,Int.add_assoc],HJ5.out.turn (by rw[←HJN.out,Nat.add_mul,Nat.one_mul]) HNX.out⟩,by simp only[intOf];omega⟩
   ·obtain rfl:j=hd:=by omega
    have hpos:1≤j*wd:=Nat.mul_pos h2 h1
    obtain⟨gc,c5,rfl⟩:=tE_ ho hpos
    have HCL:=hid (HRL.out j (Nat.le_refl _))
    have hnp:=HNB.out
    obtain⟨np,hnpe⟩:∃np,np=j*wd:=⟨_,rfl⟩
    rw[←hnpe] at hpos hnp HCL HI ho⊢
    have HCB:=hid (show ∀u∈regC Wn x y wd j k.cells,0≤u∧u≤4096 from fun u hu=>HKC.out u (vB_ _ _ _ _ _ _ u hu))
    have HFM:=hid (show(ks.take (i+1)).filterMap (regK f.w.toNat x y wd j)=(ks.take i).filterMap (regK f.w.toNat x y wd j)++(if 0<sumL (regC Wn x y wd j k.cells) then [⟨k.code,regC Wn x y wd j k.cells⟩] else []) by
     rw[List.take_add_one,HKK.out,List.filterMap_append,←HWI.out.2]
     congr 1
     show[k].filterMap _=_
     rw[List.filterMap_cons]
     unfold regK
     split <;> simp_all)
    rw[←HKD.out] at HFM
    generalize hcl:regC Wn x y wd j k.cells=cl at HCL HI ho HCB HFM
    clear hcl
    have K5:=hid (aJD (a:=some ⟨gc,0,none⟩) (cap:=c5) HCL.out (by omega) HCB.out wr (CsAt.of_ar (ho.ar rfl)))
    have xc:=HS2.out.az.ce 0 0 rfl rfl
    have HSU:=hid (show 0<sumL cl∨¬0<sumL cl from Decidable.em _)
    generalize sumL cl=su at K5 HFM HSU
    have hq:decide ((y:Int)+(j:Int)<(y:Int)+(j:Int))=false:=decide_eq_false (by omega)
    have hXX:=HXR.out
    clear ho x2 xa hnpe
    rcases HSU.out with hps|hng
    ·have e1:decide (0<su)=true:=decide_eq_true hps
     rw[if_pos hps] at HFM
     go_wp2_with (first
      | (go_at_call 107;(with_reducible refine K5.out.mono ?_);rintro e u7 ⟨rfl,hb⟩;have H7:=hid (HS2.out.below hb);have HI7:=hid (HI.out.below hb);clear hb xc;have xc:=H7.out.az.ce 0 0 rfl rfl;have x5:=H7.out.az.ce 1 5 rfl rfl)
      | (at_builtin;refine wpList_append_own_at _ rfl _ _ 56 rfl w.heap.size 79 i9 (.agg #[.int .i64 0,.slice none 0 0]) 2 32 Tryz.underlying56 hi1 hy0 hy1 hy2 rfl (by decide) (.slice ia ie.length ic) ie.length (inkV ie) rfl (H7.out.al _).own ⟨u7.heap.size,0,none⟩ 1 1 [.int .i64 kc,.slice (some ⟨gc,0,none⟩) np c5] rfl rfl (jK_ _ _ _ _) (by simp[Value.oneCell']) (by unfold maxLen;omega) (by omega) (H7.out.al _).az.bw.size ?_;intro v9 w9 hown' hgrow _ hat;have HADD:=hid (aOX (X3:=X12) (RX:=[(w.heap.size+1,frC ⟨0,0,0,0,0⟩ (.slice none 0 0)),(w.heap.size,frC f (.slice (some ⟨b,o,none⟩) n c))]) (H7.out.sub (fun _ hx=>List.mem_cons_of_mem _ hx)) rfl (by intro z hz;have:=HX12.out;simp only[List.mem_cons,List.not_mem_nil,or_false] at hz;rcases hz with rfl | rfl <;> simp only <;> omega) HNE.out ⟨by have:=HX12.out;omega,by omega⟩ (fun q hq=>(bB_ H10.out.own q hq).1) HI7.out HCL.out hown' hgrow hat);obtain⟨g9,k9,rfl⟩:∃g c,v9=.slice (some ⟨g,0,none⟩) (ie.length+1) c:=tE_ ((H7.out.al _).grown hown' hgrow hat) (Nat.succ_pos _);have q0:=HADD.out.1.1;have q1:=HADD.out.1.2;clear hown' hgrow hat)
      | fail)
     refine⟨⟨i+1,some ⟨g9,0,none⟩,k9,ie++[((⟨kc,cl⟩:Ik),gc,c5)],by omega,by go_num,?_,?_,HADD.out.2.2⟩,by simp only[intOf];omega⟩
     ·have:=HADD.out.2.1
      rw[List.length_append] at this⊢
      exact this
     ·rw[List.map_append,HMP.out,HFM.out]
      rfl
    ·have e1:decide (0<su)=false:=decide_eq_false hng
     rw[if_neg hng,List.append_nil] at HFM
     go_wp2_with (first
      | (go_at_call 107;(with_reducible refine K5.out.mono ?_);rintro e u7 ⟨rfl,hb⟩;have H7:=hid (HS2.out.below hb);clear hb xc)
      | fail)
     exact⟨⟨i+1,ia,ic,ie,by omega,by go_num,H7.out.sub (fun _ hx=>List.mem_cons_of_mem _ hx),by rw[HMP.out,HFM.out],HNE.out⟩,by simp only[intOf];omega⟩
theorem aOC {x y:Ik} {ca cb:Option Addr} {cc cd nx ny:Nat} (hx:x.cells.length=nx) (hy:y.cells.length=ny) (hnx:nx≤1000000) (hny:ny≤1000000) (w:World) (hA:CsAt ca (icC x.cells) w) (hB:CsAt cb (icC y.cells) w) :
  Calls Tryz.prog 128 #[.agg #[.int .i64 x.code,.slice ca nx cc],.agg #[.int .i64 y.code,.slice cb ny cd]] w fun e w'=>e=.returned (.bool (decide (x=y)))∧Below w.heap.size w w':=by
 have H0:=hid (((AzAt.start w).push [.int .i64 x.code,.slice ca nx cc] 79).push [.int .i64 y.code,.slice cb ny cd] 79)
 have K:=hid (fun W (h:CsAt ca (icC x.cells) W) (h':CsAt cb (icC y.cells) W)=>eqI_s (c:=cc) (c':=cd) hx hy hnx hny W h h')
 have HA:=hid (hA.below H0.out.bw)
 have HB:=hid (hB.below H0.out.bw)
 by_cases hc:x.code=y.code
 ·have e1:(x.code==y.code)=true:=by simpa using hc
  have HE:=hid (show decide (x=y)=decide (x.cells=y.cells) by
   obtain⟨xc,xl⟩:=x
   obtain⟨yc,yl⟩:=y
   simp only at hc
   subst hc
   rw[Bool.eq_iff_iff]
   simp)
  clear hx hy hA hB hc
  go_enter Tryz.func128,Tryz.ntmps128
  go_wp2_with (go_at_call 129;(with_reducible refine(K.out _ HA.out HB.out).mono ?_);rintro e w1 ⟨rfl,hb⟩;have H1:=hid (H0.out.below hb);clear hb)
  go_ret
  exact⟨aN_ HE.out.symm,H1.out.bw⟩
 ·have e1:(x.code==y.code)=false:=by simpa using hc
  have HE:=hid (show decide (x=y)=false from decide_eq_false fun e=>hc (by rw[e]))
  clear hx hy hA hB hc
  go_enter Tryz.func128,Tryz.ntmps128
  go_wp2
  go_ret
  exact⟨aN_ HE.out.symm,H0.out.bw⟩
theorem aOB {a a':Option Addr} {c c' n m:Nat} {ks ls:List Ik} (hl:ks.length=n) (hl':ls.length=m) (hn:n≤1000000) (hk:∀k∈ks,k.cells.length≤1000000) (hk':∀k∈ls,k.cells.length≤1000000) (w:World) (h:InksAt a ks w) (h':InksAt a' ls w) :
  Calls Tryz.prog 130 #[.slice a n c,.slice a' m c',.func (.func 128) #[] #[]] w fun e w'=>e=.returned (.bool (decide (ks=ls)))∧Below w.heap.size w w':=by
 by_cases hnm:n=m
 case neg=>
  have HE:=hid (show decide (ks=ls)=false from decide_eq_false (fun e=>hnm (by rw[←hl,←hl',e])))
  have k1:((n:Int) != (m:Int))=true:=by simpa using fun e=>hnm (by omega)
  have k2:¬(n:Int)=(m:Int):=by omega
  clear hl hl' h h' hk hk'
  go_enter Tryz.func130,Tryz.ntmps130
  go_wp2
  go_ret
  exact⟨aN_ HE.out.symm,Below.refl _ _⟩
 subst hnm
 have HL:=hid hl
 have HL':=hid hl'
 have HP:=hid h
 have HP':=hid h'
 have HS:=hid (And.intro hk hk')
 clear hl hl' h h' hk hk'
 go_enter Tryz.func130,Tryz.ntmps130
 go_wp2
 go_loopw [17] (fun v17 wr=>∃k:Nat,k≤n∧v17=.int .i64 (k:Int)∧ks.take k=ls.take k∧Below w.heap.size w wr) (fun v17 _=>n-(intOf v17).toNat)
 case atStart=>exact⟨0,Nat.zero_le _,rfl,rfl,Below.refl _ _⟩
 case round=>
  obtain⟨k,hk,rfl,ht,hb⟩:=hrel
  have HK:=hid hb
  have HT:=hid ht
  clear hb ht
  by_cases hlt:k<n
  ·obtain⟨x,hx⟩:∃x,ks[k]?=some x:=⟨ks[k]'(by have:=HL.out;omega),List.getElem?_eq_getElem _⟩
   obtain⟨y,hy⟩:∃y,ls[k]?=some y:=⟨ls[k]'(by have:=HL'.out;omega),List.getElem?_eq_getElem _⟩
   obtain⟨b,o,ca,cc,rfl,hbl,c0,c1,hcs,_⟩:=(HP.out.below HK.out).row k x hx
   obtain⟨b',o',ca',cc',rfl,hbl',d0,d1,hds,_⟩:=(HP'.out.below HK.out).row k y hy
   have i1:(0:Int)≤(k:Int):=by omega
   have i2:(k:Int)<(n:Int):=by omega
   obtain⟨nx,hnx⟩:∃nx,nx=x.cells.length:=⟨_,rfl⟩
   obtain⟨ny,hny⟩:∃ny,ny=y.cells.length:=⟨_,rfl⟩
   have H0:=hid (((AzAt.start wr).push [.int .i64 x.code,.slice ca nx cc] 79).push [.int .i64 y.code,.slice ca' ny cc'] 79)
   have KK:=hid (fun W (h:CsAt ca (icC x.cells) W) (h':CsAt ca' (icC y.cells) W)=>aOC (cc:=cc) (cd:=cc') hnx.symm hny.symm (by rw[hnx];exact HS.out.1 x (List.mem_of_getElem? hx)) (by rw[hny];exact HS.out.2 y (List.mem_of_getElem? hy)) W h h')
   have HA:=hid (hcs.below H0.out.bw)
   have HB:=hid (hds.below H0.out.bw)
   have HX:=hid (And.intro hx hy)
   rw[←hnx] at c1
   rw[←hny] at d1
   clear hx hy hcs hds hnx hny
   obtain⟨xc,hxc⟩:∃xc,xc=x.code:=⟨_,rfl⟩
   obtain⟨yc,hyc⟩:∃yc,yc=y.code:=⟨_,rfl⟩
   rw[←hxc] at c0 H0 KK HA HB
   rw[←hyc] at d0 H0 KK HA HB
   by_cases hxy:x=y
   ·have HE:=hid hxy
    rw[decide_eq_true hxy] at KK
    clear hxy hxc hyc
    go_wp2_with (go_at_call 128;(with_reducible refine(KK.out _ HA.out HB.out).mono ?_);rintro e u1 ⟨rfl,hb⟩;have H1:=hid (HK.out.trans ((H0.out.below hb).bw.mono HK.out.size));clear hb)
    refine⟨⟨k+1,by omega,by go_num,?_,H1.out⟩,by simp only[intOf];omega⟩
    rw[List.take_add_one,List.take_add_one,HX.out.1,HX.out.2,HT.out,HE.out]
   ·have HE:=hid (show decide (ks=ls)=false from decide_eq_false fun e=>hxy (by have h1:=HX.out.1;rw[e,HX.out.2] at h1;exact(Option.some.inj h1).symm))
    rw[decide_eq_false hxy] at KK
    clear hxy hxc hyc
    go_wp2_with (go_at_call 128;(with_reducible refine(KK.out _ HA.out HB.out).mono ?_);rintro e u1 ⟨rfl,hb⟩;have H1:=hid (HK.out.trans ((H0.out.below hb).bw.mono HK.out.size));clear hb)
    go_ret
    exact⟨aN_ HE.out.symm,H1.out⟩
  ·obtain rfl:k=n:=by omega
   have HE:=hid (show decide (ks=ls)=true from decide_eq_true (by have:=HT.out;rwa[List.take_of_length_le (by have:=HL.out;omega),List.take_of_length_le (by have:=HL'.out;omega)] at this))
   go_wp2
   go_ret
   exact⟨aN_ HE.out.symm,HK.out⟩
theorem xY_ {f g:Fr} {a a':Option Addr} {c c' n m:Nat} {ks ls:List Ik} (hl:ks.length=n) (hl':ls.length=m) (hn:n≤1000000) (hk:∀k∈ks,k.cells.length≤1000000) (hk':∀k∈ls,k.cells.length≤1000000) (w:World) (h:InksAt a ks w) (h':InksAt a' ls w) :
  Calls Tryz.prog 59 #[.agg #[.int .i64 f.x,.int .i64 f.y,.int .i64 f.w,.int .i64 f.h,.int .i64 f.s,.slice a n c],.agg #[.int .i64 g.x,.int .i64 g.y,.int .i64 g.w,.int .i64 g.h,.int .i64 g.s,.slice a' m c']] w fun e w'=>e=.returned (.bool (sQ_ f g ks ls))∧Below w.heap.size w w':=by
 have K0:=hid (fun W=>vR_ f a n c W)
 have K1:=hid (fun W=>vR_ g a' m c' W)
 have K2:=hid (fun W (h:InksAt a ks W) (h':InksAt a' ls W)=>aOB (c:=c) (c':=c') hl hl' hn hk hk' W h h')
 have H0:=hid (show AzAt [(w.heap.size+1,frC g (.slice a' m c')),(w.heap.size,frC f (.slice a n c))] w ((w.alloc (.cells #[.int .i64 f.x,.int .i64 f.y,.int .i64 f.w,.int .i64 f.h,.int .i64 f.s,.slice a n c] 58)).alloc (.cells #[.int .i64 g.x,.int .i64 g.y,.int .i64 g.w,.int .i64 g.h,.int .i64 g.s,.slice a' m c'] 58)) from by
  have hp:=((AzAt.start w).push (frC f (.slice a n c)) 58).push (frC g (.slice a' m c')) 58
  simp only[World.size_alloc] at hp
  exact hp)
 have HP:=hid (h.below H0.out.bw)
 have HP':=hid (h'.below H0.out.bw)
 have hmx:Tryz.prog.follows .mixedOrders=true:=by kernel_rfl
 have e5:=fun W=>aGQ f.x f.y f.w f.h f.s g.x g.y g.w g.h g.s W
 have HFG:=hid (show f=g↔(f.x=g.x∧f.y=g.y∧f.w=g.w∧f.h=g.h∧f.s=g.s) by
  cases f
  cases g
  simp)
 clear hl hl' hk hk' h h'
 have HSB:=hid (show sQ_ f g ks ls=(decide (f=g)&&decide (ks=ls)) from rfl)
 obtain⟨q,hq⟩:∃q,q=decide (f=g):=⟨_,rfl⟩
 rw[show decide (f.x=g.x∧f.y=g.y∧f.w=g.w∧f.h=g.h∧f.s=g.s)=q by rw[hq,Bool.eq_iff_iff];simp only[decide_eq_true_eq];exact HFG.out.symm] at e5
 rw[←hq] at HSB
 obtain⟨r,hr⟩:∃r,r=decide (ks=ls):=⟨_,rfl⟩
 rw[←hr] at HSB K2
 clear hq hr HFG
 go_enter Tryz.func59,Tryz.ntmps59
 go_wp2
 obtain⟨W0,hW0⟩:∃W0,W0=(w.alloc (.cells #[.int .i64 f.x,.int .i64 f.y,.int .i64 f.w,.int .i64 f.h,.int .i64 f.s,.slice a n c] 58)).alloc (.cells #[.int .i64 g.x,.int .i64 g.y,.int .i64 g.w,.int .i64 g.h,.int .i64 g.s,.slice a' m c'] 58):=⟨_,rfl⟩
 rw[←hW0] at H0 HP HP'⊢
 clear hW0
 have x0:=cell_regrown (H0.out.ce 1 0 rfl rfl)
 have x1:=cell_regrown (H0.out.ce 1 1 rfl rfl)
 have x2:=cell_regrown (H0.out.ce 1 2 rfl rfl)
 have x3:=cell_regrown (H0.out.ce 1 3 rfl rfl)
 have x4:=cell_regrown (H0.out.ce 1 4 rfl rfl)
 have x5:=cell_regrown (H0.out.ce 1 5 rfl rfl)
 have y0:=cell_regrown (H0.out.ce 0 0 rfl rfl)
 have y1:=cell_regrown (H0.out.ce 0 1 rfl rfl)
 have y2:=cell_regrown (H0.out.ce 0 2 rfl rfl)
 have y3:=cell_regrown (H0.out.ce 0 3 rfl rfl)
 have y4:=cell_regrown (H0.out.ce 0 4 rfl rfl)
 have y5:=cell_regrown (H0.out.ce 0 5 rfl rfl)
 have c0:=fun d os=>Calls.regrown_of (d:=d) (os:=os) (K0.out (grow (redrawn W0 d) os))
 have c1:=fun d os=>Calls.regrown_of (d:=d) (os:=os) (K1.out (grow (redrawn W0 d) os))
 have c2:=fun d os=>Calls.regrown_of (d:=d) (os:=os) (K2.out (grow (redrawn W0 d) os) (HP.out.below (below_regrown W0 d os)) (HP'.out.below (below_regrown W0 d os)))
 cases q
 all_goals
  refine wp_region_quiet_below (by kernel_rfl) (by kernel_rfl) ?_
  repeat (go_big_quiet_step (with_reducible first|exact c0 _ _|exact c1 _ _|exact c2 _ _))
  refine wpQuiet_nil ?_
  intro W2 hw2
  have hb2:Below W0.heap.size W0 W2:=by obtain⟨⟨dq,osq⟩,hw7⟩:=hw2;rw[hw7];exact below_regrown W0 dq osq
  have H2:=hid (H0.out.below hb2)
  clear hw2 hb2
  go_wp2
  go_ret
  exact⟨aN_ HSB.out.symm,H2.out.bw⟩
theorem rD_ (k code:Int) (ca:Option Addr) (n cc B:Nat) (w:World) (hs:B<w.heap.size) (hB:w.cell? ⟨B,0,none⟩=some (.int .i64 code)) :
  Calls Tryz.prog 109 #[.agg #[.int .i64 k,.slice ca n cc],.pointer (some ⟨B,0,none⟩)] w fun e w'=>e=.returned (.bool (k==code))∧Below w.heap.size w w':=by
 go_enter Tryz.func109,Tryz.ntmps109
 go_wp2
 go_ret
 exact⟨rfl,(Below.refl _ _).alloc (Nat.le_refl _) _⟩
theorem aGM {α:Type} {p:α→Bool} : ∀{l:List α} {x:α},l.find? p=some x→∃i:Nat,l[i]?=some x∧p x=true∧∀j,j<i→∀c,l[j]?=some c→p c=false
 | [],_,h=>by cases h
 | y::l,x,h=>by
  cases hy:p y with
  | true=>
   rw[List.find?_cons_of_pos hy] at h
   cases h
   exact⟨0,rfl,hy,fun j hj=>absurd hj (by omega)⟩
  | false=>
   rw[List.find?_cons_of_neg (by rw[hy];decide)] at h
   obtain⟨i,h1,h2,h3⟩:=aGM (l:=l) h
   refine⟨i+1,by simpa using h1,h2,fun j hj c hc=>?_⟩
   cases j with
   | zero => obtain rfl:y=c:=by simpa using hc
             exact hy
   | succ j=>exact h3 j (by omega) c (by simpa using hc)
theorem aFR {a:Option Addr} {cap n B:Nat} {code:Int} {ks:List Ik} (hl:ks.length=n) (hn:n≤1000000) (hb:∀k∈ks,(k.code==code)=false) (w:World) (h:InksAt a ks w) (hs:B<w.heap.size) (hB:w.cell? ⟨B,0,none⟩=some (.int .i64 code)) :
  Calls Tryz.prog 108 #[.slice a n cap,.func (.func 109) #[] #[.pointer (some ⟨B,0,none⟩)]] w fun e w'=>e=.returned (.int .i64 (-1))∧Below w.heap.size w w':=by
 have HL:=hid hl
 have HP:=hid h
 have HB:=hid hb
 have HC:=hid (And.intro hs hB)
 clear hl h hb hs hB
 go_enter Tryz.func108,Tryz.ntmps108
 go_wp2
 go_loopw [8] (fun v8 wr=>∃k:Nat,k≤n∧v8=.int .i64 (k:Int)∧Below w.heap.size w wr) (fun v8 _=>n-(intOf v8).toNat)
 case atStart=>exact⟨0,Nat.zero_le _,rfl,Below.refl _ _⟩
 case round=>
  obtain⟨k,hk,rfl,hb⟩:=hrel
  have HK:=hid hb
  clear hb
  by_cases hlt:k<n
  ·obtain⟨x,hx⟩:∃x,ks[k]?=some x:=⟨ks[k]'(by have:=HL.out;omega),List.getElem?_eq_getElem _⟩
   obtain⟨b,o,ca,cc,rfl,hbl,c0,c1,hcs,_⟩:=(HP.out.below HK.out).row k x hx
   have K:=hid (fun(W:World) (h1:B<W.heap.size) (h2:W.cell? ⟨B,0,none⟩=some (.int .i64 code))=>by have:=rD_ x.code code ca x.cells.length cc B W h1 h2;rw[HB.out x (List.mem_of_getElem? hx)] at this;exact this)
   have HC2:=hid (And.intro (Nat.lt_of_lt_of_le HC.out.1 HK.out.size) ((HK.out.cell (p:=⟨B,0,none⟩) HC.out.1).trans HC.out.2))
   clear hx hcs
   generalize x.code=xc at K c0
   generalize x.cells.length=xn at K c1
   go_wp2_with (go_at_call 109;(with_reducible refine(K.out _ HC2.out.1 HC2.out.2).mono ?_);rintro e w1 ⟨rfl,hb⟩;have H1:=hid (HK.out.trans (hb.mono HK.out.size));clear hb)
   exact⟨⟨k+1,by omega,by go_num,H1.out⟩,by simp only[intOf];omega⟩
  ·obtain rfl:k=n:=by omega
   go_wp2
   go_ret
   exact⟨rfl,HK.out⟩
theorem aFQ {a:Option Addr} {cap n i B:Nat} {code:Int} {x:Ik} {ks:List Ik} (hl:ks.length=n) (hn:n≤1000000) (hx:ks[i]?=some x) (hxc:(x.code==code)=true) (hb:∀j,j<i→∀k,ks[j]?=some k→(k.code==code)=false) (w:World) (h:InksAt a ks w) (hs:B<w.heap.size) (hB:w.cell? ⟨B,0,none⟩=some (.int .i64 code)) :
  Calls Tryz.prog 108 #[.slice a n cap,.func (.func 109) #[] #[.pointer (some ⟨B,0,none⟩)]] w fun e w'=>e=.returned (.int .i64 (i:Int))∧Below w.heap.size w w':=by
 have hi:i<n:=by rw[←hl];exact(List.getElem?_eq_some_iff.1 hx).1
 have HL:=hid hl
 have HP:=hid h
 have HB:=hid hb
 have HX:=hid (And.intro hx hxc)
 have HC:=hid (And.intro hs hB)
 clear hl h hb hs hB hx hxc
 go_enter Tryz.func108,Tryz.ntmps108
 go_wp2
 go_loopw [8] (fun v8 wr=>∃k:Nat,k≤i∧v8=.int .i64 (k:Int)∧Below w.heap.size w wr) (fun v8 _=>n-(intOf v8).toNat)
 case atStart=>exact⟨0,Nat.zero_le _,rfl,Below.refl _ _⟩
 case round=>
  obtain⟨k,hk,rfl,hb⟩:=hrel
  have HK:=hid hb
  clear hb
  have hlt:k<n:=by omega
  have HC2:=hid (And.intro (Nat.lt_of_lt_of_le HC.out.1 HK.out.size) ((HK.out.cell (p:=⟨B,0,none⟩) HC.out.1).trans HC.out.2))
  by_cases hki:k<i
  ·obtain⟨y,hy⟩:∃y,ks[k]?=some y:=⟨ks[k]'(by have:=HL.out;omega),List.getElem?_eq_getElem _⟩
   obtain⟨b,o,ca,cc,rfl,hbl,c0,c1,hcs,_⟩:=(HP.out.below HK.out).row k y hy
   have K:=hid (fun(W:World) (h1:B<W.heap.size) (h2:W.cell? ⟨B,0,none⟩=some (.int .i64 code))=>by have:=rD_ y.code code ca y.cells.length cc B W h1 h2;rw[HB.out k hki y hy] at this;exact this)
   clear hy hcs
   generalize y.code=xc at K c0
   generalize y.cells.length=xn at K c1
   go_wp2_with (go_at_call 109;(with_reducible refine(K.out _ HC2.out.1 HC2.out.2).mono ?_);rintro e w1 ⟨rfl,hb⟩;have H1:=hid (HK.out.trans (hb.mono HK.out.size));clear hb)
   exact⟨⟨k+1,by omega,by go_num,H1.out⟩,by simp only[intOf];omega⟩
  ·obtain rfl:k=i:=by omega
   obtain⟨b,o,ca,cc,rfl,hbl,c0,c1,hcs,_⟩:=(HP.out.below HK.out).row k x HX.out.1
   have K:=hid (fun(W:World) (h1:B<W.heap.size) (h2:W.cell? ⟨B,0,none⟩=some (.int .i64 code))=>by have:=rD_ x.code code ca x.cells.length cc B W h1 h2;rw[HX.out.2] at this;exact this)
   clear hcs
   generalize x.code=xc at K c0
   generalize x.cells.length=xn at K c1
   go_wp2_with (go_at_call 109;(with_reducible refine(K.out _ HC2.out.1 HC2.out.2).mono ?_);rintro e w1 ⟨rfl,hb⟩;have H1:=hid (HK.out.trans (hb.mono HK.out.size));clear hb)
   go_ret
   exact⟨rfl,H1.out⟩
theorem uX_ {f:Fr} {a:Option Addr} {n c:Nat} {ks:List Ik} (code:Int) (hl:ks.length=n) (hn:n≤1000000) (w:World) (h:InksAt a ks w) :
  Calls Tryz.prog 42 #[.agg #[.int .i64 f.x,.int .i64 f.y,.int .i64 f.w,.int .i64 f.h,.int .i64 f.s,.slice a n c],.int .i64 code] w fun e w'=>e=.returned (.int .i64 (fW_ f ks code))∧Below w.heap.size w w':=by
 have H0:=hid (show AzAt [(w.heap.size+1,[.int .i64 code]),(w.heap.size,frC f (.slice a n c))] w ((w.alloc (.cells #[.int .i64 f.x,.int .i64 f.y,.int .i64 f.w,.int .i64 f.h,.int .i64 f.s,.slice a n c] 58)).alloc (.cells #[.int .i64 code] 3)) from by
  have hp:=((AzAt.start w).push (frC f (.slice a n c)) 58).push [.int .i64 code] 3
  simp only[World.size_alloc] at hp
  exact hp)
 have HP:=hid (h.below H0.out.bw)
 have HL:=hid hl
 have g0:=H0.out.ce 1 5 rfl rfl
 have HS:=hid (show w.heap.size+1<((w.alloc (.cells #[.int .i64 f.x,.int .i64 f.y,.int .i64 f.w,.int .i64 f.h,.int .i64 f.s,.slice a n c] 58)).alloc (.cells #[.int .i64 code] 3)).heap.size∧((w.alloc (.cells #[.int .i64 f.x,.int .i64 f.y,.int .i64 f.w,.int .i64 f.h,.int .i64 f.s,.slice a n c] 58)).alloc (.cells #[.int .i64 code] 3)).cell? ⟨w.heap.size+1,0,none⟩=some (.int .i64 code) from⟨by simp,H0.out.ce 0 0 rfl rfl⟩)
 cases hf:aGN ks code with
 | none=>
  have hv:fW_ f ks code=0:=by unfold fW_ oI_;rw[hf];split <;> rfl
  rw[hv]
  have K:=hid (aFR (cap:=c) (B:=w.heap.size+1) (code:=code) hl hn (fun k hk=>by unfold aGN at hf;have:=List.find?_eq_none.1 hf k hk;simpa using this) _ HP.out HS.out.1 HS.out.2)
  clear hf hl h hv HS g0
  go_enter Tryz.func42,Tryz.ntmps42
  go_wp2_with (go_at_call 108;(with_reducible refine K.out.mono ?_);rintro e w1 ⟨rfl,hb⟩;have H1:=hid (H0.out.below hb);clear hb)
  go_ret
  exact⟨rfl,H1.out.bw⟩
 | some x=>
  obtain⟨i,h1,h2,h3⟩:=aGM (show ks.find? (fun k=>k.code==code)=some x from hf)
  have K:=hid (aFQ (cap:=c) (B:=w.heap.size+1) (code:=code) hl hn h1 h2 h3 _ HP.out HS.out.1 HS.out.2)
  have hi:i<n:=by rw[←hl];exact(List.getElem?_eq_some_iff.1 h1).1
  have HX:=hid h1
  have KV:=hid (fun W (h:InksAt a ks W)=>gJ_ (f:=f) (c:=c) hl W h)
  have i1:(0:Int)≤(i:Int):=by omega
  have i2:(i:Int)<(n:Int):=by omega
  have i3:decide ((i:Int)<0)=false:=decide_eq_false (by omega)
  have HT:=hid (show fW_ f ks code=if bK_ f ks then sumL x.cells else 0 by unfold fW_ oI_;rw[hf])
  cases hv:bK_ f ks with
  | false=>
   rw[hv] at KV HT
   clear hf hl h h1 h2 h3 hv HS g0
   go_enter Tryz.func42,Tryz.ntmps42
   go_wp2_with (first
    | (go_at_call 108;(with_reducible refine K.out.mono ?_);rintro e w1 ⟨rfl,hb⟩;have H1:=hid (H0.out.below hb);have HP1:=hid (HP.out.below hb);clear hb;have x0:=H1.out.ce 1 0 rfl rfl;have x1:=H1.out.ce 1 1 rfl rfl;have x2:=H1.out.ce 1 2 rfl rfl;have x3:=H1.out.ce 1 3 rfl rfl;have x4:=H1.out.ce 1 4 rfl rfl;have x5:=H1.out.ce 1 5 rfl rfl)
    | (go_at_call 53;(with_reducible refine(KV.out _ HP1.out).mono ?_);rintro e w2 ⟨rfl,hb⟩;have H2:=hid (H1.out.below hb);clear hb)
    | fail)
   go_ret
   exact⟨dA_ HT.out.symm,H2.out.bw⟩
  | true=>
   have P:=bO_.1 hv
   have hm:=List.mem_of_getElem? h1
   have HM:=hid (And.intro (P.many x hm) (And.intro (qP_ P.fr).2 (P.cell x hm)))
   rw[hv] at KV HT
   clear hf hl h h1 h2 h3 hv HS P hm g0
   go_enter Tryz.func42,Tryz.ntmps42
   go_wp2_with (first
    | (go_at_call 108;(with_reducible refine K.out.mono ?_);rintro e w1 ⟨rfl,hb⟩;have H1:=hid (H0.out.below hb);have HP1:=hid (HP.out.below hb);clear hb;have x0:=H1.out.ce 1 0 rfl rfl;have x1:=H1.out.ce 1 1 rfl rfl;have x2:=H1.out.ce 1 2 rfl rfl;have x3:=H1.out.ce 1 3 rfl rfl;have x4:=H1.out.ce 1 4 rfl rfl;have x5:=H1.out.ce 1 5 rfl rfl)
    | (go_at_call 53;(with_reducible refine(KV.out _ HP1.out).mono ?_);rintro e w2 ⟨rfl,hb⟩;have H2:=hid (H1.out.below hb);have HP2:=hid (HP1.out.below hb);clear hb x0 x1 x2 x3 x4 x5;have x5:=H2.out.ce 1 5 rfl rfl;obtain⟨b,o,ca,cc,ea,hbl,c0,c1,hcs,_⟩:=HP2.out.row i x HX.out;have KS:=hid (aJD (a:=ca) (cap:=cc) rfl (by have:=HM.out.1;have:=HM.out.2.1;omega) HM.out.2.2 w2 hcs);clear hcs;subst ea)
    | (go_at_call 107;(with_reducible refine KS.out.mono ?_);rintro e w3 ⟨rfl,hb⟩;have H3:=hid (H2.out.below hb);clear hb)
    | fail)
   go_ret
   exact⟨dA_ HT.out.symm,H3.out.bw⟩
def hJ_ (at' cells:List Int) (k:Int):Nat→Int
 | 0=>0
 | n+1=>if at'.getD n 0=k then cells.getD n 0 else hJ_ at' cells k n
theorem vO_ {f:Fr} {a aa ba:Option Addr} {n c m ac bc i:Nat} {ks:List Ik} {x:Ik} {code:Int} {at' cells:List Int} (hl:ks.length=n) (hn:n≤20) (hm:at'.length=m) (hm':cells.length=m) (hm16:m≤16) (hx:ks[i]?=some x) (hc:x.code=code) (hlen:x.cells.length=16)
  (hb:∀j,j<i→∀y,ks[j]?=some y→¬y.code=code) (hw:∀k:Nat,k<16→x.cells[k]?=some (hJ_ at' cells k m)) (w:World) (h:InksAt a ks w) (ha:CsAt aa (icC at') w) (hd:CsAt ba (icC cells) w) :
  Calls Tryz.prog 102 #[.agg #[.int .i64 f.x,.int .i64 f.y,.int .i64 f.w,.int .i64 f.h,.int .i64 f.s,.slice a n c],.int .i64 code,.slice aa m ac,.slice ba m bc] w fun e w'=>e=.returned (.bool true)∧Below w.heap.size w w':=by
 have hi:i<n:=by rw[←hl];exact(List.getElem?_eq_some_iff.1 hx).1
 have HB0:=hid (show Below w.heap.size w (w.alloc (.cells #[.int .i64 f.x,.int .i64 f.y,.int .i64 f.w,.int .i64 f.h,.int .i64 f.s,.slice a n c] 58)) from(Below.refl _ _).alloc (Nat.le_refl _) _)
 have HP:=hid (h.below HB0.out)
 have HA:=hid (ha.below HB0.out)
 have HD:=hid (hd.below HB0.out)
 have HL:=hid hl
 have HM:=hid (And.intro hm hm')
 have HX:=hid hx
 have HC:=hid (And.intro hc hlen)
 have HN:=hid hb
 have HW:=hid hw
 clear hl hm hm' hx hc hlen hw h ha hd hb
 go_enter Tryz.func102,Tryz.ntmps102
 go_wp2
 obtain⟨W0,hW0⟩:∃W0,W0=w.alloc (.cells #[.int .i64 f.x,.int .i64 f.y,.int .i64 f.w,.int .i64 f.h,.int .i64 f.s,.slice a n c] 58):=⟨_,rfl⟩
 have x5:W0.cell? ⟨w.heap.size,5,none⟩=some (.slice a n c):=by rw[hW0];simp
 rw[←hW0] at HP HA HD HB0⊢
 clear hW0
 go_loop [9] (fun v9=>∃j:Nat,j≤i∧v9=.int .i64 (j:Int)) (fun v9=>n-(intOf v9).toNat)
 case atStart=>exact⟨0,Nat.zero_le _,rfl⟩
 case round=>
  obtain⟨j,hj,rfl⟩:=hrel
  have j1:(0:Int)≤(j:Int):=by omega
  have j2:(j:Int)<(n:Int):=by omega
  have j3:j<n:=by omega
  by_cases hji:j<i
  ·obtain⟨y,hy⟩:∃y,ks[j]?=some y:=⟨ks[j]'(by rw[HL.out];exact j3),List.getElem?_eq_getElem _⟩
   obtain⟨b,o,ca,cc,rfl,hbl,c0,c1,_⟩:=HP.out.row j y hy
   have hne:=HN.out j hji y hy
   have e1:(y.code != code)=true:=by simpa using hne
   have e2:(y.code==code)=false:=by simpa using hne
   clear hy
   go_wp2
   exact⟨⟨j+1,by omega,by go_num⟩,by simp only[intOf];omega⟩
  ·obtain rfl:j=i:=by omega
   obtain⟨b,o,ca,cc,rfl,hbl,c0,c1,hcs,_⟩:=HP.out.row j x HX.out
   have HCS:=hid hcs
   clear hcs
   rw[HC.out.1] at c0
   rw[HC.out.2] at c1
   have e1:(code != code)=false:=by simp
   go_wp2
   go_loop [10] (fun v10=>∃k:Nat,k≤16∧v10=.int .i64 (k:Int)) (fun v10=>16-(intOf v10).toNat)
   case atStart=>exact⟨0,Nat.zero_le _,rfl⟩
   case round=>
    obtain⟨k,hk,rfl⟩:=hrel
    by_cases hk16:k<16
    case neg=>
     have k1:¬(k:Int)<16:=by omega
     have k2:decide ((k:Int)<16)=false:=decide_eq_false k1
     go_wp2
     go_ret
     exact⟨rfl,HB0.out⟩
    have k2:decide ((k:Int)<16)=true:=decide_eq_true (by omega)
    have k3:(k:Int)<16:=by omega
    have k4:(0:Int)≤(k:Int):=by omega
    go_wp2
    go_loop [11,12] (fun v11 v12=>∃q:Nat,q≤m∧v12=.int .i64 (q:Int)∧v11=.int .i64 (hJ_ at' cells k q)) (fun _ v12=>m-(intOf v12).toNat)
    case atStart=>exact⟨0,Nat.zero_le _,rfl,rfl⟩
    case round=>
     obtain⟨q,hq,rfl,rfl⟩:=hrel
     by_cases hqm:q<m
     ·obtain⟨u,hu⟩:∃u,at'[q]?=some u:=⟨at'[q]'(by rw[HM.out.1];exact hqm),List.getElem?_eq_getElem _⟩
      obtain⟨v,hv⟩:∃v,cells[q]?=some v:=⟨cells[q]'(by rw[HM.out.2];exact hqm),List.getElem?_eq_getElem _⟩
      obtain⟨b1,o1,ea,hb1,d0⟩:=HA.out.row q _ (fZ_ hu)
      obtain⟨b2,o2,eb,hb2,d1⟩:=HD.out.row q _ (fZ_ hv)
      have HS:=hid (show hJ_ at' cells k (q+1)=if u=k then v else hJ_ at' cells k q by simp[hJ_,List.getD,hu,hv])
      subst ea eb
      have q1:(0:Int)≤(q:Int):=by omega
      have q2:(q:Int)<(m:Int):=by omega
      clear hu hv
      generalize hJ_ at' cells k q=wv at HS⊢
      by_cases huk:u=(k:Int)
      ·have e3:(u==(k:Int))=true:=by simpa using huk
       have HE:=hid (show hJ_ at' cells k (q+1)=v by rw[HS.out,if_pos huk])
       clear huk
       go_wp2
       exact⟨⟨q+1,by omega,by go_num,by rw[HE.out]⟩,by simp only[intOf];omega⟩
      ·have e3:(u==(k:Int))=false:=by simpa using huk
       have HE:=hid (show hJ_ at' cells k (q+1)=wv by rw[HS.out,if_neg huk])
       clear huk
       go_wp2
       exact⟨⟨q+1,by omega,by go_num,by rw[HE.out]⟩,by simp only[intOf];omega⟩
     ·obtain rfl:q=m:=by omega
      obtain⟨b3,o3,ec,hb3,d2⟩:=HCS.out.row k _ (fZ_ (HW.out k hk16))
      subst ec
      generalize hJ_ at' cells k q=wv at d2⊢
      have e4:(wv != wv)=false:=by simp
      go_wp2
      exact⟨⟨k+1,by omega,by go_num⟩,by simp only[intOf];omega⟩
theorem aEO {w:World} {sa:Option Addr} {sn sc:Nat} {f:Fr} (hf:frB f=false) :
  Calls Tryz.prog 41 #[.slice sa sn sc,.agg #[.int .i64 f.x,.int .i64 f.y,.int .i64 f.w,.int .i64 f.h,.int .i64 f.s,.slice none 0 0]] w fun e W'=>e=.returned (.tuple #[.agg #[.int .i64 0,.int .i64 0,.int .i64 0,.int .i64 0,.int .i64 0,.slice none 0 0],.int .i64 250])∧Below w.heap.size w W':=by
 refine(callsIn_wide (n:=3)).1 ?_
 refine callsIn_of_wp_marks Tryz.func41 rfl trivial ?_ rfl
 simp only[Tryz.ntmps41,List.size_toArray,List.length_cons,List.length_nil,Nat.reduceAdd,Nat.reduceSub,Array.replicate_succ,Array.replicate_zero,List.push_toArray,List.append_toArray,List.nil_append,List.cons_append]
 have KF:=hid (fun W=>by have:=qW_ f none 0 0 W;rw[hf] at this;exact this)
 have H0:=hid (((AzAt.start w).push (frC f (.slice none 0 0)) 58).push (frC ⟨0,0,0,0,0⟩ (.slice none 0 0)) 58)
 simp only[World.size_alloc] at H0
 clear hf
 gi_wp2_with (first
  | (refine⟨trivial,?_⟩;gi_at_call 104;(with_reducible refine(callsIn_wide.2 (KF.out _)).mono ?_);rintro e u1 ⟨rfl,hb⟩;have H1:=hid (H0.out.below hb);clear hb;have y0:=H1.out.ce 0 0 rfl rfl;have y1:=H1.out.ce 0 1 rfl rfl;have y2:=H1.out.ce 0 2 rfl rfl;have y3:=H1.out.ce 0 3 rfl rfl;have y4:=H1.out.ce 0 4 rfl rfl;have y5:=H1.out.ce 0 5 rfl rfl;have q0:=H1.out.cf 0 0 rfl rfl;have q1:=H1.out.cf 0 1 rfl rfl;have q2:=H1.out.cf 0 2 rfl rfl;have q3:=H1.out.cf 0 3 rfl rfl;have q4:=H1.out.cf 0 4 rfl rfl;have q5:=H1.out.cf 0 5 rfl rfl)
  | fail)
 refine⟨.tuple #[.agg #[.int .i64 0,.int .i64 0,.int .i64 0,.int .i64 0,.int .i64 0,.slice none 0 0],.int .i64 250],?_,rfl,?_⟩
 ·simp[results,Tryz.results41,go_sem,Result.andThen,y0,y1,y2,y3,y4,y5]
 ·iterate 6 refine Below.setCell ?_ (show w.heap.size≤w.heap.size+1 by omega) _
  exact H1.out.bw
def exS1:Sh:=⟨1,2,⟨0,0,16,8⟩,⟨0,0⟩,⟨0,0⟩,⟨#[]⟩⟩
def exS2:Sh:=⟨2,2,⟨4,0,4,4⟩,⟨0,0⟩,⟨0,0⟩,⟨#[]⟩⟩
def exS3:Sh:=⟨3,1,⟨0,0,0,0⟩,⟨16,20⟩,⟨24,20⟩,⟨#[]⟩⟩
def exF:Fr:=⟨0,0,4,4,8⟩
def exK1:Ik:=⟨1,[4096,4096,0,0,0,0,0,0,0,0,0,0,0,0,0,0]⟩
def exK2:Ik:=⟨2,[1024,0,0,0,0,0,0,0,0,0,0,0,0,0,0,0]⟩
def exK3:Ik:=⟨3,[0,0,0,0,0,0,0,0,0,512,2048,512,0,0,0,0]⟩
theorem ex_fr:FrOk exF:=nG_.1 (by decide)
theorem ex_p:aF_ exF [exS1,exS2,exS3]=[exK1,exK2,exK3]:=aJS
theorem ex_q:aF_ exF [exS1,exS2]=[exK1,exK2]:=by decide +kernel
theorem ex_l:outL exS3=[⟨14,18⟩,⟨26,18⟩,⟨26,22⟩,⟨14,22⟩]:=aJR
theorem aPJ:∀s∈[exS1,exS2,exS3],okSh s=true:=by decide
theorem ex_vp:bK_ exF [exK1,exK2,exK3]=true:=by decide +kernel
theorem ex_vq:bK_ exF [exK1,exK2]=true:=by decide +kernel
theorem aPI:eT_ [exK1,exK2]=[⟨1,1,2,true⟩,⟨2,1,2,true⟩]:=by decide +kernel
theorem aLH:fW_ exF [exK1,exK2,exK3] 1=8192:=by decide +kernel
theorem ex_reg:([exK1,exK2,exK3].filterMap (regK exF.w.toNat 0 0 2 1)).length=2:=by decide +kernel
theorem aPH:sQ_ exF exF [exK1,exK2,exK3] [exK1,exK2,exK3]=true:=by decide +kernel
theorem aPK:sQ_ exF exF [exK1,exK2,exK3] [exK1,exK2]=false:=by decide +kernel
theorem ex_rf:regF exF 0 0 2 1=⟨0,0,2,1,8⟩:=by decide
theorem ex_bad:bK_ ⟨0,0,0,0,0⟩ []=false:=by decide +kernel
theorem aPL:∀(i:Nat) (a b:Sh),[exS1,exS2,exS3][i]?=some a→[exS1,exS2,exS3][i+1]?=some b→a.code<b.code:=by
 intro i a b ha hb
 match i,ha,hb with
 | 0,ha,hb=>cases ha;cases hb;decide
 | 1,ha,hb=>cases ha;cases hb;decide
 | i+2,ha,hb=>simp at hb
theorem aPM:∀(i:Nat) (a b:Sh),[exS1,exS2][i]?=some a→[exS1,exS2][i+1]?=some b→a.code<b.code:=by
 intro i a b ha hb
 match i,ha,hb with
 | 0,ha,hb=>cases ha;cases hb;decide
 | i+1,ha,hb=>simp at hb
theorem yV_:∀k∈[exK1,exK2,exK3],k.cells.length≤1000000:=by
 intro k hk
 simp only[List.mem_cons,List.not_mem_nil,or_false] at hk
 rcases hk with rfl|rfl|rfl <;> decide
theorem ex_no1:∀j,j<0→∀y,[exK1,exK2,exK3][j]?=some y→¬y.code=1:=fun j hj=>absurd hj (by omega)
theorem ex_no2:∀j,j<1→∀y,[exK1,exK2,exK3][j]?=some y→¬y.code=2:=by
 intro j hj y hy
 match j,hj,hy with
 | 0,_,hy=>cases hy;decide
theorem ex_no3:∀j,j<2→∀y,[exK1,exK2,exK3][j]?=some y→¬y.code=3:=by
 intro j hj y hy
 match j,hj,hy with
 | 0,_,hy=>cases hy;decide
 | 1,_,hy=>cases hy;decide
structure ExAt (L:List (Nat×List Value)) (P:World→Prop) (w W:World):Prop where
 az:AzAt L w W
 p:P W
 st:∀A C:World,P A→Below A.heap.size A C→P C
section
variable {L:List (Nat×List Value)} {P:World→Prop} {w W:World}
theorem ExAt.below {W':World} (h:ExAt L P w W) (hb:Below W.heap.size W W'):ExAt L P w W':=⟨h.az.below hb,h.st _ _ h.p hb,h.st⟩
theorem ExAt.push (h:ExAt L P w W) (l:List Value) (t:TypeId):ExAt ((W.heap.size,l)::L) P w (W.alloc (.cells l.toArray t)):=⟨h.az.push l t,h.st _ _ h.p ((Below.refl _ _).alloc (Nat.le_refl _) _),h.st⟩
theorem ExAt.add (h:ExAt L P w W) {Q:World→Prop} (hq:Q W) (hs:∀A C:World,Q A→Below A.heap.size A C→Q C):ExAt L (fun V=>P V∧Q V) w W:=⟨h.az,⟨h.p,hq⟩,fun A C hA hb=>⟨h.st A C hA.1 hb,hs A C hA.2 hb⟩⟩
theorem ExAt.set {B i:Nat} {l:List Value} {u:Value} (h:ExAt ((B,l)::L) P w W) (hp:P w) (hB:w.heap.size≤B) (hd:∀x∈L,B≠x.1) (hi:l[i]?=some u) (t:Value):ExAt ((B,l.set i t)::L) P w (W.setCell ⟨B,i,none⟩ t):=⟨h.az.set hB hd hi t,h.st _ _ hp (h.az.set hB hd hi t).bw,h.st⟩
theorem ExAt.cons {B:Nat} {l:List Value} (h:ExAt L P w W) (c:ArAt B l W):ExAt ((B,l)::L) P w W:=⟨h.az.cons c,h.p,h.st⟩
theorem ExAt.sub {L':List (Nat×List Value)} (h:ExAt L P w W) (hs:∀x∈L',x∈L):ExAt L' P w W:=⟨h.az.sub hs,h.p,h.st⟩
end
theorem ExAt.weak {L:List (Nat×List Value)} {P Q:World→Prop} {w W:World} (h:ExAt L P w W) (f:∀V,P V→Q V) (hs:∀A C:World,Q A→Below A.heap.size A C→Q C):ExAt L Q w W:=⟨h.az,f _ h.p,hs⟩
theorem ShsAt.pre {a:Option Addr} {l m:List Sh} {W:World} (h:ShsAt a (l++m) W):ShsAt a l W:=⟨fun k s hk=>h.row k s (by rw[List.getElem?_append_left (List.getElem?_eq_some_iff.1 hk).1];exact hk)⟩
theorem AzAt.put6 {L:List (Nat×List Value)} {w W:World} {X:Nat} {a0 a1 a2 a3 a4 a5:Value} (h:AzAt ((X,[a0,a1,a2,a3,a4,a5])::L) w W) (hX:w.heap.size≤X) (hd:∀x∈L,X≠x.1) (b0 b1 b2 b3 b4 b5:Value) :
  AzAt ((X,[b0,b1,b2,b3,b4,b5])::L) w ((((((W.setCell ⟨X,0,none⟩ b0).setCell ⟨X,1,none⟩ b1).setCell ⟨X,2,none⟩ b2).setCell ⟨X,3,none⟩ b3).setCell ⟨X,4,none⟩ b4).setCell ⟨X,5,none⟩ b5):=
 (((((h.set hX hd (i:=0) rfl b0).set hX hd (i:=1) rfl b1).set hX hd (i:=2) rfl b2).set hX hd (i:=3) rfl b3).set hX hd (i:=4) rfl b4).set hX hd (i:=5) rfl b5
theorem bM_.put6 {B X:Nat} {a:Option Addr} {ks:List Ik} {W:World} (h:bM_ B a ks W) (hX:X<B) (b0 b1 b2 b3 b4 b5:Value) :
  bM_ B a ks ((((((W.setCell ⟨X,0,none⟩ b0).setCell ⟨X,1,none⟩ b1).setCell ⟨X,2,none⟩ b2).setCell ⟨X,3,none⟩ b3).setCell ⟨X,4,none⟩ b4).setCell ⟨X,5,none⟩ b5):=(((((h.set hX).set hX).set hX).set hX).set hX).set hX
theorem aBT {B X:Nat} {w W:World} (h:Below B w W) (hX:B≤X) (b0 b1 b2 b3 b4 b5:Value) :
  Below B w ((((((W.setCell ⟨X,0,none⟩ b0).setCell ⟨X,1,none⟩ b1).setCell ⟨X,2,none⟩ b2).setCell ⟨X,3,none⟩ b3).setCell ⟨X,4,none⟩ b4).setCell ⟨X,5,none⟩ b5):=(((((h.setCell hX _).setCell hX _).setCell hX _).setCell hX _).setCell hX _).setCell hX _
theorem xT_ {w:World} (HI:Hid (IOps w∧FrOp w)):Calls Tryz.prog 38 #[] w fun e w'=>e=.returned (.bool true)∧Below w.heap.size w w':=by
 have hmx:Tryz.prog.follows .mixedOrders=true:=by kernel_rfl
 have HX:=hid (show ExAt [] (fun V=>IOps V∧FrOp V) w w from⟨AzAt.start w,HI.out,fun A C h hb=>⟨h.1.below hb,h.2.below hb⟩⟩)
 have H0:=hid (show ExAt [(w.heap.size+1,[.int .i64 0,.int .i64 0,.int .i64 4,.int .i64 4,.int .i64 8,.slice none 0 0]),(w.heap.size,ssC [exS1,exS2,exS3])] (fun V=>IOps V∧FrOp V) w ((w.alloc (.cells #[.int .i64 1,.int .i64 2,.int .i64 0,.int .i64 0,.int .i64 16,.int .i64 8,.int .i64 0,.int .i64 0,.int .i64 0,.int .i64 0,.string ⟨#[]⟩,.int .i64 2,.int .i64 2,.int .i64 4,.int .i64 0,.int .i64 4,.int .i64 4,.int .i64 0,.int .i64 0,.int .i64 0,.int .i64 0,.string ⟨#[]⟩,.int .i64 3,.int .i64 1,.int .i64 0,.int .i64 0,.int .i64 0,.int .i64 0,.int .i64 16,.int .i64 20,.int .i64 24,.int .i64 20,.string ⟨#[]⟩] 63)).alloc (.cells #[.int .i64 0,.int .i64 0,.int .i64 4,.int .i64 4,.int .i64 8,.slice none 0 0] 58)) from by
  have hp:=(HX.out.push (ssC [exS1,exS2,exS3]) 63).push [.int .i64 0,.int .i64 0,.int .i64 4,.int .i64 4,.int .i64 8,.slice none 0 0] 58
  simp only[World.size_alloc] at hp
  exact hp)
 have SH:=hid (show ∀(L:List (Nat×List Value)) (P:World→Prop) (W:World),ExAt L P w W→(w.heap.size,ssC [exS1,exS2,exS3])∈L→ShsAt (some ⟨w.heap.size,0,none⟩) [exS1,exS2,exS3] W from fun L P W h hm=>ShsAt.of (CsAt.of_ar (h.az.row _ hm)))
 have KP:=hid (show ∀W:World,IOps W∧FrOp W→ShsAt (some ⟨w.heap.size,0,none⟩) [exS1,exS2,exS3] W→Calls Tryz.prog 41 #[.slice (some ⟨w.heap.size,0,none⟩) 3 3,.agg #[.int .i64 0,.int .i64 0,.int .i64 4,.int .i64 4,.int .i64 8,.slice none 0 0]] W fun e W'=>(∃a c,e=.returned (.tuple #[.agg #[.int .i64 0,.int .i64 0,.int .i64 4,.int .i64 4,.int .i64 8,.slice a 3 c],.int .i64 0])∧InksAt a [exK1,exK2,exK3] W')∧Below W.heap.size W W' from fun W hI hS=>by
  have:=mO_ (sc:=3) (sn:=3) (hid hI) (hid ex_fr) (hid hS) (hid rfl) (by omega) (hid aPJ) (hid aPL)
  rw[ex_p] at this
  exact this.mono fun e W' ⟨⟨a,c,h1,h2⟩,h3⟩=>⟨⟨a,c,h1,h2.at⟩,h3⟩)
 have KQ:=hid (show ∀W:World,IOps W∧FrOp W→ShsAt (some ⟨w.heap.size,0,none⟩) [exS1,exS2,exS3] W→Calls Tryz.prog 41 #[.slice (some ⟨w.heap.size,0,none⟩) 2 3,.agg #[.int .i64 0,.int .i64 0,.int .i64 4,.int .i64 4,.int .i64 8,.slice none 0 0]] W fun e W'=>(∃a c,e=.returned (.tuple #[.agg #[.int .i64 0,.int .i64 0,.int .i64 4,.int .i64 4,.int .i64 8,.slice a 2 c],.int .i64 0])∧bM_ W.heap.size a [exK1,exK2] W')∧Below W.heap.size W W' from fun W hI hS=>by
  have:=mO_ (sc:=3) (sn:=2) (hid hI) (hid ex_fr) (hid (ShsAt.pre (l:=[exS1,exS2]) (m:=[exS3]) hS)) (hid rfl) (by omega) (hid (fun s hs=>aPJ s (by simp only[List.mem_cons,List.not_mem_nil,or_false] at hs⊢;rcases hs with rfl|rfl <;> simp))) (hid aPM)
  rw[ex_q] at this
  exact this)
 have KR:=hid (show ∀(W:World) (a:Option Addr) (c:Nat),InksAt a [exK1,exK2] W→Calls Tryz.prog 45 #[.agg #[.int .i64 0,.int .i64 0,.int .i64 4,.int .i64 4,.int .i64 8,.slice a 2 c]] W fun e W'=>(∃a c,e=.returned (.tuple #[.slice a 2 c,.int .i64 0])∧CsAt a (seC [⟨1,1,2,true⟩,⟨2,1,2,true⟩]) W')∧Below W.heap.size W W' from fun W a c h=>by
  have:=aMT (f:=exF) (c:=c) (n:=2) rfl ex_vq W h
  rw[aPI] at this
  exact this.mono fun e W' ⟨a',c',h1,h2,h3⟩=>⟨⟨a',c',h1,h2⟩,h3⟩)
 have KO:=hid (show ∀W:World,Calls Tryz.prog 48 #[.agg #[.int .i64 3,.int .i64 1,.int .i64 0,.int .i64 0,.int .i64 0,.int .i64 0,.int .i64 16,.int .i64 20,.int .i64 24,.int .i64 20,.string ⟨#[]⟩]] W fun e W'=>∃g c,e=.returned (.tuple #[.slice (some ⟨g,0,none⟩) 4 c,.int .i64 0])∧PsAt g [⟨14,18⟩,⟨26,18⟩,⟨26,22⟩,⟨14,22⟩] W'∧Below W.heap.size W W' from fun W=>by
  have:=tD_ (s:=exS3) (aPJ exS3 (by simp)) W
  rw[ex_l] at this
  exact this)
 have KG:=hid (show ∀(W:World) (a:Option Addr) (c:Nat),InksAt a [exK1,exK2,exK3] W→Calls Tryz.prog 51 #[.agg #[.int .i64 0,.int .i64 0,.int .i64 4,.int .i64 4,.int .i64 8,.slice a 3 c],.int .i64 0,.int .i64 0,.int .i64 2,.int .i64 1] W fun e W'=>(∃a c,e=.returned (.tuple #[.agg #[.int .i64 0,.int .i64 0,.int .i64 2,.int .i64 1,.int .i64 8,.slice a 2 c],.int .i64 0]))∧Below W.heap.size W W' from fun W a c h=>by
  have:=xW_ (f:=exF) (c:=c) (n:=3) (x:=0) (y:=0) (wd:=2) (hd:=1) rfl ex_vp (by decide) (by decide) (by omega) (by omega) W h
  unfold wW_ at this
  rw[ex_rf,ex_reg] at this
  exact this.mono fun e W' ⟨a',c',h1,_,h3⟩=>⟨⟨a',c',h1⟩,h3⟩)
 have KB:=hid (show ∀W:World,Calls Tryz.prog 41 #[.slice (some ⟨w.heap.size,0,none⟩) 3 3,.agg #[.int .i64 0,.int .i64 0,.int .i64 0,.int .i64 0,.int .i64 0,.slice none 0 0]] W fun e W'=>e=.returned (.tuple #[.agg #[.int .i64 0,.int .i64 0,.int .i64 0,.int .i64 0,.int .i64 0,.slice none 0 0],.int .i64 250])∧Below W.heap.size W W' from fun W=>aEO (w:=W) (f:=⟨0,0,0,0,0⟩) (by decide))
 clear HX
 go_enter Tryz.func38,Tryz.ntmps38
 go_wp2_with (first
  | (have _:=HZ;fail)
  | (go_at_call 41;(with_reducible refine(KP.out _ H0.out.p (SH.out _ _ _ H0.out (by simp))).mono ?_);rintro e u1 ⟨⟨a1,c1,rfl,hk1⟩,hb⟩;have HU1:=hid (show w.heap.size≤u1.heap.size from(H0.out.below hb).az.bw.size);have H2:=hid (show ExAt [(u1.heap.size,[.int .i64 0,.int .i64 0,.int .i64 4,.int .i64 4,.int .i64 8,.slice a1 3 c1]),(w.heap.size+1,[.int .i64 0,.int .i64 0,.int .i64 4,.int .i64 4,.int .i64 8,.slice none 0 0]),(w.heap.size,ssC [exS1,exS2,exS3])] (fun V=>(IOps V∧FrOp V)∧InksAt a1 [exK1,exK2,exK3] V) w (u1.alloc (.cells #[.int .i64 0,.int .i64 0,.int .i64 4,.int .i64 4,.int .i64 8,.slice a1 3 c1] 58)) from((H0.out.below hb).add hk1 fun _ _ h=>h.below).push [.int .i64 0,.int .i64 0,.int .i64 4,.int .i64 4,.int .i64 8,.slice a1 3 c1] 58);clear hb hk1;have f0:=H2.out.az.ce 1 0 rfl rfl;have f1:=H2.out.az.ce 1 1 rfl rfl;have f2:=H2.out.az.ce 1 2 rfl rfl;have f3:=H2.out.az.ce 1 3 rfl rfl;have f4:=H2.out.az.ce 1 4 rfl rfl;have f5:=H2.out.az.ce 1 5 rfl rfl)
  | fail)
 obtain⟨Wp,hWp⟩:∃W,W=u1.alloc (.cells #[.int .i64 0,.int .i64 0,.int .i64 4,.int .i64 4,.int .i64 8,.slice a1 3 c1] 58):=⟨_,rfl⟩
 obtain⟨X1,hX1⟩:∃X,X=u1.heap.size:=⟨_,rfl⟩
 rw[←hWp,←hX1] at H2⊢
 have hXp:X1<Wp.heap.size∧w.heap.size≤X1:=by
  rw[hWp,hX1]
  exact⟨by simp,HU1.out⟩
 have HXP:=hid hXp
 clear hWp hX1 hXp f0 f1 f2 f3 f4 f5
 have f0:=H2.out.az.ce 1 0 rfl rfl
 have f1:=H2.out.az.ce 1 1 rfl rfl
 have f2:=H2.out.az.ce 1 2 rfl rfl
 have f3:=H2.out.az.ce 1 3 rfl rfl
 have f4:=H2.out.az.ce 1 4 rfl rfl
 have f5:=H2.out.az.ce 1 5 rfl rfl
 go_cut [5,6] from 33 to 155 (fun v5 v6 wX=>∃(X5:Nat) (a2:Option Addr) (c2:Nat),v5=.pointer (some ⟨X5,0,none⟩)∧v6=.int .i64 0∧ExAt ((X5,[.int .i64 0,.int .i64 0,.int .i64 4,.int .i64 4,.int .i64 8,.slice a2 2 c2])::[(X1,[.int .i64 0,.int .i64 0,.int .i64 4,.int .i64 4,.int .i64 8,.slice a1 3 c1]),(w.heap.size+1,[.int .i64 0,.int .i64 0,.int .i64 4,.int .i64 4,.int .i64 8,.slice none 0 0]),(w.heap.size,ssC [exS1,exS2,exS3])]) (fun V=>((IOps V∧FrOp V)∧InksAt a1 [exK1,exK2,exK3] V)∧InksAt a2 [exK1,exK2] V) w wX)
 case first=>
  have Hd:=hid (H2.out.below (Below.refl _ _).drew)
  have He:=hid (show ExAt ((Wp.heap.size,[.int .i64 0,.int .i64 0,.int .i64 0,.int .i64 0,.int .i64 0,.slice none 0 0])::[(X1,[.int .i64 0,.int .i64 0,.int .i64 4,.int .i64 4,.int .i64 8,.slice a1 3 c1]),(w.heap.size+1,[.int .i64 0,.int .i64 0,.int .i64 4,.int .i64 4,.int .i64 8,.slice none 0 0]),(w.heap.size,ssC [exS1,exS2,exS3])]) (fun V=>(IOps V∧FrOp V)∧InksAt a1 [exK1,exK2,exK3] V) w ((Wp.alloc (.cells #[.int .i64 0,.int .i64 0,.int .i64 0,.int .i64 0,.int .i64 0,.slice none 0 0] 58)).drew) from(H2.out.push [.int .i64 0,.int .i64 0,.int .i64 0,.int .i64 0,.int .i64 0,.slice none 0 0] 58).below (Below.refl _ _).drew)
  clear KP KR KO KG KB
  have hs1:w.heap.size+1<Wp.heap.size:=(H2.out.az.row _ (show(w.heap.size+1,[.int .i64 0,.int .i64 0,.int .i64 4,.int .i64 4,.int .i64 8,.slice none 0 0])∈_ by simp)).sz
  have hs2:w.heap.size<Wp.heap.size:=by omega
  go_region_with (first
   | (go_at_call 41;(with_reducible refine(KQ.out _ Hd.out.p.1 (SH.out _ _ _ Hd.out (by simp))).mono ?_);rintro e u2 ⟨⟨a2,c2,rfl,hk2⟩,hb⟩;have H3:=hid ((Hd.out.below hb).add hk2.at fun _ _ h=>h.below);clear hb hk2)
   | (go_at_call 41;(with_reducible refine(KQ.out _ He.out.p.1 (SH.out _ _ _ He.out (by simp))).mono ?_);rintro e u2 ⟨⟨a2,c2,rfl,hk2⟩,hb⟩;have H4:=hid (And.intro (He.out.below hb) (And.intro hk2 hb));clear hb hk2;have x0:=H4.out.1.az.ce 0 0 rfl rfl;have x1:=H4.out.1.az.ce 0 1 rfl rfl;have x2:=H4.out.1.az.ce 0 2 rfl rfl;have x3:=H4.out.1.az.ce 0 3 rfl rfl;have x4:=H4.out.1.az.ce 0 4 rfl rfl;have x5:=H4.out.1.az.ce 0 5 rfl rfl;have y0:=H4.out.1.az.cf 0 0 rfl rfl;have y1:=H4.out.1.az.cf 0 1 rfl rfl;have y2:=H4.out.1.az.cf 0 2 rfl rfl;have y3:=H4.out.1.az.cf 0 3 rfl rfl;have y4:=H4.out.1.az.cf 0 4 rfl rfl;have y5:=H4.out.1.az.cf 0 5 rfl rfl)
   | fail)
  all_goals first
   | (have _:=H3
      go_wp2_with fail
      go_meet
      exact⟨u2.heap.size,a2,c2,rfl,rfl,H3.out.push [.int .i64 0,.int .i64 0,.int .i64 4,.int .i64 4,.int .i64 8,.slice a2 2 c2] 58⟩)
   | (have _:=H4
      go_wp2_with fail
      go_meet
      obtain⟨h4,hk2,hb⟩:=H4.out
      have hbt:Below Wp.heap.size Wp u2:=(((Below.refl Wp.heap.size Wp).alloc (Nat.le_refl _) _).drew).trans (hb.mono (by simp))
      have hx:=HXP.out
      exact⟨Wp.heap.size,a2,c2,rfl,rfl,⟨h4.az.put6 (by omega) (by intro z hz;simp only[List.mem_cons,List.not_mem_nil,or_false] at hz;rcases hz with rfl|rfl|rfl <;> simp only <;> omega) _ _ _ _ _ _,⟨H2.out.st _ _ H2.out.p (aBT hbt (Nat.le_refl _) _ _ _ _ _ _),(hk2.put6 (by simp) _ _ _ _ _ _).at⟩,fun A C h hb=>⟨H2.out.st A C h.1 hb,h.2.below hb⟩⟩⟩)
 case rest=>
  obtain⟨X5,a2,c2,rfl,rfl,h3⟩:=hcut
  have KI1:=hid (show ∀(W:World) (a aa ba:Option Addr) (c:Nat),InksAt a [exK1,exK2,exK3] W→CsAt aa (icC [0,1]) W→CsAt ba (icC [4096,4096]) W→Calls Tryz.prog 102 #[.agg #[.int .i64 0,.int .i64 0,.int .i64 4,.int .i64 4,.int .i64 8,.slice a 3 c],.int .i64 1,.slice aa 2 2,.slice ba 2 2] W fun e W'=>e=.returned (.bool true)∧Below W.heap.size W W' from fun W a aa ba c h h1 h2=>vO_ (f:=exF) (n:=3) (i:=0) (x:=exK1) (at':=[0,1]) (cells:=[4096,4096]) rfl (by omega) rfl rfl (by decide) rfl rfl rfl (ex_no1) (by decide) W h h1 h2)
  have KI2:=hid (show ∀(W:World) (a aa ba:Option Addr) (c:Nat),InksAt a [exK1,exK2,exK3] W→CsAt aa (icC [0]) W→CsAt ba (icC [1024]) W→Calls Tryz.prog 102 #[.agg #[.int .i64 0,.int .i64 0,.int .i64 4,.int .i64 4,.int .i64 8,.slice a 3 c],.int .i64 2,.slice aa 1 1,.slice ba 1 1] W fun e W'=>e=.returned (.bool true)∧Below W.heap.size W W' from fun W a aa ba c h h1 h2=>vO_ (f:=exF) (n:=3) (i:=1) (x:=exK2) (at':=[0]) (cells:=[1024]) rfl (by omega) rfl rfl (by decide) rfl rfl rfl (ex_no2) (by decide) W h h1 h2)
  have KI3:=hid (show ∀(W:World) (a aa ba:Option Addr) (c:Nat),InksAt a [exK1,exK2,exK3] W→CsAt aa (icC [9,10,11]) W→CsAt ba (icC [512,2048,512]) W→Calls Tryz.prog 102 #[.agg #[.int .i64 0,.int .i64 0,.int .i64 4,.int .i64 4,.int .i64 8,.slice a 3 c],.int .i64 3,.slice aa 3 3,.slice ba 3 3] W fun e W'=>e=.returned (.bool true)∧Below W.heap.size W W' from fun W a aa ba c h h1 h2=>vO_ (f:=exF) (n:=3) (i:=2) (x:=exK3) (at':=[9,10,11]) (cells:=[512,2048,512]) rfl (by omega) rfl rfl (by decide) rfl rfl rfl (ex_no3) (by decide) W h h1 h2)
  have KS:=hid (show ∀(W:World) (a b:Option Addr) (c d:Nat),CsAt a (seC [⟨1,1,2,true⟩,⟨2,1,2,true⟩]) W→CsAt b (seC [⟨1,1,2,true⟩,⟨2,1,2,true⟩]) W→Calls Tryz.prog 55 #[.slice a 2 c,.slice b 2 d] W fun e W'=>e=.returned (.bool true)∧Below W.heap.size W W' from fun W a b c d h1 h2=>zY_ (l:=[⟨1,1,2,true⟩,⟨2,1,2,true⟩]) (l':=[⟨1,1,2,true⟩,⟨2,1,2,true⟩]) rfl rfl (by decide) (by decide) W h1 h2)
  have KL:=hid (show ∀(W:World) (a b c d:Nat),PsAt a [⟨14,18⟩,⟨26,18⟩,⟨26,22⟩,⟨14,22⟩] W→PsAt b [⟨14,18⟩,⟨26,18⟩,⟨26,22⟩,⟨14,22⟩] W→Calls Tryz.prog 27 #[.slice (some ⟨a,0,none⟩) 4 c,.slice (some ⟨b,0,none⟩) 4 d] W fun e W'=>e=.returned (.bool true)∧Below W.heap.size W W' from fun W a b c d h1 h2=>same_s (ps:=[⟨14,18⟩,⟨26,18⟩,⟨26,22⟩,⟨14,22⟩]) (qs:=[⟨14,18⟩,⟨26,18⟩,⟨26,22⟩,⟨14,22⟩]) rfl rfl (by decide) (by decide) W h1 h2)
  have KT:=hid (show ∀(W:World) (a:Option Addr) (c:Nat),InksAt a [exK1,exK2,exK3] W→Calls Tryz.prog 42 #[.agg #[.int .i64 0,.int .i64 0,.int .i64 4,.int .i64 4,.int .i64 8,.slice a 3 c],.int .i64 1] W fun e W'=>e=.returned (.int .i64 8192)∧Below W.heap.size W W' from fun W a c h=>by
   have:=uX_ (f:=exF) (n:=3) (c:=c) (ks:=[exK1,exK2,exK3]) 1 rfl (by omega) W h
   rw[aLH] at this
   exact this)
  have KV:=hid (show ∀(W:World) (a:Option Addr) (c:Nat),InksAt a [exK1,exK2,exK3] W→Calls Tryz.prog 53 #[.agg #[.int .i64 0,.int .i64 0,.int .i64 4,.int .i64 4,.int .i64 8,.slice a 3 c]] W fun e W'=>e=.returned (.bool true)∧Below W.heap.size W W' from fun W a c h=>by
   have:=gJ_ (f:=exF) (n:=3) (c:=c) (ks:=[exK1,exK2,exK3]) rfl W h
   rw[ex_vp] at this
   exact this)
  have KZ:=hid (show ∀W:World,Calls Tryz.prog 53 #[.agg #[.int .i64 0,.int .i64 0,.int .i64 0,.int .i64 0,.int .i64 0,.slice none 0 0]] W fun e W'=>e=.returned (.bool false)∧Below W.heap.size W W' from fun W=>by
   have:=gJ_ (f:=⟨0,0,0,0,0⟩) (a:=none) (n:=0) (c:=0) (ks:=[]) rfl W ⟨fun i k hk=>by simp at hk⟩
   rw[ex_bad] at this
   exact this)
  have KE:=hid (show ∀(W:World) (a:Option Addr) (c:Nat),InksAt a [exK1,exK2,exK3] W→Calls Tryz.prog 59 #[.agg #[.int .i64 0,.int .i64 0,.int .i64 4,.int .i64 4,.int .i64 8,.slice a 3 c],.agg #[.int .i64 0,.int .i64 0,.int .i64 4,.int .i64 4,.int .i64 8,.slice a 3 c]] W fun e W'=>e=.returned (.bool true)∧Below W.heap.size W W' from fun W a c h=>by
   have:=xY_ (f:=exF) (g:=exF) (c:=c) (c':=c) (n:=3) (m:=3) (ks:=[exK1,exK2,exK3]) (ls:=[exK1,exK2,exK3]) rfl rfl (by omega) yV_ yV_ W h h
   rw[aPH] at this
   exact this)
  have KD:=hid (show ∀(W:World) (a b:Option Addr) (c d:Nat),InksAt a [exK1,exK2,exK3] W→InksAt b [exK1,exK2] W→Calls Tryz.prog 59 #[.agg #[.int .i64 0,.int .i64 0,.int .i64 4,.int .i64 4,.int .i64 8,.slice a 3 c],.agg #[.int .i64 0,.int .i64 0,.int .i64 4,.int .i64 4,.int .i64 8,.slice b 2 d]] W fun e W'=>e=.returned (.bool false)∧Below W.heap.size W W' from fun W a b c d h1 h2=>by
   have:=xY_ (f:=exF) (g:=exF) (c:=c) (c':=d) (n:=3) (m:=2) (ks:=[exK1,exK2,exK3]) (ls:=[exK1,exK2]) rfl rfl (by omega) yV_ (fun k hk=>yV_ k (by simp only[List.mem_cons,List.not_mem_nil,or_false] at hk⊢;rcases hk with rfl|rfl <;> simp)) W h1 h2
   rw[aPK] at this
   exact this)
  have H3:=hid h3
  clear h3 f0 f1 f2 f3 f4 f5 KP KQ
  have p0:=H3.out.az.ce 0 0 rfl rfl
  have p1:=H3.out.az.ce 0 1 rfl rfl
  have p2:=H3.out.az.ce 0 2 rfl rfl
  have p3:=H3.out.az.ce 0 3 rfl rfl
  have p4:=H3.out.az.ce 0 4 rfl rfl
  have p5:=H3.out.az.ce 0 5 rfl rfl
  go_wp2_with (first
   | (go_at_call 45;(with_reducible refine(KR.out _ _ _ H3.out.p.2).mono ?_);rintro e u3 ⟨⟨a3,c3,rfl,hk3⟩,hb⟩;have H4:=hid ((H3.out.below hb).add hk3 fun _ _ h=>h.below);clear hb hk3 p0 p1 p2 p3 p4 p5;have s22:u3.cell? ⟨w.heap.size,22,none⟩=some (.int .i64 3):=H4.out.az.ce 3 22 rfl rfl;have s23:u3.cell? ⟨w.heap.size,23,none⟩=some (.int .i64 1):=H4.out.az.ce 3 23 rfl rfl;have s24:u3.cell? ⟨w.heap.size,24,none⟩=some (.int .i64 0):=H4.out.az.ce 3 24 rfl rfl;have s25:u3.cell? ⟨w.heap.size,25,none⟩=some (.int .i64 0):=H4.out.az.ce 3 25 rfl rfl;have s26:u3.cell? ⟨w.heap.size,26,none⟩=some (.int .i64 0):=H4.out.az.ce 3 26 rfl rfl;have s27:u3.cell? ⟨w.heap.size,27,none⟩=some (.int .i64 0):=H4.out.az.ce 3 27 rfl rfl;have s28:u3.cell? ⟨w.heap.size,28,none⟩=some (.int .i64 16):=H4.out.az.ce 3 28 rfl rfl;have s29:u3.cell? ⟨w.heap.size,29,none⟩=some (.int .i64 20):=H4.out.az.ce 3 29 rfl rfl;have s30:u3.cell? ⟨w.heap.size,30,none⟩=some (.int .i64 24):=H4.out.az.ce 3 30 rfl rfl;have s31:u3.cell? ⟨w.heap.size,31,none⟩=some (.int .i64 20):=H4.out.az.ce 3 31 rfl rfl;have s32:u3.cell? ⟨w.heap.size,32,none⟩=some (.string ⟨#[]⟩):=H4.out.az.ce 3 32 rfl rfl)
   | (go_at_call 48;(with_reducible refine(KO.out _).mono ?_);rintro e u4 ⟨g4,c4,rfl,hk4,hb⟩;have H5:=hid ((H4.out.below hb).add hk4 fun _ _ h=>h.below);clear hb hk4;clear s22 s23 s24 s25 s26 s27 s28 s29 s30 s31 s32;have p0:=H5.out.az.ce 1 0 rfl rfl;have p1:=H5.out.az.ce 1 1 rfl rfl;have p2:=H5.out.az.ce 1 2 rfl rfl;have p3:=H5.out.az.ce 1 3 rfl rfl;have p4:=H5.out.az.ce 1 4 rfl rfl;have p5:=H5.out.az.ce 1 5 rfl rfl)
   | (go_at_call 51;(with_reducible refine(KG.out _ _ _ H5.out.p.1.1.1.2).mono ?_);rintro e u5 ⟨⟨a5,c5,rfl⟩,hb⟩;have H6:=hid (show ExAt [(u5.heap.size,[.int .i64 0,.int .i64 0,.int .i64 2,.int .i64 1,.int .i64 8,.slice a5 2 c5]),(X5,[.int .i64 0,.int .i64 0,.int .i64 4,.int .i64 4,.int .i64 8,.slice a2 2 c2]),(X1,[.int .i64 0,.int .i64 0,.int .i64 4,.int .i64 4,.int .i64 8,.slice a1 3 c1]),(w.heap.size+1,[.int .i64 0,.int .i64 0,.int .i64 4,.int .i64 4,.int .i64 8,.slice none 0 0]),(w.heap.size,ssC [exS1,exS2,exS3])] _ w (u5.alloc (.cells #[.int .i64 0,.int .i64 0,.int .i64 2,.int .i64 1,.int .i64 8,.slice a5 2 c5] 58)) from(H5.out.below hb).push [.int .i64 0,.int .i64 0,.int .i64 2,.int .i64 1,.int .i64 8,.slice a5 2 c5] 58);clear hb;clear p0 p1 p2 p3 p4 p5)
   | (go_at_call 41;(with_reducible refine(KB.out _).mono ?_);rintro e u6 ⟨rfl,hb⟩;have H7:=hid (show ExAt [(u6.heap.size,[.int .i64 0,.int .i64 0,.int .i64 0,.int .i64 0,.int .i64 0,.slice none 0 0]),(u5.heap.size,[.int .i64 0,.int .i64 0,.int .i64 2,.int .i64 1,.int .i64 8,.slice a5 2 c5]),(X5,[.int .i64 0,.int .i64 0,.int .i64 4,.int .i64 4,.int .i64 8,.slice a2 2 c2]),(X1,[.int .i64 0,.int .i64 0,.int .i64 4,.int .i64 4,.int .i64 8,.slice a1 3 c1]),(w.heap.size+1,[.int .i64 0,.int .i64 0,.int .i64 4,.int .i64 4,.int .i64 8,.slice none 0 0]),(w.heap.size,ssC [exS1,exS2,exS3])] _ w (u6.alloc (.cells #[.int .i64 0,.int .i64 0,.int .i64 0,.int .i64 0,.int .i64 0,.slice none 0 0] 58)) from(H6.out.below hb).push [.int .i64 0,.int .i64 0,.int .i64 0,.int .i64 0,.int .i64 0,.slice none 0 0] 58);clear hb;have r5:=H7.out.az.ce 1 5 rfl rfl;have p0:=H7.out.az.ce 3 0 rfl rfl;have p1:=H7.out.az.ce 3 1 rfl rfl;have p2:=H7.out.az.ce 3 2 rfl rfl;have p3:=H7.out.az.ce 3 3 rfl rfl;have p4:=H7.out.az.ce 3 4 rfl rfl;have p5:=H7.out.az.ce 3 5 rfl rfl)
   | (go_at_call 102;have G1:=hid ((((H7.out.push [.int .i64 0,.int .i64 1] 3).push [.int .i64 4096,.int .i64 4096] 3).add (Q:=CsAt (some ⟨(u6.heap.size+1),0,none⟩) (icC [0,1])) (CsAt.of_ar (by have h:=(H7.out.push [.int .i64 0,.int .i64 1] 3).push [.int .i64 4096,.int .i64 4096] 3;exact h.az.row (_,[.int .i64 0,.int .i64 1]) (by simp))) fun _ _ h=>h.below).add (Q:=CsAt (some ⟨(u6.heap.size+1)+1,0,none⟩) (icC [4096,4096])) (CsAt.of_ar (by have h:=(H7.out.push [.int .i64 0,.int .i64 1] 3).push [.int .i64 4096,.int .i64 4096] 3;simp only[World.size_alloc] at h;exact h.az.row (_,[.int .i64 4096,.int .i64 4096]) (by simp))) fun _ _ h=>h.below);(with_reducible refine(KI1.out _ _ _ _ _ G1.out.p.1.1.1.1.1.2 G1.out.p.1.2 G1.out.p.2).mono ?_);rintro e v1 ⟨rfl,hb⟩;have J1:=hid (((G1.out.below hb).weak (fun _ h=>h.1.1) H7.out.st).sub (L':=[(u6.heap.size,[.int .i64 0,.int .i64 0,.int .i64 0,.int .i64 0,.int .i64 0,.slice none 0 0]),(u5.heap.size,[.int .i64 0,.int .i64 0,.int .i64 2,.int .i64 1,.int .i64 8,.slice a5 2 c5]),(X5,[.int .i64 0,.int .i64 0,.int .i64 4,.int .i64 4,.int .i64 8,.slice a2 2 c2]),(X1,[.int .i64 0,.int .i64 0,.int .i64 4,.int .i64 4,.int .i64 8,.slice a1 3 c1]),(w.heap.size+1,[.int .i64 0,.int .i64 0,.int .i64 4,.int .i64 4,.int .i64 8,.slice none 0 0]),(w.heap.size,ssC [exS1,exS2,exS3])]) (by simp));clear hb p0 p1 p2 p3 p4 p5;have p0:=J1.out.az.ce 3 0 rfl rfl;have p1:=J1.out.az.ce 3 1 rfl rfl;have p2:=J1.out.az.ce 3 2 rfl rfl;have p3:=J1.out.az.ce 3 3 rfl rfl;have p4:=J1.out.az.ce 3 4 rfl rfl;have p5:=J1.out.az.ce 3 5 rfl rfl)
   | (go_at_call 102;have G2:=hid ((((J1.out.push [.int .i64 0] 3).push [.int .i64 1024] 3).add (Q:=CsAt (some ⟨v1.heap.size,0,none⟩) (icC [0])) (CsAt.of_ar (by have h:=(J1.out.push [.int .i64 0] 3).push [.int .i64 1024] 3;exact h.az.row (_,[.int .i64 0]) (by simp))) fun _ _ h=>h.below).add (Q:=CsAt (some ⟨v1.heap.size+1,0,none⟩) (icC [1024])) (CsAt.of_ar (by have h:=(J1.out.push [.int .i64 0] 3).push [.int .i64 1024] 3;simp only[World.size_alloc] at h;exact h.az.row (_,[.int .i64 1024]) (by simp))) fun _ _ h=>h.below);(with_reducible refine(KI2.out _ _ _ _ _ G2.out.p.1.1.1.1.1.2 G2.out.p.1.2 G2.out.p.2).mono ?_);rintro e v2 ⟨rfl,hb⟩;have J2:=hid (((G2.out.below hb).weak (fun _ h=>h.1.1) H7.out.st).sub (L':=[(u6.heap.size,[.int .i64 0,.int .i64 0,.int .i64 0,.int .i64 0,.int .i64 0,.slice none 0 0]),(u5.heap.size,[.int .i64 0,.int .i64 0,.int .i64 2,.int .i64 1,.int .i64 8,.slice a5 2 c5]),(X5,[.int .i64 0,.int .i64 0,.int .i64 4,.int .i64 4,.int .i64 8,.slice a2 2 c2]),(X1,[.int .i64 0,.int .i64 0,.int .i64 4,.int .i64 4,.int .i64 8,.slice a1 3 c1]),(w.heap.size+1,[.int .i64 0,.int .i64 0,.int .i64 4,.int .i64 4,.int .i64 8,.slice none 0 0]),(w.heap.size,ssC [exS1,exS2,exS3])]) (by simp));clear hb p0 p1 p2 p3 p4 p5;have p0:=J2.out.az.ce 3 0 rfl rfl;have p1:=J2.out.az.ce 3 1 rfl rfl;have p2:=J2.out.az.ce 3 2 rfl rfl;have p3:=J2.out.az.ce 3 3 rfl rfl;have p4:=J2.out.az.ce 3 4 rfl rfl;have p5:=J2.out.az.ce 3 5 rfl rfl)
   | (go_at_call 102;have G3:=hid ((((J2.out.push [.int .i64 9,.int .i64 10,.int .i64 11] 3).push [.int .i64 512,.int .i64 2048,.int .i64 512] 3).add (Q:=CsAt (some ⟨v2.heap.size,0,none⟩) (icC [9,10,11])) (CsAt.of_ar (by have h:=(J2.out.push [.int .i64 9,.int .i64 10,.int .i64 11] 3).push [.int .i64 512,.int .i64 2048,.int .i64 512] 3;exact h.az.row (_,[.int .i64 9,.int .i64 10,.int .i64 11]) (by simp))) fun _ _ h=>h.below).add (Q:=CsAt (some ⟨v2.heap.size+1,0,none⟩) (icC [512,2048,512])) (CsAt.of_ar (by have h:=(J2.out.push [.int .i64 9,.int .i64 10,.int .i64 11] 3).push [.int .i64 512,.int .i64 2048,.int .i64 512] 3;simp only[World.size_alloc] at h;exact h.az.row (_,[.int .i64 512,.int .i64 2048,.int .i64 512]) (by simp))) fun _ _ h=>h.below);(with_reducible refine(KI3.out _ _ _ _ _ G3.out.p.1.1.1.1.1.2 G3.out.p.1.2 G3.out.p.2).mono ?_);rintro e v3 ⟨rfl,hb⟩;have J3:=hid (((G3.out.below hb).weak (fun _ h=>h.1.1) H7.out.st).sub (L':=[(u6.heap.size,[.int .i64 0,.int .i64 0,.int .i64 0,.int .i64 0,.int .i64 0,.slice none 0 0]),(u5.heap.size,[.int .i64 0,.int .i64 0,.int .i64 2,.int .i64 1,.int .i64 8,.slice a5 2 c5]),(X5,[.int .i64 0,.int .i64 0,.int .i64 4,.int .i64 4,.int .i64 8,.slice a2 2 c2]),(X1,[.int .i64 0,.int .i64 0,.int .i64 4,.int .i64 4,.int .i64 8,.slice a1 3 c1]),(w.heap.size+1,[.int .i64 0,.int .i64 0,.int .i64 4,.int .i64 4,.int .i64 8,.slice none 0 0]),(w.heap.size,ssC [exS1,exS2,exS3])]) (by simp));clear hb p0 p1 p2 p3 p4 p5)
   | (go_at_call 55;have G4:=hid ((J3.out.push [.int .i64 1,.int .i64 1,.int .i64 2,.bool true,.int .i64 2,.int .i64 1,.int .i64 2,.bool true] 75).add (Q:=CsAt (some ⟨v3.heap.size,0,none⟩) (seC [⟨1,1,2,true⟩,⟨2,1,2,true⟩])) (CsAt.of_ar (by have h:=J3.out.push [.int .i64 1,.int .i64 1,.int .i64 2,.bool true,.int .i64 2,.int .i64 1,.int .i64 2,.bool true] 75;exact h.az.row (_,[.int .i64 1,.int .i64 1,.int .i64 2,.bool true,.int .i64 2,.int .i64 1,.int .i64 2,.bool true]) (by simp))) fun _ _ h=>h.below);(with_reducible refine(KS.out _ _ _ _ _ G4.out.p.1.1.2 G4.out.p.2).mono ?_);rintro e v4 ⟨rfl,hb⟩;have J4:=hid ((((G4.out.below hb).weak (fun _ h=>h.1) H7.out.st).sub (L':=[(u6.heap.size,[.int .i64 0,.int .i64 0,.int .i64 0,.int .i64 0,.int .i64 0,.slice none 0 0]),(u5.heap.size,[.int .i64 0,.int .i64 0,.int .i64 2,.int .i64 1,.int .i64 8,.slice a5 2 c5]),(X5,[.int .i64 0,.int .i64 0,.int .i64 4,.int .i64 4,.int .i64 8,.slice a2 2 c2]),(X1,[.int .i64 0,.int .i64 0,.int .i64 4,.int .i64 4,.int .i64 8,.slice a1 3 c1]),(w.heap.size+1,[.int .i64 0,.int .i64 0,.int .i64 4,.int .i64 4,.int .i64 8,.slice none 0 0]),(w.heap.size,ssC [exS1,exS2,exS3])]) (by simp)));clear hb)
   | (go_at_call 27;have G5:=hid ((J4.out.push [.int .i64 14,.int .i64 18,.int .i64 26,.int .i64 18,.int .i64 26,.int .i64 22,.int .i64 14,.int .i64 22] 26).add (Q:=PsAt v4.heap.size [⟨14,18⟩,⟨26,18⟩,⟨26,22⟩,⟨14,22⟩]) (PsAt.of (by have h:=J4.out.push [.int .i64 14,.int .i64 18,.int .i64 26,.int .i64 18,.int .i64 26,.int .i64 22,.int .i64 14,.int .i64 22] 26;exact h.az.row (_,[.int .i64 14,.int .i64 18,.int .i64 26,.int .i64 18,.int .i64 26,.int .i64 22,.int .i64 14,.int .i64 22]) (by simp))) fun _ _ h=>h.below);(with_reducible refine(KL.out _ _ _ _ _ G5.out.p.1.2 G5.out.p.2).mono ?_);rintro e v5 ⟨rfl,hb⟩;have J5:=hid ((((G5.out.below hb).weak (fun _ h=>h.1) H7.out.st).sub (L':=[(u6.heap.size,[.int .i64 0,.int .i64 0,.int .i64 0,.int .i64 0,.int .i64 0,.slice none 0 0]),(u5.heap.size,[.int .i64 0,.int .i64 0,.int .i64 2,.int .i64 1,.int .i64 8,.slice a5 2 c5]),(X5,[.int .i64 0,.int .i64 0,.int .i64 4,.int .i64 4,.int .i64 8,.slice a2 2 c2]),(X1,[.int .i64 0,.int .i64 0,.int .i64 4,.int .i64 4,.int .i64 8,.slice a1 3 c1]),(w.heap.size+1,[.int .i64 0,.int .i64 0,.int .i64 4,.int .i64 4,.int .i64 8,.slice none 0 0]),(w.heap.size,ssC [exS1,exS2,exS3])]) (by simp)));clear hb;have p0:=J5.out.az.ce 3 0 rfl rfl;have p1:=J5.out.az.ce 3 1 rfl rfl;have p2:=J5.out.az.ce 3 2 rfl rfl;have p3:=J5.out.az.ce 3 3 rfl rfl;have p4:=J5.out.az.ce 3 4 rfl rfl;have p5:=J5.out.az.ce 3 5 rfl rfl)
   | (go_at_call 42;(with_reducible refine(KT.out _ _ _ J5.out.p.1.1.1.2).mono ?_);rintro e v6 ⟨rfl,hb⟩;have J6:=hid (J5.out.below hb);clear hb p0 p1 p2 p3 p4 p5;have p0:=J6.out.az.ce 3 0 rfl rfl;have p1:=J6.out.az.ce 3 1 rfl rfl;have p2:=J6.out.az.ce 3 2 rfl rfl;have p3:=J6.out.az.ce 3 3 rfl rfl;have p4:=J6.out.az.ce 3 4 rfl rfl;have p5:=J6.out.az.ce 3 5 rfl rfl)
   | (go_at_call 53;(with_reducible refine(KV.out _ _ _ J6.out.p.1.1.1.2).mono ?_);rintro e v7 ⟨rfl,hb⟩;have J7:=hid (J6.out.below hb);clear hb p0 p1 p2 p3 p4 p5)
   | (go_at_call 53;(with_reducible refine(KZ.out _).mono ?_);rintro e v8 ⟨rfl,hb⟩;have J8:=hid (J7.out.below hb);clear hb;have p0:=J8.out.az.ce 3 0 rfl rfl;have p1:=J8.out.az.ce 3 1 rfl rfl;have p2:=J8.out.az.ce 3 2 rfl rfl;have p3:=J8.out.az.ce 3 3 rfl rfl;have p4:=J8.out.az.ce 3 4 rfl rfl;have p5:=J8.out.az.ce 3 5 rfl rfl)
   | (go_at_call 59;(with_reducible refine(KE.out _ _ _ J8.out.p.1.1.1.2).mono ?_);rintro e v9 ⟨rfl,hb⟩;have J9:=hid (J8.out.below hb);clear hb p0 p1 p2 p3 p4 p5;have p0:=J9.out.az.ce 3 0 rfl rfl;have p1:=J9.out.az.ce 3 1 rfl rfl;have p2:=J9.out.az.ce 3 2 rfl rfl;have p3:=J9.out.az.ce 3 3 rfl rfl;have p4:=J9.out.az.ce 3 4 rfl rfl;have p5:=J9.out.az.ce 3 5 rfl rfl;have q0:=J9.out.az.ce 2 0 rfl rfl;have q1:=J9.out.az.ce 2 1 rfl rfl;have q2:=J9.out.az.ce 2 2 rfl rfl;have q3:=J9.out.az.ce 2 3 rfl rfl;have q4:=J9.out.az.ce 2 4 rfl rfl;have q5:=J9.out.az.ce 2 5 rfl rfl)
   | (go_at_call 59;(with_reducible refine(KD.out _ _ _ _ _ J9.out.p.1.1.1.2 J9.out.p.1.1.2).mono ?_);rintro e v10 ⟨rfl,hb⟩;have J10:=hid (J9.out.below hb);clear hb p0 q0 p1 q1 p2 q2 p3 q3 p4 q4 p5 q5;have z2:=J10.out.az.ce 1 2 rfl rfl)
   | fail)
  go_ret
  exact⟨rfl,J10.out.az.bw⟩
end Go.Proofs.YtlikmmpmnaaifaaGreatDoor
namespace Go.Proofs.YtlikmmpmnaaifaaGreatDoor
open Go.RowKit Go.Shelf Go.Sort
theorem aKQ {a a':Option Addr} {c c' n m:Nat} {l l':List Int} (hl:l.length=n) (hl':l'.length=m) (hn:n≤1000000) (hm:m≤1000000) (w:World) (h:CsAt a (icC l) w) (h':CsAt a' (icC l') w) :
  Calls Tryz.prog 111 #[.slice a n c,.slice a' m c'] w fun e w'=>e=.returned (.bool (decide (l=l')))∧Below w.heap.size w w':=by
 by_cases hnm:n=m
 case neg=>
  have hd:decide (l=l')=false:=decide_eq_false (fun e=>hnm (by rw[←hl,←hl',e]))
  rw[hd]
  clear hd hl hl' h h'
  go_enter Tryz.func111,Tryz.ntmps111
  go_wp2
  go_ret
  exact⟨rfl,Below.refl _ _⟩
 subst hnm
 have HL:=hid hl
 have HL':=hid hl'
 have HP:=hid h
 have HP':=hid h'
 clear hl hl' h h'
 go_enter Tryz.func111,Tryz.ntmps111
 go_wp2
 go_loopw [5] (fun v5 wr=>∃k:Nat,k≤n∧v5=.int .i64 (k:Int)∧l.take k=l'.take k∧Below w.heap.size w wr) (fun v5 _=>n-(intOf v5).toNat)
 case atStart=>exact⟨0,Nat.zero_le _,rfl,rfl,Below.refl _ _⟩
 case round=>
  obtain⟨k,hk,rfl,ht,hb⟩:=hrel
  have HK:=hid hb
  have HT:=hid ht
  clear hb ht
  by_cases hlt:k<n
  ·obtain⟨x,hx⟩:∃x,l[k]?=some x:=⟨l[k]'(by have:=HL.out;omega),List.getElem?_eq_getElem _⟩
   obtain⟨y,hy⟩:∃y,l'[k]?=some y:=⟨l'[k]'(by have:=HL'.out;omega),List.getElem?_eq_getElem _⟩
   obtain⟨b,o,rfl,hbk,c0⟩:=(HP.out.below HK.out).row k (.int .i64 x) (by unfold icC;rw[List.getElem?_map,hx];rfl)
   obtain⟨b',o',rfl,hbk',d0⟩:=(HP'.out.below HK.out).row k (.int .i64 y) (by unfold icC;rw[List.getElem?_map,hy];rfl)
   have i1:(0:Int)≤(k:Int):=by omega
   have i2:(k:Int)<(n:Int):=by omega
   have HX:=hid (And.intro hx hy)
   clear hx hy
   by_cases hd:x=y
   ·subst hd
    go_wp2
    go_region
    all_goals
     go_wp2
     refine⟨⟨k+1,by omega,by go_num,?_,HK.out.drew⟩,by simp only[intOf];omega⟩
     rw[List.take_add_one,List.take_add_one,HX.out.1,HX.out.2,HT.out]
   ·have e1:(x==y)=false:=by simpa using hd
    have HE:=hid (show decide (l=l')=false from decide_eq_false fun e=>by
     have h:=HX.out
     rw[e,h.2] at h
     exact hd (Option.some.inj h.1).symm)
    clear hd
    go_wp2
    go_region
    all_goals
     go_wp2
     go_ret
     exact⟨aN_ HE.out.symm,HK.out.drew⟩
  ·have HE:=hid (show decide (l=l')=true from decide_eq_true (by
    have h:=HT.out
    rw[List.take_of_length_le (by have:=HL.out;omega),List.take_of_length_le (by have:=HL'.out;omega)] at h
    exact h))
   obtain rfl:k=n:=by omega
   go_wp2
   go_ret
   exact⟨aN_ HE.out.symm,HK.out⟩
theorem aAW (f g:Fr) (va vb:Value) (hva:va=.slice none 0 0∨∃a n c,va=.slice a n c) (hvb:vb=.slice none 0 0∨∃a n c,vb=.slice a n c) (w:World) :
  Calls Tryz.prog 110 #[.agg #[.int .i64 f.x,.int .i64 f.y,.int .i64 f.w,.int .i64 f.h,.int .i64 f.s,va],.agg #[.int .i64 g.x,.int .i64 g.y,.int .i64 g.w,.int .i64 g.h,.int .i64 g.s,vb]] w fun e w'=>e=.returned (.bool (decide (f=g)))∧Below w.heap.size w w':=by
 obtain⟨a,n,c,rfl⟩:∃a n c,va=.slice a n c:=by rcases hva with rfl|h;exact⟨_,_,_,rfl⟩;exact h
 obtain⟨a',n',c',rfl⟩:∃a n c,vb=.slice a n c:=by rcases hvb with rfl|h;exact⟨_,_,_,rfl⟩;exact h
 have HB:=hid (show Below w.heap.size w ((w.alloc (.cells #[.int .i64 f.x,.int .i64 f.y,.int .i64 f.w,.int .i64 f.h,.int .i64 f.s,.slice a n c] 58)).alloc (.cells #[.int .i64 g.x,.int .i64 g.y,.int .i64 g.w,.int .i64 g.h,.int .i64 g.s,.slice a' n' c'] 58)) from((Below.refl _ _).alloc (Nat.le_refl _) _).alloc (by simp) _)
 obtain⟨fx,fy,fw,fh,fs⟩:=f
 obtain⟨gx,gy,gw,gh,gs⟩:=g
 simp only at HB⊢
 have HE:=hid (show decide ((⟨fx,fy,fw,fh,fs⟩:Fr)=⟨gx,gy,gw,gh,gs⟩)=((fx==gx)&&(fy==gy)&&(fw==gw)&&(fh==gh)&&(fs==gs)) from by
  rw[Bool.eq_iff_iff]
  simp[and_assoc])
 obtain⟨q1,h1⟩:∃q,(fx==gx)=q:=⟨_,rfl⟩
 obtain⟨q2,h2⟩:∃q,(fy==gy)=q:=⟨_,rfl⟩
 obtain⟨q3,h3⟩:∃q,(fw==gw)=q:=⟨_,rfl⟩
 obtain⟨q4,h4⟩:∃q,(fh==gh)=q:=⟨_,rfl⟩
 obtain⟨q5,h5⟩:∃q,(fs==gs)=q:=⟨_,rfl⟩
 rw[h1,h2,h3,h4,h5] at HE
 clear hva hvb
 go_enter Tryz.func110,Tryz.ntmps110
 cases q1
 ·go_wp2
  go_ret
  exact⟨aN_ (by rw[HE.out];rfl),HB.out⟩
 cases q2
 ·go_wp2
  go_ret
  exact⟨aN_ (by rw[HE.out];rfl),HB.out⟩
 cases q3
 ·go_wp2
  go_ret
  exact⟨aN_ (by rw[HE.out];rfl),HB.out⟩
 cases q4
 ·go_wp2
  go_ret
  exact⟨aN_ (by rw[HE.out];rfl),HB.out⟩
 cases q5
 ·go_wp2
  go_ret
  exact⟨aN_ (by rw[HE.out];rfl),HB.out⟩
 go_wp2
 go_ret
 exact⟨aN_ (by rw[HE.out];rfl),HB.out⟩
theorem aJJ {f g:Fr} {a a':Option Addr} {c c' n m:Nat} {ks ls:List Ik} (hl:ks.length=n) (hl':ls.length=m) (hn:n≤1000000) (hm:m≤1000000) (hk:∀k∈ks,k.cells.length≤1000000) (hk':∀k∈ls,k.cells.length≤1000000) (w:World) (h:InksAt a ks w) (h':InksAt a' ls w) :
  Calls Tryz.prog 44 #[.agg #[.int .i64 f.x,.int .i64 f.y,.int .i64 f.w,.int .i64 f.h,.int .i64 f.s,.slice a n c],.agg #[.int .i64 g.x,.int .i64 g.y,.int .i64 g.w,.int .i64 g.h,.int .i64 g.s,.slice a' m c']] w fun e w'=>e=.returned (.bool (sQ_ f g ks ls))∧Below w.heap.size w w':=by
 have hmx:Tryz.prog.follows .mixedOrders=true:=by kernel_rfl
 have KF:=hid (fun W=>aAW f g (.slice a n c) (.slice a' m c') (.inr ⟨_,_,_,rfl⟩) (.inr ⟨_,_,_,rfl⟩) W)
 have H0:=hid (show AzAt [(w.heap.size+1,frC g (.slice a' m c')),(w.heap.size,frC f (.slice a n c))] w ((w.alloc (.cells #[.int .i64 f.x,.int .i64 f.y,.int .i64 f.w,.int .i64 f.h,.int .i64 f.s,.slice a n c] 58)).alloc (.cells #[.int .i64 g.x,.int .i64 g.y,.int .i64 g.w,.int .i64 g.h,.int .i64 g.s,.slice a' m c'] 58)) from by
  have hp:=((AzAt.start w).push (frC f (.slice a n c)) 58).push (frC g (.slice a' m c')) 58
  simp only[World.size_alloc] at hp
  exact hp)
 have HP:=hid h
 have HP':=hid h'
 have HL:=hid hl
 have HL':=hid hl'
 have HKL:=hid (And.intro hk hk')
 have HSB:=hid (show sQ_ f g ks ls=(decide (f=g)&&decide (ks=ls)) from rfl)
 obtain⟨q,hq⟩:∃q,decide (f=g)=q:=⟨_,rfl⟩
 rw[hq] at HSB KF
 clear hl hl' hk hk' h h' hq
 go_enter Tryz.func44,Tryz.ntmps44
 cases q
 ·go_wp2_with (go_at_call 110;(with_reducible refine(KF.out _).mono ?_);rintro e u1 ⟨rfl,hb⟩;have H1:=hid (H0.out.below hb);clear hb)
  go_ret
  exact⟨aN_ (by rw[HSB.out];rfl),H1.out.bw⟩
 by_cases hnm:n=m
 case neg=>
  have HE:=hid (show decide (ks=ls)=false from decide_eq_false (fun e=>hnm (by rw[←HL.out,←HL'.out,e])))
  go_wp2_with (go_at_call 110;(with_reducible refine(KF.out _).mono ?_);rintro e u1 ⟨rfl,hb⟩;have H1:=hid (H0.out.below hb);clear hb;have x5:=H1.out.ce 1 5 rfl rfl;have y5:=H1.out.ce 0 5 rfl rfl)
  go_ret
  exact⟨aN_ (by rw[HSB.out,HE.out];rfl),H1.out.bw⟩
 subst hnm
 go_wp2_with (go_at_call 110;(with_reducible refine(KF.out _).mono ?_);rintro e u1 ⟨rfl,hb⟩;have H1:=hid (H0.out.below hb);clear hb;have x5:=H1.out.ce 1 5 rfl rfl;have y5:=H1.out.ce 0 5 rfl rfl)
 clear x5 y5 H0 KF
 go_loopw [5] (fun v5 wr=>∃k:Nat,k≤n∧v5=.int .i64 (k:Int)∧ks.take k=ls.take k∧AzAt [(w.heap.size+1,frC g (.slice a' n c')),(w.heap.size,frC f (.slice a n c))] w wr) (fun v5 _=>n-(intOf v5).toNat)
 case atStart=>exact⟨0,Nat.zero_le _,rfl,rfl,H1.out⟩
 case round=>
  obtain⟨k,hk,rfl,ht,hb⟩:=hrel
  have HK:=hid hb
  have HT:=hid ht
  clear hb ht H1
  have x5:=HK.out.ce 1 5 rfl rfl
  have y5:=HK.out.ce 0 5 rfl rfl
  by_cases hlt:k<n
  ·obtain⟨x,hx⟩:∃x,ks[k]?=some x:=⟨ks[k]'(by have:=HL.out;omega),List.getElem?_eq_getElem _⟩
   obtain⟨y,hy⟩:∃y,ls[k]?=some y:=⟨ls[k]'(by have:=HL'.out;omega),List.getElem?_eq_getElem _⟩
   obtain⟨b,o,ca,cc,rfl,hbk,c0,c1,hcs,_⟩:=(HP.out.below HK.out.bw).row k x hx
   obtain⟨b',o',cb,cd,rfl,hbk',d0,d1,hds,_⟩:=(HP'.out.below HK.out.bw).row k y hy
   have i1:(0:Int)≤(k:Int):=by omega
   have i2:(k:Int)<(n:Int):=by omega
   have HX:=hid (And.intro hx hy)
   have KI:=hid (fun W (h:CsAt ca (icC x.cells) W) (h':CsAt cb (icC y.cells) W)=>aKQ (c:=cc) (c':=cd) rfl rfl (HKL.out.1 x (List.mem_of_getElem? hx)) (HKL.out.2 y (List.mem_of_getElem? hy)) W h h')
   have HCS:=hid hcs
   have HDS:=hid hds
   clear hx hy hcs hds
   have z5:=cell_regrown x5
   have z6:=cell_regrown y5
   have z0:=cell_regrown c0
   have z1:=cell_regrown c1
   have z2:=cell_regrown d0
   have z3:=cell_regrown d1
   have cK:=fun d os=>Calls.regrown_of (d:=d) (os:=os) (KI.out (grow (redrawn wr d) os) (HCS.out.below (below_regrown wr d os)) (HDS.out.below (below_regrown wr d os)))
   have HD:=hid (show decide (x=y)=((x.code==y.code)&&decide (x.cells=y.cells)) from by
    cases x
    cases y
    rw[Bool.eq_iff_iff]
    simp)
   obtain⟨t1,h1⟩:∃t,(x.code==y.code)=t:=⟨_,rfl⟩
   have h3:(x.code != y.code) = !t1:=by rw[←h1];rfl
   obtain⟨t2,h2⟩:∃t,decide (x.cells=y.cells)=t:=⟨_,rfl⟩
   rw[h1,h2] at HD
   rw[h2] at cK
   clear h2 c0 c1 d0 d1
   have HNO:=hid (fun(e:ks=ls)=>(show x=y from by
    have h:=HX.out
    rw[e,h.2] at h
    exact(Option.some.inj h.1).symm))
   cases t1 <;> simp only[Bool.not_true,Bool.not_false] at h3
   ·have HE:=hid (show decide (ks=ls)=false from decide_eq_false fun e=>absurd HD.out (by rw[decide_eq_true (HNO.out e)];simp))
    go_wp2
    refine wp_region_quiet_below (by kernel_rfl) (by kernel_rfl) ?_
    repeat (go_big_quiet_step (fail))
    refine wpQuiet_nil ?_
    intro W2 hw2
    have hb2:Below wr.heap.size wr W2:=by obtain⟨⟨dq,osq⟩,hw7⟩:=hw2;rw[hw7];exact below_regrown wr dq osq
    have H2:=hid (HK.out.below hb2)
    clear hw2 hb2
    go_wp2
    go_ret
    exact⟨aN_ (by rw[HSB.out,HE.out];rfl),H2.out.bw⟩
   cases t2
   ·have HE:=hid (show decide (ks=ls)=false from decide_eq_false fun e=>absurd HD.out (by rw[decide_eq_true (HNO.out e)];simp))
    go_wp2
    refine wp_region_quiet_below (by kernel_rfl) (by kernel_rfl) ?_
    repeat (go_big_quiet_step (with_reducible exact cK _ _))
    refine wpQuiet_nil ?_
    intro W2 hw2
    have hb2:Below wr.heap.size wr W2:=by obtain⟨⟨dq,osq⟩,hw7⟩:=hw2;rw[hw7];exact below_regrown wr dq osq
    have H2:=hid (HK.out.below hb2)
    clear hw2 hb2
    go_wp2
    go_ret
    exact⟨aN_ (by rw[HSB.out,HE.out];rfl),H2.out.bw⟩
   ·have HXY:=hid (show x=y from of_decide_eq_true HD.out)
    go_wp2
    refine wp_region_quiet_below (by kernel_rfl) (by kernel_rfl) ?_
    repeat (go_big_quiet_step (with_reducible exact cK _ _))
    refine wpQuiet_nil ?_
    intro W2 hw2
    have hb2:Below wr.heap.size wr W2:=by obtain⟨⟨dq,osq⟩,hw7⟩:=hw2;rw[hw7];exact below_regrown wr dq osq
    have H2:=hid (HK.out.below hb2)
    clear hw2 hb2
    go_wp2
    refine⟨⟨k+1,by omega,by go_num,?_,H2.out⟩,by simp only[intOf];omega⟩
    rw[List.take_add_one,List.take_add_one,HX.out.1,HX.out.2,HT.out,HXY.out]
  ·obtain rfl:k=n:=by omega
   have HE:=hid (show decide (ks=ls)=true from decide_eq_true (by have:=HT.out;rwa[List.take_of_length_le (by have:=HL.out;omega),List.take_of_length_le (by have:=HL'.out;omega)] at this))
   go_wp2
   go_ret
   exact⟨aN_ (by rw[HSB.out,HE.out];rfl),HK.out.bw⟩
end Go.Proofs.YtlikmmpmnaaifaaGreatDoor
namespace Go.Proofs.YtlikmmpmnaaifaaGreatDoor
open Go.RowKit Go.Shelf Go.Sort
attribute [local go_sem] Oper.semAt_some
abbrev Ent:=Ik×Option Addr×Nat
def entV (l:List Ent):List Value:=l.flatMap fun e=>[.int .i64 e.1.code,.slice e.2.1 e.1.cells.length e.2.2]
theorem iD_ (l:List Ent):(entV l).length=l.length*2:=by
 induction l with
 | nil=>rfl
 | cons e l ih=>
  show(([.int .i64 e.1.code,.slice e.2.1 e.1.cells.length e.2.2]:List Value)++entV l).length=_
  rw[List.length_append,ih]
  simp
  omega
theorem vW_ (l m:List Ent):entV (l++m)=entV l++entV m:=by simp[entV]
theorem aPO {l:List Ent} {k:Nat} {e:Ent} (h:l[k]?=some e):(entV l)[k*2]?=some (.int .i64 e.1.code)∧(entV l)[k*2+1]?=some (.slice e.2.1 e.1.cells.length e.2.2):=by
 induction l generalizing k with
 | nil=>cases h
 | cons y l ih=>
  have hy:entV (y::l)=[.int .i64 y.1.code,.slice y.2.1 y.1.cells.length y.2.2]++entV l:=rfl
  rw[hy]
  cases k with
  | zero=>
   obtain rfl:y=e:=by simpa using h
   exact⟨rfl,rfl⟩
  | succ k=>
   have:=ih (k:=k) (by simpa using h)
   rw[show(k+1)*2=k*2+1+1 by omega]
   exact this
theorem yW_ (l:List Ent):∀u∈entV l,u.oneCell'=true:=by
 intro u hu
 obtain⟨e,_,he⟩:=List.mem_flatMap.1 hu
 simp only[List.mem_cons,List.not_mem_nil,or_false] at he
 rcases he with rfl|rfl <;> rfl
def EntsAt (es:List Ent) (W:World):Prop:=∀e∈es,CsAt e.2.1 (icC e.1.cells) W∧e.1.cells.length≤e.2.2
theorem InksAt.ents {a:Option Addr} {ks:List Ik} {W:World} (h:InksAt a ks W):∃es:List Ent,es.map (·.1)=ks∧CsAt a (entV es) W∧EntsAt es W:=by
 have key:∀m,m≤ks.length→∃es:List Ent,es.map (·.1)=ks.take m∧∀(i:Nat) (e:Ent),es[i]?=some e→∃b o:Nat,a=some ⟨b,o,none⟩∧b<W.heap.size∧W.cell? ⟨b,o+i*2,none⟩=some (.int .i64 e.1.code)∧W.cell? ⟨b,o+i*2+1,none⟩=some (.slice e.2.1 e.1.cells.length e.2.2)∧CsAt e.2.1 (icC e.1.cells) W∧e.1.cells.length≤e.2.2:=by
  intro m
  induction m with
  | zero=>intro _;exact⟨[],rfl,fun i e he=>by simp at he⟩
  | succ m ih=>
   intro hm
   obtain⟨es,h1,h2⟩:=ih (by omega)
   obtain⟨k,hk⟩:∃k,ks[m]?=some k:=⟨ks[m]'(by omega),List.getElem?_eq_getElem _⟩
   obtain⟨b,o,ca,cc,e1,r1,r2,r3,r4,r5⟩:=h.row m k hk
   have hl:es.length=m:=by
    have:=congrArg List.length h1
    rw[List.length_map,List.length_take] at this
    omega
   refine⟨es++[(k,ca,cc)],by rw[List.map_append,h1,List.take_add_one,hk];rfl,fun i e he=>?_⟩
   rcases Nat.lt_trichotomy i m with q|q|q
   ·rw[List.getElem?_append_left (by omega)] at he
    exact h2 i e he
   ·subst q
    rw[List.getElem?_append_right (by omega),hl,Nat.sub_self] at he
    obtain rfl:(k,ca,cc)=e:=by simpa using he
    exact⟨b,o,e1,r1,r2,r3,r4,r5⟩
   ·rw[List.getElem?_eq_none (by simp;omega)] at he
    cases he
 obtain⟨es,h1,h2⟩:=key ks.length (Nat.le_refl _)
 rw[List.take_length] at h1
 refine⟨es,h1,⟨fun i v hv=>?_⟩,fun e he=>?_⟩
 ·have hi:i<es.length*2:=by
   rw[←iD_]
   exact(List.getElem?_eq_some_iff.1 hv).1
  obtain⟨e,he⟩:∃e,es[i/2]?=some e:=⟨es[i/2]'(by omega),List.getElem?_eq_getElem _⟩
  obtain⟨b,o,e1,r1,r2,r3,_⟩:=h2 _ _ he
  refine⟨b,o,e1,r1,?_⟩
  obtain⟨v1,v2⟩:=aPO he
  rcases Nat.mod_two_eq_zero_or_one i with q|q
  ·rw[show i=i/2*2 by omega] at hv⊢
   rw[v1] at hv
   rw[r2,hv]
  ·rw[show i=i/2*2+1 by omega] at hv⊢
   rw[v2] at hv
   rw[←Nat.add_assoc,r3,hv]
 ·obtain⟨i,hi⟩:=List.mem_iff_getElem?.1 he
  obtain⟨_,_,_,_,_,_,r4,r5⟩:=h2 i e hi
  exact⟨r4,r5⟩
theorem aPC {n:Nat} (h1:1≤n) (hn:n≤1000000) {R:List (Nat×List Value)} {w W:World} (hA:AzAt R w W) :
  Calls Tryz.prog 168 #[.slice none 0 0,.int .i64 n] W fun e W'=>∃g c,e=.returned (.slice (some ⟨g,0,none⟩) 0 c)∧OsAt 79 2 (.slice (some ⟨g,0,none⟩) 0 c) 0 [] R w W':=by
 obtain⟨i0,hi0,hz0,hz1,hz2⟩:=info_parts lO_
 have hold:(Builtin.firstCells i0.size 0 (.slice none 0 0)).run Tryz.prog W.drew=.ok #[] W.drew:=run_firstCells_none W.drew i0.size 0 0 0
 have hrz:∀ty,(Builtin.append_ #[56,3] ty #[.slice none 0 0,.int .i64 (n:Int)]).run Tryz.prog W =
   .ok (.slice (some ⟨W.heap.size,0,none⟩) n (grownCap W n 0 79)) (W.drew.alloc (.cells (Builtin.zeroCells (Value.agg #[.int .i64 0,.slice none 0 0]).cells n++Builtin.zeroCells (Value.agg #[.int .i64 0,.slice none 0 0]).cells (grownCap W n 0 79-n)) 79)):=fun ty=>by
  have h:=Lib.run_append_grow_zeros W 56 3 ty 79 i0 _ .i64 .i64 Tryz.underlying56 Tryz.underlying3 hi0 hz0 none 0 0 [] hold n (by omega) (by omega) (by omega) (by omega) (by rw[hz2];omega) (growslice_fits (by omega) (by rw[hz2];omega))
  simpa using h
 have hGn:n≤grownCap W n 0 79:=grownCap_ge W _ _ _
 have hG63:grownCap W n 0 79≤maxLen:=grownCap_le_maxLen W n 0 79 (by unfold maxLen;omega)
 obtain⟨G,hG⟩:∃G,G=grownCap W n 0 79:=⟨_,rfl⟩
 rw[←hG] at hrz hGn hG63
 obtain⟨cur,hcur⟩:∃cur,cur=Builtin.zeroCells (Value.agg #[.int .i64 0,.slice none 0 0]).cells n++Builtin.zeroCells (Value.agg #[.int .i64 0,.slice none 0 0]).cells (G-n):=⟨_,rfl⟩
 have hcs:cur.size=G*2:=by
  rw[hcur,Array.size_append,cB_,cB_]
  show n*2+(G-n)*2=G*2
  omega
 rw[←hcur] at hrz
 have H0:=hid (show OsAt 79 2 (.slice (some ⟨W.heap.size,0,none⟩) 0 G) 0 [] R w (W.drew.alloc (.cells cur 79)) from
  ⟨(hA.drew.al _),⟨rfl,.inr ⟨W.heap.size,G,cur,rfl,hA.bw.size,World.alloc_heap_new W.drew _,by omega,hG63,hcs,by simp⟩⟩,fun x hx hk=>by
    have:=(hA.row x hx).sz
    have hk':W.heap.size=x.1:=Option.some.inj hk
    omega⟩)
 have hG2:G≤9223372036854775807:=by unfold maxLen at hG63;exact hG63
 clear hcur hcs hold hG hA hG63
 go_enter Tryz.func168,Tryz.ntmps168
 go_wp2_with (at_builtin;refine Lib.wpList_append_run _ rfl _ _ _ _ rfl _ _ rfl rfl _ _ (hrz _) ?_)
 all_goals
  go_ret
  exact⟨_,_,rfl,H0.out⟩
theorem aPD (W:World):Calls Tryz.prog 168 #[.slice none 0 0,.int .i64 0] W fun e W'=>e=.returned (.slice none 0 0)∧W'=W:=by
 go_enter Tryz.func168,Tryz.ntmps168
 go_wp2
 go_ret
 exact⟨rfl,rfl⟩
attribute [local go_sem ↓] rQ_
def NilOk (a:Option Addr) (n c:Nat):Prop:=a=none→n=0∧c=0
theorem aLC {n:Nat} (hn:n≤1000000) {R:List (Nat×List Value)} {w W:World} (hA:AzAt R w W) :
  Calls Tryz.prog 168 #[.slice none 0 0,.int .i64 n] W fun e W'=>∃v,e=.returned v∧OsAt 79 2 v 0 [] R w W':=by
 by_cases h:1≤n
 ·exact(aPC h hn hA).mono fun e W' ⟨g,c,h1,h2⟩=>⟨_,h1,h2⟩
 ·obtain rfl:n=0:=by omega
  exact(aPD W).mono fun e W' ⟨h1,h2⟩=>⟨_,h1,by rw[h2];exact OsAt.nil hA _ _⟩
theorem CsAt.news {ad:Addr} {l:List Value} {W:World} (h:CsAt (Option.some ad) l W):∀j u,l[j]?=Option.some u→W.cell? (ad.add j)=Option.some u:=fun j u hj=>by
 obtain⟨b,o,e,_,h2⟩:=h.row j u hj
 injection e with e
 subst e
 have e:((⟨b,o,none⟩:Addr).add j)=⟨b,o+j,none⟩:=by by_cases hq:j=0 <;> simp[Addr.add,hq]
 rw[e]
 exact h2
theorem aHO {S m1 m2 c1 c2 cs:Nat} {a1 a2:Option Addr} {l1 l2:List Ent} (h1:l1.length=m1) (h2:l2.length=m2) (hn:m1≤1000∧m2≤1000) (n1:NilOk a1 m1 c1) (n2:NilOk a2 m2 c2) {R:List (Nat×List Value)} {W:World} (hA:AzAt ((S,[.slice a1 m1 c1,.slice a2 m2 c2])::R) W W) (v1:CsAt a1 (entV l1) W) (v2:CsAt a2 (entV l2) W) :
  Calls Tryz.prog 124 #[.slice (some ⟨S,0,none⟩) 2 cs] W fun e W'=>∃v,e=.returned v∧OsAt 79 2 v (m1+m2) (entV (l1++l2)) ((S,[.slice a1 m1 c1,.slice a2 m2 c2])::R) W W':=by
 obtain⟨i0,hi0,hz0,hz1,hz2⟩:=info_parts lO_
 have HL:=hid (And.intro h1 h2)
 have HN1:=hid n1
 have HN2:=hid n2
 have HG:=hid (aLC (n:=m1+m2) (by omega) hA)
 rw[Int.natCast_add] at HG
 have HV:=hid (And.intro v1 v2)
 have h_:=hA.row (S,[.slice a1 m1 c1,.slice a2 m2 c2]) (by simp)
 have s0:=h_.row 0 _ rfl
 have s1:=h_.row 1 _ rfl
 clear h_
 have hS:=(hA.row (S,[.slice a1 m1 c1,.slice a2 m2 c2]) (by simp)).sz
 clear hA h1 h2 n1 n2 v1 v2
 have hm1:IntKind.i64.wrap (m1:Int)=(m1:Int):=IntWalk.i64_in _ (by omega)
 have hm2:IntKind.i64.wrap ((m1:Int)+(m2:Int))=(m1:Int)+(m2:Int):=IntWalk.i64_in _ (by omega)
 go_enter Tryz.func124,Tryz.ntmps124
 go_wp2
 go_loopw [3,11] (fun v3 v11 wr=>∃k:Nat,k≤2∧v11=.int .i64 (k:Int)∧wr=W∧v3=.int .i64 (if k=0 then 0 else if k=1 then (m1:Int) else (m1:Int)+(m2:Int))) (fun _ v11 _=>2-(intOf v11).toNat)
 case atStart=>exact⟨0,by omega,rfl,rfl,rfl⟩
 case round=>
  obtain⟨k,hk,rfl,rfl,rfl⟩:=hrel
  rcases(by omega:k=0∨k=1∨k=2) with rfl|rfl|rfl
  ·rw[if_pos rfl]
   go_wp2
   exact⟨⟨1,by omega,by go_num,trivial,by simp⟩,by simp only[intOf];omega⟩
  ·rw[if_neg (by decide),if_pos rfl]
   go_wp2
   exact⟨⟨2,by omega,by go_num,trivial,by simp⟩,by simp only[intOf];omega⟩
  ·rw[if_neg (by decide),if_neg (by decide)]
   go_wp2_with (first
    | (go_at_call 168;(with_reducible refine(HG.out).mono ?_);rintro e w1 ⟨vg,rfl,hz⟩;have HZ0:=hid hz;clear hz)
    | fail)
   clear HG s0 s1 hS
   go_loopw [6,27] (fun v6 v27 w2=>∃k:Nat,v27=.int .i64 (k:Int)∧((k=0∧OsAt 79 2 v6 0 (entV []) ((S,[.slice a1 m1 c1,.slice a2 m2 c2])::R) wr w2)∨(k=1∧OsAt 79 2 v6 m1 (entV l1) ((S,[.slice a1 m1 c1,.slice a2 m2 c2])::R) wr w2)∨(k=2∧OsAt 79 2 v6 (m1+m2) (entV (l1++l2)) ((S,[.slice a1 m1 c1,.slice a2 m2 c2])::R) wr w2))) (fun _ v27 _=>2-(intOf v27).toNat)
   case atStart=>exact⟨0,rfl,.inl ⟨rfl,HZ0.out⟩⟩
   case round=>
    obtain⟨k,rfl,hrel⟩:=hrel
    rcases hrel with ⟨rfl,hz⟩|⟨rfl,hz⟩|⟨rfl,hz⟩
    all_goals
     have HZ:=hid hz
     clear hz
    ·have y0:=(HZ.out.az.row (S,[.slice a1 m1 c1,.slice a2 m2 c2]) (by simp)).row 0 _ rfl
     have hyS:=(HZ.out.az.row (S,[.slice a1 m1 c1,.slice a2 m2 c2]) (by simp)).sz
     have hb0:=HZ.out.az.bw.size
     cases a1 with
     | none=>
      obtain⟨e1,e2⟩:=HN1.out rfl
      subst e1 e2
      have hap:(aQB #[56,56] 56 #[u6,.slice none 0 0]).run Tryz.prog wr=.ok u6 wr:=run_append_owned_none _ _ _ _ _ _ 2 Tryz.underlying56 hi0 _ _ _ HZ.out.own
      go_wp2
      exact⟨⟨1,by go_num,.inr (.inl ⟨rfl,by rw[List.length_eq_zero_iff.1 HL.out.1];exact HZ.out⟩)⟩,by simp only[intOf];omega⟩
     | some ad=>
      have HN:=hid (HV.out.1.below HZ.out.az.bw).news
      go_wp2_with (first
       | (at_builtin;refine wpList_append_own_at _ rfl _ _ 56 rfl _ 79 i0 (.agg #[.int .i64 0,.slice none 0 0]) 2 32 Tryz.underlying56 hi0 hz0 hz1 hz2 rfl (by decide) u6 0 (entV []) rfl HZ.out.own ad m1 c1 (entV l1) rfl (by rw[iD_,HL.out.1]) HN.out (yW_ l1) (by unfold maxLen;omega) (by omega) hb0 ?_;intro v' w7 hown' hgrow hnil hat;have HZ7:=hid (HZ.out.grown hown' hgrow hat);clear hown' hgrow hat)
       | fail)
      have h7:=HZ7.out
      rw[Nat.zero_add] at h7
      exact⟨⟨1,by go_num,.inr (.inl ⟨rfl,h7⟩)⟩,by simp only[intOf];omega⟩
    ·have y0:=(HZ.out.az.row (S,[.slice a1 m1 c1,.slice a2 m2 c2]) (by simp)).row 1 _ rfl
     have hyS:=(HZ.out.az.row (S,[.slice a1 m1 c1,.slice a2 m2 c2]) (by simp)).sz
     have hb0:=HZ.out.az.bw.size
     cases a2 with
     | none=>
      obtain⟨e1,e2⟩:=HN2.out rfl
      subst e1 e2
      have hap:(aQB #[56,56] 56 #[u6,.slice none 0 0]).run Tryz.prog wr=.ok u6 wr:=run_append_owned_none _ _ _ _ _ _ 2 Tryz.underlying56 hi0 _ _ _ HZ.out.own
      go_wp2
      exact⟨⟨2,by go_num,.inr (.inr ⟨rfl,by rw[List.length_eq_zero_iff.1 HL.out.2,List.append_nil];exact HZ.out⟩)⟩,by simp only[intOf];omega⟩
     | some ad=>
      have HN:=hid (HV.out.2.below HZ.out.az.bw).news
      go_wp2_with (first
       | (at_builtin;refine wpList_append_own_at _ rfl _ _ 56 rfl _ 79 i0 (.agg #[.int .i64 0,.slice none 0 0]) 2 32 Tryz.underlying56 hi0 hz0 hz1 hz2 rfl (by decide) u6 m1 (entV l1) rfl HZ.out.own ad m2 c2 (entV l2) rfl (by rw[iD_,HL.out.2]) HN.out (yW_ l2) (by unfold maxLen;omega) (by omega) hb0 ?_;intro v' w7 hown' hgrow hnil hat;have HZ7:=hid (HZ.out.grown hown' hgrow hat);clear hown' hgrow hat)
       | fail)
      have h7:=HZ7.out
      rw[←vW_] at h7
      exact⟨⟨2,by go_num,.inr (.inr ⟨rfl,h7⟩)⟩,by simp only[intOf];omega⟩
    ·go_wp2
     go_ret
     exact⟨_,rfl,HZ.out⟩
theorem aLU {cap n:Nat} {ad:Addr} {l:List Int} (hl:l.length=n) (hn:n≤1000000) {R:List (Nat×List Value)} {w W:World} (hA:AzAt R w W) (h:CsAt (some ad) (icC l) W) :
  Calls Tryz.prog 125 #[.slice (some ad) n cap] W fun e W'=>∃v,e=.returned v∧OsAt 3 1 v n (icC l) R w W':=by
 have H0:=hid (show OsAt 3 1 (.slice (some ⟨W.heap.size,0,none⟩) 0 0) 0 [] R w (W.alloc (.cells #[] 3)) from⟨hA.al _,⟨rfl,.inr ⟨W.heap.size,0,#[],rfl,hA.bw.size,World.alloc_heap_new W _,Nat.le_refl _,by unfold maxLen;omega,rfl,rfl⟩⟩,fun x hx hk=>by
  have:=(hA.row x hx).sz
  have hk':W.heap.size=x.1:=Option.some.inj hk
  omega⟩)
 have HP:=hid h
 have HL:=hid hl
 have hsz:=hA.bw.size
 clear hA h
 obtain⟨i0,hi0,hz0,hz1,hz2⟩:=info_parts qU_
 have hnil:∀W:World,(binOp .eql 77 (.slice (some ad) n cap) (.slice none 0 0)).run Tryz.prog W=.ok (.bool false) W:=fun _=>rfl
 go_enter Tryz.func125,Tryz.ntmps125
 go_wp2_with (first
  | (at_builtin;refine wpList_append_own_at _ rfl _ _ 77 rfl w.heap.size 3 i0 (.int .i64 0) 1 8 Tryz.underlying77 hi0 hz0 hz1 hz2 rfl (by decide) (.slice (some ⟨W.heap.size,0,none⟩) 0 0) 0 [] rfl H0.out.own ad n cap (icC l) rfl (by rw[hC_,HL.out,Nat.mul_one]) (HP.out.below ((Below.refl _ _).alloc (Nat.le_refl _) _)).news (aFU l) (by unfold maxLen;omega) (by omega) (by simp;omega) ?_;intro v' w7 hown' hgrow _ hat;have HZ7:=hid (H0.out.grown hown' hgrow hat);clear hown' hgrow hat)
  | fail)
 go_ret
 have:=HZ7.out
 rw[Nat.zero_add,List.nil_append] at this
 exact⟨_,rfl,this⟩
end Go.Proofs.YtlikmmpmnaaifaaGreatDoor
namespace Go.Proofs.YtlikmmpmnaaifaaGreatDoor
open Go.RowKit Go.Shelf Go.Sort
attribute [local go_sem] Oper.semAt_some
instance:Inhabited Ik:=⟨⟨0,[]⟩⟩
def encK (e:Ik×Nat×Nat):List Value:=[.int .i64 e.1.code,.slice (some ⟨e.2.1,0,none⟩) e.1.cells.length e.2.2]
def ordK (a b:Ik×Nat×Nat):Int:=cmpI a.1.code b.1.code
theorem tI_:ltOf ordK=fun a b=>decide (a.1.code<b.1.code):=by
 funext a b
 unfold ltOf ordK cmpI
 by_cases h1:a.1.code<b.1.code
 ·simp[h1]
 ·by_cases h2:b.1.code<a.1.code <;> simp[h1,h2]
theorem aJB:SWO (ltOf ordK):=by
 rw[tI_]
 constructor
 ·intro x;simp
 ·intro x y z h k
  simp only[decide_eq_true_eq] at *
  omega
 ·intro x y z h k
  simp only[decide_eq_false_iff_not] at *
  omega
theorem aKE (x y:Ik×Nat×Nat) (w:World) :
  Calls Tryz.prog 127 #[.agg #[.int .i64 x.1.code,.slice (some ⟨x.2.1,0,none⟩) x.1.cells.length x.2.2],.agg #[.int .i64 y.1.code,.slice (some ⟨y.2.1,0,none⟩) y.1.cells.length y.2.2]] w fun e W'=>e=.returned (.int .i64 (ordK x y))∧∃q os',W'=grow (w.drewN q) os':=by
 have K:=hid (fun W=>aPX x.1.code y.1.code W)
 unfold ordK
 generalize cmpI x.1.code y.1.code=q at *
 go_enter Tryz.func127,Tryz.ntmps127
 go_wp2_with (go_at_call 99;(with_reducible refine(K.out _).mono ?_);rintro e w' ⟨rfl,rfl⟩)
 go_ret
 exact⟨rfl,0,_,by simp only[alloc_eq_grow,grow_grow];rfl⟩
theorem aLG (l:List (Ik×Nat×Nat)):(flatK encK 2 l.toArray).toList=inkV l:=by
 apply List.ext_getElem?
 intro j
 by_cases hj:j<l.length*2
 ·obtain⟨e,he⟩:∃e,l[j/2]?=some e:=⟨l[j/2]'(by omega),List.getElem?_eq_getElem _⟩
  have hb:l.toArray[j/2]! = e:=by simp[he]
  have hf:=get_flatK encK 2 l.toArray j (by simpa using hj)
  rw[hb] at hf
  have hs:j<(flatK encK 2 l.toArray).size:=by simpa[flatK] using hj
  rw[getElem!_pos _ j hs] at hf
  rw[Array.getElem?_toList,Array.getElem?_eq_getElem hs,hf]
  obtain⟨v1,v2⟩:=qT_ he
  rcases Nat.mod_two_eq_zero_or_one j with q|q
  ·rw[q]
   rw[show j/2*2=j by omega] at v1
   rw[v1]
   rfl
  ·rw[q]
   rw[show j/2*2+1=j by omega] at v2
   rw[v2]
   rfl
 ·rw[List.getElem?_eq_none (by simpa[flatK] using hj),List.getElem?_eq_none (by rw[nD_];omega)]
theorem aIZ (cur F:Array Value) (h:F.size≤cur.size):(putCells id 0 F cur).toList.take F.size=F.toList:=by
 apply List.ext_getElem?
 intro j
 by_cases hj:j<F.size
 ·rw[List.getElem?_take_of_lt hj,Array.getElem?_toList,Array.getElem?_toList]
  simp[putCells,hj,show j<cur.size by omega]
 ·rw[List.getElem?_take_eq_none (by omega),Array.getElem?_toList,Array.getElem?_eq_none (by omega)]
theorem aFX {B n c:Nat} {ie:List (Ik×Nat×Nat)} {R:List (Nat×List Value)} {w W:World} (h:OsAt 79 2 (.slice (some ⟨B,0,none⟩) n c) n (inkV ie) R w W):HoldsK encK 2 W B 0 ie.toArray:=by
 intro j hj
 have hs:j<ie.toArray.size*2:=by simpa[flatK] using hj
 rw[get_flatK _ _ _ _ hs]
 have hl:j/2<ie.length:=by simp at hs;omega
 obtain⟨e,he⟩:∃e,ie[j/2]?=some e:=⟨ie[j/2],List.getElem?_eq_getElem hl⟩
 have hb:ie.toArray[j/2]! = e:=by simp[he]
 rw[hb,Nat.zero_add]
 obtain⟨v1,v2⟩:=qT_ he
 refine⟨?_,h.fz rfl j⟩
 rcases Nat.mod_two_eq_zero_or_one j with q|q
 ·rw[q]
  rw[show j/2*2=j by omega] at v1
  exact h.cell rfl v1
 ·rw[q]
  rw[show j/2*2+1=j by omega] at v2
  exact h.cell rfl v2
theorem kN_ {W:World} {B n k:Nat} {d:Array (Ik×Nat×Nat)} {os:Array Obj} (h:k≠B) (hk:k<W.heap.size):(sortWorldK encK 2 W B 0 n d os).heap[k]?=W.heap[k]?:=by
 unfold sortWorldK putRowK putRow grow
 have e:=jC_ (w:=Sort.ahead W n) (putCells id 0 (flatK encK 2 d)) h
 have hs:k<(mapBlock (Sort.ahead W n) B (putCells id 0 (flatK encK 2 d))).heap.size:=by
  simp[mapBlock,Sort.ahead]
  exact hk
 rw[Array.getElem?_append_left hs]
 exact e
theorem tS_ {W:World} {B n:Nat} {d:Array (Ik×Nat×Nat)} {os:Array Obj} {cur:Array Value} {e:TypeId} {fr:Nat×Nat} (hb:W.heap[B]?=some (.cells cur e fr)):(sortWorldK encK 2 W B 0 n d os).heap[B]?=some (.cells (putCells id 0 (flatK encK 2 d) cur) e fr):=by
 have hg:B<W.heap.size:=(Array.getElem?_eq_some_iff.1 hb).1
 unfold sortWorldK putRowK
 rw[heap_grow_old _ _ (by simpa using hg)]
 simp[putRow,mapBlock,Sort.ahead,Array.getElem?_modify,hb,onCells]
theorem aEU {B n m c:Nat} {ie:List (Ik×Nat×Nat)} {R:List (Nat×List Value)} {w W:World} (h:OsAt 79 2 (.slice (some ⟨B,0,none⟩) n c) n (inkV ie) R w W) {ds:List (Ik×Nat×Nat)} {os:Array Obj} (hs:ds.length=n) :
  OsAt 79 2 (.slice (some ⟨B,0,none⟩) n c) n (inkV ds) R w (sortWorldK encK 2 W B 0 m ds.toArray os):=by
 have hz:W.heap.size≤(sortWorldK encK 2 W B 0 m ds.toArray os).heap.size:=size_sortWorldK_c (enc:=encK) (k:=2) (w:=W) (blk:=B) (off:=0) m ds.toArray os
 have hB:=h.blk rfl
 refine⟨⟨⟨h.az.bw.os,h.az.bw.tape,h.az.bw.output,Nat.le_trans h.az.bw.size hz,fun k hk=>?_⟩,fun x hx=>?_⟩,⟨by rw[nD_,hs],?_⟩,h.ne⟩
 ·rw[kN_ (by omega) (Nat.lt_of_lt_of_le hk h.az.bw.size)]
  exact h.az.bw.block k hk
 ·exact(h.az.row x hx).of_block (kN_ (hB.2.2.2 x hx).symm (h.az.row x hx).sz) hz
 ·rcases h.own.2 with ⟨e,_⟩|⟨g,c',cur,e,h1,h2,h3,h4,h5,h6⟩
  ·cases e
  ·injection e with e1 _ e2
   injection e1 with e1
   injection e1 with e1 _
   subst e1 e2
   have hF:(flatK encK 2 ds.toArray).size=n*2:=by simp[flatK,hs]
   refine .inr ⟨B,c,_,rfl,h1,tS_ h2,h3,h4,by simp[putCells,h5],?_⟩
   have:=aIZ cur (flatK encK 2 ds.toArray) (by rw[hF,h5];omega)
   rw[hF,aLG] at this
   exact this
theorem aNV {B cap n:Nat} {ie:List (Ik×Nat×Nat)} {R:List (Nat×List Value)} {w W:World} (hl:ie.length=n) (hn:n≤1000000) (h:OsAt 79 2 (.slice (some ⟨B,0,none⟩) n cap) n (inkV ie) R w W) :
  Calls Tryz.prog 126 #[.slice (some ⟨B,0,none⟩) n cap,.func (.func 127) #[] #[]] W fun e W'=>e=.returned (.tuple #[])∧∃ie':List (Ik×Nat×Nat),ie'.length=n∧ie'.Perm ie∧ie'.Pairwise (fun a b=>a.1.code≤b.1.code)∧OsAt 79 2 (.slice (some ⟨B,0,none⟩) n cap) n (inkV ie') R w W':=by
 have eg:∀args w,(callFunc 127 args).run Tryz.prog w=.ok (.enter 127 args) w:=enters_of Tryz.func127 (by kernel_rfl) rfl
 have hcon:=AnyQ.slices_SortFunc Tryz.laysSORTK 2 Tryz.isAgg79 Tryz.sizeOf79 encK (fun _=>rfl) (fun x v hv=>by simp[encK] at hv;rcases hv with rfl|rfl <;> rfl) ordK aJB 127 #[] B 0 cap ie.toArray W eg (fun _ _ _ _ x y=>aKE x y _) (aFX h) (h.blk rfl).1 (by simp;omega)
 rw[show ie.toArray.size=n by simpa using hl] at hcon
 refine Calls.mono hcon ?_
 rintro e W' ⟨rfl,d',m,os,⟨hs,_,hp⟩,hsort,rfl⟩
 rw[tI_] at hsort
 have hsz:d'.size=n:=by rw[hs];simpa using hl
 refine⟨rfl,d'.toList,by simpa using hsz,?_,?_,aEU h (by simpa using hsz)⟩
 ·have e1:d'.extract 0 n=d':=by rw[←hsz];simp
  have e2:ie.toArray.extract 0 n=ie.toArray:=by rw[←hl];simp
  rw[e1,e2] at hp
  simpa using hp
 ·rw[List.pairwise_iff_getElem]
  intro i j hi hj hij
  have hj':j<d'.size:=by simpa using hj
  have hi':i<d'.size:=by simpa using hi
  have:=hsort i j (Nat.zero_le _) hij (by omega)
  rw[getElem!_pos d' j hj',getElem!_pos d' i hi'] at this
  simpa using this
theorem aKS (w:World):Calls Tryz.prog 208 #[.slice none 0 0,.int .i64 0,.int .i64 0,.func (.func 127) #[] #[]] w fun e w'=>e=.returned (.tuple #[])∧w'=w:=by
 go_enter Tryz.func208,Tryz.ntmps208
 go_wp2
 go_loopw [8] (fun v8 wr=>v8=.int .i64 1∧wr=w) (fun _ _=>0)
 case atStart=>exact⟨rfl,rfl⟩
 case round=>
  obtain⟨rfl,rfl⟩:=hrel
  go_wp2
  first|go_end0|((try simp only[Exit.inBlock,Exit.then]);refine bodyPost_ret (results_none rfl _ _ _) rfl ?_)
  exact⟨rfl,rfl⟩
theorem aJZ (k:Int) (w:World):Calls Tryz.prog 169 #[.slice none 0 0,.int .i64 0,.int .i64 0,.int .i64 k,.func (.func 127) #[] #[]] w fun e w'=>e=.returned (.tuple #[])∧w'=w:=by
 have K:=hid aKS
 go_enter Tryz.func169,Tryz.ntmps169
 go_wp2
 refine wp_loop_rounds 1 ?_
 rw[rounds_succ]
 go_wp2_with (go_at_call 208;(with_reducible refine(K.out _).mono ?_);rintro e w' ⟨rfl,rfl⟩)
 (try simp only[Exit.inBlock,Exit.then]);refine bodyPost_ret (results_none rfl _ _ _) rfl ?_
 exact⟨rfl,rfl⟩
theorem aDI (w:World):Calls Tryz.prog 126 #[.slice none 0 0,.func (.func 127) #[] #[]] w fun e w'=>e=.returned (.tuple #[])∧w'=w:=by
 have K1:=hid (fun k w=>aJZ k w)
 have K2:=hid (fun W=>uN_ (x:=0) (by omega) (by omega) W)
 go_enter Tryz.func126,Tryz.ntmps126
 go_wp2_with (first
  | (go_at_call 132;(with_reducible refine(K2.out _).mono ?_);rintro e w' ⟨⟨k,rfl⟩,rfl⟩)
  | (go_at_call 169;(with_reducible refine(K1.out _ _).mono ?_);rintro e w' ⟨rfl,rfl⟩)
  | fail)
 first|go_end0|((try simp only[Exit.inBlock,Exit.then]);refine bodyPost_ret (results_none rfl _ _ _) rfl ?_)
 exact⟨rfl,rfl⟩
end Go.Proofs.YtlikmmpmnaaifaaGreatDoor
