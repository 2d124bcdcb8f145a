/- - -/
import Derived.Lib.AppendZerosOnto
import Derived.Lib.Walk
import Derived.Lib.SliceRun
import Derived.Test.YtlikmmpmnaaifaaGreatDoorZPl14
import Derived.Test.YtlikmmpmnaaifaaGreatDoorZPl2
set_option maxHeartbeats 40000000
set_option maxRecDepth 1000000
open Go.Lib (hid)
namespace Go.Proofs.YtlikmmpmnaaifaaGreatDoor
open Go.RowKit Go.Shelf Go.Sort
attribute [local go_sem] Oper.semAt_some
theorem tB_ {e:TypeId} {g c n n':Nat} {v:Value} {xs:List Value} {R:List (Nat×List Value)} {w W:World} {P:Prop} (h:OzAt e v n xs R w W) (hn:v=.slice none 0 0↔(.slice (some ⟨g,0,none⟩) n' c:Value)=.slice none 0 0∧P):∃g c,v=.slice (some ⟨g,0,none⟩) n c:=by
 rcases h.own.2 with ⟨rfl,_⟩|⟨g',cap,cur,hv,_⟩
 ·have:=(hn.1 rfl).1
  cases this
 ·exact⟨g',cap,hv⟩
theorem cB_ (z:Array Value) (n:Nat):(Builtin.zeroCells z n).size=n*z.size:=by
 simp[Builtin.zeroCells]
theorem grow_s {n:Nat} (h1:1≤n) (hn:n≤1000000) {R:List (Nat×List Value)} {w W:World} (hA:AzAt R w W) :
  Calls Tryz.prog 134 #[.slice none 0 0,.int .i64 n] W fun e W'=>∃g c,e=.returned (.slice (some ⟨g,0,none⟩) 0 c)∧OzAt 26 (.slice (some ⟨g,0,none⟩) 0 c) 0 [] R w W':=by
 obtain⟨i0,hi0,hz0,hz1,hz2⟩:=info_parts dP_
 have hold:(Builtin.firstCells i0.size 0 (.slice none 0 0)).run Tryz.prog W.drew=.ok #[] W.drew:=run_firstCells_none W.drew i0.size 0 0 0
 have hrz:∀ty,(Builtin.append_ #[27,3] ty #[.slice none 0 0,.int .i64 (n:Int)]).run Tryz.prog W =
   .ok (.slice (some ⟨W.heap.size,0,none⟩) n (grownCap W n 0 26)) (W.drew.alloc (.cells (Builtin.zeroCells (Value.agg #[.int .i64 0,.int .i64 0]).cells n++Builtin.zeroCells (Value.agg #[.int .i64 0,.int .i64 0]).cells (grownCap W n 0 26-n)) 26)):=fun ty=>by
  have h:=Lib.run_append_grow_zeros W 27 3 ty 26 i0 _ .i64 .i64 Tryz.underlying27 Tryz.underlying3 hi0 hz0 none 0 0 [] hold n (by omega) (by omega) (by omega) (by omega) (by rw[hz2];omega) (growslice_fits (by omega) (by rw[hz2];omega))
  simpa using h
 have hGn:n≤grownCap W n 0 26:=grownCap_ge W _ _ _
 have hG63:grownCap W n 0 26≤maxLen:=grownCap_le_maxLen W n 0 26 (by unfold maxLen;omega)
 obtain⟨G,hG⟩:∃G,G=grownCap W n 0 26:=⟨_,rfl⟩
 rw[←hG] at hrz hGn hG63
 obtain⟨cur,hcur⟩:∃cur,cur=Builtin.zeroCells (Value.agg #[.int .i64 0,.int .i64 0]).cells n++Builtin.zeroCells (Value.agg #[.int .i64 0,.int .i64 0]).cells (G-n):=⟨_,rfl⟩
 have hcs:cur.size=G*2:=by
  rw[hcur,Array.size_append,cB_,cB_]
  show n*2+(G-n)*2=G*2
  omega
 rw[←hcur] at hrz
 have H0:=hid (show OzAt 26 (.slice (some ⟨W.heap.size,0,none⟩) 0 G) 0 [] R w (W.drew.alloc (.cells cur 26)) from
  ⟨(hA.drew.al _),⟨rfl,.inr ⟨W.heap.size,G,cur,rfl,hA.bw.size,World.alloc_heap_new W.drew _,by omega,hG63,hcs,by simp⟩⟩,fun x hx hk=>by
    have:=(hA.row x hx).sz
    have hk':W.heap.size=x.1:=Option.some.inj hk
    omega⟩)
 have hG2:G≤9223372036854775807:=by unfold maxLen at hG63;exact hG63
 clear hcur hcs hold hG hA hG63
 go_enter Tryz.func134,Tryz.ntmps134
 go_wp2_with (at_builtin;refine Lib.wpList_append_run _ rfl _ _ _ _ rfl _ _ rfl rfl _ _ (hrz _) ?_)
 all_goals
  go_ret
  exact⟨_,_,rfl,H0.out⟩
theorem aLS {S g1 g2 m1 m2 c1 c2 cs:Nat} {l1 l2:List Pl} (h1:l1.length=m1) (h2:l2.length=m2) (hn:m1≤1000∧m2≤1000∧1≤m1+m2) {w W:World} (hA:AzAt [(S,[.slice (some ⟨g1,0,none⟩) m1 c1,.slice (some ⟨g2,0,none⟩) m2 c2]),(g1,plC l1),(g2,plC l2)] w W) :
  Calls Tryz.prog 78 #[.slice (some ⟨S,0,none⟩) 2 cs] W fun e W'=>∃g c,e=.returned (.slice (some ⟨g,0,none⟩) (m1+m2) c)∧OzAt 26 (.slice (some ⟨g,0,none⟩) (m1+m2) c) (m1+m2) (plC (l1++l2)) [(S,[.slice (some ⟨g1,0,none⟩) m1 c1,.slice (some ⟨g2,0,none⟩) m2 c2]),(g1,plC l1),(g2,plC l2)] w W':=by
 obtain⟨i0,hi0,hz0,hz1,hz2⟩:=info_parts dP_
 have HL:=hid (And.intro h1 h2)
 have HG:=hid (grow_s (n:=m1+m2) (by omega) (by omega) hA)
 rw[Int.natCast_add] at HG
 have h_:=hA.row (S,[.slice (some ⟨g1,0,none⟩) m1 c1,.slice (some ⟨g2,0,none⟩) m2 c2]) (by simp)
 have s0:=h_.row 0 _ rfl
 have s1:=h_.row 1 _ rfl
 clear h_
 have hS:=(hA.row (S,[.slice (some ⟨g1,0,none⟩) m1 c1,.slice (some ⟨g2,0,none⟩) m2 c2]) (by simp)).sz
 clear hA h1 h2
 have hm1:IntKind.i64.wrap (m1:Int)=(m1:Int):=IntWalk.i64_in _ (by omega)
 have hm2:IntKind.i64.wrap ((m1:Int)+(m2:Int))=(m1:Int)+(m2:Int):=IntWalk.i64_in _ (by omega)
 go_enter Tryz.func78,Tryz.ntmps78
 go_wp2
 go_loopw [3,11] (fun v3 v11 wr=>∃k:Nat,k≤2∧v11=.int .i64 (k:Int)∧wr=W∧v3=.int .i64 (if k=0 then 0 else if k=1 then (m1:Int) else (m1:Int)+(m2:Int))) (fun _ v11 _=>2-(intOf v11).toNat)
 case atStart=>exact⟨0,by omega,rfl,rfl,rfl⟩
 case round=>
  obtain⟨k,hk,rfl,rfl,rfl⟩:=hrel
  rcases(by omega:k=0∨k=1∨k=2) with rfl|rfl|rfl
  ·rw[if_pos rfl]
   go_wp2
   exact⟨⟨1,by omega,by go_num,trivial,by simp⟩,by simp only[intOf];omega⟩
  ·rw[if_neg (by decide),if_pos rfl]
   go_wp2
   exact⟨⟨2,by omega,by go_num,trivial,by simp⟩,by simp only[intOf];omega⟩
  ·rw[if_neg (by decide),if_neg (by decide)]
   go_wp2_with (first
    | (go_at_call 134;(with_reducible refine(HG.out).mono ?_);rintro e w1 ⟨g,c,rfl,hz⟩;have HZ0:=hid hz;clear hz)
    | fail)
   clear HG s0 s1 hS
   go_loopw [6,27] (fun v6 v27 wr=>∃k g c:Nat,v27=.int .i64 (k:Int)∧((k=0∧v6=.slice (some ⟨g,0,none⟩) 0 c∧OzAt 26 (.slice (some ⟨g,0,none⟩) 0 c) 0 (plC []) [(S,[.slice (some ⟨g1,0,none⟩) m1 c1,.slice (some ⟨g2,0,none⟩) m2 c2]),(g1,plC l1),(g2,plC l2)] w wr)∨(k=1∧v6=.slice (some ⟨g,0,none⟩) m1 c∧OzAt 26 (.slice (some ⟨g,0,none⟩) m1 c) m1 (plC l1) [(S,[.slice (some ⟨g1,0,none⟩) m1 c1,.slice (some ⟨g2,0,none⟩) m2 c2]),(g1,plC l1),(g2,plC l2)] w wr)∨(k=2∧v6=.slice (some ⟨g,0,none⟩) (m1+m2) c∧OzAt 26 (.slice (some ⟨g,0,none⟩) (m1+m2) c) (m1+m2) (plC (l1++l2)) [(S,[.slice (some ⟨g1,0,none⟩) m1 c1,.slice (some ⟨g2,0,none⟩) m2 c2]),(g1,plC l1),(g2,plC l2)] w wr))) (fun _ v27 _=>2-(intOf v27).toNat)
   case atStart=>exact⟨0,g,c,rfl,.inl ⟨rfl,rfl,HZ0.out⟩⟩
   case round=>
    obtain⟨k,g,c,rfl,hrel⟩:=hrel
    rcases hrel with ⟨rfl,rfl,hz⟩|⟨rfl,rfl,hz⟩|⟨rfl,rfl,hz⟩
    all_goals
     have HZ:=hid hz
     clear hz
    ·have y0:=(HZ.out.az.row (S,[.slice (some ⟨g1,0,none⟩) m1 c1,.slice (some ⟨g2,0,none⟩) m2 c2]) (by simp)).row 0 _ rfl
     have hyS:=(HZ.out.az.row (S,[.slice (some ⟨g1,0,none⟩) m1 c1,.slice (some ⟨g2,0,none⟩) m2 c2]) (by simp)).sz
     have HN:=hid (PsAt.of (HZ.out.az.row (g1,plC l1) (by simp)))
     have hb0:=HZ.out.az.bw.size
     go_wp2_with (first
      | (at_builtin;refine wpList_append_own_at _ rfl _ _ 27 rfl w.heap.size 26 i0 (.agg #[.int .i64 0,.int .i64 0]) 2 16 Tryz.underlying27 hi0 hz0 hz1 hz2 rfl (by decide) (.slice (some ⟨g,0,none⟩) 0 c) 0 (plC []) rfl HZ.out.own ⟨g1,0,none⟩ m1 c1 (plC l1) rfl (by rw[bJ_,HL.out.1]) (vG_ HN.out) (qF_ l1) (by unfold maxLen;omega) (by omega) hb0 ?_;intro v' w7 hown' hgrow hnil hat;have HZ7:=hid (HZ.out.grown hown' hgrow hat);clear hown' hgrow hat)
      | fail)
     have h7:=HZ7.out
     rw[Nat.zero_add] at h7
     obtain⟨g7,c7,e7⟩:=tB_ h7 hnil
     subst e7
     exact⟨⟨1,g7,c7,by go_num,.inr (.inl ⟨rfl,rfl,h7⟩)⟩,by simp only[intOf];omega⟩
    ·have y0:=(HZ.out.az.row (S,[.slice (some ⟨g1,0,none⟩) m1 c1,.slice (some ⟨g2,0,none⟩) m2 c2]) (by simp)).row 1 _ rfl
     have hyS:=(HZ.out.az.row (S,[.slice (some ⟨g1,0,none⟩) m1 c1,.slice (some ⟨g2,0,none⟩) m2 c2]) (by simp)).sz
     have HN:=hid (PsAt.of (HZ.out.az.row (g2,plC l2) (by simp)))
     have hb0:=HZ.out.az.bw.size
     go_wp2_with (first
      | (at_builtin;refine wpList_append_own_at _ rfl _ _ 27 rfl w.heap.size 26 i0 (.agg #[.int .i64 0,.int .i64 0]) 2 16 Tryz.underlying27 hi0 hz0 hz1 hz2 rfl (by decide) (.slice (some ⟨g,0,none⟩) m1 c) m1 (plC l1) rfl HZ.out.own ⟨g2,0,none⟩ m2 c2 (plC l2) rfl (by rw[bJ_,HL.out.2]) (vG_ HN.out) (qF_ l2) (by unfold maxLen;omega) (by omega) hb0 ?_;intro v' w7 hown' hgrow hnil hat;have HZ7:=hid (HZ.out.grown hown' hgrow hat);clear hown' hgrow hat)
      | fail)
     have h7:=HZ7.out
     rw[←eU_] at h7
     obtain⟨g7,c7,e7⟩:=tB_ h7 hnil
     subst e7
     exact⟨⟨2,g7,c7,by go_num,.inr (.inr ⟨rfl,rfl,h7⟩)⟩,by simp only[intOf];omega⟩
    ·go_wp2
     go_ret
     exact⟨g,c,rfl,HZ.out⟩
theorem aEG (ok:Pl→Pl→Pl→Bool) (x:Pl):∀r:List Pl,r≠[]→popL ok x r≠[]
 | [],h=>absurd rfl h
 | [b],_=>by unfold popL;simp
 | b::a::l,_=>by
  unfold popL
  split
  ·simp
  ·exact aEG ok x (a::l) (by simp)
theorem kC_ {ok:Pl→Pl→Pl→Bool} {l:List Pl} (h:2≤l.length):2≤(aU_ ok l).length:=by
 obtain⟨k,hk⟩:∃k,l.length=k+2:=⟨l.length-2,by omega⟩
 have e:aU_ ok l=aU_ ok (l.take (k+1+1)):=by rw[List.take_of_length_le (by omega)]
 rw[e,eB_ (List.getElem?_eq_getElem (show k+1<l.length by omega)),eB_ (List.getElem?_eq_getElem (show k<l.length by omega))]
 have:=aEG ok l[k+1] (l[k]::popL ok l[k] (aU_ ok (l.take k))) (by simp)
 have:=List.length_pos_iff.2 this
 simp only[List.length_cons] at this⊢
 omega
theorem uG_ {ok:Pl→Pl→Pl→Bool} {l:List Pl} : (aU_ ok l).length≤l.length:=by
 have:=pM_ ok l l.length (Nat.le_refl _)
 rwa[List.take_length] at this
theorem ArAt.dropLast {B:Nat} {l:List Pl} {W:World} (h:ArAt B (plC l) W):ArAt B (plC l.dropLast) W:=by
 refine⟨fun i v hv=>h.row i v ?_,fun o ho=>h.fz o ?_,h.sz⟩
 ·rcases List.eq_nil_or_concat l with rfl|⟨k,x,rfl⟩
  ·exact hv
  ·have hi:i<(plC k).length:=by
    rcases Nat.lt_or_ge i (plC k).length with h|h
    ·exact h
    ·rw[List.concat_eq_append,List.dropLast_concat,List.getElem?_eq_none h] at hv;cases hv
   rw[List.concat_eq_append,List.dropLast_concat] at hv
   rw[List.concat_eq_append,eU_,List.getElem?_append_left hi]
   exact hv
 ·rw[bJ_,List.length_dropLast] at ho
  rw[bJ_]
  omega
theorem qI_ {e:TypeId} {n:Nat} {v:Value} {xs:List Value} {R:List (Nat×List Value)} {w W:World} (h:OzAt e v n xs R w W) (hn:1≤n):∃g c,v=.slice (some ⟨g,0,none⟩) n c:=by
 rcases h.own.2 with ⟨rfl,h0⟩|⟨g',cap,cur,hv,_⟩
 ·omega
 ·exact⟨g',cap,hv⟩
theorem gP_ (a b:Pl):∀p:List Pl,aD_ (p++[a,b])=if a=b then aD_ (p++[a]) else aD_ (p++[a])++[b]
 | []=>by
  show aD_ [a,b]=_
  unfold aD_
  split
  ·rename_i h;subst h;rfl
  ·rfl
 | [x]=>by
  have ih:=gP_ a b []
  show aD_ (x::a::[b])=if a=b then aD_ (x::[a]) else aD_ (x::[a])++[b]
  have e1:aD_ (x::a::[b])=if x=a then aD_ (a::[b]) else x::aD_ (a::[b]):=aD_.eq_3 _ _ _
  have e2:aD_ (x::[a])=if x=a then aD_ [a] else x::aD_ [a]:=aD_.eq_3 _ _ _
  rw[e1,e2]
  simp only[List.nil_append] at ih
  rw[ih]
  split <;> split <;> simp
 | x::y::p=>by
  have ih:=gP_ a b (y::p)
  have e1:∀t,aD_ (x::y::t)=if x=y then aD_ (y::t) else x::aD_ (y::t):=fun t=>aD_.eq_3 _ _ _
  simp only[List.cons_append] at ih⊢
  rw[e1,e1,ih]
  split <;> split <;> simp
theorem kR_ {l:List Pl} {k:Nat} {p q:Pl} (hp:l[k]?=some p) (hq:l[k+1]?=some q):aD_ (l.take (k+1+1))=if p=q then aD_ (l.take (k+1)) else aD_ (l.take (k+1))++[q]:=by
 have e1:l.take (k+1)=l.take k++[p]:=by rw[List.take_add_one,hp];rfl
 have e2:l.take (k+1+1)=l.take k++[p,q]:=by rw[List.take_add_one,hq,e1];simp
 rw[e1,e2,gP_]
theorem nQ_:∀l:List Pl,(aD_ l).length≤l.length
 | []=>Nat.le_refl _
 | [_]=>Nat.le_refl _
 | x::y::l=>by
  have:=nQ_ (y::l)
  rw[aD_.eq_3]
  split
  ·simp only[List.length_cons] at this⊢;omega
  ·simp only[List.length_cons] at this⊢;omega
section
variable {B:Nat} {l:List Pl} {R:List (Nat×List Value)} {w W:World}
theorem PzAt.far (h:PzAt B l R w W) {o:Nat} (ho:l.length*2≤o) (v:Value):PzAt B l R w (W.setCell ⟨B,o,none⟩ v):=by
 refine⟨⟨h.az.bw.setCell h.hB _,fun x hx=>(h.az.row x hx).other (h.ne x hx) _ _⟩,⟨fun k x hx=>?_,fun o' ho'=>?_,by simpa using h.ns.sz⟩,h.hB,h.ne⟩
 ·have hk:k<l.length:=(List.getElem?_eq_some_iff.1 hx).1
  obtain⟨c0,c1⟩:=h.ns.row k x hx
  constructor
  ·rw[World.cell?_setCell_other _ _ _ _ (fun e=>by have:=congrArg Addr.off e;simp at this;omega)]
   exact c0
  ·rw[World.cell?_setCell_other _ _ _ _ (fun e=>by have:=congrArg Addr.off e;simp at this;omega)]
   exact c1
 ·have:=h.ns.fz o' ho'
  simpa[go_sem] using this
theorem PzAt.fars (h:PzAt B l R w W):∀(vs:List Value) (o:Nat),l.length*2≤o→PzAt B l R w (W.setCells B o vs):=by
 intro vs
 induction vs generalizing W with
 | nil=>intro o _;exact h
 | cons v vs ih=>intro o ho;exact ih (h.far ho v) (o+1) (by omega)
theorem PzAt.take (h:PzAt B l R w W) (k:Nat):PzAt B (l.take k) R w W:=by
 refine⟨h.az,⟨fun j x hx=>?_,fun o ho=>h.ns.fz o ?_,h.ns.sz⟩,h.hB,h.ne⟩
 ·rw[List.getElem?_take] at hx
  split at hx
  ·exact h.ns.row j x hx
  ·cases hx
 ·rw[List.length_take] at ho;omega
theorem aCF (n:Nat):∀v∈(Builtin.zeroCells #[.int .i64 0,.int .i64 0] n).toList,v.oneCell'=true:=by
 intro v hv
 simp[Builtin.zeroCells] at hv
 obtain⟨i,_,rfl⟩:=hv
 rcases Nat.mod_two_eq_zero_or_one i with e|e <;> rw[e] <;> rfl
theorem aHS (h:PzAt B l R w W) {k n cap:Nat} (hk:k<n) (hl:l.length=n) (ty:TypeId) :
  (Builtin.clear_ #[27] ty #[.slice (some ⟨B,k*2,none⟩) (n-k) cap]).run Tryz.prog W=.ok (.tuple #[]) (W.setCells B (k*2) (Builtin.zeroCells #[.int .i64 0,.int .i64 0] (n-k)).toList):=by
 have hsz:=cB_ #[.int .i64 0,.int .i64 0] (n-k)
 have hl2:(Builtin.zeroCells #[.int .i64 0,.int .i64 0] (n-k)).toList.length=(n-k)*2:=by simpa using hsz
 have hst:=run_storeCells_cells (P:=Tryz.prog) B (k*2) (Builtin.zeroCells #[.int .i64 0,.int .i64 0] (n-k)).toList 0 W (by
  intro j hj
  rw[hl2] at hj
  rw[Nat.add_zero]
  have hx:l[(k*2+j)/2]?=some l[(k*2+j)/2]:=List.getElem?_eq_getElem (by omega)
  obtain⟨c0,c1⟩:=h.ns.row _ _ hx
  rcases Nat.mod_two_eq_zero_or_one (k*2+j) with e|e
  ·rw[show k*2+j=(k*2+j)/2*2 by omega,c0];rfl
  ·rw[show k*2+j=(k*2+j)/2*2+1 by omega,c1];rfl) (by
  intro j hj
  rw[hl2] at hj
  exact h.ns.fz _ (by omega)) (aCF _)
 simp only[Nat.add_zero] at hst
 obtain⟨m,hm⟩:∃m,n-k=m+1:=⟨n-k-1,by omega⟩
 rw[hm] at hst⊢
 have ht:Tryz.prog.underlying 27=some (.slice 26):=Tryz.underlying27
 have hv:∀w,(zeroValue 26).run Tryz.prog w=.ok (.agg #[.int .i64 0,.int .i64 0]) w:=Tryz.zeroValue26
 have hz:(Value.agg #[.int .i64 0,.int .i64 0]).cells=#[.int .i64 0,.int .i64 0]:=rfl
 simp[Builtin.clear_,run_underlying ht,hv,hz,hst]
end
theorem aNF {p q:Pl} (h:q≠p):(q.x==p.x)=false∨((q.x==p.x)=true∧(q.y==p.y)=false):=by
 by_cases hx:q.x=p.x
 ·right
  refine⟨beq_iff_eq.2 hx,beq_eq_false_iff_ne.2 fun hy=>h ?_⟩
  cases p
  cases q
  simp_all
 ·exact .inl (beq_eq_false_iff_ne.2 hx)
theorem aBK {B n cap:Nat} {l:List Pl} {R:List (Nat×List Value)} {w W:World} (hl:l.length=n) (hn:n≤1000000) (hc:n≤cap) (h:PzAt B l R w W) :
  Calls Tryz.prog 73 #[.slice (some ⟨B,0,none⟩) n cap] W fun e W'=>e=.returned (.slice (some ⟨B,0,none⟩) (aD_ l).length cap)∧PzAt B (aD_ l) R w W':=by
 have HL:=hid hl
 have HZ:=hid h
 obtain⟨T,hT⟩:∃T,T=aD_ l:=⟨_,rfl⟩
 obtain⟨m,hm⟩:∃m,m=T.length:=⟨_,rfl⟩
 rw[←hT,←hm]
 have HT:=hid (And.intro hT hm)
 clear hl h hT hm
 by_cases hn2:n<2
 ·have hn3:(n:Int)<2:=by omega
  have e:aD_ l=l:=by
   have:=HL.out
   match l,this with
   | [],_=>rfl
   | [_],_=>rfl
   | _::_::_,h=>simp at h;omega
  obtain⟨h1,h2⟩:=HT.out
  rw[e] at h1
  subst h1
  rw[HL.out] at h2
  subst h2
  clear e
  go_enter Tryz.func73,Tryz.ntmps73
  go_wp2
  go_ret
  exact⟨rfl,HZ.out⟩
 go_enter Tryz.func73,Tryz.ntmps73
 go_wp2
 go_loopw [3] (fun i wr=>∃k:Nat,1≤k∧k≤n∧i=.int .i64 (k:Int)∧aD_ (l.take k)=l.take k∧PzAt B l R w wr) (fun i _=>n-(intOf i).toNat)
 case atStart=>
  refine⟨1,by omega,by omega,rfl,?_,HZ.out⟩
  have:=HL.out
  match l,this with
  | [],h=>simp at h;omega
  | _::_,_=>rfl
 case round=>
  obtain⟨k,hk1,hk,rfl,hct,hz⟩:=hrel
  by_cases hlt:k<n
  ·obtain⟨kp,rfl⟩:∃kp,k=kp+1:=⟨k-1,by omega⟩
   obtain⟨p,hp⟩:∃p,l[kp]?=some p:=⟨l[kp]'(by have:=HL.out;omega),List.getElem?_eq_getElem _⟩
   obtain⟨q,hq⟩:∃q,l[kp+1]?=some q:=⟨l[kp+1]'(by have:=HL.out;omega),List.getElem?_eq_getElem _⟩
   obtain⟨c0,c1'⟩:=hz.ns.row kp p hp
   obtain⟨d0,d1⟩:=hz.ns.row (kp+1) q hq
   have HC:=hid (And.intro (kR_ hp hq) hct)
   have HK:=hid hz
   have HPQ:=hid (And.intro hp hq)
   clear hct hz hp hq
   have hwp:IntKind.i64.wrap (kp:Int)=(kp:Int):=IntWalk.i64_in _ (by omega)
   have jz:(kp:Int)+1<(n:Int):=by omega
   have jz1:(kp:Int)<(n:Int):=by omega
   have p0:(0:Int)≤(kp:Int)+1:=by omega
   have e0:((kp:Int)+1).toNat=kp+1:=by omega
   rw[show((kp+1:Nat):Int)=(kp:Int)+1 from by omega]
   by_cases hpq:q=p
   ·subst hpq
    go_wp2
    go_region
    all_goals
     obtain⟨d,hd⟩:∃d,d=n-(kp+1):=⟨_,rfl⟩
     obtain⟨cd,hcd⟩:∃cd,cd=cap-(kp+1):=⟨_,rfl⟩
     have HC1:=hid (show aD_ (l.take (kp+1+0+1))=l.take (kp+1) from by rw[Nat.add_zero,HC.out.1,if_pos trivial,HC.out.2])
     clear HC d0 d1 c0 c1'
     go_wp2
     rw[←hd,←hcd]
     have HD:=hid (And.intro hd hcd)
     clear hd hcd
     go_loopw [3,5] (fun v3 v5 wq=>∃(kk j:Nat) (cur:List Pl),v3=.int .i64 (kk:Int)∧v5=.int .i64 ((j:Int)+1)∧kp+1+j+1≤n∧kk=(aD_ (l.take (kp+1+j+1))).length∧kk<kp+1+j+1∧cur.length=n∧cur.take kk=aD_ (l.take (kp+1+j+1))∧(∀i,kk≤i→cur[i]?=l[i]?)∧PzAt B cur R w wq) (fun _ v5 _=>n-(intOf v5).toNat)
     case atStart=>
      refine⟨kp+1,0,l,by go_num,rfl,by omega,?_,by omega,HL.out,HC1.out.symm,fun _ _=>rfl,HK.out.drew⟩
      rw[HC1.out,List.length_take,HL.out]
      omega
     case round=>
      obtain⟨kk,j,cur,rfl,rfl,hj,hkk,hkj,hcl,hct,hcr,hq⟩:=hrel
      have HQ:=hid hq
      have HR:=hid (And.intro hkk (And.intro hcl (And.intro hct hcr)))
      clear hq hkk hcl hct hcr
      have wj:IntKind.i64.wrap (j:Int)=(j:Int):=IntWalk.i64_in _ (by omega)
      have wk:IntKind.i64.wrap ((kk:Int)+1)=(kk:Int)+1:=IntWalk.i64_in _ (by omega)
      have kn:(kk:Int)<(n:Int):=by omega
      have kz:(0:Int)≤(kk:Int):=by omega
      have jz2:(0:Int)≤(j:Int):=by omega
      have jz3:(0:Int)≤(j:Int)+1:=by omega
      have je:((j:Int)+1).toNat=j+1:=by omega
      by_cases hlt2:kp+1+j+1<n
      ·obtain⟨a,hla⟩:∃a,l[kp+1+j]?=some a:=⟨l[kp+1+j]'(by have:=HL.out;omega),List.getElem?_eq_getElem _⟩
       obtain⟨b,hlb⟩:∃b,l[kp+1+j+1]?=some b:=⟨l[kp+1+j+1]'(by have:=HL.out;omega),List.getElem?_eq_getElem _⟩
       obtain⟨a0,a1⟩:=HQ.out.ns.row (kp+1+j) a (by rw[HR.out.2.2.2 _ (by omega)];exact hla)
       obtain⟨b0,b1⟩:=HQ.out.ns.row (kp+1+j+1) b (by rw[HR.out.2.2.2 _ (by omega)];exact hlb)
       have HC2:=hid (kR_ hla hlb)
       rw[show(kp+1+j)*2=(kp+1)*2+j*2 by omega] at a0 a1
       rw[show(kp+1+j+1)*2=(kp+1)*2+(j+1)*2 by omega] at b0 b1
       have HLB:=hid hlb
       clear hla hlb
       have jd:(j:Int)+1<(d:Int):=by have:=HD.out.1;omega
       have jd0:(j:Int)<(d:Int):=by omega
       have jdd:decide ((j:Int)+1<(d:Int))=true:=decide_eq_true jd
       by_cases hab:b=a
       ·subst hab
        go_wp2
        go_region
        all_goals
         go_wp2
         refine⟨⟨kk,j+1,cur,rfl,by go_num,by omega,?_,by omega,HR.out.2.1,?_,HR.out.2.2.2,HQ.out.drew⟩,by simp only[intOf];omega⟩
         ·rw[show kp+1+(j+1)+1=kp+1+j+1+1 by omega,HC2.out,if_pos trivial]
          exact HR.out.1
         ·rw[show kp+1+(j+1)+1=kp+1+j+1+1 by omega,HC2.out,if_pos trivial]
          exact HR.out.2.2.1
       ·have hne:¬a=b:=fun e=>hab e.symm
        rcases aNF hab with hx|⟨hx,hy⟩
        all_goals
         clear hab
         go_wp2
         go_region
         all_goals
          obtain⟨y,hy'⟩:∃y,cur[kk]?=some y:=⟨cur[kk]'(by have:=HR.out.2.1;omega),List.getElem?_eq_getElem _⟩
          obtain⟨t0,t1⟩:=HQ.out.ns.row kk y hy'
          have f0:=HQ.out.ns.fz (kk*2) (by rw[HR.out.2.1];omega)
          have f1:=HQ.out.ns.fz (kk*2+1) (by rw[HR.out.2.1];omega)
          clear hy'
          go_wp2
          refine⟨⟨kk+1,j+1,cur.set kk b,by go_num,by go_num,by omega,?_,by omega,by rw[List.length_set];exact HR.out.2.1,?_,?_,HQ.out.drew.set (by rw[HR.out.2.1];omega) b⟩,by simp only[intOf];omega⟩
          ·rw[show kp+1+(j+1)+1=kp+1+j+1+1 by omega,HC2.out,if_neg hne,List.length_append,←HR.out.1]
           rfl
          ·rw[show kp+1+(j+1)+1=kp+1+j+1+1 by omega,HC2.out,if_neg hne,←HR.out.2.2.1,List.take_add_one,List.getElem?_set_self (by have:=HR.out.2.1;omega),List.take_set_of_le (Nat.le_refl _)]
           rfl
          ·intro i hi
           rw[List.getElem?_set_ne (by omega)]
           exact HR.out.2.2.2 i (by omega)
      ·have hjn:kp+1+j+1=n:=by omega
       have hdd:(d:Int)=(j:Int)+1:=by have:=HD.out.1;omega
       have jdd:decide ((j:Int)+1<(d:Int))=false:=decide_eq_false (by omega)
       have jd:¬(j:Int)+1<(d:Int):=by omega
       have hT2:aD_ (l.take (kp+1+j+1))=T:=by rw[hjn,HT.out.1,List.take_of_length_le (by rw[HL.out];exact Nat.le_refl _)]
       have hkm:kk=m:=by rw[HR.out.1,hT2,HT.out.2]
       have hkt:cur.take kk=T:=by rw[HR.out.2.2.1,hT2]
       subst hkm
       have hcl:=fun ty=>aHS HQ.out (k:=kk) (n:=n) (cap:=cap-kk) (by omega) HR.out.2.1 ty
       have HW:=hid (show PzAt B T R w (wr.setCells B (kk*2) (Builtin.zeroCells #[.int .i64 0,.int .i64 0] (n-kk)).toList) from by
        have:=HQ.out.take kk
        rw[hkt] at this
        exact this.fars _ _ (by rw[←hkt,List.length_take];omega))
       have kn2:(kk:Int)≤(n:Int):=by omega
       have kc:(kk:Int)≤(cap:Int):=by omega
       clear hT2 hkt hdd hjn
       go_wp2
       go_ret
       exact⟨rfl,HW.out⟩
   ·have hne:¬p=q:=fun e=>hpq e.symm
    rcases aNF hpq with hx|⟨hx,hy⟩
    all_goals
     clear hpq
     go_wp2
     go_region
     all_goals
      go_wp2
      refine⟨⟨kp+1+1,by omega,by omega,by go_num,?_,HK.out.drew⟩,by simp only[intOf];omega⟩
      rw[HC.out.1,if_neg hne,HC.out.2,List.take_add_one (i:=kp+1),HPQ.out.2]
      rfl
  ·obtain rfl:k=n:=by omega
   have HK:=hid hz
   have e:aD_ l=l:=by rwa[List.take_of_length_le (by rw[HL.out];exact Nat.le_refl _)] at hct
   obtain⟨h1,h2⟩:=HT.out
   rw[e] at h1
   subst h1
   rw[HL.out] at h2
   subst h2
   clear hz hct e
   go_wp2
   go_ret
   exact⟨rfl,HK.out⟩
end Go.Proofs.YtlikmmpmnaaifaaGreatDoor
