/-
  Plain facts and contracts that the texts above want.
-/
import Derived.Test.YtdkaohphbgdkpaaGreatDoorWVe
import Derived.Test.YtdkaohphbgdkpaaGreatDoorZSv
set_option linter.unusedSimpArgs false
set_option linter.unusedVariables false
namespace Go.Proofs.YtdkaohphbgdkpaaGreatDoor
open Go.RowKit Go.Shelf Go.Sort
attribute [local go_sem] Oper.semAt_some
theorem parK_none {l:List Sh} {s:Sh} (h:parK l s=none):∀b∈l,bQ_ b s=false:=by
 rcases vF_ l s with ⟨_,h1⟩|⟨q,_,_,h1,_⟩
 ·exact h1
 ·rw[h] at h1;cases h1
theorem parK_min {l:List Sh} {s p:Sh} (h:parK l s=some p):∀b∈l,bQ_ b s=true→dM_ p≤dM_ b:=by
 rcases vF_ l s with ⟨h1,_⟩|⟨q,l1,l2,h1,h2,h3,h4,h5⟩
 ·rw[h] at h1;cases h1
 ·rw[h] at h1;cases h1
  intro b hb hh
  rw[h2] at hb
  rcases List.mem_append.1 hb with hb|hb
  ·exact h4 b hb hh
  ·rcases List.mem_cons.1 hb with rfl|hb
   ·exact Int.le_refl _
   ·exact Int.le_of_lt (h5 b hb hh)
theorem holds_trans {a b c:Sh} (h1:bQ_ a b=true) (h2:bQ_ b c=true) (hc:a.code≠c.code):bQ_ a c=true:=by
 obtain⟨k1,o1,v1,v2,p1,p2,p3,p4⟩:=fK_.1 h1
 obtain⟨k2,o2,v3,v4,q1,q2,q3,q4⟩:=fK_.1 h2
 refine fK_.2 ⟨k1,?_,v3,v2,by omega,by omega,by omega,by omega⟩
 rcases a with ⟨ac,ak,⟨ax,ay,aw,ah⟩,_,_,_⟩
 rcases b with ⟨bc,bk,⟨bx,bY,bw,bh⟩,_,_,_⟩
 rcases c with ⟨sc,sk,⟨sx,sy,sw,sh⟩,_,_,_⟩
 simp only[Rc.mk.injEq,ne_eq] at *
 omega
theorem lookP_its {f:It→Option Int} {its:List It} (hd:Dist (its.map shOf)) {t:It} (ht:t∈its):aE_ (its.filterMap fun t=>(f t).map fun n=>(t.code,n)) t.code=f t:=by
 induction its with
 | nil=>cases ht
 | cons u its ih=>
  obtain⟨d1,d2⟩:=List.pairwise_cons.1 hd
  rw[List.filterMap_cons]
  have hno:∀v∈its,u.code≠v.code:=fun v hv=>d1 (shOf v) (List.mem_map_of_mem hv)
  have hnone:∀c,(∀v∈its,c≠v.code)→aE_ (its.filterMap fun t=>(f t).map fun n=>(t.code,n)) c=none:=fun c hc=>kL_ fun p hp e=>by
   obtain⟨v,hv,h⟩:=List.mem_filterMap.1 hp
   cases e2:f v with
   | none=>rw[e2] at h;cases h
   | some n=>rw[e2] at h;cases h;exact hc v hv e.symm
  rcases List.mem_cons.1 ht with rfl|ht
  ·cases e:f t with
   | none=>exact hnone _ hno
   | some n=>
    simp only[Option.map_some]
    rw[fI_,hnone _ hno]
    simp
  ·cases e:f u with
   | none=>exact ih d2 ht
   | some n=>
    simp only[Option.map_some]
    rw[fI_,ih d2 ht]
    cases f t with
    | some m=>rfl
    | none=>simp only;rw[if_neg (hno t ht)]
def upsL (l:List Sh):Nat→Sh→List Int
 | 0,_=>[]
 | k+1,a=>match parK l a with
  | none=>[]
  | some p=>p.code::upsL l k p
theorem Ld.ups {l:List Sh} (H:Ld l):∀(k:Nat) (a:Sh),a∈l→∀c∈upsL l k a,∃p∈l,p.code=c∧bQ_ p a=true
 | 0,a,_,c,h=>by cases h
 | k+1,a,ha,c,h=>by
  unfold upsL at h
  cases e:parK l a with
  | none=>rw[e] at h;cases h
  | some p=>
   rw[e] at h
   obtain⟨h1,_,h3⟩:=H.par ha e
   rcases List.mem_cons.1 h with rfl|h
   ·exact⟨p,h1,rfl,(eH_ e).2⟩
   ·obtain⟨q,q1,q2,q3⟩:=H.ups k p h1 c h
    refine⟨q,q1,q2,holds_trans q3 (eH_ e).2 fun e2=>?_⟩
    have:=hF_ H.dst q1 ha e2
    subst this
    have:=aAQ q3 (H.bds q q1) (H.bds p h1)
    omega
theorem nH_ {xs:List Q5} {k:Nat} (hk:k≤9):∀s∈shs5 xs k,1≤s.code∧s.code≤39999:=fun s hs=>by
 obtain⟨i,q,hi,rfl⟩:=gJ_ hs
 have:=gL_ q i
 omega
theorem aCG {es:List Ge} {ss:List Sh} {xs:List Int} (h3:es.length=3) (hg:gsE es=pJ_ ss xs) (hc:∀s∈ss,1≤s.code∧s.code≤39999) (hm:ss.length≤9):GeIn es:=by
 refine⟨by omega,fun e he=>?_⟩
 have h1:e.g∈pJ_ ss xs:=by rw[←hg];exact List.mem_map.2 ⟨e,he,rfl⟩
 have hk:∀j i,i≤9→(memK ss xs j i).length≤1000∧∀c∈memK ss xs j i,aC_ c:=fun j i hi=>⟨by have:=iF_ ss xs j i;omega,fun c h=>by
  obtain⟨k,s,x,g1,_,_,g4⟩:=iE_ h
  have:=hc s (List.mem_of_getElem? g1)
  unfold aC_
  omega⟩
 have hmin:min ss.length xs.length≤9:=by omega
 unfold pJ_ at h1
 simp only[List.mem_cons,List.not_mem_nil,or_false] at h1
 rcases h1 with h1|h1|h1 <;> rw[h1]
 ·exact⟨show(-9223372036854775808:Int)≤0∧(0:Int)≤9223372036854775807 by decide,show(-9223372036854775808:Int)≤-1∧(-1:Int)≤9223372036854775807 by decide,hk _ _ hmin⟩
 ·exact⟨show(-9223372036854775808:Int)≤4∧(4:Int)≤9223372036854775807 by decide,show(-9223372036854775808:Int)≤0∧(0:Int)≤9223372036854775807 by decide,hk _ _ hmin⟩
 ·exact⟨show(-9223372036854775808:Int)≤9∧(9:Int)≤9223372036854775807 by decide,show(-9223372036854775808:Int)≤-1∧(-1:Int)≤9223372036854775807 by decide,hk _ _ hmin⟩
theorem aDD {a:Option Addr} {m cap wcap:Nat} {ss:List Sh} (hm:ss.length=m) (hl:bI_ ss=true) (hd:Dist ss) {G:Nat} {es:List Ge} (h3:es.length=3) (hin:GeIn es) (hv:bJ_ (gsE es)=true) {wa:Option Addr} {k:Nat} {ls:List Wr} (hk:ls.length=k) (hk5:k≤40) (hls:cW_ [] (ls.map ldW)=true) (w:World) (hS:ShsAt a ss w) (hG:GsAt (some ⟨G,0,none⟩) es w) (hW:WrsAt wa ls w) (hq:OkW w) :
  Calls Tryz.prog 16 #[.slice a m cap,.slice (some ⟨G,0,none⟩) 3 3,.agg #[.slice none 0 0,.slice wa k wcap]] w fun e W'=>e=.returned (.tuple #[.string (mW_ (eN_ ss es ls)),.int .i64 0])∧Below w.heap.size w W':=by
 have h60:=cR_ hl
 have:=say_s (cap:=cap) (gcap:=3) (wcap:=wcap) (ss:=ss) (es:=es) (ls:=ls) (dv:=.slice none 0 0) (n:=m) (m:=3) (k:=k) hm (by omega) h3 hk hin (by omega) w hS hG hW hq.1 hq.2.2.1 (fun _=>hd) ⟨_,_,_,rfl⟩
 rw[kF_ hl hd hv (by omega) hls] at this
 exact this
end Go.Proofs.YtdkaohphbgdkpaaGreatDoor
