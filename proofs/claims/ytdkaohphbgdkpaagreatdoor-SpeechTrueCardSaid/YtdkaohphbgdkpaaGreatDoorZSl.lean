/- - -/
import Derived.RangeFuncNested
import Derived.RangeFuncBound
import Derived.RangeFuncLeaves
import Derived.Shelf.Abstract
import Derived.OwnWalkIn
import Derived.TacticsInMore
import Derived.Test.YtdkaohphbgdkpaaGreatDoorZQT
import Derived.Test.YtdkaohphbgdkpaaGreatDoorZSo
import Derived.Test.YtdkaohphbgdkpaaGreatDoorZSi
import Derived.Test.YtdkaohphbgdkpaaGreatDoorZSt
set_option linter.unusedSimpArgs false
set_option linter.unusedVariables false
set_option maxHeartbeats 40000000
set_option maxRecDepth 1000000
namespace Go.Proofs.YtdkaohphbgdkpaaGreatDoor
open Go.RowKit Go.Shelf Go.Sort Go.Maps
attribute [local go_sem] Oper.semAt_some
def grpL (ss:List Sh) (k:Nat) (c:Int):List Sh:=(ss.take k).filter fun s=>decide (pcd ss s=c)
theorem wS_ {ss:List Sh} {k:Nat} {x:Sh} (hx:ss[k]?=some x):(fun c=>if c=pcd ss x then grpL ss k (pcd ss x)++[x] else grpL ss k c)=grpL ss (k+1):=by
 funext c
 unfold grpL
 rw[List.take_add_one,hx,Option.toList_some,List.filter_append]
 by_cases h:c=pcd ss x
 ·rw[if_pos h,←h,List.filter_cons_of_pos (by simpa using h.symm)]
  rfl
 ·rw[if_neg h,List.filter_cons_of_neg (by simpa using fun e=>h e.symm)]
  simp
theorem zS_ (ss:List Sh) (s:Sh):(orZ (parK ss s)).code=pcd ss s:=by
 unfold orZ pcd
 cases parK ss s <;> rfl
theorem lB_ (w:World):(zeroValue 32).run Tryz.prog w=.ok (.slice none 0 0) w:=by kernel_rfl
theorem sM_:(Tryz.prog.info? 30).map (fun i=>(i.zero,i.size,i.bytes))=some (some (.agg #[.int .i64 0,.int .i64 0,.int .i64 0,.int .i64 0,.int .i64 0,.int .i64 0,.int .i64 0,.int .i64 0,.int .i64 0,.int .i64 0,.string ⟨#[]⟩]),11,96):=by kernel_rfl
structure ViAt (M n:Nat) (D:DataW Value) (L:List (Nat×List Value)) (U:World):Prop where
 row:∀x∈L,ArAt x.1 x.2 U
 mp:U.ownsMap Tryz.prog 3 rawE M n D
 hd:∀c,aC_ c→D.atKey (.int .i64 c) (.held (.slice none 0 0))=.held (hdAt D c)
theorem ViAt.below {M n:Nat} {D:DataW Value} {L:List (Nat×List Value)} {U V:World} (h:ViAt M n D L U) (hb:Below U.heap.size U V):ViAt M n D L V:=⟨fun x hx=>(h.row x hx).below hb,aP_ h.mp hb,h.hd⟩
theorem ViAt.ce {M n:Nat} {D:DataW Value} {L:List (Nat×List Value)} {U:World} (h:ViAt M n D L U) (k i:Nat) {B:Nat} {l:List Value} {v:Value} (h1:L[k]?=some (B,l)) (h2:l[i]?=some v):U.cell? ⟨B,i,none⟩=some v:=(h.row (B,l) (List.mem_of_getElem? h1)).row i v h2
theorem ViAt.look {M n:Nat} {D:DataW Value} {L:List (Nat×List Value)} {U:World} (h:ViAt M n D L U) {c:Int} (hc:aC_ c):(Instr.lookup 124 (.map (some M)) (.int .i64 c) false).run Tryz.prog U=.ok (hdAt D c) U:=by
 obtain⟨v,ps,hrun,hv⟩:=h.mp.lookup bG_ Tryz.underlying124 (lB_ U) (zd:=.held (.slice none 0 0)) (zp:=[]) rfl (keyOf_int_mk Tryz.underlying3 (wf_i64 hc))
 rw[h.hd c hc] at hv
 cases hv
 exact hrun
def GrUp (M n:Nat) (D:DataW Value) (G:Int→List Sh) (L:List (Nat×List Value)) (w:World) (c:Int) (s:Sh) (v:Value) (U:World):Prop:=
 ∃W0,GrAt M n D G L w W0∧U.ownsRow w.heap.size 30 11 v ((G c).length+1) (ssC (G c)++shC s)∧W0.grownBy U (hdAt D c).ownBlock∧(v.ownBlock=(hdAt D c).ownBlock∨v.ownBlock=some W0.heap.size)
section
variable {M n:Nat} {D:DataW Value} {G:Int→List Sh} {L:List (Nat×List Value)} {w U:World} {c:Int} {s:Sh} {v:Value}
theorem mC_ {A B C:World} {row:Option Nat} (h:A.grownBy B row) (hb:Below B.heap.size B C):A.grownBy C row:=
 ⟨hb.os.trans h.os,hb.tape.trans h.tape,hb.output.trans h.output,Nat.le_trans h.size hb.size,fun i hi hne=>(hb.block i (Nat.lt_of_lt_of_le hi h.size)).trans (h.block i hi hne)⟩
theorem GrUp.below {V:World} (h:GrUp M n D G L w c s v U) (hb:Below U.heap.size U V):GrUp M n D G L w c s v V:=by
 obtain⟨W0,h1,h2,h3,h4⟩:=h
 exact⟨W0,h1,dA_ h2 hb,mC_ h3 hb,h4⟩
theorem GrAt.vi (h:GrAt M n D G L w U):ViAt M n D L U:=⟨h.az.row,h.mp,h.hd⟩
theorem GrUp.vi (h:GrUp M n D G L w c s v U) (hc:aC_ c):ViAt M n D L U:=by
 obtain⟨W0,h1,h2,h3,h4⟩:=h
 refine⟨fun x hx=>(h1.az.row x hx).of_block (h3.block x.1 (h1.az.row x hx).sz (fun hk=>h1.ne c hc x hx hk.symm)) h3.size,?_,h1.hd⟩
 exact h1.mp.kept h3 (fun e=>h1.notM hc e.symm)
end
theorem ViAt.sub {M n:Nat} {D:DataW Value} {L L':List (Nat×List Value)} {U:World} (h:ViAt M n D L U) (hs:∀x∈L',x∈L):ViAt M n D L' U:=⟨fun x hx=>h.row x (hs x hx),h.mp,h.hd⟩
theorem orZ_in {ss:List Sh} (hb:∀x∈ss,bd x) (s:Sh):aC_ (orZ (parK ss s)).code:=by
 unfold orZ aC_
 cases h:parK ss s with
 | none=>show -9223372036854775808≤(0:Int)∧(0:Int)≤9223372036854775807;omega
 | some p=>
  have:=(hb p (eH_ h).1).2
  show -9223372036854775808≤p.code∧p.code≤9223372036854775807
  omega
theorem mP_ (B j:Nat):(⟨B,0,none⟩:Addr).add j=⟨B,j,none⟩:=by
 unfold Addr.add
 split
 ·next e=>subst e;rfl
 ·simp only[Nat.zero_add]
theorem qV_ {ss:List Sh} {n:Nat} (hn:ss.length=n):∀c,srt (grpL ss n c)=aM_ ss c:=fun c=>by
 unfold grpL aM_
 rw[List.take_of_length_le (by omega)]
theorem GrAt.grew {M n:Nat} {D:DataW Value} {G:Int→List Sh} {L:List (Nat×List Value)} {w W W':World} (h:GrAt M n D G L w W) (hg:W.grownBy W' none):GrAt M n D G L w W':=h.below ⟨hg.os,hg.tape,hg.output,hg.size,fun i hi=>hg.block i hi (by simp)⟩
structure Doing (ss:List Sh) (D:DataW Value) (left:Lit→Bool) (G:Int→List Sh):Prop where
 has:∀kl,left kl=true→Go.Maps.has D kl=true
 old:∀c,left (.int .i64 c)=true→G c=grpL ss ss.length c
 new:∀c,aC_ c→left (.int .i64 c)=false→G c=aM_ ss c
theorem Doing.start {ss:List Sh} {n M k:Nat} {D:DataW Value} {L:List (Nat×List Value)} {w W:World} (h:GrAt M k D (grpL ss n) L w W) (hn:ss.length=n):Doing ss D (Go.Maps.has D) (grpL ss n):=by
 subst hn
 refine⟨fun _ h=>h,fun _ _=>rfl,fun c hc hf=>?_⟩
 have:grpL ss ss.length c=[]:=by
  cases e:grpL ss ss.length c with
  | nil=>rfl
  | cons a l=>
   have:=(h.pr c hc).2 (by rw[e];simp)
   rw[hf] at this
   cases this
 rw[←qV_ rfl,this]
 rfl
theorem GrAt.same {M n:Nat} {D:DataW Value} {G G':Int→List Sh} {L:List (Nat×List Value)} {w W:World} (h:GrAt M n D G L w W) (he:∀c,aC_ c→G' c=G c):GrAt M n D G' L w W:=
 ⟨h.az,h.lo,h.mp,h.hd,fun c hc=>by rw[he c hc];exact h.ow c hc,h.ap,h.ne,h.nm,fun c hc=>by rw[he c hc];exact h.pr c hc⟩
theorem Doing.done {ss:List Sh} {M k:Nat} {D:DataW Value} {left:Lit→Bool} {G:Int→List Sh} {L:List (Nat×List Value)} {w W:World} (h:Doing ss D left G) (hl:∀kl,left kl=false) (hg:GrAt M k D G L w W):GrAt M k D (aM_ ss) L w W:=hg.same fun c hc=>(h.new c hc (hl _)).symm
theorem Doing.more {ss:List Sh} {D:DataW Value} {left:Lit→Bool} {G:Int→List Sh} (h:Doing ss D left G) {x:Int} (hx:left (.int .i64 x)=true):Doing ss D (fun z=>left z && !z.sameKey (.int .i64 x)) (fun c=>if c=x then srt (G x) else G c):=by
 have key:∀c:Int,(Lit.int .i64 c).sameKey (.int .i64 x)=decide (c=x):=fun c=>by
  by_cases e:c=x
  ·subst e
   rw[WideAt.sameKey_self (by trivial)]
   simp
  ·rw[sameKey_ne (by intro e';cases e';exact e rfl)]
   simp[e]
 refine⟨fun kl hk=>h.has kl (by simp only[Bool.and_eq_true] at hk;exact hk.1),fun c hc=>?_,fun c hc hf=>?_⟩
 ·rw[key] at hc
  simp only[Bool.and_eq_true,Bool.not_eq_true',decide_eq_false_iff_not] at hc
  simp only[if_neg hc.2]
  exact h.old c hc.1
 ·rw[key] at hf
  by_cases e:c=x
  ·subst e
   simp only[if_true]
   rw[h.old _ hx]
   exact qV_ rfl _
  ·simp only[if_neg e]
   refine h.new c hc ?_
   simpa[e] using hf
theorem iU_ {w:World} {b r n:Nat} {D:DataW Value} {left:Lit→Bool} {cnt:Nat} (h:w.ranges Tryz.prog 3 rawE b r n D left cnt):∃o:Obj,w.heap[r]?=some o∧o.isCells=false:=by
 obtain⟨es,clock,since,seen,c0,hb,F,hs,hD,hr,_⟩:=h
 exact⟨_,hr,rfl⟩
theorem wf_in {x:Int} (h:(Lit.int .i64 x).wf=true):aC_ x:=by
 simp[Lit.wf,IntKind.min,IntKind.max,IntKind.signed,IntKind.bits] at h
 unfold aC_
 omega
theorem nQ_ {a:Option Addr} {n cap:Nat} {ss:List Sh} (hn:ss.length=n) (hn6:n≤1000) (hb:∀x∈ss,bd x) (hd:Dist ss) (w:World) (hS:ShsAt a ss w) :
  Calls Tryz.prog 35 #[.slice a n cap] w fun e W'=>∃k D,e=.returned (.func (.func 69) #[] #[.pointer (some ⟨w.heap.size+1,0,none⟩)])∧GrAt w.heap.size k D (aM_ ss) [(w.heap.size+1,[.map (some w.heap.size)])] w W':=by
 have HN:=Lib.hid hn
 have HP:=Lib.hid hS
 have HB:=Lib.hid hb
 have HD:=Lib.hid hd
 have KP:=Lib.hid (show ∀(s:Sh) (W:World),Below w.heap.size w W→Calls Tryz.prog 36 #[.slice a n cap,shV s] W _ from fun s W h=>lR_ (cap:=cap) s hn (by omega) hb W (hS.below h))
 have HG0:=Lib.hid (show GrAt w.heap.size 0 (.map []) (fun _=>[]) [(w.heap.size+1,[.map (some w.heap.size)])] w _ from by
  have h:=(GrAt.start (AzAt.start w) (fun x hx=>by cases hx)).push [.map (some w.heap.size)] 124
  simp only[World.size_alloc] at h
  exact h)
 clear hn hS hb hd
 have hmm:=@run_makeMap Tryz.prog
 go_enter Tryz.func35,Tryz.ntmps35
 go_wp2
 go_loopw [12] (fun v12 wr=>∃(k:Nat) (D:DataW Value),k≤n∧v12=.int .i64 (k:Int)∧GrAt w.heap.size k D (grpL ss k) [(w.heap.size+1,[.map (some w.heap.size)])] w wr) (fun v12 _=>n-(intOf v12).toNat)
 case atStart=>exact⟨0,_,Nat.zero_le _,rfl,HG0.out⟩
 case round=>
  obtain⟨k,D,hk,rfl,hg⟩:=hrel
  have H1:=Lib.hid hg
  have HW:=Lib.hid (HP.out.below hg.az.bw)
  clear hg
  by_cases hkn:k<n
  case neg=>
   obtain rfl:k=n:=by omega
   have t9:decide ((k:Int)<(k:Int))=false:=decide_eq_false (by omega)
   have z0:=H1.out.az.ce 0 0 rfl rfl
   have HX2:=Lib.hid (H1.out.az.row (w.heap.size+1,[.map (some w.heap.size)]) (by simp)).sz
   have HE:=Lib.hid HN.out
   go_wp2_with (first
    | (at_range;refine wpList_range_own _ rfl _ 124 rfl 3 32 bG_ Tryz.underlying124 rawE w.heap.size k D rfl H1.out.mp ?_;intro w8 hrg0 hg0 hs0)
    | go_in)
   try go_frame
   have H8:=Lib.hid (H1.out.grew hg0)
   have HR0:=Lib.hid hrg0
   clear hrg0 hg0 hs0 z0
   obtain⟨r,hr⟩:∃r,r=wr.heap.size:=⟨_,rfl⟩
   rw[←hr] at HR0 HX2⊢
   clear hr
   go_loopw [] (fun w'=>∃(left:Lit→Bool) (cnt:Nat) (G:Int→List Sh),w'.ranges Tryz.prog 3 rawE w.heap.size r k D left cnt∧GrAt w.heap.size k D G [(w.heap.size+1,[.map (some w.heap.size)])] w w'∧Doing ss D left G) (fun w'=>w'.rangeLeft w.heap.size r)
   case atStart=>exact⟨_,_,_,HR0.out,H8.out,Doing.start H8.out HE.out⟩
   case round=>
    obtain⟨left,cnt,G,hrg,hg,hdo⟩:=hrel
    go_wp2_with (first
     | (at_next;refine wpList_next_ranges _ rfl _ rfl 3 bG_ rawE (fun x:Int=>Value.int .i64 x) (fun v:Value=>v) (fun key kl h=>by obtain⟨x,e,_⟩:=keyOf_int_inv Tryz.underlying3 h;exact⟨x,e⟩) (fun v y _=>⟨v,rfl⟩) w.heap.size r k D left cnt rfl hrg ?_ ?_)
     | go_in)
    ·intro hc0 hl0
     have H9:=Lib.hid (hdo.done hl0 hg)
     clear hrg hg hdo
     go_wp2
     go_ret
     exact⟨k,D,rfl,H9.out⟩
    ·intro x c kl yd yp w1 cnt1 hkey hlk0 hy hat hrg1 hlt hg1 hs1 hen
     obtain⟨x',ex,rfl,hwf⟩:=keyOf_int_inv Tryz.underlying3 hkey
     cases ex
     have hx:=wf_in hwf
     cases hy
     have hcv:hdAt D x=c:=by unfold hdAt;rw[hat]
     subst hcv
     have hne:G x≠[]:=(hg.pr x hx).1 (hdo.has _ hlk0)
     obtain⟨o,ho⟩:=iU_ hrg
     have hg2:=hg.turned hg1 (by have:=HX2.out;omega) hrg.ne (by intro z hz;have:=HX2.out;simp only[List.mem_cons,List.not_mem_nil,or_false] at hz;subst hz;simp only;omega) (fun c hc e=>by obtain⟨cur,fr,h2⟩:=bF_ (hg.ow c hc) e;rw[ho.1] at h2;rw[Option.some.inj h2] at ho;cases ho.2)
     obtain⟨o1,ho1⟩:=iU_ hrg1
     have hlk:=hg2.look hx (lB_ w1)
     have hos:=hg2.os hx
     rcases hos.form with ⟨_,h0,_⟩|⟨g,cp,hv,hgw,hg1'⟩
     ·exact absurd (List.length_eq_zero_iff.1 h0) hne
     have hgr':r≠g:=fun e=>by
      obtain⟨cur,fr,h2⟩:=bF_ (hg2.ow x hx) (g:=g) (by rw[hv];rfl)
      rw[←e,ho1.1] at h2
      rw[Option.some.inj h2] at ho1
      cases ho1.2
     have hgM:w.heap.size≠g:=fun e=>hg2.notM hx (by rw[hv,e];rfl)
     have hdist:Dist (G x):=by
      rw[hdo.old x hlk0]
      exact(HD.out.sublist (List.take_sublist _ _)).sublist List.filter_sublist
     have hlen:(G x).length≤1000000:=by
      rw[hdo.old x hlk0]
      have:=List.length_filter_le (fun s=>decide (pcd ss s=x)) (ss.take ss.length)
      have:=List.length_take_le ss.length ss
      have:=HN.out
      unfold grpL
      omega
     rw[hv] at hos hlk hen⊢
     have KS:=Lib.hid (aDC rfl hlen hdist hos)
     have H10:=Lib.hid hg2
     have HR1:=Lib.hid hrg1
     have HRL:=Lib.hid (And.intro hrg.left_eq hlt)
     have HMO:=Lib.hid (hdo.more hlk0)
     have HXX:=Lib.hid hx
     have HV:=Lib.hid hv
     have HGG:=Lib.hid (And.intro hgr' hgM)
     have z0:=hg2.az.ce 0 0 rfl rfl
     clear hg hg2 hrg hrg1 hdo hos hkey hat hne ho ho1 hlt hg1 hs1 hdist hlen hv hgr' hgM hx hwf hlk0 hgw hg1'
     go_wp2_with (first
      | (go_at_call 65;(with_reducible refine(KS.out).mono ?_);rintro e w2 ⟨rfl,hgr,hown⟩;have H11:=Lib.hid (H10.out.sorted HXX.out (by rw[HV.out];rfl) hgr (fF_ _).length_eq (by rw[HV.out];exact hown));have HR2:=Lib.hid (HR1.out.kept hgr (fun e=>HGG.out.2 (Option.some.inj e)) (fun e=>HGG.out.1 (Option.some.inj e)));clear hgr hown)
      | fail)
     exact⟨⟨_,_,_,HR2.out,H11.out,HMO.out⟩,by rw[HR2.out.left_eq,HRL.out.1];exact HRL.out.2⟩
  case pos=>
   have t9:decide ((k:Int)<(n:Int))=true:=decide_eq_true (by omega)
   obtain⟨x,hx⟩:∃x,ss[k]?=some x:=⟨_,List.getElem?_eq_getElem (by rw[HN.out];exact hkn)⟩
   obtain⟨b,o,rfl,hb7,c0,c1,c2,c3,c4,c5,c6,c7,c8,c9,c10⟩:=HW.out.sh hx
   have HX:=Lib.hid hx
   clear hx
   have H3:=Lib.hid (H1.out.push (shC x) 30)
   go_wp2_with (first
    | (go_at_call 36;(with_reducible refine(KP.out _ _ H3.out.az.bw).mono ?_);rintro e w2 ⟨rfl,hb⟩;have H4:=Lib.hid ((H3.out.below hb).push (shC (orZ (parK ss x))) 30);clear hb)
    | fail)
   have hc:aC_ (orZ (parK ss x)).code:=orZ_in HB.out x
   have HC:=Lib.hid hc
   obtain⟨c,hcd⟩:∃c,c=(orZ (parK ss x)).code:=⟨_,rfl⟩
   have HCD:=Lib.hid hcd
   rw[←hcd] at hc
   obtain⟨q,hq⟩:∃q,q=orZ (parK ss x):=⟨_,rfl⟩
   have hcq:q.code=c:=by rw[hq,hcd]
   have HCQ:=Lib.hid hcq
   rw[←hq] at H4⊢
   clear hq hcd
   refine bX_ (A:=?fr) 8 30 31 1 _ _ (fun W=>GrAt w.heap.size k D (grpL ss k) [(w2.heap.size,shC q),(wr.heap.size,shC x),(w.heap.size+1,[.map (some w.heap.size)])] w W) (fun B W=>GrAt w.heap.size k D (grpL ss k) [(B,shC x),(w2.heap.size,shC q),(wr.heap.size,shC x),(w.heap.size+1,[.map (some w.heap.size)])] w W) (fun B v W=>GrUp w.heap.size k D (grpL ss k) [(B,shC x),(w2.heap.size,shC q),(wr.heap.size,shC x),(w.heap.size+1,[.map (some w.heap.size)])] w c x v W) (by kernel_rfl) (by kernel_rfl) ⟨rfl,rfl,rfl⟩ ⟨rfl,rfl,rfl⟩ (fun U V h hb=>h.below hb) (fun B U V h hb=>h.below hb) (fun B v U V h hb=>h.below hb) (fun W hb=>H4.out.below hb) ?h ?s1 ?s2 ?ht
   case h=>
    intro U hU
    have hv:ViAt w.heap.size k D [(w2.heap.size,shC q),(wr.heap.size,shC x),(w.heap.size+1,[.map (some w.heap.size)])] U:=by
     rcases hU with h|⟨B,h⟩|⟨B,v,h⟩
     ·exact h.vi
     ·exact(h.sub (fun x hx=>List.mem_cons_of_mem _ hx)).vi
     ·exact(h.vi hc).sub (fun x hx=>List.mem_cons_of_mem _ hx)
    have z0:=cell_regrown (hv.ce 2 0 rfl rfl)
    have z1:=cell_regrown (hv.ce 0 0 (v:=.int .i64 c) rfl (by rw[←hcq];rfl))
    have y0:=cell_regrown (hv.ce 1 0 rfl rfl)
    have y1:=cell_regrown (hv.ce 1 1 rfl rfl)
    have y2:=cell_regrown (hv.ce 1 2 rfl rfl)
    have y3:=cell_regrown (hv.ce 1 3 rfl rfl)
    have y4:=cell_regrown (hv.ce 1 4 rfl rfl)
    have y5:=cell_regrown (hv.ce 1 5 rfl rfl)
    have y6:=cell_regrown (hv.ce 1 6 rfl rfl)
    have y7:=cell_regrown (hv.ce 1 7 rfl rfl)
    have y8:=cell_regrown (hv.ce 1 8 rfl rfl)
    have y9:=cell_regrown (hv.ce 1 9 rfl rfl)
    have y10:=cell_regrown (hv.ce 1 10 rfl rfl)
    have hlk:=fun d os=>(hv.below (below_regrown U d os)).look hc
    clear hv hU
    simp only[List.take_succ_cons,List.take_zero]
    repeat (go_big_quiet_step (fail))
    refine wpQuiet_nil ?_
    rfl
   case s1=>
    intro W hW
    refine⟨_,?_,hW.push (shC x) 30⟩
    simp[go_sem]
   case s2=>
    intro B W hW
    obtain⟨i0,hi0,hz0,hz1,hz2⟩:=info_parts sM_
    obtain⟨v,W',hrun,hown,hgr,_,hat⟩:=run_append_own_at (P:=Tryz.prog) W w.heap.size 32 32 30 i0 _ 11 96 Tryz.underlying32 hi0 hz0 hz1 hz2 rfl (by decide) (hdAt D c) _ _ (hW.ow c hc) ⟨B,0,none⟩ 1 1 (shC x) rfl (fun j u h=>by rw[mP_];exact(hW.az.row (B,shC x) (by simp)).row j u h) (by simp[Value.oneCell']) (by unfold maxLen;have:=List.length_filter_le (fun s=>decide (pcd ss s=c)) (ss.take k);have:=List.length_take_le k ss;unfold grpL;omega) (by have:=List.length_filter_le (fun s=>decide (pcd ss s=c)) (ss.take k);have:=List.length_take_le k ss;unfold grpL;omega) hW.az.bw.size
    refine⟨v,W',?_,W,hW,hown,hgr,hat⟩
    simp[execOp,resolve,invoke,builtin,Act.put,Act.eval,hrun,Result.andThen]
   case ht=>
    intro B v W hU
    obtain⟨W0,h1,h2,h3,h4⟩:=hU
    have hmp:=h1.mp.kept h3 (fun e=>h1.notM hc e.symm)
    simp only[List.drop_succ_cons,List.drop_zero]
    refine wpList_mapUpdate_own _ rfl _ _ _ 124 rfl 3 32 bG_ Tryz.underlying124 rawE w.heap.size k D rfl hmp (by unfold maxLen;omega) (.int .i64 c) v (.int .i64 c) rfl rfl (keyOf_int_mk Tryz.underlying3 (wf_i64 hc)) (.held v) [] rfl ?_
    intro w5 hown5 hgrow5
    have hput:=((h1.put hc h2 h3 h4 hown5 hgrow5).sub (L':=[(w.heap.size+1,[.map (some w.heap.size)])]) (by simp))
    have e1:(fun y=>if y=c then grpL ss k c++[x] else grpL ss k y)=grpL ss (k+1):=by
     have:=wS_ HX.out
     rw[show pcd ss x=c by rw[←zS_,←HCD.out]] at this
     exact this
    rw[e1] at hput
    have HPU:=Lib.hid hput
    clear hput h1 h2 h3 h4 hmp hown5 hgrow5
    go_frame
    go_wp2
    exact⟨⟨k+1,_,by omega,by go_num,HPU.out⟩,by simp only[intOf];omega⟩
end Go.Proofs.YtdkaohphbgdkpaaGreatDoor
namespace Go.Proofs.YtdkaohphbgdkpaaGreatDoor
open Go.RowKit Go.Shelf Go.Sort Go.Maps
attribute [local go_sem] Oper.semAt_some
def Ow (c:Nat) (W:World) (g:Nat):Prop:=∃(i n cap:Nat) (a:Addr),W.cell? ⟨c,i,none⟩=some (.slice (some a) n cap)∧a.block=g
structure KpO (c N:Nat) (A B:World):Prop where
 size:A.heap.size≤B.heap.size
 own:∀g,Ow c B g→Ow c A g∨A.heap.size≤g
 lt:(∀g,Ow c A g→g<A.heap.size)→∀g,Ow c B g→g<B.heap.size
 keep:∀(k:Nat) (o:Obj),N≤k→A.heap[k]?=some o→(o.isCells=true∨o.isWalk=true)→¬Ow c A k→B.heap[k]?=some o
theorem KpO.refl (c N:Nat) (A:World):KpO c N A A:=⟨Nat.le_refl _,fun _ h=>.inl h,fun h=>h,fun _ _ _ h _ _=>h⟩
theorem KpO.trans {c N:Nat} {A B C:World} (h:KpO c N A B) (k:KpO c N B C):KpO c N A C:=by
 refine⟨Nat.le_trans h.size k.size,fun g hg=>?_,fun hl=>k.lt (h.lt hl),fun i o hi ho hw hn=>?_⟩
 ·rcases k.own g hg with h1|h1
  ·exact h.own g h1
  ·exact .inr (Nat.le_trans h.size h1)
 ·have hB:=h.keep i o hi ho hw hn
  refine k.keep i o hi hB hw (fun hg=>?_)
  rcases h.own i hg with h1|h1
  ·exact hn h1
  ·have:=(Array.getElem?_eq_some_iff.1 ho).1
   omega
theorem aW_ {c:Nat} {A B:World} (h:B.heap[c]?=A.heap[c]?) {g:Nat} : Ow c B g↔Ow c A g:=by
 constructor
 ·rintro⟨i,n,cap,a,h1,h2⟩
  exact⟨i,n,cap,a,by rw[←h1];exact(World.cell?_of_block (w:=A) (w':=B) (a:=⟨c,i,none⟩) h).symm,h2⟩
 ·rintro⟨i,n,cap,a,h1,h2⟩
  exact⟨i,n,cap,a,by rw[←h1];exact World.cell?_of_block (w:=A) (w':=B) (a:=⟨c,i,none⟩) h,h2⟩
theorem KpO.of_below {c N:Nat} {A B:World} (h:Below A.heap.size A B) (hc:c<A.heap.size):KpO c N A B:=
 ⟨h.size,fun g hg=>.inl ((aW_ (h.block c hc)).1 hg),fun hl g hg=>Nat.lt_of_lt_of_le (hl g ((aW_ (h.block c hc)).1 hg)) h.size,fun k o _ ho _ _=>(h.block k (Array.getElem?_eq_some_iff.1 ho).1).trans ho⟩
theorem KpO.putObj {c N:Nat} {w:World} (hc:c<w.heap.size) (W:World) (l:Nat) (o o':Obj) (hl:w.heap.size≤l) (ho:W.heap[l]?=some o) (h1:o.isCells=false) (h2:o.isWalk=false):KpO c N W (W.putObj l o'):=by
 have hcl:(W.putObj l o').heap[c]?=W.heap[c]?:=World.putObj_heap_other (by omega)
 refine⟨by simp,fun g hg=>.inl ((aW_ hcl).1 hg),fun hl g hg=>by simpa using hl g ((aW_ hcl).1 hg),fun k q _ hk hw _=>?_⟩
 by_cases e:k=l
 ·subst e
  rw[ho] at hk
  cases hk
  rcases hw with h|h
  ·rw[h1] at h;cases h
  ·rw[h2] at h;cases h
 ·exact(World.putObj_heap_other e).trans hk
structure ItAt (c N M n:Nat) (D:DataW Value) (G:Int→List Sh) (L:List (Nat×List Value)) (W:World):Prop where
 sz:c<W.heap.size
 mp:W.ownsMap Tryz.prog 3 rawE M n D
 hd:∀c,aC_ c→D.atKey (.int .i64 c) (.held (.slice none 0 0))=.held (hdAt D c)
 ow:∀c,aC_ c→W.ownsRow N 30 11 (hdAt D c) (G c).length (ssC (G c))
 row:∀x∈L,ArAt x.1 x.2 W
 ne:∀x∈L,x.2≠[]∧N≤x.1∧¬Ow c W x.1
 hM:N≤M∧¬Ow c W M
 ap:∀q,aC_ q→∀g,(hdAt D q).ownBlock=some g→¬Ow c W g
 lt:∀g,Ow c W g→g<W.heap.size
section
variable {c N M n:Nat} {D:DataW Value} {G:Int→List Sh} {L:List (Nat×List Value)} {W W':World}
theorem nP_ {b s:Nat} {e:TypeId} {v:Value} {k:Nat} {xs:List Value} (h:W.ownsRow b e s v k xs) (hk:∀g,v.ownBlock=some g→b≤g→W'.heap[g]?=W.heap[g]?):W'.ownsRow b e s v k xs:=by
 refine⟨h.1,?_⟩
 rcases h.2 with hn|⟨g,cap,cur,hv,h1,h2,h3⟩
 ·exact .inl hn
 ·exact .inr ⟨g,cap,cur,hv,h1,(hk g (by rw[hv];rfl) h1).trans h2,h3⟩
theorem ItAt.kp (h:ItAt c N M n D G L W) (hk:KpO c N W W'):ItAt c N M n D G L W':=by
 have hno:∀k,k<W.heap.size→¬Ow c W k→¬Ow c W' k:=fun k hk1 hn hg=>by
  rcases hk.own k hg with h1|h1
  ·exact hn h1
  ·omega
 obtain⟨es,clock,hb,hrest⟩:=h.mp
 have hMs:=(Array.getElem?_eq_some_iff.1 hb).1
 have hrow:∀x∈L,W'.heap[x.1]?=W.heap[x.1]?:=fun x hx=>by
  obtain⟨u,hu⟩:∃u,x.2[0]?=some u:=by
   cases e:x.2 with
   | nil=>exact absurd e (h.ne x hx).1
   | cons u l=>exact⟨u,rfl⟩
  obtain⟨o,ho,hc⟩:=cells_of_cell ((h.row x hx).row 0 u hu)
  exact(hk.keep x.1 o (h.ne x hx).2.1 ho (.inl hc) (h.ne x hx).2.2).trans ho.symm
 refine⟨Nat.lt_of_lt_of_le h.sz hk.size,⟨es,clock,hk.keep M _ h.hM.1 hb (.inr rfl) h.hM.2,hrest⟩,h.hd,fun q hq=>nP_ (h.ow q hq) (fun g hg hN=>?_),fun x hx=>(h.row x hx).of_block (hrow x hx) hk.size,fun x hx=>⟨(h.ne x hx).1,(h.ne x hx).2.1,hno _ (h.row x hx).sz (h.ne x hx).2.2⟩,⟨h.hM.1,hno _ hMs h.hM.2⟩,fun q hq g hg=>hno g (aF_ (h.ow q hq) g hg).1 (h.ap q hq g hg),hk.lt h.lt⟩
 obtain⟨cur,fr,h2⟩:=bF_ (h.ow q hq) hg
 exact(hk.keep g _ hN h2 (.inl rfl) (h.ap q hq g hg)).trans h2.symm
theorem ItAt.below (h:ItAt c N M n D G L W) (hb:Below W.heap.size W W'):ItAt c N M n D G L W':=h.kp (KpO.of_below hb h.sz)
theorem ItAt.push (h:ItAt c N M n D G L W) (hN:N≤W.heap.size) (l:List Value) (hl:l≠[]) (t:TypeId):ItAt c N M n D G ((W.heap.size,l)::L) (W.alloc (.cells l.toArray t)):=by
 have hb:Below W.heap.size W (W.alloc (.cells l.toArray t)):=(Below.refl _ _).alloc (Nat.le_refl _) _
 have h':=h.below hb
 refine⟨h'.sz,h'.mp,h'.hd,h'.ow,fun x hx=>?_,fun x hx=>?_,h'.hM,h'.ap,h'.lt⟩
 ·rcases List.mem_cons.1 hx with rfl|hx
  ·exact ArAt.mk' W l t
  ·exact h'.row x hx
 ·rcases List.mem_cons.1 hx with rfl|hx
  ·refine⟨hl,hN,fun hg=>?_⟩
   have:=h.lt _ ((aW_ (hb.block c h.sz)).1 hg)
   simp only at this
   omega
  ·exact h'.ne x hx
theorem ItAt.sub {L':List (Nat×List Value)} (h:ItAt c N M n D G L W) (hs:∀x∈L',x∈L):ItAt c N M n D G L' W:=⟨h.sz,h.mp,h.hd,h.ow,fun x hx=>h.row x (hs x hx),fun x hx=>h.ne x (hs x hx),h.hM,h.ap,h.lt⟩
theorem ItAt.ce (h:ItAt c N M n D G L W) (k i:Nat) {B:Nat} {l:List Value} {v:Value} (h1:L[k]?=some (B,l)) (h2:l[i]?=some v):W.cell? ⟨B,i,none⟩=some v:=(h.row (B,l) (List.mem_of_getElem? h1)).row i v h2
theorem ItAt.look (h:ItAt c N M n D G L W) {q:Int} (hc:aC_ q):(Instr.lookup 124 (.map (some M)) (.int .i64 q) false).run Tryz.prog W=.ok (hdAt D q) W:=by
 obtain⟨v,ps,hrun,hv⟩:=h.mp.lookup bG_ Tryz.underlying124 (lB_ W) (zd:=.held (.slice none 0 0)) (zp:=[]) rfl (keyOf_int_mk Tryz.underlying3 (wf_i64 hc))
 rw[h.hd q hc] at hv
 cases hv
 exact hrun
theorem ItAt.shs (h:ItAt c N M n D G L W) {q:Int} (hc:aC_ q):∃a cap,hdAt D q=.slice a (G q).length cap∧ShsAt a (G q) W:=by
 rcases(h.ow q hc).2 with ⟨e,hn⟩|⟨g,cap,cur,e,h1,h2,h3,h4,h5,h6⟩
 ·refine⟨none,0,by rw[e,hn],⟨fun k s hs=>?_⟩⟩
  rw[List.length_eq_zero_iff.1 hn] at hs
  cases hs
 ·refine⟨_,cap,e,ShsAt.of ⟨fun i v hv=>⟨g,0,rfl,(Array.getElem?_eq_some_iff.1 h2).1,?_⟩⟩⟩
  rw[Nat.zero_add]
  rw[←h6] at hv
  unfold World.cell?
  rw[h2]
  have:=List.getElem?_take (l:=cur.toList) (i:=(G q).length*11) (j:=i)
  rw[this] at hv
  split at hv
  ·simpa using hv
  ·cases hv
end
theorem aAE {c N M n:Nat} {D:DataW Value} {G:Int→List Sh} {L:List (Nat×List Value)} {W:World} (h:ItAt c N M n D G L W) {q:Int} (hc:aC_ q) {a:Option Addr} {m cap:Nat} (he:hdAt D q=.slice a m cap):ShsAt a (G q) W:=by
 obtain⟨a',cap',h1,h2⟩:=h.shs hc
 rw[he] at h1
 cases h1
 exact h2
theorem ItAt.of_gr {c M k:Nat} {D:DataW Value} {G:Int→List Sh} {L:List (Nat×List Value)} {w W:World} (h:GrAt M k D G L w W) (hc:c<w.heap.size) (hl:∀g,Ow c w g→g<w.heap.size) (hL:∀x∈L,x.2≠[]∧w.heap.size≤x.1):ItAt c w.heap.size M k D G L W:=by
 have hb:=h.az.bw
 have hno:∀g,w.heap.size≤g→¬Ow c W g:=fun g hg ho=>by
  have:=hl g ((aW_ (hb.block c hc)).1 ho)
  omega
 exact⟨Nat.lt_of_lt_of_le hc hb.size,h.mp,h.hd,h.ow,h.az.row,fun x hx=>⟨(hL x hx).1,(hL x hx).2,hno _ (hL x hx).2⟩,⟨h.lo,hno _ h.lo⟩,fun q hq g hg=>hno g (aF_ (h.ow q hq) g hg).2,fun g hg=>Nat.lt_of_lt_of_le (hl g ((aW_ (hb.block c hc)).1 hg)) hb.size⟩
def itL (l X Y Z M:Nat):List (Nat×List Value):=[(X,[.map (some M)]),(Y,[.func (.yield l) #[] #[]]),(Z,[.func (.func 70) #[] #[.pointer (some ⟨X,0,none⟩),.pointer (some ⟨Y,0,none⟩),.pointer (some ⟨Z,0,none⟩)]])]
theorem yieldM {F:Fence} (hd:F.depth=none) {m:Nat} (m':Nat) {P:Program} {l:Nat} {args:Array Value} {W:World} {R:Ending→World→Prop} (h:YieldAt F m P l args W R):YieldAt F m' P l args W R:=by
 obtain⟨fn,tmps,assign,body,hy,h1,h2⟩:=h
 exact⟨fn,tmps,assign,body,hy,h1,fun c cs _=>h2 c cs (fun d h=>by rw[hd] at h;cases h)⟩
theorem mR_ {l c N M k0 X Y Z T B0:Nat} {D:DataW Value} {ss:List Sh} {J Jx:List Sh→World→Prop} (hJ:AbidesFrom B0 J)
  (hY:∀m pre x W,J pre W→pre.length<T→YieldAt Fence.wide m Tryz.prog l #[shV x] W fun e W'=>(e=.returned (.bool true)∧J (pre++[x]) W'∧KpO c N W W')∨(e=.returned (.bool false)∧Jx (pre++[x]) W'))
  (q:Int) (hq:aC_ q) (hk6:(aM_ ss q).length≤1000) (sub:Sh→List Sh)
  (hrec:∀s∈aM_ ss q,∀n pre W,ItAt c N M k0 D (aM_ ss) (itL l X Y Z M) W→N≤W.heap.size→J pre W→pre.length+(sub s).length≤T→CallsIn Fence.wide n Tryz.prog 70 #[.int .i64 s.code,.pointer (some ⟨X,0,none⟩),.pointer (some ⟨Y,0,none⟩),.pointer (some ⟨Z,0,none⟩)] W fun e W'=>(e=.returned (.bool true)∧J (pre++sub s) W'∧KpO c N W W')∨(e=.returned (.bool false)∧∃r,r <+: sub s∧Jx (pre++r) W'))
  (n:Nat) (pre:List Sh) (W:World) (hI:ItAt c N M k0 D (aM_ ss) (itL l X Y Z M) W) (hN:N≤W.heap.size) (hJ0:J pre W) (hT:pre.length+((aM_ ss q).flatMap fun s=>s::sub s).length≤T) :
  CallsIn Fence.wide n Tryz.prog 70 #[.int .i64 q,.pointer (some ⟨X,0,none⟩),.pointer (some ⟨Y,0,none⟩),.pointer (some ⟨Z,0,none⟩)] W fun e W'=>
   (e=.returned (.bool true)∧J (pre++(aM_ ss q).flatMap fun s=>s::sub s) W'∧KpO c N W W')∨(e=.returned (.bool false)∧∃r,r <+: ((aM_ ss q).flatMap fun s=>s::sub s)∧Jx (pre++r) W'):=by
 have hdd:∀k:Nat,(Fence.wide.depth.isSome=true→1≤k):=fun k h=>by cases h
 have hlk:=hI.look hq
 have z0:=hI.ce 0 0 rfl rfl
 obtain⟨a,cap,hhd,hsh⟩:=hI.shs hq
 rw[hhd] at hlk
 have HHD:=Lib.hid hhd
 obtain⟨kids,hkd⟩:∃ks,ks=aM_ ss q:=⟨_,rfl⟩
 have HKD:=Lib.hid hkd
 rw[←hkd] at hk6 hrec hT hsh hlk⊢
 have HI:=Lib.hid hI
 have HR:=Lib.hid hrec
 have HT:=Lib.hid hT
 have HY:=Lib.hid hY
 have HJ:=Lib.hid hJ
 have HJ0:=Lib.hid hJ0
 have HN:=Lib.hid hN
 have HQ:=Lib.hid hq
 clear hrec hT hsh hI hY hJ hkd hhd hJ0 hN hq
 refine callsIn_of_wp Tryz.func70 rfl trivial ?_ rfl
 simp only[Tryz.ntmps70,List.size_toArray,List.length_cons,List.length_nil,Nat.reduceAdd,Nat.reduceSub,Array.replicate_succ,Array.replicate_zero,List.push_toArray,List.append_toArray,List.nil_append,List.cons_append]
 gi_wp2
 gi_loopw [12] (fun v12 wr=>∃k:Nat,k≤kids.length∧v12=.int .i64 (k:Int)∧ItAt c N M k0 D (aM_ ss) (itL l X Y Z M) wr∧KpO c N W wr∧J (pre++(kids.take k).flatMap fun s=>s::sub s) wr) (fun v12 _=>kids.length-(intOf v12).toNat)
 case atStart=>exact⟨0,Nat.zero_le _,rfl,HI.out,KpO.refl _ _ _,by simpa using HJ0.out⟩
 case round=>
  obtain⟨k,hk,rfl,hi,hkp,hj⟩:=hrel
  have H1:=Lib.hid hi
  have HK:=Lib.hid hkp
  have HJ1:=Lib.hid hj
  have HN1:=Lib.hid (show N≤wr.heap.size from Nat.le_trans HN.out hkp.size)
  have HS:=aAE hi HQ.out HHD.out
  rw[←HKD.out] at HS
  clear hi hkp hj z0 hlk
  by_cases hkn:k<kids.length
  case neg=>
   obtain rfl:k=kids.length:=by omega
   have t9:decide ((kids.length:Int)<(kids.length:Int))=false:=decide_eq_false (by omega)
   clear HS
   gi_wp2
   go_ret
   exact .inl ⟨rfl,by have:=HJ1.out;rw[List.take_length] at this;exact this,HK.out⟩
  case pos=>
   have t9:decide ((k:Int)<(kids.length:Int))=true:=decide_eq_true (by omega)
   obtain⟨x,hx⟩:∃x,kids[k]?=some x:=⟨_,List.getElem?_eq_getElem hkn⟩
   obtain⟨b,o,rfl,hb7,c0,c1,c2,c3,c4,c5,c6,c7,c8,c9,c10⟩:=HS.sh hx
   have hflat:(kids.take (k+1)).flatMap (fun s=>s::sub s)=(kids.take k).flatMap (fun s=>s::sub s)++x::sub x:=by
    rw[List.take_add_one,hx,Option.toList_some,List.flatMap_append]
    simp
   have hpre:(kids.take (k+1)).flatMap (fun s=>s::sub s) <+: kids.flatMap (fun s=>s::sub s):=by
    conv=>rhs;rw[←List.take_append_drop (k+1) kids,List.flatMap_append]
    exact List.prefix_append _ _
   obtain⟨F,hF⟩:∃F,F=(kids.take k).flatMap (fun s=>s::sub s):=⟨_,rfl⟩
   rw[←hF] at hflat HJ1
   have hlen:pre.length+(F.length+((sub x).length+1))≤T:=by
    have h1:=hpre.length_le
    rw[hflat,List.length_append,List.length_cons] at h1
    have:=HT.out
    omega
   rw[hflat] at hpre
   have HP:=Lib.hid hpre
   have HFL:=Lib.hid hflat
   have H3:=Lib.hid (H1.out.push HN1.out (shC x) (by simp) 30)
   have hj3:J (pre++F) (wr.alloc (.cells (shC x).toArray 30)):=HJ.out _ _ _ none HJ1.out (World.grownBy_alloc _ _ _) (fun r e=>by cases e)
   obtain⟨fn,tmps,assign,body,hy,hR⟩:=HY.out (n-1) (pre++F) x _ hj3 (by rw[List.length_append];omega)
   have HRX:=Lib.hid (HR.out x (List.mem_of_getElem? hx))
   have HLE:=Lib.hid hlen
   have y2:=H1.out.ce 1 0 rfl rfl
   have y9:Y<wr.heap.size:=(H1.out.row _ (List.mem_of_getElem? (show(itL l X Y Z M)[1]?=some _ from rfl))).sz
   clear HS hx hflat hpre hF hj3 hlen
   have HKA:=Lib.hid (show KpO c N W _ from HK.out.trans (KpO.of_below ((Below.refl wr.heap.size wr).alloc (Nat.le_refl _) (.cells (shC x).toArray 30)) H1.out.sz))
   gi_wp2_with (first
    | (refine⟨trivial,hdd _,?_⟩;gi_at_call 70;refine(HRX.out _ (pre++F++[x]) _ (H4.out.sub (by unfold itL;simp)) HN2.out HJ2.out (by have:=HLE.out;simp only[List.length_append,List.length_cons,List.length_nil];omega)).mono ?_;rintro e w3 (⟨rfl,j3,kp3⟩ | ⟨rfl,r,hr,hx3⟩))
    | ((try refine⟨hdd _,?_⟩);refine hR.mono ?_;clear hR;rintro e w2 (⟨rfl,j2,kp2⟩ | ⟨rfl,hx2⟩);have H4:=Lib.hid (H3.out.kp kp2);have HJ2:=Lib.hid j2;have HK2:=Lib.hid (HKA.out.trans kp2);have HN2:=Lib.hid (show N≤w2.heap.size from Nat.le_trans HN.out (HKA.out.trans kp2).size);have v0:=H4.out.ce 0 0 rfl rfl;have z3:=H4.out.ce 3 0 rfl rfl;clear j2 kp2))
   ·have hK3:=HK2.out.trans kp3
    exact⟨⟨k+1,by omega,by go_num,((H4.out.kp kp3).sub (L':=itL l X Y Z M) (by unfold itL;simp)),hK3,by rw[HFL.out];simpa[List.append_assoc] using j3⟩,by simp only[intOf];omega⟩
   ·go_ret
    exact .inr ⟨rfl,F++x::r,by obtain⟨t,ht⟩:=hr;obtain⟨u,hu⟩:=HP.out;exact⟨t++u,by rw[←hu,←ht];simp⟩,by simpa[List.append_assoc] using hx3⟩
   ·refine⟨fun _ h=>(by cases h),?_⟩
    gi_wp2
    go_ret
    exact .inr ⟨rfl,F++[x],by obtain⟨u,hu⟩:=HP.out;exact⟨sub x++u,by rw[←hu];simp⟩,by simpa[List.append_assoc] using hx2⟩
theorem tK_ {l c N M k0 X Y Z T B0:Nat} {D:DataW Value} {ss:List Sh} (H:Ld ss) (h6:ss.length≤1000) {J Jx:List Sh→World→Prop} (hJ:AbidesFrom B0 J)
  (hY:∀m pre x W,J pre W→pre.length<T→YieldAt Fence.wide m Tryz.prog l #[shV x] W fun e W'=>(e=.returned (.bool true)∧J (pre++[x]) W'∧KpO c N W W')∨(e=.returned (.bool false)∧Jx (pre++[x]) W')) :
  ∀(m:Nat) (q:Int),aC_ q→(∀s∈aM_ ss q,rk s<m)→∀(n:Nat) (pre:List Sh) (W:World),ItAt c N M k0 D (aM_ ss) (itL l X Y Z M) W→N≤W.heap.size→J pre W→pre.length+(rdL ss m q).length≤T→
   CallsIn Fence.wide n Tryz.prog 70 #[.int .i64 q,.pointer (some ⟨X,0,none⟩),.pointer (some ⟨Y,0,none⟩),.pointer (some ⟨Z,0,none⟩)] W fun e W'=>
    (e=.returned (.bool true)∧J (pre++rdL ss m q) W'∧KpO c N W W')∨(e=.returned (.bool false)∧∃r,r <+: rdL ss m q∧Jx (pre++r) W')
 | m,q,hq,hk,n,pre,W,hI,hN,hJ0,hT=>by
  have h60:(aM_ ss q).length≤1000:=by
   unfold aM_
   rw[(fF_ _).length_eq]
   exact Nat.le_trans (List.length_filter_le _ _) h6
  cases m with
  | zero=>
   have e:aM_ ss q=[]:=List.eq_nil_iff_forall_not_mem.2 fun s hs=>by have:=hk s hs;omega
   have:=mR_ hJ hY q hq h60 (fun _=>[]) (fun s hs=>by rw[e] at hs;cases hs) n pre W hI hN hJ0 (by rw[e];exact hT)
   rw[e] at this
   exact this
  | succ m=>
   refine mR_ hJ hY q hq h60 (fun s=>rdL ss m s.code) (fun s hs n' pre' W' hI' hN' hJ' hT'=>?_) n pre W hI hN hJ0 hT
   have hs':=(aJ_.1 hs).1
   exact tK_ H h6 hJ hY m s.code (by have:=(H.bds s hs').2;unfold aC_;omega) (fun t ht=>by have:=H.kid_rk hs' ht;have:=hk s hs;omega) n' pre' W' hI' hN' hJ' hT'
theorem aDZ {l c N M k0 X T:Nat} {D:DataW Value} {ss:List Sh} (H:Ld ss) (h6:ss.length≤1000) {J Jx:List Sh→World→Prop} (n:Nat) (W:World) (hJ:AbidesFrom W.heap.size J)
  (hY:∀m pre x W,J pre W→pre.length<T→YieldAt Fence.wide m Tryz.prog l #[shV x] W fun e W'=>(e=.returned (.bool true)∧J (pre++[x]) W'∧KpO c N W W')∨(e=.returned (.bool false)∧Jx (pre++[x]) W'))
  (hI:ItAt c N M k0 D (aM_ ss) [(X,[.map (some M)])] W) (hN:N≤W.heap.size) (hJ0:J [] W) (hT:(rdx ss 0).length≤T) :
  CallsIn Fence.wide n Tryz.prog 69 #[.func (.yield l) #[] #[],.pointer (some ⟨X,0,none⟩)] W fun e W'=>(∃v,e=.returned v)∧((∃ys,ys=rdx ss 0∧J ys W')∨(∃r,r <+: rdx ss 0∧Jx r W')):=by
 have hdd:∀k:Nat,(Fence.wide.depth.isSome=true→1≤k):=fun k h=>by cases h
 have h1:=hI.push hN [.func (.yield l) #[] #[]] (by simp) 92
 have h2:=h1.push (by simp;omega) [.func (.func 70) #[] #[.pointer (some ⟨X,0,none⟩),.pointer (some ⟨W.heap.size,0,none⟩),.pointer (some ⟨W.heap.size+1,0,none⟩)]] (by simp) 128
 simp only[World.size_alloc] at h2
 have h3:=h2.sub (L':=itL l X W.heap.size (W.heap.size+1) M) (by unfold itL;simp)
 have hj1:=hJ _ _ _ none (hJ _ _ _ none hJ0 (World.grownBy_alloc W (.cells #[.func (.yield l) #[] #[]] 92) none) (fun r e=>by cases e)) (World.grownBy_alloc _ (.cells #[.func (.func 70) #[] #[.pointer (some ⟨X,0,none⟩),.pointer (some ⟨W.heap.size,0,none⟩),.pointer (some ⟨W.heap.size+1,0,none⟩)]] 128) none) (fun r e=>by cases e)
 have hp:=Lib.hid (tK_ H h6 hJ hY 400000000 0 (by unfold aC_;omega) (fun s hs=>H.rk_lt (aJ_.1 hs).1) (n-1) [] _ h3 (by simp;omega) hj1 (by simpa[rdx] using hT))
 clear h1 h2 h3 hj1 hY hI hJ0 hJ
 refine callsIn_of_wp Tryz.func69 rfl trivial ?_ rfl
 simp only[Tryz.ntmps69,List.size_toArray,List.length_cons,List.length_nil,Nat.reduceAdd,Nat.reduceSub,Array.replicate_succ,Array.replicate_zero,List.push_toArray,List.append_toArray,List.nil_append,List.cons_append]
 gi_wp2_with (refine⟨trivial,hdd _,?_⟩;gi_at_call 70;refine(hp.out).mono ?_;rintro e W1 (⟨rfl,hJ1,_⟩|⟨rfl,q,hq,hx⟩))
 ·go_end0
  exact⟨⟨_,rfl⟩,.inl ⟨_,rfl,by simpa[rdx] using hJ1⟩⟩
 ·go_end0
  exact⟨⟨_,rfl⟩,.inr ⟨q,by simpa[rdx] using hq,by simpa using hx⟩⟩
theorem nR_ {c N M k0 X n:Nat} {D:DataW Value} {ss:List Sh} (H:Ld ss) (h6:ss.length≤1000) {w:World} (hI:ItAt c N M k0 D (aM_ ss) [(X,[.map (some M)])] w) (hN:N≤w.heap.size) :
  SeqStopsK Fence.wide n Tryz.prog 69 #[.pointer (some ⟨X,0,none⟩)] (fun s:Sh=>#[shV s]) (KpO c N) (fun ys=>ys=rdx ss 0) (fun pre=>pre <+: rdx ss 0) (rdx ss 0).length w:=
 fun l J Jx W hW hJ _ hY h0=>aDZ (l:=l) H h6 n W hJ (fun m pre x W1 hj hl=>yieldM rfl m (hY pre x W1 hj hl)) (hI.below hW) (Nat.le_trans hN hW.size) h0 (Nat.le_refl _)
end Go.Proofs.YtdkaohphbgdkpaaGreatDoor
