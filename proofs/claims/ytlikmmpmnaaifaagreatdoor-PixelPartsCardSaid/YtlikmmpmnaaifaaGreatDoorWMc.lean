/-
  Package pixel: Merge of two pictures of one frame, whose inks together are those of a picture.
-/
import Derived.Lib.QuietBelow
import Derived.BigQuiet
import Derived.Deep.RegionHeld3
import Derived.Test.YtlikmmpmnaaifaaGreatDoorZYj
import Derived.Test.YtlikmmpmnaaifaaGreatDoorWMd
namespace Go.Proofs.YtlikmmpmnaaifaaGreatDoor
open Go.RowKit Go.Shelf Go.Sort
attribute [local go_sem] Oper.semAt_some
theorem inks_at {v:Value} {ie:List (Ik×Nat×Nat)} {R:List (Nat×List Value)} {w W:World} (h:OsAt 79 2 v ie.length (inkV ie) R w W) (hR:∀x∈inkR ie,x∈R) (hcp:∀e∈ie,e.1.cells.length≤e.2.2):∃a c,v=.slice a ie.length c∧InksAt a (ie.map (·.1)) W:=by
 obtain⟨a,c,rfl,hc⟩:=CsAt.own h
 refine⟨a,c,rfl,⟨fun i k hk=>?_⟩⟩
 rw[List.getElem?_map] at hk
 cases he:ie[i]? with
 | none=>rw[he] at hk;cases hk
 | some e=>
  rw[he] at hk
  obtain rfl:e.1=k:=by simpa using hk
  obtain⟨b,o,rfl,h1,h2⟩:=hc.row _ _ (qT_ he).1
  obtain⟨b',o',e',_,h3⟩:=hc.row _ _ (qT_ he).2
  injection e' with e'
  injection e' with e1 e2
  subst e1 e2
  exact⟨b,o,_,_,rfl,h1,h2,h3,CsAt.of_ar (h.az.row _ (hR _ (aKU he))),hcp e (List.mem_of_getElem? he)⟩
theorem ents_below {es:List Ent} {W W':World} (h:EntsAt es W) (hb:Below W.heap.size W W'):EntsAt es W':=fun e he=>⟨(h e he).1.below hb,(h e he).2⟩
theorem AzAt.here {L:List (Nat×List Value)} {w W:World} (h:AzAt L w W):AzAt L W W:=⟨Below.refl _ _,h.row⟩
theorem srt_any {f:Fr} {ks ls ms:List Ik} (h:bK_ f (srtK (ks++ls))=true) (hp:ms.Perm (ks++ls)) (hs:ms.Pairwise fun a b=>a.code≤b.code):ms=srtK (ks++ls):=by
 have q:=aOR (f:=f) (aDF (ks++ls)) (aNT (ks++ls)) hp hs
 exact(q.2 h).symm
theorem sort_any {ia:Option Addr} {ic nl:Nat} {ie:List (Ik×Nat×Nat)} {R:List (Nat×List Value)} {w W:World} (hl:ie.length=nl) (hn:nl≤1000000) (h:OsAt 79 2 (.slice ia nl ic) nl (inkV ie) R w W) :
  Calls Tryz.prog 126 #[.slice ia nl ic,.func (.func 127) #[] #[]] W fun e W'=>e=.returned (.tuple #[])∧∃ie':List (Ik×Nat×Nat),ie'.length=nl∧ie'.Perm ie∧ie'.Pairwise (fun a b=>a.1.code≤b.1.code)∧OsAt 79 2 (.slice ia nl ic) nl (inkV ie') R w W':=by
 rcases h.form with ⟨e,e2,_⟩|⟨g,c',e,_⟩
 ·injection e with e1 _ e3
  subst e1 e2 e3
  obtain rfl:=List.length_eq_zero_iff.1 hl
  exact(aDI W).mono fun e W' ⟨h1,h2⟩=>⟨h1,[],rfl,.refl _,.nil,by rw[h2];exact h⟩
 ·injection e with e1 _ e3
  subst e1 e3
  exact aNV hl hn h
theorem ents_app {l m:List Ent} {W:World} (h:EntsAt l W) (k:EntsAt m W):EntsAt (l++m) W:=fun e he=>by
 rcases List.mem_append.1 he with he|he
 ·exact h e he
 ·exact k e he
attribute [local go_sem ↓] rQ_
set_option maxHeartbeats 16000000 in
set_option maxRecDepth 100000 in
theorem merge_s {f:Fr} {a b:Option Addr} {n m c d:Nat} {ks ls:List Ik} (hl:ks.length=n) (hm:ls.length=m) (hv:bK_ f ks=true) (hu:bK_ f ls=true) (hs:bK_ f (srtK (ks++ls))=true) (w:World) (h1:InksAt a ks w) (h2:InksAt b ls w) :
  Calls Tryz.prog 57 #[.agg #[.int .i64 f.x,.int .i64 f.y,.int .i64 f.w,.int .i64 f.h,.int .i64 f.s,.slice a n c],.agg #[.int .i64 f.x,.int .i64 f.y,.int .i64 f.w,.int .i64 f.h,.int .i64 f.s,.slice b m d]] w (wW_ f (srtK (ks++ls)) w):=by
 have hmx:Tryz.prog.follows .mixedOrders=true:=by kernel_rfl
 obtain⟨e1,he1,hc1,ht1⟩:=h1.ents
 obtain⟨e2,he2,hc2,ht2⟩:=h2.ents
 have K0:=Lib.hid (fun W=>vR_ f a n c W)
 have K1:=Lib.hid (fun W=>vR_ f b m d W)
 have K2:=Lib.hid (fun W (h:InksAt a ks W)=>by have:=gJ_ (f:=f) (c:=c) hl W h;rw[hv] at this;exact this)
 have K3:=Lib.hid (fun W (h:InksAt b ls W)=>by have:=gJ_ (f:=f) (c:=d) hm W h;rw[hu] at this;exact this)
 have e5:=fun W=>aGQ f.x f.y f.w f.h f.s f.x f.y f.w f.h f.s W
 simp only[and_self,decide_true] at e5
 have PA:=Lib.hid (bO_.1 hv)
 have PB:=Lib.hid (bO_.1 hu)
 have PS:=Lib.hid (bO_.1 hs)
 have hn20:n≤20:=by rw[←hl];exact PA.out.len
 have hm20:m≤20:=by rw[←hm];exact PB.out.len
 have le1:e1.length=n:=by rw[←hl,←he1,List.length_map]
 have le2:e2.length=m:=by rw[←hm,←he2,List.length_map]
 have H0:=Lib.hid (show AzAt [(w.heap.size+2,frC ⟨0,0,0,0,0⟩ (.slice none 0 0)),(w.heap.size+1,[.int .i64 f.x,.int .i64 f.y,.int .i64 f.w,.int .i64 f.h,.int .i64 f.s,.slice b m d]),(w.heap.size,[.int .i64 f.x,.int .i64 f.y,.int .i64 f.w,.int .i64 f.h,.int .i64 f.s,.slice a n c])] w (((w.alloc (.cells #[.int .i64 f.x,.int .i64 f.y,.int .i64 f.w,.int .i64 f.h,.int .i64 f.s,.slice a n c] 58)).alloc (.cells #[.int .i64 f.x,.int .i64 f.y,.int .i64 f.w,.int .i64 f.h,.int .i64 f.s,.slice b m d] 58)).alloc (.cells #[.int .i64 0,.int .i64 0,.int .i64 0,.int .i64 0,.int .i64 0,.slice none 0 0] 58)) from by
  have hp:=(((AzAt.start w).push [.int .i64 f.x,.int .i64 f.y,.int .i64 f.w,.int .i64 f.h,.int .i64 f.s,.slice a n c] 58).push [.int .i64 f.x,.int .i64 f.y,.int .i64 f.w,.int .i64 f.h,.int .i64 f.s,.slice b m d] 58).push [.int .i64 0,.int .i64 0,.int .i64 0,.int .i64 0,.int .i64 0,.slice none 0 0] 58
  simp only[World.size_alloc] at hp
  exact hp)
 have HE:=Lib.hid (And.intro (And.intro hc1 hc2) (And.intro (And.intro ht1 ht2) (And.intro (And.intro h1 h2) (And.intro le1 le2))))
 have HM:=Lib.hid (show(e1++e2).map (·.1)=ks++ls by rw[List.map_append,he1,he2])
 have HNN:=Lib.hid (And.intro (h1.none hl) (h2.none hm))
 have HSS:=Lib.hid hs
 clear hl hm hv hu hs h1 h2 he1 he2 hc1 hc2 ht1 ht2 le1 le2
 go_enter Tryz.func57,Tryz.ntmps57
 go_wp2
 obtain⟨W0,hW0⟩:∃W,W=((w.alloc (.cells #[.int .i64 f.x,.int .i64 f.y,.int .i64 f.w,.int .i64 f.h,.int .i64 f.s,.slice a n c] 58)).alloc (.cells #[.int .i64 f.x,.int .i64 f.y,.int .i64 f.w,.int .i64 f.h,.int .i64 f.s,.slice b m d] 58)).alloc (.cells #[.int .i64 0,.int .i64 0,.int .i64 0,.int .i64 0,.int .i64 0,.slice none 0 0] 58):=⟨_,rfl⟩
 rw[←hW0] at H0⊢
 clear hW0
 have x0:=cell_regrown (H0.out.ce 2 0 rfl rfl)
 have x1:=cell_regrown (H0.out.ce 2 1 rfl rfl)
 have x2:=cell_regrown (H0.out.ce 2 2 rfl rfl)
 have x3:=cell_regrown (H0.out.ce 2 3 rfl rfl)
 have x4:=cell_regrown (H0.out.ce 2 4 rfl rfl)
 have x5:=cell_regrown (H0.out.ce 2 5 rfl rfl)
 have y0:=cell_regrown (H0.out.ce 1 0 rfl rfl)
 have y1:=cell_regrown (H0.out.ce 1 1 rfl rfl)
 have y2:=cell_regrown (H0.out.ce 1 2 rfl rfl)
 have y3:=cell_regrown (H0.out.ce 1 3 rfl rfl)
 have y4:=cell_regrown (H0.out.ce 1 4 rfl rfl)
 have y5:=cell_regrown (H0.out.ce 1 5 rfl rfl)
 have cc0:=fun d os=>Calls.regrown_of (d:=d) (os:=os) (K0.out (grow (redrawn W0 d) os))
 have cc1:=fun d os=>Calls.regrown_of (d:=d) (os:=os) (K1.out (grow (redrawn W0 d) os))
 have cc2:=fun d os=>Calls.regrown_of (d:=d) (os:=os) (K2.out (grow (redrawn W0 d) os) ((HE.out.2.2.1.1.below H0.out.bw).below (below_regrown W0 d os)))
 have cc3:=fun d os=>Calls.regrown_of (d:=d) (os:=os) (K3.out (grow (redrawn W0 d) os) ((HE.out.2.2.1.2.below H0.out.bw).below (below_regrown W0 d os)))
 refine wp_region_quiet_below (by kernel_rfl) (by kernel_rfl) ?_
 repeat (go_big_quiet_step (first|with_reducible exact cc0 _ _|with_reducible exact cc1 _ _|with_reducible exact cc2 _ _|with_reducible exact cc3 _ _))
 refine wpQuiet_nil ?_
 intro W1 hw2
 have hb2:Below W0.heap.size W0 W1:=by obtain⟨⟨dq,osq⟩,hw7⟩:=hw2;rw[hw7];exact below_regrown W0 dq osq
 have H1:=Lib.hid (H0.out.below hb2)
 clear hw2 hb2 cc0 cc1 cc2 cc3 K0 K1 K2 K3 e5 x0 x1 x2 x3 x4 x5 y0 y1 y2 y3 y4 y5 H0
 have x0:=H1.out.ce 2 0 rfl rfl
 have x1:=H1.out.ce 2 1 rfl rfl
 have x2:=H1.out.ce 2 2 rfl rfl
 have x3:=H1.out.ce 2 3 rfl rfl
 have x4:=H1.out.ce 2 4 rfl rfl
 have x5:=H1.out.ce 2 5 rfl rfl
 have y0:=H1.out.ce 1 0 rfl rfl
 have y1:=H1.out.ce 1 1 rfl rfl
 have y2:=H1.out.ce 1 2 rfl rfl
 have y3:=H1.out.ce 1 3 rfl rfl
 have y4:=H1.out.ce 1 4 rfl rfl
 have y5:=H1.out.ce 1 5 rfl rfl
 go_upto_region 4 with fail
 have H2:=Lib.hid (show AzAt [(W1.heap.size,[.int .i64 f.x,.int .i64 f.y,.int .i64 f.w,.int .i64 f.h,.int .i64 f.s,.slice none 0 0]),(w.heap.size+2,frC ⟨0,0,0,0,0⟩ (.slice none 0 0)),(w.heap.size+1,[.int .i64 f.x,.int .i64 f.y,.int .i64 f.w,.int .i64 f.h,.int .i64 f.s,.slice b m d]),(w.heap.size,[.int .i64 f.x,.int .i64 f.y,.int .i64 f.w,.int .i64 f.h,.int .i64 f.s,.slice a n c])] w (W1.alloc (.cells #[.int .i64 f.x,.int .i64 f.y,.int .i64 f.w,.int .i64 f.h,.int .i64 f.s,.slice none 0 0] 58)) from H1.out.push [.int .i64 f.x,.int .i64 f.y,.int .i64 f.w,.int .i64 f.h,.int .i64 f.s,.slice none 0 0] 58)
 obtain⟨X6,hX6⟩:∃X,X=W1.heap.size:=⟨_,rfl⟩
 obtain⟨W2,hW2⟩:∃W,W=W1.alloc (.cells #[.int .i64 f.x,.int .i64 f.y,.int .i64 f.w,.int .i64 f.h,.int .i64 f.s,.slice none 0 0] 58):=⟨_,rfl⟩
 have hXw:w.heap.size+2<X6:=by rw[hX6];exact(H1.out.row _ (show(w.heap.size+2,frC ⟨0,0,0,0,0⟩ (.slice none 0 0))∈_ by simp)).sz
 rw[←hX6,←hW2] at H2⊢
 clear hX6 hW2 H1 x0 x1 x2 x3 x4 x5 y0 y1 y2 y3 y4 y5
 have x5:=H2.out.ce 3 5 rfl rfl
 have y5:=H2.out.ce 2 5 rfl rfl
 have H3:=Lib.hid ((H2.out.push [.slice a n c,.slice b m d] 56))
 have K4:=Lib.hid (concatN_s (cs:=2) HE.out.2.2.2.1 HE.out.2.2.2.2 ⟨by omega,by omega⟩ HNN.out.1 HNN.out.2 H3.out.here (HE.out.1.1.below H3.out.bw) (HE.out.1.2.below H3.out.bw))
 obtain⟨N,hN⟩:∃N,N=n+m:=⟨_,rfl⟩
 obtain⟨es,hes⟩:∃es,es=e1++e2:=⟨_,rfl⟩
 rw[←hN,←hes] at K4
 rw[←hes] at HM
 have HEN:=Lib.hid (show EntsAt es w from by rw[hes];exact ents_app HE.out.2.1.1 HE.out.2.1.2)
 have HNL:=Lib.hid (show es.length=N from by rw[hes,hN,List.length_append,HE.out.2.2.2.1,HE.out.2.2.2.2])
 have hN40:N≤40:=by omega
 have HES:=Lib.hid (show ∀e∈es,e.1.cells.length=npx f from fun e he=>by
  have hm:e.1∈ks++ls:=by rw[←HM.out];exact List.mem_map.2 ⟨e,he,rfl⟩
  rcases List.mem_append.1 hm with h|h
  ·exact PA.out.many _ h
  ·exact PB.out.many _ h)
 have HSX:=Lib.hid (show X6<W2.heap.size from(H2.out.row _ (List.mem_cons_self)).sz)
 clear hN hes
 go_upto_region 5 with (first
  | (go_at_call 124;(with_reducible refine K4.out.mono ?_);rintro e w5 ⟨v5,rfl,hz⟩;have HZ:=Lib.hid hz;obtain⟨oa,oc,rfl,hcs⟩:=CsAt.own hz;clear hz hcs)
  | fail)
 have H5:=Lib.hid (H3.out.below HZ.out.az.bw)
 obtain⟨RC,hR1,hR2,hR3⟩:∃RC:List (Nat×List Value),AzAt ((X6,frC f (.slice none 0 0))::((w.heap.size+2,frC ⟨0,0,0,0,0⟩ (.slice none 0 0))::RC)) w w5∧(∀x∈RC,X6≠x.1)∧(∀(k:Nat) (e:Ent),es[k]?=some e→∃g,oa=some ⟨g,0,none⟩∧(g,entV es)∈RC):=by
  have h2:=H5.out.sub (L':=[(X6,frC f (.slice none 0 0)),(w.heap.size+2,frC ⟨0,0,0,0,0⟩ (.slice none 0 0))]) (fun z hz=>by simp only[List.mem_cons,List.not_mem_nil,or_false] at hz;rcases hz with rfl|rfl <;> simp[frC])
  rcases HZ.out.form with ⟨e,e0,_⟩|⟨g,c',e,hg1,hg2⟩
  ·refine⟨[],h2,fun x hx=>(by cases hx),fun k e he=>?_⟩
   have:=(List.getElem?_eq_some_iff.1 he).1
   rw[HNL.out] at this
   omega
  ·injection e with ea _ _
   subst ea
   have hsz:W2.heap.size<(W2.alloc (.cells #[.slice a n c,.slice b m d] 56)).heap.size:=by simp
   have hgx:X6<g:=by have:=HSX.out;omega
   refine⟨[(g,entV es)],(h2.cons (HZ.out.ar rfl)).sub (fun z hz=>by simp only[List.mem_cons,List.not_mem_nil,or_false] at hz⊢;rcases hz with rfl|rfl|rfl <;> simp),fun x hx=>?_,fun k e _=>⟨g,rfl,by simp⟩⟩
   rw[List.mem_singleton.1 hx]
   show X6≠g
   omega
 have HR:=Lib.hid (And.intro hR2 hR3)
 have HS:=Lib.hid (show OsAt 79 2 (.slice none 0 0) ([]:List (Ik×Nat×Nat)).length (inkV ([]:List (Ik×Nat×Nat))) ((X6,frC f (.slice none 0 0))::(((w.heap.size+2,frC ⟨0,0,0,0,0⟩ (.slice none 0 0))::RC)++inkR ([]:List (Ik×Nat×Nat)))) w w5 from by
  have h:=OsAt.nil hR1 79 2
  simpa[inkR,inkV] using h)
 clear hR1 hR2 hR3 H2 H3 H5 HZ K4 HE x5 y5 HNN
 obtain⟨i0,hi0,hz0,hz1,hz2⟩:=info_parts qU_
 obtain⟨i9,hi1,hy0,hy1,hy2⟩:=info_parts lO_
 go_loopw [43] (fun v43 wr=>∃(k:Nat) (ia:Option Addr) (ic:Nat) (ie:List (Ik×Nat×Nat)),k≤N∧v43=.int .i64 (k:Int)∧OsAt 79 2 (.slice ia ie.length ic) ie.length (inkV ie) ((X6,frC f (.slice ia ie.length ic))::(((w.heap.size+2,frC ⟨0,0,0,0,0⟩ (.slice none 0 0))::RC)++inkR ie)) w wr∧ie.map (·.1)=(es.take k).map (·.1)∧(∀e∈ie,X6≠e.2.1∧e.1.cells.length≤e.2.2∧w.heap.size≤e.2.1)) (fun v43 _=>N-(intOf v43).toNat)
 case atStart=>exact⟨0,none,0,[],Nat.zero_le _,rfl,HS.out,rfl,fun e he=>by cases he⟩
 case round=>
  obtain⟨k,ia,ic,ie,hk,rfl,ho,hmap,hne⟩:=hrel
  have HO:=Lib.hid ho
  have HMP:=Lib.hid hmap
  have HNE:=Lib.hid hne
  have hie:ie.length=k:=by
   have h1:=congrArg List.length hmap
   rw[List.length_map,List.length_map,List.length_take,HNL.out] at h1
   omega
  clear ho hmap hne HS
  by_cases hkn:k<N
  case neg=>
   obtain rfl:k=N:=by omega
   have HMA:=Lib.hid (show ie.map (·.1)=ks++ls by rw[HMP.out,List.take_of_length_le (by rw[HNL.out];exact Nat.le_refl _),HM.out])
   obtain⟨nl,hnl⟩:∃nl,nl=ie.length:=⟨_,rfl⟩
   have HO2:=HO.out
   rw[←hnl] at HO2 hie
   have HO3:=Lib.hid HO2
   have KSO:=Lib.hid (sort_any hnl.symm (by omega) HO2)
   have z5:=HO3.out.az.ce 0 5 rfl rfl
   have HNL2:=Lib.hid hnl
   clear HO HO2 hnl hie
   go_upto_region 10 with (first
    | (go_at_call 126;(with_reducible refine KSO.out.mono ?_);rintro e w9 ⟨rfl,id',hl9,hp9,hs9,ho9⟩;have H9:=Lib.hid ho9;have HP9:=Lib.hid (And.intro hl9 (And.intro hp9 hs9));clear ho9 hl9 hp9 hs9)
    | fail)
   clear z5 HO3 KSO
   have HMS:=Lib.hid (show id'.map (·.1)=srtK (ks++ls) from srt_any HSS.out (by rw[←HMA.out];exact HP9.out.2.1.map _) (by rw[List.pairwise_map];exact HP9.out.2.2))
   have HNE9:=Lib.hid (show ∀e∈id',X6≠e.2.1∧e.1.cells.length≤e.2.2∧w.heap.size≤e.2.1 from fun e he=>HNE.out e (HP9.out.2.1.mem_iff.1 he))
   have HPS:=Lib.hid (show ∀e∈id',0<sumL e.1.cells from fun e he=>by
    have hm:e.1∈srtK (ks++ls):=by rw[←HMS.out];exact List.mem_map.2 ⟨e,he,rfl⟩
    exact PS.out.pos _ hm)
   have H10:=Lib.hid (show OsAt 79 2 (.slice ia nl ic) id'.length (inkV id') ((X6,frC f (.slice ia nl ic))::(w.heap.size+2,frC ⟨0,0,0,0,0⟩ (.slice none 0 0))::inkR id') w w9 from by
    rw[HP9.out.1]
    refine H9.out.sub fun z hz=>?_
    simp only[List.mem_cons] at hz
    rcases hz with hz|hz|hz
    ·simp[hz]
    ·simp[hz]
    ·have:z∈inkR ie:=by
      obtain⟨e,he,rfl⟩:=List.mem_map.1 hz
      exact List.mem_map.2 ⟨e,HP9.out.2.1.mem_iff.1 he,rfl⟩
     simp[this])
   have HIK:=Lib.hid (show InksAt ia (srtK (ks++ls)) w9 from by
    have h:=H10.out
    obtain⟨a',c',ea,hik⟩:=inks_at h (fun z hz=>by simp[hz]) (fun e he=>(HNE9.out e he).2.1)
    injection ea with ea1 _ _
    subst ea1
    rw[HMS.out] at hik
    exact hik)
   have hnl3:(srtK (ks++ls)).length=nl:=by rw[←HMS.out,List.length_map,HP9.out.1]
   have K6:=Lib.hid (by have:=gJ_ (f:=f) (c:=ic) hnl3 w9 HIK.out;rw[HSS.out] at this;exact this)
   have HL3:=Lib.hid hnl3
   clear hnl3
   have z0:=H10.out.az.ce 0 0 rfl rfl
   have z1:=H10.out.az.ce 0 1 rfl rfl
   have z2:=H10.out.az.ce 0 2 rfl rfl
   have z3:=H10.out.az.ce 0 3 rfl rfl
   have z4:=H10.out.az.ce 0 4 rfl rfl
   have z5:=H10.out.az.ce 0 5 rfl rfl
   go_upto_region 12 with (first
    | (go_at_call 53;(with_reducible refine K6.out.mono ?_);rintro e wc ⟨rfl,hb⟩;have H11:=Lib.hid (H10.out.below hb);clear hb z0 z1 z2 z3 z4 z5)
    | fail)
   clear H10 H9 K6 HIK
   have z0:=H11.out.az.ce 0 0 rfl rfl
   have z1:=H11.out.az.ce 0 1 rfl rfl
   have z2:=H11.out.az.ce 0 2 rfl rfl
   have z3:=H11.out.az.ce 0 3 rfl rfl
   have z4:=H11.out.az.ce 0 4 rfl rfl
   have z5:=H11.out.az.ce 0 5 rfl rfl
   have y0:=H11.out.az.ce 1 0 rfl rfl
   have y1:=H11.out.az.ce 1 1 rfl rfl
   have y2:=H11.out.az.ce 1 2 rfl rfl
   have y3:=H11.out.az.ce 1 3 rfl rfl
   have y4:=H11.out.az.ce 1 4 rfl rfl
   have y5:=H11.out.az.ce 1 5 rfl rfl
   have q0:=H11.out.az.cf 1 0 rfl rfl
   have q1:=H11.out.az.cf 1 1 rfl rfl
   have q2:=H11.out.az.cf 1 2 rfl rfl
   have q3:=H11.out.az.cf 1 3 rfl rfl
   have q4:=H11.out.az.cf 1 4 rfl rfl
   have q5:=H11.out.az.cf 1 5 rfl rfl
   have HFI:=Lib.hid (aIE (f:=f) (X4:=w.heap.size+2) H11.out (by omega) HPS.out)
   go_wp2
   have hfin:=HFI.out
   obtain⟨Wf,hWf⟩:∃Wf,Wf=(((((wc.setCell ⟨w.heap.size+2,0,none⟩ (.int .i64 f.x)).setCell ⟨w.heap.size+2,1,none⟩ (.int .i64 f.y)).setCell ⟨w.heap.size+2,2,none⟩ (.int .i64 f.w)).setCell ⟨w.heap.size+2,3,none⟩ (.int .i64 f.h)).setCell ⟨w.heap.size+2,4,none⟩ (.int .i64 f.s)).setCell ⟨w.heap.size+2,5,none⟩ (.slice ia nl ic):=⟨_,rfl⟩
   rw[←hWf] at hfin⊢
   clear hWf
   have x0:=hfin.az.ce 0 0 rfl rfl
   have x1:=hfin.az.ce 0 1 rfl rfl
   have x2:=hfin.az.ce 0 2 rfl rfl
   have x3:=hfin.az.ce 0 3 rfl rfl
   have x4:=hfin.az.ce 0 4 rfl rfl
   have x5:=hfin.az.ce 0 5 rfl rfl
   obtain⟨a',c',ea,hik⟩:=tL_ hfin (fun z hz=>by simp[hz]) (fun e he=>(HNE9.out e he).2.1) (fun e he=>(HNE9.out e he).2.2)
   injection ea with ea1 _ ea2
   subst ea1 ea2
   rw[HMS.out] at hik
   refine bodyPost_ret (v:=.tuple #[.agg #[.int .i64 f.x,.int .i64 f.y,.int .i64 f.w,.int .i64 f.h,.int .i64 f.s,.slice ia nl ic],.int .i64 0]) ?_ rfl ⟨ia,ic,by rw[HL3.out],hik,hfin.az.bw⟩
   simp[results,Tryz.results57,go_sem,Result.andThen,x0,x1,x2,x3,x4,x5]
  have hie2:ie.length≤40:=by omega
  clear hie
  obtain⟨e,he⟩:∃e,es[k]?=some e:=⟨es[k]'(by rw[HNL.out];exact hkn),List.getElem?_eq_getElem _⟩
  obtain⟨g,eg,hmem⟩:=HR.out.2 k e he
  subst eg
  have hrow:=HO.out.az.row (g,entV es) (by simp[hmem])
  have c0:=hrow.row _ _ (aPO he).1
  have c1:=hrow.row _ _ (aPO he).2
  have hgl:=hrow.sz
  have hin:=List.mem_of_getElem? he
  obtain⟨hcs,hcc⟩:=ents_below HEN.out HO.out.az.bw e hin
  have hnp:=HES.out e hin
  have hnb:=qP_ PA.out.fr
  have HTK:=Lib.hid (show(es.take (k+1)).map (·.1)=(es.take k).map (·.1)++[e.1] by rw[List.take_add_one,he,List.map_append];rfl)
  obtain⟨⟨kc,cl⟩,ca,cc⟩:=e
  simp only at c0 c1 hcs hcc hnp HTK
  obtain⟨np,hnpe⟩:∃np,np=cl.length:=⟨_,rfl⟩
  rw[←hnpe] at c1 hcc hnp
  obtain⟨bq,oq,rfl,hbq,-⟩:=hcs.some (by rw[hC_,←hnpe];omega)
  have hp1:1≤np:=by omega
  have hp4:np≤400:=by omega
  have HCS:=Lib.hid hcs
  have HNP:=Lib.hid hnpe.symm
  have i1:(0:Int)≤(k:Int):=by omega
  have i2:(k:Int)<(N:Int):=by omega
  clear he hin hcs hnp hnb hnpe hrow hmem hbq
  have H10:=Lib.hid (HO.out.push [.int .i64 kc,.slice (some ⟨bq,oq,none⟩) np cc] 79)
  go_upto_region 7 with fail
  obtain⟨X8,hX8⟩:∃X,X=wr.heap.size:=⟨_,rfl⟩
  obtain⟨W10,hW10⟩:∃W,W=wr.alloc (.cells #[.int .i64 kc,.slice (some ⟨bq,oq,none⟩) np cc] 79):=⟨_,rfl⟩
  have HC10:=Lib.hid (HCS.out.below ((Below.refl wr.heap.size wr).alloc (Nat.le_refl _) (.cells #[.int .i64 kc,.slice (some ⟨bq,oq,none⟩) np cc] 79)))
  rw[←hX8] at H10⊢
  rw[←hW10] at H10 HC10⊢
  clear hX8 hW10 c0 c1 hgl HO HCS
  have HXR:=Lib.hid (show X6<W10.heap.size from(H10.out.az.row (X6,frC f (.slice ia ie.length ic)) (by simp)).sz)
  have H10d:=Lib.hid (H10.out.below (Below.refl _ _).drew)
  have K5:=Lib.hid (fun V (hV:Below W10.heap.size W10 V)=>aLU (cap:=cc) HNP.out (by omega) (AzAt.start V) (HC10.out.below hV))
  have HO1:=Lib.hid (fun q (hq:(Value.slice ia ie.length ic).ownBlock=some q)=>(bB_ H10.out.own q hq).1)
  have w5':=H10d.out.az.ce 1 5 rfl rfl
  have w0':=H10d.out.az.ce 0 0 rfl rfl
  have w1':=H10d.out.az.ce 0 1 rfl rfl
  go_region_with (first
   | (go_at_call 125;(with_reducible refine(K5.out _ (Below.refl _ _).drew).mono ?_);rintro e u7 ⟨v7,rfl,hz⟩;have HI7:=Lib.hid hz;obtain⟨gc,c5,rfl⟩:=tE_ hz hp1;have H7:=Lib.hid (H10d.out.below hz.az.bw);clear hz;obtain⟨v9,w9,hr9,hown',hgrow,_,hat⟩:=run_append_own_at (P:=Tryz.prog) (u7.alloc (.cells #[.int .i64 kc,.slice (some ⟨gc,0,none⟩) np c5] 79)) w.heap.size 56 56 79 i9 (.agg #[.int .i64 0,.slice none 0 0]) 2 32 Tryz.underlying56 hi1 hy0 hy1 hy2 rfl (by decide) (.slice ia ie.length ic) ie.length (inkV ie) (H7.out.al _).own ⟨u7.heap.size,0,none⟩ 1 1 [.int .i64 kc,.slice (some ⟨gc,0,none⟩) np c5] rfl (jK_ _ _ _ _) (by simp[Value.oneCell']) (by unfold maxLen;omega) (by omega) (H7.out.al _).az.bw.size;have HADD:=Lib.hid (aOX (X3:=X6) (W10:=W10.drew) (RX:=(w.heap.size+2,frC ⟨0,0,0,0,0⟩ (.slice none 0 0))::RC) (H7.out.sub (fun _ hx=>List.mem_cons_of_mem _ hx)) rfl (by intro z hz;rcases List.mem_cons.1 hz with rfl | hz;exact(by simp only;omega);exact HR.out.1 z hz) HNE.out ⟨by omega,HXR.out⟩ HO1.out HI7.out HNP.out hown' hgrow hat);obtain⟨g9,k9,rfl⟩:∃g c,v9=.slice (some ⟨g,0,none⟩) (ie.length+1) c:=tE_ ((H7.out.al _).grown hown' hgrow hat) (Nat.succ_pos _);have q0:=HADD.out.1.1;have q1:=HADD.out.1.2;clear hown' hgrow hat;rw[rQ_] at hr9;have u5':=H7.out.az.ce 1 5 rfl rfl;have u0':=H7.out.az.ce 0 0 rfl rfl;have u1':=H7.out.az.ce 0 1 rfl rfl;have s5':=(H7.out.al (.cells #[.int .i64 kc,.slice (some ⟨gc,0,none⟩) np c5] 79)).az.ce 1 5 rfl rfl)
   | fail)
  all_goals
   go_wp2
   refine⟨⟨k+1,some ⟨g9,0,none⟩,k9,ie++[((⟨kc,cl⟩:Ik),gc,c5)],by omega,by go_num,?_,?_,HADD.out.2.2⟩,by simp only[intOf];omega⟩
   ·have:=HADD.out.2.1
    rw[List.length_append] at this⊢
    exact this
   ·rw[List.map_append,HMP.out,HTK.out]
    rfl
end Go.Proofs.YtlikmmpmnaaifaaGreatDoor
