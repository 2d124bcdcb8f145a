/- - -/
import Derived.Test.YtlikmmpmnaaifaaGreatDoorZOpn8
import Derived.Test.YtlikmmpmnaaifaaGreatDoorZYj
set_option maxHeartbeats 40000000
set_option maxRecDepth 1000000
open Go.Lib (hid)
namespace Go.Proofs.YtlikmmpmnaaifaaGreatDoor
open Go.RowKit Go.Shelf Go.Sort
attribute [local go_sem] Oper.semAt_some
theorem oX_:(Tryz.prog.info? 63).map (fun i=>(i.zero,i.size,i.bytes))=some (some (.agg #[.int .i64 0,.int .i64 0,.int .i64 0,.int .i64 0,.int .i64 0,.int .i64 0,.int .i64 0,.int .i64 0,.int .i64 0,.int .i64 0,.string ⟨#[]⟩]),11,96):=by kernel_rfl
theorem iM_ (l:List Sh) (s:Sh):ssC (l++[s])=ssC l++shC s:=by unfold ssC;simp
theorem tG_ (W:World) (l:List Value) (e:TypeId):∀j u,l[j]?=some u→(W.alloc (.cells l.toArray e)).cell? ((⟨W.heap.size,0,none⟩:Addr).add j)=some u:=fun j u hj=>by
 have h:=(ArAt.mk' W l e).row j u hj
 rcases j with _|j <;> simpa[Addr.add] using h
def zL_ (ss:List Sh) (w:World) (e:Ending) (W':World):Prop:=∃a c,e=.returned (.slice a ss.length c)∧OsAt 63 11 (.slice a ss.length c) ss.length (ssC ss) [] w W'
theorem zV_ {a:Option Addr} {n c:Nat} {xs:List Q4} (only:Bool) (hl:xs.length=n) (w:World) (h:X4At a xs w) :
  Calls Tryz.prog 43 #[.slice a n c,.bool only] w (zL_ (shsK only xs (min n 5)) w):=by
 have hmx:Tryz.prog.follows .mixedOrders=true:=by kernel_rfl
 have HP:=hid h
 have HL:=hid hl
 obtain⟨i0,hi0,hz0,hz1,hz2⟩:=info_parts oX_
 have KK:=hid (fun(c:Int) (k:Nat) (h0:inI c) (h1:0<k) (h2:k≤4294967296) (W:World)=>gY_ c k h0.1 h0.2 h1 h2 W)
 clear h hl
 go_enter Tryz.func43,Tryz.ntmps43
 go_wp2
 go_loopw [5,6] (fun v5 v6 wr=>∃i:Nat,i≤n∧i≤5∧v6=.int .i64 (i:Int)∧OsAt 63 11 v5 i (ssC (shsK only xs i)) [] w wr) (fun _ v6 _=>5-(intOf v6).toNat)
 case atStart=>exact⟨0,Nat.zero_le _,Nat.zero_le _,rfl,OsAt.nil (AzAt.start w) _ _⟩
 case round=>
  obtain⟨i,hi,hi5,rfl,ho⟩:=hrel
  have HO:=hid ho
  clear ho
  by_cases hlt:i<n∧i<5
  case neg=>
   have HE:=hid (show i=(shsK only xs (min n 5)).length∧shsK only xs i=shsK only xs (min n 5) from by
    have e:i=min n 5:=by omega
    rw[e,xR_,HL.out]
    exact⟨by omega,rfl⟩)
   obtain⟨oa,oc,hoe,-⟩:=CsAt.own HO.out
   subst hoe
   have HQ:=hid (show zL_ (shsK only xs (min n 5)) w (.returned (.slice oa i oc)) wr from by
    refine⟨oa,oc,by rw[←HE.out.1],?_⟩
    have h:=HO.out
    rw[HE.out.2] at h
    rw[←HE.out.1]
    exact h)
   clear HE
   by_cases hn:i<n
   ·have h5:i=5:=by omega
    subst h5
    have hn':(5:Int)<(n:Int):=by omega
    go_wp2
    go_ret
    exact HQ.out
   ·have hn':i=n:=by omega
    subst hn'
    go_wp2
    go_ret
    exact HQ.out
  obtain⟨hlt,hl5⟩:=hlt
  obtain⟨q,hq⟩:∃q,xs[i]?=some q:=⟨xs[i]'(by rw[HL.out];exact hlt),List.getElem?_eq_getElem _⟩
  obtain⟨b,o,rfl,hbl,c0',c1',c2',c3'⟩:=HP.out.row i q hq
  have hlo:=HP.out.lo q (List.mem_of_getElem? hq)
  obtain⟨qa,qb,qc,qd⟩:=q
  simp only at c0' c1' c2' c3' hlo
  have HQ4:=hid (show shsK only xs (i+1)=shsK only xs i++[shN only ⟨qa,qb,qc,qd⟩ i] from aDK hq)
  have HBL:=hid (And.intro hbl (And.intro c0' (And.intro c1' (And.intro c2' c3'))))
  have HSN:=hid (show shN only ⟨qa,qb,qc,qd⟩ i=⟨10*(i:Int)+1+(aK_ qa 7:Nat),if only then 2 else 1+(aK_ qb 5:Nat),⟨100+(aK_ qa 50:Nat),100+(aK_ qb 50:Nat),(aK_ qc 40:Nat),(aK_ qd 40:Nat)⟩,⟨100+(aK_ qa 50:Nat),if aK_ qc 2==1 then 100+(aK_ qb 50:Nat) else 100+(aK_ qb 50:Nat)+(aK_ qd 40:Nat)⟩,⟨100+(aK_ qa 50:Nat)+(aK_ qc 40:Nat),if aK_ qc 2==1 then 100+(aK_ qb 50:Nat)+(aK_ qd 40:Nat) else 100+(aK_ qb 50:Nat)⟩,⟨#[]⟩⟩ from rfl)
  have K1:=hid (show ∀W:World,Calls Tryz.prog 103 #[.int .i64 qa,.int .i64 7] W fun e W'=>e=.returned (.int .i64 (aK_ qa 7:Nat))∧Below W.heap.size W W' from fun W=>KK.out qa 7 hlo.1 (by decide) (by decide) W)
  have K2:=hid (show ∀W:World,Calls Tryz.prog 103 #[.int .i64 qb,.int .i64 5] W fun e W'=>e=.returned (.int .i64 (aK_ qb 5:Nat))∧Below W.heap.size W W' from fun W=>KK.out qb 5 hlo.2.1 (by decide) (by decide) W)
  have K3:=hid (show ∀W:World,Calls Tryz.prog 103 #[.int .i64 qa,.int .i64 50] W fun e W'=>e=.returned (.int .i64 (aK_ qa 50:Nat))∧Below W.heap.size W W' from fun W=>KK.out qa 50 hlo.1 (by decide) (by decide) W)
  have K4:=hid (show ∀W:World,Calls Tryz.prog 103 #[.int .i64 qb,.int .i64 50] W fun e W'=>e=.returned (.int .i64 (aK_ qb 50:Nat))∧Below W.heap.size W W' from fun W=>KK.out qb 50 hlo.2.1 (by decide) (by decide) W)
  have K5:=hid (show ∀W:World,Calls Tryz.prog 103 #[.int .i64 qc,.int .i64 40] W fun e W'=>e=.returned (.int .i64 (aK_ qc 40:Nat))∧Below W.heap.size W W' from fun W=>KK.out qc 40 hlo.2.2.1 (by decide) (by decide) W)
  have K6:=hid (show ∀W:World,Calls Tryz.prog 103 #[.int .i64 qd,.int .i64 40] W fun e W'=>e=.returned (.int .i64 (aK_ qd 40:Nat))∧Below W.heap.size W W' from fun W=>KK.out qd 40 hlo.2.2.2 (by decide) (by decide) W)
  have K7:=hid (show ∀W:World,Calls Tryz.prog 103 #[.int .i64 qc,.int .i64 2] W fun e W'=>e=.returned (.int .i64 (aK_ qc 2:Nat))∧Below W.heap.size W W' from fun W=>KK.out qc 2 hlo.2.2.1 (by decide) (by decide) W)
  have hk1:=aJ_ qa (n:=7) (by decide)
  have hk2:=aJ_ qb (n:=5) (by decide)
  have hk3:=aJ_ qa (n:=50) (by decide)
  have hk4:=aJ_ qb (n:=50) (by decide)
  have hk5:=aJ_ qc (n:=40) (by decide)
  have hk6:=aJ_ qd (n:=40) (by decide)
  generalize aK_ qa 7=m1 at *
  generalize aK_ qb 5=m2 at *
  generalize aK_ qa 50=m3 at *
  generalize aK_ qb 50=m4 at *
  generalize aK_ qc 40=m5 at *
  generalize aK_ qd 40=m6 at *
  generalize aK_ qc 2=m7 at *
  clear c0' c1' c2' c3' hbl hlo hq
  have i1:(0:Int)≤(i:Int):=by omega
  have i2:(i:Int)<(n:Int):=by omega
  have i3:(i:Int)<5:=by omega
  have g1:IntKind.i64.wrap (10*(i:Int))=10*(i:Int):=IntWalk.i64_in _ (by omega)
  have g2:IntKind.i64.wrap (10*(i:Int)+1)=10*(i:Int)+1:=IntWalk.i64_in _ (by omega)
  have g3:IntKind.i64.wrap (10*(i:Int)+1+(m1:Int))=10*(i:Int)+1+(m1:Int):=IntWalk.i64_in _ (by omega)
  have g4:IntKind.i64.wrap (1+(m2:Int))=1+(m2:Int):=IntWalk.i64_in _ (by omega)
  go_upto_region 5 with fail
  refine bX_ (A:=?fr5) 18 7 [.int .i64 0,.int .i64 0,.int .i64 0,.int .i64 0,.int .i64 0,.int .i64 0,.int .i64 0,.int .i64 0,.int .i64 0,.int .i64 0,.string ⟨#[]⟩] 63 hmx (by kernel_rfl) ⟨_,rfl,rfl,rfl,fun b W=>?al1⟩ ?h ?ht
  case al1=>simp[go_sem]
  case h=>
   intro U hU
   have hp:=HO.out.below hU
   have z0:=cell_regrown ((hp.az.bw.cell (p:=⟨b,o+i*4,none⟩) HBL.out.1).trans HBL.out.2.1)
   have z1:=cell_regrown ((hp.az.bw.cell (p:=⟨b,o+i*4+1,none⟩) HBL.out.1).trans HBL.out.2.2.1)
   have cc1:=fun d os=>Calls.regrown_of (d:=d) (os:=os) (K1.out (grow (redrawn U d) os))
   have cc2:=fun d os=>Calls.regrown_of (d:=d) (os:=os) (K2.out (grow (redrawn U d) os))
   clear hp
   simp only[List.take_succ_cons,List.take_zero]
   repeat (go_big_quiet_step (with_reducible first|exact cc1 _ _|exact cc2 _ _))
   refine wpQuiet_nil ?_
   rfl
  case ht=>
   intro B W hW hB cB
   have hBw:w.heap.size≤B:=by have:=HO.out.az.bw.size;omega
   have H1:=hid ((HO.out.below hW).cons cB (by intro hk;have:=(bB_ HO.out.own B hk).1;omega))
   clear hW hB cB HO
   have j5:IntKind.i64.wrap (100+(m4:Int)+(m6:Int))=100+(m4:Int)+(m6:Int):=IntWalk.i64_in _ (by omega)
   have j6:IntKind.i64.wrap (100+(m3:Int)+(m5:Int))=100+(m3:Int)+(m5:Int):=IntWalk.i64_in _ (by omega)
   have j7:IntKind.i64.wrap (100+(m3:Int))=100+(m3:Int):=IntWalk.i64_in _ (by omega)
   have j8:IntKind.i64.wrap (100+(m4:Int))=100+(m4:Int):=IntWalk.i64_in _ (by omega)
   simp only[List.drop_succ_cons,List.drop_zero]
   have z0:=H1.out.az.ce 0 0 rfl rfl
   have z1:=H1.out.az.ce 0 1 rfl rfl
   have z2:=H1.out.az.ce 0 2 rfl rfl
   have z3:=H1.out.az.ce 0 3 rfl rfl
   have z4:=H1.out.az.ce 0 4 rfl rfl
   have z5:=H1.out.az.ce 0 5 rfl rfl
   have z6:=H1.out.az.ce 0 6 rfl rfl
   have z7:=H1.out.az.ce 0 7 rfl rfl
   have z8:=H1.out.az.ce 0 8 rfl rfl
   have z9:=H1.out.az.ce 0 9 rfl rfl
   have z10:=H1.out.az.ce 0 10 rfl rfl
   have y0:=H1.out.az.cf 0 0 rfl rfl
   have y1:=H1.out.az.cf 0 1 rfl rfl
   have y2:=H1.out.az.cf 0 2 rfl rfl
   have y3:=H1.out.az.cf 0 3 rfl rfl
   have y4:=H1.out.az.cf 0 4 rfl rfl
   have y5:=H1.out.az.cf 0 5 rfl rfl
   have y6:=H1.out.az.cf 0 6 rfl rfl
   have y7:=H1.out.az.cf 0 7 rfl rfl
   have y8:=H1.out.az.cf 0 8 rfl rfl
   have y9:=H1.out.az.cf 0 9 rfl rfl
   have y10:=H1.out.az.cf 0 10 rfl rfl
   go_upto_region 6 with fail
   have H2:=hid (show OsAt 63 11 u5 i (ssC (shsK only xs i)) [(B,[.int .i64 (10*(i:Int)+1+(m1:Int)),.int .i64 (1+(m2:Int)),.int .i64 0,.int .i64 0,.int .i64 0,.int .i64 0,.int .i64 0,.int .i64 0,.int .i64 0,.int .i64 0,.string ⟨#[]⟩])] w (((((((((((W.setCell ⟨B,0,none⟩ (.int .i64 (10*(i:Int)+1+(m1:Int)))).setCell ⟨B,1,none⟩ (.int .i64 (1+(m2:Int)))).setCell ⟨B,2,none⟩ (.int .i64 0)).setCell ⟨B,3,none⟩ (.int .i64 0)).setCell ⟨B,4,none⟩ (.int .i64 0)).setCell ⟨B,5,none⟩ (.int .i64 0)).setCell ⟨B,6,none⟩ (.int .i64 0)).setCell ⟨B,7,none⟩ (.int .i64 0)).setCell ⟨B,8,none⟩ (.int .i64 0)).setCell ⟨B,9,none⟩ (.int .i64 0)).setCell ⟨B,10,none⟩ (.string ⟨#[]⟩)) from(((((((((((H1.out.set hBw (fun _ hz=>by cases hz) (i:=0) rfl (.int .i64 (10*(i:Int)+1+(m1:Int)))).set hBw (fun _ hz=>by cases hz) (i:=1) rfl (.int .i64 (1+(m2:Int)))).set hBw (fun _ hz=>by cases hz) (i:=2) rfl (.int .i64 0)).set hBw (fun _ hz=>by cases hz) (i:=3) rfl (.int .i64 0)).set hBw (fun _ hz=>by cases hz) (i:=4) rfl (.int .i64 0)).set hBw (fun _ hz=>by cases hz) (i:=5) rfl (.int .i64 0)).set hBw (fun _ hz=>by cases hz) (i:=6) rfl (.int .i64 0)).set hBw (fun _ hz=>by cases hz) (i:=7) rfl (.int .i64 0)).set hBw (fun _ hz=>by cases hz) (i:=8) rfl (.int .i64 0)).set hBw (fun _ hz=>by cases hz) (i:=9) rfl (.int .i64 0)).set hBw (fun _ hz=>by cases hz) (i:=10) rfl (.string ⟨#[]⟩)))
   obtain⟨W2,hW2⟩:∃V,V=(((((((((((W.setCell ⟨B,0,none⟩ (.int .i64 (10*(i:Int)+1+(m1:Int)))).setCell ⟨B,1,none⟩ (.int .i64 (1+(m2:Int)))).setCell ⟨B,2,none⟩ (.int .i64 0)).setCell ⟨B,3,none⟩ (.int .i64 0)).setCell ⟨B,4,none⟩ (.int .i64 0)).setCell ⟨B,5,none⟩ (.int .i64 0)).setCell ⟨B,6,none⟩ (.int .i64 0)).setCell ⟨B,7,none⟩ (.int .i64 0)).setCell ⟨B,8,none⟩ (.int .i64 0)).setCell ⟨B,9,none⟩ (.int .i64 0)).setCell ⟨B,10,none⟩ (.string ⟨#[]⟩)):=⟨_,rfl⟩
   rw[←hW2] at H2⊢
   clear hW2 H1 z0 z1 z2 z3 z4 z5 z6 z7 z8 z9 z10 y0 y1 y2 y3 y4 y5 y6 y7 y8 y9 y10
   cases only
   ·go_upto_region 8 with fail
    refine cN_ (A:=?fr8a) 28 hmx (by kernel_rfl) ?h8a ?ht8a
    case h8a=>
     intro U hU
     have hp:=H2.out.below hU
     have z0:=cell_regrown ((hp.az.bw.cell (p:=⟨b,o+i*4,none⟩) HBL.out.1).trans HBL.out.2.1)
     have z1:=cell_regrown ((hp.az.bw.cell (p:=⟨b,o+i*4+1,none⟩) HBL.out.1).trans HBL.out.2.2.1)
     have z2:=cell_regrown ((hp.az.bw.cell (p:=⟨b,o+i*4+2,none⟩) HBL.out.1).trans HBL.out.2.2.2.1)
     have z3:=cell_regrown ((hp.az.bw.cell (p:=⟨b,o+i*4+3,none⟩) HBL.out.1).trans HBL.out.2.2.2.2)
     have cc3:=fun d os=>Calls.regrown_of (d:=d) (os:=os) (K3.out (grow (redrawn U d) os))
     have cc4:=fun d os=>Calls.regrown_of (d:=d) (os:=os) (K4.out (grow (redrawn U d) os))
     have cc5:=fun d os=>Calls.regrown_of (d:=d) (os:=os) (K5.out (grow (redrawn U d) os))
     have cc6:=fun d os=>Calls.regrown_of (d:=d) (os:=os) (K6.out (grow (redrawn U d) os))
     clear hp
     simp only[List.take_succ_cons,List.take_zero]
     repeat (go_big_quiet_step (with_reducible first|exact cc3 _ _|exact cc4 _ _|exact cc5 _ _|exact cc6 _ _))
     refine wpQuiet_nil ?_
     rfl
    case ht8a=>
     intro W7 hW7
     have H7:=hid (H2.out.below hW7)
     clear hW7 H2
     simp only[List.drop_succ_cons,List.drop_zero]
     have z2:=H7.out.az.ce 0 2 rfl rfl
     have z3:=H7.out.az.ce 0 3 rfl rfl
     have z4:=H7.out.az.ce 0 4 rfl rfl
     have z5:=H7.out.az.ce 0 5 rfl rfl
     have y2:=H7.out.az.cf 0 2 rfl rfl
     have y3:=H7.out.az.cf 0 3 rfl rfl
     have y4:=H7.out.az.cf 0 4 rfl rfl
     have y5:=H7.out.az.cf 0 5 rfl rfl
     go_upto_region 9 with fail
     have H8:=hid (show OsAt 63 11 u5 i (ssC (shsK false xs i)) [(B,[.int .i64 (10*(i:Int)+1+(m1:Int)),.int .i64 (1+(m2:Int)),.int .i64 (100+(m3:Int)),.int .i64 (100+(m4:Int)),.int .i64 (m5:Int),.int .i64 (m6:Int),.int .i64 0,.int .i64 0,.int .i64 0,.int .i64 0,.string ⟨#[]⟩])] w ((((W7.setCell ⟨B,2,none⟩ (.int .i64 (100+(m3:Int)))).setCell ⟨B,3,none⟩ (.int .i64 (100+(m4:Int)))).setCell ⟨B,4,none⟩ (.int .i64 (m5:Int))).setCell ⟨B,5,none⟩ (.int .i64 (m6:Int))) from((((H7.out.set hBw (fun _ hz=>by cases hz) (i:=2) rfl (.int .i64 (100+(m3:Int)))).set hBw (fun _ hz=>by cases hz) (i:=3) rfl (.int .i64 (100+(m4:Int)))).set hBw (fun _ hz=>by cases hz) (i:=4) rfl (.int .i64 (m5:Int))).set hBw (fun _ hz=>by cases hz) (i:=5) rfl (.int .i64 (m6:Int))))
     obtain⟨W8,hW8⟩:∃V,V=((((W7.setCell ⟨B,2,none⟩ (.int .i64 (100+(m3:Int)))).setCell ⟨B,3,none⟩ (.int .i64 (100+(m4:Int)))).setCell ⟨B,4,none⟩ (.int .i64 (m5:Int))).setCell ⟨B,5,none⟩ (.int .i64 (m6:Int))):=⟨_,rfl⟩
     rw[←hW8] at H8⊢
     clear hW8 H7 z2 z3 z4 z5 y2 y3 y4 y5
     have z2:=H8.out.az.ce 0 2 rfl rfl
     have z3:=H8.out.az.ce 0 3 rfl rfl
     have z5:=H8.out.az.ce 0 5 rfl rfl
     have z6:=H8.out.az.ce 0 6 rfl rfl
     have z7:=H8.out.az.ce 0 7 rfl rfl
     have y6:=H8.out.az.cf 0 6 rfl rfl
     have y7:=H8.out.az.cf 0 7 rfl rfl
     go_upto_region 10 with fail
     have H9:=hid (show OsAt 63 11 u5 i (ssC (shsK false xs i)) [(B,[.int .i64 (10*(i:Int)+1+(m1:Int)),.int .i64 (1+(m2:Int)),.int .i64 (100+(m3:Int)),.int .i64 (100+(m4:Int)),.int .i64 (m5:Int),.int .i64 (m6:Int),.int .i64 (100+(m3:Int)),.int .i64 (100+(m4:Int)+(m6:Int)),.int .i64 0,.int .i64 0,.string ⟨#[]⟩])] w ((W8.setCell ⟨B,6,none⟩ (.int .i64 (100+(m3:Int)))).setCell ⟨B,7,none⟩ (.int .i64 (100+(m4:Int)+(m6:Int)))) from((H8.out.set hBw (fun _ hz=>by cases hz) (i:=6) rfl (.int .i64 (100+(m3:Int)))).set hBw (fun _ hz=>by cases hz) (i:=7) rfl (.int .i64 (100+(m4:Int)+(m6:Int)))))
     obtain⟨W9,hW9⟩:∃V,V=((W8.setCell ⟨B,6,none⟩ (.int .i64 (100+(m3:Int)))).setCell ⟨B,7,none⟩ (.int .i64 (100+(m4:Int)+(m6:Int)))):=⟨_,rfl⟩
     rw[←hW9] at H9⊢
     clear hW9 H8 z2 z3 z5 z6 z7 y6 y7
     have z2:=H9.out.az.ce 0 2 rfl rfl
     have z3:=H9.out.az.ce 0 3 rfl rfl
     have z4:=H9.out.az.ce 0 4 rfl rfl
     have z8:=H9.out.az.ce 0 8 rfl rfl
     have z9:=H9.out.az.ce 0 9 rfl rfl
     have y8:=H9.out.az.cf 0 8 rfl rfl
     have y9:=H9.out.az.cf 0 9 rfl rfl
     go_upto_region 11 with fail
     have H10:=hid (show OsAt 63 11 u5 i (ssC (shsK false xs i)) [(B,[.int .i64 (10*(i:Int)+1+(m1:Int)),.int .i64 (1+(m2:Int)),.int .i64 (100+(m3:Int)),.int .i64 (100+(m4:Int)),.int .i64 (m5:Int),.int .i64 (m6:Int),.int .i64 (100+(m3:Int)),.int .i64 (100+(m4:Int)+(m6:Int)),.int .i64 (100+(m3:Int)+(m5:Int)),.int .i64 (100+(m4:Int)),.string ⟨#[]⟩])] w ((W9.setCell ⟨B,8,none⟩ (.int .i64 (100+(m3:Int)+(m5:Int)))).setCell ⟨B,9,none⟩ (.int .i64 (100+(m4:Int)))) from((H9.out.set hBw (fun _ hz=>by cases hz) (i:=8) rfl (.int .i64 (100+(m3:Int)+(m5:Int)))).set hBw (fun _ hz=>by cases hz) (i:=9) rfl (.int .i64 (100+(m4:Int)))))
     obtain⟨W10,hW10⟩:∃V,V=((W9.setCell ⟨B,8,none⟩ (.int .i64 (100+(m3:Int)+(m5:Int)))).setCell ⟨B,9,none⟩ (.int .i64 (100+(m4:Int)))):=⟨_,rfl⟩
     rw[←hW10] at H10⊢
     clear hW10 H9 z2 z3 z4 z8 z9 y8 y9
     have z0:W10.heap.size=W10.heap.size:=rfl
     clear z0
     have z1:=(H10.out.az.bw.cell (p:=⟨b,o+i*4+2,none⟩) HBL.out.1).trans HBL.out.2.2.2.1
     obtain⟨up,hm7⟩:∃up,(m7==1)=up:=⟨_,rfl⟩
     cases up
     ·have e7:((m7:Int)==1)=false:=by rw[beq_eq_false_iff_ne] at hm7⊢;omega
      go_upto_region 14 with (go_at_call 103;(with_reducible refine(K7.out _).mono ?_);rintro e u11 ⟨rfl,hb⟩;have H11:=hid (H10.out.below hb);clear hb H10 z1)
      have z0:=H11.out.az.ce 0 0 rfl rfl
      have z1:=H11.out.az.ce 0 1 rfl rfl
      have z2:=H11.out.az.ce 0 2 rfl rfl
      have z3:=H11.out.az.ce 0 3 rfl rfl
      have z4:=H11.out.az.ce 0 4 rfl rfl
      have z5:=H11.out.az.ce 0 5 rfl rfl
      have z6:=H11.out.az.ce 0 6 rfl rfl
      have z7:=H11.out.az.ce 0 7 rfl rfl
      have z8:=H11.out.az.ce 0 8 rfl rfl
      have z9:=H11.out.az.ce 0 9 rfl rfl
      have z10:=H11.out.az.ce 0 10 rfl rfl
      have HN:=hid (show[.int .i64 (10*(i:Int)+1+(m1:Int)),.int .i64 (1+(m2:Int)),.int .i64 (100+(m3:Int)),.int .i64 (100+(m4:Int)),.int .i64 (m5:Int),.int .i64 (m6:Int),.int .i64 (100+(m3:Int)),.int .i64 (100+(m4:Int)+(m6:Int)),.int .i64 (100+(m3:Int)+(m5:Int)),.int .i64 (100+(m4:Int)),.string ⟨#[]⟩]=shC (shN false ⟨qa,qb,qc,qd⟩ i) from by rw[HSN.out,hm7];rfl)
      go_wp2_with (at_builtin;refine wpList_append_own_at _ rfl _ _ 64 rfl w.heap.size 63 i0 (.agg #[.int .i64 0,.int .i64 0,.int .i64 0,.int .i64 0,.int .i64 0,.int .i64 0,.int .i64 0,.int .i64 0,.int .i64 0,.int .i64 0,.string ⟨#[]⟩]) 11 96 Tryz.underlying64 hi0 hz0 hz1 hz2 rfl (by decide) u5 i (ssC (shsK false xs i)) rfl (H11.out.al _).own ⟨u11.heap.size,0,none⟩ 1 1 [.int .i64 (10*(i:Int)+1+(m1:Int)),.int .i64 (1+(m2:Int)),.int .i64 (100+(m3:Int)),.int .i64 (100+(m4:Int)),.int .i64 (m5:Int),.int .i64 (m6:Int),.int .i64 (100+(m3:Int)),.int .i64 (100+(m4:Int)+(m6:Int)),.int .i64 (100+(m3:Int)+(m5:Int)),.int .i64 (100+(m4:Int)),.string ⟨#[]⟩] rfl rfl (tG_ _ _ _) (by simp[Value.oneCell']) (by unfold maxLen;omega) (by omega) (H11.out.al _).az.bw.size ?_;intro v9 w9 hown' hgrow _ hat;have HJ:=hid ((H11.out.al _).grown hown' hgrow hat);clear hown' hgrow hat)
      exact⟨⟨i+1,by omega,by omega,by go_num,by rw[HQ4.out,iM_,←HN.out];exact HJ.out.sub (by simp)⟩,by simp only[intOf];omega⟩
     ·have e7:((m7:Int)==1)=true:=by rw[beq_iff_eq] at hm7⊢;omega
      go_upto_region 12 with (go_at_call 103;(with_reducible refine(K7.out _).mono ?_);rintro e u11 ⟨rfl,hb⟩;have H11:=hid (H10.out.below hb);clear hb H10 z1)
      have z3:=H11.out.az.ce 0 3 rfl rfl
      have z7:=H11.out.az.ce 0 7 rfl rfl
      have y7:=H11.out.az.cf 0 7 rfl rfl
      go_upto_region 13 with fail
      have H12:=hid (show OsAt 63 11 u5 i (ssC (shsK false xs i)) [(B,[.int .i64 (10*(i:Int)+1+(m1:Int)),.int .i64 (1+(m2:Int)),.int .i64 (100+(m3:Int)),.int .i64 (100+(m4:Int)),.int .i64 (m5:Int),.int .i64 (m6:Int),.int .i64 (100+(m3:Int)),.int .i64 (100+(m4:Int)),.int .i64 (100+(m3:Int)+(m5:Int)),.int .i64 (100+(m4:Int)),.string ⟨#[]⟩])] w (u11.setCell ⟨B,7,none⟩ (.int .i64 (100+(m4:Int)))) from(H11.out.set hBw (fun _ hz=>by cases hz) (i:=7) rfl (.int .i64 (100+(m4:Int)))))
      obtain⟨W12,hW12⟩:∃V,V=(u11.setCell ⟨B,7,none⟩ (.int .i64 (100+(m4:Int)))):=⟨_,rfl⟩
      rw[←hW12] at H12⊢
      clear hW12 H11 z3 z7 y7
      have z3:=H12.out.az.ce 0 3 rfl rfl
      have z5:=H12.out.az.ce 0 5 rfl rfl
      have z9:=H12.out.az.ce 0 9 rfl rfl
      have y9:=H12.out.az.cf 0 9 rfl rfl
      go_upto_region 14 with fail
      have H13:=hid (show OsAt 63 11 u5 i (ssC (shsK false xs i)) [(B,[.int .i64 (10*(i:Int)+1+(m1:Int)),.int .i64 (1+(m2:Int)),.int .i64 (100+(m3:Int)),.int .i64 (100+(m4:Int)),.int .i64 (m5:Int),.int .i64 (m6:Int),.int .i64 (100+(m3:Int)),.int .i64 (100+(m4:Int)),.int .i64 (100+(m3:Int)+(m5:Int)),.int .i64 (100+(m4:Int)+(m6:Int)),.string ⟨#[]⟩])] w (W12.setCell ⟨B,9,none⟩ (.int .i64 (100+(m4:Int)+(m6:Int)))) from(H12.out.set hBw (fun _ hz=>by cases hz) (i:=9) rfl (.int .i64 (100+(m4:Int)+(m6:Int)))))
      obtain⟨W13,hW13⟩:∃V,V=(W12.setCell ⟨B,9,none⟩ (.int .i64 (100+(m4:Int)+(m6:Int)))):=⟨_,rfl⟩
      rw[←hW13] at H13⊢
      clear hW13 H12 z3 z5 z9 y9
      have z0:=H13.out.az.ce 0 0 rfl rfl
      have z1:=H13.out.az.ce 0 1 rfl rfl
      have z2:=H13.out.az.ce 0 2 rfl rfl
      have z3:=H13.out.az.ce 0 3 rfl rfl
      have z4:=H13.out.az.ce 0 4 rfl rfl
      have z5:=H13.out.az.ce 0 5 rfl rfl
      have z6:=H13.out.az.ce 0 6 rfl rfl
      have z7:=H13.out.az.ce 0 7 rfl rfl
      have z8:=H13.out.az.ce 0 8 rfl rfl
      have z9:=H13.out.az.ce 0 9 rfl rfl
      have z10:=H13.out.az.ce 0 10 rfl rfl
      have HN:=hid (show[.int .i64 (10*(i:Int)+1+(m1:Int)),.int .i64 (1+(m2:Int)),.int .i64 (100+(m3:Int)),.int .i64 (100+(m4:Int)),.int .i64 (m5:Int),.int .i64 (m6:Int),.int .i64 (100+(m3:Int)),.int .i64 (100+(m4:Int)),.int .i64 (100+(m3:Int)+(m5:Int)),.int .i64 (100+(m4:Int)+(m6:Int)),.string ⟨#[]⟩]=shC (shN false ⟨qa,qb,qc,qd⟩ i) from by rw[HSN.out,hm7];rfl)
      go_wp2_with (at_builtin;refine wpList_append_own_at _ rfl _ _ 64 rfl w.heap.size 63 i0 (.agg #[.int .i64 0,.int .i64 0,.int .i64 0,.int .i64 0,.int .i64 0,.int .i64 0,.int .i64 0,.int .i64 0,.int .i64 0,.int .i64 0,.string ⟨#[]⟩]) 11 96 Tryz.underlying64 hi0 hz0 hz1 hz2 rfl (by decide) u5 i (ssC (shsK false xs i)) rfl (H13.out.al _).own ⟨W13.heap.size,0,none⟩ 1 1 [.int .i64 (10*(i:Int)+1+(m1:Int)),.int .i64 (1+(m2:Int)),.int .i64 (100+(m3:Int)),.int .i64 (100+(m4:Int)),.int .i64 (m5:Int),.int .i64 (m6:Int),.int .i64 (100+(m3:Int)),.int .i64 (100+(m4:Int)),.int .i64 (100+(m3:Int)+(m5:Int)),.int .i64 (100+(m4:Int)+(m6:Int)),.string ⟨#[]⟩] rfl rfl (tG_ _ _ _) (by simp[Value.oneCell']) (by unfold maxLen;omega) (by omega) (H13.out.al _).az.bw.size ?_;intro v9 w9 hown' hgrow _ hat;have HJ:=hid ((H13.out.al _).grown hown' hgrow hat);clear hown' hgrow hat)
      exact⟨⟨i+1,by omega,by omega,by go_num,by rw[HQ4.out,iM_,←HN.out];exact HJ.out.sub (by simp)⟩,by simp only[intOf];omega⟩
   ·have z1:=H2.out.az.ce 0 1 rfl rfl
    have y1:=H2.out.az.cf 0 1 rfl rfl
    go_upto_region 8 with fail
    have H3:=hid (show OsAt 63 11 u5 i (ssC (shsK true xs i)) [(B,[.int .i64 (10*(i:Int)+1+(m1:Int)),.int .i64 2,.int .i64 0,.int .i64 0,.int .i64 0,.int .i64 0,.int .i64 0,.int .i64 0,.int .i64 0,.int .i64 0,.string ⟨#[]⟩])] w (W2.setCell ⟨B,1,none⟩ (.int .i64 2)) from(H2.out.set hBw (fun _ hz=>by cases hz) (i:=1) rfl (.int .i64 2)))
    obtain⟨W3,hW3⟩:∃V,V=(W2.setCell ⟨B,1,none⟩ (.int .i64 2)):=⟨_,rfl⟩
    rw[←hW3] at H3⊢
    clear hW3 H2 z1 y1
    refine cN_ (A:=?fr8b) 28 hmx (by kernel_rfl) ?h8b ?ht8b
    case h8b=>
     intro U hU
     have hp:=H3.out.below hU
     have z0:=cell_regrown ((hp.az.bw.cell (p:=⟨b,o+i*4,none⟩) HBL.out.1).trans HBL.out.2.1)
     have z1:=cell_regrown ((hp.az.bw.cell (p:=⟨b,o+i*4+1,none⟩) HBL.out.1).trans HBL.out.2.2.1)
     have z2:=cell_regrown ((hp.az.bw.cell (p:=⟨b,o+i*4+2,none⟩) HBL.out.1).trans HBL.out.2.2.2.1)
     have z3:=cell_regrown ((hp.az.bw.cell (p:=⟨b,o+i*4+3,none⟩) HBL.out.1).trans HBL.out.2.2.2.2)
     have cc3:=fun d os=>Calls.regrown_of (d:=d) (os:=os) (K3.out (grow (redrawn U d) os))
     have cc4:=fun d os=>Calls.regrown_of (d:=d) (os:=os) (K4.out (grow (redrawn U d) os))
     have cc5:=fun d os=>Calls.regrown_of (d:=d) (os:=os) (K5.out (grow (redrawn U d) os))
     have cc6:=fun d os=>Calls.regrown_of (d:=d) (os:=os) (K6.out (grow (redrawn U d) os))
     clear hp
     simp only[List.take_succ_cons,List.take_zero]
     repeat (go_big_quiet_step (with_reducible first|exact cc3 _ _|exact cc4 _ _|exact cc5 _ _|exact cc6 _ _))
     refine wpQuiet_nil ?_
     rfl
    case ht8b=>
     intro W7 hW7
     have H7:=hid (H3.out.below hW7)
     clear hW7 H3
     simp only[List.drop_succ_cons,List.drop_zero]
     have z2:=H7.out.az.ce 0 2 rfl rfl
     have z3:=H7.out.az.ce 0 3 rfl rfl
     have z4:=H7.out.az.ce 0 4 rfl rfl
     have z5:=H7.out.az.ce 0 5 rfl rfl
     have y2:=H7.out.az.cf 0 2 rfl rfl
     have y3:=H7.out.az.cf 0 3 rfl rfl
     have y4:=H7.out.az.cf 0 4 rfl rfl
     have y5:=H7.out.az.cf 0 5 rfl rfl
     go_upto_region 9 with fail
     have H8:=hid (show OsAt 63 11 u5 i (ssC (shsK true xs i)) [(B,[.int .i64 (10*(i:Int)+1+(m1:Int)),.int .i64 2,.int .i64 (100+(m3:Int)),.int .i64 (100+(m4:Int)),.int .i64 (m5:Int),.int .i64 (m6:Int),.int .i64 0,.int .i64 0,.int .i64 0,.int .i64 0,.string ⟨#[]⟩])] w ((((W7.setCell ⟨B,2,none⟩ (.int .i64 (100+(m3:Int)))).setCell ⟨B,3,none⟩ (.int .i64 (100+(m4:Int)))).setCell ⟨B,4,none⟩ (.int .i64 (m5:Int))).setCell ⟨B,5,none⟩ (.int .i64 (m6:Int))) from((((H7.out.set hBw (fun _ hz=>by cases hz) (i:=2) rfl (.int .i64 (100+(m3:Int)))).set hBw (fun _ hz=>by cases hz) (i:=3) rfl (.int .i64 (100+(m4:Int)))).set hBw (fun _ hz=>by cases hz) (i:=4) rfl (.int .i64 (m5:Int))).set hBw (fun _ hz=>by cases hz) (i:=5) rfl (.int .i64 (m6:Int))))
     obtain⟨W8,hW8⟩:∃V,V=((((W7.setCell ⟨B,2,none⟩ (.int .i64 (100+(m3:Int)))).setCell ⟨B,3,none⟩ (.int .i64 (100+(m4:Int)))).setCell ⟨B,4,none⟩ (.int .i64 (m5:Int))).setCell ⟨B,5,none⟩ (.int .i64 (m6:Int))):=⟨_,rfl⟩
     rw[←hW8] at H8⊢
     clear hW8 H7 z2 z3 z4 z5 y2 y3 y4 y5
     have z2:=H8.out.az.ce 0 2 rfl rfl
     have z3:=H8.out.az.ce 0 3 rfl rfl
     have z5:=H8.out.az.ce 0 5 rfl rfl
     have z6:=H8.out.az.ce 0 6 rfl rfl
     have z7:=H8.out.az.ce 0 7 rfl rfl
     have y6:=H8.out.az.cf 0 6 rfl rfl
     have y7:=H8.out.az.cf 0 7 rfl rfl
     go_upto_region 10 with fail
     have H9:=hid (show OsAt 63 11 u5 i (ssC (shsK true xs i)) [(B,[.int .i64 (10*(i:Int)+1+(m1:Int)),.int .i64 2,.int .i64 (100+(m3:Int)),.int .i64 (100+(m4:Int)),.int .i64 (m5:Int),.int .i64 (m6:Int),.int .i64 (100+(m3:Int)),.int .i64 (100+(m4:Int)+(m6:Int)),.int .i64 0,.int .i64 0,.string ⟨#[]⟩])] w ((W8.setCell ⟨B,6,none⟩ (.int .i64 (100+(m3:Int)))).setCell ⟨B,7,none⟩ (.int .i64 (100+(m4:Int)+(m6:Int)))) from((H8.out.set hBw (fun _ hz=>by cases hz) (i:=6) rfl (.int .i64 (100+(m3:Int)))).set hBw (fun _ hz=>by cases hz) (i:=7) rfl (.int .i64 (100+(m4:Int)+(m6:Int)))))
     obtain⟨W9,hW9⟩:∃V,V=((W8.setCell ⟨B,6,none⟩ (.int .i64 (100+(m3:Int)))).setCell ⟨B,7,none⟩ (.int .i64 (100+(m4:Int)+(m6:Int)))):=⟨_,rfl⟩
     rw[←hW9] at H9⊢
     clear hW9 H8 z2 z3 z5 z6 z7 y6 y7
     have z2:=H9.out.az.ce 0 2 rfl rfl
     have z3:=H9.out.az.ce 0 3 rfl rfl
     have z4:=H9.out.az.ce 0 4 rfl rfl
     have z8:=H9.out.az.ce 0 8 rfl rfl
     have z9:=H9.out.az.ce 0 9 rfl rfl
     have y8:=H9.out.az.cf 0 8 rfl rfl
     have y9:=H9.out.az.cf 0 9 rfl rfl
     go_upto_region 11 with fail
     have H10:=hid (show OsAt 63 11 u5 i (ssC (shsK true xs i)) [(B,[.int .i64 (10*(i:Int)+1+(m1:Int)),.int .i64 2,.int .i64 (100+(m3:Int)),.int .i64 (100+(m4:Int)),.int .i64 (m5:Int),.int .i64 (m6:Int),.int .i64 (100+(m3:Int)),.int .i64 (100+(m4:Int)+(m6:Int)),.int .i64 (100+(m3:Int)+(m5:Int)),.int .i64 (100+(m4:Int)),.string ⟨#[]⟩])] w ((W9.setCell ⟨B,8,none⟩ (.int .i64 (100+(m3:Int)+(m5:Int)))).setCell ⟨B,9,none⟩ (.int .i64 (100+(m4:Int)))) from((H9.out.set hBw (fun _ hz=>by cases hz) (i:=8) rfl (.int .i64 (100+(m3:Int)+(m5:Int)))).set hBw (fun _ hz=>by cases hz) (i:=9) rfl (.int .i64 (100+(m4:Int)))))
     obtain⟨W10,hW10⟩:∃V,V=((W9.setCell ⟨B,8,none⟩ (.int .i64 (100+(m3:Int)+(m5:Int)))).setCell ⟨B,9,none⟩ (.int .i64 (100+(m4:Int)))):=⟨_,rfl⟩
     rw[←hW10] at H10⊢
     clear hW10 H9 z2 z3 z4 z8 z9 y8 y9
     have z0:W10.heap.size=W10.heap.size:=rfl
     clear z0
     have z1:=(H10.out.az.bw.cell (p:=⟨b,o+i*4+2,none⟩) HBL.out.1).trans HBL.out.2.2.2.1
     obtain⟨up,hm7⟩:∃up,(m7==1)=up:=⟨_,rfl⟩
     cases up
     ·have e7:((m7:Int)==1)=false:=by rw[beq_eq_false_iff_ne] at hm7⊢;omega
      go_upto_region 14 with (go_at_call 103;(with_reducible refine(K7.out _).mono ?_);rintro e u11 ⟨rfl,hb⟩;have H11:=hid (H10.out.below hb);clear hb H10 z1)
      have z0:=H11.out.az.ce 0 0 rfl rfl
      have z1:=H11.out.az.ce 0 1 rfl rfl
      have z2:=H11.out.az.ce 0 2 rfl rfl
      have z3:=H11.out.az.ce 0 3 rfl rfl
      have z4:=H11.out.az.ce 0 4 rfl rfl
      have z5:=H11.out.az.ce 0 5 rfl rfl
      have z6:=H11.out.az.ce 0 6 rfl rfl
      have z7:=H11.out.az.ce 0 7 rfl rfl
      have z8:=H11.out.az.ce 0 8 rfl rfl
      have z9:=H11.out.az.ce 0 9 rfl rfl
      have z10:=H11.out.az.ce 0 10 rfl rfl
      have HN:=hid (show[.int .i64 (10*(i:Int)+1+(m1:Int)),.int .i64 2,.int .i64 (100+(m3:Int)),.int .i64 (100+(m4:Int)),.int .i64 (m5:Int),.int .i64 (m6:Int),.int .i64 (100+(m3:Int)),.int .i64 (100+(m4:Int)+(m6:Int)),.int .i64 (100+(m3:Int)+(m5:Int)),.int .i64 (100+(m4:Int)),.string ⟨#[]⟩]=shC (shN true ⟨qa,qb,qc,qd⟩ i) from by rw[HSN.out,hm7];rfl)
      go_wp2_with (at_builtin;refine wpList_append_own_at _ rfl _ _ 64 rfl w.heap.size 63 i0 (.agg #[.int .i64 0,.int .i64 0,.int .i64 0,.int .i64 0,.int .i64 0,.int .i64 0,.int .i64 0,.int .i64 0,.int .i64 0,.int .i64 0,.string ⟨#[]⟩]) 11 96 Tryz.underlying64 hi0 hz0 hz1 hz2 rfl (by decide) u5 i (ssC (shsK true xs i)) rfl (H11.out.al _).own ⟨u11.heap.size,0,none⟩ 1 1 [.int .i64 (10*(i:Int)+1+(m1:Int)),.int .i64 2,.int .i64 (100+(m3:Int)),.int .i64 (100+(m4:Int)),.int .i64 (m5:Int),.int .i64 (m6:Int),.int .i64 (100+(m3:Int)),.int .i64 (100+(m4:Int)+(m6:Int)),.int .i64 (100+(m3:Int)+(m5:Int)),.int .i64 (100+(m4:Int)),.string ⟨#[]⟩] rfl rfl (tG_ _ _ _) (by simp[Value.oneCell']) (by unfold maxLen;omega) (by omega) (H11.out.al _).az.bw.size ?_;intro v9 w9 hown' hgrow _ hat;have HJ:=hid ((H11.out.al _).grown hown' hgrow hat);clear hown' hgrow hat)
      exact⟨⟨i+1,by omega,by omega,by go_num,by rw[HQ4.out,iM_,←HN.out];exact HJ.out.sub (by simp)⟩,by simp only[intOf];omega⟩
     ·have e7:((m7:Int)==1)=true:=by rw[beq_iff_eq] at hm7⊢;omega
      go_upto_region 12 with (go_at_call 103;(with_reducible refine(K7.out _).mono ?_);rintro e u11 ⟨rfl,hb⟩;have H11:=hid (H10.out.below hb);clear hb H10 z1)
      have z3:=H11.out.az.ce 0 3 rfl rfl
      have z7:=H11.out.az.ce 0 7 rfl rfl
      have y7:=H11.out.az.cf 0 7 rfl rfl
      go_upto_region 13 with fail
      have H12:=hid (show OsAt 63 11 u5 i (ssC (shsK true xs i)) [(B,[.int .i64 (10*(i:Int)+1+(m1:Int)),.int .i64 2,.int .i64 (100+(m3:Int)),.int .i64 (100+(m4:Int)),.int .i64 (m5:Int),.int .i64 (m6:Int),.int .i64 (100+(m3:Int)),.int .i64 (100+(m4:Int)),.int .i64 (100+(m3:Int)+(m5:Int)),.int .i64 (100+(m4:Int)),.string ⟨#[]⟩])] w (u11.setCell ⟨B,7,none⟩ (.int .i64 (100+(m4:Int)))) from(H11.out.set hBw (fun _ hz=>by cases hz) (i:=7) rfl (.int .i64 (100+(m4:Int)))))
      obtain⟨W12,hW12⟩:∃V,V=(u11.setCell ⟨B,7,none⟩ (.int .i64 (100+(m4:Int)))):=⟨_,rfl⟩
      rw[←hW12] at H12⊢
      clear hW12 H11 z3 z7 y7
      have z3:=H12.out.az.ce 0 3 rfl rfl
      have z5:=H12.out.az.ce 0 5 rfl rfl
      have z9:=H12.out.az.ce 0 9 rfl rfl
      have y9:=H12.out.az.cf 0 9 rfl rfl
      go_upto_region 14 with fail
      have H13:=hid (show OsAt 63 11 u5 i (ssC (shsK true xs i)) [(B,[.int .i64 (10*(i:Int)+1+(m1:Int)),.int .i64 2,.int .i64 (100+(m3:Int)),.int .i64 (100+(m4:Int)),.int .i64 (m5:Int),.int .i64 (m6:Int),.int .i64 (100+(m3:Int)),.int .i64 (100+(m4:Int)),.int .i64 (100+(m3:Int)+(m5:Int)),.int .i64 (100+(m4:Int)+(m6:Int)),.string ⟨#[]⟩])] w (W12.setCell ⟨B,9,none⟩ (.int .i64 (100+(m4:Int)+(m6:Int)))) from(H12.out.set hBw (fun _ hz=>by cases hz) (i:=9) rfl (.int .i64 (100+(m4:Int)+(m6:Int)))))
      obtain⟨W13,hW13⟩:∃V,V=(W12.setCell ⟨B,9,none⟩ (.int .i64 (100+(m4:Int)+(m6:Int)))):=⟨_,rfl⟩
      rw[←hW13] at H13⊢
      clear hW13 H12 z3 z5 z9 y9
      have z0:=H13.out.az.ce 0 0 rfl rfl
      have z1:=H13.out.az.ce 0 1 rfl rfl
      have z2:=H13.out.az.ce 0 2 rfl rfl
      have z3:=H13.out.az.ce 0 3 rfl rfl
      have z4:=H13.out.az.ce 0 4 rfl rfl
      have z5:=H13.out.az.ce 0 5 rfl rfl
      have z6:=H13.out.az.ce 0 6 rfl rfl
      have z7:=H13.out.az.ce 0 7 rfl rfl
      have z8:=H13.out.az.ce 0 8 rfl rfl
      have z9:=H13.out.az.ce 0 9 rfl rfl
      have z10:=H13.out.az.ce 0 10 rfl rfl
      have HN:=hid (show[.int .i64 (10*(i:Int)+1+(m1:Int)),.int .i64 2,.int .i64 (100+(m3:Int)),.int .i64 (100+(m4:Int)),.int .i64 (m5:Int),.int .i64 (m6:Int),.int .i64 (100+(m3:Int)),.int .i64 (100+(m4:Int)),.int .i64 (100+(m3:Int)+(m5:Int)),.int .i64 (100+(m4:Int)+(m6:Int)),.string ⟨#[]⟩]=shC (shN true ⟨qa,qb,qc,qd⟩ i) from by rw[HSN.out,hm7];rfl)
      go_wp2_with (at_builtin;refine wpList_append_own_at _ rfl _ _ 64 rfl w.heap.size 63 i0 (.agg #[.int .i64 0,.int .i64 0,.int .i64 0,.int .i64 0,.int .i64 0,.int .i64 0,.int .i64 0,.int .i64 0,.int .i64 0,.int .i64 0,.string ⟨#[]⟩]) 11 96 Tryz.underlying64 hi0 hz0 hz1 hz2 rfl (by decide) u5 i (ssC (shsK true xs i)) rfl (H13.out.al _).own ⟨W13.heap.size,0,none⟩ 1 1 [.int .i64 (10*(i:Int)+1+(m1:Int)),.int .i64 2,.int .i64 (100+(m3:Int)),.int .i64 (100+(m4:Int)),.int .i64 (m5:Int),.int .i64 (m6:Int),.int .i64 (100+(m3:Int)),.int .i64 (100+(m4:Int)),.int .i64 (100+(m3:Int)+(m5:Int)),.int .i64 (100+(m4:Int)+(m6:Int)),.string ⟨#[]⟩] rfl rfl (tG_ _ _ _) (by simp[Value.oneCell']) (by unfold maxLen;omega) (by omega) (H13.out.al _).az.bw.size ?_;intro v9 w9 hown' hgrow _ hat;have HJ:=hid ((H13.out.al _).grown hown' hgrow hat);clear hown' hgrow hat)
      exact⟨⟨i+1,by omega,by omega,by go_num,by rw[HQ4.out,iM_,←HN.out];exact HJ.out.sub (by simp)⟩,by simp only[intOf];omega⟩
end Go.Proofs.YtlikmmpmnaaifaaGreatDoor
namespace Go.Proofs.YtlikmmpmnaaifaaGreatDoor
open Go.RowKit Go.Shelf Go.Sort
theorem OsAt.shs {e:TypeId} {a:Option Addr} {n c:Nat} {ss:List Sh} {R:List (Nat×List Value)} {w W:World} (h:OsAt e 11 (.slice a n c) n (ssC ss) R w W):ShsAt a ss W:=by
 obtain⟨a',c',e,h2⟩:=CsAt.own h
 injection e with e1 _ _
 subst e1
 exact ShsAt.of h2
theorem zL_.parts {ss:List Sh} {w W':World} {e:Ending} (h:zL_ ss w e W'):∃a c,e=.returned (.slice a ss.length c)∧ShsAt a ss W'∧Below w.heap.size w W':=by
 obtain⟨a,c,h1,h2⟩:=h
 exact⟨a,c,h1,h2.shs,h2.az.bw⟩
def fV_ (B:Nat) (a:Option Addr) (ss:List Sh) (W:World):Prop:=∀V:World,W.heap.size≤V.heap.size→(∀b,B≤b→b<W.heap.size→V.heap[b]?=W.heap[b]?)→ShsAt a ss V
theorem fV_.at {B:Nat} {a:Option Addr} {ss:List Sh} {W:World} (h:fV_ B a ss W):ShsAt a ss W:=h W (Nat.le_refl _) fun _ _ _=>rfl
theorem fV_.below {B:Nat} {a:Option Addr} {ss:List Sh} {W W':World} (h:fV_ B a ss W) (hb:Below W.heap.size W W'):fV_ B a ss W':=fun V hs hv=>h V (Nat.le_trans hb.size hs) fun b h1 h2=>(hv b h1 (Nat.lt_of_lt_of_le h2 hb.size)).trans (hb.block b h2)
theorem fV_.set {B X i:Nat} {v:Value} {a:Option Addr} {ss:List Sh} {W:World} (h:fV_ B a ss W) (hX:X<B):fV_ B a ss (W.setCell ⟨X,i,none⟩ v):=fun V hs hv=>h V (by rw[World.size_setCell] at hs;exact hs) fun b h1 h2=>(hv b h1 (by rw[World.size_setCell];exact h2)).trans (heap_setCell_other _ _ _ _ (by show b≠X;omega))
theorem OsAt.shsFrom {e:TypeId} {a:Option Addr} {n c:Nat} {ss:List Sh} {R:List (Nat×List Value)} {w W:World} (h:OsAt e 11 (.slice a n c) n (ssC ss) R w W):fV_ w.heap.size a ss W:=fun V hs hv=>⟨fun k s hk=>by
 obtain⟨b,o,rfl,h1,h2⟩:=h.shs.row k s hk
 rcases h.form with ⟨e,_⟩|⟨g,c',e,hg1,hg2⟩
 ·cases e
 ·injection e with e _ _
  injection e with e
  injection e with e1 e2
  subst e1 e2
  exact⟨b,0,rfl,Nat.lt_of_lt_of_le h1 hs,fun j v hj=>(World.cell?_of_block (w:=W) (hv b hg1 hg2)).trans (h2 j v hj)⟩⟩
theorem ShsAt.two {a:Option Addr} {ss:List Sh} {W:World} (h:ShsAt a ss W) {i k:Nat} {s t:Sh} (hs:ss[i]?=some s) (ht:ss[k]?=some t):∃b o:Nat,a=some ⟨b,o,none⟩∧b<W.heap.size∧(∀(j:Nat) (v:Value),(shC s)[j]?=some v→W.cell? ⟨b,o+i*11+j,none⟩=some v)∧(∀(j:Nat) (v:Value),(shC t)[j]?=some v→W.cell? ⟨b,o+k*11+j,none⟩=some v):=by
 obtain⟨b,o,rfl,h1,h2⟩:=h.row i s hs
 obtain⟨b',o',e,_,h3⟩:=h.row k t ht
 injection e with e
 injection e with e1 e2
 subst e1 e2
 exact⟨b,o,rfl,h1,h2,h3⟩
theorem ShsAt.one {b o:Nat} {ss:List Sh} {W:World} (h:ShsAt (some ⟨b,o,none⟩) ss W) {i:Nat} {s:Sh} (hs:ss[i]?=some s):b<W.heap.size∧∀(j:Nat) (v:Value),(shC s)[j]?=some v→W.cell? ⟨b,o+i*11+j,none⟩=some v:=by
 obtain⟨b',o',e,h1,h2⟩:=h.row i s hs
 injection e with e
 injection e with e1 e2
 subst e1 e2
 exact⟨h1,h2⟩
theorem ShsAt.sub {b o k:Nat} {l m:List Sh} {W:World} (h:ShsAt (some ⟨b,o,none⟩) l W) (hs:∀(i:Nat) (s:Sh),m[i]?=some s→l[k+i]?=some s):ShsAt (some ⟨b,o+k*11,none⟩) m W:=⟨fun i s hi=>by
 obtain⟨b',o',e,h1,h2⟩:=h.row (k+i) s (hs i s hi)
 injection e with e
 injection e with e1 e2
 subst e1 e2
 refine⟨b,o+k*11,rfl,h1,fun j v hv=>?_⟩
 have:=h2 j v hv
 rw[Nat.add_mul] at this
 rw[show o+k*11+i*11+j=o+(k*11+i*11)+j by omega]
 exact this⟩
theorem ExAt.here {L:List (Nat×List Value)} {P:World→Prop} {w W:World} (h:ExAt L P w W):ExAt L P W W:=⟨⟨Below.refl _ _,h.az.row⟩,h.p,h.st⟩
end Go.Proofs.YtlikmmpmnaaifaaGreatDoor
