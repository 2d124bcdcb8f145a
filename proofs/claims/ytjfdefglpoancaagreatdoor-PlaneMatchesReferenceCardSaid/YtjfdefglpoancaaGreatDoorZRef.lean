/- - -/
import Derived.Lib.SlBytesRow
import Derived.Lib.UnsafeStr
import Derived.Test.YtjfdefglpoancaaGreatDoorZNum
import Derived.Test.YtjfdefglpoancaaGreatDoorZTxt
set_option maxHeartbeats 40000000
set_option maxRecDepth 1000000
open Go.Lib (hid)
namespace Go.Proofs.YtjfdefglpoancaaGreatDoor
open Go.RowKit Go.Shelf
attribute [local go_sem] Oper.semAt_some
theorem kO_ (v:Value) (xs:List Nat) (lo hi:Nat) (w:World) (h:Ns w v xs lo hi) :
  Calls Tryz.prog 166 #[v] w fun e w'=>(∃v',e=.returned v'∧Ns w v' (trim xs) lo hi)∧w=w':=by
 have hlen:=h.len
 obtain⟨a,cap,rfl,hc,hm⟩:∃a cap,v=.slice a xs.length cap∧xs.length≤cap∧cap≤maxLen:=by obtain⟨a,cap,h1,h2,h3,_⟩:=h;exact⟨a,cap,h1,h2,h3⟩
 unfold maxLen at hm hlen
 have H:=hid h
 clear h
 go_enter Tryz.func166,Tryz.ntmps166
 go_wp2
 go_loop [0] (fun s=>∃k:Nat,k≤xs.length∧s=.slice a k cap∧trim (xs.take k)=trim xs) (fun s=>aKD s)
 case atStart=>exact⟨xs.length,Nat.le_refl _,rfl,by simp⟩
 case round=>
  obtain⟨k,hk,rfl,ht⟩:=hrel
  have HT:=hid ht
  clear ht
  by_cases hk0:k=0
  ·subst hk0
   go_wp2
   go_ret
   exact⟨⟨_,rfl,by rw[←HT.out];exact H.out.take (Nat.zero_le _)⟩,rfl⟩
  ·obtain⟨j,rfl⟩:∃j,k=j+1:=⟨k-1,by omega⟩
   obtain⟨b,off,rfl,_,_,hcc⟩:=H.out.at (k:=j) (by omega)
   go_wp2
   ·have hz:((xs[j]:Int)==0)=true:=by assumption
    refine⟨⟨j,by omega,rfl,?_⟩,by simp[aKD]⟩
    rw[←HT.out]
    exact(jF_ (by rw[List.getElem?_eq_getElem (by omega)];simp at hz⊢;omega) (by omega)).symm
   ·have hz:((xs[j]:Int)==0)=false:=by assumption
    go_ret
    refine⟨⟨_,rfl,?_⟩,rfl⟩
    rw[←HT.out,mA_ (by rw[List.getElem?_eq_getElem (by omega)];simp at hz⊢;omega) (by omega)]
    exact H.out.take hk
theorem aRJ:(Tryz.prog.info? 5).map (fun i=>(i.zero,i.size,i.bytes))=some (some (.int .u8 0),1,1):=by kernel_rfl
def digB (xs:List Nat):List UInt8:=xs.reverse.map fun d=>UInt8.ofNat (48+d)
theorem qS_ {W:World} {B:Nat} {v:Value} {bs:List UInt8} (h:W.ownsRow B 5 1 v bs.length (Lib.byteCells bs)) (hne:bs≠[]) :
  ∃g cap,v=.slice (some ⟨g,0,none⟩) bs.length cap∧(convert 169 9 (.slice (some ⟨g,0,none⟩) bs.length cap)).run Tryz.prog W=.ok (.string ⟨bs.toArray⟩) W:=by
 rcases h.2 with ⟨_,h0⟩|⟨g,cap,cur,rfl,hb,hg,hn,hm,hs,ht⟩
 ·exact absurd (List.eq_nil_of_length_eq_zero h0) hne
 ·refine⟨g,cap,rfl,?_⟩
  have hc:Lib.Bytes W g 0 ⟨bs.toArray⟩:=by
   intro i hi
   have h1:=Sl.of_owns h
   obtain⟨a',cap',e,_,_,_,_,h7⟩:=h1
   simp only[Value.slice.injEq,true_and] at e
   obtain⟨b,off,e2,_,_,h8⟩:=h7 ⟨g,0,none⟩ e.1.symm
   simp only[Addr.mk.injEq,and_true] at e2
   obtain⟨rfl,rfl⟩:=e2
   have hi':i<bs.length:=by
    have e:(⟨bs.toArray⟩:ByteArray).size=bs.length:=by show bs.toArray.size=_;simp
    omega
   refine h8 i _ ?_
   unfold Lib.byteCells
   rw[List.getElem?_map,List.getElem?_eq_getElem hi']
   rfl
  have:=Lib.run_convert_whole (P:=Tryz.prog) W 169 5 9 Tryz.underlying169 Tryz.underlying5 Tryz.underlying9 g 0 ⟨bs.toArray⟩ hc cap
  rwa[show(⟨bs.toArray⟩:ByteArray).size=bs.length from by show bs.toArray.size=_;simp] at this
theorem zE_ {W:World} {B:Nat} {v:Value} {bs:List UInt8} {c:UInt8} {x:Int} (hx:x=c.toNat) (h:W.ownsRow B 5 1 v (bs.length+1) (Lib.byteCells bs++[Value.int .u8 x])):W.ownsRow B 5 1 v (bs++[c]).length (Lib.byteCells (bs++[c])):=by
 subst hx
 simpa[Lib.byteCells] using h
theorem aEL (neg:Bool) (v:Value) (xs:List Nat) (lo top:Nat) (w:World) (h:Ns w v xs lo top) (b:top≤w.heap.size) (hd:∀d∈xs,d<10) (hl:xs.length≤1000000) (hne:0<xs.length) :
  Calls Tryz.prog 136 #[.bool neg,v] w fun e w'=>(∃s:ByteArray,e=.returned (.tuple #[.string s,.bool (decide ((xs.length:Int)≤200))])∧s.data.toList=(if neg then [45] else [])++digB xs)∧Below w.heap.size w w':=by
 obtain⟨i0,hi,hz0,hz1,hz2⟩:=info_parts aRJ
 obtain⟨a,cap,rfl,hc,hm⟩:∃a cap,v=.slice a xs.length cap∧xs.length≤cap∧cap≤maxLen:=by obtain⟨a,cap,h1,h2,h3,_⟩:=h;exact⟨a,cap,h1,h2,h3⟩
 have H:=hid h
 have HD:=hid hd
 clear h hd
 cases neg with
 | true=>
  go_enter Tryz.func136,Tryz.ntmps136
  go_wp2_with (at_builtin;refine wpList_append_own _ rfl _ _ 169 rfl w.heap.size 5 i0 (.int .u8 0) 1 1 Tryz.underlying169 hi hz0 hz1 hz2 rfl (by decide) (.slice none 0 0) 0 [] rfl (World.ownsRow_nil _ _ _ _) ⟨w.heap.size,0,none⟩ 1 1 [.int .u8 45] rfl rfl (cell_one_new _ _ _) (by simp[Value.oneCell']) (by decide) (by decide) (by simp) ?_;intro v' w1 hown' hgrow _)
  have HO:Hid (w1.ownsRow w.heap.size 5 1 v' (([45]:List UInt8)++(digB xs).take 0).length (Lib.byteCells (([45]:List UInt8)++(digB xs).take 0))):=hown'
  have HB:Hid (Below w.heap.size w w1):=((Below.refl _ _).alloc (Nat.le_refl _) _).grown hgrow (by simp) (fun g e=>by simp[Value.ownBlock] at e)
  clear hown' hgrow
  go_loopw [6,7] (fun out i wr=>∃j:Nat,j≤xs.length∧i=.int .i64 ((xs.length:Int)-1-j)∧wr.ownsRow w.heap.size 5 1 out (([45]:List UInt8)++(digB xs).take j).length (Lib.byteCells (([45]:List UInt8)++(digB xs).take j))∧Below w.heap.size w wr) (fun _ i _=>(intOf i+1).toNat)
  case atStart=>exact⟨0,Nat.zero_le _,by go_num,HO.out,HB.out⟩
  case round=>
   obtain⟨j,hj,rfl,ho,hb⟩:=hrel
   have hwr:=hb.size
   by_cases hjl:j=xs.length
   ·subst hjl
    have hdl:(digB xs).take xs.length=digB xs:=List.take_of_length_le (by simp[digB])
    rw[hdl] at ho
    have hdl2:(digB xs).length=xs.length:=by simp[digB]
    obtain⟨g,cp,rfl,hcv⟩:=qS_ ho (fun e=>absurd (congrArg List.length e) (by rw[List.length_append,hdl2];simp only[List.length_nil,List.length_cons];omega))
    obtain⟨sz,hsz⟩:∃n,n=(([45]:List UInt8)++digB xs).length:=⟨_,rfl⟩
    rw[←hsz] at hcv⊢
    obtain⟨s,hs⟩:∃s:ByteArray,s=⟨(([45]:List UInt8)++digB xs).toArray⟩:=⟨_,rfl⟩
    rw[←hs] at hcv
    have HSS:=hid hs
    clear ho hs hdl hdl2 hsz
    go_wp2
    refine bodyPost_ret (v:=.tuple #[.string s,.bool (decide ((xs.length:Int)≤200))]) ?_ rfl ⟨⟨s,rfl,by rw[HSS.out];simp⟩,hb⟩
    simp[results,Tryz.results136,go_sem]
   ·obtain⟨ix,hix⟩:∃ix,ix+j+1=xs.length:=⟨xs.length-1-j,by omega⟩
    have hie:(xs.length:Int)-1-j=(ix:Int):=by omega
    rw[hie]
    have hnb:Ns wr (.slice a xs.length cap) xs lo top:=H.out.below hb b
    obtain⟨bk,off,rfl,hb1,hb2,hcell⟩:=hnb.at (k:=ix) (by omega)
    clear hnb
    have hd10:=HD.out xs[ix] (List.getElem_mem _)
    have hnx:(digB xs).take (j+1)=(digB xs).take j++[UInt8.ofNat (48+xs[ix])]:=by
     rw[List.take_add_one]
     congr 1
     unfold digB
     rw[List.getElem?_map,List.getElem?_reverse (by omega)]
     rw[show xs.length-1-j=ix from by omega,List.getElem?_eq_getElem (by omega)]
     rfl
    have hlen:(([45]:List UInt8)++(digB xs).take j).length≤1000001:=by simp[digB];omega
    obtain⟨d,hd⟩:∃d,d=xs[ix]:=⟨_,rfl⟩
    rw[←hd] at hcell hd10 hnx
    have hbt:((48+d:Nat):Int)=((UInt8.ofNat (48+d)).toNat:Nat):=by rw[fO_ hd10]
    have HBT:=hid hbt
    have HNX:=hid hnx
    have HOO:=hid ho
    have HBB:=hid hb
    clear hd hnx hbt ho hie hb
    obtain⟨m,hm2⟩:∃m,m=(([45]:List UInt8)++(digB xs).take j).length:=⟨_,rfl⟩
    have HM:=hid hm2
    rw[←hm2] at hlen
    clear hm2
    go_wp2_with (at_builtin;refine wpList_append_own _ rfl _ _ 169 rfl w.heap.size 5 i0 (.int .u8 0) 1 1 Tryz.underlying169 hi hz0 hz1 hz2 rfl (by decide) u6 _ _ rfl (HOO.out.alloc _) ⟨wr.heap.size,0,none⟩ 1 1 [.int .u8 (48+(d:Int))] rfl rfl (cell_one_new _ _ _) (by simp[Value.oneCell']) (by rw[←HM.out];unfold maxLen;omega) (by rw[←HM.out];omega) (by simp;omega) ?_;intro v' w3 hown' hgrow _)
    refine⟨⟨j+1,by omega,by go_num,?_,(HBB.out.alloc (Nat.le_trans (Nat.le_refl _) hwr) _).grown hgrow (by simp;omega) (fun g e=>(HOO.out.lt g e).1)⟩,?_⟩
    ·rw[HNX.out,←List.append_assoc]
     exact zE_ (by have:=HBT.out;omega) hown'
    ·simp only[intOf];omega
 | false=>
  go_enter Tryz.func136,Tryz.ntmps136
  go_wp2_with fail
  have HO:Hid (w.ownsRow w.heap.size 5 1 (.slice none 0 0) (([]:List UInt8)++(digB xs).take 0).length (Lib.byteCells (([]:List UInt8)++(digB xs).take 0))):=World.ownsRow_nil _ _ _ _
  have HB:Hid (Below w.heap.size w w):=Below.refl _ _
  have hzz:((xs.length:Int)==0)=false:=by assumption
  rw[hzz]
  go_loopw [6,7] (fun out i wr=>∃j:Nat,j≤xs.length∧i=.int .i64 ((xs.length:Int)-1-j)∧wr.ownsRow w.heap.size 5 1 out (([]:List UInt8)++(digB xs).take j).length (Lib.byteCells (([]:List UInt8)++(digB xs).take j))∧Below w.heap.size w wr) (fun _ i _=>(intOf i+1).toNat)
  case atStart=>exact⟨0,Nat.zero_le _,by go_num,HO.out,HB.out⟩
  case round=>
   obtain⟨j,hj,rfl,ho,hb⟩:=hrel
   have hwr:=hb.size
   by_cases hjl:j=xs.length
   ·subst hjl
    have hdl:(digB xs).take xs.length=digB xs:=List.take_of_length_le (by simp[digB])
    rw[hdl] at ho
    have hdl2:(digB xs).length=xs.length:=by simp[digB]
    obtain⟨g,cp,rfl,hcv⟩:=qS_ ho (fun e=>absurd (congrArg List.length e) (by rw[List.length_append,hdl2];simp only[List.length_nil];omega))
    obtain⟨sz,hsz⟩:∃n,n=(([]:List UInt8)++digB xs).length:=⟨_,rfl⟩
    rw[←hsz] at hcv⊢
    obtain⟨s,hs⟩:∃s:ByteArray,s=⟨(([]:List UInt8)++digB xs).toArray⟩:=⟨_,rfl⟩
    rw[←hs] at hcv
    have HSS:=hid hs
    clear ho hs hdl hdl2 hsz
    go_wp2
    refine bodyPost_ret (v:=.tuple #[.string s,.bool (decide ((xs.length:Int)≤200))]) ?_ rfl ⟨⟨s,rfl,by rw[HSS.out];simp⟩,hb⟩
    simp[results,Tryz.results136,go_sem]
   ·obtain⟨ix,hix⟩:∃ix,ix+j+1=xs.length:=⟨xs.length-1-j,by omega⟩
    have hie:(xs.length:Int)-1-j=(ix:Int):=by omega
    rw[hie]
    have hnb:Ns wr (.slice a xs.length cap) xs lo top:=H.out.below hb b
    obtain⟨bk,off,rfl,hb1,hb2,hcell⟩:=hnb.at (k:=ix) (by omega)
    clear hnb
    have hd10:=HD.out xs[ix] (List.getElem_mem _)
    have hnx:(digB xs).take (j+1)=(digB xs).take j++[UInt8.ofNat (48+xs[ix])]:=by
     rw[List.take_add_one]
     congr 1
     unfold digB
     rw[List.getElem?_map,List.getElem?_reverse (by omega)]
     rw[show xs.length-1-j=ix from by omega,List.getElem?_eq_getElem (by omega)]
     rfl
    have hlen:(([]:List UInt8)++(digB xs).take j).length≤1000001:=by simp[digB];omega
    obtain⟨d,hd⟩:∃d,d=xs[ix]:=⟨_,rfl⟩
    rw[←hd] at hcell hd10 hnx
    have hbt:((48+d:Nat):Int)=((UInt8.ofNat (48+d)).toNat:Nat):=by rw[fO_ hd10]
    have HBT:=hid hbt
    have HNX:=hid hnx
    have HOO:=hid ho
    have HBB:=hid hb
    clear hd hnx hbt ho hie hb
    obtain⟨m,hm2⟩:∃m,m=(([]:List UInt8)++(digB xs).take j).length:=⟨_,rfl⟩
    have HM:=hid hm2
    rw[←hm2] at hlen
    clear hm2
    go_wp2_with (at_builtin;refine wpList_append_own _ rfl _ _ 169 rfl w.heap.size 5 i0 (.int .u8 0) 1 1 Tryz.underlying169 hi hz0 hz1 hz2 rfl (by decide) u6 _ _ rfl (HOO.out.alloc _) ⟨wr.heap.size,0,none⟩ 1 1 [.int .u8 (48+(d:Int))] rfl rfl (cell_one_new _ _ _) (by simp[Value.oneCell']) (by rw[←HM.out];unfold maxLen;omega) (by rw[←HM.out];omega) (by simp;omega) ?_;intro v' w3 hown' hgrow _)
    refine⟨⟨j+1,by omega,by go_num,?_,(HBB.out.alloc (Nat.le_trans (Nat.le_refl _) hwr) _).grown hgrow (by simp;omega) (fun g e=>(HOO.out.lt g e).1)⟩,?_⟩
    ·rw[HNX.out,←List.append_assoc]
     exact zE_ (by have:=HBT.out;omega) hown'
    ·simp only[intOf];omega
end Go.Proofs.YtjfdefglpoancaaGreatDoor
