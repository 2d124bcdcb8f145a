/-
  append in drawn regions: of shapes, of pairs; of elements that lie anywhere.
-/
import Derived.Test.YtdkaohphbgdkpaaGreatDoorZTb
set_option linter.unusedSimpArgs false
set_option linter.unusedVariables false
namespace Go.Proofs.YtdkaohphbgdkpaaGreatDoor
open Go.RowKit Go.Shelf Go.Sort
attribute [local go_sem] Oper.semAt_some
theorem MoAt.appFrom {r:Rw} {rs:List Rw} {L:List (Nat×List Value)} {w W:World} {z:Value} {bytes m:Nat} {cs:List Value} (t:TypeId) (hu:Tryz.prog.underlying t=some (.slice r.e)) (hinfo:(Tryz.prog.info? r.e).map (fun i=>(i.zero,i.size,i.bytes))=some (some z,r.s,bytes)) (hz:z.cells.size=r.s) (hs0:0<r.s)
  (h:MoAt (r::rs) L w W) (ad:Addr) (c:Nat) (hc:∀(j:Nat) (u:Value),cs[j]?=some u→W.cell? (ad.add j)=some u) (hl:cs.length=m*r.s) (h1:∀u∈cs,u.oneCell'=true) (h6:(r.n+m)*bytes≤140737488355328) (h63:r.n+m≤maxLen) (ty:TypeId) :
  ∃v' W',(Builtin.append_ #[t,t] ty #[r.v,.slice (some ad) m c]).run Tryz.prog W=.ok v' W'∧MoAt (⟨r.e,r.s,v',r.n+m,r.xs++cs⟩::rs) L w W':=by
 obtain⟨i0,hi0,hz0,hz1,hz2⟩:=info_parts hinfo
 obtain⟨v',W',hr,h2,h3,_,h5⟩:=run_append_own_at (P:=Tryz.prog) W w.heap.size t ty r.e i0 z r.s bytes hu hi0 hz0 hz1 hz2 hz hs0 r.v r.n r.xs (h.own r (by simp)) ad m c cs hl hc h1 h63 h6 h.az.bw.size
 exact⟨v',W',hr,h.grown h2 h3 h5⟩
theorem ssC_len11 (l:List Sh):(ssC l).length=l.length*11:=by
 induction l with
 | nil=>rfl
 | cons t ts ih=>rw[show ssC (t::ts)=shC t++ssC ts from rfl,List.length_append,ih,show(shC t).length=11 from rfl,List.length_cons];omega
theorem step_appF_sh {ops:Array Oper} {o:Oper} {a:Act} {K:Act→World→Prop} {Q:Exit→Act→World→Prop} {E:Prop} (hgd:o.guard=none) (sl y:Operand) (ho:o.op=.call { callee:=.builtin .append,args:=#[sl,y],argTypes:=#[32,32] })
  {rs:List Rw} {v:Value} {n m:Nat} {ss ts:List Sh} {L:List (Nat×List Value)} {w W:World} (h:MoAt (⟨30,11,v,n,ssC ss⟩::rs) L w W) (ad:Addr) (c:Nat) (hm:ts.length=m) (hc:∀(j:Nat) (u:Value),(ssC ts)[j]?=some u→W.cell? (ad.add j)=some u) (hn:n+m≤10000) (hv:a.eval sl=v) (hx:a.eval y=.slice (some ad) m c)
  (hK:∀b' c' W',MoAt (⟨30,11,.slice b' (n+m) c',n+m,ssC (ss++ts)⟩::rs) L w W'→K (a.put o.dst (.slice b' (n+m) c')) W'):if Region.wanted o (yielded ops a.tmps)=true then Oper.wp Tryz.prog o a W K Q else E:=by
 have hw:Region.wanted o (yielded ops a.tmps)=true:=by simp[Region.wanted,hgd]
 rw[if_pos hw]
 have hlen:(ssC ts).length=m*11:=by
  rw[←hm,ssC_len11]
 have hone:∀u∈ssC ts,u.oneCell'=true:=fun u hu=>by
  unfold ssC at hu
  obtain⟨t,_,ht⟩:=List.mem_flatMap.1 hu
  simp only[List.mem_cons,List.not_mem_nil,or_false] at ht
  rcases ht with rfl|rfl|rfl|rfl|rfl|rfl|rfl|rfl|rfl|rfl|rfl <;> rfl
 obtain⟨v',W',hr,h2⟩:=MoAt.appFrom (r:=⟨30,11,v,n,ssC ss⟩) (m:=m) 32 Tryz.underlying32 pH_ rfl (show 0<11 by decide) h ad c hc hlen hone (by simp only;omega) (by unfold maxLen;simp only;omega) o.type
 have e0:ssC ss++ssC ts=ssC (ss++ts):=by unfold ssC;simp
 simp only at h2
 rw[e0] at h2
 obtain⟨b',c',e,_⟩:=h2.slice (r:=⟨30,11,v',n+m,ssC (ss++ts)⟩) (by simp)
 simp only at e
 subst e
 simp only at hr
 unfold Oper.wp execOp
 simp only[ho,resolve,invoke,builtin,Sem.run_bind,Sem.run_pure,Result.andThen_ok,List.map_toArray,List.map_cons,List.map_nil,hv,hx,hr]
 exact hK b' c' W' h2
theorem step_app_sh {ops:Array Oper} {o:Oper} {a:Act} {K:Act→World→Prop} {Q:Exit→Act→World→Prop} {E:Prop} (hgd:o.guard=none) (sl y:Operand) (ho:o.op=.call { callee:=.builtin .append,args:=#[sl,y],argTypes:=#[32,32] })
  {rs:List Rw} {v:Value} {n:Nat} {ss:List Sh} {L:List (Nat×List Value)} {w W:World} (h:MoAt (⟨30,11,v,n,ssC ss⟩::rs) L w W) (s:Sh) (B c:Nat) (hB:(B,shC s)∈L) (hn:n≤10000) (hv:a.eval sl=v) (hx:a.eval y=.slice (some ⟨B,0,none⟩) 1 c)
  (hK:∀b' c' W',MoAt (⟨30,11,.slice b' (n+1) c',n+1,ssC (ss++[s])⟩::rs) L w W'→K (a.put o.dst (.slice b' (n+1) c')) W'):if Region.wanted o (yielded ops a.tmps)=true then Oper.wp Tryz.prog o a W K Q else E:=
 uC_ (r:=⟨30,11,v,n,ssC ss⟩) hgd sl y ho Tryz.underlying32 pH_ rfl (show 0<11 by decide) (by decide) h c hB rfl (by simp[Value.oneCell']) (by simp only;omega) hv hx (fun b' c' W' h'=>hK b' c' W' (by rw[iQ_];exact h'))
theorem step_app_2 {ops:Array Oper} {o:Oper} {a:Act} {K:Act→World→Prop} {Q:Exit→Act→World→Prop} {E:Prop} (hgd:o.guard=none) (sl y:Operand) (ho:o.op=.call { callee:=.builtin .append,args:=#[sl,y],argTypes:=#[24,24] })
  {rs:List Rw} {v:Value} {n:Nat} {ss:List (Int×Int)} {L:List (Nat×List Value)} {w W:World} (h:MoAt (⟨58,2,v,n,psC ss⟩::rs) L w W) (s:Int×Int) (B c:Nat) (hB:(B,[.int .i64 s.1,.int .i64 s.2])∈L) (hn:n≤10000) (hv:a.eval sl=v) (hx:a.eval y=.slice (some ⟨B,0,none⟩) 1 c)
  (hK:∀b' c' W',MoAt (⟨58,2,.slice b' (n+1) c',n+1,psC (ss++[s])⟩::rs) L w W'→K (a.put o.dst (.slice b' (n+1) c')) W'):if Region.wanted o (yielded ops a.tmps)=true then Oper.wp Tryz.prog o a W K Q else E:=
 uC_ (r:=⟨58,2,v,n,psC ss⟩) hgd sl y ho Tryz.underlying24 lZ_ rfl (show 0<2 by decide) (by decide) h c hB rfl (by simp[Value.oneCell']) (by simp only;omega) hv hx (fun b' c' W' h'=>hK b' c' W' (by rw[lP_];exact h'))
end Go.Proofs.YtdkaohphbgdkpaaGreatDoor
