/- - -/
import Derived.OwnWalkIn
import Derived.Laws.AppendOwnNone
import Derived.Test.YtdkaohphbgdkpaaGreatDoorZBase
set_option maxHeartbeats 40000000
set_option maxRecDepth 1000000
namespace Go.Proofs.YtdkaohphbgdkpaaGreatDoor
open Go.RowKit
theorem gF_ {F:Fence} {n:Nat} {P:Program} (w:World) {ops:Array Oper} {rest:List Oper} {o:Oper} {a:Act} {Q:Exit→Act→World→Prop}
  (hg:o.guard=none) (s x:Operand) (t:TypeId) (hop:o.op=Op.call { callee:=Callee.builtin Builtin.append,args:=#[s,x],argTypes:=#[t,t] })
  (base:Nat) (e:TypeId) (i:TypeInfo) (z:Value) (size bytes:Nat) (h1:P.underlying t=some (.slice e)) (h2:P.info? e=some i) (h3:i.zero=some z) (h4:i.size=size) (h5:i.bytes=bytes) (h6:z.cells.size=size) (h7:0<size)
  (v:Value) (k:Nat) (xs:List Value) (hs:a.eval s=v) (hown:w.ownsRow base e size v k xs) (vs:Value) (m:Nat) (news:List Value) (lo hi:Nat) (hx:a.eval x=vs) (hsrc:Sl w vs m size news lo hi)
  (h1c:∀u∈news,u.oneCell'=true) (b1:k+m≤maxLen) (b2:(k+m)*bytes≤140737488355328) (b3:base≤w.heap.size)
  (hK:∀v' w',w'.ownsRow base e size v' (k+m) (xs++news)→w.grownBy w' v.ownBlock→wpListIn F n P ops Q rest (a.put o.dst v') w') :
  wpListIn F n P ops Q (o::rest) a w:=by
 obtain⟨ao,cap,rfl,hn,_,hl,hz,hc⟩:=hsrc
 cases ao with
 | some ad=>
  obtain⟨b,off,rfl,_,_,hcs⟩:=hc ad rfl
  exact wpListIn_append_own w hg s x t hop base e i z size bytes h1 h2 h3 h4 h5 h6 h7 v k xs hs hown ⟨b,off,none⟩ m cap news hx hl (fun j u hu=>by rw[aBR];exact hcs j u hu) h1c b1 b2 b3 (fun v' w' r1 r2 _=>hK v' w' r1 r2)
 | none=>
  obtain rfl:cap=0:=hz rfl
  obtain rfl:m=0:=by omega
  obtain rfl:news=[]:=List.eq_nil_of_length_eq_zero (by omega)
  refine wpListIn_plain hg fun K hK'=>?_
  have hrun:=run_append_owned_none (P:=P) w base t o.type e i size h1 h2 v k xs hown
  unfold Oper.wpIn
  refine⟨?_,?_⟩
  ·simp[Oper.about,hop,resolve,Target.leads,Sem.run_pure]
  ·rw[Oper.semAt_plain F _ _ (by rw[hop];intro c hc';cases hc')]
   simp[execOp,hop,resolve,invoke,builtin,hs,hx,hrun,Result.andThen]
   exact hK' _ _ (hK v w (by simpa using hown) (World.grownBy.refl _ _))
end Go.Proofs.YtdkaohphbgdkpaaGreatDoor
