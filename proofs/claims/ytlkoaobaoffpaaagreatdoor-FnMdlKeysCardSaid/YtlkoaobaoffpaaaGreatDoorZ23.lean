/- Lemmas and walks, joined by program. -/
import Derived.Test.YtlkoaobaoffpaaaGreatDoorZ6
import Derived.Test.YtlkoaobaoffpaaaGreatDoorZ15
namespace Go.Proofs.YtlkoaobaoffpaaaGreatDoor
open Go Go.RowKit
set_option maxHeartbeats 8000000
set_option maxRecDepth 100000
set_option linter.unusedSimpArgs false
set_option linter.unusedVariables false
section
variable {P:Program} {ops:Array Oper} {T:World→World→Prop} {V:Value→World→Prop} {o:Oper} {a:Act} {w:World} {E:Prop}
theorem jo0 (hg:o.guard=none) (f:Nat) (he:Enters P f) {args:Array Operand} {ts:Array TypeId} (hop:o.op= .call { callee:= .value (.func f),args:=args,argTypes:=ts}) (vs:Array Value) (hv:args.map a.eval=vs)
  (hc:Calls P f vs w fun e w'=>∃u,e= .returned u∧T w w'∧V u w'):if Region.wanted o (yielded ops a.tmps)=true then upT P (fun _=>True) T w V ((execOp a.eval o).run P w) else E:=by
 have hw:Region.wanted o (yielded ops a.tmps)=true:=by simp[Region.wanted,hg]
 rw[if_pos hw];subst hv;have hr:(execOp a.eval o).run P w= .ok (.enter f (args.map a.eval)) w:=by simp[execOp,hop,resolve,Act.eval,invoke,Deferred.ofValue,go_sem,he (args.map a.eval) w]
 rw[hr];exact hc.mono fun e w' ⟨u,he,ht,hv⟩=>⟨u,he,trivial,ht,hv⟩
end
end Go.Proofs.YtlkoaobaoffpaaaGreatDoor
