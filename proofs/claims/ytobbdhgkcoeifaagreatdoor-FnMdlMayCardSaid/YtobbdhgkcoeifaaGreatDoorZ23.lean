/- Lemmas and walks, joined by program. -/
import Derived.Test.YtobbdhgkcoeifaaGreatDoorZ6
import Derived.Test.YtobbdhgkcoeifaaGreatDoorZ15
namespace Go.Proofs.YtobbdhgkcoeifaaGreatDoor
open Go Go.RowKit
set_option maxHeartbeats 8000000
set_option maxRecDepth 100000
set_option linter.unusedSimpArgs false
set_option linter.unusedVariables false
section
variable {P:Program} {ops:Array Oper} {T:World→World→Prop} {V:Value→World→Prop} {o:Oper} {a:Act} {w:World} {E:Prop}
theorem jo0 (hg:o.guard=none) (f:Nat) (he:Enters P f) {args:Array Operand} {ts:Array TypeId} (hop:o.op= .call { callee:= .value (.func f),args:=args,argTypes:=ts}) (vs:Array Value) (hv:args.map a.eval=vs)
  (hc:Calls P f vs w fun e w'=>∃u,e= .returned u∧T w w'∧V u w'):if Region.wanted o (yielded ops a.tmps)=true then upT P (fun _=>True) T w V ((execOp a.eval o).run P w) else E:=by
 have hw:Region.wanted o (yielded ops a.tmps)=true:=by simp[Region.wanted,hg]
 rw[if_pos hw];subst hv;have hr:(execOp a.eval o).run P w= .ok (.enter f (args.map a.eval)) w:=by simp[execOp,hop,resolve,Act.eval,invoke,Deferred.ofValue,go_sem,he (args.map a.eval) w]
 rw[hr];exact hc.mono fun e w' ⟨u,he,ht,hv⟩=>⟨u,he,trivial,ht,hv⟩
theorem fits_load (hgd:o.guard=none) (ty:TypeId) (x:Operand) (ho:o.op= .load ty x) (g:Nat) (hx:a.eval x= .pointer (some ⟨g,0,none⟩)) (t:TypeId) (cs:Array Value) (fr:Nat×Nat) (d:TypeDesc) (hg:w.heap[g]? =some (.cells cs t fr))
  (hu:P.underlying ty=some d) (hd:(match d with| .struct _| .array _ _=>true|_=>false)=true) (hi:(P.info? ty).map (·.size)=some cs.size) (ht:T w w) (hv:V (.agg cs) w):
  if Region.wanted o (yielded ops a.tmps)=true then upT P (fun _=>True) T w V ((execOp a.eval o).run P w) else E:=by
 have hw:Region.wanted o (yielded ops a.tmps)=true:=by simp[Region.wanted,hgd]
 rw[if_pos hw];have hr:(execOp a.eval o).run P w= .ok (.value (.agg cs)) w:=by
  unfold execOp;simp only[ho,hx,Instr.loadAt,Instr.sureAddr,Sem.run_bind,Sem.run_pure,Result.andThen_ok,run_loadVar_row w g t ty cs fr d hg hu hd hi]
 rw[hr];exact⟨trivial,ht,hv⟩
end
end Go.Proofs.YtobbdhgkcoeifaaGreatDoor
