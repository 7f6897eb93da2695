/- Lemmas and walks, joined by program. -/
import Derived.Deep.AppendLies
import Derived.Deep.RegionLaw
import Derived.Shelf.Abstract
import Derived.Test.YtobbdhgkcoeifaaGreatDoorZ1
namespace Go.Proofs.YtobbdhgkcoeifaaGreatDoor
open Go.RowKit Go.Shelf
set_option maxHeartbeats 8000000
set_option maxRecDepth 100000
set_option linter.unusedSimpArgs false
set_option linter.unusedVariables false
def StayQ (K:Act→World→Prop):Exit→Act→World→Prop
 | .normal=>K
 |_=>fun _ _=>False
theorem stayQ_normal (K:Act→World→Prop):StayQ K .normal=K:=rfl
theorem Xs {P:Program} {c:Code} {Q:Exit→Act→World→Prop} {a:Act} {w:World} (h: ∀K:Act→World→Prop,(∀a w,Q .normal a w→K a w)→c.wp P (StayQ K) a w):c.wp P Q a w:=
 Code.wp_mono (Q:=StayQ (Q .normal)) (fun e a w hq=>by cases e<;>first|exact hq|exact False.elim hq) (h (Q .normal) fun _ _ h=>h)
section
variable {P:Program} {ops:Array Oper} {o:Oper} {a:Act} {w:World} {K:Act→World→Prop} {Q:Exit→Act→World→Prop} {E:Prop}
theorem J9 (hg:o.guard=none) (f:Nat) (he:Enters P f) {args:Array Operand} {ts:Array TypeId} (hop:o.op= .call { callee:= .value (.func f),args:=args,argTypes:=ts}) (vs:Array Value) (hv:args.map a.eval=vs)
  (hc:Calls P f vs w fun e w'=>∃u,e= .returned u∧K (a.put o.dst u) w'):if Region.wanted o (yielded ops a.tmps)=true then Oper.wp P o a w K Q else E:=by
 have hw:Region.wanted o (yielded ops a.tmps)=true:=by simp[Region.wanted,hg]
 rw[if_pos hw];subst hv;have hr:(execOp a.eval o).run P w= .ok (.enter f (args.map a.eval)) w:=by simp[execOp,hop,resolve,Act.eval,invoke,Deferred.ofValue,go_sem,he (args.map a.eval) w]
 unfold Oper.wp;rw[hr];simp only[Oper.upon];exact hc.mono fun e w' ⟨u,he,hk⟩=>by subst he;exact hk
theorem Xt (hgd:o.guard=none) (s x:Operand) (t:TypeId)
  (ho:o.op= .call { callee:= .builtin .append,args:= #[s,x],argTypes:= #[t,t]})
  (base:Nat) (e:TypeId) (i:TypeInfo) (z:Value) (size bytes:Nat) (ht:P.underlying t=some (.slice e)) (hi:P.info? e=some i) (hz:i.zero=some z)
  (hsize:i.size=size) (hby:i.bytes=bytes) (hzs:z.cells.size=size) (hsz:0<size)
  (v:Value) (n:Nat) (xs:List Value) (hs:a.eval s=v) (hown:w.ownsRow base e size v n xs)
  (ad:Addr) (m c:Nat) (news:List Value) (hx:a.eval x= .slice (some ad) m c) (hl:news.length=m*size) (hnews: ∀j u,news[j]? =some u→w.cell? (ad.add j)=some u) (h1: ∀u∈news,u.oneCell'=true)
  (h63:n+m≤maxLen) (hbytes:(n+m)*bytes≤140737488355328) (hbase:base≤w.heap.size)
  (h: ∀v' w',w'.ownsRow base e size v' (n+m) (xs++news)→w.grownBy w' v.ownBlock→K (a.put o.dst v') w'):
  if Region.wanted o (yielded ops a.tmps)=true then Oper.wp P o a w K Q else E:=by
 have hw:Region.wanted o (yielded ops a.tmps)=true:=by simp[Region.wanted,hgd]
 rw[if_pos hw];exact wp_append_own w s x t ho base e i z size bytes ht hi hz hsize hby hzs hsz v n xs hs hown ad m c news hx hl hnews h1 h63 hbytes hbase fun v' w' h2 h3 _=>h v' w' h2 h3
theorem Zg {α:Type} {r:Rp α} (hgd:o.guard=none) (s x:Operand) (t:TypeId)
  (ho:o.op= .call { callee:= .builtin .append,args:= #[s,x],argTypes:= #[t,t]})
  (base:Nat) (e:TypeId) (i:TypeInfo) (z:Value) (bytes:Nat) (ht:P.underlying t=some (.slice e)) (hi:P.info? e=some i) (hz:i.zero=some z)
  (hsize:i.size=r.k) (hby:i.bytes=bytes) (hzs:z.cells.size=r.k) (hsz:0<r.k)
  (v:Value) (n:Nat) (xs:List Value) (hs:a.eval s=v) (hown:w.ownsRow base e r.k v n xs)
  {A:Option Addr} {m c:Nat} {l:List α} {fp:List Nat} (hx:a.eval x= .slice A m c) (hS:SlR r w A m c l fp)
  (h63:n+m≤maxLen) (hbytes:(n+m)*bytes≤140737488355328) (hbase:base≤w.heap.size)
  (h: ∀v' w' zs f1,AllR r w zs l f1→(∀b∈f1,b∈fp)→w'.ownsRow base e r.k v' (n+m) (xs++zs)→w.grownBy w' v.ownBlock→K (a.put o.dst v') w'):
  if Region.wanted o (yielded ops a.tmps)=true then Oper.wp P o a w K Q else E:=by
 obtain⟨hm,hmc,hcx,zs,f0,f1,hsl,hal,hf⟩:=hS;have hsub: ∀b∈f1,b∈fp:=fun b hb=>by rw[hf];exact List.mem_append_right _ hb
 cases A with
 |none=>
  rcases hsl.2 with ⟨rfl,_⟩|⟨_,b,o',hA,_⟩
  ·have hz0:zs= []:=List.eq_nil_of_length_eq_zero (by simpa using hsl.1);have hrun:=Zb (P:=P) (w:=w) base t o.type e i r.k ht hi v n xs hown c;have hw:Region.wanted o (yielded ops a.tmps)=true:=by simp[Region.wanted,hgd]
   rw[if_pos hw];unfold Oper.wp;simp[execOp,ho,resolve,invoke,builtin,hs,hx,hrun,Result.andThen];refine h v w zs f1 hal hsub ?_ (World.grownBy.same _ _);rw[hz0,List.append_nil];exact hown
  ·cases hA
 |some ad=>
  refine Xt hgd s x t ho base e i z r.k bytes ht hi hz hsize hby hzs hsz v n xs hs hown ad m c zs hx hsl.1 (fun j u hu=> ?_) hal.one h63 hbytes hbase fun v' w' h1 h2=>h v' w' zs f1 hal hsub h1 h2;rcases hsl.2 with ⟨rfl,_⟩|⟨_,b,o',hA,_,_,hc⟩
  ·have hz0:zs= []:=List.eq_nil_of_length_eq_zero (by simpa using hsl.1);rw[hz0] at hu;cases hu
  ·cases hA;rw[Addr.add_lit];exact hc j u hu
end
end Go.Proofs.YtobbdhgkcoeifaaGreatDoor
