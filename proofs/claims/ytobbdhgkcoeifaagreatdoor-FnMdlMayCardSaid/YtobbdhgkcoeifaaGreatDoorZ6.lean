/- Lemmas and walks, joined by program. -/
import Derived.BigQuiet
import Derived.Orders
import Derived.Test.YtobbdhgkcoeifaaGreatDoorZ1
namespace Go.Proofs.YtobbdhgkcoeifaaGreatDoor
open Go
set_option maxHeartbeats 8000000
set_option maxRecDepth 100000
set_option linter.unusedSimpArgs false
set_option linter.unusedVariables false
abbrev Xr:=Tmp→Value→World→Prop
def Zx (T:World→World→Prop) (Γ:Xr):Prop:=∀s v w w',Γ s v w→T w w'→Γ s v w'
section
variable {P:Program} {ops:Array Oper} {C:Nat→World→Prop} {T:World→World→Prop} {Γ:Xr}
def upT (P:Program) (C:World→Prop) (T:World→World→Prop) (w:World) (V:Value→World→Prop):Result Next→Prop
 | .ok (.value u) w'=>C w'∧T w w'∧V u w'
 | .ok .skip w'=>C w'∧T w w'∧V undef w'
 | .ok (.enter f args) w'=>Calls P f args w' (fun e w''=>∃u,e= .returned u∧C w''∧T w w''∧V u w'')
 |_=>False
def Jg (Γ:Xr) (o:Oper) (u:Value) (w:World):Prop:=match o.dst with
 |none=>True
 |some d=>Γ d u w
theorem Wm (a:Act) (n:Tmp):a.eval (.tmp n)=a.tmps[n]?.getD undef:=by simp[Act.eval]
def jqo (P:Program) (ops:Array Oper) (C:Nat→World→Prop) (T:World→World→Prop) (Γ:Xr) (o:Oper):Prop:=
 ∀(k:Nat) (a:Act) (w:World),k<ops.size→C k w→(∀s∈o.looksAt ops,Γ s (a.tmps[s]?.getD undef) w)→
  if Region.wanted o (yielded ops a.tmps) then upT P (C (k+1)) T w (Jg Γ o) ((execOp a.eval o).run P w) else C (k+1) w∧Jg Γ o undef w
theorem jqk {C:World→Prop} {o:Oper} {a:Act} {w:World} {V:Value→World→Prop} {K:Act→World→Prop} {Q:Exit→Act→World→Prop} (h:upT P C T w V ((execOp a.eval o).run P w))
  (hk: ∀u w',C w'→T w w'→V u w'→K (a.put o.dst u) w'):o.wp P a w K Q:=by
 unfold Oper.wp;generalize(execOp a.eval o).run P w=r at*;cases r with
 |ok n w'=>
  cases n<;>simp only[upT] at h<;>simp only[Oper.upon]
  case value u=>exact hk _ _ h.1 h.2.1 h.2.2
  case skip=>exact hk _ _ h.1 h.2.1 h.2.2
  case enter f args=>exact h.mono fun e w'' ⟨u,he,hc,ht,hv⟩=>by subst he;exact hk _ _ hc ht hv
 |halt x w'=>exact h.elim
def jme (o:Oper) (i:Nat):Bool:=o.after.any fun e=>Region.binds .any e&&e.on==i
def jbm (ops:Array Oper) (stop:Nat):Bool:=
 (List.range ops.size).all fun k=>match ops[k]? with
  |none=>false
  |some o=>o.after.all (fun e=> !Region.binds .any e||decide (e.on<k))&&
   (List.range ops.size).all (fun i=>match ops[i]? with
    |none=>true
    |some p=>match p.dst with
     |none=>true
     |some d=>(!(o.looksAt ops).contains d||jme o i)&&(o.dst !=some d||i==k))&&
   (stop==ops.size||k==stop||(List.range ops.size).any fun j=>decide (k<j)&&match ops[j]? with
    |none=>false
    |some q=>jme q k)
theorem jc8 {stop k:Nat} {o:Oper} (h:jbm ops stop=true) (hk:ops[k]? =some o) {e} (he:e∈o.after) (hb:Region.binds .any e=true):e.on<k:=by
 have hlt:=(Array.getElem?_eq_some_iff.1 hk).1;have h1:=List.all_eq_true.1 h k (by simpa using hlt);simp only[hk,Bool.and_eq_true] at h1;have h2:=Array.all_eq_true'.1 h1.1.1 e he;simpa [hb] using h2
theorem je1 {stop k i d:Nat} {o p:Oper} (h:jbm ops stop=true) (hk:ops[k]? =some o) (hi:ops[i]? =some p) (hd:p.dst=some d) (hs:d∈o.looksAt ops):jme o i=true:=by
 have hlt:=(Array.getElem?_eq_some_iff.1 hk).1;have hlt':=(Array.getElem?_eq_some_iff.1 hi).1;have h1:=List.all_eq_true.1 h k (by simpa using hlt);simp only[hk,Bool.and_eq_true] at h1;have h2:=List.all_eq_true.1 h1.1.2 i (by simpa using hlt');simp only[hi,hd,Bool.and_eq_true] at h2;have h3:=h2.1;simpa [List.contains_iff_mem,hs] using h3
theorem jk8 {stop k i d:Nat} {o p:Oper} (h:jbm ops stop=true) (hk:ops[k]? =some o) (hi:ops[i]? =some p) (hd:p.dst=some d) (ho:o.dst=some d):i=k:=by
 have hlt:=(Array.getElem?_eq_some_iff.1 hk).1;have hlt':=(Array.getElem?_eq_some_iff.1 hi).1;have h1:=List.all_eq_true.1 h k (by simpa using hlt);simp only[hk,Bool.and_eq_true] at h1;have h2:=List.all_eq_true.1 h1.1.2 i (by simpa using hlt');simp only[hi,hd,Bool.and_eq_true] at h2;have h3:=h2.2;simpa [ho] using h3
theorem jk9 {stop k:Nat} (h:jbm ops stop=true) (hs:stop<ops.size) (hk:k<ops.size) (hn:k≠stop): ∃j q,k<j∧ops[j]? =some q∧jme q k=true:=by
 have h1:=List.all_eq_true.1 h k (by simpa using hk);have hko:=Array.getElem?_eq_getElem hk;simp only[hko,Bool.and_eq_true] at h1;have h2:=h1.2;have e1:(stop==ops.size)=false:=by simp;omega
 have e2:(k==stop)=false:=by simpa using hn
 rw[e1,e2,Bool.false_or,Bool.false_or] at h2;obtain⟨j,_,hj⟩:=List.any_eq_true.1 h2;simp only[Bool.and_eq_true,decide_eq_true_eq] at hj;cases hq:ops[j]? with
 |none=>rw[hq] at hj;exact absurd hj.2 (by simp)
 |some q=>rw[hq] at hj;exact⟨j,q,hj.1,hq,hj.2⟩
theorem jfd {o:Oper} {i:Nat} :jme o i=true↔∃e∈o.after,Region.binds .any e=true∧e.on=i:=by
 unfold jme;rw[Array.any_eq_true'];simp
structure TInv (ops:Array Oper) (Γ:Xr) (a0 a:Act) (w:World) (listed:Array Bool):Prop where
 defers:a.defers=a0.defers
 size:a.tmps.size=a0.tmps.size
 other: ∀s:Nat,(∀(i:Nat) o,ops[i]? =some o→o.dst≠some s)→a.tmps[s]? =a0.tmps[s]?
 init: ∀s:Nat,(∀(i:Nat) o,ops[i]? =some o→o.dst≠some s)→Γ s (a.eval (.tmp s)) w
 known: ∀(i:Nat) o d,ops[i]? =some o→listed.getD i false=true→o.dst=some d→Γ d (a.eval (.tmp d)) w
 down: ∀(i:Nat) o,ops[i]? =some o→listed.getD i false=true→∀e∈o.after,Region.binds .any e=true→listed.getD e.on false=true
 lsize:listed.size=ops.size
 range: ∀(i:Nat) o (d:Nat),ops[i]? =some o→o.dst=some d→d<a0.tmps.size
theorem Z3 {listed:Array Bool} {i:Nat} (hl:listed.size=ops.size):i∈Region.ready .any ops listed↔∃o,ops[i]? =some o∧listed.getD i false=false∧∀e∈o.after,Region.binds .any e=true→listed.getD e.on false=true:=by
 unfold Region.ready;simp only[List.mem_filter,List.mem_range,Bool.and_eq_true,Bool.not_eq_true'];constructor
 ·rintro⟨h1,h2,h3⟩;refine⟨ops[i],Array.getElem?_eq_getElem h1, ?_,fun e he hb=> ?_⟩
  ·simpa [Array.getD,hl,h1] using h2
  ·rw[Array.getElem?_eq_getElem h1] at h3;simp only[Option.map_some,Option.getD_some] at h3;have:=Array.all_eq_true'.1 h3 e he;simpa [hb] using this
 ·rintro⟨o,h1,h2,h3⟩;have hlt:=(Array.getElem?_eq_some_iff.1 h1).1;refine⟨hlt,by simpa [Array.getD,hl,hlt] using h2, ?_⟩;rw[h1];simp only[Option.map_some,Option.getD_some];refine Array.all_eq_true'.2 fun e he=> ?_;cases hb:Region.binds .any e
  ·rfl
  ·simpa using h3 e he hb
theorem jgq {stop:Nat} {listed:Array Bool} (hd:jbm ops stop=true) (hl:listed.size=ops.size) (h:Region.ready .any ops listed= []): ∀i,i<ops.size→listed.getD i false=true:=by
 intro i
 induction i using Nat.strongRecOn with
 |ind i ih=>
  intro hi;have hio:=Array.getElem?_eq_getElem hi;cases hb:listed.getD i false
  ·have:i∈Region.ready .any ops listed:=(Z3 hl).2 ⟨_,hio,hb,fun e he hb=>ih e.on (jc8 hd hio he hb) (Nat.lt_trans (jc8 hd hio he hb) hi)⟩;rw[h] at this;cases this
  ·rfl
theorem ji3 {stop:Nat} {listed:Array Bool} (hd:jbm ops stop=true) (hs:stop<ops.size) (hl:listed.size=ops.size) (hdown: ∀(i:Nat) o,ops[i]? =some o→listed.getD i false=true→∀e∈o.after,Region.binds .any e=true→listed.getD e.on false=true)
  (hr:stop∈Region.ready .any ops listed) (htop:ops.size=stop+1): ∀i,i<stop→listed.getD i false=true:=by
 obtain⟨o,ho,_,hall⟩:=(Z3 hl).1 hr;have key: ∀n i,stop - i≤n→i<stop→listed.getD i false=true:=by
  intro n
  induction n with
  |zero=>intro i h1 h2;omega
  |succ n ih=>
   intro i h1 h2;obtain⟨j,q,hj,hq,hw⟩:=jk9 hd hs (k:=i) (by omega) (by omega);have hjs:=(Array.getElem?_eq_some_iff.1 hq).1;obtain⟨e,he,hb,rfl⟩:=jfd.1 hw;by_cases hjl:j=stop
   ·subst hjl;rw[ho] at hq;cases hq;exact hall e he hb
   ·exact hdown j q hq (ih j (by omega) (by omega)) e he hb
 exact fun i hi=>key (stop - i) i nle hi
def jdb (Γ:Xr) (w:World) (Q:Act→Prop):List Oper→Act→Prop
 | [],a=>Q a
 |o::r,a=>match o.dst with
  |none=>jdb Γ w Q r a
  |some d=>∀v,Γ d v w→jdb Γ w Q r (a.put (some d) v)
theorem jh1 {w:World} {Q:Act→Prop} {a:Act} : ∀(l:List Oper) (b:Act),jdb Γ w Q l b→b.tmps.size=a.tmps.size→b.defers=a.defers→(∀o∈l,∀d,o.dst=some d→Γ d (a.eval (.tmp d)) w)→
  (∀s:Nat,(∀o∈l,o.dst≠some s)→b.tmps[s]? =a.tmps[s]?)→Q a
 | [],b,h,h1,h2,_,h4=>by
  have:b=a:=by
   cases a;cases b;simp only at h1 h2 h4;subst h2
   congr 1
   exact Array.ext_getElem? fun s=>h4 s (by simp)
  rwa [this] at h
 |o::l,b,h,h1,h2,h3,h4=>by
  unfold jdb at h;cases hd:o.dst with
  |none=>
   rw[hd] at h;exact jh1 l b h h1 h2 (fun p hp=>h3 p (by simp[hp])) (fun s hs=>h4 s fun p hp=>by
    rcases List.mem_cons.1 hp with rfl|hp
    ·rw[hd];simp
    ·exact hs p hp)
  |some d=>
   rw[hd] at h;refine jh1 l _ (h _ (h3 o (by simp) d hd)) (by simp[Act.put,h1]) (by simp[Act.put,h2]) (fun p hp=>h3 p (by simp[hp])) (fun s hs=> ?_);simp only[Act.put];by_cases e:d=s
   ·subst e;rw[Array.getElem?_setIfInBounds_self];split
    ·rename_i hlt
     have hlt':d<a.tmps.size:=by rw[←h1];exact hlt
     rw[Array.getElem?_eq_getElem hlt'];simp[Act.eval,hlt']
    ·rename_i hlt
     rw[h1] at hlt;rw[Array.getElem?_eq_none (Nat.le_of_not_lt hlt)]
   ·rw[Array.getElem?_setIfInBounds_ne e];refine h4 s fun p hp=> ?_;rcases List.mem_cons.1 hp with rfl|hp
    ·rw[hd];simpa using e
    ·exact hs p hp
theorem TInv.next {a0 a:Act} {w w':World} {listed:Array Bool} {i:Nat} {o:Oper} {u:Value} {stop:Nat} (h:TInv ops Γ a0 a w listed) (hT:Zx T Γ) (hd:jbm ops stop=true) (ho:ops[i]? =some o)
  (hall: ∀e∈o.after,Region.binds .any e=true→listed.getD e.on false=true) (ht:T w w') (hu:Jg Γ o u w'):TInv ops Γ a0 (a.put o.dst u) w' (listed.setIfInBounds i true) where
 defers:=by cases hx:o.dst<;>simp[Act.put,h.defers]
 size:=by cases hx:o.dst<;>simp[Act.put,h.size]
 other:=fun s hs=>by
  have hne:=hs i o ho;cases hx:o.dst with
  |none=>exact h.other s hs
  |some d=>
   have:d≠s:=fun e=>hne (by rw[hx,e]);simp only[Act.put];rw[Array.getElem?_setIfInBounds_ne this];exact h.other s hs
 init:=fun s hs=>by
  have hne:=hs i o ho;rw[Act.eval_put (fun d hd e=>hne (by cases e;exact hd))];exact hT _ _ _ _ (h.init s hs) ht
 known:=fun k p d hk hl hp=>by
  by_cases e:k=i
  ·subst e;rw[ho] at hk;cases hk;unfold Jg at hu;rw[hp] at hu ⊢;simp only at hu;have hr:=h.range k o d ho hp;rw[←h.size] at hr;have e:(a.put (some d) u).eval (.tmp d)=u:=by simp[Act.put,Act.eval,hr]
   rw[e];exact hu
  ·have hne: ∀x,o.dst=some x→Operand.tmp d≠ .tmp x:=fun x hx e'=>by
    cases e';exact e (jk8 hd hk ho hx hp).symm
   rw[Act.eval_put hne];refine hT _ _ _ _ (h.known k p d hk ?_ hp) ht;rwa [getD_set_ne false (Ne.symm e)] at hl
 down:=fun k p hk hl e he hb=>by
  by_cases e1:k=i
  ·subst e1;rw[ho] at hk;cases hk;by_cases e2:e.on=k
   ·have:=jc8 hd ho he hb;omega
   ·rw[getD_set_ne false (Ne.symm e2)];exact hall e he hb
  ·rw[getD_set_ne false (Ne.symm e1)] at hl;have:=h.down k p hk hl e he hb;by_cases e2:e.on=i
   ·rw[e2];have hi:=(Array.getElem?_eq_some_iff.1 ho).1;simp[Array.getD,h.lsize,hi]
   ·rw[getD_set_ne false (Ne.symm e2)];exact this
 lsize:=by simp[h.lsize]
 range:=h.range
def Vp (listed:Array Bool):Nat:=(List.range listed.size).countP fun i=> !listed.getD i false
theorem jar {listed:Array Bool} {i:Nat} (hi:i<listed.size) (h:listed.getD i false=false):Vp listed=Vp (listed.setIfInBounds i true)+1:=by
 unfold Vp;rw[Array.size_setIfInBounds];obtain⟨m,hm⟩: ∃m,listed.size=i+1+m:=⟨listed.size - i - 1,by omega⟩;rw[hm,List.range_add,List.range_succ];simp only[List.countP_append,List.countP_singleton,List.countP_map];have e1:(List.range i).countP (fun k=> !listed.getD k false)=(List.range i).countP (fun k=> !(listed.setIfInBounds i true).getD k false):=
  List.countP_congr fun k hk=>by rw[getD_set_ne false (by have:=List.mem_range.1 hk;omega)]
 have e2:(List.range m).countP ((fun k=> !listed.getD k false)∘fun x=>i+1+x)=(List.range m).countP ((fun k=> !(listed.setIfInBounds i true).getD k false)∘fun x=>i+1+x):=
  List.countP_congr fun k hk=>by simp only[Function.comp];rw[getD_set_ne false (by omega)]
 have e3:(listed.setIfInBounds i true).getD i false=true:=by simp[hi]
 rw[e1,e2,e3,h];simp;omega
theorem jdd {listed:Array Bool} (h:Vp listed=0) {i:Nat} (hi:i<listed.size):listed.getD i false=true:=by
 unfold Vp at h;rw[List.countP_eq_zero] at h;have:=h i (by simpa using hi);simpa using this
theorem jj1 {stop:Nat} {Q:Exit→Act→World→Prop} {a0:Act} (hT:Zx T Γ) (hd:jbm ops stop=true) (hf: ∀(i:Nat) o,i<stop→ops[i]? =some o→jqo P ops C T Γ o)
  (hstop:stop=ops.size∨ops.size=stop+1) (hrefl: ∀w,T w w)
  (hend: ∀a w listed,TInv ops Γ a0 a w listed→C stop w→(∀i,i<stop→listed.getD i false=true)→(stop=ops.size→Q .normal a w)∧(∀o,ops[stop]? =some o→wpList P ops Q [o] a w)):
  ∀(fuel:Nat) (listed:Array Bool) (a:Act) (w:World),TInv ops Γ a0 a w listed→Vp listed=fuel→C (ops.size - fuel) w→(stop<ops.size→listed.getD stop false=false)→wpAny P .any ops Q fuel listed a w:=by
 intro fuel
 induction fuel with
 |zero=>
  intro listed a w h hu hc hns;have hall: ∀i,i<ops.size→listed.getD i false=true:=fun i hi=>jdd hu (by rw[h.lsize];exact hi);have hs:stop=ops.size:=by
   rcases hstop with hs|hs
   ·exact hs
   ·have:=hns (by omega);rw[hall stop (by omega)] at this;cases this
  refine⟨?_,(hend a w listed h (by rw[hs];simpa using hc) fun i hi=>hall i (by omega)).1 hs⟩;cases hr:Region.ready .any ops listed with
  |nil=>rfl
  |cons x xs=>
   have hx:x∈Region.ready .any ops listed:=by rw[hr];simp
   obtain⟨o,ho,hl,_⟩:=(Z3 h.lsize).1 hx;rw[hall x (Array.getElem?_eq_some_iff.1 ho).1] at hl;cases hl
 |succ fuel ih=>
  intro listed a w h hu hc hns;refine⟨fun hr=> ?_,fun i hi=> ?_⟩
  ·have hall:=jgq hd h.lsize hr;have hs:stop=ops.size:=by
    rcases hstop with hs|hs
    ·exact hs
    ·have:=hns (by omega);rw[hall stop (by omega)] at this;cases this
   have hz:Vp listed=0:=by
    unfold Vp;rw[List.countP_eq_zero];intro i hi;simp[hall i (by rw[←h.lsize];simpa using hi)]
   omega
  ·obtain⟨o,ho,hl,hall⟩:=(Z3 h.lsize).1 hi;have hlt:=(Array.getElem?_eq_some_iff.1 ho).1;by_cases hst:i=stop
   ·subst hst;have hsz:ops.size=i+1:=hstop.resolve_left (by omega);have hpre:=ji3 hd hlt h.lsize h.down hi hsz;have hone:fuel=0:=by
     have h1:=jar (i:=i) (by rw[h.lsize];exact hlt) hl;have h2:Vp (listed.setIfInBounds i true)=0:=by
      unfold Vp;rw[List.countP_eq_zero];intro x hx;have hx':x<ops.size:=by rw[←h.lsize];simpa using hx
      by_cases e:x=i
      ·subst e;simp[h.lsize,hlt]
      ·rw[getD_set_ne false (Ne.symm e),hpre x (by omega)];simp
     omega
    have hw:=(hend a w listed h (by rw[hone,hsz] at hc;simpa using hc) hpre).2 o ho;unfold wpOp;simp only[ho];unfold wpList at hw;have hafter: ∀a' w',Q .normal a' w'→wpAny P .any ops Q fuel (listed.setIfInBounds i true) a' w':=fun a' w' hq=>by
     have hr:Region.ready .any ops (listed.setIfInBounds i true)= []:=by
      cases hr:Region.ready .any ops (listed.setIfInBounds i true) with
      |nil=>rfl
      |cons x xs=>
       have hx:x∈Region.ready .any ops (listed.setIfInBounds i true):=by rw[hr];simp
       obtain⟨p,hp,hlp,_⟩:=(Z3 (by simp[h.lsize])).1 hx;have hxs:=(Array.getElem?_eq_some_iff.1 hp).1;by_cases e:x=i
       ·subst e;simp[h.lsize,hlt] at hlp
       ·rw[getD_set_ne false (Ne.symm e),hpre x (by omega)] at hlp;cases hlp
     cases fuel with
     |zero=>exact⟨hr,hq⟩
     |succ fuel=>exact⟨fun _=>hq,fun x hx=>by rw[hr] at hx;cases hx⟩
    split
    ·rename_i hwt
     rw[if_pos hwt] at hw;exact hw.imp (Oper.wp_mono fun a' w' hq=>hafter a' w' hq) id
    ·rename_i hwt
     rw[if_neg hwt] at hw;exact hafter _ _ hw
   ·have hi':i<stop:=by rcases hstop with hs|hs<;>omega
    have hfu:fuel+1≤ops.size:=by rw[←hu];exact Nat.le_trans (List.countP_le_length) (by simp[h.lsize])
    have hk:=hf i o hi' ho (ops.size - (fuel+1)) a w (by omega) hc (fun s hs=>by
     by_cases hx: ∀(k:Nat) p,ops[k]? =some p→p.dst≠some s
     ·rw[←Wm];exact h.init s hx
     ·have hx': ∃(k:Nat) (p:Oper),ops[k]? =some p∧p.dst=some s:=by
       refine Classical.byContradiction fun hc=>hx fun k p hp hd=>hc ⟨k,p,hp,hd⟩
      obtain⟨k,p,hp,hds⟩:=hx';have hwt:=je1 hd ho hp hds hs;obtain⟨e,he,hb,rfl⟩:=jfd.1 hwt;rw[←Wm];exact h.known e.on p s hp (hall e he hb) hds)
    have hse:ops.size - (fuel+1)+1=ops.size - fuel:=by omega
    rw[hse] at hk;have hgo: ∀u w',C (ops.size - fuel) w'→T w w'→Jg Γ o u w'→wpAny P .any ops Q fuel (listed.setIfInBounds i true) (a.put o.dst u) w':=fun u w' hc ht hv=>
     ih _ _ _ (h.next hT hd ho hall ht hv) (by have:=jar (i:=i) (by rw[h.lsize];exact hlt) hl;omega) hc (fun hs=>by rw[getD_set_ne false hst];exact hns hs)
    unfold wpOp;simp only[ho];split
    ·rename_i hwt
     rw[if_pos hwt] at hk;exact .inl (jqk hk hgo)
    ·rename_i hwt
     rw[if_neg hwt] at hk;exact hgo _ _ hk.1 (hrefl w) hk.2
structure TStart (ops:Array Oper) (C:Nat→World→Prop) (Γ:Xr) (a:Act) (w:World):Prop where
 cl:C 0 w.drew
 init: ∀s:Nat,((ops.toList.filterMap (·.dst)).contains s=false)→Γ s (a.eval (.tmp s)) w.drew
 range:ops.toList.all (fun o=>match o.dst with|none=>true|some d=>decide (d<a.tmps.size))=true
theorem TStart.inv {a:Act} {w:World} (h:TStart ops C Γ a w):TInv ops Γ a a w.drew (Array.replicate ops.size false) where
 defers:=rfl
 size:=rfl
 other:=fun _ _=>rfl
 init:=fun s hs=>h.init s (by
  cases hc:(ops.toList.filterMap (·.dst)).contains s
  ·rfl
  ·rw[List.contains_iff_mem,List.mem_filterMap] at hc;obtain⟨o,ho,hd⟩:=hc;obtain⟨i,hi,rfl⟩:=List.mem_iff_getElem.1 ho;exact absurd hd (hs i _ (by rw[Array.getElem?_eq_getElem (by simpa using hi)];simp)))
 known:=fun i o d hi hl=>by simp[Array.getD] at hl
 down:=fun i o hi hl=>by simp[Array.getD] at hl
 lsize:=by simp
 range:=fun i o d hi hd=>by
  have:=List.all_eq_true.1 h.range o (by rw[Array.mem_toList_iff];exact Array.mem_of_getElem? hi);rw[hd] at this;simpa using this
theorem jax (n:Nat):Vp (Array.replicate n false)=n:=by
 unfold Vp;rw[Array.size_replicate,List.countP_eq_length.2 (fun i hi=>by
  have:=List.mem_range.1 hi;simp[Array.getD,this])]
 simp
theorem TInv.fin {a0 a:Act} {w:World} {listed:Array Bool} {Q:Act→Prop} {l:List Oper} (h:TInv ops Γ a0 a w listed) (hl: ∀o∈l,∃i:Nat,ops[i]? =some o∧listed.getD i false=true)
  (hout: ∀(s:Nat),(∀o∈l,o.dst≠some s)→∀(i:Nat) o,ops[i]? =some o→o.dst≠some s) (hf:jdb Γ w Q l a0):Q a:=
 jh1 l a0 hf h.size.symm h.defers.symm (fun o ho d hd=>by obtain⟨i,hi,hk⟩:=hl o ho;exact h.known i o d hi hk hd) (fun s hs=>(h.other s (hout s hs)).symm)
theorem Jt {id:Nat} {Q:Exit→Act→World→Prop} {a:Act} {w:World} {L:List Oper} (n:Nat) (o:Oper) (hL:L=L.take n++ [o]) (C:Nat→World→Prop) (T:World→World→Prop) (Γ:Xr) (hm:P.follows .mixedOrders=true) (hn:n+1=L.length) (hd:jbm L.toArray n=true)
  (hn0:o.dst=none) (hT:Zx T Γ) (hrefl: ∀w,T w w) (hs:TStart L.toArray C Γ a w) (hf: ∀p∈L.take n,jqo P L.toArray C T Γ p) (h: ∀w',C n w'→jdb Γ w' (fun a'=>wpList P L.toArray Q [o] a' w') (L.take n) a):(Code.region id L.toArray true).wp P Q a w:=by
 have hat:L[n]? =some o:=by
  rw[hL,List.getElem?_append_right (by simp;omega)];simp only[List.length_take];rw[show n - min n L.length=0 by omega];rfl
 refine wp_region_any hm ?_;refine jj1 (C:=C) (stop:=n) hT hd (fun i p hi ho=>hf p ?_) (.inr (by simp[hn])) hrefl (fun a' w' listed hi hc hall=>⟨fun he=>absurd he (by simp;omega),fun p hp=> ?_⟩) _ _ _ _ hs.inv (by simp[jax]) (by simpa using hs.cl) (fun h=>by simp[Array.getD])
 ·have hx:L[i]? =some p:=by simpa using ho
  exact List.mem_take_iff_getElem.2 ⟨i,by have:=(List.getElem?_eq_some_iff.1 hx).1;omega,(List.getElem?_eq_some_iff.1 hx).2⟩
 ·have hx:L[n]? =some p:=by simpa using hp
  rw[hat] at hx;obtain rfl:=Option.some.inj hx;refine hi.fin (l:=L.take n) (fun q hq=> ?_) (fun s hs i q hi=> ?_) (h w' hc)
  ·obtain⟨i,hlt,rfl⟩:=List.mem_take_iff_getElem.1 hq;exact⟨i,by simp[show i<L.length by omega],hall i (by omega)⟩
  ·have hq:L[i]? =some q:=by simpa using hi
   obtain⟨hlt,he⟩:=List.getElem?_eq_some_iff.1 hq;by_cases e:i=n
   ·subst e;rw[hat] at hq;obtain rfl:=Option.some.inj hq;rw[hn0];simp
   ·exact hs q (List.mem_take_iff_getElem.2 ⟨i,by omega,he⟩)
end
section
def tau (a:Act):Tmp→Value:=fun s=>a.tmps[s]?.getD undef
def jaf (τ:Tmp→Value) (d:Option Tmp) (u:Value):Tmp→Value:=match d with
 |none=>τ
 |some d=>fun s=>if s=d then u else τ s
theorem tau_put {a:Act} {d:Option Tmp} {u:Value} (h: ∀x:Nat,d=some x→x<a.tmps.size):tau (a.put d u)=jaf (tau a) d u:=by
 funext s
 cases d with
 |none=>rfl
 |some d=>
  have hd:(d:Nat)<a.tmps.size:=h d rfl;unfold tau jaf Act.put;by_cases e:s=d
  ·subst e;simp[hd]
  ·simp only[if_neg e];rw[Array.getElem?_setIfInBounds_ne (Ne.symm e)]
variable {P:Program} {ops:Array Oper} {C:Array Bool→(Tmp→Value)→World→Prop} {T:World→World→Prop} {Γ:Xr}
def fitsV (P:Program) (ops:Array Oper) (C:Array Bool→(Tmp→Value)→World→Prop) (T:World→World→Prop) (Γ:Xr) (i:Nat) (o:Oper):Prop:=
 ∀(L:Array Bool) (a:Act) (w:World),L.size=ops.size→L.getD i false=false→(∀e∈o.after,Region.binds .any e=true→L.getD e.on false=true)→C L (tau a) w→(∀s∈o.looksAt ops,Γ s (a.tmps[s]?.getD undef) w)→
  if Region.wanted o (yielded ops a.tmps) then upT P (fun _=>True) T w (fun u w'=>Jg Γ o u w'∧C (L.setIfInBounds i true) (jaf (tau a) o.dst u) w') ((execOp a.eval o).run P w) else C (L.setIfInBounds i true) (jaf (tau a) o.dst undef) w∧Jg Γ o undef w
theorem jfc {stop:Nat} {Q:Exit→Act→World→Prop} {a0:Act} (hT:Zx T Γ) (hd:jbm ops stop=true) (hf: ∀(i:Nat) o,i<stop→ops[i]? =some o→fitsV P ops C T Γ i o)
  (hstop:stop=ops.size∨ops.size=stop+1) (hrefl: ∀w,T w w)
  (hend: ∀a w listed,TInv ops Γ a0 a w listed→C listed (tau a) w→(∀i,i<stop→listed.getD i false=true)→(stop=ops.size→Q .normal a w)∧(∀o,ops[stop]? =some o→wpList P ops Q [o] a w)):
  ∀(fuel:Nat) (listed:Array Bool) (a:Act) (w:World),TInv ops Γ a0 a w listed→Vp listed=fuel→C listed (tau a) w→(stop<ops.size→listed.getD stop false=false)→wpAny P .any ops Q fuel listed a w:=by
 intro fuel
 induction fuel with
 |zero=>
  intro listed a w h hu hc hns;have hall: ∀i,i<ops.size→listed.getD i false=true:=fun i hi=>jdd hu (by rw[h.lsize];exact hi);have hs:stop=ops.size:=by
   rcases hstop with hs|hs
   ·exact hs
   ·have:=hns (by omega);rw[hall stop (by omega)] at this;cases this
  refine⟨?_,(hend a w listed h hc fun i hi=>hall i (by omega)).1 hs⟩;cases hr:Region.ready .any ops listed with
  |nil=>rfl
  |cons x xs=>
   have hx:x∈Region.ready .any ops listed:=by rw[hr];simp
   obtain⟨o,ho,hl,_⟩:=(Z3 h.lsize).1 hx;rw[hall x (Array.getElem?_eq_some_iff.1 ho).1] at hl;cases hl
 |succ fuel ih=>
  intro listed a w h hu hc hns;refine⟨fun hr=> ?_,fun i hi=> ?_⟩
  ·have hall:=jgq hd h.lsize hr;have hs:stop=ops.size:=by
    rcases hstop with hs|hs
    ·exact hs
    ·have:=hns (by omega);rw[hall stop (by omega)] at this;cases this
   have hz:Vp listed=0:=by
    unfold Vp;rw[List.countP_eq_zero];intro i hi;simp[hall i (by rw[←h.lsize];simpa using hi)]
   omega
  ·obtain⟨o,ho,hl,hall⟩:=(Z3 h.lsize).1 hi;have hlt:=(Array.getElem?_eq_some_iff.1 ho).1;by_cases hst:i=stop
   ·subst hst;have hsz:ops.size=i+1:=hstop.resolve_left (by omega);have hpre:=ji3 hd hlt h.lsize h.down hi hsz;have hone:fuel=0:=by
     have h1:=jar (i:=i) (by rw[h.lsize];exact hlt) hl;have h2:Vp (listed.setIfInBounds i true)=0:=by
      unfold Vp;rw[List.countP_eq_zero];intro x hx;have hx':x<ops.size:=by rw[←h.lsize];simpa using hx
      by_cases e:x=i
      ·subst e;simp[h.lsize,hlt]
      ·rw[getD_set_ne false (Ne.symm e),hpre x (by omega)];simp
     omega
    have hw:=(hend a w listed h hc hpre).2 o ho;unfold wpOp;simp only[ho];unfold wpList at hw;have hafter: ∀a' w',Q .normal a' w'→wpAny P .any ops Q fuel (listed.setIfInBounds i true) a' w':=fun a' w' hq=>by
     have hr:Region.ready .any ops (listed.setIfInBounds i true)= []:=by
      cases hr:Region.ready .any ops (listed.setIfInBounds i true) with
      |nil=>rfl
      |cons x xs=>
       have hx:x∈Region.ready .any ops (listed.setIfInBounds i true):=by rw[hr];simp
       obtain⟨p,hp,hlp,_⟩:=(Z3 (by simp[h.lsize])).1 hx;have hxs:=(Array.getElem?_eq_some_iff.1 hp).1;by_cases e:x=i
       ·subst e;simp[h.lsize,hlt] at hlp
       ·rw[getD_set_ne false (Ne.symm e),hpre x (by omega)] at hlp;cases hlp
     cases fuel with
     |zero=>exact⟨hr,hq⟩
     |succ fuel=>exact⟨fun _=>hq,fun x hx=>by rw[hr] at hx;cases hx⟩
    split
    ·rename_i hwt
     rw[if_pos hwt] at hw;exact hw.imp (Oper.wp_mono fun a' w' hq=>hafter a' w' hq) id
    ·rename_i hwt
     rw[if_neg hwt] at hw;exact hafter _ _ hw
   ·have hi':i<stop:=by rcases hstop with hs|hs<;>omega
    have hrg: ∀x:Nat,o.dst=some x→x<a.tmps.size:=fun x hx=>by rw[h.size];exact h.range i o x ho hx
    have hk:=hf i o hi' ho listed a w h.lsize hl hall hc (fun s hs=>by
     by_cases hx: ∀(k:Nat) p,ops[k]? =some p→p.dst≠some s
     ·rw[←Wm];exact h.init s hx
     ·have hx': ∃(k:Nat) (p:Oper),ops[k]? =some p∧p.dst=some s:=by
       refine Classical.byContradiction fun hc=>hx fun k p hp hd=>hc ⟨k,p,hp,hd⟩
      obtain⟨k,p,hp,hds⟩:=hx';have hwt:=je1 hd ho hp hds hs;obtain⟨e,he,hb,rfl⟩:=jfd.1 hwt;rw[←Wm];exact h.known e.on p s hp (hall e he hb) hds)
    have hgo: ∀u w',True→T w w'→(Jg Γ o u w'∧C (listed.setIfInBounds i true) (jaf (tau a) o.dst u) w')→wpAny P .any ops Q fuel (listed.setIfInBounds i true) (a.put o.dst u) w':=fun u w' _ ht hv=>
     ih _ _ _ (h.next hT hd ho hall ht hv.1) (by have:=jar (i:=i) (by rw[h.lsize];exact hlt) hl;omega) (by rw[tau_put hrg];exact hv.2) (fun hs=>by rw[getD_set_ne false hst];exact hns hs)
    unfold wpOp;simp only[ho];split
    ·rename_i hwt
     rw[if_pos hwt] at hk;exact .inl (jqk hk hgo)
    ·rename_i hwt
     rw[if_neg hwt] at hk;exact hgo _ _ trivial (hrefl w) ⟨hk.2,hk.1⟩
structure VStart (ops:Array Oper) (C:Array Bool→(Tmp→Value)→World→Prop) (Γ:Xr) (a:Act) (w:World):Prop where
 cl:C (Array.replicate ops.size false) (tau a) w.drew
 init: ∀s:Nat,((ops.toList.filterMap (·.dst)).contains s=false)→Γ s (a.eval (.tmp s)) w.drew
 range:ops.toList.all (fun o=>match o.dst with|none=>true|some d=>decide (d<a.tmps.size))=true
theorem VStart.inv {a:Act} {w:World} (h:VStart ops C Γ a w):TInv ops Γ a a w.drew (Array.replicate ops.size false):=
 TStart.inv (C:=fun _ w'=>C (Array.replicate ops.size false) (tau a) w') ⟨h.cl,h.init,h.range⟩
theorem Jz {id:Nat} {Q:Exit→Act→World→Prop} {a:Act} {w:World} {L:List Oper} (n:Nat) (o:Oper) (hL:L=L.take n++ [o]) (C:Array Bool→(Tmp→Value)→World→Prop) (T:World→World→Prop) (Γ:Xr) (hm:P.follows .mixedOrders=true) (hn:n+1=L.length) (hd:jbm L.toArray n=true)
  (hn0:o.dst=none) (hT:Zx T Γ) (hrefl: ∀w,T w w) (hs:VStart L.toArray C Γ a w) (hf: ∀(i:Nat) p,i<n→L[i]? =some p→fitsV P L.toArray C T Γ i p) (h: ∀l w' τ,(∀i,i<n→l.getD i false=true)→C l τ w'→jdb Γ w' (fun a'=>tau a'=τ→wpList P L.toArray Q [o] a' w') (L.take n) a):(Code.region id L.toArray true).wp P Q a w:=by
 have hat:L[n]? =some o:=by
  rw[hL,List.getElem?_append_right (by simp;omega)];simp only[List.length_take];rw[show n - min n L.length=0 by omega];rfl
 refine wp_region_any hm ?_;refine jfc (C:=C) (stop:=n) hT hd (fun i p hi ho=>hf i p hi (by simpa using ho)) (.inr (by simp[hn])) hrefl (fun a' w' listed hi hc hall=>⟨fun he=>absurd he (by simp;omega),fun p hp=> ?_⟩) _ _ _ _ hs.inv (by simp[jax]) hs.cl (fun h=>by simp[Array.getD])
 ·have hx:L[n]? =some p:=by simpa using hp
  rw[hat] at hx;obtain rfl:=Option.some.inj hx;refine hi.fin (Q:=fun b=>tau b=tau a'→wpList P L.toArray Q [o] b w') (l:=L.take n) (fun q hq=> ?_) (fun s hs i q hi=> ?_) (h listed w' (tau a') hall hc) rfl
  ·obtain⟨i,hlt,rfl⟩:=List.mem_take_iff_getElem.1 hq;exact⟨i,by simp[show i<L.length by omega],hall i (by omega)⟩
  ·have hq:L[i]? =some q:=by simpa using hi
   obtain⟨hlt,he⟩:=List.getElem?_eq_some_iff.1 hq;by_cases e:i=n
   ·subst e;rw[hat] at hq;obtain rfl:=Option.some.inj hq;rw[hn0];simp
   ·exact hs q (List.mem_take_iff_getElem.2 ⟨i,by omega,he⟩)
end
def vbk (v:Value):List Nat:=match v with
 | .slice (some a) _ _=>[a.block]
 | .pointer (some a)=>[a.block]
 |_=>[]
structure Apart (gr:Tmp→Option (Nat×Nat)) (H:Nat) (L:Array Bool) (τ:Tmp→Value) (w:World):Prop where
 lo: ∀s g i,gr s=some (g,i)→L.getD i false=true→∀z∈vbk (τ s),H≤z∧z<w.heap.size
 dj: ∀s t g i h j,gr s=some (g,i)→gr t=some (h,j)→g≠h→L.getD i false=true→L.getD j false=true→∀z∈vbk (τ s),z∉vbk (τ t)
theorem Vu {L:Array Bool} {i j:Nat} (h:(L.setIfInBounds i true).getD j false=true):j=i∨L.getD j false=true:=by
 by_cases e:i=j
 ·exact .inl e.symm
 ·rw[getD_set_ne false e] at h;exact .inr h
section
variable {gr:Tmp→Option (Nat×Nat)} {H:Nat} {L:Array Bool} {τ:Tmp→Value} {w w':World}
theorem Apart.same {i:Nat} {d:Option Tmp} {u:Value} (h:Apart gr H L τ w) (hd: ∀s,d=some s→gr s=none) (hi: ∀s g,gr s≠some (g,i)) (hs:w.heap.size≤w'.heap.size):Apart gr H (L.setIfInBounds i true) (jaf τ d u) w':=by
 have e: ∀s g j,gr s=some (g,j)→jaf τ d u s=τ s:=fun s g j hg=>by
  cases d with
  |none=>rfl
  |some d=>
   have:s≠d:=fun e=>by rw[e,hd d rfl] at hg;cases hg
   simp[jaf,this]
 refine⟨fun s g j hg hj=> ?_,fun s t g j k l hg hk hne hj hl=> ?_⟩
 ·rw[e s g j hg];rcases Vu hj with rfl|hj
  ·exact absurd hg (hi s g)
  ·exact fun z hz=>⟨(h.lo s g j hg hj z hz).1,Nat.lt_of_lt_of_le (h.lo s g j hg hj z hz).2 hs⟩
 ·rw[e s g j hg,e t k l hk];rcases Vu hj with rfl|hj
  ·exact absurd hg (hi s g)
  ·rcases Vu hl with rfl|hl
   ·exact absurd hk (hi t k)
   ·exact h.dj s t g j k l hg hk hne hj hl
theorem Apart.next {i d g:Nat} {u:Value} (h:Apart gr H L τ w) (hd:gr d=some (g,i)) (hi: ∀s k,gr s=some (k,i)→s=d) (hs:w.heap.size≤w'.heap.size) (hH:H≤w.heap.size)
  (hu: ∀z∈vbk u,(w.heap.size≤z∧z<w'.heap.size)∨∃s j,s≠d∧gr s=some (g,j)∧L.getD j false=true∧z∈vbk (τ s)):Apart gr H (L.setIfInBounds i true) (jaf τ (some d) u) w':=by
 have ed:jaf τ (some d) u d=u:=by simp[jaf]
 have eo: ∀s,s≠d→jaf τ (some d) u s=τ s:=fun s hs=>by simp[jaf,hs]
 have hnew: ∀t k l,gr t=some (k,l)→g≠k→L.getD l false=true→∀z∈vbk u,z∉vbk (τ t):=fun t k l hk hne hl z hz hm=>by
  rcases hu z hz with h1|⟨s,j,_,h2,h3,h4⟩
  ·have:=(h.lo t k l hk hl z hm).2;omega
  ·exact h.dj s t g j k l h2 hk hne h3 hl z h4 hm
 refine⟨fun s k j hg hj=> ?_,fun s t k j k' l hg hk hne hj hl=> ?_⟩
 ·by_cases e:s=d
  ·subst e;rw[ed];intro z hz;rcases hu z hz with h1|⟨s',j',_,h2,h3,h4⟩
   ·exact⟨by omega,h1.2⟩
   ·exact⟨(h.lo s' g j' h2 h3 z h4).1,Nat.lt_of_lt_of_le (h.lo s' g j' h2 h3 z h4).2 hs⟩
  ·rw[eo s e];rcases Vu hj with rfl|hj
   ·exact absurd (hi s k hg) e
   ·exact fun z hz=>⟨(h.lo s k j hg hj z hz).1,Nat.lt_of_lt_of_le (h.lo s k j hg hj z hz).2 hs⟩
 ·by_cases es:s=d
  ·subst es;have hkg:k=g:=by rw[hd] at hg;cases hg;rfl
   subst hkg;by_cases et:t=s
   ·subst et;rw[hd] at hk;cases hk;exact absurd rfl hne
   ·rw[ed,eo t et];rcases Vu hl with rfl|hl
    ·exact absurd (hi t k' hk) et
    ·exact hnew t k' l hk hne hl
  ·rw[eo s es];rcases Vu hj with rfl|hj
   ·exact absurd (hi s k hg) es
   ·by_cases et:t=d
    ·subst et;have hkg:k'=g:=by rw[hd] at hk;cases hk;rfl
     subst hkg;rw[ed];exact fun z hz hm=>hnew s k j hg (Ne.symm hne) hj z hm hz
    ·rw[eo t et];rcases Vu hl with rfl|hl
     ·exact absurd (hi t k' hk) et
     ·exact h.dj s t k j k' l hg hk hne hj hl
theorem Apart.start (gr:Tmp→Option (Nat×Nat)) (H n:Nat) (τ:Tmp→Value) (w:World):Apart gr H (Array.replicate n false) τ w:=
 ⟨fun s g i _ hi=>by simp[Array.getD] at hi,fun s t g i h j _ _ _ hi=>by simp[Array.getD] at hi⟩
end
end Go.Proofs.YtobbdhgkcoeifaaGreatDoor
