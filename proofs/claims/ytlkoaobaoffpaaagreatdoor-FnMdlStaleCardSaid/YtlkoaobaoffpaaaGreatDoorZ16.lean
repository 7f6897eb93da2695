/- Lemmas and walks, joined and shortened by program (wip/gen/merge2.py). -/
import Derived.Test.YtlkoaobaoffpaaaGreatDoorZ13
import Derived.Test.YtlkoaobaoffpaaaGreatDoorZ14
namespace Go.Proofs.YtlkoaobaoffpaaaGreatDoor
open Go.RowKit
attribute [local go_sem ↓] Go.wp_at_zero Go.wp_at_succ
set_option maxHeartbeats 8000000
set_option maxRecDepth 100000
set_option linter.unusedSimpArgs false
set_option linter.unusedVariables false
theorem jjd:(Tryz.prog.info? 3).map (fun i=>(i.zero,i.size,i.bytes))=some (some (.int .i64 0),1,8):=by kernel_rfl
def jgh (n:Nat):List Int:=(List.range n).map fun k:Nat=>10+(k:Int)
theorem jna (n:Nat):(jgh (n+1)).flatMap jnh=(jgh n).flatMap jnh++ [.int .i64 (10+(n:Int))]:=by
 simp[jgh,List.range_succ,jnh]
theorem jjb (n:Nat):(jgh n).length=n:=by simp[jgh]
theorem jku (n:Nat) (hn:n≤100) (w:World):
  Calls Tryz.prog 80 #[.int .i64 (n:Int)] w fun e w'=>∃v,e= .returned v∧w'.ownsRow w.heap.size 3 1 v (jgh n).length ((jgh n).flatMap jnh)∧Below w.heap.size w w':=by
 obtain⟨i0,hi,hz0,hz1,hz2⟩:=info_parts jjd;have HO:=Ja (World.ownsRow_made (base:=w.heap.size) (e:=3) (size:=1) w #[] 0 nle (by simp[maxLen]) rfl);have HB:=(Below.refl w.heap.size w).alloc nle (.cells #[] 3);go_enter Tryz.func80,Tryz.ntmps80;go_wp2
 go_loopw [3,4] (fun v kv wr=>∃j:Nat,kv= .int .i64 (j:Int)∧j≤n∧wr.ownsRow w.heap.size 3 1 v j ((jgh j).flatMap jnh)∧Below w.heap.size w wr) (fun _ i _=>n - (intOf i).toNat)
 case atStart=>exact⟨0,rfl,by omega,HO.out,HB⟩
 case round=>
  obtain⟨j,rfl,hj,hown,hb⟩:=hrel;have HW1:=Ja hown;clear hown HO HB;by_cases hlt:j<n
  ·have hlt':(j:Int)<(n:Int):=by omega
   have hsz:=hb.size;have hown3:=HW1.out;have hbA:=(Below.refl w.heap.size wr).alloc hsz (.cells #[.int .i64 (10+(j:Int))] 3);clear HW1
   go_wp2_with(at_builtin;refine wpList_append_own _ rfl _ _ 23 rfl w.heap.size 3 i0 _ 1 8 Tryz.underlying23 hi hz0 hz1 hz2 rfl (by decide) _ _ _ rfl (hown3.alloc _) ⟨wr.heap.size,0,none⟩ 1 1 [.int .i64 (10+(j:Int))] rfl rfl (Jm wr [.int .i64 (10+(j:Int))] _) (by simp[Value.oneCell']) (by unfold maxLen;omega) (by omega) (by simp;omega) ?_);intro v4 w4 hown4 hgrow _
   have hlow:Below w.heap.size wr w4:=hbA.grown hgrow (by simp;omega) (fun j hj=>(hown3.lt j hj).1);have hb4:=hb.trans hlow;have HW4:=Ja hown4;clear hown4 hgrow hlow hown3 hbA hb hsz;go_wp2;exact⟨⟨j+1,by go_num,by omega,by rw[jna];exact HW4.out,hb4⟩,by simp[intOf];omega⟩
  ·have hlt': ¬(j:Int)<(n:Int):=by omega
   obtain rfl:j=n:=by omega
   go_wp2;go_ret;exact⟨_,rfl,by rw[jjb];exact HW1.out,hb⟩
def jch (q:Req):List Value:=(V5 q (.slice none 0 0)).toList
theorem jjw {w:World} : ∀ {l:List Req},(∀q∈l,q.Ez= [])→AllR Rp.req w (l.flatMap jch) l []
 | [],_=>⟨rfl,rfl⟩
 |q::l,h=>⟨jch q,l.flatMap jch,[],[],rfl,rfl,⟨none,0,0,[],rfl,rfl,by rw[h q (by simp)];exact SlR.nil⟩,jjw fun x hx=>h x (by simp[hx])⟩
def jlv (u:Int) (ref path:ByteArray) (wr:Bool):Yt:=⟨u,ref,path,wr⟩
def startL:List Req:=
 [{ Ws with user:=1,key:=10,kind:=6,ref:=⟨#[97]⟩},
  { Ws with user:=1,key:=10,kind:=4,rule:=jlv 1 ⟨#[]⟩ ⟨#[]⟩ true},
  { Ws with user:=1,key:=10,kind:=4,rule:=jlv 2 ⟨#[97]⟩ ⟨#[97]⟩ true},
  { Ws with user:=1,key:=10,kind:=4,rule:=jlv 3 ⟨#[97]⟩ ⟨#[98]⟩ false},
  { Ws with user:=2,key:=11,repo:=1,kind:=6,ref:=⟨#[97]⟩},
  { Ws with user:=2,key:=11,repo:=1,kind:=4,rule:=jlv 2 ⟨#[]⟩ ⟨#[]⟩ true},
  { Ws with user:=1,key:=10,kind:=6,ref:=⟨#[98]⟩}]
theorem jj7: ∀q∈startL,q.Ez= []:=by unfold startL Ws;simp
theorem jmj: ∀q∈startL,jdu q:=by
 unfold startL;intro q hq;have h0: ∀(i:Nat) (h:i<([]:List Wz).length),jed ([]:List Wz)[i]:=fun i h=>absurd h (Nat.not_lt_zero _);simp only[List.mem_cons,List.not_mem_nil,or_false] at hq;rcases hq with rfl|rfl|rfl|rfl|rfl|rfl|rfl<;>exact⟨by decide,by decide,by decide,⟨by decide,by decide⟩,h0⟩
theorem ji7 (w:World):
  Calls Tryz.prog 81 #[] w fun e w'=>∃A c f,e= .returned (.slice A 7 c)∧SlR Rp.req w' A 7 c startL f∧(∀z∈f,w.heap.size≤z)∧Below w.heap.size w w':=by
 have HB:=Ja ((Below.refl w.heap.size w).alloc nle (.cells (startL.flatMap jch).toArray 31));have HS:=Ja (SlR.of_owns (r:=Rp.req) (w:=w.alloc (.cells (startL.flatMap jch).toArray 31)) (l:=startL) (World.ownsRow_lit (base:=w.heap.size) (e:=31) (size:=15) w (startL.flatMap jch).toArray 7 nle (by decide) (by decide)) (jjw jj7));go_enter Tryz.func81,Tryz.ntmps81;go_wp2
 go_ret;obtain⟨A,c,f,he,hs,hf, -, -⟩:=HS.out;cases he;exact⟨_,_,_,rfl,hs,fun z hz=>(hf z (by simpa using hz)).2,HB.out⟩
end Go.Proofs.YtlkoaobaoffpaaaGreatDoor
