/- Lemmas and walks, joined by program. -/
import Derived.Shelf.RegionOpenPlain
import Derived.Lib.SliceRun
import Derived.Deep.CutBlock
import Derived.Deep.DeepCutAuto
import Derived.Test.YtobbdhgkcoeifaaGreatDoorZ2
import Derived.Test.YtobbdhgkcoeifaaGreatDoorZ1
namespace Go.Proofs.YtobbdhgkcoeifaaGreatDoor
open Go.RowKit
attribute [local go_sem ↓] Go.wp_at_zero Go.wp_at_succ
set_option maxHeartbeats 8000000
set_option maxRecDepth 100000
set_option linter.unusedSimpArgs false
set_option linter.unusedVariables false
theorem jmf {a b:ByteArray} :a.toList=b.toList↔a=b:=⟨jan,fun h=>by rw[h]⟩
theorem jf7 (x y:Yt) (w:World):(Op.equalIn 10000 29 (.agg (Jh x).toArray) (.agg (Jh y).toArray)).run Tryz.prog w= .ok (decide (x=y)) w:=by
 obtain⟨a,b,c,d⟩:=x;obtain⟨a',b',c',d'⟩:=y;have u3:=Tryz.underlying3;have u9:=Tryz.underlying9;have u4:=Tryz.underlying4;have a3:=Tryz.isAgg3;have a9:=Tryz.isAgg9;have a4:=Tryz.isAgg4;have z3:=Tryz.sizeOf3;have z9:=Tryz.sizeOf9;have z4:=Tryz.sizeOf4;have hS:Tryz.prog.underlying 29=some (.struct (Tryz.prog.fieldsOf 29)):=by kernel_rfl
 have hp:Tryz.prog.stoodInHeld 29=false:=by kernel_rfl
 simp only[Jh];rw[show(10000:Nat)=9999+1 from rfl,run_equalIn_agg w 9999 29 _ _ hS hp];simp only[Program.fieldsOf,Tryz.underlying29]
 go_simp
 by_cases h1:a=a'<;>by_cases h2:b=b'<;>by_cases h3:c=c'<;>by_cases h4:d=d'<;>simp[h1,h2,h3,h4,jmf]
theorem jk7 (x y:Yt) (w:World):(binOp .eql 29 (.agg (Jh x).toArray) (.agg (Jh y).toArray)).run Tryz.prog w= .ok (.bool (decide (x=y))) w:=by
 rw[run_eql_struct,jf7];rfl
theorem jom (x y:Yt) (w:World):(binOp .neq 29 (.agg (Jh x).toArray) (.agg (Jh y).toArray)).run Tryz.prog w= .ok (.bool (!decide (x=y))) w:=by
 rw[run_neq_struct,jf7];rfl
theorem jjj (op:BinOp) (a b:Operand) (xs ys:Array Value) (w:World):(eqGuard op 29 a b (.agg xs) (.agg ys)).run Tryz.prog w= .ok () w:=run_eqGuard_agg w op _ a b xs ys (by kernel_rfl)
theorem jgw {A:Option Addr} {n c:Nat} {l:List Yt} {fp:List Nat} (r:Yt) (w:World) (hx:SlR Rp.rule w A n c l fp):
  Calls Tryz.prog 145 #[.slice A n c,.agg (Jh r).toArray] w fun e w'=>e= .returned (.bool (l.any fun x=>decide (x=r)))∧Below w.heap.size w w':=by
 obtain⟨rfl,hcx,hmx,_⟩:=id hx;unfold maxLen at hmx;unfold Jh;go_enter Tryz.func145,Tryz.ntmps145;go_wp2
 go_loopw [5] (fun i wr=>∃k:Nat,k≤l.length∧i= .int .i64 k∧noneTo (fun x=>decide (x=r)) l k∧Below (w.alloc (.cells #[.int .i64 r.user,.string r.ref,.string r.path,.bool r.write] 29)).heap.size (w.alloc (.cells #[.int .i64 r.user,.string r.ref,.string r.path,.bool r.write] 29)) wr) (fun i _=>l.length - (intOf i).toNat)
 case atStart=>exact⟨0,Nat.zero_le _,rfl,Yh,Below.refl _ _⟩
 case round=>
  obtain⟨k,hk,rfl,hag,hbl⟩:=hrel;have HA:=Ja hag;clear hag;have kb:=(Blk.new w _ _).step hbl;by_cases hlt:k<l.length
  ·obtain⟨b,o,rfl,hb,hm,h0,h1,h2,h3⟩:=Yv ((hx.allocN _).step hbl) hlt;have c0:=Blk.c0 kb;have c1:=Blk.c1 kb;have c2:=Blk.c2 kb;have c3:=Blk.c3 kb;have i0:(0:Int)≤(k:Int):=by omega
   have i1:(k:Int)<(l.length:Int):=by omega
   have heq:=jk7 l[k] r;have hgd:=jjj;unfold Jh at heq;go_wp2_with fail;go_quiet(fail);clear heq hgd c0 c1 c2 c3 h0 h1 h2 h3 i0 i1 kb;cases hd:decide (l[k]=r)
   ·have HN:=Ja (HA.out.next hlt hd);clear hd;go_wp2;exact⟨⟨k+1,by omega,by go_num,HN.out,Below.drewN' hbl _⟩,by simp[intOf];omega⟩
   ·have HN:=Ja (jda (p:=fun x=>decide (x=r)) hlt hd);clear hd;go_wp2;go_ret;exact⟨Jc HN.out.symm,Below.box1 (Below.drewN' hbl _)⟩
  ·have hk':k=l.length:=by omega
   subst hk';go_wp2;go_ret;exact⟨Jc HA.out.any_.symm,Below.box1 hbl⟩
theorem jh0 {A:Option Addr} {n c:Nat} {l:List Yt} {fp:List Nat} (r:Yt) (w:World) (hx:SlR Rp.rule w A n c l fp):
  Calls Tryz.prog 173 #[.slice A n c,.agg (Jh r).toArray] w fun e w'=>e= .returned (.int .i64 (jd4 (fun x=>decide (x=r)) l))∧Below w.heap.size w w':=by
 obtain⟨rfl,hcx,hmx,_⟩:=id hx;unfold maxLen at hmx;unfold Jh;go_enter Tryz.func173,Tryz.ntmps173;go_wp2
 go_loopw [8] (fun i wr=>∃k:Nat,k≤l.length∧i= .int .i64 k∧noneTo (fun x=>decide (x=r)) l k∧Below (w.alloc (.cells #[.int .i64 r.user,.string r.ref,.string r.path,.bool r.write] 29)).heap.size (w.alloc (.cells #[.int .i64 r.user,.string r.ref,.string r.path,.bool r.write] 29)) wr) (fun i _=>l.length - (intOf i).toNat)
 case atStart=>exact⟨0,Nat.zero_le _,rfl,Yh,Below.refl _ _⟩
 case round=>
  obtain⟨k,hk,rfl,hag,hbl⟩:=hrel;have HA:=Ja hag;clear hag;have kb:=(Blk.new w _ _).step hbl;by_cases hlt:k<l.length
  ·obtain⟨b,o,rfl,hb,hm,h0,h1,h2,h3⟩:=Yv ((hx.allocN _).step hbl) hlt;have c0:=Blk.c0 kb;have c1:=Blk.c1 kb;have c2:=Blk.c2 kb;have c3:=Blk.c3 kb;have i0:(0:Int)≤(k:Int):=by omega
   have i1:(k:Int)<(l.length:Int):=by omega
   have heq:=jk7 r l[k];have hgd:=jjj;unfold Jh at heq;go_wp2_with fail;go_quiet(fail);clear heq hgd c0 c1 c2 c3 h0 h1 h2 h3 i0 i1 kb;have hcm:decide (r=l[k])=decide (l[k]=r):=decide_eq_decide.2 eq_comm;rw[hcm];clear hcm;cases hd:decide (l[k]=r)
   ·have HN:=Ja (HA.out.next hlt hd);clear hd;go_wp2;exact⟨⟨k+1,by omega,by go_num,HN.out,Below.drewN' hbl _⟩,by simp[intOf];omega⟩
   ·have HN:=Ja (HA.out.hit hlt hd);clear hd;go_wp2;go_ret;exact⟨Xl HN.out.symm,Below.box1 (Below.drewN' hbl _)⟩
  ·have hk':k=l.length:=by omega
   subst hk';go_wp2;go_ret;exact⟨Xl HA.out.all_.symm,Below.box1 hbl⟩
theorem jds {A:Option Addr} {n c:Nat} {l:List Yt} {fp:List Nat} (r:Yt) (w:World) (hx:SlR Rp.rule w A n c l fp):
  Calls Tryz.prog 151 #[.slice A n c,.agg (Jh r).toArray] w fun e w'=>e= .returned (.bool (l.any fun x=>decide (x=r)))∧Below w.heap.size w w':=by
 unfold Jh;go_enter Tryz.func151,Tryz.ntmps151;go_wp2_with fail;refine(jh0 r _ (hx.allocN _)).mono ?_;rintro e w1 ⟨rfl,hb1⟩;go_wp2;go_ret;exact⟨Jc (jdq _ l),Below.box1 hb1⟩
def jm0 (user:Int) (ref path:ByteArray) (write:Bool) (r:Yt):Bool:=jk1 r user ref&&Jq r.path path&&(r.write|| !write)
def Yz (l:List Yt) (user:Int) (ref path:ByteArray) (write:Bool):Bool:=l.any (jm0 user ref path write)
def Wt (l:List Yt) (user:Int) (ref:ByteArray):Bool:=l.any fun r=>jk1 r user ref
def Ym (l:List Yt):Prop:=∀i (h:i<l.length),Vn l[i]
theorem Zd (fn:Fn) (first cap:Array Value) (w:World):(Instr.makeFunc fn first cap).run Tryz.prog w= .ok (.func fn first cap) w:=rfl
theorem jkc (r:Yt) (hr:Vn r) (user:Int) (ref path:ByteArray) (write:Bool) (hp:path.size≤4194304) (b1 b2 b3 b4:Nat) (w:World)
  (c1:w.cell? ⟨b1,0,none⟩=some (.int .i64 user)) (c2:w.cell? ⟨b2,0,none⟩=some (.string ref)) (c3:w.cell? ⟨b3,0,none⟩=some (.string path)) (c4:w.cell? ⟨b4,0,none⟩=some (.bool write)):
  Calls Tryz.prog 59 #[.agg (Jh r).toArray,.pointer (some ⟨b1,0,none⟩),.pointer (some ⟨b2,0,none⟩),.pointer (some ⟨b3,0,none⟩),.pointer (some ⟨b4,0,none⟩)] w
   fun e w'=>e= .returned (.bool (jm0 user ref path write r))∧Below w.heap.size w w':=by
 obtain⟨u,rf,pt,wr⟩:=r;have HE:=Ja hr;clear hr;unfold Jh;have d1:=J6 c1 (.cells #[.int .i64 u,.string rf,.string pt,.bool wr] 29);have d2:=J6 c2 (.cells #[.int .i64 u,.string rf,.string pt,.bool wr] 29);have d3:=J6 c3 (.cells #[.int .i64 u,.string rf,.string pt,.bool wr] 29);have d4:=J6 c4 (.cells #[.int .i64 u,.string rf,.string pt,.bool wr] 29)
 clear c1 c2 c3 c4;go_enter Tryz.func59,Tryz.ntmps59;go_wp2_with fail;refine(jgd ⟨u,rf,pt,wr⟩ HE.out _ _ _).mono ?_;rintro e w1 ⟨rfl,hb1⟩;have k1:=(Blk.new w _ _).step hb1;have HB1:=Below.box1 hb1;have e3:=Je d3 hb1;have e4:=Je d4 hb1;clear hb1 d1 d2 d3 d4;cases h1:jk1 ⟨u,rf,pt,wr⟩ user ref
 ·go_wp2;go_ret;exact⟨Jc (by simp[jm0,h1]),HB1⟩
 ·have HA:=Ja h1;have q2:=k1.cell 2;clear h1;go_wp2_with fail;refine(Wy pt path HE.out.2 hp _).mono ?_;rintro e w2 ⟨rfl,hb2⟩;have q3:=(k1.step hb2).cell 3;have f4:=Je e4 hb2;have HB2:=Below.t HB1 hb2;clear hb2 k1 q2 e3 e4;cases h1:Jq pt path
  ·go_wp2;go_ret;exact⟨Jc (by simp[jm0,h1]),HB2⟩
  ·have HC:=Ja h1;clear h1;cases wr<;>cases write
   all_goals
    go_wp2;go_ret;exact⟨Jc (by simp[jm0,HA.out,HC.out]),HB2⟩
theorem Z0 {A:Option Addr} {n c:Nat} {l:List Yt} {fp:List Nat} (user:Int) (ref path:ByteArray) (write:Bool) (w:World) (hx:SlR Rp.rule w A n c l fp) (hr:Ym l) (hp:path.size≤4194304):
  Calls Tryz.prog 18 #[.slice A n c,.int .i64 user,.string ref,.string path,.bool write] w fun e w'=>e= .returned (.bool (Yz l user ref path write))∧Below w.heap.size w w':=by
 have hmf:=Zd;have HR:=Ja hr;clear hr;go_enter Tryz.func18,Tryz.ntmps18;go_wp2_with fail;refine(jf1 (l:=l) (jm0 user ref path write) _ _ (enters_of Tryz.func59 (by kernel_rfl) rfl) _ ((((hx.allocN _).allocN _).allocN _).allocN _) (fun i hi cs fq w1 hB hR=> ?_)).mono ?_
 ·obtain⟨rfl,rfl⟩:=hR;refine jkc l[i] (HR.out i hi) user ref path write hp _ _ _ _ w1 ?_ ?_ ?_ ?_
  ·have hc:=(Blk.step (Blk.alloc (Blk.alloc (Blk.alloc (Blk.new w _ _) _) _) _) hB).cell 0;simpa using hc
  ·have hc:=(Blk.step (Blk.alloc (Blk.alloc (Blk.new _ _ _) _) _) hB).cell 0;simpa using hc
  ·have hc:=(Blk.step (Blk.alloc (Blk.new _ _ _) _) hB).cell 0;simpa using hc
  ·have hc:=(Blk.step (Blk.new _ _ _) hB).cell 0;simpa using hc
 ·rintro e w1 ⟨rfl,hb1⟩;go_wp2;go_ret;exact⟨rfl,Below.box1 (Below.box3 hb1)⟩
theorem jil (r:Yt) (hr:Vn r) (user:Int) (ref:ByteArray) (b1 b2:Nat) (w:World)
  (c1:w.cell? ⟨b1,0,none⟩=some (.int .i64 user)) (c2:w.cell? ⟨b2,0,none⟩=some (.string ref)):
  Calls Tryz.prog 75 #[.agg (Jh r).toArray,.pointer (some ⟨b1,0,none⟩),.pointer (some ⟨b2,0,none⟩)] w
   fun e w'=>e= .returned (.bool (jk1 r user ref))∧Below w.heap.size w w':=by
 obtain⟨u,rf,pt,wr⟩:=r;have HE:=Ja hr;clear hr;unfold Jh;have d1:=J6 c1 (.cells #[.int .i64 u,.string rf,.string pt,.bool wr] 29);have d2:=J6 c2 (.cells #[.int .i64 u,.string rf,.string pt,.bool wr] 29);clear c1 c2;go_enter Tryz.func75,Tryz.ntmps75;go_wp2_with fail;refine(jgd ⟨u,rf,pt,wr⟩ HE.out _ _ _).mono ?_;rintro e w1 ⟨rfl,hb1⟩;go_wp2;go_ret
 exact⟨rfl,Below.box1 hb1⟩
theorem jb8 {A:Option Addr} {n c:Nat} {l:List Yt} {fp:List Nat} (user:Int) (ref:ByteArray) (w:World) (hx:SlR Rp.rule w A n c l fp) (hr:Ym l):
  Calls Tryz.prog 27 #[.slice A n c,.int .i64 user,.string ref] w fun e w'=>e= .returned (.bool (Wt l user ref))∧Below w.heap.size w w':=by
 have hmf:=Zd;have HR:=Ja hr;clear hr;go_enter Tryz.func27,Tryz.ntmps27;go_wp2_with fail;refine(jf1 (l:=l) (fun r=>jk1 r user ref) _ _ (enters_of Tryz.func75 (by kernel_rfl) rfl) _ ((hx.allocN _).allocN _) (fun i hi cs fq w1 hB hR=> ?_)).mono ?_
 ·obtain⟨rfl,rfl⟩:=hR;refine jil l[i] (HR.out i hi) user ref _ _ w1 ?_ ?_
  ·have hc:=(Blk.step (Blk.alloc (Blk.new w _ _) _) hB).cell 0;simpa using hc
  ·have hc:=(Blk.step (Blk.new _ _ _) hB).cell 0;simpa using hc
 ·rintro e w1 ⟨rfl,hb1⟩;go_wp2;go_ret;exact⟨rfl,Below.box2 hb1⟩
theorem jbz {A:Option Addr} {n c:Nat} {l:List Yt} {fp:List Nat} (user:Int) (ref:ByteArray) (w:World) (hx:SlR Rp.rule w A n c l fp) (hr:Ym l):
  Calls Tryz.prog 100 #[.slice A n c,.int .i64 user,.string ref] w fun e w'=>e= .returned (.bool (Wt l user ref))∧Below w.heap.size w w':=by
 obtain⟨rfl,hcx,hmx,_⟩:=id hx;unfold maxLen at hmx;have HR:=Ja hr;clear hr;go_enter Tryz.func100,Tryz.ntmps100;go_wp2
 go_loopw [7] (fun i wr=>∃k:Nat,k≤l.length∧i= .int .i64 k∧noneTo (fun r=>jk1 r user ref) l k∧Below w.heap.size w wr) (fun i _=>l.length - (intOf i).toNat)
 case atStart=>exact⟨0,Nat.zero_le _,rfl,Yh,Below.refl _ _⟩
 case round=>
  obtain⟨k,hk,rfl,hag,hbl⟩:=hrel;have HA:=Ja hag;clear hag;by_cases hlt:k<l.length
  ·obtain⟨b,o,rfl,hb,hm,h0,h1,h2,h3⟩:=Yv (hx.step hbl) hlt;go_wp2_with fail;refine(ji5 l[k] (HR.out k hlt) user ref _).mono ?_;rintro e w1 ⟨rfl,hb1⟩;have HB:=Ja (Below.t hbl hb1);clear hb1;cases hd:jk1 l[k] user ref
   ·have HN:=Ja (HA.out.next hlt hd);clear hd;go_wp2;exact⟨⟨k+1,by omega,by go_num,HN.out,HB.out⟩,by simp[intOf];omega⟩
   ·have HN:=Ja (jda (p:=fun r=>jk1 r user ref) hlt hd);clear hd;go_wp2;go_ret;exact⟨Jc HN.out.symm,HB.out⟩
  ·have hk':k=l.length:=by omega
   subst hk';go_wp2;go_ret;exact⟨Jc HA.out.any_.symm,hbl⟩
theorem Wu {A:Option Addr} {n c:Nat} {l:List Yt} {fp:List Nat} (user:Int) (ref path:ByteArray) (write:Bool) (w:World) (hx:SlR Rp.rule w A n c l fp) (hr:Ym l) (hp:path.size≤4194304):
  Calls Tryz.prog 73 #[.slice A n c,.int .i64 user,.string ref,.string path,.bool write] w fun e w'=>e= .returned (.bool (Yz l user ref path write))∧Below w.heap.size w w':=by
 obtain⟨rfl,hcx,hmx,_⟩:=id hx;unfold maxLen at hmx;have HR:=Ja hr;clear hr;go_enter Tryz.func73,Tryz.ntmps73;go_wp2
 go_loopw [11] (fun i wr=>∃k:Nat,k≤l.length∧i= .int .i64 k∧noneTo (jm0 user ref path write) l k∧Below w.heap.size w wr) (fun i _=>l.length - (intOf i).toNat)
 case atStart=>exact⟨0,Nat.zero_le _,rfl,Yh,Below.refl _ _⟩
 case round=>
  obtain⟨k,hk,rfl,hag,hbl⟩:=hrel;have HA:=Ja hag;clear hag;by_cases hlt:k<l.length
  ·obtain⟨b,o,rfl,hb,hm,h0,h1,h2,h3⟩:=Yv (hx.step hbl) hlt;go_wp2_with fail;refine(ji5 l[k] (HR.out k hlt) user ref _).mono ?_;rintro e w1 ⟨rfl,hb1⟩;have q2:=Je h2 hb1;have q3:=Je h3 hb1;have HB:=Ja (Below.t hbl hb1);have HP:=Ja (HR.out k hlt).2;clear h0 h1 h2;cases hd:jk1 l[k] user ref
   ·have HN:=Ja (HA.out.next hlt (show jm0 user ref path write l[k]=false by simp[jm0,hd]));clear hd hb1 q2 q3 h3;go_wp2;exact⟨⟨k+1,by omega,by go_num,HN.out,HB.out⟩,by simp[intOf];omega⟩
   ·have HD:=Ja hd;clear hd hb1 h3;go_wp2_with fail;refine(jaa _ _ HP.out hp _).mono ?_;rintro e w2 ⟨rfl,hb2⟩;have r3:=Je q3 hb2;have HB2:=Ja (Below.t HB.out hb2);clear q2 q3 hb2;cases hd:Jq l[k].path path
    ·have HN:=Ja (HA.out.next hlt (show jm0 user ref path write l[k]=false by simp[jm0,hd]));clear hd r3;go_wp2;exact⟨⟨k+1,by omega,by go_num,HN.out,HB2.out⟩,by simp[intOf];omega⟩
    ·have HE:=Ja hd;clear hd;have hw:jm0 user ref path write l[k]=(l[k].write|| !write):=by simp[jm0,HD.out,HE.out]
     cases h4:l[k].write<;>cases write
     all_goals rw[h4] at hw r3
     all_goals first
      |(have HN:=Ja (HA.out.next hlt (hw.trans rfl));clear hw h4;go_wp2;exact⟨⟨k+1,by omega,by go_num,HN.out,HB2.out⟩,by simp[intOf];omega⟩)
      |(have HN:=Ja (jda hlt (hw.trans rfl));clear hw h4;go_wp2;go_ret;exact⟨Jc HN.out.symm,HB2.out⟩)
  ·have hk':k=l.length:=by omega
   subst hk';go_wp2;go_ret;exact⟨Jc HA.out.any_.symm,hbl⟩
def joa (l:List Yt) (i:Nat):Bool:=match l[i]? with
 |some r=>jac r&& !((l.take i).any fun x=>decide (x=r))
 |none=>true
theorem jdh {l:List Yt} {i:Nat} (h:i<l.length):joa l i=(jac l[i]&& !((l.take i).any fun x=>decide (x=l[i]))):=by
 unfold joa;rw[List.getElem?_eq_getElem h]
def J5 (l:List Yt):Bool:=decide (l.length≤6)&&jd3 l.length (joa l)
theorem ja1 {A:Option Addr} {n c:Nat} {l:List Yt} {fp:List Nat} (w:World) (hx:SlR Rp.rule w A n c l fp) (hr:Ym l):
  Calls Tryz.prog 107 #[.slice A n c] w fun e w'=>e= .returned (.bool (J5 l))∧Below w.heap.size w w':=by
 obtain⟨rfl,hcx,hmx,_⟩:=id hx;unfold maxLen at hmx;have HR:=Ja hr;clear hr;go_enter Tryz.func107,Tryz.ntmps107;by_cases h6:l.length≤6
 ·go_wp2
  go_loopw [3] (fun i wr=>∃k:Nat,k≤l.length∧i= .int .i64 k∧oksTo (joa l) k∧Below w.heap.size w wr) (fun i _=>l.length - (intOf i).toNat)
  case atStart=>exact⟨0,Nat.zero_le _,rfl,oksTo_zero,Below.refl _ _⟩
  case round=>
   obtain⟨k,hk,rfl,hag,hbl⟩:=hrel;have HA:=Ja hag;clear hag;by_cases hlt:k<l.length
   ·have HF:=Ja (HR.out k hlt);have HE:=Ja (jdh hlt);obtain⟨f,hxk,_⟩:=(hx.step hbl).take hk;obtain⟨b,o,rfl,hb,hm,h0,h1,h2,h3⟩:=Yv (hx.step hbl) hlt;have i0:(0:Int)≤(k:Int):=by omega
    have i1:(k:Int)<(l.length:Int):=by omega
    have i2:(k:Int)≤(c:Int):=by omega
    have C1:=jag l[k] HF.out;have C2:=fun W (h:SlR Rp.rule W (some ⟨b,o,none⟩) k c (l.take k) f)=>jgw l[k] W h;unfold Jh at C1 C2;cases hd:jac l[k]
    ·rw[hd] at C1;have D1:=Ja C1;clear C1 C2;rw[hd] at HE;clear hd;go_wp2_with fail;have n0:=BelowW.nonempty wr;have e0:=BelowW.ex (w:=wr);have g0:=bwc h0;have g1:=bwc h1;have g2:=bwc h2;have g3:=bwc h3;clear h0 h1 h2 h3;refine Jf (by kernel_rfl) (by kernel_rfl) ?_
     repeat(go_big_quiet_step(first|(go_at_call 52;exact BelowW.calls _ (D1.out _))))
     refine wpQuiet_nil ?_;rintro _ ⟨⟨w1,hb1⟩,rfl⟩;have HB:=Ja (Below.t hbl hb1);clear hb1;go_wp2;go_ret;exact⟨Jc (by unfold J5;rw[oksTo.not_ hlt (HE.out.trans (by simp))];simp),HB.out⟩
    ·rw[hd,Bool.true_and] at HE;rw[hd] at C1;have D1:=Ja C1;clear C1 hd;cases hd:(l.take k).any fun x=>decide (x=l[k])
     all_goals
      simp only[hd] at C2;have D2:=Ja C2;rw[hd] at HE;clear hd C2;go_wp2_with fail;have n0:=BelowW.nonempty wr;have e0:=BelowW.ex (w:=wr);have g0:=bwc h0;have g1:=bwc h1;have g2:=bwc h2;have g3:=bwc h3;clear h0 h1 h2 h3;refine Jf (by kernel_rfl) (by kernel_rfl) ?_
      repeat(go_big_quiet_step(first|(go_at_call 52;exact BelowW.calls _ (D1.out _))|(go_at_call 145;exact BelowW.calls _ (D2.out _ (BelowW.sl _ hxk)))))
      refine wpQuiet_nil ?_;rintro _ ⟨⟨w1,hb1⟩,rfl⟩;have HB:=Ja (Below.t hbl hb1);clear hb1 e0 g0 g1 g2 g3
     ·go_wp2;exact⟨⟨k+1,by omega,by go_num,HA.out.next (HE.out.trans rfl),HB.out⟩,by simp[intOf];omega⟩
     ·go_wp2;go_ret;exact⟨Jc (by unfold J5;rw[oksTo.not_ hlt (HE.out.trans rfl)];simp),HB.out⟩
   ·have hk':k=l.length:=by omega
    subst hk';go_wp2;go_ret;exact⟨Jc (by unfold J5;rw[HA.out.all_];simp;omega),hbl⟩
 ·go_wp2;go_ret;exact⟨Jc (by unfold J5;rw[decide_eq_false h6];rfl),Below.refl _ _⟩
theorem ja4 {A:Option Addr} {n c:Nat} {l:List Yt} {fp:List Nat} (w:World) (hx:SlR Rp.rule w A n c l fp) (hr:Ym l):
  Calls Tryz.prog 120 #[.slice A n c] w fun e w'=>e= .returned (.bool (J5 l))∧Below w.heap.size w w':=by
 obtain⟨rfl,hcx,hmx,_⟩:=id hx;unfold maxLen at hmx;have HR:=Ja hr;clear hr;go_enter Tryz.func120,Tryz.ntmps120;go_wp2
 go_loopw [7] (fun i wr=>∃k:Nat,k≤l.length∧i= .int .i64 k∧oksTo (joa l) k∧Below w.heap.size w wr) (fun i _=>l.length - (intOf i).toNat)
 case atStart=>exact⟨0,Nat.zero_le _,rfl,oksTo_zero,Below.refl _ _⟩
 case round=>
  obtain⟨k,hk,rfl,hag,hbl⟩:=hrel;have HA:=Ja hag;clear hag;by_cases hlt:k<l.length
  ·have HF:=Ja (HR.out k hlt);have HE:=Ja (jdh hlt);obtain⟨f,hxk,_⟩:=(hx.step hbl).take hk;obtain⟨b,o,rfl,hb,hm,h0,h1,h2,h3⟩:=Yv (hx.step hbl) hlt;have i0:(0:Int)≤(k:Int):=by omega
   have i1:(k:Int)<(l.length:Int):=by omega
   have i2:(k:Int)≤(c:Int):=by omega
   have C1:=jaj l[k] HF.out;have C2:=fun W (h:SlR Rp.rule W (some ⟨b,o,none⟩) k c (l.take k) f)=>jds l[k] W h;unfold Jh at C1 C2;go_wp2_with fail;have hxk':=hxk.allocN (.cells #[.int .i64 l[k].user,.string l[k].ref,.string l[k].path,.bool l[k].write] 29);have kb:=Blk.new wr 29 #[.int .i64 l[k].user,.string l[k].ref,.string l[k].path,.bool l[k].write]
   have hbl':=hbl.alloc hbl.size (.cells #[.int .i64 l[k].user,.string l[k].ref,.string l[k].path,.bool l[k].write] 29);have hg:wr.heap.size<(wr.alloc (.cells #[.int .i64 l[k].user,.string l[k].ref,.string l[k].path,.bool l[k].write] 29)).heap.size:=by simp
   clear h0 h1 h2 h3 hxk;generalize hwx:wr.alloc (.cells #[.int .i64 l[k].user,.string l[k].ref,.string l[k].path,.bool l[k].write] 29)=wx at hxk' kb hbl' ⊢;clear hwx;have h0:=Blk.c0 kb;have h1:=Blk.c1 kb;have h2:=Blk.c2 kb;have h3:=Blk.c3 kb;have n0:=BelowW.nonempty wx;have e0:=BelowW.ex (w:=wx);have g0:=bwc h0;have g1:=bwc h1;have g2:=bwc h2;have g3:=bwc h3;clear h0 h1 h2 h3 kb
   cases hd:jac l[k]
   ·simp only[hd] at C1;have D1:=Ja C1;rw[hd] at HE;clear C1 C2 hd;refine Jf (by kernel_rfl) (by kernel_rfl) ?_
    repeat(go_big_quiet_step(first|(go_at_call 87;exact BelowW.calls _ (D1.out _))))
    refine wpQuiet_nil ?_;rintro _ ⟨⟨w1,hb1⟩,rfl⟩;have HB:=Ja (hbl'.trans (hb1.mono hbl'.size));clear hb1;go_wp2;go_ret;exact⟨Jc (by unfold J5;rw[oksTo.not_ hlt (HE.out.trans (by simp))];simp),HB.out⟩
   ·simp only[hd] at C1;have D1:=Ja C1;rw[hd,Bool.true_and] at HE;clear C1 hd;cases hd:(l.take k).any fun x=>decide (x=l[k])
    all_goals
     simp only[hd] at C2;have D2:=Ja C2;rw[hd] at HE;clear hd C2;refine Jf (by kernel_rfl) (by kernel_rfl) ?_
     repeat(go_big_quiet_step(first|(go_at_call 87;exact BelowW.calls _ (D1.out _))|(go_at_call 151;exact BelowW.calls _ (D2.out _ (BelowW.sl _ hxk')))))
     refine wpQuiet_nil ?_;rintro _ ⟨⟨w1,hb1⟩,rfl⟩;have HB:=Ja (hbl'.trans (hb1.mono hbl'.size));clear hb1 e0 g0 g1 g2 g3
    ·go_wp2;exact⟨⟨k+1,by omega,by go_num,HA.out.next (HE.out.trans rfl),HB.out⟩,by simp[intOf];omega⟩
    ·go_wp2;go_ret;exact⟨Jc (by unfold J5;rw[oksTo.not_ hlt (HE.out.trans rfl)];simp),HB.out⟩
  ·have hk':k=l.length:=by omega
   subst hk';go_wp2;go_ret;exact⟨Jc (by unfold J5;rw[HA.out.all_,Bool.and_true];exact decide_eq_decide.2 (by omega)),hbl⟩
def Zc (l:List Yt) (r:Yt):Bool:=J5 l&&jac r&& !(decide (l.length=6))&& !(l.any fun x=>decide (x=r))
def Yk (l:List Yt) (r:Yt):List Yt:=if Zc l r then l++ [r] else l
def jqh {α:Type} (t:TypeId) (k:Nat) (enc:α→List Value) (w:World) (l:List α) (b:Bool) (e:Ending) (w':World):Prop:=
 ∃v,e= .returned (.tuple #[v,.bool b])∧w'.ownsRow w.heap.size t k v l.length (l.flatMap enc)∧Below w.heap.size w w'
theorem Zy {w:World} {base base' size n:Nat} {e:TypeId} {v:Value} {xs:List Value} (h:w.ownsRow base e size v n xs) (hb:base'≤base):w.ownsRow base' e size v n xs:=
 ⟨h.1,h.2.elim Or.inl (fun⟨g,cap,cur,hv,hg,r⟩=>Or.inr ⟨g,cap,cur,hv,Nat.le_trans hb hg,r⟩)⟩
theorem Yx {w w1:World} {base size n:Nat} {e:TypeId} {v:Value} {xs:List Value} (h:w.ownsRow base e size v n xs) (hb:Below w.heap.size w w1):w1.ownsRow base e size v n xs:=
 ⟨h.1,h.2.elim Or.inl (fun⟨g,cap,cur,hv,hg,hc,r⟩=>Or.inr ⟨g,cap,cur,hv,hg,(hb.block g (Array.getElem?_eq_some_iff.1 hc).1).trans hc,r⟩)⟩
theorem jgi {A:Option Addr} {n c:Nat} {l:List Yt} {fp:List Nat} (r:Yt) (w:World) (hx:SlR Rp.rule w A n c l fp) (hl:l.length≤4194304) (hr:Ym l) (hf:Vn r):
  Calls Tryz.prog 136 #[.slice A n c,.agg (Jh r).toArray] w (jqh 29 4 Jh w (Yk l r) (Zc l r)):=by
 have hn:=hx.1;subst hn;have HR:=Ja hr;have HF:=Ja hf;have C1:=jaj r HF.out;have C2:=fun W (h:SlR Rp.rule W A l.length c l fp)=>jds r W h;unfold Jh at C1 C2;have D1:=Ja C1;have D2:=Ja C2;clear hr hf C1 C2;rw[show(Jh r).toArray= #[.int .i64 r.user,.string r.ref,.string r.path,.bool r.write] from rfl];go_enter Tryz.func136,Tryz.ntmps136;go_wp2_with fail
 refine(Z1 _ (hx.allocN _) hl).mono ?_;rintro e w1 ⟨v,rfl,hown,hb1⟩;have k1:=(Blk.new w _ _).step hb1;have hx1:=(hx.allocN _).step hb1;have HB1:=Below.box1 hb1;clear hb1 hx;go_wp2_with fail;refine(ja4 _ hx1 HR.out).mono ?_;rintro e w2 ⟨rfl,hb2⟩;have hown2:=Yx (Zy hown (show w.heap.size≤_ by simp)) hb2;have k2:=k1.step hb2;have hx2:=hx1.step hb2
 have HB2:=Below.t HB1 hb2;clear hb2 hown k1 hx1 HB1;cases hd:J5 l
 ·have HP:=Ja (show Zc l r=false by simp[Zc,hd]);clear hd;go_wp2
  go_ret2
  refine⟨v, ?_, ?_,HB2⟩
  ·rw[HP.out];rfl
  ·rw[show Yk l r=l by unfold Yk;rw[HP.out];rfl];exact hown2
 ·have H1:=Ja hd;clear hd;have c0:=Blk.c0 k2;have c1:=Blk.c1 k2;have c2:=Blk.c2 k2;have c3:=Blk.c3 k2;go_wp2_with fail;refine(D1.out _).mono ?_;rintro e w3 ⟨rfl,hb3⟩;have hown3:=Yx hown2 hb3;have k3:=k2.step hb3;have hx3:=hx2.step hb3;have HB3:=Below.t HB2 hb3;clear hb3 hown2 k2 hx2 HB2 c0 c1 c2 c3;cases hd:jac r
  ·have HP:=Ja (show Zc l r=false by simp[Zc,hd]);clear hd;go_wp2
   go_ret2
   refine⟨v, ?_, ?_,HB3⟩
   ·rw[HP.out];rfl
   ·rw[show Yk l r=l by unfold Yk;rw[HP.out];rfl];exact hown3
  ·have H2:=Ja hd;clear hd;have c0:=Blk.c0 k3;have c1:=Blk.c1 k3;have c2:=Blk.c2 k3;have c3:=Blk.c3 k3;cases hq:((l.length:Int)==6)
   ·have H3:=Ja (show decide (l.length=6)=false by simp at hq;exact decide_eq_false (by omega));go_wp2_with fail;refine(D2.out _ hx3).mono ?_;rintro e w4 ⟨rfl,hb4⟩;have hown4:=Yx hown3 hb4;have k4:=k3.step hb4;have HB4:=Below.t HB3 hb4;clear hb4 hown3 k3 hx3 HB3 c0 c1 c2 c3 hq;cases hd:l.any fun x=>decide (x=r)
    ·have HP:=Ja (show Zc l r=true by unfold Zc;rw[H1.out,H2.out,H3.out,hd];rfl);clear hd;obtain⟨i0,hi,hz0,hz1,hz2⟩:=info_parts Zt;have c0:=Blk.c0 k4;have c1:=Blk.c1 k4;have c2:=Blk.c2 k4;have c3:=Blk.c3 k4
     go_wp2_with(at_builtin;refine wpList_append_own _ rfl _ _ 45 rfl w.heap.size 29 i0 _ 4 48 Tryz.underlying45 hi hz0 hz1 hz2 rfl (by decide) _ _ _ rfl (hown4.alloc _) ⟨w4.heap.size,0,none⟩ 1 1 (Jh r) rfl rfl (Jm w4 (Jh r) _) (Rp.rule.one (w:=w4) ⟨rfl,rfl⟩) (by unfold maxLen;omega) (by omega) (by have:=HB4.size;simp;omega) ?_);intro v' w5 hown' hgrow _;go_wp2
     go_ret2
     refine⟨v', ?_, ?_,(HB4.alloc HB4.size _).grown hgrow (by have:=HB4.size;simp;omega) (fun j hj=>(hown4.lt j hj).1)⟩
     ·rw[HP.out];rfl
     ·rw[show Yk l r=l++ [r] by unfold Yk;rw[HP.out];rfl,List.length_append,List.flatMap_append,List.flatMap_singleton];exact hown'
    ·have HP:=Ja (show Zc l r=false by unfold Zc;rw[hd];simp);clear hd;go_wp2
     go_ret2
     refine⟨v, ?_, ?_,HB4⟩
     ·rw[HP.out];rfl
     ·rw[show Yk l r=l by unfold Yk;rw[HP.out];rfl];exact hown4
   ·have HP:=Ja (show Zc l r=false by simp at hq;simp[Zc,show l.length=6 by omega]);go_wp2
    go_ret2
    refine⟨v, ?_, ?_,HB3⟩
    ·rw[HP.out];rfl
    ·rw[show Yk l r=l by unfold Yk;rw[HP.out];rfl];exact hown3
theorem jct {A:Option Addr} {n c:Nat} {l:List Yt} {fp:List Nat} (r:Yt) (w:World) (hx:SlR Rp.rule w A n c l fp) (hl:l.length≤4194304) (hr:Ym l) (hf:Vn r):
  Calls Tryz.prog 129 #[.slice A n c,.agg (Jh r).toArray] w (jqh 29 4 Jh w (Yk l r) (Zc l r)):=by
 have hn:=hx.1;subst hn;have HR:=Ja hr;have HF:=Ja hf;have C1:=jag r HF.out;have C2:=fun W (h:SlR Rp.rule W A l.length c l fp)=>jgw r W h;unfold Jh at C1 C2;have D1:=Ja C1;have D2:=Ja C2;clear hr hf C1 C2;rw[show(Jh r).toArray= #[.int .i64 r.user,.string r.ref,.string r.path,.bool r.write] from rfl];go_enter Tryz.func129,Tryz.ntmps129
 obtain⟨i0,hi,hz0,hz1,hz2⟩:=info_parts Zt;have HX:=Ja ((hx.allocN (.cells #[.int .i64 r.user,.string r.ref,.string r.path,.bool r.write] 29)).allocN (.cells #[] 29));have hown0:=World.ownsRow_made (base:=w.heap.size+1) (e:=29) (size:=4) (w.alloc (.cells #[.int .i64 r.user,.string r.ref,.string r.path,.bool r.write] 29)) #[] 0 (by simp) (by simp[maxLen]) rfl
 rw[show(w.alloc (.cells #[.int .i64 r.user,.string r.ref,.string r.path,.bool r.write] 29)).heap.size=w.heap.size+1 by simp] at hown0;have HO:=Ja hown0;clear hown0;go_wp2_with(at_builtin;refine V2 (r:=Rp.rule) rfl _ _ 45 rfl (w.heap.size+1) 29 i0 _ 48 Tryz.underlying45 hi hz0 hz1 hz2 rfl (by decide) _ 0 [] rfl HO.out rfl HX.out (by unfold maxLen;omega) (by omega) (by simp) ?_)
 intro v w1 zs f1 hal _ hown hgrow;obtain⟨rfl,_⟩:=AllR.flat.1 hal;have hb1:Below (w.alloc (.cells #[.int .i64 r.user,.string r.ref,.string r.path,.bool r.write] 29)).heap.size (w.alloc (.cells #[.int .i64 r.user,.string r.ref,.string r.path,.bool r.write] 29)) w1:=
  ((Below.refl _ _).alloc nle _).grown hgrow (by simp) (fun j hj=>by simp[Value.ownBlock] at hj;simp;omega)
 have k1:=(Blk.new w _ _).step hb1;have hx1:=(hx.allocN _).step hb1;have HB1:=Below.box1 hb1;clear hb1 hx hal hgrow HX hi hz0 hz1 hz2;go_wp2_with fail;refine(ja1 _ hx1 HR.out).mono ?_;rintro e w2 ⟨rfl,hb2⟩;have hown2:=Yx (Zy hown (show w.heap.size≤_ by simp)) hb2;have k2:=k1.step hb2;have hx2:=hx1.step hb2;have HB2:=Below.t HB1 hb2;clear hb2 hown k1 hx1 HB1
 cases hd:J5 l
 ·have HP:=Ja (show Zc l r=false by simp[Zc,hd]);clear hd;go_wp2
  go_ret2
  refine⟨v, ?_, ?_,HB2⟩
  ·rw[HP.out];rfl
  ·rw[show Yk l r=l by unfold Yk;rw[HP.out];rfl];exact hown2
 ·have H1:=Ja hd;clear hd;have c0:=Blk.c0 k2;have c1:=Blk.c1 k2;have c2:=Blk.c2 k2;have c3:=Blk.c3 k2;go_wp2_with fail;refine(D1.out _).mono ?_;rintro e w3 ⟨rfl,hb3⟩;have hown3:=Yx hown2 hb3;have k3:=k2.step hb3;have hx3:=hx2.step hb3;have HB3:=Below.t HB2 hb3;clear hb3 hown2 k2 hx2 HB2 c0 c1 c2 c3;cases hd:jac r
  ·have HP:=Ja (show Zc l r=false by simp[Zc,hd]);clear hd;go_wp2
   go_ret2
   refine⟨v, ?_, ?_,HB3⟩
   ·rw[HP.out];rfl
   ·rw[show Yk l r=l by unfold Yk;rw[HP.out];rfl];exact hown3
  ·have H2:=Ja hd;clear hd;have c0:=Blk.c0 k3;have c1:=Blk.c1 k3;have c2:=Blk.c2 k3;have c3:=Blk.c3 k3;cases hq:((l.length:Int)==6)
   ·have H3:=Ja (show decide (l.length=6)=false by simp at hq;exact decide_eq_false (by omega));go_wp2_with fail;refine(D2.out _ hx3).mono ?_;rintro e w4 ⟨rfl,hb4⟩;have hown4:=Yx hown3 hb4;have k4:=k3.step hb4;have HB4:=Below.t HB3 hb4;clear hb4 hown3 k3 hx3 HB3 c0 c1 c2 c3 hq;cases hd:l.any fun x=>decide (x=r)
    ·have HP:=Ja (show Zc l r=true by unfold Zc;rw[H1.out,H2.out,H3.out,hd];rfl);clear hd;obtain⟨i0,hi,hz0,hz1,hz2⟩:=info_parts Zt;have c0:=Blk.c0 k4;have c1:=Blk.c1 k4;have c2:=Blk.c2 k4;have c3:=Blk.c3 k4
     go_wp2_with(at_builtin;refine wpList_append_own _ rfl _ _ 45 rfl w.heap.size 29 i0 _ 4 48 Tryz.underlying45 hi hz0 hz1 hz2 rfl (by decide) _ _ _ rfl (hown4.alloc _) ⟨w4.heap.size,0,none⟩ 1 1 (Jh r) rfl rfl (Jm w4 (Jh r) _) (Rp.rule.one (w:=w4) ⟨rfl,rfl⟩) (by unfold maxLen;omega) (by omega) (by have:=HB4.size;simp;omega) ?_);intro v' w5 hown' hgrow _;go_wp2
     go_ret2
     refine⟨v', ?_, ?_,(HB4.alloc HB4.size _).grown hgrow (by have:=HB4.size;simp;omega) (fun j hj=>(hown4.lt j hj).1)⟩
     ·rw[HP.out];rfl
     ·rw[show Yk l r=l++ [r] by unfold Yk;rw[HP.out];rfl,List.length_append,List.flatMap_append,List.flatMap_singleton];exact hown'
    ·have HP:=Ja (show Zc l r=false by unfold Zc;rw[hd];simp);clear hd;go_wp2
     go_ret2
     refine⟨v, ?_, ?_,HB4⟩
     ·rw[HP.out];rfl
     ·rw[show Yk l r=l by unfold Yk;rw[HP.out];rfl];exact hown4
   ·have HP:=Ja (show Zc l r=false by simp at hq;simp[Zc,show l.length=6 by omega]);go_wp2
    go_ret2
    refine⟨v, ?_, ?_,HB3⟩
    ·rw[HP.out];rfl
    ·rw[show Yk l r=l by unfold Yk;rw[HP.out];rfl];exact hown3
def Yy (l:List Yt) (r:Yt):List Yt:=l.filter fun x=> !decide (x=r)
theorem jfk {l:List Yt} {r:Yt} {k:Nat} (hk:k<l.length) (h:decide (l[k]=r)=false):Yy (l.take (k+1)) r=Yy (l.take k) r++ [l[k]]:=by
 unfold Yy;rw[List.take_succ_eq_append_getElem hk,List.filter_append,List.filter_cons_of_pos (by rw[h];rfl),List.filter_nil]
theorem jgg {l:List Yt} {r:Yt} {k:Nat} (hk:k<l.length) (h:decide (l[k]=r)=true):Yy (l.take (k+1)) r=Yy (l.take k) r:=by
 unfold Yy;rw[List.take_succ_eq_append_getElem hk,List.filter_append,List.filter_cons_of_neg (by rw[h];decide),List.filter_nil,List.append_nil]
theorem jn9 (l:List Yt) (r:Yt) (k:Nat):(Yy (l.take k) r).length≤l.length:=
 Nat.le_trans (List.length_filter_le _ _) (by simp;omega)
theorem jl3 {w:World} {base size n:Nat} {e:TypeId} {v:Value} {xs:List Value} (h:w.ownsRow base e size v n xs): ∃A c,v= .slice A n c:=by
 rcases h.2 with ⟨rfl,rfl⟩|⟨g,cap,cur,rfl,_⟩
 ·exact⟨none,0,rfl⟩
 ·exact⟨_,cap,rfl⟩
theorem joi {w:World} {base size n:Nat} {e:TypeId} {v:Value} {xs:List Value} (h:w.ownsRow base e size v n xs) (q:Nat):(w.drewN q).ownsRow base e size v n xs:=h
theorem jge {A:Option Addr} {n c:Nat} {l:List Yt} {fp:List Nat} (r:Yt) (w:World) (hx:SlR Rp.rule w A n c l fp) (hl:l.length≤4194304):
  Calls Tryz.prog 140 #[.slice A n c,.agg (Jh r).toArray] w (jqh 29 4 Jh w (Yy l r) (decide ((Yy l r).length<l.length))):=by
 obtain⟨rfl,hcx,hmx,_⟩:=id hx;unfold maxLen at hmx;rw[show(Jh r).toArray= #[.int .i64 r.user,.string r.ref,.string r.path,.bool r.write] from rfl];obtain⟨i0,hi,hz0,hz1,hz2⟩:=info_parts Zt;have hown0:=World.ownsRow_made (base:=w.heap.size+1) (e:=29) (size:=4) (w.alloc (.cells #[.int .i64 r.user,.string r.ref,.string r.path,.bool r.write] 29)) #[] 0 (by simp) (by simp[maxLen]) rfl
 rw[show(w.alloc (.cells #[.int .i64 r.user,.string r.ref,.string r.path,.bool r.write] 29)).heap.size=w.heap.size+1 by simp] at hown0;have HO:=Ja hown0;clear hown0;go_enter Tryz.func140,Tryz.ntmps140;go_wp2
 go_loopw [6,7] (fun v i wr=>∃k:Nat,k≤l.length∧i= .int .i64 k∧wr.ownsRow (w.heap.size+1) 29 4 v (Yy (l.take k) r).length ((Yy (l.take k) r).flatMap Jh)∧Below (w.alloc (.cells #[.int .i64 r.user,.string r.ref,.string r.path,.bool r.write] 29)).heap.size (w.alloc (.cells #[.int .i64 r.user,.string r.ref,.string r.path,.bool r.write] 29)) wr) (fun _ i _=>l.length - (intOf i).toNat)
 case atStart=>exact⟨0,Nat.zero_le _,rfl,HO.out,(Below.refl _ _).alloc nle _⟩
 case round=>
  obtain⟨k,hk,rfl,hown,hbl⟩:=hrel;have kb:=(Blk.new w _ _).step hbl;have hsz:=hbl.size;simp only[World.size_alloc] at hsz;by_cases hlt:k<l.length
  ·obtain⟨b,o,rfl,hb,hm,h0,h1,h2,h3⟩:=Yv ((hx.allocN _).step hbl) hlt;have hle:=jn9 l r k;have c0:=Blk.c0 kb;have c1:=Blk.c1 kb;have c2:=Blk.c2 kb;have c3:=Blk.c3 kb;have i0':(0:Int)≤(k:Int):=by omega
   have i1:(k:Int)<(l.length:Int):=by omega
   have heq:=jom l[k] r;have hgd:=jjj;unfold Jh at heq;have HW:=Ja hown;clear hown;go_wp2_with fail;go_quiet(fail);clear heq hgd c0 c1 c2 c3 i0' i1 kb;cases hd:decide (l[k]=r)
   ·have HN:=Ja (jfk hlt hd);clear hd;have HW':=Ja (joi HW.out nq);have hbl':=Below.drewN' hbl nq;generalize hwx:wr.drewN nq=wx at HW' hbl' ⊢;have g0:wx.cell? ⟨b,o+k*4,none⟩=some (.int .i64 l[k].user):=by rw[←hwx];exact h0
    have g1:wx.cell? ⟨b,o+k*4+1,none⟩=some (.string l[k].ref):=by rw[←hwx];exact h1
    have g2:wx.cell? ⟨b,o+k*4+2,none⟩=some (.string l[k].path):=by rw[←hwx];exact h2
    have g3:wx.cell? ⟨b,o+k*4+3,none⟩=some (.bool l[k].write):=by rw[←hwx];exact h3
    have hsx:=hbl'.size;simp only[World.size_alloc] at hsx;clear hwx h0 h1 h2 h3 HW
    go_wp2_with(at_builtin;refine wpList_append_own _ rfl _ _ 45 rfl (w.heap.size+1) 29 i0 _ 4 48 Tryz.underlying45 hi hz0 hz1 hz2 rfl (by decide) _ _ _ rfl (HW'.out.alloc _) ⟨wx.heap.size,0,none⟩ 1 1 (Jh l[k]) rfl rfl (Jm wx (Jh l[k]) _) (Rp.rule.one (w:=wx) ⟨rfl,rfl⟩) (by unfold maxLen;omega) (by omega) (by simp;omega) ?_);intro v' w5 hown' hgrow _;go_wp2
    refine⟨⟨k+1,by omega,by go_num, ?_,(hbl'.alloc hbl'.size _).grown hgrow (by simp;omega) (fun j hj=>by have:=(HW'.out.lt j hj).1;simp;omega)⟩,by simp[intOf];omega⟩;rw[HN.out,List.length_append,List.flatMap_append,List.flatMap_singleton];exact hown'
   ·have HN:=Ja (jgg hlt hd);clear hd;go_wp2;refine⟨⟨k+1,by omega,by go_num, ?_,Below.drewN' hbl _⟩,by simp[intOf];omega⟩;rw[HN.out];exact HW.out
  ·have hk':k=l.length:=by omega
   subst hk';rw[List.take_of_length_le nle] at hown;obtain⟨A1,c1,rfl⟩:=jl3 hown;have HW:=Ja hown;clear hown;go_wp2
   go_ret2
   refine⟨.slice A1 (Yy l r).length c1, ?_,Zy HW.out (by omega),Below.box1 hbl⟩;rw[show decide ((Yy l r).length<l.length)=decide (((Yy l r).length:Int)<(l.length:Int)) from decide_eq_decide.2 (by omega)];rfl
structure Rd (w:World) (g P:Nat):Prop where
 ex: ∃(A:Option Addr) (n c:Nat) (l:List UInt8) (fp:List Nat) (p:Nat),Blk w g 108 #[.slice A n c,.int .i64 p]∧SlR Rp.byte w A n c l fp∧(∀x∈fp,x<g)∧p≤P∧l.length≤2000
section
variable {w w1:World} {g P P':Nat}
theorem Rd.step (h:Rd w g P) (hb:Below w.heap.size w w1):Rd w1 g P:=by
 obtain⟨A,n,c,l,fp,p,h1,h2,h3⟩:=h.ex;exact⟨A,n,c,l,fp,p,h1.step hb,h2.step hb,h3⟩
theorem Rd.mono (h:Rd w g P) (hp:P≤P'):Rd w g P':=by
 obtain⟨A,n,c,l,fp,p,h1,h2,h3,h4,h5⟩:=h.ex;exact⟨A,n,c,l,fp,p,h1,h2,h3,Nat.le_trans h4 hp,h5⟩
theorem Rd.only {f:List Nat} (h:Rd w g P) (hb:Only f w w1) (hf: ∀x∈f,g<x):Rd w1 g P:=by
 obtain⟨A,n,c,l,fp,p,h1,h2,h3,h4⟩:=h.ex;exact⟨A,n,c,l,fp,p,h1.only hb (fun hm=>Nat.lt_irrefl _ (hf _ hm)),h2.only hb (fun x hx hm=>Nat.lt_asymm (h3 x hx) (hf x hm)),h3,h4⟩
theorem Rd.put (h:Rd w g P) {b j:Nat} (hb:g<b) (v:Value):Rd (w.setCell ⟨b,j,none⟩ v) g P:=
 h.only (f:=[b]) ((Only.refl _ _).setCell (.inl (by simp)) v) (by simpa using hb)
theorem Rd.lt (h:Rd w g P):g<w.heap.size:=by
 obtain⟨A,n,c,l,fp,p,h1,_⟩:=h.ex;exact h1.lt
end
theorem Rd.asked {w:World} {g P p c:Nat} {A:Option Addr} {l:List UInt8} {fp:List Nat} (hk:Blk w g 108 #[.slice A l.length c,.int .i64 p]) (hs:SlR Rp.byte w A l.length c l fp) (hg: ∀x∈fp,x<g) (hp:p≤P) (hl:l.length≤2000) {v:Value} (hv:v= .int .i64 ((p+1:Nat):Int)):
  Rd (w.setCell ⟨g,1,none⟩ v) g (P+1)∧Only [g] w (w.setCell ⟨g,1,none⟩ v):=by
 subst hv;refine⟨⟨A,_,c,l,fp,p+1, ?_,hs.putN (fun hm=>Nat.lt_irrefl _ (hg _ hm)) _,hg,by omega,hl⟩,(Only.refl _ _).setCell (.inl (by simp)) _⟩;have:=Jd (i:=1) hk (.int .i64 ((p+1:Nat):Int));simpa [Blk] using this
theorem jgl (X Y:Nat) (hx:X<2147483648) (hy:Y<2147483648):bits .xor .i64 (X:Int) (Y:Int)=((X ^^^ Y:Nat):Int):=by
 have h:=Nat.xor_lt_two_pow (n:=31) hx hy;have e1:(BitVec.ofInt 64 (X:Int)).toNat=X:=by rw[BitVec.ofInt_natCast,BitVec.toNat_ofNat];omega
 have e2:(BitVec.ofInt 64 (Y:Int)).toNat=Y:=by rw[BitVec.ofInt_natCast,BitVec.toNat_ofNat];omega
 have e3:((BitVec.ofInt 64 (X:Int)) ^^^ (BitVec.ofInt 64 (Y:Int))).toNat=X ^^^ Y:=by rw[BitVec.toNat_xor,e1,e2]
 show IntKind.i64.wrap (((BitVec.ofInt 64 (X:Int)) ^^^ (BitVec.ofInt 64 (Y:Int))).toNat:Int)=_;rw[e3];generalize X ^^^ Y=Z at h;exact IntWalk.i64_in _ (by omega)
theorem jdc {a:Int} (h0:0≤a) (h1:a<4294967296):wrap64 a=a:=by unfold wrap64;omega
theorem jmw {X:Int} (h0:0≤X) (h1:X<2147483648):0≤bits .xor .i64 (wrap64 X) (wrap64 ((wrap64 X).tdiv 64)):=by
 obtain⟨x,rfl⟩: ∃x:Nat,X=x:=⟨X.toNat,by omega⟩;rw[jdc h0 (by omega),Int.tdiv_eq_ediv_of_nonneg h0];have e:(x:Int) / 64=((x / 64:Nat):Int):=by omega
 rw[e,jdc (by omega) (by omega),jgl _ _ (by omega) (by omega)];omega
theorem tmod_in {a n:Int} (h0:0≤a) (hn:1≤n):0≤a.tmod n∧a.tmod n<n:=by
 rw[Int.tmod_eq_emod_of_nonneg h0];exact⟨Int.emod_nonneg _ (by omega),Int.emod_lt_of_pos _ (by omega)⟩
theorem jkj (g P:Nat) (n:Int) (hP:P≤1000000) (hn:n≤1000000) (w:World) (h:Rd w g P):
  Calls Tryz.prog 32 #[.pointer (some ⟨g,0,none⟩),.int .i64 n] w fun e w'=>∃x:Int,e= .returned (.int .i64 x)∧0≤x∧(x=0∨x<n)∧Rd w' g (P+1)∧Only [g] w w':=by
 obtain⟨A,m,c,l,fp,p,hk,hs,hg,hp,hl⟩:=h.ex;obtain rfl:=hs.1;have c0:=Blk.c0 hk;have c1:=Blk.c1 hk;have f1:w.frozen? ⟨g,1,none⟩=false:=(show Free w [g] from fun b hb=>by simp at hb;subst hb;exact⟨_,_,hk⟩).frozen (by simp) 1;go_enter Tryz.func32,Tryz.ntmps32;by_cases h1:n<1
 ·go_wp2;go_ret;obtain⟨r1,r2⟩:=Rd.asked hk hs hg hp hl (v:= .int .i64 (p+1)) (by go_num);exact⟨0,rfl,Int.le_refl _,.inl rfl,r1,r2⟩
 ·by_cases h2:l.length=0
  ·go_wp2;go_ret;obtain⟨r1,r2⟩:=Rd.asked hk hs hg hp hl (v:= .int .i64 (p+1)) (by go_num);exact⟨0,rfl,Int.le_refl _,.inl rfl,r1,r2⟩
  ·by_cases h3:p<l.length
   ·obtain⟨b,o,rfl,hb,hm,hcell⟩:=jef hs h3;have hne:b≠g:=Nat.ne_of_lt (hg b hm);have u0:(0:Int)≤(l[p].toNat:Int):=by omega
    have u1:(l[p].toNat:Int)≤255:=by have:=l[p].toNat_lt;omega
    go_wp2;go_ret;obtain⟨r1,r2⟩:=Rd.asked hk hs hg hp hl (v:= .int .i64 (p+1)) (by go_num);refine⟨_,rfl, ?_,.inr ?_,r1,r2⟩
    ·exact Int.emod_nonneg _ (by omega)
    ·exact Int.emod_lt_of_pos _ (by omega)
   ·have hlp:(0:Int)<(l.length:Int):=by omega
    obtain⟨k1,hj1⟩: ∃k1,p % l.length=k1:=⟨_,rfl⟩;obtain⟨k2,hj2⟩: ∃k2,(p*7+3) % l.length=k2:=⟨_,rfl⟩;have j1:k1<l.length:=by rw[←hj1];exact Nat.mod_lt _ (by omega)
    have j2:k2<l.length:=by rw[←hj2];exact Nat.mod_lt _ (by omega)
    obtain⟨b,o,rfl,hb,hm,q1⟩:=jef hs j1;obtain⟨b',o',he,_,_,q2⟩:=jef hs j2;cases he;have hne:b≠g:=Nat.ne_of_lt (hg b hm);have e1:(p:Int).tmod (l.length:Int)=(k1:Int):=by rw[Int.tmod_eq_emod_of_nonneg (by omega),←hj1,Int.natCast_emod]
    have e2:((p:Int)*7+3).tmod (l.length:Int)=(k2:Int):=by rw[Int.tmod_eq_emod_of_nonneg (by omega),←hj2,Int.natCast_emod,Int.natCast_add,Int.natCast_mul];rfl
    have e1':(p:Int) % (l.length:Int)=(k1:Int):=by rw[←hj1,Int.natCast_emod]
    have e2':((p:Int)*7+3) % (l.length:Int)=(k2:Int):=by rw[←hj2,Int.natCast_emod,Int.natCast_add,Int.natCast_mul];rfl
    have u0:(0:Int)≤(l[k1].toNat:Int):=by omega
    have u1:(l[k1].toNat:Int)≤255:=by have:=l[k1].toNat_lt;omega
    have v0:(0:Int)≤(l[k2].toNat:Int):=by omega
    have v1:(l[k2].toNat:Int)≤255:=by have:=l[k2].toNat_lt;omega
    have i0:(0:Int)≤(k1:Int):=by omega
    have i1:(k1:Int)<(l.length:Int):=by omega
    have i2:(0:Int)≤(k2:Int):=by omega
    have i3:(k2:Int)<(l.length:Int):=by omega
    clear hj1 hj2;go_wp2;go_quiet(fail);clear e1 e2 e1' e2' c0 c1 f1;obtain⟨q,hq⟩: ∃q,p / l.length=q:=⟨_,rfl⟩;have e3:(p:Int) / (l.length:Int)=(q:Int):=by rw[←hq,Int.natCast_ediv]
    have e4:q≤p:=by rw[←hq];exact Nat.div_le_self _ _
    have e5:wrap64 (wrap64 ((p:Int) / (l.length:Int))*53)=(q:Int)*53:=by
     rw[e3,jdc (a:=(q:Int)) (by omega) (by omega),jdc (by omega) (by omega)]
    have hx:=jmw (X:=(l[k1].toNat:Int)*131+(l[k2].toNat:Int)*1117+(p:Int)*29+wrap64 (wrap64 ((p:Int) / (l.length:Int))*53)) (by rw[e5];omega) (by rw[e5];omega);clear hq;have HX:=Ja hx;clear hx e3 e4 e5;go_wp2;go_ret;obtain⟨r1,r2⟩:=Rd.asked hk hs hg hp hl (v:= .int .i64 (p+1)) (by go_num);obtain⟨x0,x1⟩:=tmod_in HX.out h1
    exact⟨_,rfl,x0,.inr x1,r1.step (Below.drewN' (Below.refl _ _) _),r2.then_below (Below.drewN' (Below.refl _ _) _)⟩
theorem Jk (g P:Nat) (n:Int) (hP:P≤1000000) (hn:n≤1000000) (w:World) (h:Rd w g P):
  Calls Tryz.prog 32 #[.pointer (some ⟨g,0,none⟩),.int .i64 n] w fun e w'=>∃x:Nat,e= .returned (.int .i64 (x:Int))∧(x=0∨(x:Int)<n)∧Rd w' g (P+1)∧Only [g] w w':=
 (jkj g P n hP hn w h).mono fun e w' ⟨x,he,h0,h1,r⟩=>by
  obtain⟨k,rfl⟩: ∃k:Nat,x=k:=⟨x.toNat,by omega⟩;exact⟨k,he,by omega,r⟩
theorem jkv {A:Option Addr} {n c:Nat} {l:List UInt8} {fp:List Nat} (w:World) (hx:SlR Rp.byte w A n c l fp):
  Calls Tryz.prog 29 #[.slice A n c] w fun e w'=>∃g,e= .returned (.pointer (some ⟨g,0,none⟩))∧w.heap.size≤g∧Rd w' g 0∧Below w.heap.size w w':=by
 obtain⟨rfl,hcx,hmx,_⟩:=id hx;unfold maxLen at hmx;go_enter Tryz.func29,Tryz.ntmps29;by_cases hl:l.length≤2000
 ·go_wp2;go_ret;refine⟨w.heap.size,rfl,Nat.le_refl _,⟨A,_,c,l,fp,0,Blk.new w _ _,hx.allocN _,hx.lt,Nat.le_refl _,hl⟩,(Below.refl _ _).alloc nle _⟩
 ·obtain⟨f,hk,hf⟩:=hx.take (k:=2000) (by omega);go_wp2;go_ret;refine⟨w.heap.size,rfl,Nat.le_refl _,⟨A,_,c,l.take 2000,f,0,Blk.new w _ _,hk.allocN _,fun x hm=>hx.lt _ (hf _ hm),Nat.le_refl _,by simp;omega⟩,(Below.refl _ _).alloc nle _⟩
def DrStr (g P k:Nat) (w:World) (e:Ending) (w':World):Prop:=∃s:ByteArray,e= .returned (.string s)∧s.size≤k∧Rd w' g P∧Only [g] w w'
def jhc (l:List ByteArray):Array Value:=(l.map Value.string).toArray
theorem strs_at {l:List ByteArray} {x k:Nat} (hx:x<l.length) (hk: ∀s∈l,s.size≤k): ∃s,(jhc l)[x]? =some (.string s)∧s.size≤k:=
 ⟨l[x],by simp[jhc,hx],hk _ (List.getElem_mem hx)⟩
theorem Zs {w w1:World} {g H x k:Nat} {t:TypeId} {l:List ByteArray} (hb:Blk w H t (jhc l)) (ho:Only [g] w w1) (hg:H≠g) (hx:x<l.length) (hk: ∀s∈l,s.size≤k): ∃s,w1.cell? ⟨H,x,none⟩=some (.string s)∧s.size≤k:=by
 obtain⟨s,hs,hz⟩:=strs_at hx hk;exact⟨s,((hb.only ho (by simpa using hg)).cell x).trans hs,hz⟩
theorem Only.box {w w1:World} {f:List Nat} {o:Obj} (h:Only f (w.alloc o) w1):Only f w w1:=((Only.refl f w).alloc o).trans h
theorem jbf (g P:Nat) (hP:P+1≤1000000) (w:World) (h:Rd w g P):
  Calls Tryz.prog 128 #[.pointer (some ⟨g,0,none⟩)] w (DrStr g (P+1) 11 w):=by
 go_enter Tryz.func128,Tryz.ntmps128;go_wp2_with fail;have kb:=Blk.new w 9 (jhc [⟨#[97]⟩,⟨#[98]⟩,⟨#[97,47,98]⟩,⟨#[97,47,99]⟩,⟨#[98,47,97]⟩,⟨#[97,47,98,47,99]⟩,⟨#[99]⟩,⟨#[97,98]⟩,⟨#[97,47,97,98]⟩,⟨#[98,47,99,47,97]⟩]);refine(Jk g P 10 (by omega) (by omega) _ (h.step ((Below.refl _ _).alloc nle _))).mono ?_;rintro e w1 ⟨x,rfl,hx,hr,ho⟩;have hg:=h.lt
 obtain⟨s,hs,hz⟩:=Zs (k:=11) (x:=x) kb ho (by omega) (by simp;omega) (by decide);have x1:(x:Int)<10:=by omega
 clear kb hx;go_wp2;go_ret;exact⟨s,rfl,hz,hr,Only.box ho⟩
theorem Zz (g P:Nat) (n:Int) (hn:n≤1000) (hP:P+5≤1000000) (w:World) (h:Rd w g P):
  Calls Tryz.prog 80 #[.pointer (some ⟨g,0,none⟩),.int .i64 n] w (DrStr g (P+5) 11 w):=by
 have hg:=h.lt;go_enter Tryz.func80,Tryz.ntmps80;go_wp2_with fail;refine(Jk g P n (by omega) (by omega) _ h).mono ?_;rintro e w1 ⟨x,rfl,hx,hr,ho⟩;have hg1:=hr.lt;by_cases h0:x=0
 ·subst h0;clear hx;go_wp2_with fail;have kb:=Blk.new w1 9 (jhc [⟨#[47]⟩,⟨#[97,47]⟩,⟨#[47,97]⟩,⟨#[97,47,47,98]⟩,⟨#[65]⟩,⟨#[97,98,99,100]⟩,⟨#[97,47,98,47,99,47,100]⟩,⟨#[97,32,98]⟩,⟨#[122,122,122,47,122,122,122,47,122,122,122]⟩,⟨#[0]⟩]);refine(Jk g (P+1) 10 (by omega) (by omega) _ (hr.step ((Below.refl _ _).alloc nle _))).mono ?_;rintro e w2 ⟨x,rfl,hx,hr2,ho2⟩
  obtain⟨s,hs,hz⟩:=Zs (k:=11) (x:=x) kb ho2 (by omega) (by simp;omega) (by decide);have x1:(x:Int)<10:=by omega
  clear kb hx;go_wp2;go_ret;exact⟨s,rfl,hz,hr2.mono (by omega),ho.trans (Only.box ho2)⟩
 ·have h1:(0:Int)<(x:Int):=by omega
  clear hx;go_wp2_with fail;refine(jbf g (P+1) (by omega) _ hr).mono ?_;rintro e w2 ⟨s1,rfl,hz1,hr2,ho2⟩;go_wp2_with fail;refine(jbf g (P+1+1) (by omega) _ hr2).mono ?_;rintro e w3 ⟨s2,rfl,hz2,hr3,ho3⟩;go_wp2_with fail;refine(jbf g (P+1+1+1) (by omega) _ hr3).mono ?_;rintro e w4 ⟨s3,rfl,hz3,hr4,ho4⟩;have hg4:=hr4.lt;go_wp2_with fail
  have kb:=Blk.new w4 9 (jhc [ByteArray.empty,s1,s2,s3]);refine(Jk g (P+1+1+1+1) 4 (by omega) (by omega) _ (hr4.step ((Below.refl _ _).alloc nle _))).mono ?_;rintro e w5 ⟨x,rfl,hx,hr5,ho5⟩;obtain⟨s,hs,hz⟩:=Zs (k:=11) (x:=x) kb ho5 (by omega) (by simp;omega) (by
   intro s hs;simp only[List.mem_cons,List.not_mem_nil,or_false] at hs;rcases hs with rfl|rfl|rfl|rfl
   ·decide
   ·exact hz1
   ·exact hz2
   ·exact hz3)
  have x1:(x:Int)<4:=by omega
  clear kb hx;go_wp2;go_ret;exact⟨s,rfl,hz,hr5.mono (by omega),ho.trans (ho2.trans (ho3.trans (ho4.trans (Only.box ho5))))⟩
theorem jdf (b:Nat): ∀(vs:List Value) (o:Nat) (w:World),w.setCells b o vs=puts w b o vs
 | [],_,_=>rfl
 |v::vs,o,w=>jdf b vs (o+1) (w.setCell ⟨b,o,none⟩ v)
theorem jia (z:Array Value) (k:Nat) (hk:z.size=k) (n:Nat):(Builtin.zeroCells z n).toList=(List.replicate n z.toList).flatten:=by
 rw[←jb5 z k hk n];simp[Builtin.zeroCells,madeCells,hk]
theorem jn8 {P:Program} (w:World) (t e ty:TypeId) (z:Value) (k:Nat) (ht:P.underlying t=some (.slice e)) (hv: ∀w,(zeroValue e).run P w= .ok z w) (hz:z.cells.size=k) (h1: ∀v∈z.cells.toList,v.oneCell'=true) (b o n c:Nat)
  (hc: ∀j,j<n*k→(w.cell? ⟨b,o+j,none⟩).isSome=true) (hf: ∀j,j<n*k→w.frozen? ⟨b,o+j,none⟩=false):
  (Builtin.clear_ #[t] ty #[.slice (some ⟨b,o,none⟩) n c]).run P w= .ok (.tuple #[]) (puts w b o (List.replicate n z.cells.toList).flatten):=by
 have hl:(List.replicate n z.cells.toList).flatten.length=n*k:=by simp[hz]
 have hst:=run_storeCells_cells (P:=P) b o (List.replicate n z.cells.toList).flatten 0 w (by rw[hl];simpa using hc) (by rw[hl];simpa using hf) (by
  intro v hv';obtain⟨l,hl',hm⟩:=List.mem_flatten.1 hv';rw[List.eq_of_mem_replicate hl'] at hm;exact h1 v hm)
 simp only[Nat.add_zero] at hst;rw[jdf] at hst;cases n with
 |zero=>simp[Builtin.clear_,run_underlying ht,puts]
 |succ m=>
  have hzc:=jia z.cells k hz (m+1);simp[Builtin.clear_,run_underlying ht,hv,hzc,hst]
theorem jeq {b:Nat} : ∀ {vs:List Value} {o:Nat} {w:World} {x:Nat},x<o→(puts w b o vs).cell? ⟨b,x,none⟩=w.cell? ⟨b,x,none⟩
 | [],_,_,_,_=>rfl
 |v::vs,o,w,x,h=>(jeq (vs:=vs) (by omega)).trans (World.cell?_setCell_other _ _ _ _ (by simp only[ne_eq,Addr.mk.injEq];omega))
theorem jis {b:Nat} {fp:List Nat} (hb:b∈fp): ∀ {vs:List Value} {o:Nat} {w:World},Only fp w (puts w b o vs)
 | [],_,_=>Only.refl _ _
 |v::vs,o,w=>((Only.refl fp w).setCell (p:=⟨b,o,none⟩) (.inl hb) v).trans (jis hb)
section
variable {α:Type} {k:Nat} {enc:α→List Value} {hk: ∀x,(enc x).length=k} {h1: ∀x,∀u∈enc x,u.oneCell'=true} {w:World} {A:Option Addr} {n c b o:Nat} {l:List α} {fp:List Nat}
theorem SlR.cell_some {α:Type} {r:Rp α} {l:List α} (h:SlR r w A n c l fp) (hA:A=some ⟨b,o,none⟩) {j:Nat} (hj:j<l.length*r.k): ∃u,w.cell? ⟨b,o+j,none⟩=some u:=by
 obtain⟨hn,h1,h2,xs,f0,f1,hs,ha,hf⟩:=h;have hl:=hs.1;rcases hs.2 with ⟨h0,_⟩|⟨hn0,b',o',hA',hf0,hb,hc⟩
 ·rw[←hn,h0] at hj;omega
 ·rw[hA] at hA';cases hA';have hjx:j<xs.length:=by rw[hl,hn];exact hj
  exact⟨xs[j],hc j _ (List.getElem?_eq_getElem hjx)⟩
theorem SlR.cut_puts (h:SlR (Rp.flat k enc hk h1) w A n c l fp) (hA:A=some ⟨b,o,none⟩) {i:Nat} (hi:i≤l.length) (vs:List Value): ∃f,SlR (Rp.flat k enc hk h1) (puts w b (o+i*k) vs) A i c (l.take i) f∧∀x∈f,x∈fp:=by
 obtain⟨f,hs,hsub⟩:=h.take hi;refine⟨f, ?_,hsub⟩;obtain⟨hn,g1,g2,xs,f0,f1,hsl,ha,hf⟩:=hs;obtain⟨e1,e2⟩:=AllR.flat.1 ha;have hl:=hsl.1;refine⟨hn,g1,g2,xs,f0,f1,⟨hl, ?_⟩,AllR.flat.2 ⟨e1,e2⟩,hf⟩;rcases hsl.2 with h0|⟨hn0,b',o',hA',hf0,hb,hc⟩
 ·exact .inl h0
 ·rw[hA] at hA';cases hA';refine .inr ⟨hn0,b,o,hA,hf0,by rw[jir];exact hb,fun j u hu=> ?_⟩;have hj:=(List.getElem?_eq_some_iff.1 hu).1;rw[hl] at hj;rw[jeq (by have:(Rp.flat k enc hk h1).k=k:=rfl;rw[this] at hj;omega)];exact hc j u hu
end
structure DelRel (p:Yt→Bool) (l:List Yt) (w:World) (A:Option Addr) (c:Nat) (fp:List Nat) (i j:Nat) (dk:List Yt) (wr:World):Prop where
 lt:i<j
 le:j≤l.length
 sl:SlR Rp.rule wr A l.length c dk fp
 kept:dk.take i=(l.take j).filter fun x=> !p x
 rest: ∀t,j≤t→dk[t]? =l[t]?
 only:Only fp w wr
 free:Free wr fp
section
variable {p:Yt→Bool} {l:List Yt} {w:World} {A:Option Addr} {c:Nat} {fp:List Nat} {i j:Nat} {dk:List Yt} {wr w1:World}
theorem DelRel.len (h:DelRel p l w A c fp i j dk wr):dk.length=l.length:=h.sl.1.symm
theorem DelRel.step (h:DelRel p l w A c fp i j dk wr) (hb:Below wr.heap.size wr w1):DelRel p l w A c fp i j dk w1:=
 ⟨h.lt,h.le,h.sl.step hb,h.kept,h.rest,h.only.then_below hb,h.free.step hb⟩
theorem DelRel.skip (h:DelRel p l w A c fp i j dk wr) (hj:j<l.length) (hp:p l[j]=true):DelRel p l w A c fp i (j+1) dk wr:=
 ⟨by have:=h.lt;omega,hj,h.sl,by rw[h.kept,List.take_succ_eq_append_getElem hj,List.filter_append];simp[hp],fun t ht=>h.rest t (by omega),h.only,h.free⟩
theorem DelRel.at_ (h:DelRel p l w A c fp i j dk wr) (hj:j<l.length) (hd:j<dk.length):dk[j]=l[j]:=by
 have:=h.rest j nle;rw[List.getElem?_eq_getElem hj,List.getElem?_eq_getElem hd] at this;exact Option.some.inj this
theorem DelRel.keep (h:DelRel p l w A c fp i j dk wr) (hj:j<l.length) (hp:p l[j]=false) {w':World} (hs:SlR Rp.rule w' A l.length c (dk.set i l[j]) fp) (ho:Only fp w w') (hf:Free w' fp):DelRel p l w A c fp (i+1) (j+1) (dk.set i l[j]) w':=by
 have hl:=h.len;have hi:=h.lt;refine⟨by omega,hj,hs, ?_,fun t ht=> ?_,ho,hf⟩
 ·have hlt:i<(dk.set i l[j]).length:=by simp;omega
  rw[List.take_succ_eq_append_getElem hlt,List.take_set_of_le nle,h.kept,List.take_succ_eq_append_getElem hj,List.filter_append];simp[hp]
 ·rw[List.getElem?_set_ne (by omega)];exact h.rest t (by omega)
end
theorem jla {A:Option Addr} {n c:Nat} {l:List Yt} {fp:List Nat} (p:Yt→Bool) (g:Nat) (lb:Array Value) (eg: ∀args w,(callFunc g args).run Tryz.prog w= .ok (.enter g args) w) (w:World) (hx:SlR Rp.rule w A n c l fp) (hn:fp.Nodup) (hf:Free w fp)
  (hp: ∀(x:Yt) (w1:World),Only fp w w1→Calls Tryz.prog g (#[.agg (Jh x).toArray]++lb) w1 fun e w2=>e= .returned (.bool (p x))∧Below w1.heap.size w1 w2):
  Calls Tryz.prog 157 #[.slice A n c,.func (.func g) #[] lb] w fun e w'=>
   ∃m fp',e= .returned (.slice A m c)∧SlR Rp.rule w' A m c (l.filter fun x=> !p x) fp'∧(∀b∈fp',b∈fp)∧Only fp w w':=by
 obtain⟨rfl,hcx,hmx,_⟩:=id hx;unfold maxLen at hmx;have HP:=Ja hp;have HX:=Ja hx;have HN:=Ja hn;have HF:=Ja hf;have HI:=Ja (jf0 p g lb eg w hx fun i hi cs fq w1 hB hR=>by
  obtain⟨rfl,rfl⟩:=hR;exact HP.out l[i] w1 (Only.of_below hB fp))
 clear hp hx hn hf;go_enter Tryz.func157,Tryz.ntmps157;cases hd:l.findIdx? p with
 |none=>
  have e1:jd4 p l= -1:=by unfold jd4;rw[hd]
  have HK:=Ja (show(l.filter fun x=> !p x)=l from List.filter_eq_self.2 fun x hx=>by simpa using List.findIdx?_eq_none_iff.1 hd x hx);rw[e1] at HI;clear hd e1;go_wp2_with fail;refine HI.out.mono ?_;rintro e w1 ⟨rfl,hb1⟩;go_wp2;go_ret;refine⟨l.length,fp,rfl, ?_,fun b hb=>hb,Only.of_below hb1 fp⟩;rw[HK.out];exact HX.out.step hb1
 |some k0=>
  obtain⟨hk0,hpk,hbef⟩:=List.findIdx?_eq_some_iff_getElem.1 hd;have e1:jd4 p l=k0:=by unfold jd4;rw[hd]
  have HS:=Ja (show l.take k0=(l.take (k0+1)).filter fun x=> !p x by
   rw[List.take_succ_eq_append_getElem hk0,List.filter_append];simp only[List.filter_cons,hpk,Bool.not_true,List.filter_nil];rw[List.filter_eq_self.2 fun x hx=>by
    obtain⟨i,hi,rfl⟩:=List.mem_take_iff_getElem.1 hx;simpa using hbef i (by omega)]
   simp)
  rw[e1] at HI;clear hd e1 hpk hbef;go_wp2_with fail;refine HI.out.mono ?_;rintro e w1 ⟨rfl,hb1⟩;have HR:=Ja (show DelRel p l w A c fp k0 (k0+1) l w1 from⟨by omega,by omega,HX.out.step hb1,HS.out,fun _ _=>rfl,Only.of_below hb1 fp,HF.out.step hb1⟩);have hk1:((k0:Int)== -1)=false:=by simp
  clear hb1 HI HS HF;go_wp2
  go_loopw [5,6] (fun iv jv wr=>∃(i j:Nat) (dk:List Yt),iv= .int .i64 (i:Int)∧jv= .int .i64 (j:Int)∧DelRel p l w A c fp i j dk wr) (fun _ jv _=>l.length - (intOf jv).toNat)
  case atStart=>exact⟨k0,k0+1,l,rfl,by go_num,HR.out⟩
  case round=>
   obtain⟨i,j,dk,rfl,rfl,hrel⟩:=hrel;have hij:=hrel.lt;have hjl:=hrel.le;have hdl:=hrel.len;have HD:=Ja hrel;clear hrel HR hk1;by_cases hlt:j<l.length
   ·have hlt':j<dk.length:=by omega
    obtain⟨b,o,rfl,hb,hm,h0,h1,h2,h3⟩:=Yv HD.out.sl (by omega:j<dk.length);rw[HD.out.at_ hlt hlt'] at h0 h1 h2 h3;have hcall:=HP.out l[j] (wr.alloc (.cells (Jh l[j]).toArray 29)) (HD.out.only.alloc _);unfold Jh at hcall;have HC:=Ja hcall;clear hcall;have kb:=Blk.new wr 29 (Jh l[j]).toArray;have hbA:=(Below.refl wr.heap.size wr).alloc nle (.cells (Jh l[j]).toArray 29)
    go_wp2_with fail;refine HC.out.mono ?_;rintro e w2 ⟨rfl,hb2⟩;replace kb:=kb.step hb2;have HD2:=Ja ((HD.out.step hbA).step hb2);have q0:=Blk.c0 kb;have q1:=Blk.c1 kb;have q2:=Blk.c2 kb;have q3:=Blk.c3 kb;clear hb2 hbA kb h0 h1 h2 h3 HC HD;cases hd:p l[j]
    ·obtain⟨b',o',cs,f,hA,hfn,⟨rfl,rfl⟩,hE,hcl⟩:=HD2.out.sl.elem HN.out HD2.out.free (i:=i) (by omega);cases hA;have c0:=hE.cells.at0;have c1:=hE.cells.tail.at0;have c2:=hE.cells.tail.tail.at0;have c3:=hE.cells.tail.tail.tail.at0;have z0:=hE.frozen (o+i*4);have z1:=hE.frozen (o+i*4+1);have z2:=hE.frozen (o+i*4+1+1);have z3:=hE.frozen (o+i*4+1+1+1);have i0:(i:Int)<(l.length:Int):=by omega
     simp only[show Rp.rule.k=4 from rfl] at c0 c1 c2 c3;have HE:=Ja hE;have HCL:=Ja hcl;have HQ:=Ja hd;clear hE hcl hd;have HS:=Ja (HCL.out _ (Jh l[j]) l[j] (HE.out.puts (vs:=Jh l[j]) rfl) ⟨rfl,rfl⟩);have HO:=Ja (HD2.out.only.then_only (HE.out.puts (vs:=Jh l[j]) rfl).only fun _ hx=> .inl hx)
     have HM:=Ja (HD2.out.keep hlt HQ.out HS.out HO.out (HE.out.puts (vs:=Jh l[j]) rfl).free);clear HS HO HCL;go_wp2;exact⟨⟨i+1,j+1,dk.set i l[j],by go_num,by go_num,HM.out⟩,by simp[intOf];omega⟩
    ·have HM:=Ja (HD2.out.skip hlt hd);clear hd q0 q1 q2 q3;go_wp2;exact⟨⟨i,j+1,dk,rfl,by go_num,HM.out⟩,by simp[intOf];omega⟩
   ·have hj:j=l.length:=by omega
    subst hj;have hil:i<dk.length:=by omega
    obtain⟨b,o,rfl,hb,hm,_⟩:=Yv HD.out.sl hil;have hcl: ∀ty,(Builtin.clear_ #[45] ty #[.slice (some ⟨b,o+i*4,none⟩) (l.length - i) (c - i)]).run Tryz.prog wr= .ok (.tuple #[]) (puts wr b (o+i*4) (List.replicate (l.length - i) [.int .i64 0,.string ByteArray.empty,.string ByteArray.empty,.bool false]).flatten):=fun ty=>
     jn8 (P:=Tryz.prog) wr 45 29 ty (.agg #[.int .i64 0,.string ByteArray.empty,.string ByteArray.empty,.bool false]) 4 Tryz.underlying45 (fun w=>by kernel_rfl) rfl (by intro v hv;simp[Value.cells] at hv;rcases hv with rfl|rfl|rfl|rfl<;>rfl) b (o+i*4) _ _
      (fun t ht=>by
       obtain⟨u,hu⟩:=HD.out.sl.cell_some rfl (j:=i*4+t) (by simp only[show Rp.rule.k=4 from rfl];omega);rw[show o+i*4+t=o+(i*4+t) by omega,hu];rfl)
      (fun t _=>HD.out.free.frozen hm _)
    have i1:(i:Int)≤(l.length:Int):=by omega
    have i2:(i:Int)≤(c:Int):=by omega
    go_wp2;go_ret;obtain⟨fp',h1,h2⟩:=HD.out.sl.cut_puts rfl (i:=i) (by omega) (List.replicate (l.length - i) [.int .i64 0,.string ByteArray.empty,.string ByteArray.empty,.bool false]).flatten;refine⟨i,fp',rfl, ?_,h2,HD.out.only.then_only (jis hm) fun _ hx=> .inl hx⟩;have hk:=HD.out.kept;rw[List.take_length] at hk;rw[←hk];exact h1
theorem jkb (x r:Yt) (b1:Nat) (t:TypeId) (w:World) (k1:Blk w b1 t (Jh r).toArray):
  Calls Tryz.prog 158 #[.agg (Jh x).toArray,.pointer (some ⟨b1,0,none⟩)] w fun e w'=>e= .returned (.bool (decide (x=r)))∧Below w.heap.size w w':=by
 have heq:=jk7 x r;have hgd:=jjj;rw[show(Jh x).toArray= #[.int .i64 x.user,.string x.ref,.string x.path,.bool x.write] from rfl] at heq ⊢;rw[show(Jh r).toArray= #[.int .i64 r.user,.string r.ref,.string r.path,.bool r.write] from rfl] at heq;have k2:=k1.alloc (.cells #[.int .i64 x.user,.string x.ref,.string x.path,.bool x.write] 29)
 have c0:(w.alloc (.cells #[.int .i64 x.user,.string x.ref,.string x.path,.bool x.write] 29)).cell? ⟨b1,0,none⟩=some (.int .i64 r.user):=k2.cell 0;have c1:(w.alloc (.cells #[.int .i64 x.user,.string x.ref,.string x.path,.bool x.write] 29)).cell? ⟨b1,1,none⟩=some (.string r.ref):=k2.cell 1
 have c2:(w.alloc (.cells #[.int .i64 x.user,.string x.ref,.string x.path,.bool x.write] 29)).cell? ⟨b1,2,none⟩=some (.string r.path):=k2.cell 2;have c3:(w.alloc (.cells #[.int .i64 x.user,.string x.ref,.string x.path,.bool x.write] 29)).cell? ⟨b1,3,none⟩=some (.bool r.write):=k2.cell 3;clear k1 k2;go_enter Tryz.func158,Tryz.ntmps158;go_wp2;go_ret;exact⟨rfl,(Below.refl _ _).alloc nle _⟩
theorem jgj {A:Option Addr} {n c:Nat} {l:List Yt} {fp:List Nat} (r:Yt) (w:World) (hx:SlR Rp.rule w A n c l fp) (hl:l.length≤4194304):
  Calls Tryz.prog 137 #[.slice A n c,.agg (Jh r).toArray] w (jqh 29 4 Jh w (Yy l r) (decide ((Yy l r).length<l.length))):=by
 have hmf:=Zd;have hn:=hx.1;subst hn;have kb:=Blk.new w 29 (Jh r).toArray;have hx1:=hx.allocN (.cells (Jh r).toArray 29);have hbA:=(Below.refl w.heap.size w).alloc nle (.cells (Jh r).toArray 29);rw[show(Jh r).toArray= #[.int .i64 r.user,.string r.ref,.string r.path,.bool r.write] from rfl] at kb hx1 hbA ⊢;clear hx;go_enter Tryz.func137,Tryz.ntmps137;go_wp2_with fail
 refine(Z1 _ hx1 hl).mono ?_;rintro e w1 ⟨v,rfl,hown,hb1⟩;replace kb:=kb.step hb1;have hb1':=hbA.trans (hb1.mono hbA.size);have hsz:=hb1.size;simp only[World.size_alloc] at hsz hown;obtain⟨A',c',f,rfl,hs,hfb,hnd,hfr⟩:=Xw (k:=4) (enc:=Jh) (hk:=fun _=>rfl) (h1:=Y9) hown;clear hown hb1 hbA hx1;go_wp2_with fail
 refine(jla (fun x=>decide (x=r)) _ _ (enters_of Tryz.func158 (by kernel_rfl) rfl) _ hs hnd hfr (fun x wz ho=> ?_)).mono ?_
 ·exact jkb x r w.heap.size _ wz (kb.only ho (fun hm=>by have:=hfb _ hm;omega))
 ·rintro e w2 ⟨m,fp',rfl,hs2,hsub,ho2⟩;have hn2:=hs2.1;subst hn2;have hbl:=hb1'.trans (ho2.below (B:=w.heap.size) (fun b hb=>by have:=hfb b hb;omega) hb1'.size);have hlen:(l.filter fun x=> !decide (x=r)).length≤l.length:=List.length_filter_le _ _;go_wp2_with fail;refine(Z1 _ hs2 (by omega)).mono ?_;rintro e w3 ⟨v3,rfl,hown3,hb3⟩;have HW:=Ja (Zy hown3 hbl.size)
  have HBL:=Ja (Below.t hbl hb3);clear hown3 hb3 hbl ho2 hs2 hsub;go_wp2
  go_ret2
  refine⟨v3, ?_,HW.out,HBL.out⟩;rw[show decide ((Yy l r).length<l.length)=decide (r∈l) from decide_eq_decide.2 (by unfold Yy;simp)];rfl
theorem jhd {cs:List Value} {x:Req} {fx:List Nat} (w:World) (hx:Rp.req.R w cs x fx) (hf:jdu x):
  Calls Tryz.prog 13 #[.agg cs.toArray] w fun e w'=>e= .returned (.bool (Yw x))∧Below w.heap.size w w':=by
 obtain⟨A0,n0,c0,f0,rfl,_,h0⟩:=hx;have hn:=h0.1;subst hn;have hmx:=h0.max;have HF:=Ja hf;clear hf;go_enter Tryz.func13,Tryz.ntmps13;have k0:=Blk.new w 31 (RA x (.slice A0 x.Ez.length c0));have s0:=h0.allocN (.cells (RA x (.slice A0 x.Ez.length c0)) 31);have HB0:=(Below.refl w.heap.size w).alloc nle (.cells (RA x (.slice A0 x.Ez.length c0)) 31);clear h0;go_wp2_with fail
 refine(Jw _ _ _ _).mono ?_;rintro e w1 ⟨rfl,hb1⟩;have k1:=k0.step hb1;have s1:=s0.step hb1;have HB1:=HB0.trans (hb1.mono HB0.size);clear hb1 k0 s0 HB0;cases hd:inB x.user 0 99
 ·go_wp2;go_ret;exact⟨Jc (by simp[Yw,hd]),HB1⟩
 ·have H1:=Ja hd;clear hd;have c1:=Blk.c1 k1;go_wp2_with fail;refine(Jw _ _ _ _).mono ?_;rintro e w2 ⟨rfl,hb2⟩;have k2:=k1.step hb2;have s2:=s1.step hb2;have HB2:=Below.t HB1 hb2;clear hb2 k1 s1 HB1 c1;cases hd:inB x.key 0 9999
  ·go_wp2;go_ret;exact⟨Jc (by simp[Yw,hd]),HB2⟩
  ·have H2:=Ja hd;clear hd;have c2:=Blk.c2 k2;go_wp2_with fail;refine(Jw _ _ _ _).mono ?_;rintro e w3 ⟨rfl,hb3⟩;have k3:=k2.step hb3;have s3:=s2.step hb3;have HB3:=Below.t HB2 hb3;clear hb3 k2 s2 HB2 c2;cases hd:inB x.repo 0 99
   ·go_wp2;go_ret;exact⟨Jc (by simp[Yw,hd]),HB3⟩
   ·have H3:=Ja hd;clear hd;have c3:=Blk.c3 k3;go_wp2_with fail;refine(Jw _ _ _ _).mono ?_;rintro e w4 ⟨rfl,hb4⟩;have k4:=k3.step hb4;have s4:=s3.step hb4;have HB4:=Below.t HB3 hb4;clear hb4 k3 s3 HB3 c3;cases hd:inB x.kind 1 11
    ·go_wp2;go_ret;exact⟨Jc (by simp[Yw,hd]),HB4⟩
    ·have H4:=Ja hd;clear hd;have c8:=Blk.c8 k4;go_wp2_with fail;refine(jkt _ s4 HF.out.Ez).mono ?_;rintro e w5 ⟨rfl,hb5⟩;have k5:=k4.step hb5;have s5:=s4.step hb5;have HB5:=Below.t HB4 hb5;clear hb5 k4 s4 HB4 c8;cases hd:(decide (x.Ez.length≤4)&& !(x.Ez.any fun e=> !editOk e))
     ·go_wp2;go_ret;exact⟨Jc (by unfold Yw;rw[Bool.and_assoc,hd,Bool.and_false]),HB5⟩
     ·have H5:=Ja hd;clear hd;have c9:=Blk.c9 k5;have c10:=Blk.c10 k5;have c11:=Blk.c11 k5;have c12:=Blk.c12 k5;go_wp2_with fail;refine(jag x.rule HF.out.rule _).mono ?_;rintro e w6 ⟨rfl,hb6⟩;have k6:=k5.step hb6;have s6:=s5.step hb6;have HB6:=Below.t HB5 hb6;clear hb6 k5 s5 HB5 c9 c10 c11 c12;cases hd:jac x.rule
      ·go_wp2;go_ret;exact⟨Jc (by simp[Yw,hd]),HB6⟩
      ·have H6:=Ja hd;clear hd;have c4:=Blk.c4 k6;cases hqref:x.ref.toList.isEmpty
       ·go_wp2_with fail;refine(Vq _ HF.out.ref _).mono ?_;rintro e w7 ⟨rfl,hb7⟩;rw[Ju] at hqref;have Qref:=Ja hqref;have k7:=k6.step hb7;have s7:=s6.step hb7;have HB7:=Below.t HB6 hb7;clear hb7 k6 s6 HB6 c4 hqref;cases hd:Y5 x.ref
        ·go_wp2;go_ret;exact⟨Jc (by simp[Yw,refFits,Qref.out,hd]),HB7⟩
        ·have Nref:=Ja (show refFits x.ref=true by simp[refFits,hd]);clear hd;have c5:=Blk.c5 k7;go_wp2_with fail;refine(Y6 _ HF.out.path _).mono ?_;rintro e w8 ⟨rfl,hb8⟩;have k8:=k7.step hb8;have s8:=s7.step hb8;have HB8:=Below.t HB7 hb8;clear hb8 k7 s7 HB7 c5;cases hd:Xm x.path
         ·go_wp2;go_ret;exact⟨Jc (by simp[Yw,hd]),HB8⟩
         ·have H8:=Ja hd;clear hd;have c6:=Blk.c6 k8;go_wp2_with fail;refine(Jw _ _ _ _).mono ?_;rintro e w9 ⟨rfl,hb9⟩;have k9:=k8.step hb9;have s9:=s8.step hb9;have HB9:=Below.t HB8 hb9;clear hb9 k8 s8 HB8 c6;cases hd:inB x.old 0 99
          ·go_wp2;go_ret;exact⟨Jc (by simp[Yw,hd]),HB9⟩
          ·have H9:=Ja hd;clear hd;have c7:=Blk.c7 k9;go_wp2_with fail;refine(Jw _ _ _ _).mono ?_;rintro e w10 ⟨rfl,hb10⟩;have k10:=k9.step hb10;have s10:=s9.step hb10;have HB10:=Below.t HB9 hb10;clear hb10 k9 s9 HB9 c7;cases hd:inB x.back 0 99
           ·go_wp2;go_ret;exact⟨Jc (by simp[Yw,hd]),HB10⟩
           ·have H10:=Ja hd;clear hd;have c13:=Blk.c13 k10;go_wp2_with fail;refine(Jw _ _ _ _).mono ?_;rintro e w11 ⟨rfl,hb11⟩;have k11:=k10.step hb11;have s11:=s10.step hb11;have HB11:=Below.t HB10 hb11;clear hb11 k10 s10 HB10 c13;cases hd:inB x.frm 0 99
            ·go_wp2;go_ret;exact⟨Jc (by simp[Yw,hd]),HB11⟩
            ·have H11:=Ja hd;clear hd;have c14:=Blk.c14 k11;cases hqother:x.other.toList.isEmpty
             ·go_wp2_with fail;refine(Vq _ HF.out.other _).mono ?_;rintro e w12 ⟨rfl,hb12⟩;rw[Ju] at hqother;have Qother:=Ja hqother;have k12:=k11.step hb12;have s12:=s11.step hb12;have HB12:=Below.t HB11 hb12;clear hb12 k11 s11 HB11 c14 hqother;cases hd:Y5 x.other
              ·go_wp2;go_ret;exact⟨Jc (by simp[Yw,refFits,Qother.out,hd]),HB12⟩
              ·have Nother:=Ja (show refFits x.other=true by simp[refFits,hd]);clear hd;go_wp2;go_ret;exact⟨Jc (by unfold Yw;rw[Bool.and_assoc];simp only[H1.out,H2.out,H3.out,H4.out,H5.out,H6.out,Nref.out,H8.out,H9.out,H10.out,H11.out,Nother.out,Bool.and_true]),HB12⟩
             ·have Nother:=Ja (show refFits x.other=true by rw[Ju] at hqother;simp[refFits,hqother]);go_wp2;go_ret;exact⟨Jc (by unfold Yw;rw[Bool.and_assoc];simp only[H1.out,H2.out,H3.out,H4.out,H5.out,H6.out,Nref.out,H8.out,H9.out,H10.out,H11.out,Nother.out,Bool.and_true]),HB11⟩
       ·have Nref:=Ja (show refFits x.ref=true by rw[Ju] at hqref;simp[refFits,hqref]);have c5:=Blk.c5 k6;go_wp2_with fail;refine(Y6 _ HF.out.path _).mono ?_;rintro e w7 ⟨rfl,hb7⟩;have k7:=k6.step hb7;have s7:=s6.step hb7;have HB7:=Below.t HB6 hb7;clear hb7 k6 s6 HB6 c5;cases hd:Xm x.path
        ·go_wp2;go_ret;exact⟨Jc (by simp[Yw,hd]),HB7⟩
        ·have H8:=Ja hd;clear hd;have c6:=Blk.c6 k7;go_wp2_with fail;refine(Jw _ _ _ _).mono ?_;rintro e w8 ⟨rfl,hb8⟩;have k8:=k7.step hb8;have s8:=s7.step hb8;have HB8:=Below.t HB7 hb8;clear hb8 k7 s7 HB7 c6;cases hd:inB x.old 0 99
         ·go_wp2;go_ret;exact⟨Jc (by simp[Yw,hd]),HB8⟩
         ·have H9:=Ja hd;clear hd;have c7:=Blk.c7 k8;go_wp2_with fail;refine(Jw _ _ _ _).mono ?_;rintro e w9 ⟨rfl,hb9⟩;have k9:=k8.step hb9;have s9:=s8.step hb9;have HB9:=Below.t HB8 hb9;clear hb9 k8 s8 HB8 c7;cases hd:inB x.back 0 99
          ·go_wp2;go_ret;exact⟨Jc (by simp[Yw,hd]),HB9⟩
          ·have H10:=Ja hd;clear hd;have c13:=Blk.c13 k9;go_wp2_with fail;refine(Jw _ _ _ _).mono ?_;rintro e w10 ⟨rfl,hb10⟩;have k10:=k9.step hb10;have s10:=s9.step hb10;have HB10:=Below.t HB9 hb10;clear hb10 k9 s9 HB9 c13;cases hd:inB x.frm 0 99
           ·go_wp2;go_ret;exact⟨Jc (by simp[Yw,hd]),HB10⟩
           ·have H11:=Ja hd;clear hd;have c14:=Blk.c14 k10;cases hqother:x.other.toList.isEmpty
            ·go_wp2_with fail;refine(Vq _ HF.out.other _).mono ?_;rintro e w11 ⟨rfl,hb11⟩;rw[Ju] at hqother;have Qother:=Ja hqother;have k11:=k10.step hb11;have s11:=s10.step hb11;have HB11:=Below.t HB10 hb11;clear hb11 k10 s10 HB10 c14 hqother;cases hd:Y5 x.other
             ·go_wp2;go_ret;exact⟨Jc (by simp[Yw,refFits,Qother.out,hd]),HB11⟩
             ·have Nother:=Ja (show refFits x.other=true by simp[refFits,hd]);clear hd;go_wp2;go_ret;exact⟨Jc (by unfold Yw;rw[Bool.and_assoc];simp only[H1.out,H2.out,H3.out,H4.out,H5.out,H6.out,Nref.out,H8.out,H9.out,H10.out,H11.out,Nother.out,Bool.and_true]),HB11⟩
            ·have Nother:=Ja (show refFits x.other=true by rw[Ju] at hqother;simp[refFits,hqother]);go_wp2;go_ret;exact⟨Jc (by unfold Yw;rw[Bool.and_assoc];simp only[H1.out,H2.out,H3.out,H4.out,H5.out,H6.out,Nref.out,H8.out,H9.out,H10.out,H11.out,Nother.out,Bool.and_true]),HB10⟩
theorem jg4 {A A':Option Addr} {n n' c c':Nat} {x y:List Int} {fx fy:List Nat} (w:World) (hx:SlR Rp.int w A n c x fx) (hy:SlR Rp.int w A' n' c' y fy):
  Calls Tryz.prog 46 #[.slice A n c,.slice A' n' c'] w fun e w'=>e= .returned (.bool (decide (x=y)))∧Below w.heap.size w w':=by
 obtain⟨rfl,hcx,hmx,_⟩:=id hx;obtain⟨rfl,hcy,hmy,_⟩:=id hy;unfold maxLen at hmx hmy;by_cases hl:x.length=y.length
 ·have e0:((x.length:Int) !=y.length)=false:=by simp[hl]
  have HL:=Ja hl;clear hl;go_enter Tryz.func46,Tryz.ntmps46;go_wp2
  go_loopw [5] (fun i wr=>∃k:Nat,k≤x.length∧i= .int .i64 k∧je6 x y k∧Below w.heap.size w wr) (fun i _=>x.length - (intOf i).toNat)
  case atStart=>exact⟨0,Nat.zero_le _,rfl,rfl,Below.refl _ _⟩
  case round=>
   obtain⟨k,hk,rfl,hag,hbl⟩:=hrel;by_cases hlt:k<x.length
   ·obtain⟨b,o,rfl,hb,_,h0⟩:=Xg (hx.below hbl nle) hlt;obtain⟨b',o',rfl,hb',_,g0⟩:=Xg (hy.below hbl nle) (i:=k) (by have:=HL.out;omega);have hlt':k<y.length:=by have:=HL.out;omega
    have i0:(0:Int)≤(k:Int):=by omega
    have i1:(k:Int)<(x.length:Int):=by omega
    have i2:(k:Int)<(y.length:Int):=by omega
    by_cases hxy:x[k]=y[k]
    ·have HN:=Ja (Zw hag hlt hlt' hxy);rw[←hxy] at g0;clear hxy;generalize x[k]=xk at h0 g0;go_wp2_with fail;go_quiet(fail);go_wp2;refine⟨⟨k+1,by omega,by go_num,HN.out,Below.drewN' hbl _⟩,by simp[intOf];omega⟩
    ·have HN:=Ja (Ww hlt hlt' hxy);have hd:(x[k] !=y[k])=true:=by exact bne_iff_ne.2 hxy
     generalize x[k]=xk at h0 hd;generalize y[k]=yk at g0 hd;clear hxy;go_wp2_with fail;go_quiet(fail);go_wp2;go_ret;exact⟨Jc (by simpa using HN.out),Below.drewN' hbl _⟩
   ·have hk':k=x.length:=by omega
    subst hk';go_wp2;go_ret;exact⟨Jc (by simpa using jaq hag HL.out),hbl⟩
 ·have e0:((x.length:Int) !=y.length)=true:=by simp;omega
  have HN:=Ja (Z4 hl);clear hl;go_enter Tryz.func46,Tryz.ntmps46;go_wp2;go_ret;exact⟨Jc (by simpa using HN.out),Below.refl _ _⟩
theorem jng {A A':Option Addr} {n n' c c':Nat} {x y:List ByteArray} {fx fy:List Nat} (w:World) (hx:SlR Rp.str w A n c x fx) (hy:SlR Rp.str w A' n' c' y fy):
  Calls Tryz.prog 48 #[.slice A n c,.slice A' n' c'] w fun e w'=>e= .returned (.bool (decide (x=y)))∧Below w.heap.size w w':=by
 obtain⟨rfl,hcx,hmx,_⟩:=id hx;obtain⟨rfl,hcy,hmy,_⟩:=id hy;unfold maxLen at hmx hmy;by_cases hl:x.length=y.length
 ·have e0:((x.length:Int) !=y.length)=false:=by simp[hl]
  have HL:=Ja hl;clear hl;go_enter Tryz.func48,Tryz.ntmps48;go_wp2
  go_loopw [5] (fun i wr=>∃k:Nat,k≤x.length∧i= .int .i64 k∧je6 x y k∧Below w.heap.size w wr) (fun i _=>x.length - (intOf i).toNat)
  case atStart=>exact⟨0,Nat.zero_le _,rfl,rfl,Below.refl _ _⟩
  case round=>
   obtain⟨k,hk,rfl,hag,hbl⟩:=hrel;by_cases hlt:k<x.length
   ·obtain⟨b,o,rfl,hb,_,h0⟩:=ja0 (hx.below hbl nle) hlt;obtain⟨b',o',rfl,hb',_,g0⟩:=ja0 (hy.below hbl nle) (i:=k) (by have:=HL.out;omega);have hlt':k<y.length:=by have:=HL.out;omega
    have i0:(0:Int)≤(k:Int):=by omega
    have i1:(k:Int)<(x.length:Int):=by omega
    have i2:(k:Int)<(y.length:Int):=by omega
    by_cases hxy:x[k]=y[k]
    ·have HN:=Ja (Zw hag hlt hlt' hxy);rw[←hxy] at g0;clear hxy;generalize x[k]=xk at h0 g0;go_wp2_with fail;go_quiet(fail);go_wp2;refine⟨⟨k+1,by omega,by go_num,HN.out,Below.drewN' hbl _⟩,by simp[intOf];omega⟩
    ·have HN:=Ja (Ww hlt hlt' hxy);have hd:(x[k].toList==y[k].toList)=false:=by rw[Jr];exact decide_eq_false hxy
     generalize x[k]=xk at h0 hd;generalize y[k]=yk at g0 hd;clear hxy;go_wp2_with fail;go_quiet(fail);go_wp2;go_ret;exact⟨Jc (by simpa using HN.out),Below.drewN' hbl _⟩
   ·have hk':k=x.length:=by omega
    subst hk';go_wp2;go_ret;exact⟨Jc (by simpa using jaq hag HL.out),hbl⟩
 ·have e0:((x.length:Int) !=y.length)=true:=by simp;omega
  have HN:=Ja (Z4 hl);clear hl;go_enter Tryz.func48,Tryz.ntmps48;go_wp2;go_ret;exact⟨Jc (by simpa using HN.out),Below.refl _ _⟩
theorem toList_iff2 {a b:ByteArray} :a.toList=b.toList↔a=b:=by
 refine⟨fun h=> ?_,fun h=>by rw[h]⟩;have:=Jr a b;rw[h] at this;simpa using this
theorem jk6 (x y:File) (w:World):(Op.equalIn 10000 65 (.agg (Jj x).toArray) (.agg (Jj y).toArray)).run Tryz.prog w= .ok (decide (x=y)) w:=by
 obtain⟨a,b⟩:=x;obtain⟨a',b'⟩:=y;have u9:=Tryz.underlying9;have a9:=Tryz.isAgg9;have z9:=Tryz.sizeOf9;have hS:Tryz.prog.underlying 65=some (.struct (Tryz.prog.fieldsOf 65)):=by kernel_rfl
 have hp:Tryz.prog.stoodInHeld 65=false:=by kernel_rfl
 simp only[Jj];rw[show(10000:Nat)=9999+1 from rfl,run_equalIn_agg w 9999 65 _ _ hS hp];simp only[Program.fieldsOf,Tryz.underlying65]
 go_simp
 by_cases h1:a=a'<;>by_cases h2:b=b'<;>simp[h1,h2,toList_iff2]
theorem neqFile (x y:File) (w:World):(binOp .neq 65 (.agg (Jj x).toArray) (.agg (Jj y).toArray)).run Tryz.prog w= .ok (.bool (!decide (x=y))) w:=by
 rw[run_neq_struct,jk6];rfl
theorem gdFile (op:BinOp) (a b:Operand) (xs ys:Array Value) (w:World):(eqGuard op 65 a b (.agg xs) (.agg ys)).run Tryz.prog w= .ok () w:=run_eqGuard_agg w op _ a b xs ys (by kernel_rfl)
theorem jgb {A B:Option Addr} {n c m d:Nat} {x y:List File} {fx fy:List Nat} (w:World) (hx:SlR Rp.file w A n c x fx) (hy:SlR Rp.file w B m d y fy):
  Calls Tryz.prog 21 #[.slice A n c,.slice B m d] w fun e w'=>e= .returned (.bool (decide (x=y)))∧Below w.heap.size w w':=by
 obtain⟨rfl,hcx,hmx,_⟩:=id hx;obtain⟨rfl,hcy,hmy,_⟩:=id hy;unfold maxLen at hmx hmy;go_enter Tryz.func21,Tryz.ntmps21;by_cases hl:x.length=y.length
 ·have hl':((x.length:Int) !=(y.length:Int))=false:=by simp[hl]
  go_wp2
  go_loopw [5] (fun i wr=>∃k:Nat,k≤x.length∧i= .int .i64 k∧je6 x y k∧Below w.heap.size w wr) (fun i _=>x.length - (intOf i).toNat)
  case atStart=>exact⟨0,Nat.zero_le _,rfl,rfl,Below.refl _ _⟩
  case round=>
   obtain⟨k,hk,rfl,hag,hbl⟩:=hrel;have HA:=Ja hag;clear hag;by_cases hlt:k<x.length
   ·have hlt2:k<y.length:=by omega
    obtain⟨b,o,rfl,hb,hm,h0,h1⟩:=Jx (hx.step hbl) hlt;obtain⟨b',o',rfl,hb',hm',k0,k1⟩:=Jx (hy.step hbl) hlt2;have i0:(0:Int)≤(k:Int):=by omega
    have i1:(k:Int)<(x.length:Int):=by omega
    have i2:(k:Int)<(y.length:Int):=by omega
    have heq:=neqFile x[k] y[k];have hgd:=gdFile;unfold Jj at heq;clear hl;go_wp2_with fail;go_quiet(fail);clear heq hgd h0 h1 k0 k1 i0 i1 i2;cases hd:decide (x[k]=y[k])
    ·have HN:=Ja (Ww hlt hlt2 (of_decide_eq_false hd));clear hd;go_wp2;go_ret;exact⟨Jc (decide_eq_false HN.out).symm,Below.drewN' hbl _⟩
    ·have HN:=Ja (Zw HA.out hlt hlt2 (of_decide_eq_true hd));clear hd;go_wp2;exact⟨⟨k+1,by omega,by go_num,HN.out,Below.drewN' hbl _⟩,by simp[intOf];omega⟩
   ·have hk':k=x.length:=by omega
    subst hk';go_wp2;go_ret;exact⟨Jc (decide_eq_true (jaq HA.out hl)).symm,hbl⟩
 ·have hl':((x.length:Int) !=(y.length:Int))=true:=by simp;omega
  go_wp2;go_ret;exact⟨Jc (decide_eq_false (Z4 hl)).symm,Below.refl _ _⟩
theorem ref_ext {a b:Ref} (h1:a.name=b.name) (h2:a.guard=b.guard) (h3:a.count=b.count) (h4:a.Vz=b.Vz):a=b:=by
 cases a;cases b;simp_all
theorem jnm {A B:Option Addr} {n c m d:Nat} {x y:List Ref} {fx fy:List Nat} (w:World) (hx:SlR Rp.ref w A n c x fx) (hy:SlR Rp.ref w B m d y fy):
  Calls Tryz.prog 47 #[.slice A n c,.slice B m d] w fun e w'=>e= .returned (.bool (decide (x=y)))∧Below w.heap.size w w':=by
 obtain⟨rfl,hcx,hmx,_⟩:=id hx;obtain⟨rfl,hcy,hmy,_⟩:=id hy;unfold maxLen at hmx hmy;go_enter Tryz.func47,Tryz.ntmps47;by_cases hl:x.length=y.length
 ·have hl':((x.length:Int) !=(y.length:Int))=false:=by simp[hl]
  go_wp2
  go_loopw [5] (fun i wr=>∃k:Nat,k≤x.length∧i= .int .i64 k∧je6 x y k∧Below w.heap.size w wr) (fun i _=>x.length - (intOf i).toNat)
  case atStart=>exact⟨0,Nat.zero_le _,rfl,rfl,Below.refl _ _⟩
  case round=>
   obtain⟨k,hk,rfl,hag,hbl⟩:=hrel;have HA:=Ja hag;clear hag;by_cases hlt:k<x.length
   ·have hlt2:k<y.length:=by omega
    obtain⟨b,o,A1,n1,c1,f1,rfl,hb,hm,h0,h1,h2,h3,hs,_⟩:=J3 (hx.step hbl) hlt;obtain⟨b',o',A2,n2,c2,f2,rfl,hb',hm',k0,k1,k2,k3,hs',_⟩:=J3 (hy.step hbl) hlt2;obtain⟨rfl,hcs,hms,_⟩:=id hs;obtain⟨rfl,hct,hmt,_⟩:=id hs';unfold maxLen at hms hmt;have i0:(0:Int)≤(k:Int):=by omega
    have i1:(k:Int)<(x.length:Int):=by omega
    have i2:(k:Int)<(y.length:Int):=by omega
    clear hl;cases e0:(x[k].name.toList==y[k].name.toList)
    ·have HN:=Ja (Ww hlt hlt2 (fun h=>by rw[h] at e0;simp at e0));go_wp2_with fail;have n0:=BelowW.nonempty wr;have ex0:=BelowW.ex (w:=wr);have g0:=bwc h0;have g1:=bwc h1;have g2:=bwc h2;have g3:=bwc h3;have g4:=bwc k0;have g5:=bwc k1;have g6:=bwc k2;have g7:=bwc k3;clear h0 h1 h2 h3 k0 k1 k2 k3;refine Jf (by kernel_rfl) (by kernel_rfl) ?_
     repeat(go_big_quiet_step(fail))
     refine wpQuiet_nil ?_;rintro w4 ⟨m4,hw4⟩;have hb4:=m4.property;rw[←hw4] at hb4;clear hw4 m4;go_wp2;go_ret;exact⟨Jc (decide_eq_false HN.out).symm,Below.t hbl hb4⟩
    cases e1:(x[k].guard==y[k].guard)
    ·have HN:=Ja (Ww hlt hlt2 (fun h=>by rw[h] at e1;simp at e1));go_wp2_with fail;have n0:=BelowW.nonempty wr;have ex0:=BelowW.ex (w:=wr);have g0:=bwc h0;have g1:=bwc h1;have g2:=bwc h2;have g3:=bwc h3;have g4:=bwc k0;have g5:=bwc k1;have g6:=bwc k2;have g7:=bwc k3;clear h0 h1 h2 h3 k0 k1 k2 k3;refine Jf (by kernel_rfl) (by kernel_rfl) ?_
     repeat(go_big_quiet_step(fail))
     refine wpQuiet_nil ?_;rintro w4 ⟨m4,hw4⟩;have hb4:=m4.property;rw[←hw4] at hb4;clear hw4 m4;go_wp2;go_ret;exact⟨Jc (decide_eq_false HN.out).symm,Below.t hbl hb4⟩
    cases e2:(x[k].count !=y[k].count);rotate_left
    ·have HN:=Ja (Ww hlt hlt2 (fun h=>by rw[h] at e2;simp at e2));go_wp2_with fail;have n0:=BelowW.nonempty wr;have ex0:=BelowW.ex (w:=wr);have g0:=bwc h0;have g1:=bwc h1;have g2:=bwc h2;have g3:=bwc h3;have g4:=bwc k0;have g5:=bwc k1;have g6:=bwc k2;have g7:=bwc k3;clear h0 h1 h2 h3 k0 k1 k2 k3;refine Jf (by kernel_rfl) (by kernel_rfl) ?_
     repeat(go_big_quiet_step(fail))
     refine wpQuiet_nil ?_;rintro w4 ⟨m4,hw4⟩;have hb4:=m4.property;rw[←hw4] at hb4;clear hw4 m4;go_wp2;go_ret;exact⟨Jc (decide_eq_false HN.out).symm,Below.t hbl hb4⟩
    cases e3:((x[k].Vz.length:Int) !=(y[k].Vz.length:Int));rotate_left
    ·have HN:=Ja (Ww hlt hlt2 (fun h=>by rw[h] at e3;simp at e3));go_wp2_with fail;have n0:=BelowW.nonempty wr;have ex0:=BelowW.ex (w:=wr);have g0:=bwc h0;have g1:=bwc h1;have g2:=bwc h2;have g3:=bwc h3;have g4:=bwc k0;have g5:=bwc k1;have g6:=bwc k2;have g7:=bwc k3;clear h0 h1 h2 h3 k0 k1 k2 k3;refine Jf (by kernel_rfl) (by kernel_rfl) ?_
     repeat(go_big_quiet_step(fail))
     refine wpQuiet_nil ?_;rintro w4 ⟨m4,hw4⟩;have hb4:=m4.property;rw[←hw4] at hb4;clear hw4 m4;go_wp2;go_ret;exact⟨Jc (decide_eq_false HN.out).symm,Below.t hbl hb4⟩
    go_wp2_with fail;have n0:=BelowW.nonempty wr;have ex0:=BelowW.ex (w:=wr);have g0:=bwc h0;have g1:=bwc h1;have g2:=bwc h2;have g3:=bwc h3;have g4:=bwc k0;have g5:=bwc k1;have g6:=bwc k2;have g7:=bwc k3;clear h0 h1 h2 k0 k1 k2;refine Jf (by kernel_rfl) (by kernel_rfl) ?_
    repeat(go_big_quiet_step(fail))
    refine wpQuiet_nil ?_;rintro w4 ⟨m4,hw4⟩;have hb4:=m4.property;rw[←hw4] at hb4;clear hw4 m4;have hbl':=Below.t hbl hb4;have hc4:=Je h3 hb4;have hd4:=Je k3 hb4;have hs4:=hs.step hb4;have ht4:=hs'.step hb4;have hlv:x[k].Vz.length=y[k].Vz.length:=by have h:=(bne_eq_false_iff_eq).mp e3;omega
    have HE:=Ja (show x[k].name=y[k].name∧x[k].guard=y[k].guard∧x[k].count=y[k].count from⟨toList_iff2.mp (by simpa using e0),by simpa using e1,by simpa using e2⟩);clear h3 k3 hs hs' e0 e1 e2 e3 g0 g1 g2 g3 g4 g5 g6 g7 ex0 n0;go_wp2
    go_loopw [6] (fun i wr2=>∃j:Nat,j≤x[k].Vz.length∧i= .int .i64 j∧je6 x[k].Vz y[k].Vz j∧Below w4.heap.size w4 wr2) (fun i _=>x[k].Vz.length - (intOf i).toNat)
    case atStart=>exact⟨0,Nat.zero_le _,rfl,rfl,Below.refl _ _⟩
    case round=>
     obtain⟨j,hj,rfl,hagj,hblj⟩:=hrel;have HJ:=Ja hagj;clear hagj;have hc5:=Je hc4 hblj;have hd5:=Je hd4 hblj;by_cases hltj:j<x[k].Vz.length
     ·have hltj2:j<y[k].Vz.length:=by omega
      obtain⟨b2,o2,A3,n3,c3,f3,rfl,hb2,_,p0,hp,_⟩:=Vv (hs4.step hblj) hltj;obtain⟨b3,o3,A4,n4,c4,f4,rfl,hb3,_,p1,hq,_⟩:=Vv (ht4.step hblj) hltj2;have j0:(0:Int)≤(j:Int):=by omega
      have j1:(j:Int)<(x[k].Vz.length:Int):=by omega
      have j2:(j:Int)<(y[k].Vz.length:Int):=by omega
      have C1:=fun(m:BelowW wr)=>jgb _ (BelowW.sl m hp) (BelowW.sl m hq);cases hd:decide (x[k].Vz[j]=y[k].Vz[j])
      ·simp only[hd] at C1;have D1:=Ja C1;have HN:=Ja (Ww hlt hlt2 (fun h=>(of_decide_eq_false hd) (by simp[h])));clear C1 hd;go_wp2_with fail;have n0:=BelowW.nonempty wr;have ex0:=BelowW.ex (w:=wr);have g0:=bwc hc5;have g1:=bwc hd5;have g2:=bwc p0;have g3:=bwc p1;clear hc5 hd5 p0 p1;refine Jf (by kernel_rfl) (by kernel_rfl) ?_
       repeat(go_big_quiet_step(first|(go_at_call 21;exact BelowW.calls _ (D1.out _))))
       refine wpQuiet_nil ?_;rintro w6 ⟨m6,hw6⟩;have hb6:=m6.property;rw[←hw6] at hb6;clear hw6 m6;go_wp2;go_ret;exact⟨Jc (decide_eq_false HN.out).symm,Below.t (Below.t hbl' hblj) hb6⟩
      ·simp only[hd] at C1;have D1:=Ja C1;have HN:=Ja (Zw HJ.out hltj hltj2 (of_decide_eq_true hd));clear C1 hd;go_wp2_with fail;have n0:=BelowW.nonempty wr;have ex0:=BelowW.ex (w:=wr);have g0:=bwc hc5;have g1:=bwc hd5;have g2:=bwc p0;have g3:=bwc p1;clear hc5 hd5 p0 p1;refine Jf (by kernel_rfl) (by kernel_rfl) ?_
       repeat(go_big_quiet_step(first|(go_at_call 21;exact BelowW.calls _ (D1.out _))))
       refine wpQuiet_nil ?_;rintro w6 ⟨m6,hw6⟩;have hb6:=m6.property;rw[←hw6] at hb6;clear hw6 m6;go_wp2;exact⟨⟨j+1,by omega,by go_num,HN.out,Below.t hblj hb6⟩,by simp[intOf];omega⟩
     ·have hj':j=x[k].Vz.length:=by omega
      subst hj';have HN:=Ja (Zw HA.out hlt hlt2 (ref_ext HE.out.1 HE.out.2.1 HE.out.2.2 (jaq HJ.out hlv)));go_wp2;exact⟨⟨k+1,by omega,by go_num,HN.out,Below.t hbl' hblj⟩,by simp[intOf];omega⟩
   ·have hk':k=x.length:=by omega
    subst hk';go_wp2;go_ret;exact⟨Jc (decide_eq_true (jaq HA.out hl)).symm,hbl⟩
 ·have hl':((x.length:Int) !=(y.length:Int))=true:=by simp;omega
  go_wp2;go_ret;exact⟨Jc (decide_eq_false (Z4 hl)).symm,Below.refl _ _⟩
theorem Blk.two (w:World) (t u:TypeId) (cs ds:Array Value):Blk ((w.alloc (.cells cs t)).alloc (.cells ds u)) w.heap.size t cs∧Blk ((w.alloc (.cells cs t)).alloc (.cells ds u)) (w.heap.size+1) u ds∧Below w.heap.size w ((w.alloc (.cells cs t)).alloc (.cells ds u)):=by
 have h1:=(Below.refl w.heap.size w).alloc nle (.cells cs t);have h2:=(Below.refl _ (w.alloc (.cells cs t))).alloc nle (.cells ds u);refine⟨(Blk.new w t cs).step h2, ?_,Below.t h1 h2⟩;have:=Blk.new (w.alloc (.cells cs t)) u ds;rwa [show(w.alloc (.cells cs t)).heap.size=w.heap.size+1 by simp] at this
theorem je2 {cs ds:List Value} {x y:Ans} {fx fy:List Nat} (w:World) (hx:Rp.ans.R w cs x fx) (hy:Rp.ans.R w ds y fy):
  Calls Tryz.prog 11 #[.agg cs.toArray,.agg ds.toArray] w fun e w'=>e= .returned (.bool (decide (x=y)))∧Below w.heap.size w w':=by
 obtain⟨A0,n0,c0,f0,A1,n1,c1,f1,rfl, -,h0,h1⟩:=hx;obtain⟨B0,m0,d0,g0,B1,m1,d1,g1,rfl, -,j0,j1⟩:=hy;obtain⟨k2,k3,hb⟩:=Blk.two w 37 37 #[.int .i64 x.code,.slice A0 n0 c0,.slice A1 n1 c1,.int .i64 x.n] #[.int .i64 y.code,.slice B0 m0 d0,.slice B1 m1 d1,.int .i64 y.n];go_enter Tryz.func11,Tryz.ntmps11;go_upto_region 1 with fail
 generalize(w.alloc (.cells #[.int .i64 x.code,.slice A0 n0 c0,.slice A1 n1 c1,.int .i64 x.n] 37)).alloc (.cells #[.int .i64 y.code,.slice B0 m0 d0,.slice B1 m1 d1,.int .i64 y.n] 37)=w1 at k2 k3 hb ⊢;replace h0:=h0.step hb;replace h1:=h1.step hb;replace j0:=j0.step hb;replace j1:=j1.step hb;have x0:=k2.cell 0;have x3:=k2.cell 3;have y0:=k3.cell 0;have y3:=k3.cell 3
 simp only[List.getElem?_toArray,List.getElem?_cons_zero,List.getElem?_cons_succ] at x0 x3 y0 y3;cases e0:(x.code==y.code)
 ·have HN:=Ja (show x≠y from fun h=>by rw[h] at e0;simp at e0);go_wp2;go_ret;exact⟨Jc (decide_eq_false HN.out).symm,hb⟩
 cases e1:(x.n==y.n)
 ·have HN:=Ja (show x≠y from fun h=>by rw[h] at e1;simp at e1);go_wp2;go_ret;exact⟨Jc (decide_eq_false HN.out).symm,hb⟩
 have x1:=k2.cell 1;have y1:=k3.cell 1;simp only[List.getElem?_toArray,List.getElem?_cons_zero,List.getElem?_cons_succ] at x1 y1;go_wp2_with fail;refine(jgb _ h0 j0).mono ?_;rintro e w2 ⟨rfl,hb2⟩;have x2:=Blk.c2 (k2.step hb2);have y2:=Blk.c2 (k3.step hb2);cases e2:decide (x.files=y.files)
 ·have HN:=Ja (show x≠y from fun h=>by rw[h] at e2;simp at e2);go_wp2;go_ret;exact⟨Jc (decide_eq_false HN.out).symm,Below.t hb hb2⟩
 go_wp2_with fail;refine(jng _ (h1.step hb2) (j1.step hb2)).mono ?_;rintro e w3 ⟨rfl,hb3⟩;have HE:=Ja (show decide (x.names=y.names)=decide (x=y) from by
  obtain⟨a,b,c,d⟩:=x;obtain⟨a',b',c',d'⟩:=y;simp at e0 e1 e2;simp[e0,e1,e2])
 go_wp2;go_ret;exact⟨Jc HE.out,Below.t (Below.t hb hb2) hb3⟩
theorem chOk_any (w:World):Calls Tryz.prog 14 #[] w fun e w'=>e= .returned (.bool true)∧Below w.heap.size w w':=by
 go_enter Tryz.func14,Tryz.ntmps14;go_wp2_with fail;refine(Zj ⟨#[97,98,99]⟩ (by decide) _).mono ?_;rintro e w1 ⟨rfl,hb1⟩;go_wp2;go_ret;exact⟨Jc (by decide),hb1⟩
theorem jld {A B:Option Addr} {n c m d:Nat} {x y:List Yt} {fx fy:List Nat} (w:World) (hx:SlR Rp.rule w A n c x fx) (hy:SlR Rp.rule w B m d y fy):
  Calls Tryz.prog 15 #[.slice A n c,.slice B m d] w fun e w'=>e= .returned (.bool (decide (x=y)))∧Below w.heap.size w w':=by
 obtain⟨rfl,hcx,hmx,_⟩:=id hx;obtain⟨rfl,hcy,hmy,_⟩:=id hy;unfold maxLen at hmx hmy;go_enter Tryz.func15,Tryz.ntmps15;by_cases hl:x.length=y.length
 ·have hl':((x.length:Int) !=(y.length:Int))=false:=by simp[hl]
  go_wp2
  go_loopw [5] (fun i wr=>∃k:Nat,k≤x.length∧i= .int .i64 k∧je6 x y k∧Below w.heap.size w wr) (fun i _=>x.length - (intOf i).toNat)
  case atStart=>exact⟨0,Nat.zero_le _,rfl,rfl,Below.refl _ _⟩
  case round=>
   obtain⟨k,hk,rfl,hag,hbl⟩:=hrel;have HA:=Ja hag;clear hag;by_cases hlt:k<x.length
   ·have hlt2:k<y.length:=by omega
    obtain⟨b,o,rfl,hb,hm,h0,h1,h2,h3⟩:=Yv (hx.step hbl) hlt;obtain⟨b',o',rfl,hb',hm',k0,k1,k2,k3⟩:=Yv (hy.step hbl) hlt2;have i0:(0:Int)≤(k:Int):=by omega
    have i1:(k:Int)<(x.length:Int):=by omega
    have i2:(k:Int)<(y.length:Int):=by omega
    have heq:=jom x[k] y[k];have hgd:=jjj;unfold Jh at heq;clear hl;go_wp2_with fail;go_quiet(fail);clear heq hgd h0 h1 h2 h3 k0 k1 k2 k3 i0 i1 i2;cases hd:decide (x[k]=y[k])
    ·have HN:=Ja (Ww hlt hlt2 (of_decide_eq_false hd));clear hd;go_wp2;go_ret;exact⟨Jc (decide_eq_false HN.out).symm,Below.drewN' hbl _⟩
    ·have HN:=Ja (Zw HA.out hlt hlt2 (of_decide_eq_true hd));clear hd;go_wp2;exact⟨⟨k+1,by omega,by go_num,HN.out,Below.drewN' hbl _⟩,by simp[intOf];omega⟩
   ·have hk':k=x.length:=by omega
    subst hk';go_wp2;go_ret;exact⟨Jc (decide_eq_true (jaq HA.out hl)).symm,hbl⟩
 ·have hl':((x.length:Int) !=(y.length:Int))=true:=by simp;omega
  go_wp2;go_ret;exact⟨Jc (decide_eq_false (Z4 hl)).symm,Below.refl _ _⟩
end Go.Proofs.YtobbdhgkcoeifaaGreatDoor
