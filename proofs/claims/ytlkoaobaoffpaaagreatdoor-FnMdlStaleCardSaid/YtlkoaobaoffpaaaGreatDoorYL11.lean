/- FnMdlStale: for every input the law answers true and leaves its arguments as they were. Conditions: the listed library tables read as the tie says. -/
import Derived.ProofKit
import Derived.Deep.Slices
import Derived.Deep.Fields
import Derived.WalkKit
import Derived.OpenShut
import Derived.ChangeMaps5
import Derived.Deep.DeepHandedRow
import Derived.Lib.LaidTab
import Derived.SevenTiedAt
import Derived.Test.YtlkoaobaoffpaaaGreatDoorZ34
import Derived.Test.YtlkoaobaoffpaaaGreatDoorZ29
import Derived.Test.YtlkoaobaoffpaaaGreatDoorZ23
import Derived.Test.YtlkoaobaoffpaaaGreatDoorZ8
import Derived.Test.YtlkoaobaoffpaaaGreatDoorZ7
import Derived.Test.YtlkoaobaoffpaaaGreatDoorZ35
import Derived.Test.YtlkoaobaoffpaaaGreatDoorZ1
import Derived.Test.YtlkoaobaoffpaaaGreatDoorCards
import Derived.Test.YtlkoaobaoffpaaaGreatDoorTie
namespace Go.Proofs.YtlkoaobaoffpaaaGreatDoor
open Go.RowKit
attribute [local go_sem ↓] Go.wp_at_zero Go.wp_at_succ
open Go.ChangeShapes Go.WideShapes Go.ChangeAt Go.RowKit Go.Deep
set_option maxHeartbeats 8000000
set_option maxRecDepth 100000
set_option linter.unusedSimpArgs false
set_option linter.unusedVariables false
section
variable {w w':World} {g:Nat} {m:Jl} {q:Req} {a:Ans} {K U R E F N:Value}
end
theorem HB.Rz {w:World} {g:Nat} {m:Jl} {K U:Value} {A:Option Addr} {n c:Nat} (h:HB w g m K U (.slice A n c)): ∃f,SlR Rp.repo w A n c m.Rz f:=by
 obtain⟨f,A0,n0,c0,f0,A1,n1,c1,f1,A2,n2,c2,f2,e, -, -, -,h2⟩:=h.r;cases e;exact⟨f2,h2⟩
theorem req_with {w:World} {q q':Req} {E:Value} {f:List Nat} (h:Rp.req.R w (V5 q E).toList q f) (he:q'.Ez=q.Ez):Rp.req.R w (V5 q' E).toList q' f:=by
 obtain⟨A0,n0,c0,f0,e,hf,h1⟩:=h;have:E= .slice A0 n0 c0:=by
  have:=congrArg (fun l=>l[8]?) e;simpa [V5] using this
 subst this;exact⟨A0,n0,c0,f0,rfl,hf,he▸h1⟩
theorem fit_with {q q':Req} (h:jdu q) (h1:q'.ref=q.ref) (h2:q'.other=q.other) (h3:q'.path=q.path) (h4:q'.rule=q.rule) (h5:q'.Ez=q.Ez):jdu q':=
 ⟨by rw[h1];exact h.ref,by rw[h2];exact h.other,by rw[h3];exact h.path,by rw[h4];exact h.rule,by rw[h5];exact h.Ez⟩
section
variable {P:Program} {s:Code} {Q:Exit→Act→World→Prop} {b:Act} {w:World} {m:Jl} {q:Req} {a:Ans} {K U R E F N:Value}
theorem wp_New {t:TypeId} {cs:Array Value} (h: ∀W,Blk W w.heap.size t cs→Below w.heap.size w W→s.wp P Q b W):s.wp P Q b (w.alloc (.cells cs t)):=
 h _ (Blk.new w t cs) ((Below.refl _ _).alloc nle _)
end
section
variable {w0 W W':World} {m:Jl} {q q':Req} {K U R E E':Value}
end
section
variable {w w':World} {g lo:Nat} {m:Jl} {K U R:Value}
end
theorem doIt_writes {m:Jl} {r:Req} {p:Xq} (hk:knows m.keys r.user r.key=true) (hp:m.Rz[r.repo.toNat]? =some p) (hw:Vs r=true):Zn m r=((write m p r).1,code (write m p r).2):=by
 have h:r.kind=1∨r.kind=9∨r.kind=10:=by simpa [Vs,or_assoc] using hw
 unfold Zn;rw[if_pos hk,if_neg (by omega),hp];simp only[hw];rw[if_neg (by omega),if_neg (by omega)];rfl
theorem newest_code (m:Jl) (x:Ref) (r:Req):(newest m x r).2=1∨(newest m x r).2=7∨(newest m x r).2=8:=by
 unfold newest
 repeat' split
 all_goals simp
theorem repo_of {m:Jl} (hm:Ys m=true) {i:Nat} {p:Xq} (hp:m.Rz[i]? =some p):repoOk m.keys.length p=true:=(Jo.1 hm).2.2 p (List.mem_of_getElem? hp)
theorem manage_code (p:Xq) (r:Req):1≤(manage p r).2∧(manage p r).2≤10:=by
 unfold manage
 repeat' split
 all_goals simp
theorem write_code (m:Jl) (p:Xq) (r:Req):1≤(write m p r).2∧(write m p r).2≤10:=by
 have:=fun k=>newest_code m (p.Fz.getD k Y8) r;unfold write
 repeat' split
 all_goals first|(simp;done)|(rename_i k _ _ _ _;have:=this k;simp only;omega)
theorem look_code (p:Xq) (r:Req):1≤(look p r).code∧(look p r).code≤10:=by
 unfold look
 repeat' split
 all_goals simp[code]
theorem doIt_code (m:Jl) (r:Req):1≤(Zn m r).2.code∧(Zn m r).2.code≤10:=by
 unfold Zn;split
 ·split
  ·simp[code,jad]
  ·split
   ·simp[code,jad]
   ·split
    ·exact look_code _ _
    ·split
     ·simp[code,jad]
     ·split
      ·exact write_code _ _ _
      ·split
       ·simp[code,jad]
       ·exact manage_code _ _
 ·simp[code,jad]
theorem stranger {m:Jl} {r:Req} (h:knows m.keys r.user r.key=false):Zn m r=(m,code 2):=by
 unfold Zn;rw[if_neg (by simp[h])]
theorem refIdx_at {l:List Ref} (h:asc Ref.name l) {k:Nat} (hk:k<l.length) {n:ByteArray} (hn:l[k].name=n):Y7 l n=some k:=by
 cases e:Y7 l n with
 |none=>exact absurd hn (jl8 (key:=Ref.name) e _ (List.getElem_mem hk))
 |some j=>
  obtain⟨hj,hjn⟩:=je8 (key:=Ref.name) e;have hp:=List.pairwise_iff_getElem.1 h;rcases Nat.lt_trichotomy j k with c|c|c
  ·exact absurd (hjn.trans hn.symm) (bLt_ne (hp j k hj hk c))
  ·rw[c]
  ·exact absurd (hn.trans hjn.symm) (bLt_ne (hp k j hk hj c))
theorem late {m:Jl} {r:Req} {p:Xq} (hm:Ys m=true) (hw:Vs r=true) (hp:m.Rz[r.repo.toNat]? =some p) {k:Nat} (hk:k<p.Fz.length) (hn:p.Fz[k].name=r.ref) (hc:p.Fz[k].count≠r.old):
  (Zn m r).1=m∧((Zn m r).2.code=6∨(Zn m r).2.code=4∨(Zn m r).2.code=2):=by
 cases hkn:knows m.keys r.user r.key
 ·rw[stranger hkn];exact⟨rfl,.inr (.inr rfl)⟩
 ·rw[doIt_writes hkn hp hw];have hx:=refIdx_at (Yj.1 (repo_of hm hp)).2.2.1 hk hn;unfold write;rw[hx];simp only[J4 hk];split
  ·(try rw[if_pos hc]);exact⟨rfl,.inl rfl⟩
  ·exact⟨rfl,.inr (.inl rfl)⟩
theorem lawStale (w:World) {A:Option Addr} {n c:Nat} {code:List UInt8} {fp:List Nat} (hx:SlR Rp.byte w A n c code fp):
  Calls Tryz.prog 8 #[.slice A n c] w fun e w'=>e= .returned (.bool true)∧Below w.heap.size w w':=by
 obtain⟨rfl,hcx,hmx, -⟩:=id hx;unfold maxLen at hmx;go_enter Tryz.func8,Tryz.ntmps8;by_cases hlen:(1048576:Int)<(code.length:Int)
 ·go_wp2;go_ret;exact⟨rfl,Below.refl _ _⟩
 go_wp2_with fail;refine(jp5 _ hx).mono ?_;rintro e w1 ⟨m,p,A0,n0,c0,A1,n1,c1,A2,n2,c2,A3,c3,f,fq,rfl,hR,hQ,hok,hsm, -, -,HB⟩;clear hx;obtain rfl:n2=m.Rz.length:=by
  obtain⟨_,_,_,_,_,_,_,_,_,_,_,_,he, -, -, -,h2⟩:=hR;cases he;exact h2.1
 go_upto_region 5 with fail
 refine wp_HQ (q:= { p with old:=(wrap64 (wrap64 (p.old+1)+(code.length:Int) % 3)).tmod 16}) ⟨_,hR⟩ ⟨_,req_with hQ rfl⟩ ?_;intro w2 hm hq hb3;have hfq:jdu { p with old:=(wrap64 (wrap64 (p.old+1)+(code.length:Int) % 3)).tmod 16} :=fit_with (jo1 hsm) rfl rfl rfl rfl rfl;generalize({ p with old:=(wrap64 (wrap64 (p.old+1)+(code.length:Int) % 3)).tmod 16} :Req)=q at hq hfq
 replace HB:=Below.t HB hb3;have hf:=Ja (And.intro hok.1 hfq);clear hR hQ hb3 hok hsm hfq;obtain⟨x,a,ho⟩: ∃x a,jai m q=(x,a):=⟨_,_,rfl⟩;have HO:=Ja ho;clear ho;obtain⟨x0,x1,x2⟩:=hm.cells;go_wp2_with((refine wpList_load_row rfl 31 (.tmp 4) rfl _ rfl _ _ _ _ hq.k.out Tryz.underlying31 rfl jb3 ?_));go_wp2_with fail;refine(implDo hm hq hf.out.1 hf.out.2).mono ?_;rintro e w3 hd
 obtain⟨A4,na4,ca4,A5,na5,ca5,A6,ca6,B0,nb0,cb0,B1,nb1,cb1,rfl,hX,hA,hb3⟩:=hd.parts HO.out;replace hm:=hm.step hb3;replace hq:=hq.step hb3;replace HB:=Below.t HB hb3;clear hb3 hd x0 x1 x2;go_upto_region 6 with fail
 refine wp_HA hX hA ?_;intro w4 hx ha hb3;replace hm:=hm.step hb3;replace hq:=hq.step hb3;replace HB:=Below.t HB hb3;clear hb3 hX hA;obtain⟨x0,x1,x2⟩:=hm.cells;go_wp2_with((refine wpList_load_row rfl 31 (.tmp 4) rfl _ rfl _ _ _ _ hq.k.out Tryz.underlying31 rfl jb3 ?_));go_wp2_with fail;refine(specDo hm hq hf.out.1 hf.out.2).mono ?_;rintro e w5 hd
 obtain⟨A7,na7,ca7,A8,na8,ca8,A9,ca9,B2,nb2,cb2,B3,nb3,cb3,rfl,hX,hA,hb3⟩:=hd.parts HO.out;replace hm:=hm.step hb3;replace hq:=hq.step hb3;replace HB:=Below.t HB hb3;replace hx:=hx.step hb3;replace ha:=ha.step hb3;clear hb3 hd x0 x1 x2;go_upto_region 7 with fail
 refine wp_HA hX hA ?_;intro w6 hy hb hb3;replace hm:=hm.step hb3;replace hq:=hq.step hb3;replace HB:=Below.t HB hb3;replace hx:=hx.step hb3;replace ha:=ha.step hb3;clear hb3 hX hA;obtain⟨x0,x1,x2⟩:=hx.cells;obtain⟨y0,y1,y2⟩:=hy.cells;go_wp2_with fail;refine(jqp hx hy).mono ?_;rintro e w7 ⟨rfl,hb3⟩;replace hm:=hm.step hb3;replace hq:=hq.step hb3;replace HB:=Below.t HB hb3
 replace hx:=hx.step hb3;replace ha:=ha.step hb3;replace hy:=hy.step hb3;replace hb:=hb.step hb3;clear hb3 x0 x1 x2 y0 y1 y2;obtain⟨x0,x1,x2,x3⟩:=ha.cells;obtain⟨y0,y1,y2,y3⟩:=hb.cells;go_wp2_with fail;refine(jp8 ha hb).mono ?_;rintro e w8 ⟨rfl,hb3⟩;replace hm:=hm.step hb3;replace hq:=hq.step hb3;replace HB:=Below.t HB hb3;replace hx:=hx.step hb3;replace ha:=ha.step hb3
 clear hb3 x0 x1 x2 x3 y0 y1 y2 y3 hy hb;obtain⟨x0,x1,x2⟩:=hm.cells;go_wp2_with fail;refine(jhe _ hm.r.choose_spec hf.out.1).mono ?_;rintro e w9 ⟨rfl,hb3⟩;replace hm:=hm.step hb3;replace hq:=hq.step hb3;replace HB:=Below.t HB hb3;replace hx:=hx.step hb3;replace ha:=ha.step hb3;clear hb3 x0 x1 x2;cases hmo:Ys m
 ·skip;obtain⟨x0,x1,x2⟩:=hm.cells;have C1:=fun n:BelowW w9=>jhy n.val (hm.step n.property).r.choose_spec hf.out.1;have C2:=fun n:BelowW w9=>jhe n.val (hm.step n.property).r.choose_spec hf.out.1;have C3:=fun n:BelowW w9=>chOk_any n.val;go_upto_region 10 with fail
  cases hmo:Ys m
  all_goals
   simp only[hmo] at C1 C2;have D1:=Ja C1;have D2:=Ja C2;have D3:=Ja C3;clear C1 C2 C3 hmo;have n0:=BelowW.nonempty w9;have ex0:=BelowW.ex (w:=w9);have g0:=fun n:BelowW w9=>n.cell x0;have g1:=fun n:BelowW w9=>n.cell x1;have g2:=fun n:BelowW w9=>n.cell x2;clear x0 x1 x2;refine Jf (by kernel_rfl) (by kernel_rfl) ?_
   repeat(go_big_quiet_step(first|(go_at_call 23;exact BelowW.calls _ (D1.out _))|(go_at_call 16;exact BelowW.calls _ (D2.out _))|(go_at_call 22;exact BelowW.calls _ (D3.out _))))
   refine wpQuiet_nil ?_;rintro w9 ⟨m9,hw9⟩;have hb9:=m9.property;rw[←hw9] at hb9;clear hw9 m9;go_wp2;go_ret;exact⟨rfl,Below.t HB hb9⟩
 obtain⟨q0,q1,q2,q3,q4,q5,q6,q7,q8,q9,q10,q11,q12,q13,q14⟩:=hq.cells;go_wp2_with fail;clear q0 q1 q2 q3 q4 q5 q6 q7 q8 q9 q10 q11 q12 q13 q14;refine(jhd _ hq.r.choose_spec hf.out.2).mono ?_;rintro e w10 ⟨rfl,hb3⟩;replace hm:=hm.step hb3;replace hq:=hq.step hb3;replace HB:=Below.t HB hb3;replace hx:=hx.step hb3;replace ha:=ha.step hb3;clear hb3;cases hro:Yw q
 ·skip;obtain⟨x0,x1,x2⟩:=hm.cells;have C1:=fun n:BelowW w10=>jhy n.val (hm.step n.property).r.choose_spec hf.out.1;have C2:=fun n:BelowW w10=>jhe n.val (hm.step n.property).r.choose_spec hf.out.1;have C3:=fun n:BelowW w10=>chOk_any n.val;go_upto_region 10 with fail
  cases hmo:Ys m
  all_goals
   simp only[hmo] at C1 C2;have D1:=Ja C1;have D2:=Ja C2;have D3:=Ja C3;clear C1 C2 C3 hmo;have n0:=BelowW.nonempty w10;have ex0:=BelowW.ex (w:=w10);have g0:=fun n:BelowW w10=>n.cell x0;have g1:=fun n:BelowW w10=>n.cell x1;have g2:=fun n:BelowW w10=>n.cell x2;clear x0 x1 x2;refine Jf (by kernel_rfl) (by kernel_rfl) ?_
   repeat(go_big_quiet_step(first|(go_at_call 23;exact BelowW.calls _ (D1.out _))|(go_at_call 16;exact BelowW.calls _ (D2.out _))|(go_at_call 22;exact BelowW.calls _ (D3.out _))))
   refine wpQuiet_nil ?_;rintro w9 ⟨m9,hw9⟩;have hb9:=m9.property;rw[←hw9] at hb9;clear hw9 m9;go_wp2;go_ret;exact⟨rfl,Below.t HB hb9⟩
 obtain⟨q0,q1,q2,q3,q4,q5,q6,q7,q8,q9,q10,q11,q12,q13,q14⟩:=hq.cells;go_wp2_with fail;clear q0 q1 q2 q3 q4 q5 q6 q7 q8 q9 q10 q11 q12 q13 q14;refine(jec _ hq.r.choose_spec).mono ?_;rintro e w11 ⟨rfl,hb3⟩;replace hm:=hm.step hb3;replace hq:=hq.step hb3;replace HB:=Below.t HB hb3;replace hx:=hx.step hb3;replace ha:=ha.step hb3;clear hb3;cases hw:Vs q
 ·skip;obtain⟨x0,x1,x2⟩:=hm.cells;have C1:=fun n:BelowW w11=>jhy n.val (hm.step n.property).r.choose_spec hf.out.1;have C2:=fun n:BelowW w11=>jhe n.val (hm.step n.property).r.choose_spec hf.out.1;have C3:=fun n:BelowW w11=>chOk_any n.val;go_upto_region 10 with fail
  cases hmo:Ys m
  all_goals
   simp only[hmo] at C1 C2;have D1:=Ja C1;have D2:=Ja C2;have D3:=Ja C3;clear C1 C2 C3 hmo;have n0:=BelowW.nonempty w11;have ex0:=BelowW.ex (w:=w11);have g0:=fun n:BelowW w11=>n.cell x0;have g1:=fun n:BelowW w11=>n.cell x1;have g2:=fun n:BelowW w11=>n.cell x2;clear x0 x1 x2;refine Jf (by kernel_rfl) (by kernel_rfl) ?_
   repeat(go_big_quiet_step(first|(go_at_call 23;exact BelowW.calls _ (D1.out _))|(go_at_call 16;exact BelowW.calls _ (D2.out _))|(go_at_call 22;exact BelowW.calls _ (D3.out _))))
   refine wpQuiet_nil ?_;rintro w9 ⟨m9,hw9⟩;have hb9:=m9.property;rw[←hw9] at hb9;clear hw9 m9;go_wp2;go_ret;exact⟨rfl,Below.t HB hb9⟩
 obtain⟨fr,hr⟩:=hm.Rz;obtain⟨-,hrc,hrm, -⟩:=id hr;unfold maxLen at hrm;obtain⟨-, -,m2⟩:=hm.cells;obtain⟨-, -,q2, -⟩:=hq.cells;cases hlt:decide (q.repo<(m.Rz.length:Int))
 ·have hge:(m.Rz.length:Int)≤q.repo:=by simpa using hlt
  clear hrc hr;obtain⟨x0,x1,x2⟩:=hm.cells;have C1:=fun n:BelowW w11=>jhy n.val (hm.step n.property).r.choose_spec hf.out.1;have C2:=fun n:BelowW w11=>jhe n.val (hm.step n.property).r.choose_spec hf.out.1;have C3:=fun n:BelowW w11=>chOk_any n.val;go_upto_region 10 with fail
  cases hmo:Ys m
  all_goals
   simp only[hmo] at C1 C2;have D1:=Ja C1;have D2:=Ja C2;have D3:=Ja C3;clear C1 C2 C3 hmo;have n0:=BelowW.nonempty w11;have ex0:=BelowW.ex (w:=w11);have g0:=fun n:BelowW w11=>n.cell x0;have g1:=fun n:BelowW w11=>n.cell x1;have g2:=fun n:BelowW w11=>n.cell x2;clear x0 x1 x2;refine Jf (by kernel_rfl) (by kernel_rfl) ?_
   repeat(go_big_quiet_step(first|(go_at_call 23;exact BelowW.calls _ (D1.out _))|(go_at_call 16;exact BelowW.calls _ (D2.out _))|(go_at_call 22;exact BelowW.calls _ (D3.out _))))
   refine wpQuiet_nil ?_;rintro w9 ⟨m9,hw9⟩;have hb9:=m9.property;rw[←hw9] at hb9;clear hw9 m9;go_wp2;go_ret;exact⟨rfl,Below.t HB hb9⟩
 have HOK:=Ja (And.intro hmo hro);have HD:=Ja (show Zn m q=(x,a) by rw[←HO.out,jhr HOK.out]);obtain⟨i,hi⟩: ∃i:Nat,q.repo=(i:Int):=⟨q.repo.toNat,by have:=(jmn hro).2.1.1;omega⟩;have hil:i<m.Rz.length:=by have:=of_decide_eq_true hlt;omega
 have HI:=Ja hi;have HLT:=Ja (fun(k:Nat) (hk:k<m.Rz[i].Fz.length) (hn:m.Rz[i].Fz[k].name=q.ref) (hc:m.Rz[i].Fz[k].count≠q.old)=>(show x=m∧(a.code=6∨a.code=4∨a.code=2) from by
  have h:=late (m:=m) (r:=q) (p:=m.Rz[i]) HOK.out.1 hw (by rw[HI.out,Int.toNat_natCast,List.getElem?_eq_getElem hil]) hk hn hc;rw[HD.out] at h;exact h))
 have HC0:=Ja (show a.code≠0 by have h:=doIt_code m q;rw[HD.out] at h;have:=h.1;simp only at this;omega);rw[HI.out] at q2;have i0:(0:Int)≤(i:Int):=by omega
 have i1:(i:Int)<(m.Rz.length:Int):=by omega
 have hni: ¬m.Rz.length≤i:=by omega
 obtain⟨b,o,D1,l1,d1,f1,D2,l2,d2,f2,rfl, -, -, -,p1,p2,s1,s2, -⟩:=J7 hr hil;obtain⟨hnr,hrc2,hrm2, -⟩:=id s2;unfold maxLen at hrm2;obtain rfl:=hnr;clear hmo hro hw hlt hi p1 s1;go_wp2
 go_loopw [9] (fun iv wz=>∃k:Nat,k≤m.Rz[i].Fz.length∧iv= .int .i64 k∧Below w11.heap.size w11 wz) (fun iv _=>m.Rz[i].Fz.length - (intOf iv).toNat)
 case atStart=>exact⟨0,Nat.zero_le _,rfl,Below.refl _ _⟩
 case round=>
  obtain⟨k,hk,rfl,hbl⟩:=hrel;replace m2:=Je m2 hbl;replace q2:=Je q2 hbl;replace p2:=Je p2 hbl;have j0:(0:Int)≤(k:Int):=by omega
  by_cases hlt:k<m.Rz[i].Fz.length
  ·have j1:(k:Int)<(m.Rz[i].Fz.length:Int):=by omega
   obtain⟨bR,oR,B9,m9,d9,g9,rfl, -, -,t0,t1,t2,t3, -, -⟩:=J3 (s2.step hbl) hlt;go_upto_region 15 with fail
   refine wp_New ?_;intro w30 hbx hb9;replace hbl:=Below.t hbl hb9;have y0:=hbx.cell 0;have y2:=hbx.cell 2;simp only[List.getElem?_toArray,List.getElem?_cons_zero,List.getElem?_cons_succ] at y0 y2;clear m2 q2 p2 t0 t1 t2 t3 hb9 hbx;replace hq:=hq.step hbl;replace ha:=ha.step hbl;obtain⟨-, -, -, -,q4, -,q6, -⟩:=hq.cells;obtain⟨a0, -, -, -⟩:=ha.cells;replace hm:=hm.step hbl;replace hx:=hx.step hbl
   obtain⟨m0,m1,m2⟩:=hm.cells;obtain⟨x0,x1,x2⟩:=hx.cells
   go_cut [133] from 89 to 133 (fun v wx=>v= .bool false∧Below w30.heap.size w30 wx)
   case first=>
    clear hk hbl hrc hrm hr s2 hrc2 hrm2 i0 j0 j1 hcx hmx;cases e1:(m.Rz[i].Fz[k].name.toList==q.ref.toList)
    ·go_wp2_with fail;go_meet
     case rel=>exact⟨rfl,Below.refl _ _⟩
    cases e2:(m.Rz[i].Fz[k].count !=q.old)
    ·go_wp2_with fail;go_meet
     case rel=>exact⟨rfl,Below.refl _ _⟩
    obtain⟨hxm,hcc⟩:=HLT.out k hlt (by have:=e1;rw[Jr] at this;exact of_decide_eq_true this) (by simpa using e2);have HX:=Ja hxm;clear hxm;rcases hcc with h|h|h
    all_goals
     rw[h] at a0;clear h;go_wp2_with fail;refine(chModel_two hx hm).mono ?_;rintro e w31 ⟨rfl,hb9⟩;rw[decide_eq_true HX.out];go_wp2_with fail;go_meet
     case rel=>exact⟨rfl,hb9⟩
   case rest=>
    obtain⟨w31,hw31⟩: ∃w31,w31=wc:=⟨_,rfl⟩;subst hw31;obtain⟨rfl,hb9⟩:=hcut;clear m0 m1 m2 x0 x1 x2 y0 y2 q4 q6 a0;go_wp2;exact⟨⟨k+1,by omega,by go_num,Below.t hbl hb9⟩,by simp[intOf];omega⟩
  ·have hk':k=m.Rz[i].Fz.length:=by omega
   subst hk';obtain⟨a0, -, -, -⟩:=(ha.step hbl).cells;have HN:=HC0.out;go_wp2;go_ret;exact⟨Jc (by simpa using HN),Below.t HB hbl⟩
def Opens {α H:Type} (enc:TypeId×Value→H) (P:Program) (t:TypeId) (r:Rp α) (ok:α→Prop):Prop:=
 ∀ {w:World} {base:Nat} {spare:Nat→Bool} {held:Bool} {fuel:Nat} {cs:List Value} {x:DataW H×List MemPlace},DataW.trod enc P w base spare held fuel t cs=some x→∃y fp,r.R w cs y fp∧ok y
section
variable {H:Type} {enc:TypeId×Value→H} {P:Program}
theorem opens_byte {t:TypeId} (ht:P.underlying t=some (.int .u8)):Opens enc P t Rp.byte (fun _=>True):=fun h=>by
 obtain⟨n,rfl,_,hw⟩:=DataW.trod_int ht h;simp[Lit.wf,IntKind.min,IntKind.max,IntKind.signed,IntKind.bits] at hw;refine⟨UInt8.ofNat n.toNat,[],⟨?_,rfl⟩,trivial⟩;have e:((UInt8.ofNat n.toNat).toNat:Int)=n:=by
  rw[UInt8.toNat_ofNat'];omega
 show [Value.int .u8 n]= [Value.int .u8 ((UInt8.ofNat n.toNat).toNat:Int)];rw[e]
theorem spot_none {w:World} {a:Addr} {v:Value} (h:w.cell? a=some v):a.spot=none:=by
 unfold World.cell? at h;split at h
 ·split at h
  ·cases h
  ·rename_i hs;simpa using hs
 ·cases h
theorem opens_rows {α:Type} {r:Rp α} {ok:α→Prop} {w:World} {base:Nat} {a:Addr} : ∀(len:Nat),(∀i,i<len→∃cs' y f,w.cells? base (a.add (i*r.k)) r.k=some cs'∧r.R w cs' y f∧ok y)→
  ∃xs l fp,l.length=len∧AllR r w xs l fp∧(∀y∈l,ok y)∧∀j u,xs[j]? =some u→w.cell? (a.add j)=some u
 | 0,_=>⟨[],[],[],rfl,⟨rfl,rfl⟩,by simp,by simp⟩
 |len+1,h=>by
  obtain⟨xs,l,fp,hl,ha,hok,hc⟩:=opens_rows len (fun i hi=>h i (by omega));obtain⟨cs',y,f,hcs,hr,hy⟩:=h len (by omega);obtain⟨_,hcl,hat⟩:=World.cells?_some hcs;have hxl:=ha.len;refine⟨xs++cs',l++ [y],fp++f,by simp[hl],ha.snoc hr,fun z hz=> ?_,fun j u hu=> ?_⟩
  ·rcases List.mem_append.1 hz with hz|hz
   ·exact hok z hz
   ·simp at hz;subst hz;exact hy
  ·by_cases hj:j<xs.length
   ·rw[List.getElem?_append_left hj] at hu;exact hc j u hu
   ·rw[List.getElem?_append_right (by omega)] at hu;have hlt:=(List.getElem?_eq_some_iff.1 hu).1;have:=hat (i:=j - xs.length) (by omega);rw[hu] at this;rw[Go.Deep.add_add,show len*r.k+(j - xs.length)=j from by rw[hl] at hxl;omega] at this;exact this
theorem opens_slice {α:Type} {r:Rp α} {ok:α→Prop} {t e:TypeId} (ht:P.underlying t=some (.slice e)) (hC:P.cellsOf e=r.k) (hk:0<r.k) (h:Opens enc P e r ok):Opens enc P t (Rp.slice r) (fun l=>∀y∈l,ok y):=fun {w base spare held fuel cs x} hr=>by
 rcases open_slice ht hr with ⟨rfl,_⟩|⟨a,len,cap,m,n,D,Pl,rfl,hb,hl,hm,hmm,_,hi⟩
 ·exact⟨[],[],⟨none,0,0,rfl,SlR.nil⟩,by simp⟩
 ·have hle:len≤m:=by rw[hmm];split<;>omega
  rw[hC] at hi;obtain⟨xs,l,fp,hlen,ha,hok,hc⟩:=opens_rows (r:=r) (ok:=ok) (w:=w) (base:=base) (a:=a) len (fun i hii=>by
   obtain⟨cs',hcs,htr⟩:=hi i (by omega);obtain⟨y,f,hR,hy⟩:=h htr;exact⟨cs',y,f,hcs,hR,hy⟩)
  have hxl:=ha.len;by_cases h0:len=0
  ·subst h0;have:l= []:=List.eq_nil_of_length_eq_zero hlen;subst this;obtain⟨rfl,rfl⟩:=ha;exact⟨[],[],⟨some a,0,cap,rfl,rfl,Nat.zero_le _,hm,[],[],[],⟨by simp,.inl ⟨rfl,rfl⟩⟩,⟨rfl,rfl⟩,rfl⟩,by simp⟩
  ·have hpos:0<xs.length:=by rw[hxl,hlen];exact Nat.mul_pos (by omega) hk
   have h00:=hc 0 xs[0] (List.getElem?_eq_getElem hpos);have ha0:a.add 0=a:=by simp[Addr.add]
   rw[ha0] at h00;obtain⟨b,o,s⟩:=a;have hs:s=none:=spot_none h00;subst hs;refine⟨l,[b]++fp,⟨_,len,cap,rfl,hlen.symm,hl,hm,xs,[b],fp,⟨by rw[hxl,hlen],.inr ⟨by omega,b,o,rfl,rfl,World.block_lt_of_cell? w _ h00,fun j u hu=> ?_⟩⟩,ha,rfl⟩,hok⟩;have:=hc j u hu;rwa [Addr.add_lit] at this
theorem post_of_below {f:Func} {s:ChangeSpec} {apart fresh handsOn again:Bool} {W W':World} {args:Array Value} {v:Value} {ds gs:List (DataW H)} {before pa pv:List MemPlace}
  (hW:DataW.Whole enc P f.params.toList s.vars apart W args.toList ds gs before)
  (hres: ∀(b:Nat) (sp:Nat→Bool) (hd:Bool),DataW.TrodAll enc P W' b sp hd f.resultTypes.toList (v.resultList f.resultTypes.size) (s.fn H (ds++gs)).results [])
  (hargs: ∀sp:Nat→Bool,(∀p∈before,sp p.block=true)→DataW.TrodAll enc P W' 0 sp true f.params.toList args.toList (s.fn H (ds++gs)).args pa)
  (hvars: ∀sp:Nat→Bool,(∀p∈before,sp p.block=true)→DataW.TrodVars enc P W' sp s.vars (s.fn H (ds++gs)).vars pv)
  (hps:before=pa++pv) (hb:Below W.heap.size W W')
  (hok: ∀(j:Nat) (t:TypeId) (r:Value),f.resultTypes[j]? =some t→(v.resultList f.resultTypes.size)[j]? =some r→Value.okWide P W' .any 0 t r):
  s.post enc P f apart fresh handsOn again W args v W':=by
 have hlt: ∀p∈before,p.block<W.heap.size:=fun p hp=>hW.lt p hp;have hold: ∀p∈before,(fun b=>decide (b<W.heap.size)) p.block=true:=fun p hp=>by simpa using hlt p hp
 refine⟨ds,gs,before,[],pa,pv,hW,hres _ _ _,hargs _ hold,hvars _ hold,World.keptBut_mono (fun p hp=>⟨hp, ?_⟩) (hb.frame (·∈before)),fun _=> ?_⟩
 ·rw[hps,List.mem_append] at hp;exact Or.inr hp
 ·obtain⟨_,_,_,_,_,hz,hn⟩:=hW;refine⟨hok,_,_,([]++pa)++pv,⟨[]++pa,pv,trodAll_append (hargs _ (fun _ _=>rfl)) (hres _ _ _),hvars _ (fun _ _=>rfl),rfl, ?_, ?_⟩, ?_⟩
  ·intro b off hp;have hin:MemPlace.cell b off∈before:=by rw[hps];simpa using hp
   rw[hb.frozen (hlt _ hin)];exact hz b off hin
  ·intro ha;have:=hn ha;rw[hps] at this;simpa using this
  ·intro p hp _;rw[hps];simpa using hp
end
theorem fnMdlStale_own:ownKnob Tryz.prog.godebug=none:=by kernel_rfl
theorem fnMdlStale_laidOut:laidOutB Tryz.prog=true:=by kernel_rfl
theorem fnMdlStale_contract (H:Type) (enc:TypeId×Value→H) (W:World) (base:Nat) (args:Array Value) (ds gs:List (DataW H)) (before:List MemPlace)
  (hval0: ∀(j:Nat) t v,Tryz.f8.params[j]? =some t→args[j]? =some v→Value.okWide Tryz.prog W .any base t v)
  (hW:DataW.Whole enc Tryz.prog Tryz.f8.params.toList Rows.fnMdlStaleSpec.vars false W args.toList ds gs before):
  Calls Tryz.prog 8 args W fun e W'=>∃v,e= .returned v∧Rows.fnMdlStaleSpec.post enc Tryz.prog Tryz.f8 false true false false W args v W':=by
 have hval:=hval0;have hW':=hW;obtain⟨p,q,hA0,hV,rfl,hfz,hnd⟩:=hW;have hA:DataW.TrodAll enc Tryz.prog W 0 (fun _=>true) true Tryz.f8.params.toList args.toList ds p:=hA0;rw[Tryz.params8] at hA hval;obtain⟨v0,d0,rfl,rfl,h0⟩:=trodAll_one hA;obtain⟨rfl,rfl⟩:=trodVars_none hV;have h0k:=h0;obtain⟨a0,len0,cap0,rfl⟩:=okWide_slice Tryz.underlying22 (hval 0 22 v0 rfl rfl);obtain⟨fuel0,hf0⟩:=h0
 obtain⟨l0,fp0,⟨A0,n0,c0,hcs0,hs0⟩,hw0⟩:=opens_slice Tryz.underlying22 (by kernel_rfl) (by decide) (opens_byte Tryz.underlying5) hf0;have hc0:Value.slice a0 len0 cap0= .slice A0 n0 c0:=by simpa [Value.cells] using hcs0
 rw[hc0] at h0k hW' ⊢;clear hf0 hcs0 hc0;clear hA0 hval hval0;simp only[List.append_nil] at hW';refine(lawStale W hs0).mono fun e W' ⟨he,hb⟩=> ?_;subst he;have hlt0: ∀y∈p,y.block<W.heap.size:=fun y hy=>hW'.lt y (by simp[hy])
 refine⟨_,rfl,post_of_below (pa:=p) (pv:=[]) hW' (fun _ _ _=>trodAll_mk1 (shut_bool Tryz.underlying4 _)) (fun sp hsp=> ?_) (fun _ _=>rfl) (by simp) hb (ok_one (by kernel_rfl) rfl (okWide_bool_mk Tryz.underlying4 _))⟩;exact trodAll_mk1 (WideElems.Trod_stays fnMdlStale_laidOut (by kernel_rfl) (of_decide_eq_true (by kernel_rfl)) h0k (fun y hy=>hb.same (hlt0 y hy)) (fun y hy=>hsp y (by simp[hy])))
mutual
def fnMdlStale_flat:DataW Unit→List Value
 | .lit l=>[l.value]
 | .agg ps=>fnMdlStale_flats ps
 |_=>[]
def fnMdlStale_flats:List (DataW Unit)→List Value
 | []=>[]
 |d::r=>fnMdlStale_flat d++fnMdlStale_flats r
end
noncomputable def fnMdlStale_world (os:Os):World:=
 { World.holding Tryz.prog os ⟨#[],#[],[]⟩ with heap:=(((World.holding Tryz.prog os ⟨#[],#[],[]⟩).heap.modify 2 fun
   | .cells _ t frozen=> .cells (fnMdlStale_flat Rows.laid_unicode_utf8_acceptRanges).toArray t frozen
   |o=>o).modify 1 fun
   | .cells _ t frozen=> .cells (fnMdlStale_flat Rows.laid_unicode_utf8_first).toArray t frozen
   |o=>o)}
set_option maxRecDepth 100000 in
theorem fnMdlStale_met (os:Os):laidMet Tryz.prog Rows.fnMdlStaleRow.laid ((fnMdlStale_world os).forCall (fun _ _=>0) ⟨#[],#[.slice none 0 0],[]⟩).memory:=
 laidMet_of_run' 8 (by kernel_rfl) (by kernel_rfl)
theorem fnMdlStale_reads (os:Os) {H:Type} (enc:TypeId×Value→H): ∃x,DataW.whole enc Tryz.prog ((fnMdlStale_world os).forCall (fun _ _=>0) ⟨#[],#[.slice none 0 0],[]⟩).memory Tryz.f8.params.toList Rows.fnMdlStaleSpec.vars false (#[.slice none 0 0]:Array Value).toList 8=some x:=
 Option.isSome_iff_exists.1 (show(DataW.whole enc Tryz.prog ((fnMdlStale_world os).forCall (fun _ _=>0) ⟨#[],#[.slice none 0 0],[]⟩).memory Tryz.f8.params.toList Rows.fnMdlStaleSpec.vars false (#[.slice none 0 0]:Array Value).toList 8).isSome=true by kernel_rfl)
theorem fnMdlStale_lifted (os:Os) (started:os.Started) (H:Type) (enc:TypeId×Value→H) (F:Stop.Interp):
  ReturnsInHanded {} Tryz.checked os 8 .any ((OpenSpec.ofChange Rows.fnMdlStaleSpec).preRow enc Tryz.prog Tryz.f8 Rows.fnMdlStaleRow.domain false Rows.fnMdlStaleRow.laid) (((OpenSpec.ofChange Rows.fnMdlStaleSpec).at F).post enc Tryz.prog Tryz.f8 false true false false):=by
 obtain⟨x0,hx⟩:=fnMdlStale_reads os enc;refine returnsInHanded_of_row (C:=Tryz.checked) (s:=OpenSpec.ofChange Rows.fnMdlStaleSpec) fnMdlStale_own started (by kernel_rfl) Tryz.func8
  (witness_row_at (enc:=enc) (C:=Tryz.checked) false (fnMdlStale_world os) #[.slice none 0 0] rfl (by kernel_rfl) (by kernel_rfl) (by kernel_rfl)
   (OpenSpec.preRow_of_cond 8 hx (by kernel_rfl) (fun k hk=>by cases hk) (by kernel_rfl) (fnMdlStale_met os))) ?_
 intro W base args ds gs before hval hW _ _ _ _ _ _;exact fnMdlStale_contract H enc W base args ds gs before hval hW
theorem fnMdlStale_closed:joinedFacts Tryz.pinned.checked.prog 8 Tryz.f8 (OpenSpec.ofChange Rows.fnMdlStaleSpec).bare Rows.fnMdlStaleRow=true:=by
 unfold joinedFacts;simp only[Bool.and_eq_true]
 repeat' apply And.intro
 all_goals(as_aux_lemma=>kernel_rfl)
theorem fnMdlStale_said:Rows.FnMdlStaleSaid:=
 OpenClaim.holds_of_cond 8 Tryz.f8 rfl rfl rfl rfl rfl rfl rfl ⟨rfl,rfl,rfl,rfl,rfl⟩ rfl rfl rfl rfl rfl (by kernel_rfl) Tryz.func8 fnMdlStale_closed
  (of_decide_eq_true (by kernel_rfl)) (by unfold Func.isWrapper;first|(rw[if_pos (by decide+kernel)];kernel_rfl)|(rw[if_neg (by decide+kernel)];exact⟨rfl,rfl⟩))
  (fun os started H enc _ F=>by rw[OpenClaim.pre_eq_preRow];exact fnMdlStale_lifted os started H enc F)
theorem fnMdlStale_plain (f:FuncId) (fn:Func) (hf:Tryz.pinned.checked.prog.funcNamed "loop.example/chartulary/laws.FnMdlStale" =some f) (hfn:Tryz.pinned.checked.prog.funcs[f]? =some fn):
  false=Tryz.pinned.checked.prog.looks []∧∀(j:Nat) t,fn.params[j]? =some t→Tryz.pinned.checked.prog.wantsStandIn t=false:=by
 obtain rfl:f=8:=Option.some.inj ((show Tryz.prog.funcNamed "loop.example/chartulary/laws.FnMdlStale" =some 8 by kernel_rfl).symm.trans hf) |>.symm;obtain rfl:fn=Tryz.f8:=(Option.some.inj (Tryz.func8.symm.trans hfn)).symm;refine⟨by kernel_rfl,fun j t ht=> ?_⟩;rw[Tryz.params8] at ht;have hm:=Array.mem_of_getElem? ht;simp only[List.mem_toArray,List.mem_cons,List.not_mem_nil,or_false] at hm
 rcases hm with rfl
 ·exact(show Tryz.prog.wantsStandIn 22=false by kernel_rfl)
theorem fnMdlStale_holds:Rows.FnMdlStaleCardSaid:=
 Claim7.holds_tied_plain_at .later [] _ _ _ _ fnMdlStale_said (fun _ h=>by cases h) (by kernel_rfl) (fun _ h=>by cases h) fnMdlStale_row_tie rfl ⟨rfl,rfl⟩ (by kernel_rfl) rfl fnMdlStale_plain (by kernel_rfl)
#print axioms fnMdlStale_holds
end Go.Proofs.YtlkoaobaoffpaaaGreatDoor
