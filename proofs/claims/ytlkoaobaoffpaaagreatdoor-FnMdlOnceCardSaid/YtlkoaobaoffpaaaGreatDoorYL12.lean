/- FnMdlOnce: for every input the law answers true and leaves its arguments as they were. Conditions: the listed library tables read as the tie says. -/
import Derived.ProofKit
import Derived.Deep.Slices
import Derived.Deep.Fields
import Derived.WalkKit
import Derived.OpenShut
import Derived.ChangeMaps5
import Derived.Deep.DeepHandedRow
import Derived.Lib.LaidTab
import Derived.SevenTiedAt
import Derived.Test.YtlkoaobaoffpaaaGreatDoorZ34
import Derived.Test.YtlkoaobaoffpaaaGreatDoorZ29
import Derived.Test.YtlkoaobaoffpaaaGreatDoorZ23
import Derived.Test.YtlkoaobaoffpaaaGreatDoorZ8
import Derived.Test.YtlkoaobaoffpaaaGreatDoorZ7
import Derived.Test.YtlkoaobaoffpaaaGreatDoorZ35
import Derived.Test.YtlkoaobaoffpaaaGreatDoorZ1
import Derived.Test.YtlkoaobaoffpaaaGreatDoorCards
import Derived.Test.YtlkoaobaoffpaaaGreatDoorTie
namespace Go.Proofs.YtlkoaobaoffpaaaGreatDoor
open Go.RowKit
attribute [local go_sem ↓] Go.wp_at_zero Go.wp_at_succ
open Go.ChangeShapes Go.WideShapes Go.ChangeAt Go.RowKit Go.Deep
set_option maxHeartbeats 8000000
set_option maxRecDepth 100000
set_option linter.unusedSimpArgs false
set_option linter.unusedVariables false
section
variable {w w':World} {g:Nat} {m:Jl} {q:Req} {a:Ans} {K U R E F N:Value}
end
section
variable {P:Program} {s:Code} {Q:Exit→Act→World→Prop} {b:Act} {w:World} {m:Jl} {q:Req} {a:Ans} {K U R E F N:Value}
end
section
variable {w0 W W':World} {m:Jl} {q q':Req} {K U R E E':Value}
end
section
variable {w w':World} {g lo:Nat} {m:Jl} {K U R:Value}
end
theorem manage_same {p:Xq} {r:Req} (h:(manage p r).2≠1):(manage p r).1=p:=by
 have:(manage p r).1=p∨(manage p r).2=1:=by
  unfold manage
  repeat' split
  all_goals first|exact .inl rfl|exact .inr rfl
 exact this.resolve_right h
theorem write_same {m:Jl} {p:Xq} {r:Req} (h:(write m p r).2≠1):(write m p r).1=m:=by
 have:(write m p r).1=m∨(write m p r).2=1:=by
  unfold write
  repeat' split
  all_goals first|exact .inl rfl|exact .inr rfl
 exact this.resolve_right h
theorem set_self {α:Type} {l:List α} {i:Nat} {a:α} (h:l[i]? =some a):l.set i a=l:=by
 obtain⟨hi,rfl⟩:=List.getElem?_eq_some_iff.1 h;exact List.set_getElem_self hi
theorem refused {m:Jl} {r:Req} (h:(Zn m r).2.code≠1∨r.kind=2∨r.kind=3∨r.kind=11):(Zn m r).1=m:=by
 unfold Zn at h ⊢;split
 ·split
  ·rfl
  ·split
   ·rfl
   ·rename_i p hp
    split
    ·rfl
    ·split
     ·rfl
     ·rename_i n1 n2 n3
      split
      ·rename_i hw
       refine write_same ?_;rcases h with h|h|h|h
       ·simpa [*,code] using h
       all_goals simp_all
      ·split
       ·rfl
       ·rename_i hk
        have:(manage p r).1=p:=by
         refine manage_same ?_;rcases h with h|h|h|h
         ·simpa [*,code] using h
         all_goals simp_all
        rw[this];simp[set_self hp]
 ·rfl
structure Laid (m:Jl) (r:Req) (p:Xq) (k:Nat):Prop where
 knows:knows m.keys r.user r.key=true
 writes:Vs r=true
 repo:m.Rz[r.repo.toNat]? =some p
 ref:Y7 p.Fz r.ref=some k
 may:Yi m p r=true
 old:(p.Fz.getD k Y8).count=r.old
 more:(p.Fz.getD k Y8).count≠14
 new:(newest m (p.Fz.getD k Y8) r).2=1
 used:m.used.getD (r.user - 1).toNat 0+Yg r.Ez≤200
 eq:Zn m r=(jpm m p k r (newest m (p.Fz.getD k Y8) r).1,code 1)
structure Managed1 (m:Jl) (r:Req) (p:Xq):Prop where
 knows:knows m.keys r.user r.key=true
 writes:Vs r=false
 kind:r.kind≠2∧r.kind≠3∧r.kind≠11
 repo:m.Rz[r.repo.toNat]? =some p
 Az:r.user=p.Az
 done:(manage p r).2=1
 eq:Zn m r=({ m with Rz:=m.Rz.set r.repo.toNat (manage p r).1},code 1)
theorem write_ways (m:Jl) (p:Xq) (r:Req):((write m p r).1=m∧(write m p r).2≠1)∨∃k,Y7 p.Fz r.ref=some k∧Yi m p r=true∧(p.Fz.getD k Y8).count=r.old∧(p.Fz.getD k Y8).count≠14∧(newest m (p.Fz.getD k Y8) r).2=1∧m.used.getD (r.user - 1).toNat 0+Yg r.Ez≤200∧write m p r=(jpm m p k r (newest m (p.Fz.getD k Y8) r).1,1):=by
 unfold write;split
 ·rename_i hm
  split
  ·exact .inl ⟨rfl,by simp⟩
  ·rename_i k hk
   split
   ·exact .inl ⟨rfl,by simp⟩
   ·rename_i h1
    split
    ·exact .inl ⟨rfl,by simp⟩
    ·rename_i h2
     split
     ·rename_i h3
      exact .inl ⟨rfl,h3⟩
     ·rename_i h3
      split
      ·exact .inl ⟨rfl,by simp⟩
      ·rename_i h4
       exact .inr ⟨k,hk,hm,Classical.not_not.1 h1,h2,Classical.not_not.1 h3,by omega,rfl⟩
 ·exact .inl ⟨rfl,by simp⟩
theorem doIt_none {m:Jl} {r:Req} (hp:m.Rz[r.repo.toNat]? =none) (hk:knows m.keys r.user r.key=true) (h11:r.kind≠11):Zn m r=(m,code 3):=by
 unfold Zn;rw[if_pos hk,if_neg h11,hp]
theorem doIt_writes {m:Jl} {r:Req} {p:Xq} (hk:knows m.keys r.user r.key=true) (hp:m.Rz[r.repo.toNat]? =some p) (hw:Vs r=true):Zn m r=((write m p r).1,code (write m p r).2):=by
 have h:r.kind=1∨r.kind=9∨r.kind=10:=by simpa [Vs,or_assoc] using hw
 unfold Zn;rw[if_pos hk,if_neg (by omega),hp];simp only[hw];rw[if_neg (by omega),if_neg (by omega)];rfl
theorem doIt_rest {m:Jl} {r:Req} {p:Xq} (hk:knows m.keys r.user r.key=true) (hp:m.Rz[r.repo.toNat]? =some p) (hw:Vs r=false) (h:r.kind≠2∧r.kind≠3∧r.kind≠11):
  Zn m r=if r.user≠p.Az then(m,code 4) else({ m with Rz:=m.Rz.set r.repo.toNat (manage p r).1},code (manage p r).2):=by
 unfold Zn;rw[if_pos hk,if_neg h.2.2,hp];simp only[hw];rw[if_neg h.1,if_neg h.2.1];rfl
theorem doIt_ways (m:Jl) (r:Req):((Zn m r).1=m∧((Zn m r).2.code=1→r.kind=2∨r.kind=3∨r.kind=11))∨(∃p k,Laid m r p k)∨∃p,Managed1 m r p:=by
 by_cases ht:r.kind=2∨r.kind=3∨r.kind=11
 ·exact .inl ⟨refused (.inr ht),fun _=>ht⟩
 ·by_cases hk:knows m.keys r.user r.key=true
  ·cases hp:m.Rz[r.repo.toNat]? with
   |none=>left;rw[doIt_none hp hk (by omega)];exact⟨rfl,fun h=>by simp[code] at h⟩
   |some p=>
    cases hw:Vs r
    ·have he:=doIt_rest hk hp hw (by omega);by_cases ha:r.user=p.Az
     ·rw[if_neg (by simpa using ha)] at he;by_cases hd:(manage p r).2=1
      ·exact .inr (.inr ⟨p,hk,hw,by omega,hp,ha,hd,by rw[he,hd]⟩)
      ·left;rw[he,manage_same hd];exact⟨by simp[set_self hp],fun h=>absurd h hd⟩
     ·rw[if_pos (by simpa using ha)] at he;left;rw[he];exact⟨rfl,fun h=>by simp[code] at h⟩
    ·have he:=doIt_writes hk hp hw;rcases write_ways m p r with ⟨h,h'⟩|⟨k,a,b,c,d,e,f,g⟩
     ·left;rw[he];exact⟨h,fun h=>absurd h h'⟩
     ·exact .inr (.inl ⟨p,k,hk,hw,hp,a,b,c,d,e,f,by rw[he,g]⟩)
  ·left;unfold Zn;rw[if_neg hk];exact⟨rfl,fun h=>by simp[code] at h⟩
theorem apart {m:Jl} {r:Req} (hr:0≤r.repo) {i:Nat} (hi:(i:Int)≠r.repo):(Zn m r).1.Rz[i]? =m.Rz[i]? :=by
 have hn:r.repo.toNat≠i:=by omega
 rcases doIt_ways m r with ⟨h, -⟩|⟨p,k,h⟩|⟨p,h⟩
 ·rw[h]
 ·rw[h.eq];simp[jpm,hn]
 ·rw[h.eq];simp[hn]
theorem refIdx_map (l:List Ref) (n:ByteArray):Y7 l n=(l.map (·.name)).findIdx? (fun s=>decide (s=n)):=by
 unfold Y7;rw[List.findIdx?_map];rfl
theorem refIdx_set {l:List Ref} {k:Nat} {y:Ref} (hk:k<l.length) (h:y.name=l[k].name) (n:ByteArray):Y7 (l.set k y) n=Y7 l n:=by
 have:(l.set k y).map (·.name)=l.map (·.name):=by
  rw[List.map_set];exact set_self (by rw[List.getElem?_map,List.getElem?_eq_getElem hk,h];rfl)
 rw[refIdx_map,refIdx_map,this]
theorem laid_repo {m:Jl} {r:Req} {p:Xq} {k:Nat} (h:Laid m r p k):(Zn m r).1.Rz[r.repo.toNat]? =some { p with Fz:=p.Fz.set k { p.Fz.getD k Y8 with count:=(p.Fz.getD k Y8).count+1,Vz:=jgu ((p.Fz.getD k Y8).Vz++ [(newest m (p.Fz.getD k Y8) r).1])}} :=by
 have hi:=(List.getElem?_eq_some_iff.1 h.repo).1;rw[h.eq];simp only[jpm];rw[List.getElem?_set_self hi]
theorem may_stays {m:Jl} {r:Req} {p:Xq} {k:Nat} (h:Laid m r p k) (hr:0≤r.repo) {p':Xq} (hp':p'.Uz=p.Uz):Yi (Zn m r).1 p' r=true:=by
 have hm:=h.may;unfold Yi at hm ⊢;rw[hp'];split
 ·rename_i h1;rw[if_pos h1] at hm;exact hm
 ·rename_i h1
  rw[if_neg h1] at hm;rw[Bool.and_eq_true] at hm ⊢;refine⟨hm.1, ?_⟩;rw[Bool.or_eq_true] at hm ⊢;rcases hm.2 with h2|h2
  ·exact .inl h2
  ·right;by_cases e:r.frm.toNat=r.repo.toNat
   ·rw[e,h.repo] at h2;rw[e,laid_repo h];exact h2
   ·have:(Zn m r).1.Rz[r.frm.toNat]? =m.Rz[r.frm.toNat]? :=apart hr (by omega);rw[this];exact h2
theorem once {m:Jl} {r:Req} (hr:Yw r=true) (hw:Vs r=true) (hc:(Zn m r).2.code=1):Zn (Zn m r).1 r=((Zn m r).1,code 6):=by
 have hr0:=(jmn hr).2.1.1;rcases doIt_ways m r with ⟨-,h⟩|⟨p,k,h⟩|⟨p,h⟩
 ·have:=h hc;simp only[Vs,Bool.or_eq_true,beq_iff_eq] at hw;omega
 ·obtain⟨hk,hname⟩:=je8 (key:=Ref.name) h.ref;have hx:=J4 (z:=Y8) hk;have hkn:knows (Zn m r).1.keys r.user r.key=true:=by rw[h.eq];exact h.knows
  rw[doIt_writes hkn (laid_repo h) hw];have hmay:=may_stays h hr0 (p':= { p with Fz:=p.Fz.set k { p.Fz.getD k Y8 with count:=(p.Fz.getD k Y8).count+1,Vz:=jgu ((p.Fz.getD k Y8).Vz++ [(newest m (p.Fz.getD k Y8) r).1])}}) rfl;unfold write;rw[if_pos hmay];simp only[hx];rw[refIdx_set hk (by rfl),h.ref];simp only
  rw[J4 (by simpa using hk),List.getElem_set_self];simp only;have hold:=h.old;rw[hx] at hold;rw[if_pos (by omega)]
 ·have:=h.writes;rw[hw] at this;cases this
theorem lawOnce (w:World) {A:Option Addr} {n c:Nat} {code:List UInt8} {fp:List Nat} (hx:SlR Rp.byte w A n c code fp):
  Calls Tryz.prog 5 #[.slice A n c] w fun e w'=>e= .returned (.bool true)∧Below w.heap.size w w':=by
 obtain⟨rfl,hcx,hmx, -⟩:=id hx;unfold maxLen at hmx;go_enter Tryz.func5,Tryz.ntmps5;by_cases hlen:(1048576:Int)<(code.length:Int)
 ·go_wp2;go_ret;exact⟨rfl,Below.refl _ _⟩
 go_wp2_with fail;refine(jp5 _ hx).mono ?_;rintro e w1 ⟨m,q,A0,n0,c0,A1,n1,c1,A2,n2,c2,A3,c3,f,fq,rfl,hR,hQ,hok,hsm, -, -,HB⟩;clear hx;obtain rfl:n2=m.Rz.length:=by
  obtain⟨_,_,_,_,_,_,_,_,_,_,_,_,he, -, -, -,h2⟩:=hR;cases he;exact h2.1
 go_upto_region 4 with fail
 refine wp_HQ ⟨_,hR⟩ ⟨_,hQ⟩ ?_;intro w2 hm hq hb3;replace HB:=Below.t HB hb3;have hf:=Ja (And.intro hok.1 (jo1 hsm));clear hR hQ hb3 hok;have HS:=Ja hsm;clear hsm;obtain⟨x,a,ho⟩: ∃x a,jai m q=(x,a):=⟨_,_,rfl⟩;have HO:=Ja ho;clear ho;obtain⟨x0,x1,x2⟩:=hm.cells;go_wp2_with((refine wpList_load_row rfl 31 (.tmp 4) rfl _ rfl _ _ _ _ hq.k.out Tryz.underlying31 rfl jb3 ?_))
 go_wp2_with fail;refine(implDo hm hq hf.out.1 hf.out.2).mono ?_;rintro e w3 hd;obtain⟨A4,na4,ca4,A5,na5,ca5,A6,ca6,B0,nb0,cb0,B1,nb1,cb1,rfl,hX,hA,hb3⟩:=hd.parts HO.out;replace hm:=hm.step hb3;replace hq:=hq.step hb3;replace HB:=Below.t HB hb3;clear hb3 hd x0 x1 x2;go_upto_region 5 with fail
 refine wp_HA hX hA ?_;intro w4 hx ha hb3;replace hm:=hm.step hb3;replace hq:=hq.step hb3;replace HB:=Below.t HB hb3;clear hb3 hX hA;obtain⟨x0,x1,x2⟩:=hm.cells;go_wp2_with((refine wpList_load_row rfl 31 (.tmp 4) rfl _ rfl _ _ _ _ hq.k.out Tryz.underlying31 rfl jb3 ?_));go_wp2_with fail;refine(specDo hm hq hf.out.1 hf.out.2).mono ?_;rintro e w5 hd
 obtain⟨A7,na7,ca7,A8,na8,ca8,A9,ca9,B2,nb2,cb2,B3,nb3,cb3,rfl,hX,hA,hb3⟩:=hd.parts HO.out;replace hm:=hm.step hb3;replace hq:=hq.step hb3;replace HB:=Below.t HB hb3;replace hx:=hx.step hb3;replace ha:=ha.step hb3;clear hb3 hd x0 x1 x2;go_upto_region 6 with fail
 refine wp_HA hX hA ?_;intro w6 hy hb hb3;replace hm:=hm.step hb3;replace hq:=hq.step hb3;replace HB:=Below.t HB hb3;replace hx:=hx.step hb3;replace ha:=ha.step hb3;clear hb3 hX hA;obtain⟨x0,x1,x2⟩:=hx.cells;obtain⟨y0,y1,y2⟩:=hy.cells;go_wp2_with fail;refine(jqp hx hy).mono ?_;rintro e w7 ⟨rfl,hb3⟩;replace hm:=hm.step hb3;replace hq:=hq.step hb3;replace HB:=Below.t HB hb3
 replace hx:=hx.step hb3;replace ha:=ha.step hb3;replace hy:=hy.step hb3;replace hb:=hb.step hb3;clear hb3 x0 x1 x2 y0 y1 y2;obtain⟨x0,x1,x2,x3⟩:=ha.cells;obtain⟨y0,y1,y2,y3⟩:=hb.cells;go_wp2_with fail;refine(jp8 ha hb).mono ?_;rintro e w8 ⟨rfl,hb3⟩;replace hm:=hm.step hb3;replace hq:=hq.step hb3;replace HB:=Below.t HB hb3;replace hx:=hx.step hb3;replace ha:=ha.step hb3
 clear hb3 x0 x1 x2 x3 y0 y1 y2 y3 hy hb;obtain⟨a0, -, -, -⟩:=ha.cells;cases e1:(a.code !=1);rotate_left
 ·skip;obtain⟨x0,x1,x2⟩:=hm.cells;have C1:=fun n:BelowW w8=>jhy n.val (hm.step n.property).r.choose_spec hf.out.1;have C2:=fun n:BelowW w8=>jhe n.val (hm.step n.property).r.choose_spec hf.out.1;have C3:=fun n:BelowW w8=>chOk_any n.val;go_upto_region 9 with fail
  cases hmo:Ys m
  all_goals
   simp only[hmo] at C1 C2;have D1:=Ja C1;have D2:=Ja C2;have D3:=Ja C3;clear C1 C2 C3 hmo;have n0:=BelowW.nonempty w8;have ex0:=BelowW.ex (w:=w8);have g0:=fun n:BelowW w8=>n.cell x0;have g1:=fun n:BelowW w8=>n.cell x1;have g2:=fun n:BelowW w8=>n.cell x2;clear x0 x1 x2;refine Jf (by kernel_rfl) (by kernel_rfl) ?_
   repeat(go_big_quiet_step(first|(go_at_call 23;exact BelowW.calls _ (D1.out _))|(go_at_call 16;exact BelowW.calls _ (D2.out _))|(go_at_call 22;exact BelowW.calls _ (D3.out _))))
   refine wpQuiet_nil ?_;rintro w9 ⟨m9,hw9⟩;have hb9:=m9.property;rw[←hw9] at hb9;clear hw9 m9;go_wp2;go_ret;exact⟨rfl,Below.t HB hb9⟩
 obtain⟨q0,q1,q2,q3,q4,q5,q6,q7,q8,q9,q10,q11,q12,q13,q14⟩:=hq.cells;go_wp2_with fail;clear q0 q1 q2 q3 q4 q5 q6 q7 q8 q9 q10 q11 q12 q13 q14;refine(jec _ hq.r.choose_spec).mono ?_;rintro e w9 ⟨rfl,hb3⟩;replace hm:=hm.step hb3;replace hq:=hq.step hb3;replace HB:=Below.t HB hb3;replace hx:=hx.step hb3;replace ha:=ha.step hb3;clear hb3 a0;cases hw:Vs q
 ·skip;obtain⟨x0,x1,x2⟩:=hm.cells;have C1:=fun n:BelowW w9=>jhy n.val (hm.step n.property).r.choose_spec hf.out.1;have C2:=fun n:BelowW w9=>jhe n.val (hm.step n.property).r.choose_spec hf.out.1;have C3:=fun n:BelowW w9=>chOk_any n.val;go_upto_region 9 with fail
  cases hmo:Ys m
  all_goals
   simp only[hmo] at C1 C2;have D1:=Ja C1;have D2:=Ja C2;have D3:=Ja C3;clear C1 C2 C3 hmo;have n0:=BelowW.nonempty w9;have ex0:=BelowW.ex (w:=w9);have g0:=fun n:BelowW w9=>n.cell x0;have g1:=fun n:BelowW w9=>n.cell x1;have g2:=fun n:BelowW w9=>n.cell x2;clear x0 x1 x2;refine Jf (by kernel_rfl) (by kernel_rfl) ?_
   repeat(go_big_quiet_step(first|(go_at_call 23;exact BelowW.calls _ (D1.out _))|(go_at_call 16;exact BelowW.calls _ (D2.out _))|(go_at_call 22;exact BelowW.calls _ (D3.out _))))
   refine wpQuiet_nil ?_;rintro w9 ⟨m9,hw9⟩;have hb9:=m9.property;rw[←hw9] at hb9;clear hw9 m9;go_wp2;go_ret;exact⟨rfl,Below.t HB hb9⟩
 have HOK:=Ja (show Ys m=true∧Yw q=true from Classical.byContradiction fun h=>by have:=code_zero h HO.out;rw[this] at e1;simp at e1);have HD:=Ja (show Zn m q=(x,a) by rw[←HO.out,jhr HOK.out]);have HXO:=Ja (show Ys x=true by have h:=jh2 HOK.out.1 HOK.out.2;rw[HD.out] at h;exact h)
 have HO2:=Ja (show jai x q=(x,(⟨6,[],[],0⟩:Ans)) by have h:=once (m:=m) HOK.out.2 hw (by rw[HD.out];simpa using e1);rw[HD.out] at h;rw[jhr ⟨HXO.out,HOK.out.2⟩,h];rfl);obtain⟨b,hbe⟩: ∃b:Ans,b=⟨6,[],[],0⟩:=⟨_,rfl⟩;rw[←hbe] at HO2;have HBC:=Ja (show b.code=6 by rw[hbe]);have HF2:=Ja (And.intro (Jv HXO.out) hf.out.2);clear hbe hw e1;obtain⟨x0,x1,x2⟩:=hx.cells
 go_wp2_with((refine wpList_load_row rfl 31 (.tmp 4) rfl _ rfl _ _ _ _ hq.k.out Tryz.underlying31 rfl jb3 ?_));go_wp2_with fail;refine(implDo hx hq HF2.out.1 HF2.out.2).mono ?_;rintro e w10 hd;obtain⟨D4,nd4,cd4,D5,nd5,cd5,D6,cd6,E0,ne0,ce0,E1,ne1,ce1,rfl,hX,hA,hb3⟩:=hd.parts HO2.out;replace hm:=hm.step hb3;replace hq:=hq.step hb3;replace HB:=Below.t HB hb3;replace hx:=hx.step hb3
 replace ha:=ha.step hb3;clear hb3 hd x0 x1 x2;go_upto_region 11 with fail
 refine wp_HA hX hA ?_;intro w11 hy hb hb3;replace hm:=hm.step hb3;replace hq:=hq.step hb3;replace HB:=Below.t HB hb3;replace hx:=hx.step hb3;replace ha:=ha.step hb3;clear hb3 hX hA;obtain⟨b0, -, -, -⟩:=hb.cells;rw[HBC.out] at b0;obtain⟨y0,y1,y2⟩:=hy.cells;obtain⟨x0,x1,x2⟩:=hx.cells;go_wp2_with fail;refine(jqp hy hx).mono ?_;rintro e w40 ⟨rfl,hb4⟩;go_wp2;go_ret;exact⟨rfl,Below.t HB hb4⟩
def Opens {α H:Type} (enc:TypeId×Value→H) (P:Program) (t:TypeId) (r:Rp α) (ok:α→Prop):Prop:=
 ∀ {w:World} {base:Nat} {spare:Nat→Bool} {held:Bool} {fuel:Nat} {cs:List Value} {x:DataW H×List MemPlace},DataW.trod enc P w base spare held fuel t cs=some x→∃y fp,r.R w cs y fp∧ok y
section
variable {H:Type} {enc:TypeId×Value→H} {P:Program}
theorem opens_byte {t:TypeId} (ht:P.underlying t=some (.int .u8)):Opens enc P t Rp.byte (fun _=>True):=fun h=>by
 obtain⟨n,rfl,_,hw⟩:=DataW.trod_int ht h;simp[Lit.wf,IntKind.min,IntKind.max,IntKind.signed,IntKind.bits] at hw;refine⟨UInt8.ofNat n.toNat,[],⟨?_,rfl⟩,trivial⟩;have e:((UInt8.ofNat n.toNat).toNat:Int)=n:=by
  rw[UInt8.toNat_ofNat'];omega
 show [Value.int .u8 n]= [Value.int .u8 ((UInt8.ofNat n.toNat).toNat:Int)];rw[e]
theorem spot_none {w:World} {a:Addr} {v:Value} (h:w.cell? a=some v):a.spot=none:=by
 unfold World.cell? at h;split at h
 ·split at h
  ·cases h
  ·rename_i hs;simpa using hs
 ·cases h
theorem opens_rows {α:Type} {r:Rp α} {ok:α→Prop} {w:World} {base:Nat} {a:Addr} : ∀(len:Nat),(∀i,i<len→∃cs' y f,w.cells? base (a.add (i*r.k)) r.k=some cs'∧r.R w cs' y f∧ok y)→
  ∃xs l fp,l.length=len∧AllR r w xs l fp∧(∀y∈l,ok y)∧∀j u,xs[j]? =some u→w.cell? (a.add j)=some u
 | 0,_=>⟨[],[],[],rfl,⟨rfl,rfl⟩,by simp,by simp⟩
 |len+1,h=>by
  obtain⟨xs,l,fp,hl,ha,hok,hc⟩:=opens_rows len (fun i hi=>h i (by omega));obtain⟨cs',y,f,hcs,hr,hy⟩:=h len (by omega);obtain⟨_,hcl,hat⟩:=World.cells?_some hcs;have hxl:=ha.len;refine⟨xs++cs',l++ [y],fp++f,by simp[hl],ha.snoc hr,fun z hz=> ?_,fun j u hu=> ?_⟩
  ·rcases List.mem_append.1 hz with hz|hz
   ·exact hok z hz
   ·simp at hz;subst hz;exact hy
  ·by_cases hj:j<xs.length
   ·rw[List.getElem?_append_left hj] at hu;exact hc j u hu
   ·rw[List.getElem?_append_right (by omega)] at hu;have hlt:=(List.getElem?_eq_some_iff.1 hu).1;have:=hat (i:=j - xs.length) (by omega);rw[hu] at this;rw[Go.Deep.add_add,show len*r.k+(j - xs.length)=j from by rw[hl] at hxl;omega] at this;exact this
theorem opens_slice {α:Type} {r:Rp α} {ok:α→Prop} {t e:TypeId} (ht:P.underlying t=some (.slice e)) (hC:P.cellsOf e=r.k) (hk:0<r.k) (h:Opens enc P e r ok):Opens enc P t (Rp.slice r) (fun l=>∀y∈l,ok y):=fun {w base spare held fuel cs x} hr=>by
 rcases open_slice ht hr with ⟨rfl,_⟩|⟨a,len,cap,m,n,D,Pl,rfl,hb,hl,hm,hmm,_,hi⟩
 ·exact⟨[],[],⟨none,0,0,rfl,SlR.nil⟩,by simp⟩
 ·have hle:len≤m:=by rw[hmm];split<;>omega
  rw[hC] at hi;obtain⟨xs,l,fp,hlen,ha,hok,hc⟩:=opens_rows (r:=r) (ok:=ok) (w:=w) (base:=base) (a:=a) len (fun i hii=>by
   obtain⟨cs',hcs,htr⟩:=hi i (by omega);obtain⟨y,f,hR,hy⟩:=h htr;exact⟨cs',y,f,hcs,hR,hy⟩)
  have hxl:=ha.len;by_cases h0:len=0
  ·subst h0;have:l= []:=List.eq_nil_of_length_eq_zero hlen;subst this;obtain⟨rfl,rfl⟩:=ha;exact⟨[],[],⟨some a,0,cap,rfl,rfl,Nat.zero_le _,hm,[],[],[],⟨by simp,.inl ⟨rfl,rfl⟩⟩,⟨rfl,rfl⟩,rfl⟩,by simp⟩
  ·have hpos:0<xs.length:=by rw[hxl,hlen];exact Nat.mul_pos (by omega) hk
   have h00:=hc 0 xs[0] (List.getElem?_eq_getElem hpos);have ha0:a.add 0=a:=by simp[Addr.add]
   rw[ha0] at h00;obtain⟨b,o,s⟩:=a;have hs:s=none:=spot_none h00;subst hs;refine⟨l,[b]++fp,⟨_,len,cap,rfl,hlen.symm,hl,hm,xs,[b],fp,⟨by rw[hxl,hlen],.inr ⟨by omega,b,o,rfl,rfl,World.block_lt_of_cell? w _ h00,fun j u hu=> ?_⟩⟩,ha,rfl⟩,hok⟩;have:=hc j u hu;rwa [Addr.add_lit] at this
theorem post_of_below {f:Func} {s:ChangeSpec} {apart fresh handsOn again:Bool} {W W':World} {args:Array Value} {v:Value} {ds gs:List (DataW H)} {before pa pv:List MemPlace}
  (hW:DataW.Whole enc P f.params.toList s.vars apart W args.toList ds gs before)
  (hres: ∀(b:Nat) (sp:Nat→Bool) (hd:Bool),DataW.TrodAll enc P W' b sp hd f.resultTypes.toList (v.resultList f.resultTypes.size) (s.fn H (ds++gs)).results [])
  (hargs: ∀sp:Nat→Bool,(∀p∈before,sp p.block=true)→DataW.TrodAll enc P W' 0 sp true f.params.toList args.toList (s.fn H (ds++gs)).args pa)
  (hvars: ∀sp:Nat→Bool,(∀p∈before,sp p.block=true)→DataW.TrodVars enc P W' sp s.vars (s.fn H (ds++gs)).vars pv)
  (hps:before=pa++pv) (hb:Below W.heap.size W W')
  (hok: ∀(j:Nat) (t:TypeId) (r:Value),f.resultTypes[j]? =some t→(v.resultList f.resultTypes.size)[j]? =some r→Value.okWide P W' .any 0 t r):
  s.post enc P f apart fresh handsOn again W args v W':=by
 have hlt: ∀p∈before,p.block<W.heap.size:=fun p hp=>hW.lt p hp;have hold: ∀p∈before,(fun b=>decide (b<W.heap.size)) p.block=true:=fun p hp=>by simpa using hlt p hp
 refine⟨ds,gs,before,[],pa,pv,hW,hres _ _ _,hargs _ hold,hvars _ hold,World.keptBut_mono (fun p hp=>⟨hp, ?_⟩) (hb.frame (·∈before)),fun _=> ?_⟩
 ·rw[hps,List.mem_append] at hp;exact Or.inr hp
 ·obtain⟨_,_,_,_,_,hz,hn⟩:=hW;refine⟨hok,_,_,([]++pa)++pv,⟨[]++pa,pv,trodAll_append (hargs _ (fun _ _=>rfl)) (hres _ _ _),hvars _ (fun _ _=>rfl),rfl, ?_, ?_⟩, ?_⟩
  ·intro b off hp;have hin:MemPlace.cell b off∈before:=by rw[hps];simpa using hp
   rw[hb.frozen (hlt _ hin)];exact hz b off hin
  ·intro ha;have:=hn ha;rw[hps] at this;simpa using this
  ·intro p hp _;rw[hps];simpa using hp
end
theorem fnMdlOnce_own:ownKnob Tryz.prog.godebug=none:=by kernel_rfl
theorem fnMdlOnce_laidOut:laidOutB Tryz.prog=true:=by kernel_rfl
theorem fnMdlOnce_contract (H:Type) (enc:TypeId×Value→H) (W:World) (base:Nat) (args:Array Value) (ds gs:List (DataW H)) (before:List MemPlace)
  (hval0: ∀(j:Nat) t v,Tryz.f5.params[j]? =some t→args[j]? =some v→Value.okWide Tryz.prog W .any base t v)
  (hW:DataW.Whole enc Tryz.prog Tryz.f5.params.toList Rows.fnMdlOnceSpec.vars false W args.toList ds gs before):
  Calls Tryz.prog 5 args W fun e W'=>∃v,e= .returned v∧Rows.fnMdlOnceSpec.post enc Tryz.prog Tryz.f5 false true false false W args v W':=by
 have hval:=hval0;have hW':=hW;obtain⟨p,q,hA0,hV,rfl,hfz,hnd⟩:=hW;have hA:DataW.TrodAll enc Tryz.prog W 0 (fun _=>true) true Tryz.f5.params.toList args.toList ds p:=hA0;rw[Tryz.params5] at hA hval;obtain⟨v0,d0,rfl,rfl,h0⟩:=trodAll_one hA;obtain⟨rfl,rfl⟩:=trodVars_none hV;have h0k:=h0;obtain⟨a0,len0,cap0,rfl⟩:=okWide_slice Tryz.underlying22 (hval 0 22 v0 rfl rfl);obtain⟨fuel0,hf0⟩:=h0
 obtain⟨l0,fp0,⟨A0,n0,c0,hcs0,hs0⟩,hw0⟩:=opens_slice Tryz.underlying22 (by kernel_rfl) (by decide) (opens_byte Tryz.underlying5) hf0;have hc0:Value.slice a0 len0 cap0= .slice A0 n0 c0:=by simpa [Value.cells] using hcs0
 rw[hc0] at h0k hW' ⊢;clear hf0 hcs0 hc0;clear hA0 hval hval0;simp only[List.append_nil] at hW';refine(lawOnce W hs0).mono fun e W' ⟨he,hb⟩=> ?_;subst he;have hlt0: ∀y∈p,y.block<W.heap.size:=fun y hy=>hW'.lt y (by simp[hy])
 refine⟨_,rfl,post_of_below (pa:=p) (pv:=[]) hW' (fun _ _ _=>trodAll_mk1 (shut_bool Tryz.underlying4 _)) (fun sp hsp=> ?_) (fun _ _=>rfl) (by simp) hb (ok_one (by kernel_rfl) rfl (okWide_bool_mk Tryz.underlying4 _))⟩;exact trodAll_mk1 (WideElems.Trod_stays fnMdlOnce_laidOut (by kernel_rfl) (of_decide_eq_true (by kernel_rfl)) h0k (fun y hy=>hb.same (hlt0 y hy)) (fun y hy=>hsp y (by simp[hy])))
mutual
def fnMdlOnce_flat:DataW Unit→List Value
 | .lit l=>[l.value]
 | .agg ps=>fnMdlOnce_flats ps
 |_=>[]
def fnMdlOnce_flats:List (DataW Unit)→List Value
 | []=>[]
 |d::r=>fnMdlOnce_flat d++fnMdlOnce_flats r
end
noncomputable def fnMdlOnce_world (os:Os):World:=
 { World.holding Tryz.prog os ⟨#[],#[],[]⟩ with heap:=(((World.holding Tryz.prog os ⟨#[],#[],[]⟩).heap.modify 2 fun
   | .cells _ t frozen=> .cells (fnMdlOnce_flat Rows.laid_unicode_utf8_acceptRanges).toArray t frozen
   |o=>o).modify 1 fun
   | .cells _ t frozen=> .cells (fnMdlOnce_flat Rows.laid_unicode_utf8_first).toArray t frozen
   |o=>o)}
set_option maxRecDepth 100000 in
theorem fnMdlOnce_met (os:Os):laidMet Tryz.prog Rows.fnMdlOnceRow.laid ((fnMdlOnce_world os).forCall (fun _ _=>0) ⟨#[],#[.slice none 0 0],[]⟩).memory:=
 laidMet_of_run' 8 (by kernel_rfl) (by kernel_rfl)
theorem fnMdlOnce_reads (os:Os) {H:Type} (enc:TypeId×Value→H): ∃x,DataW.whole enc Tryz.prog ((fnMdlOnce_world os).forCall (fun _ _=>0) ⟨#[],#[.slice none 0 0],[]⟩).memory Tryz.f5.params.toList Rows.fnMdlOnceSpec.vars false (#[.slice none 0 0]:Array Value).toList 8=some x:=
 Option.isSome_iff_exists.1 (show(DataW.whole enc Tryz.prog ((fnMdlOnce_world os).forCall (fun _ _=>0) ⟨#[],#[.slice none 0 0],[]⟩).memory Tryz.f5.params.toList Rows.fnMdlOnceSpec.vars false (#[.slice none 0 0]:Array Value).toList 8).isSome=true by kernel_rfl)
theorem fnMdlOnce_lifted (os:Os) (started:os.Started) (H:Type) (enc:TypeId×Value→H) (F:Stop.Interp):
  ReturnsInHanded {} Tryz.checked os 5 .any ((OpenSpec.ofChange Rows.fnMdlOnceSpec).preRow enc Tryz.prog Tryz.f5 Rows.fnMdlOnceRow.domain false Rows.fnMdlOnceRow.laid) (((OpenSpec.ofChange Rows.fnMdlOnceSpec).at F).post enc Tryz.prog Tryz.f5 false true false false):=by
 obtain⟨x0,hx⟩:=fnMdlOnce_reads os enc;refine returnsInHanded_of_row (C:=Tryz.checked) (s:=OpenSpec.ofChange Rows.fnMdlOnceSpec) fnMdlOnce_own started (by kernel_rfl) Tryz.func5
  (witness_row_at (enc:=enc) (C:=Tryz.checked) false (fnMdlOnce_world os) #[.slice none 0 0] rfl (by kernel_rfl) (by kernel_rfl) (by kernel_rfl)
   (OpenSpec.preRow_of_cond 8 hx (by kernel_rfl) (fun k hk=>by cases hk) (by kernel_rfl) (fnMdlOnce_met os))) ?_
 intro W base args ds gs before hval hW _ _ _ _ _ _;exact fnMdlOnce_contract H enc W base args ds gs before hval hW
theorem fnMdlOnce_closed:joinedFacts Tryz.pinned.checked.prog 5 Tryz.f5 (OpenSpec.ofChange Rows.fnMdlOnceSpec).bare Rows.fnMdlOnceRow=true:=by
 unfold joinedFacts;simp only[Bool.and_eq_true]
 repeat' apply And.intro
 all_goals(as_aux_lemma=>kernel_rfl)
theorem fnMdlOnce_said:Rows.FnMdlOnceSaid:=
 OpenClaim.holds_of_cond 5 Tryz.f5 rfl rfl rfl rfl rfl rfl rfl ⟨rfl,rfl,rfl,rfl,rfl⟩ rfl rfl rfl rfl rfl (by kernel_rfl) Tryz.func5 fnMdlOnce_closed
  (of_decide_eq_true (by kernel_rfl)) (by unfold Func.isWrapper;first|(rw[if_pos (by decide+kernel)];kernel_rfl)|(rw[if_neg (by decide+kernel)];exact⟨rfl,rfl⟩))
  (fun os started H enc _ F=>by rw[OpenClaim.pre_eq_preRow];exact fnMdlOnce_lifted os started H enc F)
theorem fnMdlOnce_plain (f:FuncId) (fn:Func) (hf:Tryz.pinned.checked.prog.funcNamed "loop.example/chartulary/laws.FnMdlOnce" =some f) (hfn:Tryz.pinned.checked.prog.funcs[f]? =some fn):
  false=Tryz.pinned.checked.prog.looks []∧∀(j:Nat) t,fn.params[j]? =some t→Tryz.pinned.checked.prog.wantsStandIn t=false:=by
 obtain rfl:f=5:=Option.some.inj ((show Tryz.prog.funcNamed "loop.example/chartulary/laws.FnMdlOnce" =some 5 by kernel_rfl).symm.trans hf) |>.symm;obtain rfl:fn=Tryz.f5:=(Option.some.inj (Tryz.func5.symm.trans hfn)).symm;refine⟨by kernel_rfl,fun j t ht=> ?_⟩;rw[Tryz.params5] at ht;have hm:=Array.mem_of_getElem? ht;simp only[List.mem_toArray,List.mem_cons,List.not_mem_nil,or_false] at hm
 rcases hm with rfl
 ·exact(show Tryz.prog.wantsStandIn 22=false by kernel_rfl)
theorem fnMdlOnce_holds:Rows.FnMdlOnceCardSaid:=
 Claim7.holds_tied_plain_at .later [] _ _ _ _ fnMdlOnce_said (fun _ h=>by cases h) (by kernel_rfl) (fun _ h=>by cases h) fnMdlOnce_row_tie rfl ⟨rfl,rfl⟩ (by kernel_rfl) rfl fnMdlOnce_plain (by kernel_rfl)
#print axioms fnMdlOnce_holds
end Go.Proofs.YtlkoaobaoffpaaaGreatDoor
