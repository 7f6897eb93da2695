/- FnMdlRefs: for every input the law answers true and leaves its arguments as they were. Conditions: the listed library tables read as the tie says. -/
import Derived.ProofKit
import Derived.Deep.Slices
import Derived.Deep.Fields
import Derived.WalkKit
import Derived.OpenShut
import Derived.ChangeMaps5
import Derived.Deep.DeepHandedRow
import Derived.Lib.LaidTab
import Derived.SevenTiedAt
import Derived.Test.YtheifkmggcenpaaGreatDoorZ34
import Derived.Test.YtheifkmggcenpaaGreatDoorZ29
import Derived.Test.YtheifkmggcenpaaGreatDoorZ23
import Derived.Test.YtheifkmggcenpaaGreatDoorZ8
import Derived.Test.YtheifkmggcenpaaGreatDoorZ35
import Derived.Test.YtheifkmggcenpaaGreatDoorZ1
import Derived.Test.YtheifkmggcenpaaGreatDoorCards
import Derived.Test.YtheifkmggcenpaaGreatDoorTie
namespace Go.Proofs.YtheifkmggcenpaaGreatDoor
open Go.RowKit
attribute [local go_sem ↓] Go.wp_at_zero Go.wp_at_succ
open Go.ChangeShapes Go.WideShapes Go.ChangeAt Go.RowKit Go.Deep
set_option maxHeartbeats 8000000
set_option maxRecDepth 100000
set_option linter.unusedSimpArgs false
set_option linter.unusedVariables false
theorem QB.cells {w:World} {g:Nat} {q:Req} {E:Value} (h:QB w g q E):w.cell? ⟨g,0,none⟩=some (.int .i64 q.user)∧w.cell? ⟨g,1,none⟩=some (.int .i64 q.key)∧w.cell? ⟨g,2,none⟩=some (.int .i64 q.repo)∧w.cell? ⟨g,3,none⟩=some (.int .i64 q.kind)∧w.cell? ⟨g,4,none⟩=some (.string q.ref)∧w.cell? ⟨g,5,none⟩=some (.string q.path)∧w.cell? ⟨g,6,none⟩=some (.int .i64 q.old)∧w.cell? ⟨g,7,none⟩=some (.int .i64 q.back)∧w.cell? ⟨g,8,none⟩=some E∧w.cell? ⟨g,9,none⟩=some (.int .i64 q.rule.user)∧w.cell? ⟨g,10,none⟩=some (.string q.rule.ref)∧w.cell? ⟨g,11,none⟩=some (.string q.rule.path)∧w.cell? ⟨g,12,none⟩=some (.bool q.rule.write)∧w.cell? ⟨g,13,none⟩=some (.int .i64 q.frm)∧w.cell? ⟨g,14,none⟩=some (.string q.other):=
 ⟨h.k.cell 0,h.k.cell 1,h.k.cell 2,h.k.cell 3,h.k.cell 4,h.k.cell 5,h.k.cell 6,h.k.cell 7,h.k.cell 8,h.k.cell 9,h.k.cell 10,h.k.cell 11,h.k.cell 12,h.k.cell 13,h.k.cell 14⟩
theorem req_with {w:World} {q q':Req} {E:Value} {f:List Nat} (h:Rp.req.R w (V5 q E).toList q f) (he:q'.Ez=q.Ez):Rp.req.R w (V5 q' E).toList q' f:=by
 obtain⟨A0,n0,c0,f0,e,hf,h1⟩:=h;have:E= .slice A0 n0 c0:=by
  have:=congrArg (fun l=>l[8]?) e;simpa [V5] using this
 subst this;exact⟨A0,n0,c0,f0,rfl,hf,he▸h1⟩
theorem fit_with {q q':Req} (h:jdu q) (h1:q'.ref=q.ref) (h2:q'.other=q.other) (h3:q'.path=q.path) (h4:q'.rule=q.rule) (h5:q'.Ez=q.Ez):jdu q':=
 ⟨by rw[h1];exact h.ref,by rw[h2];exact h.other,by rw[h3];exact h.path,by rw[h4];exact h.rule,by rw[h5];exact h.Ez⟩
theorem untold {m:Jl} {r:Req} (h:(jai m r).2.code≠1):(jai m r).2.names= []∧(jai m r).2.files= []:=by
 unfold jai at h ⊢;split
 ·rename_i hk
  rw[if_pos hk] at h;have hl: ∀p,(look p r).code≠1→(look p r).names= []∧(look p r).files= []:=fun p hp=>by
   unfold look at hp ⊢
   repeat' split
   all_goals first|exact⟨rfl,rfl⟩|simp_all
  unfold Zn at h ⊢;split
  ·split
   ·simp
   ·split
    ·simp[code]
    ·rename_i hkn h11 x p hp
     split
     ·rename_i h2
      rw[if_pos hkn,if_neg h11,hp] at h;simp only[h2,if_true] at h;exact hl p h
     ·split
      ·rename_i h2 h3
       rw[if_pos hkn,if_neg h11,hp] at h;simp[h3,jad] at h
      ·split
       ·simp[code]
       ·split<;>simp[code]
  ·simp[code]
 ·simp
theorem told_refs {m:Jl} {r:Req} (h3:r.kind=3) (hc:(jai m r).2.code=1):Ys m=true∧Yw r=true∧∃p,m.Rz[r.repo.toNat]? =some p∧(jai m r).2=jad p r:=by
 unfold jai at hc ⊢;split
 ·rename_i hk
  rw[if_pos hk] at hc;refine⟨hk.1,hk.2, ?_⟩;unfold Zn at hc ⊢;split
  ·rename_i hkn
   rw[if_pos hkn,if_neg (by omega)] at hc;rw[if_neg (by omega)];cases hp:m.Rz[r.repo.toNat]? with
   |none=>rw[hp] at hc;simp[code] at hc
   |some p=>exact⟨p,rfl,by simp[h3]⟩
  ·rename_i hkn
   rw[if_neg hkn] at hc;simp[code] at hc
 ·rename_i hk;rw[if_neg hk] at hc;simp at hc
theorem repo_of {m:Jl} (hm:Ys m=true) {i:Nat} {p:Xq} (hp:m.Rz[i]? =some p):repoOk m.keys.length p=true:=(Jo.1 hm).2.2 p (List.mem_of_getElem? hp)
theorem lawRefs (w:World) {A:Option Addr} {n c:Nat} {code:List UInt8} {fp:List Nat} (hx:SlR Rp.byte w A n c code fp):
  Calls Tryz.prog 6 #[.slice A n c] w fun e w'=>e= .returned (.bool true)∧Below w.heap.size w w':=by
 obtain⟨rfl,hcx,hmx, -⟩:=id hx;unfold maxLen at hmx;go_enter Tryz.func6,Tryz.ntmps6;by_cases hlen:(1048576:Int)<(code.length:Int)
 ·go_wp2;go_ret;exact⟨rfl,Below.refl _ _⟩
 go_wp2_with fail;refine(jp5 _ hx).mono ?_;rintro e w1 ⟨m,p,A0,n0,c0,A1,n1,c1,A2,n2,c2,A3,c3,f,fq,rfl,hR,hQ,hok,hsm, -, -,HB⟩;clear hx;obtain rfl:n2=m.Rz.length:=by
  obtain⟨_,_,_,_,_,_,_,_,_,_,_,_,he, -, -, -,h2⟩:=hR;cases he;exact h2.1
 go_upto_region 5 with fail
 refine wp_HQ (q:= { p with kind:=3}) ⟨_,hR⟩ ⟨_,req_with hQ rfl⟩ ?_;intro w2 hm hq hb3;have hfq:jdu { p with kind:=3} :=fit_with (jo1 hsm) rfl rfl rfl rfl rfl;have hk0:({ p with kind:=3} :Req).kind=3:=rfl;generalize({ p with kind:=3} :Req)=q at hq hfq hk0;replace HB:=Below.t HB hb3;have hf:=Ja (And.intro hok.1 hfq);have HK0:=Ja hk0;clear hR hQ hb3 hok hsm hfq hk0
 obtain⟨x,a,ho⟩: ∃x a,jai m q=(x,a):=⟨_,_,rfl⟩;have HO:=Ja ho;clear ho;obtain⟨x0,x1,x2⟩:=hm.cells;go_wp2_with((refine wpList_load_row rfl 31 (.tmp 4) rfl _ rfl _ _ _ _ hq.k.out Tryz.underlying31 rfl jb3 ?_));go_wp2_with fail;refine(implDo hm hq hf.out.1 hf.out.2).mono ?_;rintro e w3 hd;obtain⟨A4,na4,ca4,A5,na5,ca5,A6,ca6,B0,nb0,cb0,B1,nb1,cb1,rfl,hX,hA,hb3⟩:=hd.parts HO.out
 replace hm:=hm.step hb3;replace hq:=hq.step hb3;replace HB:=Below.t HB hb3;clear hb3 hd x0 x1 x2;go_upto_region 6 with fail
 refine wp_HA hX hA ?_;intro w4 hx ha hb3;replace hm:=hm.step hb3;replace hq:=hq.step hb3;replace HB:=Below.t HB hb3;clear hb3 hX hA;obtain⟨x0,x1,x2⟩:=hm.cells;go_wp2_with((refine wpList_load_row rfl 31 (.tmp 4) rfl _ rfl _ _ _ _ hq.k.out Tryz.underlying31 rfl jb3 ?_));go_wp2_with fail;refine(specDo hm hq hf.out.1 hf.out.2).mono ?_;rintro e w5 hd
 obtain⟨A7,na7,ca7,A8,na8,ca8,A9,ca9,B2,nb2,cb2,B3,nb3,cb3,rfl,hX,hA,hb3⟩:=hd.parts HO.out;replace hm:=hm.step hb3;replace hq:=hq.step hb3;replace HB:=Below.t HB hb3;replace hx:=hx.step hb3;replace ha:=ha.step hb3;clear hb3 hd x0 x1 x2;go_upto_region 7 with fail
 refine wp_HA hX hA ?_;intro w6 hy hb hb3;replace hm:=hm.step hb3;replace hq:=hq.step hb3;replace HB:=Below.t HB hb3;replace hx:=hx.step hb3;replace ha:=ha.step hb3;clear hb3 hX hA;obtain⟨x0,x1,x2,x3⟩:=ha.cells;obtain⟨y0,y1,y2,y3⟩:=hb.cells;go_wp2_with fail;refine(jp8 ha hb).mono ?_;rintro e w7 ⟨rfl,hb3⟩;replace hm:=hm.step hb3;replace hq:=hq.step hb3;replace HB:=Below.t HB hb3
 replace hx:=hx.step hb3;replace ha:=ha.step hb3;clear hb3 x0 x1 x2 x3 y0 y1 y2 y3 hy hb;obtain⟨a0, -, -, -⟩:=ha.cells;cases e1:(a.code !=1);rotate_left
 ·have HU:=Ja (untold (m:=m) (r:=q) (by rw[HO.out];simpa using e1));rw[HO.out] at HU;obtain⟨fn,hnm⟩:=ha.names;obtain⟨ff,hfl⟩:=ha.files;obtain rfl:nb1=0:=by rw[hnm.1,HU.out.1];rfl
  obtain rfl:nb0=0:=by rw[hfl.1,HU.out.2];rfl
  obtain⟨-,a1,a2, -⟩:=ha.cells;go_wp2_with fail;refine(chOk_any _).mono ?_;rintro e w20 ⟨rfl,hb4⟩;go_wp2;go_ret;exact⟨rfl,Below.t HB hb4⟩
 obtain⟨hmo,hro,p',hp,hpa⟩:=told_refs (m:=m) HK0.out (by rw[HO.out];simpa using e1);rw[HO.out] at hpa;have HPA:=Ja hpa;obtain⟨i,hi⟩: ∃i:Nat,q.repo=(i:Int):=⟨q.repo.toNat,by have:=(jmn hro).2.1.1;omega⟩;rw[hi,Int.toNat_natCast] at hp;obtain⟨hil,rfl⟩:=List.getElem?_eq_some_iff.1 hp;have HI:=Ja hi;have HRL:=Ja (hf.out.1 i hil).Uz
 have HNR:=Ja (show m.Rz[i].Fz.length≤3 from(RepoFit.of (repo_of hmo hp)).nrefs);clear hp hi hpa hmo hro;obtain⟨-, -,m2⟩:=hm.cells;obtain⟨fr,hr⟩:=hm.Rz;obtain⟨-,hcr,hmr, -⟩:=id hr;unfold maxLen at hmr;obtain⟨b,o,D1,l1,d1,f1,D2,l2,d2,f2,rfl, -, -, -,p1,p2,s1,s2, -⟩:=J7 hr hil;obtain rfl:=s2.1;obtain⟨q0, -,q2, -⟩:=hq.cells;rw[HI.out] at q2;have i0:(0:Int)≤(i:Int):=by omega
 have i1:(i:Int)<(m.Rz.length:Int):=by omega
 obtain⟨ii,hi0,hz0,hz1,hz2⟩:=info_parts jje;have HM2:=Ja (World.ownsRow_made (base:=w7.heap.size) (e:=9) (size:=1) w7 #[] 0 nle (by simp[maxLen]) rfl);have HBB:=Ja ((Below.refl w7.heap.size w7).alloc nle (.cells #[] 9));have hnr:=HNR.out;go_wp2_with fail
 go_loopw [9,10] (fun v iv wz=>∃k:Nat,k≤m.Rz[i].Fz.length∧iv= .int .i64 k∧wz.ownsRow w7.heap.size 9 1 v (jfj m.Rz[i] q k).length ((jfj m.Rz[i] q k).flatMap fun s=>[.string s])∧Below w7.heap.size w7 wz) (fun _ iv _=>m.Rz[i].Fz.length - (intOf iv).toNat)
 case atStart=>exact⟨0,Nat.zero_le _,rfl,HM2.out,HBB.out⟩
 case round=>
  obtain⟨k,hk,rfl,hown,hbl⟩:=hrel;have HOWN:=Ja hown;clear hown;replace m2:=Je m2 hbl;replace p1:=Je p1 hbl;replace p2:=Je p2 hbl;replace q0:=Je q0 hbl;replace q2:=Je q2 hbl;have HLE:=Ja (jn7 m.Rz[i] q k);have j0:(0:Int)≤(k:Int):=by omega
  by_cases hlt:k<m.Rz[i].Fz.length
  ·have j1:(k:Int)<(m.Rz[i].Fz.length:Int):=by omega
   obtain⟨bR,oR,B9,m9,d9,g9,rfl, -, -,t0, -, -, -, -, -⟩:=J3 (s2.step hbl) hlt;have HY:=Ja (fun(h:Wt m.Rz[i].Uz q.user m.Rz[i].Fz[k].name=true)=>jlt hlt h);have HN:=Ja (fun(h:Wt m.Rz[i].Uz q.user m.Rz[i].Fz[k].name=false)=>jn6 hlt h);have s1':=s1.step hbl
   have C1:=fun(n:BelowW wr)=>jb8 q.user m.Rz[i].Fz[k].name _ (BelowW.sl n s1') HRL.out;have tt:=t0;have pp:=p2;have mm:=m2;have qq:=q2;go_upto_region 15 with fail
   cases hd:Wt m.Rz[i].Uz q.user m.Rz[i].Fz[k].name
   all_goals
    simp only[hd] at C1;have D1:=Ja C1;have HD0:=Ja hd;clear C1 hd;have n0:=BelowW.nonempty wr;have ex0:=BelowW.ex (w:=wr);have g0:=fun n:BelowW wr=>n.cell m2;have g1:=fun n:BelowW wr=>n.cell p1;have g2:=fun n:BelowW wr=>n.cell p2;have g3:=fun n:BelowW wr=>n.cell q0;have g4:=fun n:BelowW wr=>n.cell q2;have g5:=fun n:BelowW wr=>n.cell t0;clear m2 p1 p2 q0 q2 t0
    refine Jf (by kernel_rfl) (by kernel_rfl) ?_
    repeat(go_big_quiet_step(first|(go_at_call 35;exact BelowW.calls _ (D1.out _))))
    refine wpQuiet_nil ?_;rintro w9 ⟨m9,hw9⟩;have hb9:=m9.property;rw[←hw9] at hb9;clear hw9 m9
   ·have HE1:=Ja (HN.out HD0.out);have HO9:=Ja (Yx HOWN.out hb9);go_wp2_with fail;refine⟨⟨k+1,by omega,by go_num, ?_,Below.t hbl hb9⟩,by simp[intOf];omega⟩;rw[HE1.out];exact HO9.out
   ·have HE1:=Ja (HY.out HD0.out);have HO9:=Ja (Yx HOWN.out hb9);have HB9:=Ja (Below.t hbl hb9);replace tt:=Je tt hb9;replace pp:=Je pp hb9;replace mm:=Je mm hb9;replace qq:=Je qq hb9;have hle:=HLE.out;clear hb9 hbl
    go_wp2_with(at_builtin;refine wpList_append_own _ rfl _ _ 35 rfl w7.heap.size 9 ii _ 1 16 Tryz.underlying35 hi0 hz0 hz1 hz2 rfl (by decide) _ _ _ rfl (HO9.out.alloc _) ⟨w9.heap.size,0,none⟩ 1 1 [.string m.Rz[i].Fz[k].name] rfl rfl (Jm _ [.string m.Rz[i].Fz[k].name] _) (by intro u hu;simp at hu;subst hu;rfl) (by unfold maxLen;omega) (by omega) (by have:=HB9.out.size;simp;omega) ?_)
    intro v' w5 hown' hgrow _;have HO:=Ja hown';have HB7:=Ja ((HB9.out.alloc HB9.out.size _).grown hgrow (by have:=HB9.out.size;simp;omega) (fun z hz=>(HO9.out.lt z hz).1));clear hown' hgrow;go_wp2_with fail;refine⟨⟨k+1,by omega,by go_num, ?_,HB7.out⟩,by simp[intOf];omega⟩;rw[HE1.out,List.length_append,List.flatMap_append,List.flatMap_singleton];exact HO.out
  ·obtain rfl:k=m.Rz[i].Fz.length:=by omega
   obtain⟨AN,cN,fN,rfl,hsN, -, -, -⟩:=Xw (k:=1) (enc:=fun s=>[Value.string s]) (hk:=fun _=>rfl) (h1:=fun x u hu=>by simp at hu;subst hu;rfl) HOWN.out;replace ha:=ha.step hbl;replace HB:=Below.t HB hbl;have HEA:=Ja (HPA.out.trans (jlu m.Rz[i] q));obtain⟨fn,hnm⟩:=ha.names;obtain⟨ff,hfl⟩:=ha.files;obtain rfl:nb0=0:=by rw[hfl.1,HEA.out];rfl
   have HD:=Ja (show decide (jfj m.Rz[i] q m.Rz[i].Fz.length=a.names)=true from by rw[HEA.out];simp);obtain⟨-,b1,b2,b3⟩:=ha.cells;rw[show a.n=0 by rw[HEA.out]] at b3;go_wp2_with fail;refine(jng _ hsN hnm).mono ?_;rintro e w20 ⟨rfl,hb4⟩;rw[HD.out];replace b1:=Je b1 hb4;replace b3:=Je b3 hb4;go_wp2;go_ret;exact⟨rfl,Below.t HB hb4⟩
def Opens {α H:Type} (enc:TypeId×Value→H) (P:Program) (t:TypeId) (r:Rp α) (ok:α→Prop):Prop:=
 ∀ {w:World} {base:Nat} {spare:Nat→Bool} {held:Bool} {fuel:Nat} {cs:List Value} {x:DataW H×List MemPlace},DataW.trod enc P w base spare held fuel t cs=some x→∃y fp,r.R w cs y fp∧ok y
section
variable {H:Type} {enc:TypeId×Value→H} {P:Program}
theorem opens_byte {t:TypeId} (ht:P.underlying t=some (.int .u8)):Opens enc P t Rp.byte (fun _=>True):=fun h=>by
 obtain⟨n,rfl,_,hw⟩:=DataW.trod_int ht h;simp[Lit.wf,IntKind.min,IntKind.max,IntKind.signed,IntKind.bits] at hw;refine⟨UInt8.ofNat n.toNat,[],⟨?_,rfl⟩,trivial⟩;have e:((UInt8.ofNat n.toNat).toNat:Int)=n:=by
  rw[UInt8.toNat_ofNat'];omega
 show [Value.int .u8 n]= [Value.int .u8 ((UInt8.ofNat n.toNat).toNat:Int)];rw[e]
theorem spot_none {w:World} {a:Addr} {v:Value} (h:w.cell? a=some v):a.spot=none:=by
 unfold World.cell? at h;split at h
 ·split at h
  ·cases h
  ·rename_i hs;simpa using hs
 ·cases h
theorem opens_rows {α:Type} {r:Rp α} {ok:α→Prop} {w:World} {base:Nat} {a:Addr} : ∀(len:Nat),(∀i,i<len→∃cs' y f,w.cells? base (a.add (i*r.k)) r.k=some cs'∧r.R w cs' y f∧ok y)→
  ∃xs l fp,l.length=len∧AllR r w xs l fp∧(∀y∈l,ok y)∧∀j u,xs[j]? =some u→w.cell? (a.add j)=some u
 | 0,_=>⟨[],[],[],rfl,⟨rfl,rfl⟩,by simp,by simp⟩
 |len+1,h=>by
  obtain⟨xs,l,fp,hl,ha,hok,hc⟩:=opens_rows len (fun i hi=>h i (by omega));obtain⟨cs',y,f,hcs,hr,hy⟩:=h len (by omega);obtain⟨_,hcl,hat⟩:=World.cells?_some hcs;have hxl:=ha.len;refine⟨xs++cs',l++ [y],fp++f,by simp[hl],ha.snoc hr,fun z hz=> ?_,fun j u hu=> ?_⟩
  ·rcases List.mem_append.1 hz with hz|hz
   ·exact hok z hz
   ·simp at hz;subst hz;exact hy
  ·by_cases hj:j<xs.length
   ·rw[List.getElem?_append_left hj] at hu;exact hc j u hu
   ·rw[List.getElem?_append_right (by omega)] at hu;have hlt:=(List.getElem?_eq_some_iff.1 hu).1;have:=hat (i:=j - xs.length) (by omega);rw[hu] at this;rw[Go.Deep.add_add,show len*r.k+(j - xs.length)=j from by rw[hl] at hxl;omega] at this;exact this
theorem opens_slice {α:Type} {r:Rp α} {ok:α→Prop} {t e:TypeId} (ht:P.underlying t=some (.slice e)) (hC:P.cellsOf e=r.k) (hk:0<r.k) (h:Opens enc P e r ok):Opens enc P t (Rp.slice r) (fun l=>∀y∈l,ok y):=fun {w base spare held fuel cs x} hr=>by
 rcases open_slice ht hr with ⟨rfl,_⟩|⟨a,len,cap,m,n,D,Pl,rfl,hb,hl,hm,hmm,_,hi⟩
 ·exact⟨[],[],⟨none,0,0,rfl,SlR.nil⟩,by simp⟩
 ·have hle:len≤m:=by rw[hmm];split<;>omega
  rw[hC] at hi;obtain⟨xs,l,fp,hlen,ha,hok,hc⟩:=opens_rows (r:=r) (ok:=ok) (w:=w) (base:=base) (a:=a) len (fun i hii=>by
   obtain⟨cs',hcs,htr⟩:=hi i (by omega);obtain⟨y,f,hR,hy⟩:=h htr;exact⟨cs',y,f,hcs,hR,hy⟩)
  have hxl:=ha.len;by_cases h0:len=0
  ·subst h0;have:l= []:=List.eq_nil_of_length_eq_zero hlen;subst this;obtain⟨rfl,rfl⟩:=ha;exact⟨[],[],⟨some a,0,cap,rfl,rfl,Nat.zero_le _,hm,[],[],[],⟨by simp,.inl ⟨rfl,rfl⟩⟩,⟨rfl,rfl⟩,rfl⟩,by simp⟩
  ·have hpos:0<xs.length:=by rw[hxl,hlen];exact Nat.mul_pos (by omega) hk
   have h00:=hc 0 xs[0] (List.getElem?_eq_getElem hpos);have ha0:a.add 0=a:=by simp[Addr.add]
   rw[ha0] at h00;obtain⟨b,o,s⟩:=a;have hs:s=none:=spot_none h00;subst hs;refine⟨l,[b]++fp,⟨_,len,cap,rfl,hlen.symm,hl,hm,xs,[b],fp,⟨by rw[hxl,hlen],.inr ⟨by omega,b,o,rfl,rfl,World.block_lt_of_cell? w _ h00,fun j u hu=> ?_⟩⟩,ha,rfl⟩,hok⟩;have:=hc j u hu;rwa [Addr.add_lit] at this
theorem post_of_below {f:Func} {s:ChangeSpec} {apart fresh handsOn again:Bool} {W W':World} {args:Array Value} {v:Value} {ds gs:List (DataW H)} {before pa pv:List MemPlace}
  (hW:DataW.Whole enc P f.params.toList s.vars apart W args.toList ds gs before)
  (hres: ∀(b:Nat) (sp:Nat→Bool) (hd:Bool),DataW.TrodAll enc P W' b sp hd f.resultTypes.toList (v.resultList f.resultTypes.size) (s.fn H (ds++gs)).results [])
  (hargs: ∀sp:Nat→Bool,(∀p∈before,sp p.block=true)→DataW.TrodAll enc P W' 0 sp true f.params.toList args.toList (s.fn H (ds++gs)).args pa)
  (hvars: ∀sp:Nat→Bool,(∀p∈before,sp p.block=true)→DataW.TrodVars enc P W' sp s.vars (s.fn H (ds++gs)).vars pv)
  (hps:before=pa++pv) (hb:Below W.heap.size W W')
  (hok: ∀(j:Nat) (t:TypeId) (r:Value),f.resultTypes[j]? =some t→(v.resultList f.resultTypes.size)[j]? =some r→Value.okWide P W' .any 0 t r):
  s.post enc P f apart fresh handsOn again W args v W':=by
 have hlt: ∀p∈before,p.block<W.heap.size:=fun p hp=>hW.lt p hp;have hold: ∀p∈before,(fun b=>decide (b<W.heap.size)) p.block=true:=fun p hp=>by simpa using hlt p hp
 refine⟨ds,gs,before,[],pa,pv,hW,hres _ _ _,hargs _ hold,hvars _ hold,World.keptBut_mono (fun p hp=>⟨hp, ?_⟩) (hb.frame (·∈before)),fun _=> ?_⟩
 ·rw[hps,List.mem_append] at hp;exact Or.inr hp
 ·obtain⟨_,_,_,_,_,hz,hn⟩:=hW;refine⟨hok,_,_,([]++pa)++pv,⟨[]++pa,pv,trodAll_append (hargs _ (fun _ _=>rfl)) (hres _ _ _),hvars _ (fun _ _=>rfl),rfl, ?_, ?_⟩, ?_⟩
  ·intro b off hp;have hin:MemPlace.cell b off∈before:=by rw[hps];simpa using hp
   rw[hb.frozen (hlt _ hin)];exact hz b off hin
  ·intro ha;have:=hn ha;rw[hps] at this;simpa using this
  ·intro p hp _;rw[hps];simpa using hp
end
theorem fnMdlRefs_own:ownKnob Tryz.prog.godebug=none:=by kernel_rfl
theorem fnMdlRefs_laidOut:laidOutB Tryz.prog=true:=by kernel_rfl
theorem fnMdlRefs_contract (H:Type) (enc:TypeId×Value→H) (W:World) (base:Nat) (args:Array Value) (ds gs:List (DataW H)) (before:List MemPlace)
  (hval0: ∀(j:Nat) t v,Tryz.f6.params[j]? =some t→args[j]? =some v→Value.okWide Tryz.prog W .any base t v)
  (hW:DataW.Whole enc Tryz.prog Tryz.f6.params.toList Rows.fnMdlRefsSpec.vars false W args.toList ds gs before):
  Calls Tryz.prog 6 args W fun e W'=>∃v,e= .returned v∧Rows.fnMdlRefsSpec.post enc Tryz.prog Tryz.f6 false true false false W args v W':=by
 have hval:=hval0;have hW':=hW;obtain⟨p,q,hA0,hV,rfl,hfz,hnd⟩:=hW;have hA:DataW.TrodAll enc Tryz.prog W 0 (fun _=>true) true Tryz.f6.params.toList args.toList ds p:=hA0;rw[Tryz.params6] at hA hval;obtain⟨v0,d0,rfl,rfl,h0⟩:=trodAll_one hA;obtain⟨rfl,rfl⟩:=trodVars_none hV;have h0k:=h0;obtain⟨a0,len0,cap0,rfl⟩:=okWide_slice Tryz.underlying22 (hval 0 22 v0 rfl rfl);obtain⟨fuel0,hf0⟩:=h0
 obtain⟨l0,fp0,⟨A0,n0,c0,hcs0,hs0⟩,hw0⟩:=opens_slice Tryz.underlying22 (by kernel_rfl) (by decide) (opens_byte Tryz.underlying5) hf0;have hc0:Value.slice a0 len0 cap0= .slice A0 n0 c0:=by simpa [Value.cells] using hcs0
 rw[hc0] at h0k hW' ⊢;clear hf0 hcs0 hc0;clear hA0 hval hval0;simp only[List.append_nil] at hW';refine(lawRefs W hs0).mono fun e W' ⟨he,hb⟩=> ?_;subst he;have hlt0: ∀y∈p,y.block<W.heap.size:=fun y hy=>hW'.lt y (by simp[hy])
 refine⟨_,rfl,post_of_below (pa:=p) (pv:=[]) hW' (fun _ _ _=>trodAll_mk1 (shut_bool Tryz.underlying4 _)) (fun sp hsp=> ?_) (fun _ _=>rfl) (by simp) hb (ok_one (by kernel_rfl) rfl (okWide_bool_mk Tryz.underlying4 _))⟩;exact trodAll_mk1 (WideElems.Trod_stays fnMdlRefs_laidOut (by kernel_rfl) (of_decide_eq_true (by kernel_rfl)) h0k (fun y hy=>hb.same (hlt0 y hy)) (fun y hy=>hsp y (by simp[hy])))
mutual
def fnMdlRefs_flat:DataW Unit→List Value
 | .lit l=>[l.value]
 | .agg ps=>fnMdlRefs_flats ps
 |_=>[]
def fnMdlRefs_flats:List (DataW Unit)→List Value
 | []=>[]
 |d::r=>fnMdlRefs_flat d++fnMdlRefs_flats r
end
noncomputable def fnMdlRefs_world (os:Os):World:=
 { World.holding Tryz.prog os ⟨#[],#[],[]⟩ with heap:=(((World.holding Tryz.prog os ⟨#[],#[],[]⟩).heap.modify 2 fun
   | .cells _ t frozen=> .cells (fnMdlRefs_flat Rows.laid_unicode_utf8_acceptRanges).toArray t frozen
   |o=>o).modify 1 fun
   | .cells _ t frozen=> .cells (fnMdlRefs_flat Rows.laid_unicode_utf8_first).toArray t frozen
   |o=>o)}
set_option maxRecDepth 100000 in
theorem fnMdlRefs_met (os:Os):laidMet Tryz.prog Rows.fnMdlRefsRow.laid ((fnMdlRefs_world os).forCall (fun _ _=>0) ⟨#[],#[.slice none 0 0],[]⟩).memory:=
 laidMet_of_run' 8 (by kernel_rfl) (by kernel_rfl)
theorem fnMdlRefs_reads (os:Os) {H:Type} (enc:TypeId×Value→H): ∃x,DataW.whole enc Tryz.prog ((fnMdlRefs_world os).forCall (fun _ _=>0) ⟨#[],#[.slice none 0 0],[]⟩).memory Tryz.f6.params.toList Rows.fnMdlRefsSpec.vars false (#[.slice none 0 0]:Array Value).toList 8=some x:=
 Option.isSome_iff_exists.1 (show(DataW.whole enc Tryz.prog ((fnMdlRefs_world os).forCall (fun _ _=>0) ⟨#[],#[.slice none 0 0],[]⟩).memory Tryz.f6.params.toList Rows.fnMdlRefsSpec.vars false (#[.slice none 0 0]:Array Value).toList 8).isSome=true by kernel_rfl)
theorem fnMdlRefs_lifted (os:Os) (started:os.Started) (H:Type) (enc:TypeId×Value→H) (F:Stop.Interp):
  ReturnsInHanded {} Tryz.checked os 6 .any ((OpenSpec.ofChange Rows.fnMdlRefsSpec).preRow enc Tryz.prog Tryz.f6 Rows.fnMdlRefsRow.domain false Rows.fnMdlRefsRow.laid) (((OpenSpec.ofChange Rows.fnMdlRefsSpec).at F).post enc Tryz.prog Tryz.f6 false true false false):=by
 obtain⟨x0,hx⟩:=fnMdlRefs_reads os enc;refine returnsInHanded_of_row (C:=Tryz.checked) (s:=OpenSpec.ofChange Rows.fnMdlRefsSpec) fnMdlRefs_own started (by kernel_rfl) Tryz.func6
  (witness_row_at (enc:=enc) (C:=Tryz.checked) false (fnMdlRefs_world os) #[.slice none 0 0] rfl (by kernel_rfl) (by kernel_rfl) (by kernel_rfl)
   (OpenSpec.preRow_of_cond 8 hx (by kernel_rfl) (fun k hk=>by cases hk) (by kernel_rfl) (fnMdlRefs_met os))) ?_
 intro W base args ds gs before hval hW _ _ _ _ _ _;exact fnMdlRefs_contract H enc W base args ds gs before hval hW
theorem fnMdlRefs_closed:joinedFacts Tryz.pinned.checked.prog 6 Tryz.f6 (OpenSpec.ofChange Rows.fnMdlRefsSpec).bare Rows.fnMdlRefsRow=true:=by
 unfold joinedFacts;simp only[Bool.and_eq_true]
 repeat' apply And.intro
 all_goals(as_aux_lemma=>kernel_rfl)
theorem fnMdlRefs_said:Rows.FnMdlRefsSaid:=
 OpenClaim.holds_of_cond 6 Tryz.f6 rfl rfl rfl rfl rfl rfl rfl ⟨rfl,rfl,rfl,rfl,rfl⟩ rfl rfl rfl rfl rfl (by kernel_rfl) Tryz.func6 fnMdlRefs_closed
  (of_decide_eq_true (by kernel_rfl)) (by unfold Func.isWrapper;first|(rw[if_pos (by decide+kernel)];kernel_rfl)|(rw[if_neg (by decide+kernel)];exact⟨rfl,rfl⟩))
  (fun os started H enc _ F=>by rw[OpenClaim.pre_eq_preRow];exact fnMdlRefs_lifted os started H enc F)
theorem fnMdlRefs_plain (f:FuncId) (fn:Func) (hf:Tryz.pinned.checked.prog.funcNamed "loop.example/chartulary/laws.FnMdlRefs" =some f) (hfn:Tryz.pinned.checked.prog.funcs[f]? =some fn):
  false=Tryz.pinned.checked.prog.looks []∧∀(j:Nat) t,fn.params[j]? =some t→Tryz.pinned.checked.prog.wantsStandIn t=false:=by
 obtain rfl:f=6:=Option.some.inj ((show Tryz.prog.funcNamed "loop.example/chartulary/laws.FnMdlRefs" =some 6 by kernel_rfl).symm.trans hf) |>.symm;obtain rfl:fn=Tryz.f6:=(Option.some.inj (Tryz.func6.symm.trans hfn)).symm;refine⟨by kernel_rfl,fun j t ht=> ?_⟩;rw[Tryz.params6] at ht;have hm:=Array.mem_of_getElem? ht;simp only[List.mem_toArray,List.mem_cons,List.not_mem_nil,or_false] at hm
 rcases hm with rfl
 ·exact(show Tryz.prog.wantsStandIn 22=false by kernel_rfl)
theorem fnMdlRefs_holds:Rows.FnMdlRefsCardSaid:=
 Claim7.holds_tied_plain_at .later [] _ _ _ _ fnMdlRefs_said (fun _ h=>by cases h) (by kernel_rfl) (fun _ h=>by cases h) fnMdlRefs_row_tie rfl ⟨rfl,rfl⟩ (by kernel_rfl) rfl fnMdlRefs_plain (by kernel_rfl)
#print axioms fnMdlRefs_holds
end Go.Proofs.YtheifkmggcenpaaGreatDoor
