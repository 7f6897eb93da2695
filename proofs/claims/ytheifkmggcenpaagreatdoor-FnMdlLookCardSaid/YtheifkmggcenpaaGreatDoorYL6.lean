/- FnMdlLook: for every input the law answers true and leaves its arguments as they were. Conditions: the listed library tables read as the tie says. -/
import Derived.ProofKit
import Derived.Deep.Slices
import Derived.Deep.Fields
import Derived.WalkKit
import Derived.OpenShut
import Derived.ChangeMaps5
import Derived.Deep.DeepHandedRow
import Derived.Lib.LaidTab
import Derived.SevenTiedAt
import Derived.Test.YtheifkmggcenpaaGreatDoorZ1
import Derived.Test.YtheifkmggcenpaaGreatDoorZ2
import Derived.Test.YtheifkmggcenpaaGreatDoorZ3
import Derived.Test.YtheifkmggcenpaaGreatDoorZ6
import Derived.Test.YtheifkmggcenpaaGreatDoorZ7
import Derived.Test.YtheifkmggcenpaaGreatDoorZ8
import Derived.Test.YtheifkmggcenpaaGreatDoorZ34
import Derived.Test.YtheifkmggcenpaaGreatDoorZ29
import Derived.Test.YtheifkmggcenpaaGreatDoorZ23
import Derived.Test.YtheifkmggcenpaaGreatDoorZ35
import Derived.Test.YtheifkmggcenpaaGreatDoorCards
import Derived.Test.YtheifkmggcenpaaGreatDoorTie
namespace Go.Proofs.YtheifkmggcenpaaGreatDoor
open Go.RowKit
attribute [local go_sem ↓] Go.wp_at_zero Go.wp_at_succ
open Go.ChangeShapes Go.WideShapes Go.ChangeAt Go.RowKit Go.Deep
set_option maxHeartbeats 8000000
set_option maxRecDepth 100000
set_option linter.unusedSimpArgs false
set_option linter.unusedVariables false
def zeroRepo:Xq:=⟨0,[],[]⟩
def mdlSees (m:Jl) (user repo:Int) (name:ByteArray) (back:Int):List File:=match mdlFiles m repo name back with
 |none=>[]
 |some l=>readable (m.Rz.getD repo.toNat zeroRepo).Uz user name l
def FilesOwn (w:World) (o:Option (List File)) (e:Ending) (w':World):Prop:=
 ∃v,e= .returned (.tuple #[v,.bool o.isSome])∧w'.ownsRow w.heap.size 65 2 v (o.getD []).length ((o.getD []).flatMap Jj)∧Below w.heap.size w w'
theorem mdlFiles_ok {m:Jl} {repo back:Int} {name:ByteArray} (hm:Ys m=true):mdlFiles m repo name back=Xn m repo name back:=if_pos hm
theorem mdlFiles_no {m:Jl} {repo back:Int} {name:ByteArray} (hm:Ys m=false):mdlFiles m repo name back=none:=if_neg (by simp[hm])
theorem implMdlFiles_any {cs:List Value} {x:Jl} {fx:List Nat} (repo:Int) (name:ByteArray) (back:Int) (hb1:back≤9223372036854775807) (w:World) (hx:Rp.house.R w cs x fx) (hf:V9 x):
  Calls Tryz.prog 28 #[.agg cs.toArray,.int .i64 repo,.string name,.int .i64 back] w (FilesOwn w (mdlFiles x repo name back)):=by
 have hx0:=hx;obtain⟨A0,n0,c0,f0,A1,n1,c1,f1,A2,n2,c2,f2,rfl,hff,h0,h1,h2⟩:=hx;have RH:=Ja (fun(W:World) (hb:Below w.heap.size w W)=>Rp.house.below hx0 hb nle);have HF:=Ja hf;clear hx0 h0 h1 h2 hff hf;have kb:=Blk.new w 26 #[.slice A0 n0 c0,.slice A1 n1 c1,.slice A2 n2 c2];have HB:=(Below.refl w.heap.size w).alloc nle (.cells #[.slice A0 n0 c0,.slice A1 n1 c1,.slice A2 n2 c2] 26)
 go_enter Tryz.func28,Tryz.ntmps28;go_wp2_with fail;refine(jhy (x:=x) _ (RH.out _ HB) HF.out).mono ?_;rintro e w1 ⟨rfl,hb⟩;replace kb:=kb.step hb;replace HB:=Below.t HB hb;clear hb;cases hd:Ys x
 ·have HV:=Ja (mdlFiles_no (repo:=repo) (name:=name) (back:=back) hd);clear hd;go_wp2
  go_ret2
  rw[HV.out];exact⟨_,rfl,World.ownsRow_nil _ _ _ _,HB⟩
 ·have HV:=Ja (mdlFiles_ok (repo:=repo) (name:=name) (back:=back) hd);have HL:=Ja (jk5 (repo:=repo) (name:=name) (back:=back) hd);clear hd;have u0:=Blk.c0 kb;have u1:=Blk.c1 kb;have u2:=Blk.c2 kb;go_wp2_with fail;refine(jo3 (x:=x) repo name back hb1 _ (RH.out _ HB)).mono ?_;rintro e w2 ⟨A4,n4,c4,f4,rfl,hs4,_,hb⟩;replace HB:=Below.t HB hb;clear hb u0 u1 u2 kb;go_wp2_with fail
  refine(Xk _ hs4 (Nat.le_trans HL.out (by decide))).mono ?_;rintro e w3 ⟨v,rfl,hown,hb⟩;have HO:=Ja (Zy hown HB.size);replace HB:=Below.t HB hb;clear hown hb hs4;go_wp2
  go_ret2
  rw[HV.out];exact⟨_,rfl,HO.out,HB⟩
theorem mdlFiles_some {m:Jl} {repo back:Int} {name:ByteArray} {l:List File} (h:mdlFiles m repo name back=some l):Y1 l=true∧∃i:Nat,repo=(i:Int)∧i<m.Rz.length:=by
 cases hm:Ys m
 ·rw[mdlFiles_no hm] at h;cases h
 ·rw[mdlFiles_ok hm] at h;refine⟨jg3 hm h, ?_⟩;cases hd:inB repo 0 ((m.Rz.length:Int) - 1)
  ·rw[jk3 hd] at h;cases h
  ·obtain⟨h1,h2⟩:=jap.1 hd;exact⟨repo.toNat,by omega,by omega⟩
theorem mdlSees_none {m:Jl} {user repo back:Int} {name:ByteArray} (h:mdlFiles m repo name back=none):mdlSees m user repo name back= []:=by
 unfold mdlSees;rw[h]
theorem mdlSees_some {m:Jl} {user back:Int} {i:Nat} {name:ByteArray} {l:List File} (h:mdlFiles m (i:Int) name back=some l) (hi:i<m.Rz.length):mdlSees m user (i:Int) name back=readable m.Rz[i].Uz user name l:=by
 unfold mdlSees;rw[h,Int.toNat_natCast,J4 hi]
theorem implMdlSees_any {cs:List Value} {x:Jl} {fx:List Nat} (user repo:Int) (name:ByteArray) (back:Int) (hb1:back≤9223372036854775807) (w:World) (hx:Rp.house.R w cs x fx) (hf:V9 x):
  Calls Tryz.prog 31 #[.agg cs.toArray,.int .i64 user,.int .i64 repo,.string name,.int .i64 back] w (OwnF 65 2 Jj w (mdlSees x user repo name back)):=by
 have hx0:=hx;obtain⟨A0,n0,c0,f0,A1,n1,c1,f1,A2,n2,c2,f2,rfl,hff,h0,h1,h2⟩:=hx;obtain rfl:=h2.1;have RH:=Ja (fun(W:World) (hb:Below w.heap.size w W)=>Rp.house.below hx0 hb nle);have HF:=Ja hf;clear hx0 h0 h1 hff hf;have kb:=Blk.new w 26 #[.slice A0 n0 c0,.slice A1 n1 c1,.slice A2 x.Rz.length c2];replace h2:=h2.allocN (.cells #[.slice A0 n0 c0,.slice A1 n1 c1,.slice A2 x.Rz.length c2] 26)
 have HB:=(Below.refl w.heap.size w).alloc nle (.cells #[.slice A0 n0 c0,.slice A1 n1 c1,.slice A2 x.Rz.length c2] 26);go_enter Tryz.func31,Tryz.ntmps31;go_wp2_with fail;refine(implMdlFiles_any (x:=x) repo name back hb1 _ (RH.out _ HB) HF.out).mono ?_;rintro e w1 ⟨v,rfl,hown,hb⟩;replace kb:=kb.step hb;replace h2:=h2.step hb;replace HB:=Below.t HB hb;have HSZ:=HB.size;clear hb
 cases hmf:mdlFiles x repo name back with
 |none=>
  have HV:=Ja (mdlSees_none (user:=user) hmf);rw[hmf] at hown;clear hmf;obtain⟨A5,c5,f5,rfl,hs5,_,_,_⟩:=Xw (k:=2) (enc:=Jj) (hk:=fun _=>rfl) (h1:=Vz) hown;clear hown;go_wp2;go_ret;rw[HV.out];exact⟨_,rfl,World.ownsRow_nil _ _ _ _,HB⟩
 |some l=>
  obtain⟨hto,i,rfl,hi2⟩:=mdlFiles_some hmf;have HV:=Ja (mdlSees_some (user:=user) hmf hi2);have HFF:=Ja (jbw hto);have hll:=(Yo.1 hto).1;rw[hmf] at hown;clear hmf hto;obtain⟨A5,c5,f5,rfl,hs5,_,_,_⟩:=Xw (l:=l) (k:=2) (enc:=Jj) (hk:=fun _=>rfl) (h1:=Vz) hown;clear hown;have i1:(i:Int)<(x.Rz.length:Int):=by omega
  have i2:(0:Int)≤(i:Int):=by omega
  have HRU:=Ja (HF.out i hi2).Uz;obtain⟨b,o,B0,m0,k0,g0,B1,m1,k1,g1,rfl,hb,hm,q0,q1,q2,hs0,hs1,hsub⟩:=J7 h2 hi2;have u2:=Blk.c2 kb;go_wp2_with fail;refine(jiq user name _ hs0 hs5 HRU.out HFF.out (by omega)).mono ?_;rintro e w2 ⟨v2,rfl,hown2,hb⟩;have HO:=Ja (Zy hown2 HB.size);replace HB:=Below.t HB hb;clear hown2 hb q0 q1 q2 u2;go_wp2;go_ret;rw[HV.out]
  exact⟨_,rfl,HO.out,HB⟩
theorem QB.cells {w:World} {g:Nat} {q:Req} {E:Value} (h:QB w g q E):w.cell? ⟨g,0,none⟩=some (.int .i64 q.user)∧w.cell? ⟨g,1,none⟩=some (.int .i64 q.key)∧w.cell? ⟨g,2,none⟩=some (.int .i64 q.repo)∧w.cell? ⟨g,3,none⟩=some (.int .i64 q.kind)∧w.cell? ⟨g,4,none⟩=some (.string q.ref)∧w.cell? ⟨g,5,none⟩=some (.string q.path)∧w.cell? ⟨g,6,none⟩=some (.int .i64 q.old)∧w.cell? ⟨g,7,none⟩=some (.int .i64 q.back)∧w.cell? ⟨g,8,none⟩=some E∧w.cell? ⟨g,9,none⟩=some (.int .i64 q.rule.user)∧w.cell? ⟨g,10,none⟩=some (.string q.rule.ref)∧w.cell? ⟨g,11,none⟩=some (.string q.rule.path)∧w.cell? ⟨g,12,none⟩=some (.bool q.rule.write)∧w.cell? ⟨g,13,none⟩=some (.int .i64 q.frm)∧w.cell? ⟨g,14,none⟩=some (.string q.other):=
 ⟨h.k.cell 0,h.k.cell 1,h.k.cell 2,h.k.cell 3,h.k.cell 4,h.k.cell 5,h.k.cell 6,h.k.cell 7,h.k.cell 8,h.k.cell 9,h.k.cell 10,h.k.cell 11,h.k.cell 12,h.k.cell 13,h.k.cell 14⟩
theorem code_zero {m x:Jl} {q:Req} {a:Ans} (h: ¬(Ys m=true∧Yw q=true)) (ho:jai m q=(x,a)):a.code=0:=by
 rw[jdn h] at ho;cases ho;rfl
theorem req_with {w:World} {q q':Req} {E:Value} {f:List Nat} (h:Rp.req.R w (V5 q E).toList q f) (he:q'.Ez=q.Ez):Rp.req.R w (V5 q' E).toList q' f:=by
 obtain⟨A0,n0,c0,f0,e,hf,h1⟩:=h;have:E= .slice A0 n0 c0:=by
  have:=congrArg (fun l=>l[8]?) e;simpa [V5] using this
 subst this;exact⟨A0,n0,c0,f0,rfl,hf,he▸h1⟩
theorem fit_with {q q':Req} (h:jdu q) (h1:q'.ref=q.ref) (h2:q'.other=q.other) (h3:q'.path=q.path) (h4:q'.rule=q.rule) (h5:q'.Ez=q.Ez):jdu q':=
 ⟨by rw[h1];exact h.ref,by rw[h2];exact h.other,by rw[h3];exact h.path,by rw[h4];exact h.rule,by rw[h5];exact h.Ez⟩
theorem untold {m:Jl} {r:Req} (h:(jai m r).2.code≠1):(jai m r).2.names= []∧(jai m r).2.files= []:=by
 unfold jai at h ⊢;split
 ·rename_i hk
  rw[if_pos hk] at h;have hl: ∀p,(look p r).code≠1→(look p r).names= []∧(look p r).files= []:=fun p hp=>by
   unfold look at hp ⊢
   repeat' split
   all_goals first|exact⟨rfl,rfl⟩|simp_all
  unfold Zn at h ⊢;split
  ·split
   ·simp
   ·split
    ·simp[code]
    ·rename_i hkn h11 x p hp
     split
     ·rename_i h2
      rw[if_pos hkn,if_neg h11,hp] at h;simp only[h2,if_true] at h;exact hl p h
     ·split
      ·rename_i h2 h3
       rw[if_pos hkn,if_neg h11,hp] at h;simp[h3,jad] at h
      ·split
       ·simp[code]
       ·split<;>simp[code]
  ·simp[code]
 ·simp
theorem filter_under (Uz:List Yt) (user:Int) (ref path:ByteArray) (l:List File):readable Uz user ref (Yq l path)=Yq (readable Uz user ref l) path:=by
 unfold readable Yq;rw[List.filter_filter,List.filter_filter];exact List.filter_congr fun _ _=>Bool.and_comm _ _
theorem told_look {m:Jl} {r:Req} (hm:Ys m=true) (hr:Yw r=true) (h2:r.kind=2) (hc:(jai m r).2.code=1):
  ∃p l,m.Rz[r.repo.toNat]? =some p∧mdlFiles m r.repo r.ref r.back=some l∧(jai m r).2.files=Yq (readable p.Uz r.user r.ref l) r.path∧mdlSees m r.user r.repo r.ref r.back=readable p.Uz r.user r.ref l:=by
 have h0:=(jmn hr).2.1.1;unfold jai at hc ⊢;rw[if_pos ⟨hm,hr⟩] at hc ⊢;unfold Zn at hc ⊢;split
 ·rename_i hkn
  rw[if_pos hkn,if_neg (by omega)] at hc;rw[if_neg (by omega)];cases hp:m.Rz[r.repo.toNat]? with
  |none=>rw[hp] at hc;simp[code] at hc
  |some p=>
   rw[hp] at hc;simp only[h2,if_true] at hc ⊢;unfold look at hc ⊢;split
   ·rename_i hs
    rw[if_pos hs] at hc;cases hx:Y7 p.Fz r.ref with
    |none=>rw[hx] at hc;simp[code] at hc
    |some k=>
     rw[hx] at hc;simp only at hc ⊢;cases hv:version (p.Fz.getD k Y8).Vz r.back with
     |none=>rw[hv] at hc;simp[code] at hc
     |some l=>
      have hf:mdlFiles m r.repo r.ref r.back=some l:=by
       unfold mdlFiles Xn;rw[if_pos hm,if_pos h0,hp];simp only[hx,hv]
      refine⟨p,l,rfl,hf,filter_under _ _ _ _ _, ?_⟩;unfold mdlSees;rw[hf];simp only;rw[List.getD_eq_getElem?_getD,hp];rfl
   ·rename_i hs
    rw[if_neg hs] at hc;simp[code] at hc
 ·rename_i hkn
  rw[if_neg hkn] at hc;simp[code] at hc
theorem readable_split {Uz:List Yt} {user:Int} {ref:ByteArray} {l:List File} (i:Nat):readable Uz user ref l=readable Uz user ref (l.take i)++readable Uz user ref (l.drop i):=by
 unfold readable;rw[←List.filter_append,List.take_append_drop]
theorem readable_take {Uz:List Yt} {user:Int} {ref:ByteArray} {l:List File} {i:Nat} (hi:i<l.length):(readable Uz user ref (l.take (i+1))).length=(readable Uz user ref (l.take i)).length+(if Yz Uz user ref l[i].path false then 1 else 0):=by
 unfold readable;rw[List.take_succ_eq_append_getElem hi,List.filter_append,List.length_append]
 congr 1
 by_cases h:Yz Uz user ref l[i].path false=true
 ·rw[List.filter_cons_of_pos (by simpa using h),if_pos h];rfl
 ·rw[List.filter_cons_of_neg (by simpa using h),if_neg h];rfl
theorem readable_take_le {Uz:List Yt} {user:Int} {ref:ByteArray} {l:List File} (i:Nat):(readable Uz user ref (l.take i)).length≤(readable Uz user ref l).length:=by
 rw[readable_split (l:=l) i,List.length_append];omega
theorem lawLook (w:World) {A:Option Addr} {n c:Nat} {code:List UInt8} {fp:List Nat} (hx:SlR Rp.byte w A n c code fp):
  Calls Tryz.prog 8 #[.slice A n c] w fun e w'=>e= .returned (.bool true)∧Below w.heap.size w w':=by
 obtain⟨rfl,hcx,hmx, -⟩:=id hx;unfold maxLen at hmx;go_enter Tryz.func8,Tryz.ntmps8;by_cases hlen:(1048576:Int)<(code.length:Int)
 ·go_wp2;go_ret;exact⟨rfl,Below.refl _ _⟩
 go_wp2_with fail;refine(jp5 _ hx).mono ?_;rintro e w1 ⟨m,p,A0,n0,c0,A1,n1,c1,A2,n2,c2,A3,c3,f,fq,rfl,hR,hQ,hok,hsm, -, -,HB⟩;clear hx;obtain rfl:n2=m.Rz.length:=by
  obtain⟨_,_,_,_,_,_,_,_,_,_,_,_,he, -, -, -,h2⟩:=hR;cases he;exact h2.1
 go_upto_region 5 with fail
 refine wp_HQ (q:= { p with kind:=2}) ⟨_,hR⟩ ⟨_,req_with hQ rfl⟩ ?_;intro w2 hm hq hb3;have hfq:jdu { p with kind:=2} :=fit_with (jo1 hsm) rfl rfl rfl rfl rfl;have hk0:({ p with kind:=2} :Req).kind=2:=rfl;generalize({ p with kind:=2} :Req)=q at hq hfq hk0;replace HB:=Below.t HB hb3;have hf:=Ja (And.intro hok.1 hfq);have HK0:=Ja hk0;clear hR hQ hb3 hok hsm hfq hk0
 obtain⟨x,a,ho⟩: ∃x a,jai m q=(x,a):=⟨_,_,rfl⟩;have HO:=Ja ho;clear ho;obtain⟨x0,x1,x2⟩:=hm.cells;go_wp2_with((refine wpList_load_row rfl 31 (.tmp 4) rfl _ rfl _ _ _ _ hq.k.out Tryz.underlying31 rfl jb3 ?_));go_wp2_with fail;refine(implDo hm hq hf.out.1 hf.out.2).mono ?_;rintro e w3 hd;obtain⟨A4,na4,ca4,A5,na5,ca5,A6,ca6,B0,nb0,cb0,B1,nb1,cb1,rfl,hX,hA,hb3⟩:=hd.parts HO.out
 replace hm:=hm.step hb3;replace hq:=hq.step hb3;replace HB:=Below.t HB hb3;clear hb3 hd x0 x1 x2;go_upto_region 6 with fail
 refine wp_HA hX hA ?_;intro w4 hx ha hb3;replace hm:=hm.step hb3;replace hq:=hq.step hb3;replace HB:=Below.t HB hb3;clear hb3 hX hA;obtain⟨x0,x1,x2⟩:=hm.cells;go_wp2_with((refine wpList_load_row rfl 31 (.tmp 4) rfl _ rfl _ _ _ _ hq.k.out Tryz.underlying31 rfl jb3 ?_));go_wp2_with fail;refine(specDo hm hq hf.out.1 hf.out.2).mono ?_;rintro e w5 hd
 obtain⟨A7,na7,ca7,A8,na8,ca8,A9,ca9,B2,nb2,cb2,B3,nb3,cb3,rfl,hX,hA,hb3⟩:=hd.parts HO.out;replace hm:=hm.step hb3;replace hq:=hq.step hb3;replace HB:=Below.t HB hb3;replace hx:=hx.step hb3;replace ha:=ha.step hb3;clear hb3 hd x0 x1 x2;go_upto_region 7 with fail
 refine wp_HA hX hA ?_;intro w6 hy hb hb3;replace hm:=hm.step hb3;replace hq:=hq.step hb3;replace HB:=Below.t HB hb3;replace hx:=hx.step hb3;replace ha:=ha.step hb3;clear hb3 hX hA;obtain⟨x0,x1,x2,x3⟩:=ha.cells;obtain⟨y0,y1,y2,y3⟩:=hb.cells;go_wp2_with fail;refine(jp8 ha hb).mono ?_;rintro e w7 ⟨rfl,hb3⟩;replace hm:=hm.step hb3;replace hq:=hq.step hb3;replace HB:=Below.t HB hb3
 replace hx:=hx.step hb3;replace ha:=ha.step hb3;clear hb3 x0 x1 x2 x3 y0 y1 y2 y3 hy hb;obtain⟨x0,x1,x2⟩:=hm.cells;go_wp2_with fail;refine(jhe _ hm.r.choose_spec hf.out.1).mono ?_;rintro e w8 ⟨rfl,hb3⟩;replace hm:=hm.step hb3;replace hq:=hq.step hb3;replace HB:=Below.t HB hb3;replace hx:=hx.step hb3;replace ha:=ha.step hb3;clear hb3 x0 x1 x2;have H0:=Ja (fun h=>code_zero h HO.out)
 cases hmo:Ys m
 ·have h0:=H0.out (by simp[hmo]);have HU:=Ja (untold (m:=m) (r:=q) (by rw[HO.out];exact by rw[h0];decide));rw[HO.out] at HU;obtain⟨fn,hnm⟩:=ha.names;obtain⟨ff,hfl⟩:=ha.files;obtain rfl:nb1=0:=by rw[hnm.1,HU.out.1];rfl
  obtain rfl:nb0=0:=by rw[hfl.1,HU.out.2];rfl
  obtain⟨-,a1,a2, -⟩:=ha.cells;go_wp2_with fail;refine(chOk_any _).mono ?_;rintro e w20 ⟨rfl,hb4⟩;go_wp2;go_ret;exact⟨rfl,Below.t HB hb4⟩
 obtain⟨q0,q1,q2,q3,q4,q5,q6,q7,q8,q9,q10,q11,q12,q13,q14⟩:=hq.cells;go_wp2_with fail;clear q0 q1 q2 q3 q4 q5 q6 q7 q8 q9 q10 q11 q12 q13 q14;refine(jhd _ hq.r.choose_spec hf.out.2).mono ?_;rintro e w9 ⟨rfl,hb3⟩;replace hm:=hm.step hb3;replace hq:=hq.step hb3;replace HB:=Below.t HB hb3;replace hx:=hx.step hb3;replace ha:=ha.step hb3;clear hb3;cases hro:Yw q
 ·have h0:=H0.out (by simp[hro]);have HU:=Ja (untold (m:=m) (r:=q) (by rw[HO.out];exact by rw[h0];decide));rw[HO.out] at HU;obtain⟨fn,hnm⟩:=ha.names;obtain⟨ff,hfl⟩:=ha.files;obtain rfl:nb1=0:=by rw[hnm.1,HU.out.1];rfl
  obtain rfl:nb0=0:=by rw[hfl.1,HU.out.2];rfl
  obtain⟨-,a1,a2, -⟩:=ha.cells;go_wp2_with fail;refine(chOk_any _).mono ?_;rintro e w20 ⟨rfl,hb4⟩;go_wp2;go_ret;exact⟨rfl,Below.t HB hb4⟩
 obtain⟨a0, -, -, -⟩:=ha.cells;cases e1:(a.code !=1);rotate_left
 ·skip;have HU:=Ja (untold (m:=m) (r:=q) (by rw[HO.out];exact by simpa using e1));rw[HO.out] at HU;obtain⟨fn,hnm⟩:=ha.names;obtain⟨ff,hfl⟩:=ha.files;obtain rfl:nb1=0:=by rw[hnm.1,HU.out.1];rfl
  obtain rfl:nb0=0:=by rw[hfl.1,HU.out.2];rfl
  obtain⟨-,a1,a2, -⟩:=ha.cells;go_wp2_with fail;refine(chOk_any _).mono ?_;rintro e w20 ⟨rfl,hb4⟩;go_wp2;go_ret;exact⟨rfl,Below.t HB hb4⟩
 have HOK:=Ja (And.intro hmo hro);obtain⟨p',l,hp,hml,hfs,hse⟩:=told_look (m:=m) hmo hro HK0.out (by rw[HO.out];simpa using e1);rw[HO.out] at hfs;have HFS:=Ja hfs;have HML:=Ja hml;have HSE:=Ja hse;obtain⟨i,hi⟩: ∃i:Nat,q.repo=(i:Int):=⟨q.repo.toNat,by have:=(jmn hro).2.1.1;omega⟩;rw[hi,Int.toNat_natCast] at hp;obtain⟨hil,rfl⟩:=List.getElem?_eq_some_iff.1 hp;have HI:=Ja hi
 have HRL:=Ja (hf.out.1 i hil).Uz;have HLO:=Ja (mdlFiles_some hml).1;have hl60:=(Yo.1 (mdlFiles_some hml).1).1;have HBK:=Ja (show q.back≤9223372036854775807 by have:=(jmn hro).2.2.2.1;omega);clear hp hi hfs hml hse hmo hro H0;obtain⟨q0, -,q2, -,q4, -, -,q7, -⟩:=hq.cells;obtain⟨x0,x1,x2⟩:=hm.cells;go_wp2_with fail
 refine(implMdlSees_any q.user q.repo q.ref q.back HBK.out _ hm.r.choose_spec hf.out.1).mono ?_;rintro e w10 hsee;rw[HSE.out] at hsee;obtain⟨v,rfl,hown,hb3⟩:=hsee;obtain⟨AS,cS,fS,rfl,hS, -, -, -⟩:=Yp hown;replace hm:=hm.step hb3;replace hq:=hq.step hb3;replace HB:=Below.t HB hb3;replace hx:=hx.step hb3;replace ha:=ha.step hb3;replace q2:=Je q2 hb3;replace q4:=Je q4 hb3
 replace q7:=Je q7 hb3;replace x0:=Je x0 hb3;replace x1:=Je x1 hb3;replace x2:=Je x2 hb3;clear hb3 hown q0;go_wp2_with fail;refine(implMdlFiles_any q.repo q.ref q.back HBK.out _ hm.r.choose_spec hf.out.1).mono ?_;rintro e w11 hfi;rw[HML.out] at hfi;obtain⟨v,rfl,hown,hb3⟩:=hfi;obtain⟨AL,cL,fL,rfl,hL, -, -, -⟩:=Yp (l:=l) hown;replace hm:=hm.step hb3
 replace hq:=hq.step hb3;replace HB:=Below.t HB hb3;replace hx:=hx.step hb3;replace ha:=ha.step hb3;replace hS:=hS.step hb3;clear hb3 hown q2 q4 q7 x0 x1 x2;obtain⟨fhr,hr⟩:=hm.Rz;obtain⟨-,hrc,hrm, -⟩:=id hr;unfold maxLen at hrm;obtain⟨b,o,D1,l1,d1,f1,D2,l2,d2,f2,rfl, -, -, -,p1, -,s1, -, -⟩:=J7 hr hil;obtain⟨q0, -,q2, -,q4, -⟩:=hq.cells;rw[HI.out] at q2;obtain⟨-, -,m2⟩:=hm.cells
 have i0:(0:Int)≤(i:Int):=by omega
 have i1:(i:Int)<(m.Rz.length:Int):=by omega
 obtain⟨ff,hfl⟩:=ha.files;obtain⟨rfl,hflc,hflm, -⟩:=id hfl;unfold maxLen at hflm;obtain⟨-,a1, -, -⟩:=ha.cells;have hcnt:(readable m.Rz[i].Uz q.user q.ref l).length≤l.length:=List.length_filter_le _ _;go_wp2_with fail
 go_loopw [12] (fun i wz=>∃k:Nat,k≤a.files.length∧i= .int .i64 k∧Below w11.heap.size w11 wz) (fun i _=>a.files.length - (intOf i).toNat)
 case atStart=>exact⟨0,Nat.zero_le _,rfl,Below.refl _ _⟩
 case round=>
  obtain⟨k,hk,rfl,hbl⟩:=hrel;replace m2:=Je m2 hbl;replace p1:=Je p1 hbl;replace q0:=Je q0 hbl;replace q2:=Je q2 hbl;replace q4:=Je q4 hbl;replace a1:=Je a1 hbl;replace s1:=s1.step hbl;by_cases hlt:k<a.files.length
  ·obtain⟨b',o',rfl, -, -,z0, -⟩:=Jx (hfl.step hbl) hlt;have k0:(0:Int)≤(k:Int):=by omega
   have k1:(k:Int)<(a.files.length:Int):=by omega
   have hmem:a.files[k]∈Yq (readable m.Rz[i].Uz q.user q.ref l) q.path:=(show ∀f∈a.files,f∈Yq (readable m.Rz[i].Uz q.user q.ref l) q.path by rw[HFS.out];exact fun _ h=>h) _ (List.getElem_mem hlt);have hmr:=(List.mem_filter.1 (List.mem_filter.1 hmem).1)
   have C1:=fun(n:BelowW wr)=>Z0 q.user q.ref a.files[k].path false _ (BelowW.sl n s1) HRL.out (jbw HLO.out _ (List.mem_iff_getElem.1 hmr.1).choose_spec.choose |> fun h=>by have e:=(List.mem_iff_getElem.1 hmr.1).choose_spec.choose_spec;rw[e] at h;exact h);rw[show Yz m.Rz[i].Uz q.user q.ref a.files[k].path false=true from hmr.2] at C1;have D1:=Ja C1
   clear C1 s1 hmem hmr;go_upto_region 16 with fail
   have n0:=BelowW.nonempty wr;have ex0:=BelowW.ex (w:=wr);have g0:=fun n:BelowW wr=>n.cell m2;have g1:=fun n:BelowW wr=>n.cell p1;have g2:=fun n:BelowW wr=>n.cell q0;have g3:=fun n:BelowW wr=>n.cell q2;have g4:=fun n:BelowW wr=>n.cell q4;have g5:=fun n:BelowW wr=>n.cell a1;have g6:=fun n:BelowW wr=>n.cell z0;clear m2 p1 q0 q2 q4 a1 z0;refine Jf (by kernel_rfl) (by kernel_rfl) ?_
   repeat(go_big_quiet_step(first|(go_at_call 26;exact BelowW.calls _ (D1.out _))))
   refine wpQuiet_nil ?_;rintro w9 ⟨m9,hw9⟩;have hb9:=m9.property;rw[←hw9] at hb9;clear hw9 m9;go_wp2;exact⟨⟨k+1,by omega,by go_num,Below.t hbl hb9⟩,by simp[intOf];omega⟩
  ·have hk':k=a.files.length:=by omega
   subst hk';replace hm:=hm.step hbl;replace hq:=hq.step hbl;replace HB:=Below.t HB hbl;replace hx:=hx.step hbl;replace ha:=ha.step hbl;replace hS:=hS.step hbl;replace hL:=hL.step hbl;have hbl0:=hbl;go_wp2_with fail
   go_loopw [13,14] (fun v iv wz=>∃k:Nat,k≤l.length∧iv= .int .i64 k∧v= .int .i64 ((readable m.Rz[i].Uz q.user q.ref (l.take k)).length:Nat)∧Below wr.heap.size wr wz) (fun _ iv _=>l.length - (intOf iv).toNat)
   case atStart=>exact⟨0,Nat.zero_le _,rfl,rfl,Below.refl _ _⟩
   case round=>
    obtain⟨k,hk,rfl,rfl,hbj⟩:=hrel;replace m2:=Je m2 hbj;replace p1:=Je p1 hbj;replace q0:=Je q0 hbj;replace q2:=Je q2 hbj;replace q4:=Je q4 hbj;replace s1:=s1.step hbj;have hcl:=readable_take_le (Uz:=m.Rz[i].Uz) (user:=q.user) (ref:=q.ref) (l:=l) k;by_cases hlt:k<l.length
    ·obtain⟨b',o',rfl, -, -,z0, -⟩:=Jx (hL.step hbj) hlt;have k0:(0:Int)≤(k:Int):=by omega
     have k1:(k:Int)<(l.length:Int):=by omega
     have HNX:=Ja (readable_take (Uz:=m.Rz[i].Uz) (user:=q.user) (ref:=q.ref) hlt);have C1:=fun(n:BelowW wr)=>Z0 q.user q.ref l[k].path false _ (BelowW.sl n s1) HRL.out (jbw HLO.out k hlt);generalize Yz m.Rz[i].Uz q.user q.ref l[k].path false=bf at C1 HNX;have D1:=Ja C1;clear C1 s1;go_upto_region 22 with fail
     cases bf
     all_goals
      have n0:=BelowW.nonempty wr;have ex0:=BelowW.ex (w:=wr);have g0:=fun n:BelowW wr=>n.cell m2;have g1:=fun n:BelowW wr=>n.cell p1;have g2:=fun n:BelowW wr=>n.cell q0;have g3:=fun n:BelowW wr=>n.cell q2;have g4:=fun n:BelowW wr=>n.cell q4;have g5:=fun n:BelowW wr=>n.cell z0;clear m2 p1 q0 q2 q4 z0;refine Jf (by kernel_rfl) (by kernel_rfl) ?_
      repeat(go_big_quiet_step(first|(go_at_call 26;exact BelowW.calls _ (D1.out _))))
      refine wpQuiet_nil ?_;rintro w9 ⟨m9,hw9⟩;have hb9:=m9.property;rw[←hw9] at hb9;clear hw9 m9;go_wp2;exact⟨⟨k+1,by omega,by go_num,by rw[HNX.out];first|(simp;done)|(rw[if_pos rfl];go_num),Below.t hbj hb9⟩,by simp[intOf];omega⟩
    ·have hk':k=l.length:=by omega
     subst hk';rw[List.take_length];have hBW:=Below.t hbl0 hbj;have hSj:=hS.step hbj;have hflj:=hfl.step hBW;replace a1:=Je a1 hbj;obtain⟨-, -, -, -, -,q5, -⟩:=(hq.step hbj).cells;have HBd:=(Below.refl wr.heap.size wr).drew;have HSF:=Ja (fun(W:World) (hb:Below wr.heap.size wr W)=>hflj.step hb);have HSS:=Ja (fun(W:World) (hb:Below wr.heap.size wr W)=>hSj.step hb)
     have HBX:=Ja (Below.t HB hbj);have G:=Ja (show ∀W:World,Below wr.heap.size wr W→W.cell? ⟨w3.heap.size+1,1,none⟩=some (.slice B0 a.files.length cb0)∧W.cell? ⟨w1.heap.size+1,5,none⟩=some (.string q.path) from fun W hb=>⟨Je a1 hb,Je q5 hb⟩);have HFR:=Ja (jbw (jif HLO.out fun f=>Yz m.Rz[i].Uz q.user q.ref f.path false))
     have HDE:=Ja (show decide (a.files=Yq (readable m.Rz[i].Uz q.user q.ref l) q.path)=true by rw[HFS.out];simp);have HPT:=Ja hf.out.2.path;clear a1 q5 m2 p1 q0 q2 q4 s1 hflj hSj;go_upto_region 24 with fail
     go_region_held3 (fun w'=>w'.cell? ⟨w3.heap.size+1,1,none⟩=some (.slice B0 a.files.length cb0)∧w'.cell? ⟨w1.heap.size+1,5,none⟩=some (.string q.path))
      (((with_reducible refine G.out _ ?_);(first|with_reducible exact HBd|with_reducible exact hB5|with_reducible exact hB6)))
      (first|(go_at_call 37;refine(je5 (l:=readable m.Rz[i].Uz q.user q.ref l) q.path _ (HSS.out _ HBd) HPT.out HFR.out (by omega)).mono ?_;rintro e w5 ⟨v5,rfl,ho5,hb5⟩;obtain⟨A5,c5,f5,hv5,hs5,_,_,_⟩:=Yp ho5;subst hv5;have hB5:=Below.past hb5;have HS5:=Ja hs5;clear hb5 hs5 ho5)|(go_at_call 29;refine(jgb _ (HSF.out _ hB5) HS5.out).mono ?_;rintro e w6 ⟨rfl,hb6⟩;rw[HDE.out];have hB6:=Below.t hB5 hb6))
     all_goals
      go_wp2;go_ret;exact⟨rfl,Below.t HBX.out hB6⟩
def Opens {α H:Type} (enc:TypeId×Value→H) (P:Program) (t:TypeId) (r:Rp α) (ok:α→Prop):Prop:=
 ∀ {w:World} {base:Nat} {spare:Nat→Bool} {held:Bool} {fuel:Nat} {cs:List Value} {x:DataW H×List MemPlace},DataW.trod enc P w base spare held fuel t cs=some x→∃y fp,r.R w cs y fp∧ok y
section
variable {H:Type} {enc:TypeId×Value→H} {P:Program}
theorem opens_byte {t:TypeId} (ht:P.underlying t=some (.int .u8)):Opens enc P t Rp.byte (fun _=>True):=fun h=>by
 obtain⟨n,rfl,_,hw⟩:=DataW.trod_int ht h;simp[Lit.wf,IntKind.min,IntKind.max,IntKind.signed,IntKind.bits] at hw;refine⟨UInt8.ofNat n.toNat,[],⟨?_,rfl⟩,trivial⟩;have e:((UInt8.ofNat n.toNat).toNat:Int)=n:=by
  rw[UInt8.toNat_ofNat'];omega
 show [Value.int .u8 n]= [Value.int .u8 ((UInt8.ofNat n.toNat).toNat:Int)];rw[e]
theorem spot_none {w:World} {a:Addr} {v:Value} (h:w.cell? a=some v):a.spot=none:=by
 unfold World.cell? at h;split at h
 ·split at h
  ·cases h
  ·rename_i hs;simpa using hs
 ·cases h
theorem opens_rows {α:Type} {r:Rp α} {ok:α→Prop} {w:World} {base:Nat} {a:Addr} : ∀(len:Nat),(∀i,i<len→∃cs' y f,w.cells? base (a.add (i*r.k)) r.k=some cs'∧r.R w cs' y f∧ok y)→
  ∃xs l fp,l.length=len∧AllR r w xs l fp∧(∀y∈l,ok y)∧∀j u,xs[j]? =some u→w.cell? (a.add j)=some u
 | 0,_=>⟨[],[],[],rfl,⟨rfl,rfl⟩,by simp,by simp⟩
 |len+1,h=>by
  obtain⟨xs,l,fp,hl,ha,hok,hc⟩:=opens_rows len (fun i hi=>h i (by omega));obtain⟨cs',y,f,hcs,hr,hy⟩:=h len (by omega);obtain⟨_,hcl,hat⟩:=World.cells?_some hcs;have hxl:=ha.len;refine⟨xs++cs',l++ [y],fp++f,by simp[hl],ha.snoc hr,fun z hz=> ?_,fun j u hu=> ?_⟩
  ·rcases List.mem_append.1 hz with hz|hz
   ·exact hok z hz
   ·simp at hz;subst hz;exact hy
  ·by_cases hj:j<xs.length
   ·rw[List.getElem?_append_left hj] at hu;exact hc j u hu
   ·rw[List.getElem?_append_right (by omega)] at hu;have hlt:=(List.getElem?_eq_some_iff.1 hu).1;have:=hat (i:=j - xs.length) (by omega);rw[hu] at this;rw[Go.Deep.add_add,show len*r.k+(j - xs.length)=j from by rw[hl] at hxl;omega] at this;exact this
theorem opens_slice {α:Type} {r:Rp α} {ok:α→Prop} {t e:TypeId} (ht:P.underlying t=some (.slice e)) (hC:P.cellsOf e=r.k) (hk:0<r.k) (h:Opens enc P e r ok):Opens enc P t (Rp.slice r) (fun l=>∀y∈l,ok y):=fun {w base spare held fuel cs x} hr=>by
 rcases open_slice ht hr with ⟨rfl,_⟩|⟨a,len,cap,m,n,D,Pl,rfl,hb,hl,hm,hmm,_,hi⟩
 ·exact⟨[],[],⟨none,0,0,rfl,SlR.nil⟩,by simp⟩
 ·have hle:len≤m:=by rw[hmm];split<;>omega
  rw[hC] at hi;obtain⟨xs,l,fp,hlen,ha,hok,hc⟩:=opens_rows (r:=r) (ok:=ok) (w:=w) (base:=base) (a:=a) len (fun i hii=>by
   obtain⟨cs',hcs,htr⟩:=hi i (by omega);obtain⟨y,f,hR,hy⟩:=h htr;exact⟨cs',y,f,hcs,hR,hy⟩)
  have hxl:=ha.len;by_cases h0:len=0
  ·subst h0;have:l= []:=List.eq_nil_of_length_eq_zero hlen;subst this;obtain⟨rfl,rfl⟩:=ha;exact⟨[],[],⟨some a,0,cap,rfl,rfl,Nat.zero_le _,hm,[],[],[],⟨by simp,.inl ⟨rfl,rfl⟩⟩,⟨rfl,rfl⟩,rfl⟩,by simp⟩
  ·have hpos:0<xs.length:=by rw[hxl,hlen];exact Nat.mul_pos (by omega) hk
   have h00:=hc 0 xs[0] (List.getElem?_eq_getElem hpos);have ha0:a.add 0=a:=by simp[Addr.add]
   rw[ha0] at h00;obtain⟨b,o,s⟩:=a;have hs:s=none:=spot_none h00;subst hs;refine⟨l,[b]++fp,⟨_,len,cap,rfl,hlen.symm,hl,hm,xs,[b],fp,⟨by rw[hxl,hlen],.inr ⟨by omega,b,o,rfl,rfl,World.block_lt_of_cell? w _ h00,fun j u hu=> ?_⟩⟩,ha,rfl⟩,hok⟩;have:=hc j u hu;rwa [Addr.add_lit] at this
theorem post_of_below {f:Func} {s:ChangeSpec} {apart fresh handsOn again:Bool} {W W':World} {args:Array Value} {v:Value} {ds gs:List (DataW H)} {before pa pv:List MemPlace}
  (hW:DataW.Whole enc P f.params.toList s.vars apart W args.toList ds gs before)
  (hres: ∀(b:Nat) (sp:Nat→Bool) (hd:Bool),DataW.TrodAll enc P W' b sp hd f.resultTypes.toList (v.resultList f.resultTypes.size) (s.fn H (ds++gs)).results [])
  (hargs: ∀sp:Nat→Bool,(∀p∈before,sp p.block=true)→DataW.TrodAll enc P W' 0 sp true f.params.toList args.toList (s.fn H (ds++gs)).args pa)
  (hvars: ∀sp:Nat→Bool,(∀p∈before,sp p.block=true)→DataW.TrodVars enc P W' sp s.vars (s.fn H (ds++gs)).vars pv)
  (hps:before=pa++pv) (hb:Below W.heap.size W W')
  (hok: ∀(j:Nat) (t:TypeId) (r:Value),f.resultTypes[j]? =some t→(v.resultList f.resultTypes.size)[j]? =some r→Value.okWide P W' .any 0 t r):
  s.post enc P f apart fresh handsOn again W args v W':=by
 have hlt: ∀p∈before,p.block<W.heap.size:=fun p hp=>hW.lt p hp;have hold: ∀p∈before,(fun b=>decide (b<W.heap.size)) p.block=true:=fun p hp=>by simpa using hlt p hp
 refine⟨ds,gs,before,[],pa,pv,hW,hres _ _ _,hargs _ hold,hvars _ hold,World.keptBut_mono (fun p hp=>⟨hp, ?_⟩) (hb.frame (·∈before)),fun _=> ?_⟩
 ·rw[hps,List.mem_append] at hp;exact Or.inr hp
 ·obtain⟨_,_,_,_,_,hz,hn⟩:=hW;refine⟨hok,_,_,([]++pa)++pv,⟨[]++pa,pv,trodAll_append (hargs _ (fun _ _=>rfl)) (hres _ _ _),hvars _ (fun _ _=>rfl),rfl, ?_, ?_⟩, ?_⟩
  ·intro b off hp;have hin:MemPlace.cell b off∈before:=by rw[hps];simpa using hp
   rw[hb.frozen (hlt _ hin)];exact hz b off hin
  ·intro ha;have:=hn ha;rw[hps] at this;simpa using this
  ·intro p hp _;rw[hps];simpa using hp
end
theorem fnMdlLook_own:ownKnob Tryz.prog.godebug=none:=by kernel_rfl
theorem fnMdlLook_laidOut:laidOutB Tryz.prog=true:=by kernel_rfl
theorem fnMdlLook_contract (H:Type) (enc:TypeId×Value→H) (W:World) (base:Nat) (args:Array Value) (ds gs:List (DataW H)) (before:List MemPlace)
  (hval0: ∀(j:Nat) t v,Tryz.f8.params[j]? =some t→args[j]? =some v→Value.okWide Tryz.prog W .any base t v)
  (hW:DataW.Whole enc Tryz.prog Tryz.f8.params.toList Rows.fnMdlLookSpec.vars false W args.toList ds gs before):
  Calls Tryz.prog 8 args W fun e W'=>∃v,e= .returned v∧Rows.fnMdlLookSpec.post enc Tryz.prog Tryz.f8 false true false false W args v W':=by
 have hval:=hval0;have hW':=hW;obtain⟨p,q,hA0,hV,rfl,hfz,hnd⟩:=hW;have hA:DataW.TrodAll enc Tryz.prog W 0 (fun _=>true) true Tryz.f8.params.toList args.toList ds p:=hA0;rw[Tryz.params8] at hA hval;obtain⟨v0,d0,rfl,rfl,h0⟩:=trodAll_one hA;obtain⟨rfl,rfl⟩:=trodVars_none hV;have h0k:=h0;obtain⟨a0,len0,cap0,rfl⟩:=okWide_slice Tryz.underlying22 (hval 0 22 v0 rfl rfl);obtain⟨fuel0,hf0⟩:=h0
 obtain⟨l0,fp0,⟨A0,n0,c0,hcs0,hs0⟩,hw0⟩:=opens_slice Tryz.underlying22 (by kernel_rfl) (by decide) (opens_byte Tryz.underlying5) hf0;have hc0:Value.slice a0 len0 cap0= .slice A0 n0 c0:=by simpa [Value.cells] using hcs0
 rw[hc0] at h0k hW' ⊢;clear hf0 hcs0 hc0;clear hA0 hval hval0;simp only[List.append_nil] at hW';refine(lawLook W hs0).mono fun e W' ⟨he,hb⟩=> ?_;subst he;have hlt0: ∀y∈p,y.block<W.heap.size:=fun y hy=>hW'.lt y (by simp[hy])
 refine⟨_,rfl,post_of_below (pa:=p) (pv:=[]) hW' (fun _ _ _=>trodAll_mk1 (shut_bool Tryz.underlying4 _)) (fun sp hsp=> ?_) (fun _ _=>rfl) (by simp) hb (ok_one (by kernel_rfl) rfl (okWide_bool_mk Tryz.underlying4 _))⟩;exact trodAll_mk1 (WideElems.Trod_stays fnMdlLook_laidOut (by kernel_rfl) (of_decide_eq_true (by kernel_rfl)) h0k (fun y hy=>hb.same (hlt0 y hy)) (fun y hy=>hsp y (by simp[hy])))
mutual
def fnMdlLook_flat:DataW Unit→List Value
 | .lit l=>[l.value]
 | .agg ps=>fnMdlLook_flats ps
 |_=>[]
def fnMdlLook_flats:List (DataW Unit)→List Value
 | []=>[]
 |d::r=>fnMdlLook_flat d++fnMdlLook_flats r
end
noncomputable def fnMdlLook_world (os:Os):World:=
 { World.holding Tryz.prog os ⟨#[],#[],[]⟩ with heap:=(((World.holding Tryz.prog os ⟨#[],#[],[]⟩).heap.modify 2 fun
   | .cells _ t frozen=> .cells (fnMdlLook_flat Rows.laid_unicode_utf8_acceptRanges).toArray t frozen
   |o=>o).modify 1 fun
   | .cells _ t frozen=> .cells (fnMdlLook_flat Rows.laid_unicode_utf8_first).toArray t frozen
   |o=>o)}
set_option maxRecDepth 100000 in
theorem fnMdlLook_met (os:Os):laidMet Tryz.prog Rows.fnMdlLookRow.laid ((fnMdlLook_world os).forCall (fun _ _=>0) ⟨#[],#[.slice none 0 0],[]⟩).memory:=
 laidMet_of_run' 8 (by kernel_rfl) (by kernel_rfl)
theorem fnMdlLook_reads (os:Os) {H:Type} (enc:TypeId×Value→H): ∃x,DataW.whole enc Tryz.prog ((fnMdlLook_world os).forCall (fun _ _=>0) ⟨#[],#[.slice none 0 0],[]⟩).memory Tryz.f8.params.toList Rows.fnMdlLookSpec.vars false (#[.slice none 0 0]:Array Value).toList 8=some x:=
 Option.isSome_iff_exists.1 (show(DataW.whole enc Tryz.prog ((fnMdlLook_world os).forCall (fun _ _=>0) ⟨#[],#[.slice none 0 0],[]⟩).memory Tryz.f8.params.toList Rows.fnMdlLookSpec.vars false (#[.slice none 0 0]:Array Value).toList 8).isSome=true by kernel_rfl)
theorem fnMdlLook_lifted (os:Os) (started:os.Started) (H:Type) (enc:TypeId×Value→H) (F:Stop.Interp):
  ReturnsInHanded {} Tryz.checked os 8 .any ((OpenSpec.ofChange Rows.fnMdlLookSpec).preRow enc Tryz.prog Tryz.f8 Rows.fnMdlLookRow.domain false Rows.fnMdlLookRow.laid) (((OpenSpec.ofChange Rows.fnMdlLookSpec).at F).post enc Tryz.prog Tryz.f8 false true false false):=by
 obtain⟨x0,hx⟩:=fnMdlLook_reads os enc;refine returnsInHanded_of_row (C:=Tryz.checked) (s:=OpenSpec.ofChange Rows.fnMdlLookSpec) fnMdlLook_own started (by kernel_rfl) Tryz.func8
  (witness_row_at (enc:=enc) (C:=Tryz.checked) false (fnMdlLook_world os) #[.slice none 0 0] rfl (by kernel_rfl) (by kernel_rfl) (by kernel_rfl)
   (OpenSpec.preRow_of_cond 8 hx (by kernel_rfl) (fun k hk=>by cases hk) (by kernel_rfl) (fnMdlLook_met os))) ?_
 intro W base args ds gs before hval hW _ _ _ _ _ _;exact fnMdlLook_contract H enc W base args ds gs before hval hW
theorem fnMdlLook_closed:joinedFacts Tryz.pinned.checked.prog 8 Tryz.f8 (OpenSpec.ofChange Rows.fnMdlLookSpec).bare Rows.fnMdlLookRow=true:=by
 unfold joinedFacts;simp only[Bool.and_eq_true]
 repeat' apply And.intro
 all_goals(as_aux_lemma=>kernel_rfl)
theorem fnMdlLook_said:Rows.FnMdlLookSaid:=
 OpenClaim.holds_of_cond 8 Tryz.f8 rfl rfl rfl rfl rfl rfl rfl ⟨rfl,rfl,rfl,rfl,rfl⟩ rfl rfl rfl rfl rfl (by kernel_rfl) Tryz.func8 fnMdlLook_closed
  (of_decide_eq_true (by kernel_rfl)) (by unfold Func.isWrapper;first|(rw[if_pos (by decide+kernel)];kernel_rfl)|(rw[if_neg (by decide+kernel)];exact⟨rfl,rfl⟩))
  (fun os started H enc _ F=>by rw[OpenClaim.pre_eq_preRow];exact fnMdlLook_lifted os started H enc F)
theorem fnMdlLook_plain (f:FuncId) (fn:Func) (hf:Tryz.pinned.checked.prog.funcNamed "loop.example/chartulary/laws.FnMdlLook" =some f) (hfn:Tryz.pinned.checked.prog.funcs[f]? =some fn):
  false=Tryz.pinned.checked.prog.looks []∧∀(j:Nat) t,fn.params[j]? =some t→Tryz.pinned.checked.prog.wantsStandIn t=false:=by
 obtain rfl:f=8:=Option.some.inj ((show Tryz.prog.funcNamed "loop.example/chartulary/laws.FnMdlLook" =some 8 by kernel_rfl).symm.trans hf) |>.symm;obtain rfl:fn=Tryz.f8:=(Option.some.inj (Tryz.func8.symm.trans hfn)).symm;refine⟨by kernel_rfl,fun j t ht=> ?_⟩;rw[Tryz.params8] at ht;have hm:=Array.mem_of_getElem? ht;simp only[List.mem_toArray,List.mem_cons,List.not_mem_nil,or_false] at hm
 rcases hm with rfl
 ·exact(show Tryz.prog.wantsStandIn 22=false by kernel_rfl)
theorem fnMdlLook_holds:Rows.FnMdlLookCardSaid:=
 Claim7.holds_tied_plain_at .later [] _ _ _ _ fnMdlLook_said (fun _ h=>by cases h) (by kernel_rfl) (fun _ h=>by cases h) fnMdlLook_row_tie rfl ⟨rfl,rfl⟩ (by kernel_rfl) rfl fnMdlLook_plain (by kernel_rfl)
#print axioms fnMdlLook_holds
end Go.Proofs.YtheifkmggcenpaaGreatDoor
