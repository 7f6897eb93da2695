/- FnMdlStranger: for every input the law answers true and leaves its arguments as they were. Conditions: the listed library tables read as the tie says. -/
import Derived.ProofKit
import Derived.Deep.Slices
import Derived.Deep.Fields
import Derived.WalkKit
import Derived.OpenShut
import Derived.ChangeMaps5
import Derived.Deep.DeepHandedRow
import Derived.Lib.LaidTab
import Derived.SevenTiedAt
import Derived.Test.YtlkoaobaoffpaaaGreatDoorZ34
import Derived.Test.YtlkoaobaoffpaaaGreatDoorZ29
import Derived.Test.YtlkoaobaoffpaaaGreatDoorZ23
import Derived.Test.YtlkoaobaoffpaaaGreatDoorZ8
import Derived.Test.YtlkoaobaoffpaaaGreatDoorZ35
import Derived.Test.YtlkoaobaoffpaaaGreatDoorZ1
import Derived.Test.YtlkoaobaoffpaaaGreatDoorCards
import Derived.Test.YtlkoaobaoffpaaaGreatDoorTie
namespace Go.Proofs.YtlkoaobaoffpaaaGreatDoor
open Go.RowKit
attribute [local go_sem ↓] Go.wp_at_zero Go.wp_at_succ
open Go.ChangeShapes Go.WideShapes Go.ChangeAt Go.RowKit Go.Deep
set_option maxHeartbeats 8000000
set_option maxRecDepth 100000
set_option linter.unusedSimpArgs false
set_option linter.unusedVariables false
section
variable {w w':World} {g:Nat} {m:Jl} {q:Req} {a:Ans} {K U R E F N:Value}
end
theorem req_with {w:World} {q q':Req} {E:Value} {f:List Nat} (h:Rp.req.R w (V5 q E).toList q f) (he:q'.Ez=q.Ez):Rp.req.R w (V5 q' E).toList q' f:=by
 obtain⟨A0,n0,c0,f0,e,hf,h1⟩:=h;have:E= .slice A0 n0 c0:=by
  have:=congrArg (fun l=>l[8]?) e;simpa [V5] using this
 subst this;exact⟨A0,n0,c0,f0,rfl,hf,he▸h1⟩
theorem fit_with {q q':Req} (h:jdu q) (h1:q'.ref=q.ref) (h2:q'.other=q.other) (h3:q'.path=q.path) (h4:q'.rule=q.rule) (h5:q'.Ez=q.Ez):jdu q':=
 ⟨by rw[h1];exact h.ref,by rw[h2];exact h.other,by rw[h3];exact h.path,by rw[h4];exact h.rule,by rw[h5];exact h.Ez⟩
section
variable {P:Program} {s:Code} {Q:Exit→Act→World→Prop} {b:Act} {w:World} {m:Jl} {q:Req} {a:Ans} {K U R E F N:Value}
end
section
variable {w0 W W':World} {m:Jl} {q q':Req} {K U R E E':Value}
end
section
variable {w w':World} {g lo:Nat} {m:Jl} {K U R:Value}
end
theorem stranger {m:Jl} {r:Req} (h:knows m.keys r.user r.key=false):Zn m r=(m,code 2):=by
 unfold Zn;rw[if_neg (by simp[h])]
theorem knows_not {keys:List Int} {user key:Int} (hk: ∀k∈keys,10≤k) (h:key<10):knows keys user key=false:=by
 unfold knows;rw[Bool.and_eq_false_iff];right;rw[decide_eq_false_iff_not];intro e;have:=hk _ (List.mem_of_getElem? e);omega
theorem lawStranger (w:World) {A:Option Addr} {n c:Nat} {code:List UInt8} {fp:List Nat} (hx:SlR Rp.byte w A n c code fp):
  Calls Tryz.prog 10 #[.slice A n c] w fun e w'=>e= .returned (.bool true)∧Below w.heap.size w w':=by
 obtain⟨rfl,hcx,hmx, -⟩:=id hx;unfold maxLen at hmx;go_enter Tryz.func10,Tryz.ntmps10;by_cases hlen:(1048576:Int)<(code.length:Int)
 ·go_wp2;go_ret;exact⟨rfl,Below.refl _ _⟩
 go_wp2_with fail;refine(jp5 _ hx).mono ?_;rintro e w1 ⟨m,p,A0,n0,c0,A1,n1,c1,A2,n2,c2,A3,c3,f,fq,rfl,hR,hQ,hok,hsm, -, -,HB⟩;clear hx;obtain rfl:n2=m.Rz.length:=by
  obtain⟨_,_,_,_,_,_,_,_,_,_,_,_,he, -, -, -,h2⟩:=hR;cases he;exact h2.1
 have HOKD:=Ja hok;go_upto_region 5 with fail
 refine wp_HQ (q:= { p with key:=9 - (code.length:Int) % 9}) ⟨_,hR⟩ ⟨_,req_with hQ rfl⟩ ?_;intro w2 hm hq hb3;have hfq:jdu { p with key:=9 - (code.length:Int) % 9} :=fit_with (jo1 hsm) rfl rfl rfl rfl rfl;have hk0:({ p with key:=9 - (code.length:Int) % 9} :Req).key<10:=by simp only;omega
 generalize({ p with key:=9 - (code.length:Int) % 9} :Req)=q at hq hfq hk0;replace HB:=Below.t HB hb3;have hf:=Ja (And.intro hok.1 hfq);have HK0:=Ja hk0;clear hR hQ hb3 hok hsm hfq hk0;obtain⟨x,a,ho⟩: ∃x a,jai m q=(x,a):=⟨_,_,rfl⟩;have HO:=Ja ho;clear ho;obtain⟨x0,x1,x2⟩:=hm.cells
 go_wp2_with((refine wpList_load_row rfl 31 (.tmp 4) rfl _ rfl _ _ _ _ hq.k.out Tryz.underlying31 rfl jb3 ?_));go_wp2_with fail;refine(implDo hm hq hf.out.1 hf.out.2).mono ?_;rintro e w3 hd;obtain⟨A4,na4,ca4,A5,na5,ca5,A6,ca6,B0,nb0,cb0,B1,nb1,cb1,rfl,hX,hA,hb3⟩:=hd.parts HO.out;replace hm:=hm.step hb3;replace hq:=hq.step hb3;replace HB:=Below.t HB hb3;clear hb3 hd x0 x1 x2
 go_upto_region 6 with fail
 refine wp_HA hX hA ?_;intro w4 hx ha hb3;replace hm:=hm.step hb3;replace hq:=hq.step hb3;replace HB:=Below.t HB hb3;clear hb3 hX hA;obtain⟨x0,x1,x2⟩:=hm.cells;go_wp2_with((refine wpList_load_row rfl 31 (.tmp 4) rfl _ rfl _ _ _ _ hq.k.out Tryz.underlying31 rfl jb3 ?_));go_wp2_with fail;refine(specDo hm hq hf.out.1 hf.out.2).mono ?_;rintro e w5 hd
 obtain⟨A7,na7,ca7,A8,na8,ca8,A9,ca9,B2,nb2,cb2,B3,nb3,cb3,rfl,hX,hA,hb3⟩:=hd.parts HO.out;replace hm:=hm.step hb3;replace hq:=hq.step hb3;replace HB:=Below.t HB hb3;replace hx:=hx.step hb3;replace ha:=ha.step hb3;clear hb3 hd x0 x1 x2;go_upto_region 7 with fail
 refine wp_HA hX hA ?_;intro w6 hy hb hb3;replace hm:=hm.step hb3;replace hq:=hq.step hb3;replace HB:=Below.t HB hb3;replace hx:=hx.step hb3;replace ha:=ha.step hb3;clear hb3 hX hA;obtain⟨x0,x1,x2⟩:=hx.cells;obtain⟨y0,y1,y2⟩:=hy.cells;go_wp2_with fail;refine(jqp hx hy).mono ?_;rintro e w7 ⟨rfl,hb3⟩;replace hm:=hm.step hb3;replace hq:=hq.step hb3;replace HB:=Below.t HB hb3
 replace hx:=hx.step hb3;replace ha:=ha.step hb3;replace hy:=hy.step hb3;replace hb:=hb.step hb3;clear hb3 x0 x1 x2 y0 y1 y2;obtain⟨x0,x1,x2,x3⟩:=ha.cells;obtain⟨y0,y1,y2,y3⟩:=hb.cells;go_wp2_with fail;refine(jp8 ha hb).mono ?_;rintro e w8 ⟨rfl,hb3⟩;replace hm:=hm.step hb3;replace hq:=hq.step hb3;replace HB:=Below.t HB hb3;replace hx:=hx.step hb3;replace ha:=ha.step hb3
 clear hb3 x0 x1 x2 x3 y0 y1 y2 y3 hy hb;obtain⟨x0,x1,x2⟩:=hm.cells;go_wp2_with fail;refine(jhe _ hm.r.choose_spec hf.out.1).mono ?_;rintro e w9 ⟨rfl,hb3⟩;replace hm:=hm.step hb3;replace hq:=hq.step hb3;replace HB:=Below.t HB hb3;replace hx:=hx.step hb3;replace ha:=ha.step hb3;clear hb3 x0 x1 x2;have H0:=Ja (fun h=>code_zero h HO.out);cases hmo:Ys m
 ·have h0:=H0.out (by simp[hmo]);obtain⟨x0, -, -, -⟩:=ha.cells;rw[h0] at x0;go_wp2_with fail;refine(chOk_any _).mono ?_;rintro e w20 ⟨rfl,hb4⟩;go_wp2;go_ret;exact⟨rfl,Below.t HB hb4⟩
 obtain⟨q0,q1,q2,q3,q4,q5,q6,q7,q8,q9,q10,q11,q12,q13,q14⟩:=hq.cells;go_wp2_with fail;clear q0 q1 q2 q3 q4 q5 q6 q7 q8 q9 q10 q11 q12 q13 q14;refine(jhd _ hq.r.choose_spec hf.out.2).mono ?_;rintro e w10 ⟨rfl,hb3⟩;replace hm:=hm.step hb3;replace hq:=hq.step hb3;replace HB:=Below.t HB hb3;replace hx:=hx.step hb3;replace ha:=ha.step hb3;clear hb3;cases hro:Yw q
 ·have h0:=H0.out (by simp[hro]);obtain⟨x0, -, -, -⟩:=ha.cells;rw[h0] at x0;go_wp2_with fail;refine(chOk_any _).mono ?_;rintro e w20 ⟨rfl,hb4⟩;go_wp2;go_ret;exact⟨rfl,Below.t HB hb4⟩
 have HOK:=Ja (And.intro hmo hro);have HD:=Ja (show Zn m q=(x,a) by rw[←HO.out,jhr HOK.out]);clear hmo hro H0;have HST:=Ja (show x=m∧a=(⟨2,[],[],0⟩:Ans) from by
  have h:=stranger (m:=m) (r:=q) (knows_not (HOKD.out.2 HOK.out.1).1 HK0.out);rw[HD.out] at h;exact⟨congrArg Prod.fst h,congrArg Prod.snd h⟩)
 obtain⟨a0,a1,a2,a3⟩:=ha.cells;go_wp2_with fail;refine(je2 _ ha.r.choose_spec (Wo 2 _)).mono ?_;rintro e w20 ⟨rfl,hb4⟩;rw[decide_eq_true (show a=Go.Proofs.YtlkoaobaoffpaaaGreatDoor.code 2 from HST.out.2)];replace hm:=hm.step hb4;replace hx:=hx.step hb4;replace HB:=Below.t HB hb4;clear a0 a1 a2 a3 hb4;obtain⟨m0,m1,m2⟩:=hm.cells;obtain⟨x0,x1,x2⟩:=hx.cells;go_wp2_with fail
 refine(chModel_two hx hm).mono ?_;rintro e w21 ⟨rfl,hb4⟩;rw[decide_eq_true HST.out.1];go_wp2;go_ret;exact⟨rfl,Below.t HB hb4⟩
def Opens {α H:Type} (enc:TypeId×Value→H) (P:Program) (t:TypeId) (r:Rp α) (ok:α→Prop):Prop:=
 ∀ {w:World} {base:Nat} {spare:Nat→Bool} {held:Bool} {fuel:Nat} {cs:List Value} {x:DataW H×List MemPlace},DataW.trod enc P w base spare held fuel t cs=some x→∃y fp,r.R w cs y fp∧ok y
section
variable {H:Type} {enc:TypeId×Value→H} {P:Program}
theorem opens_byte {t:TypeId} (ht:P.underlying t=some (.int .u8)):Opens enc P t Rp.byte (fun _=>True):=fun h=>by
 obtain⟨n,rfl,_,hw⟩:=DataW.trod_int ht h;simp[Lit.wf,IntKind.min,IntKind.max,IntKind.signed,IntKind.bits] at hw;refine⟨UInt8.ofNat n.toNat,[],⟨?_,rfl⟩,trivial⟩;have e:((UInt8.ofNat n.toNat).toNat:Int)=n:=by
  rw[UInt8.toNat_ofNat'];omega
 show [Value.int .u8 n]= [Value.int .u8 ((UInt8.ofNat n.toNat).toNat:Int)];rw[e]
theorem spot_none {w:World} {a:Addr} {v:Value} (h:w.cell? a=some v):a.spot=none:=by
 unfold World.cell? at h;split at h
 ·split at h
  ·cases h
  ·rename_i hs;simpa using hs
 ·cases h
theorem opens_rows {α:Type} {r:Rp α} {ok:α→Prop} {w:World} {base:Nat} {a:Addr} : ∀(len:Nat),(∀i,i<len→∃cs' y f,w.cells? base (a.add (i*r.k)) r.k=some cs'∧r.R w cs' y f∧ok y)→
  ∃xs l fp,l.length=len∧AllR r w xs l fp∧(∀y∈l,ok y)∧∀j u,xs[j]? =some u→w.cell? (a.add j)=some u
 | 0,_=>⟨[],[],[],rfl,⟨rfl,rfl⟩,by simp,by simp⟩
 |len+1,h=>by
  obtain⟨xs,l,fp,hl,ha,hok,hc⟩:=opens_rows len (fun i hi=>h i (by omega));obtain⟨cs',y,f,hcs,hr,hy⟩:=h len (by omega);obtain⟨_,hcl,hat⟩:=World.cells?_some hcs;have hxl:=ha.len;refine⟨xs++cs',l++ [y],fp++f,by simp[hl],ha.snoc hr,fun z hz=> ?_,fun j u hu=> ?_⟩
  ·rcases List.mem_append.1 hz with hz|hz
   ·exact hok z hz
   ·simp at hz;subst hz;exact hy
  ·by_cases hj:j<xs.length
   ·rw[List.getElem?_append_left hj] at hu;exact hc j u hu
   ·rw[List.getElem?_append_right (by omega)] at hu;have hlt:=(List.getElem?_eq_some_iff.1 hu).1;have:=hat (i:=j - xs.length) (by omega);rw[hu] at this;rw[Go.Deep.add_add,show len*r.k+(j - xs.length)=j from by rw[hl] at hxl;omega] at this;exact this
theorem opens_slice {α:Type} {r:Rp α} {ok:α→Prop} {t e:TypeId} (ht:P.underlying t=some (.slice e)) (hC:P.cellsOf e=r.k) (hk:0<r.k) (h:Opens enc P e r ok):Opens enc P t (Rp.slice r) (fun l=>∀y∈l,ok y):=fun {w base spare held fuel cs x} hr=>by
 rcases open_slice ht hr with ⟨rfl,_⟩|⟨a,len,cap,m,n,D,Pl,rfl,hb,hl,hm,hmm,_,hi⟩
 ·exact⟨[],[],⟨none,0,0,rfl,SlR.nil⟩,by simp⟩
 ·have hle:len≤m:=by rw[hmm];split<;>omega
  rw[hC] at hi;obtain⟨xs,l,fp,hlen,ha,hok,hc⟩:=opens_rows (r:=r) (ok:=ok) (w:=w) (base:=base) (a:=a) len (fun i hii=>by
   obtain⟨cs',hcs,htr⟩:=hi i (by omega);obtain⟨y,f,hR,hy⟩:=h htr;exact⟨cs',y,f,hcs,hR,hy⟩)
  have hxl:=ha.len;by_cases h0:len=0
  ·subst h0;have:l= []:=List.eq_nil_of_length_eq_zero hlen;subst this;obtain⟨rfl,rfl⟩:=ha;exact⟨[],[],⟨some a,0,cap,rfl,rfl,Nat.zero_le _,hm,[],[],[],⟨by simp,.inl ⟨rfl,rfl⟩⟩,⟨rfl,rfl⟩,rfl⟩,by simp⟩
  ·have hpos:0<xs.length:=by rw[hxl,hlen];exact Nat.mul_pos (by omega) hk
   have h00:=hc 0 xs[0] (List.getElem?_eq_getElem hpos);have ha0:a.add 0=a:=by simp[Addr.add]
   rw[ha0] at h00;obtain⟨b,o,s⟩:=a;have hs:s=none:=spot_none h00;subst hs;refine⟨l,[b]++fp,⟨_,len,cap,rfl,hlen.symm,hl,hm,xs,[b],fp,⟨by rw[hxl,hlen],.inr ⟨by omega,b,o,rfl,rfl,World.block_lt_of_cell? w _ h00,fun j u hu=> ?_⟩⟩,ha,rfl⟩,hok⟩;have:=hc j u hu;rwa [Addr.add_lit] at this
theorem post_of_below {f:Func} {s:ChangeSpec} {apart fresh handsOn again:Bool} {W W':World} {args:Array Value} {v:Value} {ds gs:List (DataW H)} {before pa pv:List MemPlace}
  (hW:DataW.Whole enc P f.params.toList s.vars apart W args.toList ds gs before)
  (hres: ∀(b:Nat) (sp:Nat→Bool) (hd:Bool),DataW.TrodAll enc P W' b sp hd f.resultTypes.toList (v.resultList f.resultTypes.size) (s.fn H (ds++gs)).results [])
  (hargs: ∀sp:Nat→Bool,(∀p∈before,sp p.block=true)→DataW.TrodAll enc P W' 0 sp true f.params.toList args.toList (s.fn H (ds++gs)).args pa)
  (hvars: ∀sp:Nat→Bool,(∀p∈before,sp p.block=true)→DataW.TrodVars enc P W' sp s.vars (s.fn H (ds++gs)).vars pv)
  (hps:before=pa++pv) (hb:Below W.heap.size W W')
  (hok: ∀(j:Nat) (t:TypeId) (r:Value),f.resultTypes[j]? =some t→(v.resultList f.resultTypes.size)[j]? =some r→Value.okWide P W' .any 0 t r):
  s.post enc P f apart fresh handsOn again W args v W':=by
 have hlt: ∀p∈before,p.block<W.heap.size:=fun p hp=>hW.lt p hp;have hold: ∀p∈before,(fun b=>decide (b<W.heap.size)) p.block=true:=fun p hp=>by simpa using hlt p hp
 refine⟨ds,gs,before,[],pa,pv,hW,hres _ _ _,hargs _ hold,hvars _ hold,World.keptBut_mono (fun p hp=>⟨hp, ?_⟩) (hb.frame (·∈before)),fun _=> ?_⟩
 ·rw[hps,List.mem_append] at hp;exact Or.inr hp
 ·obtain⟨_,_,_,_,_,hz,hn⟩:=hW;refine⟨hok,_,_,([]++pa)++pv,⟨[]++pa,pv,trodAll_append (hargs _ (fun _ _=>rfl)) (hres _ _ _),hvars _ (fun _ _=>rfl),rfl, ?_, ?_⟩, ?_⟩
  ·intro b off hp;have hin:MemPlace.cell b off∈before:=by rw[hps];simpa using hp
   rw[hb.frozen (hlt _ hin)];exact hz b off hin
  ·intro ha;have:=hn ha;rw[hps] at this;simpa using this
  ·intro p hp _;rw[hps];simpa using hp
end
theorem fnMdlStranger_own:ownKnob Tryz.prog.godebug=none:=by kernel_rfl
theorem fnMdlStranger_laidOut:laidOutB Tryz.prog=true:=by kernel_rfl
theorem fnMdlStranger_contract (H:Type) (enc:TypeId×Value→H) (W:World) (base:Nat) (args:Array Value) (ds gs:List (DataW H)) (before:List MemPlace)
  (hval0: ∀(j:Nat) t v,Tryz.f10.params[j]? =some t→args[j]? =some v→Value.okWide Tryz.prog W .any base t v)
  (hW:DataW.Whole enc Tryz.prog Tryz.f10.params.toList Rows.fnMdlStrangerSpec.vars false W args.toList ds gs before):
  Calls Tryz.prog 10 args W fun e W'=>∃v,e= .returned v∧Rows.fnMdlStrangerSpec.post enc Tryz.prog Tryz.f10 false true false false W args v W':=by
 have hval:=hval0;have hW':=hW;obtain⟨p,q,hA0,hV,rfl,hfz,hnd⟩:=hW;have hA:DataW.TrodAll enc Tryz.prog W 0 (fun _=>true) true Tryz.f10.params.toList args.toList ds p:=hA0;rw[Tryz.params10] at hA hval;obtain⟨v0,d0,rfl,rfl,h0⟩:=trodAll_one hA;obtain⟨rfl,rfl⟩:=trodVars_none hV;have h0k:=h0;obtain⟨a0,len0,cap0,rfl⟩:=okWide_slice Tryz.underlying22 (hval 0 22 v0 rfl rfl);obtain⟨fuel0,hf0⟩:=h0
 obtain⟨l0,fp0,⟨A0,n0,c0,hcs0,hs0⟩,hw0⟩:=opens_slice Tryz.underlying22 (by kernel_rfl) (by decide) (opens_byte Tryz.underlying5) hf0;have hc0:Value.slice a0 len0 cap0= .slice A0 n0 c0:=by simpa [Value.cells] using hcs0
 rw[hc0] at h0k hW' ⊢;clear hf0 hcs0 hc0;clear hA0 hval hval0;simp only[List.append_nil] at hW';refine(lawStranger W hs0).mono fun e W' ⟨he,hb⟩=> ?_;subst he;have hlt0: ∀y∈p,y.block<W.heap.size:=fun y hy=>hW'.lt y (by simp[hy])
 refine⟨_,rfl,post_of_below (pa:=p) (pv:=[]) hW' (fun _ _ _=>trodAll_mk1 (shut_bool Tryz.underlying4 _)) (fun sp hsp=> ?_) (fun _ _=>rfl) (by simp) hb (ok_one (by kernel_rfl) rfl (okWide_bool_mk Tryz.underlying4 _))⟩;exact trodAll_mk1 (WideElems.Trod_stays fnMdlStranger_laidOut (by kernel_rfl) (of_decide_eq_true (by kernel_rfl)) h0k (fun y hy=>hb.same (hlt0 y hy)) (fun y hy=>hsp y (by simp[hy])))
mutual
def fnMdlStranger_flat:DataW Unit→List Value
 | .lit l=>[l.value]
 | .agg ps=>fnMdlStranger_flats ps
 |_=>[]
def fnMdlStranger_flats:List (DataW Unit)→List Value
 | []=>[]
 |d::r=>fnMdlStranger_flat d++fnMdlStranger_flats r
end
noncomputable def fnMdlStranger_world (os:Os):World:=
 { World.holding Tryz.prog os ⟨#[],#[],[]⟩ with heap:=(((World.holding Tryz.prog os ⟨#[],#[],[]⟩).heap.modify 2 fun
   | .cells _ t frozen=> .cells (fnMdlStranger_flat Rows.laid_unicode_utf8_acceptRanges).toArray t frozen
   |o=>o).modify 1 fun
   | .cells _ t frozen=> .cells (fnMdlStranger_flat Rows.laid_unicode_utf8_first).toArray t frozen
   |o=>o)}
set_option maxRecDepth 100000 in
theorem fnMdlStranger_met (os:Os):laidMet Tryz.prog Rows.fnMdlStrangerRow.laid ((fnMdlStranger_world os).forCall (fun _ _=>0) ⟨#[],#[.slice none 0 0],[]⟩).memory:=
 laidMet_of_run' 8 (by kernel_rfl) (by kernel_rfl)
theorem fnMdlStranger_reads (os:Os) {H:Type} (enc:TypeId×Value→H): ∃x,DataW.whole enc Tryz.prog ((fnMdlStranger_world os).forCall (fun _ _=>0) ⟨#[],#[.slice none 0 0],[]⟩).memory Tryz.f10.params.toList Rows.fnMdlStrangerSpec.vars false (#[.slice none 0 0]:Array Value).toList 8=some x:=
 Option.isSome_iff_exists.1 (show(DataW.whole enc Tryz.prog ((fnMdlStranger_world os).forCall (fun _ _=>0) ⟨#[],#[.slice none 0 0],[]⟩).memory Tryz.f10.params.toList Rows.fnMdlStrangerSpec.vars false (#[.slice none 0 0]:Array Value).toList 8).isSome=true by kernel_rfl)
theorem fnMdlStranger_lifted (os:Os) (started:os.Started) (H:Type) (enc:TypeId×Value→H) (F:Stop.Interp):
  ReturnsInHanded {} Tryz.checked os 10 .any ((OpenSpec.ofChange Rows.fnMdlStrangerSpec).preRow enc Tryz.prog Tryz.f10 Rows.fnMdlStrangerRow.domain false Rows.fnMdlStrangerRow.laid) (((OpenSpec.ofChange Rows.fnMdlStrangerSpec).at F).post enc Tryz.prog Tryz.f10 false true false false):=by
 obtain⟨x0,hx⟩:=fnMdlStranger_reads os enc;refine returnsInHanded_of_row (C:=Tryz.checked) (s:=OpenSpec.ofChange Rows.fnMdlStrangerSpec) fnMdlStranger_own started (by kernel_rfl) Tryz.func10
  (witness_row_at (enc:=enc) (C:=Tryz.checked) false (fnMdlStranger_world os) #[.slice none 0 0] rfl (by kernel_rfl) (by kernel_rfl) (by kernel_rfl)
   (OpenSpec.preRow_of_cond 8 hx (by kernel_rfl) (fun k hk=>by cases hk) (by kernel_rfl) (fnMdlStranger_met os))) ?_
 intro W base args ds gs before hval hW _ _ _ _ _ _;exact fnMdlStranger_contract H enc W base args ds gs before hval hW
theorem fnMdlStranger_closed:joinedFacts Tryz.pinned.checked.prog 10 Tryz.f10 (OpenSpec.ofChange Rows.fnMdlStrangerSpec).bare Rows.fnMdlStrangerRow=true:=by
 unfold joinedFacts;simp only[Bool.and_eq_true]
 repeat' apply And.intro
 all_goals(as_aux_lemma=>kernel_rfl)
theorem fnMdlStranger_said:Rows.FnMdlStrangerSaid:=
 OpenClaim.holds_of_cond 10 Tryz.f10 rfl rfl rfl rfl rfl rfl rfl ⟨rfl,rfl,rfl,rfl,rfl⟩ rfl rfl rfl rfl rfl (by kernel_rfl) Tryz.func10 fnMdlStranger_closed
  (of_decide_eq_true (by kernel_rfl)) (by unfold Func.isWrapper;first|(rw[if_pos (by decide+kernel)];kernel_rfl)|(rw[if_neg (by decide+kernel)];exact⟨rfl,rfl⟩))
  (fun os started H enc _ F=>by rw[OpenClaim.pre_eq_preRow];exact fnMdlStranger_lifted os started H enc F)
theorem fnMdlStranger_plain (f:FuncId) (fn:Func) (hf:Tryz.pinned.checked.prog.funcNamed "loop.example/chartulary/laws.FnMdlStranger" =some f) (hfn:Tryz.pinned.checked.prog.funcs[f]? =some fn):
  false=Tryz.pinned.checked.prog.looks []∧∀(j:Nat) t,fn.params[j]? =some t→Tryz.pinned.checked.prog.wantsStandIn t=false:=by
 obtain rfl:f=10:=Option.some.inj ((show Tryz.prog.funcNamed "loop.example/chartulary/laws.FnMdlStranger" =some 10 by kernel_rfl).symm.trans hf) |>.symm;obtain rfl:fn=Tryz.f10:=(Option.some.inj (Tryz.func10.symm.trans hfn)).symm;refine⟨by kernel_rfl,fun j t ht=> ?_⟩;rw[Tryz.params10] at ht;have hm:=Array.mem_of_getElem? ht;simp only[List.mem_toArray,List.mem_cons,List.not_mem_nil,or_false] at hm
 rcases hm with rfl
 ·exact(show Tryz.prog.wantsStandIn 22=false by kernel_rfl)
theorem fnMdlStranger_holds:Rows.FnMdlStrangerCardSaid:=
 Claim7.holds_tied_plain_at .later [] _ _ _ _ fnMdlStranger_said (fun _ h=>by cases h) (by kernel_rfl) (fun _ h=>by cases h) fnMdlStranger_row_tie rfl ⟨rfl,rfl⟩ (by kernel_rfl) rfl fnMdlStranger_plain (by kernel_rfl)
#print axioms fnMdlStranger_holds
end Go.Proofs.YtlkoaobaoffpaaaGreatDoor
