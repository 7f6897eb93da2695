/- FnMdlLimits: for every input the law answers true and leaves its arguments as they were. Conditions: the listed library tables read as the tie says. -/
import Derived.ProofKit
import Derived.Deep.Slices
import Derived.Deep.Fields
import Derived.WalkKit
import Derived.OpenShut
import Derived.ChangeMaps5
import Derived.Deep.DeepHandedRow
import Derived.Lib.LaidTab
import Derived.SevenTiedAt
import Derived.Test.YtheifkmggcenpaaGreatDoorZ7
import Derived.Test.YtheifkmggcenpaaGreatDoorZ35
import Derived.Test.YtheifkmggcenpaaGreatDoorZ1
import Derived.Test.YtheifkmggcenpaaGreatDoorCards
import Derived.Test.YtheifkmggcenpaaGreatDoorTie
namespace Go.Proofs.YtheifkmggcenpaaGreatDoor
open Go.RowKit
attribute [local go_sem ↓] Go.wp_at_zero Go.wp_at_succ
open Go.ChangeShapes Go.WideShapes Go.ChangeAt Go.RowKit Go.Deep
set_option maxHeartbeats 8000000
set_option maxRecDepth 100000
set_option linter.unusedSimpArgs false
set_option linter.unusedVariables false
theorem mdlDo_either (m:Jl) (r:Req):Ys (jai m r).1=true∨(jai m r).1=⟨[],[],[]⟩:=by
 by_cases h:Ys m=true∧Yw r=true
 ·rw[jhr h];exact .inl (jh2 h.1 h.2)
 ·rw[jdn h];exact .inr rfl
theorem limits (m:Jl) (r:Req):(∀p∈(jai m r).1.Rz,p.Uz.length≤6∧p.Fz.length≤3∧∀f∈p.Fz,f.Vz.length≤3∧f.count≤14)∧∀n∈(jai m r).1.used,n≤200:=by
 rcases mdlDo_either m r with h|h
 ·obtain⟨h1, -,h3⟩:=Jo.1 h;refine⟨fun p hp=> ?_,fun n hn=>((J8.1 h1).2.2.2 n hn).2⟩;obtain⟨k1, -, -, -,k5,k6⟩:=Yj.1 (h3 p hp);exact⟨(Zi.1 k5).1,k6,fun f hf=>by obtain⟨a,b, -⟩:=Z2.1 (k1 f hf);omega⟩
 ·rw[h];simp
theorem lawLimits (w:World) {A:Option Addr} {n c:Nat} {code:List UInt8} {fp:List Nat} (hx:SlR Rp.byte w A n c code fp):
  Calls Tryz.prog 14 #[.slice A n c] w fun e w'=>e= .returned (.bool true)∧Below w.heap.size w w':=by
 obtain⟨rfl,hcx,hmx,_⟩:=id hx;unfold maxLen at hmx;go_enter Tryz.func14,Tryz.ntmps14;by_cases hq:(1048576:Int)<(code.length:Int)
 ·go_wp2;go_ret;exact⟨rfl,Below.refl _ _⟩
 ·go_wp2_with fail;refine(jp5 _ hx).mono ?_;rintro e w1 ⟨m,q,A0,n0,c0,A1,n1,c1,A2,n2,c2,A3,c3,f,fq,rfl,hR,hQ,hok,hsm, -, -,HB⟩;clear hx;go_upto_region 4 with fail
  refine wp_HQ ⟨_,hR⟩ ⟨_,hQ⟩ ?_;intro w2 hm hq hb2;replace HB:=Below.t HB hb2;have hf:=Ja (And.intro hok.1 (jo1 hsm));obtain⟨x,a,ho⟩: ∃x a,jai m q=(x,a):=⟨_,_,rfl⟩;have HO:=Ja ho;clear hR hQ hb2 hok hsm ho;obtain⟨x0,x1,x2⟩:=hm.cells;go_wp2_with((refine wpList_load_row rfl 31 (.tmp 4) rfl _ rfl _ _ _ _ hq.k.out Tryz.underlying31 rfl jb3 ?_));go_wp2_with fail
  refine(implDo hm hq hf.out.1 hf.out.2).mono ?_;rintro e w3 hd;obtain⟨A4,n4,c4,A5,n5,c5,A6,c6,B0,k0,d0,B1,k1,d1,rfl,hX,hA,hb3⟩:=hd.parts HO.out;replace hm:=hm.step hb3;replace hq:=hq.step hb3;replace HB:=Below.t HB hb3;clear hb3 hd x0 x1 x2;go_upto_region 5 with fail
  refine wp_HA hX hA ?_;intro w4 hx ha hb3;replace hm:=hm.step hb3;replace hq:=hq.step hb3;replace HB:=Below.t HB hb3;clear hb3 hX hA;obtain⟨x0,x1,x2⟩:=hm.cells;go_wp2_with((refine wpList_load_row rfl 31 (.tmp 4) rfl _ rfl _ _ _ _ hq.k.out Tryz.underlying31 rfl jb3 ?_));go_wp2_with fail;refine(specDo hm hq hf.out.1 hf.out.2).mono ?_;rintro e w5 hd
  obtain⟨A7,n7,c7,A8,n8,c8,A9,c9,B2,k2,d2,B3,k3,d3,rfl,hX,hA,hb3⟩:=hd.parts HO.out;replace hm:=hm.step hb3;replace hq:=hq.step hb3;replace hx:=hx.step hb3;replace ha:=ha.step hb3;replace HB:=Below.t HB hb3;clear hb3 hd x0 x1 x2;go_upto_region 6 with fail
  refine wp_HA hX hA ?_;intro w6 hy hb hb3;replace hm:=hm.step hb3;replace hq:=hq.step hb3;replace hx:=hx.step hb3;replace ha:=ha.step hb3;replace HB:=Below.t HB hb3;clear hb3 hX hA;obtain⟨x0,x1,x2⟩:=hx.cells;obtain⟨y0,y1,y2⟩:=hy.cells;go_wp2_with fail;refine(jqp hx hy).mono ?_;rintro e w7 ⟨rfl,hb3⟩;replace hm:=hm.step hb3;replace hq:=hq.step hb3;replace hx:=hx.step hb3
  replace ha:=ha.step hb3;replace hb:=hb.step hb3;replace HB:=Below.t HB hb3;clear hb3 x0 x1 x2 y0 y1 y2;obtain⟨x0,x1,x2,x3⟩:=ha.cells;obtain⟨y0,y1,y2,y3⟩:=hb.cells;go_wp2_with fail;refine(jp8 ha hb).mono ?_;rintro e w8 ⟨rfl,hb3⟩;replace hm:=hm.step hb3;replace hq:=hq.step hb3;replace hx:=hx.step hb3;replace ha:=ha.step hb3;replace HB:=Below.t HB hb3;clear hb3 x0 x1 x2 x3 y0 y1 y2 y3
  obtain⟨x0,x1,x2⟩:=hx.cells;obtain⟨fr,hr⟩:=hx.Rz;obtain⟨-,hcr,hmr, -⟩:=id hr;unfold maxLen at hmr;have hlim:=Ja (limits m q);rw[HO.out] at hlim;go_wp2
  go_loopw [9] (fun i wr=>∃k:Nat,k≤x.Rz.length∧i= .int .i64 k∧Below w8.heap.size w8 wr) (fun i _=>x.Rz.length - (intOf i).toNat)
  case atStart=>exact⟨0,Nat.zero_le _,rfl,Below.refl _ _⟩
  case round=>
   obtain⟨k,hk,rfl,hbl⟩:=hrel;replace x1:=Je x1 hbl;replace x2:=Je x2 hbl;by_cases hlt:k<x.Rz.length
   ·obtain⟨b,o,A3,n3,e3,f3,A4,n4,e4,f4,rfl, -, -,p0,p1,p2,s1,s2, -⟩:=J7 (hr.step hbl) hlt;obtain⟨rfl,hcs1,hms1,_⟩:=id s1;obtain⟨rfl,hcs,hms,_⟩:=id s2;unfold maxLen at hms hms1;obtain⟨l1,l2,l3⟩:=hlim.out.1 _ (List.getElem_mem hlt);have i0:(0:Int)≤(k:Int):=by omega
    have i1:(k:Int)<(x.Rz.length:Int):=by omega
    have L3:=Ja l3;clear l3 s1 p0;go_wp2
    go_loopw [10] (fun i wr2=>∃j:Nat,j≤x.Rz[k].Fz.length∧i= .int .i64 j∧Below wr.heap.size wr wr2) (fun i _=>x.Rz[k].Fz.length - (intOf i).toNat)
    case atStart=>exact⟨0,Nat.zero_le _,rfl,Below.refl _ _⟩
    case round=>
     obtain⟨j,hj,rfl,hbj⟩:=hrel;replace x2:=Je x2 hbj;replace p2:=Je p2 hbj;by_cases hltj:j<x.Rz[k].Fz.length
     ·obtain⟨b',o',A8,n8,e8,f8,rfl, -, -,q0,q1,q2,q3,t1, -⟩:=J3 (s2.step hbj) hltj;obtain⟨rfl,htc,htm, -⟩:=id t1;unfold maxLen at htm;obtain⟨m1,m2⟩:=L3.out _ (List.getElem_mem hltj);have j0:(0:Int)≤(j:Int):=by omega
      have j1:(j:Int)<(x.Rz[k].Fz.length:Int):=by omega
      clear t1;go_upto_region 17 with fail
      refine wp_New ?_;intro w9 k9 hb9;have z2:w9.cell? ⟨_,2,none⟩=_:=k9.cell 2;have z3:w9.cell? ⟨_,3,none⟩=_:=k9.cell 3;simp only[List.getElem?_toArray,List.getElem?_cons_zero,List.getElem?_cons_succ] at z2 z3;go_wp2;exact⟨⟨j+1,by omega,by go_num,Below.t hbj hb9⟩,by simp[intOf];omega⟩
     ·have hj':j=x.Rz[k].Fz.length:=by omega
      subst hj';go_wp2;exact⟨⟨k+1,by omega,by go_num,Below.t hbl hbj⟩,by simp[intOf];omega⟩
   ·have hk':k=x.Rz.length:=by omega
    subst hk';obtain⟨fu,hu⟩:=hx.used;obtain⟨rfl,hcu,hmu, -⟩:=id hu;unfold maxLen at hmu;go_wp2
    go_loopw [12] (fun i wr2=>∃j:Nat,j≤x.used.length∧i= .int .i64 j∧Below wr.heap.size wr wr2) (fun i _=>x.used.length - (intOf i).toNat)
    case atStart=>exact⟨0,Nat.zero_le _,rfl,Below.refl _ _⟩
    case round=>
     obtain⟨j,hj,rfl,hbj⟩:=hrel;replace x1:=Je x1 hbj;by_cases hltj:j<x.used.length
     ·obtain⟨b',o',rfl, -, -,u0⟩:=Xg (hu.step (Below.t hbl hbj)) hltj;have m1:=hlim.out.2 _ (List.getElem_mem hltj);have j0:(0:Int)≤(j:Int):=by omega
      have j1:(j:Int)<(x.used.length:Int):=by omega
      go_wp2;exact⟨⟨j+1,by omega,by go_num,hbj⟩,by simp[intOf];omega⟩
     ·have hj':j=x.used.length:=by omega
      subst hj';have hb9:=Below.t hbl hbj;replace hm:=hm.step hb9;replace HB:=Below.t HB hb9;obtain⟨y0,y1,y2⟩:=hm.cells;obtain⟨fm,hmR⟩:=hm.r;have C1:=fun(n:BelowW wr)=>jhy _ (Rp.house.below hmR n.property nle) hf.out.1;have C2:=fun(n:BelowW wr)=>jhe _ (Rp.house.below hmR n.property nle) hf.out.1;generalize Ys m=bm at C1 C2;have D1:=Ja C1;have D2:=Ja C2
      clear C1 C2 hmR hbl hbj hb9;go_upto_region 24 with fail
      have n0:=BelowW.nonempty wr;have ex0:=BelowW.ex (w:=wr);have g0:=fun n:BelowW wr=>n.cell y0;have g1:=fun n:BelowW wr=>n.cell y1;have g2:=fun n:BelowW wr=>n.cell y2;clear y0 y1 y2 x1 x2;cases bm
      all_goals
       refine Jf (by kernel_rfl) (by kernel_rfl) ?_
       repeat(go_big_quiet_step(first|(go_at_call 27;exact BelowW.calls _ (D1.out _))|(go_at_call 20;exact BelowW.calls _ (D2.out _))|(go_at_call 22;exact BelowW.calls _ (chOk_any _))))
       refine wpQuiet_nil ?_;rintro w9 ⟨m9,hw9⟩;have hb9:=m9.property;rw[←hw9] at hb9;clear hw9 m9;go_wp2;go_ret;exact⟨rfl,Below.t HB hb9⟩
def Opens {α H:Type} (enc:TypeId×Value→H) (P:Program) (t:TypeId) (r:Rp α) (ok:α→Prop):Prop:=
 ∀ {w:World} {base:Nat} {spare:Nat→Bool} {held:Bool} {fuel:Nat} {cs:List Value} {x:DataW H×List MemPlace},DataW.trod enc P w base spare held fuel t cs=some x→∃y fp,r.R w cs y fp∧ok y
section
variable {H:Type} {enc:TypeId×Value→H} {P:Program}
theorem opens_byte {t:TypeId} (ht:P.underlying t=some (.int .u8)):Opens enc P t Rp.byte (fun _=>True):=fun h=>by
 obtain⟨n,rfl,_,hw⟩:=DataW.trod_int ht h;simp[Lit.wf,IntKind.min,IntKind.max,IntKind.signed,IntKind.bits] at hw;refine⟨UInt8.ofNat n.toNat,[],⟨?_,rfl⟩,trivial⟩;have e:((UInt8.ofNat n.toNat).toNat:Int)=n:=by
  rw[UInt8.toNat_ofNat'];omega
 show [Value.int .u8 n]= [Value.int .u8 ((UInt8.ofNat n.toNat).toNat:Int)];rw[e]
theorem spot_none {w:World} {a:Addr} {v:Value} (h:w.cell? a=some v):a.spot=none:=by
 unfold World.cell? at h;split at h
 ·split at h
  ·cases h
  ·rename_i hs;simpa using hs
 ·cases h
theorem opens_rows {α:Type} {r:Rp α} {ok:α→Prop} {w:World} {base:Nat} {a:Addr} : ∀(len:Nat),(∀i,i<len→∃cs' y f,w.cells? base (a.add (i*r.k)) r.k=some cs'∧r.R w cs' y f∧ok y)→
  ∃xs l fp,l.length=len∧AllR r w xs l fp∧(∀y∈l,ok y)∧∀j u,xs[j]? =some u→w.cell? (a.add j)=some u
 | 0,_=>⟨[],[],[],rfl,⟨rfl,rfl⟩,by simp,by simp⟩
 |len+1,h=>by
  obtain⟨xs,l,fp,hl,ha,hok,hc⟩:=opens_rows len (fun i hi=>h i (by omega));obtain⟨cs',y,f,hcs,hr,hy⟩:=h len (by omega);obtain⟨_,hcl,hat⟩:=World.cells?_some hcs;have hxl:=ha.len;refine⟨xs++cs',l++ [y],fp++f,by simp[hl],ha.snoc hr,fun z hz=> ?_,fun j u hu=> ?_⟩
  ·rcases List.mem_append.1 hz with hz|hz
   ·exact hok z hz
   ·simp at hz;subst hz;exact hy
  ·by_cases hj:j<xs.length
   ·rw[List.getElem?_append_left hj] at hu;exact hc j u hu
   ·rw[List.getElem?_append_right (by omega)] at hu;have hlt:=(List.getElem?_eq_some_iff.1 hu).1;have:=hat (i:=j - xs.length) (by omega);rw[hu] at this;rw[Go.Deep.add_add,show len*r.k+(j - xs.length)=j from by rw[hl] at hxl;omega] at this;exact this
theorem opens_slice {α:Type} {r:Rp α} {ok:α→Prop} {t e:TypeId} (ht:P.underlying t=some (.slice e)) (hC:P.cellsOf e=r.k) (hk:0<r.k) (h:Opens enc P e r ok):Opens enc P t (Rp.slice r) (fun l=>∀y∈l,ok y):=fun {w base spare held fuel cs x} hr=>by
 rcases open_slice ht hr with ⟨rfl,_⟩|⟨a,len,cap,m,n,D,Pl,rfl,hb,hl,hm,hmm,_,hi⟩
 ·exact⟨[],[],⟨none,0,0,rfl,SlR.nil⟩,by simp⟩
 ·have hle:len≤m:=by rw[hmm];split<;>omega
  rw[hC] at hi;obtain⟨xs,l,fp,hlen,ha,hok,hc⟩:=opens_rows (r:=r) (ok:=ok) (w:=w) (base:=base) (a:=a) len (fun i hii=>by
   obtain⟨cs',hcs,htr⟩:=hi i (by omega);obtain⟨y,f,hR,hy⟩:=h htr;exact⟨cs',y,f,hcs,hR,hy⟩)
  have hxl:=ha.len;by_cases h0:len=0
  ·subst h0;have:l= []:=List.eq_nil_of_length_eq_zero hlen;subst this;obtain⟨rfl,rfl⟩:=ha;exact⟨[],[],⟨some a,0,cap,rfl,rfl,Nat.zero_le _,hm,[],[],[],⟨by simp,.inl ⟨rfl,rfl⟩⟩,⟨rfl,rfl⟩,rfl⟩,by simp⟩
  ·have hpos:0<xs.length:=by rw[hxl,hlen];exact Nat.mul_pos (by omega) hk
   have h00:=hc 0 xs[0] (List.getElem?_eq_getElem hpos);have ha0:a.add 0=a:=by simp[Addr.add]
   rw[ha0] at h00;obtain⟨b,o,s⟩:=a;have hs:s=none:=spot_none h00;subst hs;refine⟨l,[b]++fp,⟨_,len,cap,rfl,hlen.symm,hl,hm,xs,[b],fp,⟨by rw[hxl,hlen],.inr ⟨by omega,b,o,rfl,rfl,World.block_lt_of_cell? w _ h00,fun j u hu=> ?_⟩⟩,ha,rfl⟩,hok⟩;have:=hc j u hu;rwa [Addr.add_lit] at this
theorem post_of_below {f:Func} {s:ChangeSpec} {apart fresh handsOn again:Bool} {W W':World} {args:Array Value} {v:Value} {ds gs:List (DataW H)} {before pa pv:List MemPlace}
  (hW:DataW.Whole enc P f.params.toList s.vars apart W args.toList ds gs before)
  (hres: ∀(b:Nat) (sp:Nat→Bool) (hd:Bool),DataW.TrodAll enc P W' b sp hd f.resultTypes.toList (v.resultList f.resultTypes.size) (s.fn H (ds++gs)).results [])
  (hargs: ∀sp:Nat→Bool,(∀p∈before,sp p.block=true)→DataW.TrodAll enc P W' 0 sp true f.params.toList args.toList (s.fn H (ds++gs)).args pa)
  (hvars: ∀sp:Nat→Bool,(∀p∈before,sp p.block=true)→DataW.TrodVars enc P W' sp s.vars (s.fn H (ds++gs)).vars pv)
  (hps:before=pa++pv) (hb:Below W.heap.size W W')
  (hok: ∀(j:Nat) (t:TypeId) (r:Value),f.resultTypes[j]? =some t→(v.resultList f.resultTypes.size)[j]? =some r→Value.okWide P W' .any 0 t r):
  s.post enc P f apart fresh handsOn again W args v W':=by
 have hlt: ∀p∈before,p.block<W.heap.size:=fun p hp=>hW.lt p hp;have hold: ∀p∈before,(fun b=>decide (b<W.heap.size)) p.block=true:=fun p hp=>by simpa using hlt p hp
 refine⟨ds,gs,before,[],pa,pv,hW,hres _ _ _,hargs _ hold,hvars _ hold,World.keptBut_mono (fun p hp=>⟨hp, ?_⟩) (hb.frame (·∈before)),fun _=> ?_⟩
 ·rw[hps,List.mem_append] at hp;exact Or.inr hp
 ·obtain⟨_,_,_,_,_,hz,hn⟩:=hW;refine⟨hok,_,_,([]++pa)++pv,⟨[]++pa,pv,trodAll_append (hargs _ (fun _ _=>rfl)) (hres _ _ _),hvars _ (fun _ _=>rfl),rfl, ?_, ?_⟩, ?_⟩
  ·intro b off hp;have hin:MemPlace.cell b off∈before:=by rw[hps];simpa using hp
   rw[hb.frozen (hlt _ hin)];exact hz b off hin
  ·intro ha;have:=hn ha;rw[hps] at this;simpa using this
  ·intro p hp _;rw[hps];simpa using hp
end
theorem fnMdlLimits_own:ownKnob Tryz.prog.godebug=none:=by kernel_rfl
theorem fnMdlLimits_laidOut:laidOutB Tryz.prog=true:=by kernel_rfl
theorem fnMdlLimits_contract (H:Type) (enc:TypeId×Value→H) (W:World) (base:Nat) (args:Array Value) (ds gs:List (DataW H)) (before:List MemPlace)
  (hval0: ∀(j:Nat) t v,Tryz.f14.params[j]? =some t→args[j]? =some v→Value.okWide Tryz.prog W .any base t v)
  (hW:DataW.Whole enc Tryz.prog Tryz.f14.params.toList Rows.fnMdlLimitsSpec.vars false W args.toList ds gs before):
  Calls Tryz.prog 14 args W fun e W'=>∃v,e= .returned v∧Rows.fnMdlLimitsSpec.post enc Tryz.prog Tryz.f14 false true false false W args v W':=by
 have hval:=hval0;have hW':=hW;obtain⟨p,q,hA0,hV,rfl,hfz,hnd⟩:=hW;have hA:DataW.TrodAll enc Tryz.prog W 0 (fun _=>true) true Tryz.f14.params.toList args.toList ds p:=hA0;rw[Tryz.params14] at hA hval;obtain⟨v0,d0,rfl,rfl,h0⟩:=trodAll_one hA;obtain⟨rfl,rfl⟩:=trodVars_none hV;have h0k:=h0;obtain⟨a0,len0,cap0,rfl⟩:=okWide_slice Tryz.underlying22 (hval 0 22 v0 rfl rfl);obtain⟨fuel0,hf0⟩:=h0
 obtain⟨l0,fp0,⟨A0,n0,c0,hcs0,hs0⟩,hw0⟩:=opens_slice Tryz.underlying22 (by kernel_rfl) (by decide) (opens_byte Tryz.underlying5) hf0;have hc0:Value.slice a0 len0 cap0= .slice A0 n0 c0:=by simpa [Value.cells] using hcs0
 rw[hc0] at h0k hW' ⊢;clear hf0 hcs0 hc0;clear hA0 hval hval0;simp only[List.append_nil] at hW';refine(lawLimits W hs0).mono fun e W' ⟨he,hb⟩=> ?_;subst he;have hlt0: ∀y∈p,y.block<W.heap.size:=fun y hy=>hW'.lt y (by simp[hy])
 refine⟨_,rfl,post_of_below (pa:=p) (pv:=[]) hW' (fun _ _ _=>trodAll_mk1 (shut_bool Tryz.underlying4 _)) (fun sp hsp=> ?_) (fun _ _=>rfl) (by simp) hb (ok_one (by kernel_rfl) rfl (okWide_bool_mk Tryz.underlying4 _))⟩;exact trodAll_mk1 (WideElems.Trod_stays fnMdlLimits_laidOut (by kernel_rfl) (of_decide_eq_true (by kernel_rfl)) h0k (fun y hy=>hb.same (hlt0 y hy)) (fun y hy=>hsp y (by simp[hy])))
mutual
def fnMdlLimits_flat:DataW Unit→List Value
 | .lit l=>[l.value]
 | .agg ps=>fnMdlLimits_flats ps
 |_=>[]
def fnMdlLimits_flats:List (DataW Unit)→List Value
 | []=>[]
 |d::r=>fnMdlLimits_flat d++fnMdlLimits_flats r
end
noncomputable def fnMdlLimits_world (os:Os):World:=
 { World.holding Tryz.prog os ⟨#[],#[],[]⟩ with heap:=(((World.holding Tryz.prog os ⟨#[],#[],[]⟩).heap.modify 2 fun
   | .cells _ t frozen=> .cells (fnMdlLimits_flat Rows.laid_unicode_utf8_acceptRanges).toArray t frozen
   |o=>o).modify 1 fun
   | .cells _ t frozen=> .cells (fnMdlLimits_flat Rows.laid_unicode_utf8_first).toArray t frozen
   |o=>o)}
set_option maxRecDepth 100000 in
theorem fnMdlLimits_met (os:Os):laidMet Tryz.prog Rows.fnMdlLimitsRow.laid ((fnMdlLimits_world os).forCall (fun _ _=>0) ⟨#[],#[.slice none 0 0],[]⟩).memory:=
 laidMet_of_run' 8 (by kernel_rfl) (by kernel_rfl)
theorem fnMdlLimits_reads (os:Os) {H:Type} (enc:TypeId×Value→H): ∃x,DataW.whole enc Tryz.prog ((fnMdlLimits_world os).forCall (fun _ _=>0) ⟨#[],#[.slice none 0 0],[]⟩).memory Tryz.f14.params.toList Rows.fnMdlLimitsSpec.vars false (#[.slice none 0 0]:Array Value).toList 8=some x:=
 Option.isSome_iff_exists.1 (show(DataW.whole enc Tryz.prog ((fnMdlLimits_world os).forCall (fun _ _=>0) ⟨#[],#[.slice none 0 0],[]⟩).memory Tryz.f14.params.toList Rows.fnMdlLimitsSpec.vars false (#[.slice none 0 0]:Array Value).toList 8).isSome=true by kernel_rfl)
theorem fnMdlLimits_lifted (os:Os) (started:os.Started) (H:Type) (enc:TypeId×Value→H) (F:Stop.Interp):
  ReturnsInHanded {} Tryz.checked os 14 .any ((OpenSpec.ofChange Rows.fnMdlLimitsSpec).preRow enc Tryz.prog Tryz.f14 Rows.fnMdlLimitsRow.domain false Rows.fnMdlLimitsRow.laid) (((OpenSpec.ofChange Rows.fnMdlLimitsSpec).at F).post enc Tryz.prog Tryz.f14 false true false false):=by
 obtain⟨x0,hx⟩:=fnMdlLimits_reads os enc;refine returnsInHanded_of_row (C:=Tryz.checked) (s:=OpenSpec.ofChange Rows.fnMdlLimitsSpec) fnMdlLimits_own started (by kernel_rfl) Tryz.func14
  (witness_row_at (enc:=enc) (C:=Tryz.checked) false (fnMdlLimits_world os) #[.slice none 0 0] rfl (by kernel_rfl) (by kernel_rfl) (by kernel_rfl)
   (OpenSpec.preRow_of_cond 8 hx (by kernel_rfl) (fun k hk=>by cases hk) (by kernel_rfl) (fnMdlLimits_met os))) ?_
 intro W base args ds gs before hval hW _ _ _ _ _ _;exact fnMdlLimits_contract H enc W base args ds gs before hval hW
theorem fnMdlLimits_closed:joinedFacts Tryz.pinned.checked.prog 14 Tryz.f14 (OpenSpec.ofChange Rows.fnMdlLimitsSpec).bare Rows.fnMdlLimitsRow=true:=by
 unfold joinedFacts;simp only[Bool.and_eq_true]
 repeat' apply And.intro
 all_goals(as_aux_lemma=>kernel_rfl)
theorem fnMdlLimits_said:Rows.FnMdlLimitsSaid:=
 OpenClaim.holds_of_cond 14 Tryz.f14 rfl rfl rfl rfl rfl rfl rfl ⟨rfl,rfl,rfl,rfl,rfl⟩ rfl rfl rfl rfl rfl (by kernel_rfl) Tryz.func14 fnMdlLimits_closed
  (of_decide_eq_true (by kernel_rfl)) (by unfold Func.isWrapper;first|(rw[if_pos (by decide+kernel)];kernel_rfl)|(rw[if_neg (by decide+kernel)];exact⟨rfl,rfl⟩))
  (fun os started H enc _ F=>by rw[OpenClaim.pre_eq_preRow];exact fnMdlLimits_lifted os started H enc F)
theorem fnMdlLimits_plain (f:FuncId) (fn:Func) (hf:Tryz.pinned.checked.prog.funcNamed "loop.example/chartulary/laws.FnMdlLimits" =some f) (hfn:Tryz.pinned.checked.prog.funcs[f]? =some fn):
  false=Tryz.pinned.checked.prog.looks []∧∀(j:Nat) t,fn.params[j]? =some t→Tryz.pinned.checked.prog.wantsStandIn t=false:=by
 obtain rfl:f=14:=Option.some.inj ((show Tryz.prog.funcNamed "loop.example/chartulary/laws.FnMdlLimits" =some 14 by kernel_rfl).symm.trans hf) |>.symm;obtain rfl:fn=Tryz.f14:=(Option.some.inj (Tryz.func14.symm.trans hfn)).symm;refine⟨by kernel_rfl,fun j t ht=> ?_⟩;rw[Tryz.params14] at ht;have hm:=Array.mem_of_getElem? ht;simp only[List.mem_toArray,List.mem_cons,List.not_mem_nil,or_false] at hm
 rcases hm with rfl
 ·exact(show Tryz.prog.wantsStandIn 22=false by kernel_rfl)
theorem fnMdlLimits_holds:Rows.FnMdlLimitsCardSaid:=
 Claim7.holds_tied_plain_at .later [] _ _ _ _ fnMdlLimits_said (fun _ h=>by cases h) (by kernel_rfl) (fun _ h=>by cases h) fnMdlLimits_row_tie rfl ⟨rfl,rfl⟩ (by kernel_rfl) rfl fnMdlLimits_plain (by kernel_rfl)
#print axioms fnMdlLimits_holds
end Go.Proofs.YtheifkmggcenpaaGreatDoor
