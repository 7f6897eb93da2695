/- Lemmas and walks, joined and shortened by program (wip/gen/merge2.py). -/
import Derived.Shelf.Spec.SlicesInsert
import Derived.Shelf.RegionOpenPlain
import Derived.Test.YtlkoaobaoffpaaaGreatDoorZ4
import Derived.Test.YtlkoaobaoffpaaaGreatDoorZ2
import Derived.Test.YtlkoaobaoffpaaaGreatDoorZ3
import Derived.Test.YtlkoaobaoffpaaaGreatDoorZ1
namespace Go.Proofs.YtlkoaobaoffpaaaGreatDoor
open Go.RowKit
attribute [local go_sem ↓] Go.wp_at_zero Go.wp_at_succ
set_option maxHeartbeats 8000000
set_option maxRecDepth 100000
set_option linter.unusedSimpArgs false
set_option linter.unusedVariables false
theorem jfx:(Tryz.prog.info? 42).map (fun i=>(i.zero,i.size,i.bytes))=some (some (.slice none 0 0),1,24):=by kernel_rfl
theorem jee {A:Option Addr} {n c:Nat} {l:List (List File)} {fp:List Nat} (w:World) (hx:SlR (Rp.slice Rp.file) w A n c l fp) (hl:l.length≤4194304) (hf: ∀f∈l,f.length≤4194304):
  Calls Tryz.prog 92 #[.slice A n c] w fun e w'=>∃v,e= .returned v∧OwB (Rp.slice Rp.file) 42 w.heap.size v l w'∧Below w.heap.size w w':=by
 obtain⟨rfl,hcx,hmx,_⟩:=id hx;obtain⟨i0,hi,hz0,hz1,hz2⟩:=info_parts jfx;have HF:=Ja hf;clear hf hcx hmx;go_enter Tryz.func92,Tryz.ntmps92;go_wp2
 go_loopw [3,8] (fun v i wr=>∃k:Nat,k≤l.length∧i= .int .i64 k∧OwB (Rp.slice Rp.file) 42 w.heap.size v (l.take k) wr∧Below w.heap.size w wr) (fun _ i _=>l.length - (intOf i).toNat)
 case atStart=>exact⟨0,Nat.zero_le _,rfl,OwB.nil,Below.refl _ _⟩
 case round=>
  obtain⟨k,hk,rfl,hown,hbl⟩:=hrel;have HO:=Ja hown;clear hown;by_cases hlt:k<l.length
  ·obtain⟨b,o,A',n',c',f,rfl,hb,hm,q0,hs,_⟩:=Vv (hx.step hbl) hlt;have HK:=Ja (show(l.take k).length=k by simp;omega);have HT:=Ja (List.take_succ_eq_append_getElem hlt);have i1:(k:Int)<(l.length:Int):=by omega
   go_wp2_with fail;refine(Xk _ hs (HF.out _ (List.getElem_mem hlt))).mono ?_;rintro e w1 hfr;obtain⟨A1,c1,f1,rfl,hs1,hn1,hl1,hf1,hb1⟩:=OwnF.sl (k:=2) (enc:=Jj) (hk:=fun _=>rfl) (h1:=Vz) hfr;obtain⟨xs,ho,hgrow⟩:=HO.out.grow;obtain⟨hoA,hsn⟩:=hgrow (hb1.alloc hb1.size (.cells #[.slice A1 l[k].length c1] 42))
   have HSZ:=Ja (show(w1.alloc (.cells #[.slice A1 l[k].length c1] 42)).heap.size=w1.heap.size+1 by simp);have hs9:=(hsn (ys:=[.slice A1 l[k].length c1]) (y:=l[k]) ⟨A1,_,c1,rfl,hs1.allocN _⟩ hn1 hl1 hbl.size (hf1.step ((Below.refl _ _).alloc nle _)) HSZ.out);rw[HK.out] at hs9 hoA;have HS:=Ja hs9
   have HB1:=Ja ((Below.t hbl hb1).alloc (Below.t hbl hb1).size (.cells #[.slice A1 l[k].length c1] 42));have HV:=Ja HO.out.vlow;clear hs9 ho hsn hgrow hb1 hs1 hn1 hl1 hf1 hfr q0 hs
   go_wp2_with(at_builtin;refine wpList_append_lies _ rfl _ _ 39 rfl 0 42 i0 _ 1 24 Tryz.underlying39 hi hz0 hz1 hz2 rfl (by decide) _ _ _ rfl hoA ⟨w1.heap.size,0,none⟩ 1 1 [.slice A1 l[k].length c1] rfl rfl (Jm w1 _ _) (by intro u hu;simp at hu;subst hu;rfl) (by decide) (by unfold maxLen;omega) (by omega) (Nat.zero_le _) (w1.heap.size+1) HSZ.out ?_);intro g cap w2 ho2 hgr hor hlt2
   have HN:=Ja (HS.out _ _ _ ho2 hgr hor);have HBB:=Ja (je3 HB1.out hgr HV.out);clear ho2 hgr hor hoA;go_wp2;exact⟨⟨k+1,by omega,by go_num,by rw[HT.out];exact HN.out,HBB.out⟩,by simp[intOf];omega⟩
  ·have hk':k=l.length:=by omega
   subst hk';have HE:=Ja (show l.take l.length=l from List.take_of_length_le nle);go_wp2;go_ret;exact⟨_,rfl,by have h:=HO.out;rw[HE.out] at h;exact h,hbl⟩
theorem jhu {cs:List Value} {x:Ref} {fx:List Nat} (w:World) (hx:Rp.ref.R w cs x fx) (hl:x.Vz.length≤4194304) (hf: ∀f∈x.Vz,f.length≤4194304):
  Calls Tryz.prog 99 #[.agg cs.toArray] w (FreshR Rp.refO w x):=by
 obtain⟨A0,n0,c0,f0,rfl,_,h0⟩:=hx;obtain rfl:=h0.1;have hmx:=h0.max;obtain⟨i0,hi,hz0,hz1,hz2⟩:=info_parts jfx;have HF:=Ja hf;clear hf;have k1:=Blk.new w 41 #[.string x.name,.bool x.guard,.int .i64 x.count,.slice A0 x.Vz.length c0]
 have k2:=Blk.new (w.alloc (.cells #[.string x.name,.bool x.guard,.int .i64 x.count,.slice A0 x.Vz.length c0] 41)) 41 #[.string ⟨#[]⟩,.bool false,.int .i64 0,.slice none 0 0];replace k1:=k1.alloc (.cells #[.string ⟨#[]⟩,.bool false,.int .i64 0,.slice none 0 0] 41)
 have HB0:=Ja (((Below.refl w.heap.size w).alloc nle (.cells #[.string x.name,.bool x.guard,.int .i64 x.count,.slice A0 x.Vz.length c0] 41)).alloc (by simp) (.cells #[.string ⟨#[]⟩,.bool false,.int .i64 0,.slice none 0 0] 41))
 replace h0:=(h0.allocN (.cells #[.string x.name,.bool x.guard,.int .i64 x.count,.slice A0 x.Vz.length c0] 41)).allocN (.cells #[.string ⟨#[]⟩,.bool false,.int .i64 0,.slice none 0 0] 41);rw[show(w.alloc (.cells #[.string x.name,.bool x.guard,.int .i64 x.count,.slice A0 x.Vz.length c0] 41)).heap.size=w.heap.size+1 by simp] at k2
 have HSZ0:=Ja (show((w.alloc (.cells #[.string x.name,.bool x.guard,.int .i64 x.count,.slice A0 x.Vz.length c0] 41)).alloc (.cells #[.string ⟨#[]⟩,.bool false,.int .i64 0,.slice none 0 0] 41)).heap.size=w.heap.size+1+1 by simp);go_enter Tryz.func99,Tryz.ntmps99;go_wp2_with fail
 generalize hW0:(w.alloc (.cells #[.string x.name,.bool x.guard,.int .i64 x.count,.slice A0 x.Vz.length c0] 41)).alloc (.cells #[.string ⟨#[]⟩,.bool false,.int .i64 0,.slice none 0 0] 41)=w0 at k1 k2 HB0 HSZ0 h0 ⊢;clear hW0;have HM:=Ja (show OwB (Rp.slice Rp.file) 42 w0.heap.size (.slice (some ⟨w.heap.size+1+1,0,none⟩) 0 0) (x.Vz.take 0) (w0.alloc (.cells #[] 42)) from by
  have h:=World.ownsRow_made (base:=0) (e:=42) (size:=1) w0 #[] 0 (Nat.zero_le _) (by simp[maxLen]) rfl;rw[HSZ0.out] at h ⊢;exact⟨_,⟨[],[],h,⟨rfl,rfl⟩,rfl⟩,by simp[Vm,Value.ownBlock],by simp[Vm,Value.ownBlock],jer h⟩)
 have HBM:=Ja ((Below.refl w0.heap.size w0).alloc nle (.cells #[] 42))
 go_loopw [3,4] (fun v i wr=>∃k:Nat,k≤x.Vz.length∧i= .int .i64 k∧OwB (Rp.slice Rp.file) 42 w0.heap.size v (x.Vz.take k) wr∧Below w0.heap.size w0 wr) (fun _ i _=>x.Vz.length - (intOf i).toNat)
 case atStart=>exact⟨0,Nat.zero_le _,rfl,HM.out,HBM.out⟩
 case round=>
  obtain⟨k,hk,rfl,hown,hbl⟩:=hrel;have HO:=Ja hown;clear hown HM HBM;have r1:=k1.step hbl;have c3:=Blk.c3 r1;by_cases hlt:k<x.Vz.length
  ·obtain⟨b,o,A',n',c',f,rfl,hb,hm,q0,hs,_⟩:=Vv (h0.step hbl) hlt;have HK:=Ja (show(x.Vz.take k).length=k by simp;omega);have HT:=Ja (List.take_succ_eq_append_getElem hlt);have j0:(0:Int)≤(k:Int):=by omega
   have j1:(k:Int)<(x.Vz.length:Int):=by omega
   go_wp2_with fail;refine(X6 _ hs (HF.out _ (List.getElem_mem hlt))).mono ?_;rintro e w1 hfr;obtain⟨A1,c1,f1,rfl,hs1,hn1,hl1,hf1,hb1⟩:=OwnF.sl (k:=2) (enc:=Jj) (hk:=fun _=>rfl) (h1:=Vz) hfr;obtain⟨xs,ho,hgrow⟩:=HO.out.grow;obtain⟨hoA,hsn⟩:=hgrow (hb1.alloc hb1.size (.cells #[.slice A1 x.Vz[k].length c1] 42))
   have HSZ:=Ja (show(w1.alloc (.cells #[.slice A1 x.Vz[k].length c1] 42)).heap.size=w1.heap.size+1 by simp);have hs9:=(hsn (ys:=[.slice A1 x.Vz[k].length c1]) (y:=x.Vz[k]) ⟨A1,_,c1,rfl,hs1.allocN _⟩ hn1 hl1 hbl.size (hf1.step ((Below.refl _ _).alloc nle _)) HSZ.out);rw[HK.out] at hs9 hoA;have HS:=Ja hs9
   have HB1:=Ja ((Below.t hbl hb1).alloc (Below.t hbl hb1).size (.cells #[.slice A1 x.Vz[k].length c1] 42));have HV:=Ja HO.out.vlow;clear hs9 ho hsn hgrow hb1 hs1 hn1 hl1 hf1 hfr q0 hs c3 r1 k1 k2
   go_wp2_with(at_builtin;refine wpList_append_lies _ rfl _ _ 39 rfl 0 42 i0 _ 1 24 Tryz.underlying39 hi hz0 hz1 hz2 rfl (by decide) _ _ _ rfl hoA ⟨w1.heap.size,0,none⟩ 1 1 [.slice A1 x.Vz[k].length c1] rfl rfl (Jm w1 _ _) (by intro u hu;simp at hu;subst hu;rfl) (by decide) (by unfold maxLen;omega) (by omega) (Nat.zero_le _) (w1.heap.size+1) HSZ.out ?_)
   intro g cap w2 ho2 hgr hor hlt2;have HN:=Ja (HS.out _ _ _ ho2 hgr hor);have HBB:=Ja (je3 HB1.out hgr HV.out);clear ho2 hgr hor hoA;go_wp2;exact⟨⟨k+1,by omega,by go_num,by rw[HT.out];exact HN.out,HBB.out⟩,by simp[intOf];omega⟩
  ·have hk':k=x.Vz.length:=by omega
   subst hk';have HE:=Ja (show x.Vz.take x.Vz.length=x.Vz from List.take_of_length_le nle);have r2:=k2.step hbl;obtain⟨Av,cv,rfl,_,_⟩:=HO.out.form;have c0:=Blk.c0 r1;have c1:=Blk.c1 r1;have c2:=Blk.c2 r1;have d0:=Blk.c0 r2;have d1:=Blk.c1 r2;have d2:=Blk.c2 r2;have d3:=Blk.c3 r2;have z3:=Jb r1 3;have y0:=Jb r2 0;have y1:=Jb r2 1;have y2:=Jb r2 2
   have y3:=Jb r2 3;have R:=Ja (((((r2.far (b:=w.heap.size) (j:=3) (by omega) (.slice Av (x.Vz.take x.Vz.length).length cv)).put 0 (.string x.name)).put 1 (.bool x.guard)).put 2 (.int .i64 x.count)).put 3 (.slice Av (x.Vz.take x.Vz.length).length cv))
   have RO:=Ja ((((((Only.refl [w.heap.size,w.heap.size+1] wr).setCell (p:=⟨w.heap.size,3,none⟩) (.inl (by simp)) (.slice Av (x.Vz.take x.Vz.length).length cv)).setCell (p:=⟨w.heap.size+1,0,none⟩) (.inl (by simp)) (.string x.name)).setCell (p:=⟨w.heap.size+1,1,none⟩) (.inl (by simp)) (.bool x.guard)).setCell (p:=⟨w.heap.size+1,2,none⟩) (.inl (by simp)) (.int .i64 x.count)).setCell (p:=⟨w.heap.size+1,3,none⟩) (.inl (by simp)) (.slice Av (x.Vz.take x.Vz.length).length cv))
   rw[HE.out] at R RO HO;clear r1 r2 k1 k2;go_wp2_with fail;have R:=R.out;have RO:=RO.out;generalize((((wr.setCell ⟨w.heap.size,3,none⟩ (.slice Av x.Vz.length cv)).setCell ⟨w.heap.size+1,0,none⟩ (.string x.name)).setCell ⟨w.heap.size+1,1,none⟩ (.bool x.guard)).setCell ⟨w.heap.size+1,2,none⟩ (.int .i64 x.count)).setCell ⟨w.heap.size+1,3,none⟩ (.slice Av x.Vz.length cv)=W at R RO ⊢
   have e0:=Blk.c0 R;have e1:=Blk.c1 R;have e2:=Blk.c2 R;have e3:=Blk.c3 R;obtain⟨fp,h1,h2,h3,h4⟩:=HO.out.only RO (by have:=HSZ0.out;intro b hb;simp at hb;omega);refine bodyPost_ret (v:= .agg #[.string x.name,.bool x.guard,.int .i64 x.count,.slice Av x.Vz.length cv]) (by simp[results,Tryz.results99,go_sem,e0,e1,e2,e3]) rfl ?_;have hs0:=HSZ0.out
   exact⟨[.string x.name,.bool x.guard,.int .i64 x.count,.slice Av x.Vz.length cv],fp,rfl,⟨_,rfl,h1⟩,h2,fun b hb=>by have:=h3 b hb;omega,h4,HB0.out.trans ((hbl.mono (by omega)).trans (RO.below (by intro b hb;simp at hb;omega) (by have:=hbl.size;omega)))⟩
theorem jh9: ∀v∈((.agg #[.string ByteArray.empty,.string ByteArray.empty]):Value).cells.toList,v.oneCell'=true:=by intro v hv;simp[Value.cells] at hv;subst hv;rfl
theorem jkw (base i n vb:Nat) (v:Value) (xs ys:List Value) (tV:TypeId) (w:World) (ho:w.ownsRow base 98 2 v n xs) (hbase:base≤w.heap.size) (hi:i≤n) (hy:ys.length=2) (hy1: ∀u∈ys,u.oneCell'=true) (hx1: ∀u∈xs,u.oneCell'=true)
  (hv:Blk w vb tV ys.toArray) (hne:v.ownBlock≠some vb) (hn:n≤4194304):
  Calls Tryz.prog 76 #[v,.int .i64 i,.slice (some ⟨vb,0,none⟩) 1 1] w fun e w'=>∃v',e= .returned v'∧w'.ownsRow base 98 2 v' (n+1) (jae 2 i xs ys)∧w.grownBy w' v.ownBlock:=by
 obtain⟨i0,hi0,hz0,hz1,hz2⟩:=info_parts Xj;have hnews: ∀j u,ys[j]? =some u→w.cell? ((⟨vb,0,none⟩:Addr).add j)=some u:=fun j u hu=>World.news_of_block hv j u (by simpa using hu);have hlx:=ho.1;have HN:=Ja hnews;have HV:=Ja hv;have HY1:=Ja hy1;have HX1:=Ja hx1;have HLX:=Ja hlx;have HY:=Ja hy;clear hnews hy1 hx1 hlx hv hy;by_cases hin:i=n
 ·subst hin;have hall:jae 2 i xs ys=xs++ys:=by
   unfold jae;rw[List.take_of_length_le (by rw[HLX.out];exact Nat.le_refl _),List.drop_eq_nil_of_le (by rw[HLX.out];exact Nat.le_refl _),List.append_nil]
  have HALL:=Ja hall;clear hall;have ho':=ho;rcases ho.2 with ⟨rfl,rfl⟩|⟨g,cap,cur,rfl,hb,hg,hnc,hcm,hcs,ht⟩
  ·clear ho;go_enter Tryz.func76,Tryz.ntmps76;go_wp2_with(at_builtin;refine wpList_append_own _ rfl _ _ 42 rfl base 98 i0 _ 2 32 Tryz.underlying42 hi0 hz0 hz1 hz2 rfl (by decide) _ _ _ rfl ho' ⟨vb,0,none⟩ 1 1 ys rfl (by rw[HY.out]) HN.out HY1.out (by unfold maxLen;omega) (by omega) hbase ?_);intro v' w5 hown' hgrow _;go_wp2;go_ret;exact⟨_,rfl,by rw[HALL.out];exact hown',hgrow⟩
  ·have HH:=Ja (show True∧w.heap[g]? =some (.cells cur 98 (0,0)) from⟨trivial,hg⟩);unfold maxLen at hcm;clear ho hg ht hcs;have hcap:(cap=i)∨¬(cap=i):=Classical.em _;rcases hcap with hcap|hcap
   all_goals
    go_enter Tryz.func76,Tryz.ntmps76;go_wp2_with(at_builtin;refine wpList_append_own _ rfl _ _ 42 rfl base 98 i0 _ 2 32 Tryz.underlying42 hi0 hz0 hz1 hz2 rfl (by decide) _ _ _ rfl ho' ⟨vb,0,none⟩ 1 1 ys rfl (by rw[HY.out]) HN.out HY1.out (by unfold maxLen;omega) (by omega) hbase ?_);intro v' w5 hown' hgrow _;go_wp2;go_ret;exact⟨_,rfl,by rw[HALL.out];exact hown',hgrow⟩
 ·rcases ho.2 with ⟨rfl,rfl⟩|⟨g,cap,cur,rfl,hb,hg,hnc,hcm,hcs,ht⟩
  ·omega
  ·have hlt:i<n:=by omega
   have hgv:g≠vb:=fun e=>hne (by subst e;rfl);have hsz:(Tryz.prog.info? 98).map (·.size)=some 2:=by rw[hi0];simp[hz1]
   unfold maxLen at hcm;clear ho;have hcl:cur.toList.length=cap*2:=by simpa using hcs
   have hfst: ∀j u,xs[j]? =some u→cur[j]? =some u:=fun j u hu=>by
    rw[←ht,List.getElem?_take] at hu;split at hu
    ·simpa using hu
    ·cases hu
   have hsrc: ∀(W:World),Blk W g 98 cur→∀j u,(xs.drop (i*2))[j]? =some u→W.cell? ((⟨g,i*2,none⟩:Addr).add j)=some u:=fun W hW j u hu=>by
    rw[Addr.add_lit,hW.cell];rw[List.getElem?_drop] at hu;exact hfst _ _ hu
   have hdl:(xs.drop (i*2)).length=(n - i)*2:=by rw[List.length_drop,HLX.out,←Nat.sub_mul]
   have h1d: ∀u∈xs.drop (i*2),u.oneCell'=true:=fun u hu=>HX1.out u (List.mem_of_mem_drop hu);have k1:(0:Int)≤(i:Int):=by omega
   have k2:(i:Int)≤(n:Int):=by omega
   have k3:((i:Int)==(n:Int))=false:=by simp;omega
   have k4: ¬(cap=i):=by omega
   by_cases hroom:n+1≤cap
   ·have hcp1: ∀ty dc sc,(Builtin.copy_ #[42,42] ty #[.slice (some ⟨g,(i+1)*2,none⟩) (n - i) dc,.slice (some ⟨g,i*2,none⟩) (n+1 - i) sc]).run Tryz.prog w.drew= .ok (goInt ((n - i:Nat):Int)) (w.drew.setRow g (cur.toList.take ((i+1)*2)++xs.drop (i*2)++cur.toList.drop ((i+1)*2+(xs.drop (i*2)).length)).toArray):=fun ty dc sc=>
     Vr w.drew 42 42 ty 98 2 g ((i+1)*2) (n - i) dc ⟨g,i*2,none⟩ (n+1 - i) sc cur 98 _ Tryz.underlying42 hsz hg (n - i) (by simp only[Nat.min_def];split<;>omega) hdl (hsrc w.drew hg) (by rw[hdl,hcs];omega) h1d
    obtain⟨c1,hc1⟩: ∃c1,c1=cur.toList.take ((i+1)*2)++xs.drop (i*2)++cur.toList.drop ((i+1)*2+(xs.drop (i*2)).length):=⟨_,rfl⟩;have l1:=jfi ht hcl hlt hroom;have l2:=jik ht hcl HY.out hlt hroom hc1;rw[←hc1] at l1 hcp1;have hg1:(w.drew.setRow g c1.toArray).heap[g]? =some (.cells c1.toArray 98 (0,0)):=setRow_heap w.drew g cur c1.toArray 98 (0,0) hg
    have hcp2: ∀ty dc,(Builtin.copy_ #[42,42] ty #[.slice (some ⟨g,i*2,none⟩) (n+1 - i) dc,.slice (some ⟨vb,0,none⟩) 1 1]).run Tryz.prog (w.drew.setRow g c1.toArray)= .ok (goInt 1) ((w.drew.setRow g c1.toArray).setRow g (c1.take (i*2)++ys++c1.drop (i*2+ys.length)).toArray):=fun ty dc=>
     Vr _ 42 42 ty 98 2 g (i*2) (n+1 - i) dc ⟨vb,0,none⟩ 1 1 c1.toArray 98 ys Tryz.underlying42 hsz hg1 1 (by simp only[Nat.min_def];split<;>omega) (by have:=HY.out;omega)
      (fun j u hu=>(cell_setRow_other w.drew g c1.toArray _ (by rw[Addr.add_lit];exact fun e=>hgv e.symm)).trans (HN.out j u hu)) (by rw[HY.out];simp only[List.size_toArray];omega) HY1.out
    have hov: ∀lb cb,(callFunc 123 #[.slice (some ⟨vb,0,none⟩) 1 1,.slice (some ⟨g,(i+1)*2,none⟩) lb cb]).run Tryz.prog w= .ok (.value (.bool false)) w:=fun lb cb=>by
     rw[run_callFunc_extern Tryz.func123 (by kernel_rfl) (by kernel_rfl) (by kernel_rfl) (e:=Extern.SlicesOverlaps.overlaps #[42,42] #[4]) (by kernel_rfl),
      Lib.run_overlaps_apart w 42 4 98 Tryz.underlying42 2 (fun w=>by simp[Go.sizeOf,typeInfo,hi0,hz1]) ⟨vb,0,none⟩ ⟨g,(i+1)*2,none⟩ 1 1 lb cb (fun e=>hgv e.symm) tV 98 _ _ (jdi HV.out) (jdi hg) (by rw[hcs];omega) (jcg HV.out _) (jcg HV.out _)]
     rfl
    obtain⟨W2,hW2⟩: ∃W2,W2=(w.drew.setRow g c1.toArray).setRow g (c1.take (i*2)++ys++c1.drop (i*2+ys.length)).toArray:=⟨_,rfl⟩;rw[←hW2] at hcp2;have HO:=Ja (show W2.ownsRow base 98 2 (.slice (some ⟨g,0,none⟩) (n+1) cap) (n+1) (jae 2 i xs ys) from
     ⟨by unfold jae;simp only[List.length_append,List.length_take,hdl,HY.out,HLX.out];omega,.inr ⟨g,cap,_,rfl,hb,by rw[hW2];exact setRow_heap _ g c1.toArray _ 98 (0,0) hg1,hroom,by unfold maxLen;omega,by simpa using l2.1,by simpa using l2.2⟩⟩)
    have HG:=Ja (show w.grownBy W2 (some g) by rw[hW2];exact Vy (Vy (jao w (some g)) (V7 c1.toArray)) (V7 (w:=w.drew.setRow g c1.toArray) (c1.take (i*2)++ys++c1.drop (i*2+ys.length)).toArray));clear hW2;have k5:(n:Int)+1≤(cap:Int):=by omega
    have k6:IntKind.i64.wrap ((i:Int)+1)=(i:Int)+1:=IntWalk.i64_in _ (by omega);have k7:(0:Int)≤(i:Int)+1:=by omega
    have k8:((i:Int)+1).toNat=i+1:=by omega
    have k9:(i:Int)+1≤(n:Int)+1:=by omega
    have k10: ¬(cap=i+1):=by omega
    have k11:(i:Int)≤(n:Int)+1:=by omega
    have mixed:Tryz.prog.follows .mixedOrders=true:=by kernel_rfl
    clear l1 l2 hc1 hg1 hsrc hfst hdl h1d hg ht hcs hcl;go_enter Tryz.func76,Tryz.ntmps76;go_wp2_with(simp only[hov])
    go_region_law_o (refine step_copy_runI rfl _ _ 42 42 rfl _ _ (by simp[Act.eval,Act.put]) (by simp[Act.eval,Act.put]) (hcp1 _ _ _) ?_)
    go_wp2_with(at_builtin;refine wpList_copy_runI _ rfl _ _ 42 42 rfl _ _ rfl rfl (hcp2 _ _) ?_);go_ret;exact⟨.slice (some ⟨g,0,none⟩) (n+1) cap,rfl,HO.out,HG.out⟩
   ·have hgw:g<w.heap.size:=(Array.getElem?_eq_some_iff.1 hg).1;have hvw:vb<w.heap.size:=HV.out.lt;have hcn:cap=n:=by omega
    subst hcn;have hold:(Builtin.firstCells i0.size i (.slice (some ⟨g,0,none⟩) i cap)).run Tryz.prog w.drew= .ok (xs.take (i*2)).toArray w.drew:=by
     rw[hz1];refine run_firstCells_some w.drew 2 i ⟨g,0,none⟩ i cap (xs.take (i*2)) (by rw[List.length_take,HLX.out];omega) (fun j u hu=> ?_);rw[Addr.add_lit,Nat.zero_add,Blk.cell (w:=w.drew) (g:=g) hg];rw[List.getElem?_take] at hu;split at hu
     ·exact hfst _ _ hu
     ·cases hu
    have hkk:(cap:Int)+1 - (i:Int)=((cap+1 - i:Nat):Int):=by omega
    have hik:i+(cap+1 - i)=cap+1:=by omega
    have hrz: ∀ty,(Builtin.append_ #[42,3] ty #[.slice (some ⟨g,0,none⟩) i cap,.int .i64 ((cap:Int)+1 - (i:Int))]).run Tryz.prog w=
      .ok (.slice (some ⟨w.heap.size,0,none⟩) (cap+1) (grownCap w (cap+1) cap 98)) (w.drew.alloc (.cells ((xs.take (i*2)).toArray++Builtin.zeroCells ((.agg #[.string ByteArray.empty,.string ByteArray.empty]):Value).cells (cap+1 - i)++Builtin.zeroCells ((.agg #[.string ByteArray.empty,.string ByteArray.empty]):Value).cells (grownCap w (cap+1) cap 98 - (cap+1))) 98)):=fun ty=>by
     have h:=Lib.run_append_grow_zeros w 42 3 ty 98 i0 _ .i64 .i64 Tryz.underlying42 Tryz.underlying3 hi0 hz0 (some ⟨g,0,none⟩) i cap (xs.take (i*2)) hold (cap+1 - i) (by omega) (by rw[hz1];decide) (by omega) (by omega) (by rw[hz2];omega) (by rw[hz2,hik];exact growslice_fits (by omega) (by omega));rw[hik] at h;rw[hkk];exact h
    have hGn:cap+1≤grownCap w (cap+1) cap 98:=grownCap_ge w _ _ _;have hGm:=grownCap_le_maxLen w (cap+1) cap 98 (by unfold maxLen;omega);unfold maxLen at hGm;generalize hGe:grownCap w (cap+1) cap 98=G at hrz hGn hGm;clear hGe
    obtain⟨ROW,hROW⟩: ∃ROW:Array Value,ROW=(xs.take (i*2)).toArray++Builtin.zeroCells ((.agg #[.string ByteArray.empty,.string ByteArray.empty]):Value).cells (cap+1 - i)++Builtin.zeroCells ((.agg #[.string ByteArray.empty,.string ByteArray.empty]):Value).cells (G - (cap+1)):=⟨_,rfl⟩;rw[←hROW] at hrz
    have hrow:ROW.toList=xs.take (i*2)++(Builtin.zeroCells ((.agg #[.string ByteArray.empty,.string ByteArray.empty]):Value).cells (cap+1 - i)).toList++(Builtin.zeroCells ((.agg #[.string ByteArray.empty,.string ByteArray.empty]):Value).cells (G - (cap+1))).toList:=by rw[hROW];simp
    obtain⟨r1,hr1⟩: ∃r1,r1=ROW.toList.take (i*2)++ys++ROW.toList.drop (i*2+ys.length):=⟨_,rfl⟩;obtain⟨q0,q1,q2,q3⟩:=jl9 HLX.out HY.out hlt hGn (by simp[Builtin.zeroCells,Value.cells]) (by simp[Builtin.zeroCells,Value.cells]) hrow hr1;have hRS:ROW.size=G*2:=by rw[←Array.length_toList];exact q0
    obtain⟨r2,hr2⟩: ∃r2,r2=r1.take ((i+1)*2)++xs.drop (i*2)++r1.drop ((i+1)*2+(xs.drop (i*2)).length):=⟨_,rfl⟩;rw[←hr2] at q2 q3;obtain⟨W1,hW1⟩: ∃W1,W1=w.drew.alloc (.cells ROW 98):=⟨_,rfl⟩;rw[←hW1] at hrz;have hN1:W1.heap[w.heap.size]? =some (.cells ROW 98 (0,0)):=by rw[hW1];exact heap_alloc_new w.drew _
    have hold1: ∀b,b<w.heap.size→W1.heap[b]? =w.heap[b]? :=fun b hb=>by rw[hW1];exact Below.heap_alloc w.drew _ b hb
    have hHS1:W1.heap.size=w.heap.size+1:=by rw[hW1];simp
    have hGR1:w.grownBy W1 (some g):=by rw[hW1];exact Vy (jao w (some g)) (World.grownBy_alloc _ _ _)
    have hcpA: ∀ty dc,(Builtin.copy_ #[42,42] ty #[.slice (some ⟨w.heap.size,i*2,none⟩) (cap+1 - i) dc,.slice (some ⟨vb,0,none⟩) 1 1]).run Tryz.prog W1= .ok (goInt 1) (W1.setRow w.heap.size r1.toArray):=fun ty dc=>by
     rw[hr1];exact Vr W1 42 42 ty 98 2 w.heap.size (i*2) (cap+1 - i) dc ⟨vb,0,none⟩ 1 1 ROW 98 ys Tryz.underlying42 hsz hN1 1 (by simp only[Nat.min_def];split<;>omega) (by have:=HY.out;omega)
      (fun j u hu=>World.news_of_block ((hold1 vb hvw).trans HV.out) j u (by simpa using hu)) (by rw[HY.out,hRS];omega) HY1.out
    obtain⟨W2,hW2⟩: ∃W2,W2=W1.setRow w.heap.size r1.toArray:=⟨_,rfl⟩;rw[←hW2] at hcpA;have hN2:W2.heap[w.heap.size]? =some (.cells r1.toArray 98 (0,0)):=by rw[hW2];exact setRow_heap W1 _ _ _ _ _ hN1
    have hold2: ∀b,b<w.heap.size→W2.heap[b]? =w.heap[b]? :=fun b hb=>by rw[hW2,setRow_other _ _ _ _ (by omega)];exact hold1 b hb
    have hGR2:w.grownBy W2 (some g):=by
     rw[hW2];exact⟨hGR1.os,hGR1.tape,hGR1.output,by rw[setRow_size];exact hGR1.size,fun k hk hn=>by rw[setRow_other _ _ _ _ (by omega)];exact hGR1.block k hk hn⟩
    have hcpB: ∀ty dc sc,(Builtin.copy_ #[42,42] ty #[.slice (some ⟨w.heap.size,(i+1)*2,none⟩) (cap - i) dc,.slice (some ⟨g,i*2,none⟩) (cap - i) sc]).run Tryz.prog W2.drew= .ok (goInt ((cap - i:Nat):Int)) (W2.drew.setRow w.heap.size r2.toArray):=fun ty dc sc=>by
     rw[hr2];exact Vr W2.drew 42 42 ty 98 2 w.heap.size ((i+1)*2) (cap - i) dc ⟨g,i*2,none⟩ (cap - i) sc r1.toArray 98 (xs.drop (i*2)) Tryz.underlying42 hsz hN2 (cap - i) (by simp only[Nat.min_def];split<;>omega) hdl
      (hsrc W2.drew ((hold2 g hgw).trans hg)) (by rw[hdl];simp only[List.size_toArray];omega) h1d
    obtain⟨W3,hW3⟩: ∃W3,W3=W2.drew.setRow w.heap.size r2.toArray:=⟨_,rfl⟩;rw[←hW3] at hcpB;have HO:=Ja (show W3.ownsRow base 98 2 (.slice (some ⟨w.heap.size,0,none⟩) (cap+1) G) (cap+1) (jae 2 i xs ys) from
     ⟨by unfold jae;simp only[List.length_append,List.length_take,hdl,HY.out,HLX.out];omega,.inr ⟨w.heap.size,G,_,rfl,hbase,by rw[hW3];exact setRow_heap W2.drew _ _ _ _ _ hN2,hGn,by unfold maxLen;omega,by simpa using q2,by simpa using q3⟩⟩)
    have HG:=Ja (show w.grownBy W3 (some g) by
     rw[hW3];exact⟨hGR2.os,hGR2.tape,hGR2.output,by rw[setRow_size];exact hGR2.size,fun k hk hn=>by rw[setRow_other _ _ _ _ (by omega)];exact hGR2.block k hk hn⟩)
    have k5:(cap:Int)<(cap:Int)+1:=by omega
    have k6:IntKind.i64.wrap ((i:Int)+1)=(i:Int)+1:=IntWalk.i64_in _ (by omega);have k7:(0:Int)≤(i:Int)+1:=by omega
    have k8:((i:Int)+1).toNat=i+1:=by omega
    have k9:(i:Int)+1≤(cap:Int)+1:=by omega
    have k10: ¬(G=i+1):=by omega
    have k11:(i:Int)≤(cap:Int)+1:=by omega
    have k12: ¬(G=i):=by omega
    have mixed:Tryz.prog.follows .mixedOrders=true:=by kernel_rfl
    generalize w.heap.size=N at hrz hcpA hcpB HO;clear hRS hW3 hW2 hW1 hN1 hN2 hold1 hold2 hHS1 hGR1 hGR2 hr1 hr2 q0 q1 q2 q3 hrow hROW hold hkk hik hsrc hfst hdl h1d hg ht hcs hcl;go_enter Tryz.func76,Tryz.ntmps76;go_wp2_with(first
     |(at_builtin;refine Lib.wpList_append_run _ rfl _ _ _ _ rfl _ _ rfl rfl _ _ (hrz _) ?_)
     |(at_builtin;refine wpList_copy_runI _ rfl _ _ 42 42 rfl _ _ rfl rfl (hcpA _ _) ?_))
    go_region_law_o (refine step_copy_runI rfl _ _ 42 42 rfl _ _ (by simp[Act.eval,Act.put]) (by simp[Act.eval,Act.put]) (hcpB _ _ _) ?_)
    go_wp2;go_ret;exact⟨.slice (some ⟨N,0,none⟩) (cap+1) G,rfl,HO.out,HG.out⟩
theorem jlb (base i n:Nat) (v:Value) (xs:List Value) (w:World) (ho:w.ownsRow base 98 2 v n xs) (hi:i<n) (hx1: ∀u∈xs,u.oneCell'=true) (hn:n≤4194304):
  Calls Tryz.prog 75 #[v,.int .i64 i,.int .i64 ((i:Int)+1)] w fun e w'=>∃v',e= .returned v'∧w'.ownsRow base 98 2 v' (n - 1) (jdw 2 i xs)∧w.grownBy w' v.ownBlock:=by
 obtain⟨i0,hi0,hz0,hz1,hz2⟩:=info_parts Xj;have hlx:=ho.1;rcases ho.2 with ⟨rfl,rfl⟩|⟨g,cap,cur,rfl,hb,hg,hnc,hcm,hcs,ht⟩
 ·omega
 unfold maxLen at hcm;have hcl:cur.toList.length=cap*2:=by simpa using hcs
 have hfst: ∀j u,xs[j]? =some u→cur[j]? =some u:=fun j u hu=>by
  rw[←ht,List.getElem?_take] at hu;split at hu
  ·simpa using hu
  ·cases hu
 have hsrc: ∀j u,(xs.drop ((i+1)*2))[j]? =some u→w.cell? ((⟨g,(i+1)*2,none⟩:Addr).add j)=some u:=fun j u hu=>by
  rw[Addr.add_lit,Blk.cell (w:=w) (g:=g) hg];rw[List.getElem?_drop] at hu;exact hfst _ _ hu
 have hdl:(xs.drop ((i+1)*2)).length=(n - (i+1))*2:=by rw[List.length_drop,hlx,←Nat.sub_mul]
 have h1d: ∀u∈xs.drop ((i+1)*2),u.oneCell'=true:=fun u hu=>hx1 u (List.mem_of_mem_drop hu)
 have hap: ∀ty sc,(Builtin.append_ #[42,42] ty #[.slice (some ⟨g,0,none⟩) i cap,.slice (some ⟨g,(i+1)*2,none⟩) (n - (i+1)) sc]).run Tryz.prog w.drew= .ok (.slice (some ⟨g,0,none⟩) (n - 1) cap) (w.drew.setRow g (cur.toList.take (i*2)++xs.drop ((i+1)*2)++cur.toList.drop (i*2+(xs.drop ((i+1)*2)).length)).toArray):=fun ty sc=>by
  have h:=run_append_room w.drew 42 ty 98 i0 Tryz.underlying42 hi0 g i cap cur hg ⟨g,(i+1)*2,none⟩ (n - (i+1)) sc (xs.drop ((i+1)*2)) (by rw[hz1];exact hdl) (fun j u hu=>hsrc j u hu) h1d (by omega) (by rw[hz1,hdl,hcs];omega);rw[hz1,show i+(n - (i+1))=n - 1 by omega] at h;exact h
 have hap': ∀ty,cap=i+1→(Builtin.append_ #[42,42] ty #[.slice (some ⟨g,0,none⟩) i cap,.slice (some ⟨g,0,none⟩) (n - (i+1)) 0]).run Tryz.prog w.drew= .ok (.slice (some ⟨g,0,none⟩) (n - 1) cap) (w.drew.setRow g (cur.toList.take (i*2)++xs.drop ((i+1)*2)++cur.toList.drop (i*2+(xs.drop ((i+1)*2)).length)).toArray):=fun ty hci=>by
  have hnil:xs.drop ((i+1)*2)= []:=List.drop_eq_nil_of_le (by rw[hlx];omega);have h:=run_append_room w.drew 42 ty 98 i0 Tryz.underlying42 hi0 g i cap cur hg ⟨g,0,none⟩ (n - (i+1)) 0 (xs.drop ((i+1)*2)) (by rw[hz1];exact hdl) (fun j u hu=>by rw[hnil] at hu;cases hu) h1d (by omega) (by rw[hz1,hdl,hcs];omega);rw[hz1,show i+(n - (i+1))=n - 1 by omega] at h;exact h
 obtain⟨c1,hc1⟩: ∃c1,c1=cur.toList.take (i*2)++xs.drop ((i+1)*2)++cur.toList.drop (i*2+(xs.drop ((i+1)*2)).length):=⟨_,rfl⟩;obtain⟨q1,q2,q3⟩:=jo8 ht hcl hi hnc (z:=([.string ByteArray.empty,.string ByteArray.empty]:List Value)) rfl hc1;rw[←hc1] at hap hap';have hg1:(w.drew.setRow g c1.toArray).heap[g]? =some (.cells c1.toArray 98 (0,0)):=setRow_heap w.drew g cur c1.toArray 98 (0,0) hg
 obtain⟨W1,hW1⟩: ∃W1,W1=w.drew.setRow g c1.toArray:=⟨_,rfl⟩;rw[←hW1] at hap hap' hg1;have hcl2: ∀ty dc,(Builtin.clear_ #[42] ty #[.slice (some ⟨g,(n - 1)*2,none⟩) 1 dc]).run Tryz.prog W1= .ok (.tuple #[]) (W1.setRow g (c1.take ((n - 1)*2)++([.string ByteArray.empty,.string ByteArray.empty]:List Value)++c1.drop ((n - 1)*2+1*2)).toArray):=fun ty dc=>
  jdg (P:=Tryz.prog) W1 42 98 ty (.agg #[.string ByteArray.empty,.string ByteArray.empty]) 2 Tryz.underlying42 (fun w=>by kernel_rfl) rfl jh9 g ((n - 1)*2) 1 dc c1.toArray 98 hg1 (by simp only[List.size_toArray];omega)
 obtain⟨W2,hW2⟩: ∃W2,W2=W1.setRow g (c1.take ((n - 1)*2)++([.string ByteArray.empty,.string ByteArray.empty]:List Value)++c1.drop ((n - 1)*2+1*2)).toArray:=⟨_,rfl⟩;rw[←hW2] at hcl2;have HO:=Ja (show W2.ownsRow base 98 2 (.slice (some ⟨g,0,none⟩) (n - 1) cap) (n - 1) (jdw 2 i xs) from
  ⟨by unfold jdw;simp only[List.length_append,List.length_take,hdl,hlx];omega,.inr ⟨g,cap,_,rfl,hb,by rw[hW2];exact setRow_heap W1 g c1.toArray _ 98 (0,0) hg1,by omega,by unfold maxLen;omega,by simpa using q2,by simpa using q3⟩⟩)
 have HG:=Ja (show w.grownBy W2 (some g) by rw[hW2,hW1];exact Vy (Vy (jao w (some g)) (V7 c1.toArray)) (V7 (w:=w.drew.setRow g c1.toArray) _));have k1:(0:Int)≤(i:Int):=by omega
 have k2:(i:Int)≤(n:Int):=by omega
 have k3:((i:Int)==(i:Int)+1)=false:=by simp;omega
 have k5:(i:Int)+1≤(n:Int):=by omega
 have k6:(i:Int)≤(i:Int)+1:=by omega
 have k7:(0:Int)≤(i:Int)+1:=by omega
 have k8:((i:Int)+1).toNat=i+1:=by omega
 have k9:(i:Int)≤(cap:Int):=by omega
 have k10:n≤cap:=hnc;have k11: ¬(n=i):=by omega
 have k12: ¬(cap=n - 1):=by omega
 have k13:(n:Int) - 1≤(n:Int):=by omega
 have k14:n - (n - 1)=1:=by omega
 have k15:0<n:=by omega
 have mixed:Tryz.prog.follows .mixedOrders=true:=by kernel_rfl
 clear hW1 hW2 q1 q2 q3 hc1 hg1 hsrc hfst hdl h1d hg ht hcs hcl ho hlx hx1;by_cases hci:cap=i+1
 ·have hn1:n=i+1:=by omega
  subst hn1;subst hci;have hap:=fun ty=>hap' ty rfl;rw[Nat.add_sub_cancel] at HO hcl2;simp only[Nat.add_sub_cancel,Nat.sub_self] at hap;clear hap' k2 k5 k9 k10 k11 k12 k13 k14 k15;have k9:(i:Int)≤(i:Int)+1:=by omega
  have k16: ¬(i+1=i):=by omega
  have k17:i+1 - i=1:=by omega
  go_enter Tryz.func75,Tryz.ntmps75;go_wp2_with fail
  go_region_law_o (refine Wx rfl _ _ 42 42 rfl _ _ (by simp[Act.eval,Act.put]) (by simp[Act.eval,Act.put]) (hap _) ?_)
  go_wp2;go_ret;exact⟨.slice (some ⟨g,0,none⟩) i (i+1),rfl,by rw[Nat.add_sub_cancel];exact HO.out,HG.out⟩
 ·clear hap';go_enter Tryz.func75,Tryz.ntmps75;go_wp2_with fail
  go_region_law_o (refine Wx rfl _ _ 42 42 rfl _ _ (by simp[Act.eval,Act.put]) (by simp[Act.eval,Act.put]) (hap _ (cap - (i+1))) ?_)
  go_wp2;go_ret;exact⟨.slice (some ⟨g,0,none⟩) (n - 1) cap,rfl,HO.out,HG.out⟩
theorem jdp:(Tryz.prog.info? 41).map (fun i=>(i.zero,i.size,i.bytes))=some (some (.agg #[.string ByteArray.empty,.bool false,.int .i64 0,.slice none 0 0]),4,56):=by kernel_rfl
theorem jjz: ∀v∈((.agg #[.string ByteArray.empty,.bool false,.int .i64 0,.slice none 0 0]):Value).cells.toList,v.oneCell'=true:=by intro v hv;simp[Value.cells] at hv;rcases hv with rfl|rfl|rfl|rfl<;>rfl
theorem jnb (base i n vb:Nat) (v:Value) (xs ys:List Value) (tV:TypeId) (w:World) (ho:w.ownsRow base 41 4 v n xs) (hbase:base≤w.heap.size) (hi:i≤n) (hy:ys.length=4) (hy1: ∀u∈ys,u.oneCell'=true) (hx1: ∀u∈xs,u.oneCell'=true)
  (hv:Blk w vb tV ys.toArray) (hne:v.ownBlock≠some vb) (hn:n≤4194304):
  Calls Tryz.prog 141 #[v,.int .i64 i,.slice (some ⟨vb,0,none⟩) 1 1] w fun e w'=>∃v',e= .returned v'∧w'.ownsRow base 41 4 v' (n+1) (jae 4 i xs ys)∧w.grownBy w' v.ownBlock:=by
 obtain⟨i0,hi0,hz0,hz1,hz2⟩:=info_parts jdp;have hnews: ∀j u,ys[j]? =some u→w.cell? ((⟨vb,0,none⟩:Addr).add j)=some u:=fun j u hu=>World.news_of_block hv j u (by simpa using hu);have hlx:=ho.1;have HN:=Ja hnews;have HV:=Ja hv;have HY1:=Ja hy1;have HX1:=Ja hx1;have HLX:=Ja hlx;have HY:=Ja hy;clear hnews hy1 hx1 hlx hv hy;by_cases hin:i=n
 ·subst hin;have hall:jae 4 i xs ys=xs++ys:=by
   unfold jae;rw[List.take_of_length_le (by rw[HLX.out];exact Nat.le_refl _),List.drop_eq_nil_of_le (by rw[HLX.out];exact Nat.le_refl _),List.append_nil]
  have HALL:=Ja hall;clear hall;have ho':=ho;rcases ho.2 with ⟨rfl,rfl⟩|⟨g,cap,cur,rfl,hb,hg,hnc,hcm,hcs,ht⟩
  ·clear ho;go_enter Tryz.func141,Tryz.ntmps141;go_wp2_with(at_builtin;refine wpList_append_own _ rfl _ _ 36 rfl base 41 i0 _ 4 56 Tryz.underlying36 hi0 hz0 hz1 hz2 rfl (by decide) _ _ _ rfl ho' ⟨vb,0,none⟩ 1 1 ys rfl (by rw[HY.out]) HN.out HY1.out (by unfold maxLen;omega) (by omega) hbase ?_);intro v' w5 hown' hgrow _;go_wp2;go_ret;exact⟨_,rfl,by rw[HALL.out];exact hown',hgrow⟩
  ·have HH:=Ja (show True∧w.heap[g]? =some (.cells cur 41 (0,0)) from⟨trivial,hg⟩);unfold maxLen at hcm;clear ho hg ht hcs;have hcap:(cap=i)∨¬(cap=i):=Classical.em _;rcases hcap with hcap|hcap
   all_goals
    go_enter Tryz.func141,Tryz.ntmps141;go_wp2_with(at_builtin;refine wpList_append_own _ rfl _ _ 36 rfl base 41 i0 _ 4 56 Tryz.underlying36 hi0 hz0 hz1 hz2 rfl (by decide) _ _ _ rfl ho' ⟨vb,0,none⟩ 1 1 ys rfl (by rw[HY.out]) HN.out HY1.out (by unfold maxLen;omega) (by omega) hbase ?_);intro v' w5 hown' hgrow _;go_wp2;go_ret;exact⟨_,rfl,by rw[HALL.out];exact hown',hgrow⟩
 ·rcases ho.2 with ⟨rfl,rfl⟩|⟨g,cap,cur,rfl,hb,hg,hnc,hcm,hcs,ht⟩
  ·omega
  ·have hlt:i<n:=by omega
   have hgv:g≠vb:=fun e=>hne (by subst e;rfl);have hsz:(Tryz.prog.info? 41).map (·.size)=some 4:=by rw[hi0];simp[hz1]
   unfold maxLen at hcm;clear ho;have hcl:cur.toList.length=cap*4:=by simpa using hcs
   have hfst: ∀j u,xs[j]? =some u→cur[j]? =some u:=fun j u hu=>by
    rw[←ht,List.getElem?_take] at hu;split at hu
    ·simpa using hu
    ·cases hu
   have hsrc: ∀(W:World),Blk W g 41 cur→∀j u,(xs.drop (i*4))[j]? =some u→W.cell? ((⟨g,i*4,none⟩:Addr).add j)=some u:=fun W hW j u hu=>by
    rw[Addr.add_lit,hW.cell];rw[List.getElem?_drop] at hu;exact hfst _ _ hu
   have hdl:(xs.drop (i*4)).length=(n - i)*4:=by rw[List.length_drop,HLX.out,←Nat.sub_mul]
   have h1d: ∀u∈xs.drop (i*4),u.oneCell'=true:=fun u hu=>HX1.out u (List.mem_of_mem_drop hu);have k1:(0:Int)≤(i:Int):=by omega
   have k2:(i:Int)≤(n:Int):=by omega
   have k3:((i:Int)==(n:Int))=false:=by simp;omega
   have k4: ¬(cap=i):=by omega
   by_cases hroom:n+1≤cap
   ·have hcp1: ∀ty dc sc,(Builtin.copy_ #[36,36] ty #[.slice (some ⟨g,(i+1)*4,none⟩) (n - i) dc,.slice (some ⟨g,i*4,none⟩) (n+1 - i) sc]).run Tryz.prog w.drew= .ok (goInt ((n - i:Nat):Int)) (w.drew.setRow g (cur.toList.take ((i+1)*4)++xs.drop (i*4)++cur.toList.drop ((i+1)*4+(xs.drop (i*4)).length)).toArray):=fun ty dc sc=>
     Vr w.drew 36 36 ty 41 4 g ((i+1)*4) (n - i) dc ⟨g,i*4,none⟩ (n+1 - i) sc cur 41 _ Tryz.underlying36 hsz hg (n - i) (by simp only[Nat.min_def];split<;>omega) hdl (hsrc w.drew hg) (by rw[hdl,hcs];omega) h1d
    obtain⟨c1,hc1⟩: ∃c1,c1=cur.toList.take ((i+1)*4)++xs.drop (i*4)++cur.toList.drop ((i+1)*4+(xs.drop (i*4)).length):=⟨_,rfl⟩;have l1:=jfi ht hcl hlt hroom;have l2:=jik ht hcl HY.out hlt hroom hc1;rw[←hc1] at l1 hcp1;have hg1:(w.drew.setRow g c1.toArray).heap[g]? =some (.cells c1.toArray 41 (0,0)):=setRow_heap w.drew g cur c1.toArray 41 (0,0) hg
    have hcp2: ∀ty dc,(Builtin.copy_ #[36,36] ty #[.slice (some ⟨g,i*4,none⟩) (n+1 - i) dc,.slice (some ⟨vb,0,none⟩) 1 1]).run Tryz.prog (w.drew.setRow g c1.toArray)= .ok (goInt 1) ((w.drew.setRow g c1.toArray).setRow g (c1.take (i*4)++ys++c1.drop (i*4+ys.length)).toArray):=fun ty dc=>
     Vr _ 36 36 ty 41 4 g (i*4) (n+1 - i) dc ⟨vb,0,none⟩ 1 1 c1.toArray 41 ys Tryz.underlying36 hsz hg1 1 (by simp only[Nat.min_def];split<;>omega) (by have:=HY.out;omega)
      (fun j u hu=>(cell_setRow_other w.drew g c1.toArray _ (by rw[Addr.add_lit];exact fun e=>hgv e.symm)).trans (HN.out j u hu)) (by rw[HY.out];simp only[List.size_toArray];omega) HY1.out
    have hov: ∀lb cb,(callFunc 161 #[.slice (some ⟨vb,0,none⟩) 1 1,.slice (some ⟨g,(i+1)*4,none⟩) lb cb]).run Tryz.prog w= .ok (.value (.bool false)) w:=fun lb cb=>by
     rw[run_callFunc_extern Tryz.func161 (by kernel_rfl) (by kernel_rfl) (by kernel_rfl) (e:=Extern.SlicesOverlaps.overlaps #[36,36] #[4]) (by kernel_rfl),
      Lib.run_overlaps_apart w 36 4 41 Tryz.underlying36 4 (fun w=>by simp[Go.sizeOf,typeInfo,hi0,hz1]) ⟨vb,0,none⟩ ⟨g,(i+1)*4,none⟩ 1 1 lb cb (fun e=>hgv e.symm) tV 41 _ _ (jdi HV.out) (jdi hg) (by rw[hcs];omega) (jcg HV.out _) (jcg HV.out _)]
     rfl
    obtain⟨W2,hW2⟩: ∃W2,W2=(w.drew.setRow g c1.toArray).setRow g (c1.take (i*4)++ys++c1.drop (i*4+ys.length)).toArray:=⟨_,rfl⟩;rw[←hW2] at hcp2;have HO:=Ja (show W2.ownsRow base 41 4 (.slice (some ⟨g,0,none⟩) (n+1) cap) (n+1) (jae 4 i xs ys) from
     ⟨by unfold jae;simp only[List.length_append,List.length_take,hdl,HY.out,HLX.out];omega,.inr ⟨g,cap,_,rfl,hb,by rw[hW2];exact setRow_heap _ g c1.toArray _ 41 (0,0) hg1,hroom,by unfold maxLen;omega,by simpa using l2.1,by simpa using l2.2⟩⟩)
    have HG:=Ja (show w.grownBy W2 (some g) by rw[hW2];exact Vy (Vy (jao w (some g)) (V7 c1.toArray)) (V7 (w:=w.drew.setRow g c1.toArray) (c1.take (i*4)++ys++c1.drop (i*4+ys.length)).toArray));clear hW2;have k5:(n:Int)+1≤(cap:Int):=by omega
    have k6:IntKind.i64.wrap ((i:Int)+1)=(i:Int)+1:=IntWalk.i64_in _ (by omega);have k7:(0:Int)≤(i:Int)+1:=by omega
    have k8:((i:Int)+1).toNat=i+1:=by omega
    have k9:(i:Int)+1≤(n:Int)+1:=by omega
    have k10: ¬(cap=i+1):=by omega
    have k11:(i:Int)≤(n:Int)+1:=by omega
    have mixed:Tryz.prog.follows .mixedOrders=true:=by kernel_rfl
    clear l1 l2 hc1 hg1 hsrc hfst hdl h1d hg ht hcs hcl;go_enter Tryz.func141,Tryz.ntmps141;go_wp2_with(simp only[hov])
    go_region_law_o (refine step_copy_runI rfl _ _ 36 36 rfl _ _ (by simp[Act.eval,Act.put]) (by simp[Act.eval,Act.put]) (hcp1 _ _ _) ?_)
    go_wp2_with(at_builtin;refine wpList_copy_runI _ rfl _ _ 36 36 rfl _ _ rfl rfl (hcp2 _ _) ?_);go_ret;exact⟨.slice (some ⟨g,0,none⟩) (n+1) cap,rfl,HO.out,HG.out⟩
   ·have hgw:g<w.heap.size:=(Array.getElem?_eq_some_iff.1 hg).1;have hvw:vb<w.heap.size:=HV.out.lt;have hcn:cap=n:=by omega
    subst hcn;have hold:(Builtin.firstCells i0.size i (.slice (some ⟨g,0,none⟩) i cap)).run Tryz.prog w.drew= .ok (xs.take (i*4)).toArray w.drew:=by
     rw[hz1];refine run_firstCells_some w.drew 4 i ⟨g,0,none⟩ i cap (xs.take (i*4)) (by rw[List.length_take,HLX.out];omega) (fun j u hu=> ?_);rw[Addr.add_lit,Nat.zero_add,Blk.cell (w:=w.drew) (g:=g) hg];rw[List.getElem?_take] at hu;split at hu
     ·exact hfst _ _ hu
     ·cases hu
    have hkk:(cap:Int)+1 - (i:Int)=((cap+1 - i:Nat):Int):=by omega
    have hik:i+(cap+1 - i)=cap+1:=by omega
    have hrz: ∀ty,(Builtin.append_ #[36,3] ty #[.slice (some ⟨g,0,none⟩) i cap,.int .i64 ((cap:Int)+1 - (i:Int))]).run Tryz.prog w=
      .ok (.slice (some ⟨w.heap.size,0,none⟩) (cap+1) (grownCap w (cap+1) cap 41)) (w.drew.alloc (.cells ((xs.take (i*4)).toArray++Builtin.zeroCells ((.agg #[.string ByteArray.empty,.bool false,.int .i64 0,.slice none 0 0]):Value).cells (cap+1 - i)++Builtin.zeroCells ((.agg #[.string ByteArray.empty,.bool false,.int .i64 0,.slice none 0 0]):Value).cells (grownCap w (cap+1) cap 41 - (cap+1))) 41)):=fun ty=>by
     have h:=Lib.run_append_grow_zeros w 36 3 ty 41 i0 _ .i64 .i64 Tryz.underlying36 Tryz.underlying3 hi0 hz0 (some ⟨g,0,none⟩) i cap (xs.take (i*4)) hold (cap+1 - i) (by omega) (by rw[hz1];decide) (by omega) (by omega) (by rw[hz2];omega) (by rw[hz2,hik];exact growslice_fits (by omega) (by omega));rw[hik] at h;rw[hkk];exact h
    have hGn:cap+1≤grownCap w (cap+1) cap 41:=grownCap_ge w _ _ _;have hGm:=grownCap_le_maxLen w (cap+1) cap 41 (by unfold maxLen;omega);unfold maxLen at hGm;generalize hGe:grownCap w (cap+1) cap 41=G at hrz hGn hGm;clear hGe
    obtain⟨ROW,hROW⟩: ∃ROW:Array Value,ROW=(xs.take (i*4)).toArray++Builtin.zeroCells ((.agg #[.string ByteArray.empty,.bool false,.int .i64 0,.slice none 0 0]):Value).cells (cap+1 - i)++Builtin.zeroCells ((.agg #[.string ByteArray.empty,.bool false,.int .i64 0,.slice none 0 0]):Value).cells (G - (cap+1)):=⟨_,rfl⟩;rw[←hROW] at hrz
    have hrow:ROW.toList=xs.take (i*4)++(Builtin.zeroCells ((.agg #[.string ByteArray.empty,.bool false,.int .i64 0,.slice none 0 0]):Value).cells (cap+1 - i)).toList++(Builtin.zeroCells ((.agg #[.string ByteArray.empty,.bool false,.int .i64 0,.slice none 0 0]):Value).cells (G - (cap+1))).toList:=by rw[hROW];simp
    obtain⟨r1,hr1⟩: ∃r1,r1=ROW.toList.take (i*4)++ys++ROW.toList.drop (i*4+ys.length):=⟨_,rfl⟩;obtain⟨q0,q1,q2,q3⟩:=jl9 HLX.out HY.out hlt hGn (by simp[Builtin.zeroCells,Value.cells]) (by simp[Builtin.zeroCells,Value.cells]) hrow hr1;have hRS:ROW.size=G*4:=by rw[←Array.length_toList];exact q0
    obtain⟨r2,hr2⟩: ∃r2,r2=r1.take ((i+1)*4)++xs.drop (i*4)++r1.drop ((i+1)*4+(xs.drop (i*4)).length):=⟨_,rfl⟩;rw[←hr2] at q2 q3;obtain⟨W1,hW1⟩: ∃W1,W1=w.drew.alloc (.cells ROW 41):=⟨_,rfl⟩;rw[←hW1] at hrz;have hN1:W1.heap[w.heap.size]? =some (.cells ROW 41 (0,0)):=by rw[hW1];exact heap_alloc_new w.drew _
    have hold1: ∀b,b<w.heap.size→W1.heap[b]? =w.heap[b]? :=fun b hb=>by rw[hW1];exact Below.heap_alloc w.drew _ b hb
    have hHS1:W1.heap.size=w.heap.size+1:=by rw[hW1];simp
    have hGR1:w.grownBy W1 (some g):=by rw[hW1];exact Vy (jao w (some g)) (World.grownBy_alloc _ _ _)
    have hcpA: ∀ty dc,(Builtin.copy_ #[36,36] ty #[.slice (some ⟨w.heap.size,i*4,none⟩) (cap+1 - i) dc,.slice (some ⟨vb,0,none⟩) 1 1]).run Tryz.prog W1= .ok (goInt 1) (W1.setRow w.heap.size r1.toArray):=fun ty dc=>by
     rw[hr1];exact Vr W1 36 36 ty 41 4 w.heap.size (i*4) (cap+1 - i) dc ⟨vb,0,none⟩ 1 1 ROW 41 ys Tryz.underlying36 hsz hN1 1 (by simp only[Nat.min_def];split<;>omega) (by have:=HY.out;omega)
      (fun j u hu=>World.news_of_block ((hold1 vb hvw).trans HV.out) j u (by simpa using hu)) (by rw[HY.out,hRS];omega) HY1.out
    obtain⟨W2,hW2⟩: ∃W2,W2=W1.setRow w.heap.size r1.toArray:=⟨_,rfl⟩;rw[←hW2] at hcpA;have hN2:W2.heap[w.heap.size]? =some (.cells r1.toArray 41 (0,0)):=by rw[hW2];exact setRow_heap W1 _ _ _ _ _ hN1
    have hold2: ∀b,b<w.heap.size→W2.heap[b]? =w.heap[b]? :=fun b hb=>by rw[hW2,setRow_other _ _ _ _ (by omega)];exact hold1 b hb
    have hGR2:w.grownBy W2 (some g):=by
     rw[hW2];exact⟨hGR1.os,hGR1.tape,hGR1.output,by rw[setRow_size];exact hGR1.size,fun k hk hn=>by rw[setRow_other _ _ _ _ (by omega)];exact hGR1.block k hk hn⟩
    have hcpB: ∀ty dc sc,(Builtin.copy_ #[36,36] ty #[.slice (some ⟨w.heap.size,(i+1)*4,none⟩) (cap - i) dc,.slice (some ⟨g,i*4,none⟩) (cap - i) sc]).run Tryz.prog W2.drew= .ok (goInt ((cap - i:Nat):Int)) (W2.drew.setRow w.heap.size r2.toArray):=fun ty dc sc=>by
     rw[hr2];exact Vr W2.drew 36 36 ty 41 4 w.heap.size ((i+1)*4) (cap - i) dc ⟨g,i*4,none⟩ (cap - i) sc r1.toArray 41 (xs.drop (i*4)) Tryz.underlying36 hsz hN2 (cap - i) (by simp only[Nat.min_def];split<;>omega) hdl
      (hsrc W2.drew ((hold2 g hgw).trans hg)) (by rw[hdl];simp only[List.size_toArray];omega) h1d
    obtain⟨W3,hW3⟩: ∃W3,W3=W2.drew.setRow w.heap.size r2.toArray:=⟨_,rfl⟩;rw[←hW3] at hcpB;have HO:=Ja (show W3.ownsRow base 41 4 (.slice (some ⟨w.heap.size,0,none⟩) (cap+1) G) (cap+1) (jae 4 i xs ys) from
     ⟨by unfold jae;simp only[List.length_append,List.length_take,hdl,HY.out,HLX.out];omega,.inr ⟨w.heap.size,G,_,rfl,hbase,by rw[hW3];exact setRow_heap W2.drew _ _ _ _ _ hN2,hGn,by unfold maxLen;omega,by simpa using q2,by simpa using q3⟩⟩)
    have HG:=Ja (show w.grownBy W3 (some g) by
     rw[hW3];exact⟨hGR2.os,hGR2.tape,hGR2.output,by rw[setRow_size];exact hGR2.size,fun k hk hn=>by rw[setRow_other _ _ _ _ (by omega)];exact hGR2.block k hk hn⟩)
    have k5:(cap:Int)<(cap:Int)+1:=by omega
    have k6:IntKind.i64.wrap ((i:Int)+1)=(i:Int)+1:=IntWalk.i64_in _ (by omega);have k7:(0:Int)≤(i:Int)+1:=by omega
    have k8:((i:Int)+1).toNat=i+1:=by omega
    have k9:(i:Int)+1≤(cap:Int)+1:=by omega
    have k10: ¬(G=i+1):=by omega
    have k11:(i:Int)≤(cap:Int)+1:=by omega
    have k12: ¬(G=i):=by omega
    have mixed:Tryz.prog.follows .mixedOrders=true:=by kernel_rfl
    generalize w.heap.size=N at hrz hcpA hcpB HO;clear hRS hW3 hW2 hW1 hN1 hN2 hold1 hold2 hHS1 hGR1 hGR2 hr1 hr2 q0 q1 q2 q3 hrow hROW hold hkk hik hsrc hfst hdl h1d hg ht hcs hcl;go_enter Tryz.func141,Tryz.ntmps141;go_wp2_with(first
     |(at_builtin;refine Lib.wpList_append_run _ rfl _ _ _ _ rfl _ _ rfl rfl _ _ (hrz _) ?_)
     |(at_builtin;refine wpList_copy_runI _ rfl _ _ 36 36 rfl _ _ rfl rfl (hcpA _ _) ?_))
    go_region_law_o (refine step_copy_runI rfl _ _ 36 36 rfl _ _ (by simp[Act.eval,Act.put]) (by simp[Act.eval,Act.put]) (hcpB _ _ _) ?_)
    go_wp2;go_ret;exact⟨.slice (some ⟨N,0,none⟩) (cap+1) G,rfl,HO.out,HG.out⟩
theorem jnj (base i n:Nat) (v:Value) (xs:List Value) (w:World) (ho:w.ownsRow base 41 4 v n xs) (hi:i<n) (hx1: ∀u∈xs,u.oneCell'=true) (hn:n≤4194304):
  Calls Tryz.prog 142 #[v,.int .i64 i,.int .i64 ((i:Int)+1)] w fun e w'=>∃v',e= .returned v'∧w'.ownsRow base 41 4 v' (n - 1) (jdw 4 i xs)∧w.grownBy w' v.ownBlock:=by
 obtain⟨i0,hi0,hz0,hz1,hz2⟩:=info_parts jdp;have hlx:=ho.1;rcases ho.2 with ⟨rfl,rfl⟩|⟨g,cap,cur,rfl,hb,hg,hnc,hcm,hcs,ht⟩
 ·omega
 unfold maxLen at hcm;have hcl:cur.toList.length=cap*4:=by simpa using hcs
 have hfst: ∀j u,xs[j]? =some u→cur[j]? =some u:=fun j u hu=>by
  rw[←ht,List.getElem?_take] at hu;split at hu
  ·simpa using hu
  ·cases hu
 have hsrc: ∀j u,(xs.drop ((i+1)*4))[j]? =some u→w.cell? ((⟨g,(i+1)*4,none⟩:Addr).add j)=some u:=fun j u hu=>by
  rw[Addr.add_lit,Blk.cell (w:=w) (g:=g) hg];rw[List.getElem?_drop] at hu;exact hfst _ _ hu
 have hdl:(xs.drop ((i+1)*4)).length=(n - (i+1))*4:=by rw[List.length_drop,hlx,←Nat.sub_mul]
 have h1d: ∀u∈xs.drop ((i+1)*4),u.oneCell'=true:=fun u hu=>hx1 u (List.mem_of_mem_drop hu)
 have hap: ∀ty sc,(Builtin.append_ #[36,36] ty #[.slice (some ⟨g,0,none⟩) i cap,.slice (some ⟨g,(i+1)*4,none⟩) (n - (i+1)) sc]).run Tryz.prog w.drew= .ok (.slice (some ⟨g,0,none⟩) (n - 1) cap) (w.drew.setRow g (cur.toList.take (i*4)++xs.drop ((i+1)*4)++cur.toList.drop (i*4+(xs.drop ((i+1)*4)).length)).toArray):=fun ty sc=>by
  have h:=run_append_room w.drew 36 ty 41 i0 Tryz.underlying36 hi0 g i cap cur hg ⟨g,(i+1)*4,none⟩ (n - (i+1)) sc (xs.drop ((i+1)*4)) (by rw[hz1];exact hdl) (fun j u hu=>hsrc j u hu) h1d (by omega) (by rw[hz1,hdl,hcs];omega);rw[hz1,show i+(n - (i+1))=n - 1 by omega] at h;exact h
 have hap': ∀ty,cap=i+1→(Builtin.append_ #[36,36] ty #[.slice (some ⟨g,0,none⟩) i cap,.slice (some ⟨g,0,none⟩) (n - (i+1)) 0]).run Tryz.prog w.drew= .ok (.slice (some ⟨g,0,none⟩) (n - 1) cap) (w.drew.setRow g (cur.toList.take (i*4)++xs.drop ((i+1)*4)++cur.toList.drop (i*4+(xs.drop ((i+1)*4)).length)).toArray):=fun ty hci=>by
  have hnil:xs.drop ((i+1)*4)= []:=List.drop_eq_nil_of_le (by rw[hlx];omega);have h:=run_append_room w.drew 36 ty 41 i0 Tryz.underlying36 hi0 g i cap cur hg ⟨g,0,none⟩ (n - (i+1)) 0 (xs.drop ((i+1)*4)) (by rw[hz1];exact hdl) (fun j u hu=>by rw[hnil] at hu;cases hu) h1d (by omega) (by rw[hz1,hdl,hcs];omega);rw[hz1,show i+(n - (i+1))=n - 1 by omega] at h;exact h
 obtain⟨c1,hc1⟩: ∃c1,c1=cur.toList.take (i*4)++xs.drop ((i+1)*4)++cur.toList.drop (i*4+(xs.drop ((i+1)*4)).length):=⟨_,rfl⟩;obtain⟨q1,q2,q3⟩:=jo8 ht hcl hi hnc (z:=([.string ByteArray.empty,.bool false,.int .i64 0,.slice none 0 0]:List Value)) rfl hc1;rw[←hc1] at hap hap'
 have hg1:(w.drew.setRow g c1.toArray).heap[g]? =some (.cells c1.toArray 41 (0,0)):=setRow_heap w.drew g cur c1.toArray 41 (0,0) hg;obtain⟨W1,hW1⟩: ∃W1,W1=w.drew.setRow g c1.toArray:=⟨_,rfl⟩;rw[←hW1] at hap hap' hg1
 have hcl2: ∀ty dc,(Builtin.clear_ #[36] ty #[.slice (some ⟨g,(n - 1)*4,none⟩) 1 dc]).run Tryz.prog W1= .ok (.tuple #[]) (W1.setRow g (c1.take ((n - 1)*4)++([.string ByteArray.empty,.bool false,.int .i64 0,.slice none 0 0]:List Value)++c1.drop ((n - 1)*4+1*4)).toArray):=fun ty dc=>
  jdg (P:=Tryz.prog) W1 36 41 ty (.agg #[.string ByteArray.empty,.bool false,.int .i64 0,.slice none 0 0]) 4 Tryz.underlying36 (fun w=>by kernel_rfl) rfl jjz g ((n - 1)*4) 1 dc c1.toArray 41 hg1 (by simp only[List.size_toArray];omega)
 obtain⟨W2,hW2⟩: ∃W2,W2=W1.setRow g (c1.take ((n - 1)*4)++([.string ByteArray.empty,.bool false,.int .i64 0,.slice none 0 0]:List Value)++c1.drop ((n - 1)*4+1*4)).toArray:=⟨_,rfl⟩;rw[←hW2] at hcl2;have HO:=Ja (show W2.ownsRow base 41 4 (.slice (some ⟨g,0,none⟩) (n - 1) cap) (n - 1) (jdw 4 i xs) from
  ⟨by unfold jdw;simp only[List.length_append,List.length_take,hdl,hlx];omega,.inr ⟨g,cap,_,rfl,hb,by rw[hW2];exact setRow_heap W1 g c1.toArray _ 41 (0,0) hg1,by omega,by unfold maxLen;omega,by simpa using q2,by simpa using q3⟩⟩)
 have HG:=Ja (show w.grownBy W2 (some g) by rw[hW2,hW1];exact Vy (Vy (jao w (some g)) (V7 c1.toArray)) (V7 (w:=w.drew.setRow g c1.toArray) _));have k1:(0:Int)≤(i:Int):=by omega
 have k2:(i:Int)≤(n:Int):=by omega
 have k3:((i:Int)==(i:Int)+1)=false:=by simp;omega
 have k5:(i:Int)+1≤(n:Int):=by omega
 have k6:(i:Int)≤(i:Int)+1:=by omega
 have k7:(0:Int)≤(i:Int)+1:=by omega
 have k8:((i:Int)+1).toNat=i+1:=by omega
 have k9:(i:Int)≤(cap:Int):=by omega
 have k10:n≤cap:=hnc;have k11: ¬(n=i):=by omega
 have k12: ¬(cap=n - 1):=by omega
 have k13:(n:Int) - 1≤(n:Int):=by omega
 have k14:n - (n - 1)=1:=by omega
 have k15:0<n:=by omega
 have mixed:Tryz.prog.follows .mixedOrders=true:=by kernel_rfl
 clear hW1 hW2 q1 q2 q3 hc1 hg1 hsrc hfst hdl h1d hg ht hcs hcl ho hlx hx1;by_cases hci:cap=i+1
 ·have hn1:n=i+1:=by omega
  subst hn1;subst hci;have hap:=fun ty=>hap' ty rfl;rw[Nat.add_sub_cancel] at HO hcl2;simp only[Nat.add_sub_cancel,Nat.sub_self] at hap;clear hap' k2 k5 k9 k10 k11 k12 k13 k14 k15;have k9:(i:Int)≤(i:Int)+1:=by omega
  have k16: ¬(i+1=i):=by omega
  have k17:i+1 - i=1:=by omega
  go_enter Tryz.func142,Tryz.ntmps142;go_wp2_with fail
  go_region_law_o (refine Wx rfl _ _ 36 36 rfl _ _ (by simp[Act.eval,Act.put]) (by simp[Act.eval,Act.put]) (hap _) ?_)
  go_wp2;go_ret;exact⟨.slice (some ⟨g,0,none⟩) i (i+1),rfl,by rw[Nat.add_sub_cancel];exact HO.out,HG.out⟩
 ·clear hap';go_enter Tryz.func142,Tryz.ntmps142;go_wp2_with fail
  go_region_law_o (refine Wx rfl _ _ 36 36 rfl _ _ (by simp[Act.eval,Act.put]) (by simp[Act.eval,Act.put]) (hap _ (cap - (i+1))) ?_)
  go_wp2;go_ret;exact⟨.slice (some ⟨g,0,none⟩) (n - 1) cap,rfl,HO.out,HG.out⟩
theorem toList_iff2 {a b:ByteArray} :a.toList=b.toList↔a=b:=by
 refine⟨fun h=> ?_,fun h=>by rw[h]⟩;have:=Jr a b;rw[h] at this;simpa using this
theorem jk6 (x y:File) (w:World):(Op.equalIn 10000 98 (.agg (Jj x).toArray) (.agg (Jj y).toArray)).run Tryz.prog w= .ok (decide (x=y)) w:=by
 obtain⟨a,b⟩:=x;obtain⟨a',b'⟩:=y;have u9:=Tryz.underlying9;have a9:=Tryz.isAgg9;have z9:=Tryz.sizeOf9;have hS:Tryz.prog.underlying 98=some (.struct (Tryz.prog.fieldsOf 98)):=by kernel_rfl
 have hp:Tryz.prog.stoodInHeld 98=false:=by kernel_rfl
 simp only[Jj];rw[show(10000:Nat)=9999+1 from rfl,run_equalIn_agg w 9999 98 _ _ hS hp];simp only[Program.fieldsOf,Tryz.underlying98]
 go_simp
 by_cases h1:a=a'<;>by_cases h2:b=b'<;>simp[h1,h2,toList_iff2]
theorem neqFile (x y:File) (w:World):(binOp .neq 98 (.agg (Jj x).toArray) (.agg (Jj y).toArray)).run Tryz.prog w= .ok (.bool (!decide (x=y))) w:=by
 rw[run_neq_struct,jk6];rfl
theorem gdFile (op:BinOp) (a b:Operand) (xs ys:Array Value) (w:World):(eqGuard op 98 a b (.agg xs) (.agg ys)).run Tryz.prog w= .ok () w:=run_eqGuard_agg w op _ a b xs ys (by kernel_rfl)
theorem jgb {A B:Option Addr} {n c m d:Nat} {x y:List File} {fx fy:List Nat} (w:World) (hx:SlR Rp.file w A n c x fx) (hy:SlR Rp.file w B m d y fy):
  Calls Tryz.prog 28 #[.slice A n c,.slice B m d] w fun e w'=>e= .returned (.bool (decide (x=y)))∧Below w.heap.size w w':=by
 obtain⟨rfl,hcx,hmx,_⟩:=id hx;obtain⟨rfl,hcy,hmy,_⟩:=id hy;unfold maxLen at hmx hmy;go_enter Tryz.func28,Tryz.ntmps28;by_cases hl:x.length=y.length
 ·have hl':((x.length:Int) !=(y.length:Int))=false:=by simp[hl]
  go_wp2
  go_loopw [5] (fun i wr=>∃k:Nat,k≤x.length∧i= .int .i64 k∧je6 x y k∧Below w.heap.size w wr) (fun i _=>x.length - (intOf i).toNat)
  case atStart=>exact⟨0,Nat.zero_le _,rfl,rfl,Below.refl _ _⟩
  case round=>
   obtain⟨k,hk,rfl,hag,hbl⟩:=hrel;have HA:=Ja hag;clear hag;by_cases hlt:k<x.length
   ·have hlt2:k<y.length:=by omega
    obtain⟨b,o,rfl,hb,hm,h0,h1⟩:=Jx (hx.step hbl) hlt;obtain⟨b',o',rfl,hb',hm',k0,k1⟩:=Jx (hy.step hbl) hlt2;have i0:(0:Int)≤(k:Int):=by omega
    have i1:(k:Int)<(x.length:Int):=by omega
    have i2:(k:Int)<(y.length:Int):=by omega
    have heq:=neqFile x[k] y[k];have hgd:=gdFile;unfold Jj at heq;clear hl;go_wp2_with fail;go_quiet(fail);clear heq hgd h0 h1 k0 k1 i0 i1 i2;cases hd:decide (x[k]=y[k])
    ·have HN:=Ja (Ww hlt hlt2 (of_decide_eq_false hd));clear hd;go_wp2;go_ret;exact⟨Jc (decide_eq_false HN.out).symm,Below.drewN' hbl _⟩
    ·have HN:=Ja (Zw HA.out hlt hlt2 (of_decide_eq_true hd));clear hd;go_wp2;exact⟨⟨k+1,by omega,by go_num,HN.out,Below.drewN' hbl _⟩,by simp[intOf];omega⟩
   ·have hk':k=x.length:=by omega
    subst hk';go_wp2;go_ret;exact⟨Jc (decide_eq_true (jaq HA.out hl)).symm,hbl⟩
 ·have hl':((x.length:Int) !=(y.length:Int))=true:=by simp;omega
  go_wp2;go_ret;exact⟨Jc (decide_eq_false (Z4 hl)).symm,Below.refl _ _⟩
theorem ref_ext {a b:Ref} (h1:a.name=b.name) (h2:a.guard=b.guard) (h3:a.count=b.count) (h4:a.Vz=b.Vz):a=b:=by
 cases a;cases b;simp_all
theorem jnm {A B:Option Addr} {n c m d:Nat} {x y:List Ref} {fx fy:List Nat} (w:World) (hx:SlR Rp.ref w A n c x fx) (hy:SlR Rp.ref w B m d y fy):
  Calls Tryz.prog 52 #[.slice A n c,.slice B m d] w fun e w'=>e= .returned (.bool (decide (x=y)))∧Below w.heap.size w w':=by
 obtain⟨rfl,hcx,hmx,_⟩:=id hx;obtain⟨rfl,hcy,hmy,_⟩:=id hy;unfold maxLen at hmx hmy;go_enter Tryz.func52,Tryz.ntmps52;by_cases hl:x.length=y.length
 ·have hl':((x.length:Int) !=(y.length:Int))=false:=by simp[hl]
  go_wp2
  go_loopw [5] (fun i wr=>∃k:Nat,k≤x.length∧i= .int .i64 k∧je6 x y k∧Below w.heap.size w wr) (fun i _=>x.length - (intOf i).toNat)
  case atStart=>exact⟨0,Nat.zero_le _,rfl,rfl,Below.refl _ _⟩
  case round=>
   obtain⟨k,hk,rfl,hag,hbl⟩:=hrel;have HA:=Ja hag;clear hag;by_cases hlt:k<x.length
   ·have hlt2:k<y.length:=by omega
    obtain⟨b,o,A1,n1,c1,f1,rfl,hb,hm,h0,h1,h2,h3,hs,_⟩:=J3 (hx.step hbl) hlt;obtain⟨b',o',A2,n2,c2,f2,rfl,hb',hm',k0,k1,k2,k3,hs',_⟩:=J3 (hy.step hbl) hlt2;obtain⟨rfl,hcs,hms,_⟩:=id hs;obtain⟨rfl,hct,hmt,_⟩:=id hs';unfold maxLen at hms hmt;have i0:(0:Int)≤(k:Int):=by omega
    have i1:(k:Int)<(x.length:Int):=by omega
    have i2:(k:Int)<(y.length:Int):=by omega
    clear hl;cases e0:(x[k].name.toList==y[k].name.toList)
    ·have HN:=Ja (Ww hlt hlt2 (fun h=>by rw[h] at e0;simp at e0));go_wp2_with fail;have n0:=BelowW.nonempty wr;have ex0:=BelowW.ex (w:=wr);have g0:=fun n:BelowW wr=>n.cell h0;have g1:=fun n:BelowW wr=>n.cell h1;have g2:=fun n:BelowW wr=>n.cell h2;have g3:=fun n:BelowW wr=>n.cell h3;have g4:=fun n:BelowW wr=>n.cell k0;have g5:=fun n:BelowW wr=>n.cell k1;have g6:=fun n:BelowW wr=>n.cell k2
     have g7:=fun n:BelowW wr=>n.cell k3;clear h0 h1 h2 h3 k0 k1 k2 k3;refine Jf (by kernel_rfl) (by kernel_rfl) ?_
     repeat(go_big_quiet_step(fail))
     refine wpQuiet_nil ?_;rintro w4 ⟨m4,hw4⟩;have hb4:=m4.property;rw[←hw4] at hb4;clear hw4 m4;go_wp2;go_ret;exact⟨Jc (decide_eq_false HN.out).symm,Below.t hbl hb4⟩
    cases e1:(x[k].guard==y[k].guard)
    ·have HN:=Ja (Ww hlt hlt2 (fun h=>by rw[h] at e1;simp at e1));go_wp2_with fail;have n0:=BelowW.nonempty wr;have ex0:=BelowW.ex (w:=wr);have g0:=fun n:BelowW wr=>n.cell h0;have g1:=fun n:BelowW wr=>n.cell h1;have g2:=fun n:BelowW wr=>n.cell h2;have g3:=fun n:BelowW wr=>n.cell h3;have g4:=fun n:BelowW wr=>n.cell k0;have g5:=fun n:BelowW wr=>n.cell k1;have g6:=fun n:BelowW wr=>n.cell k2
     have g7:=fun n:BelowW wr=>n.cell k3;clear h0 h1 h2 h3 k0 k1 k2 k3;refine Jf (by kernel_rfl) (by kernel_rfl) ?_
     repeat(go_big_quiet_step(fail))
     refine wpQuiet_nil ?_;rintro w4 ⟨m4,hw4⟩;have hb4:=m4.property;rw[←hw4] at hb4;clear hw4 m4;go_wp2;go_ret;exact⟨Jc (decide_eq_false HN.out).symm,Below.t hbl hb4⟩
    cases e2:(x[k].count !=y[k].count);rotate_left
    ·have HN:=Ja (Ww hlt hlt2 (fun h=>by rw[h] at e2;simp at e2));go_wp2_with fail;have n0:=BelowW.nonempty wr;have ex0:=BelowW.ex (w:=wr);have g0:=fun n:BelowW wr=>n.cell h0;have g1:=fun n:BelowW wr=>n.cell h1;have g2:=fun n:BelowW wr=>n.cell h2;have g3:=fun n:BelowW wr=>n.cell h3;have g4:=fun n:BelowW wr=>n.cell k0;have g5:=fun n:BelowW wr=>n.cell k1;have g6:=fun n:BelowW wr=>n.cell k2
     have g7:=fun n:BelowW wr=>n.cell k3;clear h0 h1 h2 h3 k0 k1 k2 k3;refine Jf (by kernel_rfl) (by kernel_rfl) ?_
     repeat(go_big_quiet_step(fail))
     refine wpQuiet_nil ?_;rintro w4 ⟨m4,hw4⟩;have hb4:=m4.property;rw[←hw4] at hb4;clear hw4 m4;go_wp2;go_ret;exact⟨Jc (decide_eq_false HN.out).symm,Below.t hbl hb4⟩
    cases e3:((x[k].Vz.length:Int) !=(y[k].Vz.length:Int));rotate_left
    ·have HN:=Ja (Ww hlt hlt2 (fun h=>by rw[h] at e3;simp at e3));go_wp2_with fail;have n0:=BelowW.nonempty wr;have ex0:=BelowW.ex (w:=wr);have g0:=fun n:BelowW wr=>n.cell h0;have g1:=fun n:BelowW wr=>n.cell h1;have g2:=fun n:BelowW wr=>n.cell h2;have g3:=fun n:BelowW wr=>n.cell h3;have g4:=fun n:BelowW wr=>n.cell k0;have g5:=fun n:BelowW wr=>n.cell k1;have g6:=fun n:BelowW wr=>n.cell k2
     have g7:=fun n:BelowW wr=>n.cell k3;clear h0 h1 h2 h3 k0 k1 k2 k3;refine Jf (by kernel_rfl) (by kernel_rfl) ?_
     repeat(go_big_quiet_step(fail))
     refine wpQuiet_nil ?_;rintro w4 ⟨m4,hw4⟩;have hb4:=m4.property;rw[←hw4] at hb4;clear hw4 m4;go_wp2;go_ret;exact⟨Jc (decide_eq_false HN.out).symm,Below.t hbl hb4⟩
    go_wp2_with fail;have n0:=BelowW.nonempty wr;have ex0:=BelowW.ex (w:=wr);have g0:=fun n:BelowW wr=>n.cell h0;have g1:=fun n:BelowW wr=>n.cell h1;have g2:=fun n:BelowW wr=>n.cell h2;have g3:=fun n:BelowW wr=>n.cell h3;have g4:=fun n:BelowW wr=>n.cell k0;have g5:=fun n:BelowW wr=>n.cell k1;have g6:=fun n:BelowW wr=>n.cell k2;have g7:=fun n:BelowW wr=>n.cell k3;clear h0 h1 h2 k0 k1 k2
    refine Jf (by kernel_rfl) (by kernel_rfl) ?_
    repeat(go_big_quiet_step(fail))
    refine wpQuiet_nil ?_;rintro w4 ⟨m4,hw4⟩;have hb4:=m4.property;rw[←hw4] at hb4;clear hw4 m4;have hbl':=Below.t hbl hb4;have hc4:=Je h3 hb4;have hd4:=Je k3 hb4;have hs4:=hs.step hb4;have ht4:=hs'.step hb4;have hlv:x[k].Vz.length=y[k].Vz.length:=by have h:=(bne_eq_false_iff_eq).mp e3;omega
    have HE:=Ja (show x[k].name=y[k].name∧x[k].guard=y[k].guard∧x[k].count=y[k].count from⟨toList_iff2.mp (by simpa using e0),by simpa using e1,by simpa using e2⟩);clear h3 k3 hs hs' e0 e1 e2 e3 g0 g1 g2 g3 g4 g5 g6 g7 ex0 n0;go_wp2
    go_loopw [6] (fun i wr2=>∃j:Nat,j≤x[k].Vz.length∧i= .int .i64 j∧je6 x[k].Vz y[k].Vz j∧Below w4.heap.size w4 wr2) (fun i _=>x[k].Vz.length - (intOf i).toNat)
    case atStart=>exact⟨0,Nat.zero_le _,rfl,rfl,Below.refl _ _⟩
    case round=>
     obtain⟨j,hj,rfl,hagj,hblj⟩:=hrel;have HJ:=Ja hagj;clear hagj;have hc5:=Je hc4 hblj;have hd5:=Je hd4 hblj;by_cases hltj:j<x[k].Vz.length
     ·have hltj2:j<y[k].Vz.length:=by omega
      obtain⟨b2,o2,A3,n3,c3,f3,rfl,hb2,_,p0,hp,_⟩:=Vv (hs4.step hblj) hltj;obtain⟨b3,o3,A4,n4,c4,f4,rfl,hb3,_,p1,hq,_⟩:=Vv (ht4.step hblj) hltj2;have j0:(0:Int)≤(j:Int):=by omega
      have j1:(j:Int)<(x[k].Vz.length:Int):=by omega
      have j2:(j:Int)<(y[k].Vz.length:Int):=by omega
      have C1:=fun(m:BelowW wr)=>jgb _ (BelowW.sl m hp) (BelowW.sl m hq);cases hd:decide (x[k].Vz[j]=y[k].Vz[j])
      ·simp only[hd] at C1;have D1:=Ja C1;have HN:=Ja (Ww hlt hlt2 (fun h=>(of_decide_eq_false hd) (by simp[h])));clear C1 hd;go_wp2_with fail;have n0:=BelowW.nonempty wr;have ex0:=BelowW.ex (w:=wr);have g0:=fun n:BelowW wr=>n.cell hc5;have g1:=fun n:BelowW wr=>n.cell hd5;have g2:=fun n:BelowW wr=>n.cell p0;have g3:=fun n:BelowW wr=>n.cell p1;clear hc5 hd5 p0 p1
       refine Jf (by kernel_rfl) (by kernel_rfl) ?_
       repeat(go_big_quiet_step(first|(go_at_call 28;exact BelowW.calls _ (D1.out _))))
       refine wpQuiet_nil ?_;rintro w6 ⟨m6,hw6⟩;have hb6:=m6.property;rw[←hw6] at hb6;clear hw6 m6;go_wp2;go_ret;exact⟨Jc (decide_eq_false HN.out).symm,Below.t (Below.t hbl' hblj) hb6⟩
      ·simp only[hd] at C1;have D1:=Ja C1;have HN:=Ja (Zw HJ.out hltj hltj2 (of_decide_eq_true hd));clear C1 hd;go_wp2_with fail;have n0:=BelowW.nonempty wr;have ex0:=BelowW.ex (w:=wr);have g0:=fun n:BelowW wr=>n.cell hc5;have g1:=fun n:BelowW wr=>n.cell hd5;have g2:=fun n:BelowW wr=>n.cell p0;have g3:=fun n:BelowW wr=>n.cell p1;clear hc5 hd5 p0 p1
       refine Jf (by kernel_rfl) (by kernel_rfl) ?_
       repeat(go_big_quiet_step(first|(go_at_call 28;exact BelowW.calls _ (D1.out _))))
       refine wpQuiet_nil ?_;rintro w6 ⟨m6,hw6⟩;have hb6:=m6.property;rw[←hw6] at hb6;clear hw6 m6;go_wp2;exact⟨⟨j+1,by omega,by go_num,HN.out,Below.t hblj hb6⟩,by simp[intOf];omega⟩
     ·have hj':j=x[k].Vz.length:=by omega
      subst hj';have HN:=Ja (Zw HA.out hlt hlt2 (ref_ext HE.out.1 HE.out.2.1 HE.out.2.2 (jaq HJ.out hlv)));go_wp2;exact⟨⟨k+1,by omega,by go_num,HN.out,Below.t hbl' hblj⟩,by simp[intOf];omega⟩
   ·have hk':k=x.length:=by omega
    subst hk';go_wp2;go_ret;exact⟨Jc (decide_eq_true (jaq HA.out hl)).symm,hbl⟩
 ·have hl':((x.length:Int) !=(y.length:Int))=true:=by simp;omega
  go_wp2;go_ret;exact⟨Jc (decide_eq_false (Z4 hl)).symm,Below.refl _ _⟩
end Go.Proofs.YtlkoaobaoffpaaaGreatDoor
