/- Lemmas and walks, joined by program. -/
import Derived.Shelf.Spec.SlicesInsert
import Derived.Test.YtobbdhgkcoeifaaGreatDoorZ1
import Derived.Test.YtobbdhgkcoeifaaGreatDoorShelf
namespace Go.Proofs.YtobbdhgkcoeifaaGreatDoor
open Go.RowKit
attribute [local go_sem ↓] Go.wp_at_zero Go.wp_at_succ
set_option maxHeartbeats 8000000
set_option maxRecDepth 100000
set_option linter.unusedSimpArgs false
set_option linter.unusedVariables false
theorem Zt:(Tryz.prog.info? 29).map (fun i=>(i.zero,i.size,i.bytes))=some (some (.agg #[.int .i64 0,.string ByteArray.empty,.string ByteArray.empty,.bool false]),4,48):=by kernel_rfl
theorem Xj:(Tryz.prog.info? 65).map (fun i=>(i.zero,i.size,i.bytes))=some (some (.agg #[.string ByteArray.empty,.string ByteArray.empty]),2,32):=by kernel_rfl
theorem jfw:(Tryz.prog.info? 3).map (fun i=>(i.zero,i.size,i.bytes))=some (some (.int .i64 0),1,8):=by kernel_rfl
theorem Z1 {A:Option Addr} {n c:Nat} {l:List Yt} {fp:List Nat} (w:World) (hx:SlR Rp.rule w A n c l fp) (hl:l.length≤4194304):
  Calls Tryz.prog 92 #[.slice A n c] w (OwnF 29 4 Jh w l):=by
 have HX:=Ja hx;have hn:=hx.1;subst hn;clear hx;obtain⟨i0,hi,hz0,hz1,hz2⟩:=info_parts Zt;go_enter Tryz.func92,Tryz.ntmps92;go_wp2_with(at_builtin;refine V2 (r:=Rp.rule) rfl _ _ 45 rfl w.heap.size 29 i0 _ 48 Tryz.underlying45 hi hz0 hz1 hz2 rfl (by decide) (.slice none 0 0) 0 [] rfl (World.ownsRow_nil _ _ _ _) rfl HX.out (by unfold maxLen;omega) (by omega) (by simp) ?_)
 intro v' w1 zs f1 hal _ hown hgrow;obtain⟨rfl,_⟩:=AllR.flat.1 hal;go_wp2;go_ret;exact⟨_,rfl,hown,(Below.refl _ _).grown hgrow nle (fun j hj=>by cases hj)⟩
theorem Xk {A:Option Addr} {n c:Nat} {l:List File} {fp:List Nat} (w:World) (hx:SlR Rp.file w A n c l fp) (hl:l.length≤4194304):
  Calls Tryz.prog 68 #[.slice A n c] w (OwnF 65 2 Jj w l):=by
 have HX:=Ja hx;have hn:=hx.1;subst hn;clear hx;obtain⟨i0,hi,hz0,hz1,hz2⟩:=info_parts Xj;go_enter Tryz.func68,Tryz.ntmps68;go_wp2_with(at_builtin;refine V2 (r:=Rp.file) rfl _ _ 34 rfl w.heap.size 65 i0 _ 32 Tryz.underlying34 hi hz0 hz1 hz2 rfl (by decide) (.slice none 0 0) 0 [] rfl (World.ownsRow_nil _ _ _ _) rfl HX.out (by unfold maxLen;omega) (by omega) (by simp) ?_)
 intro v' w1 zs f1 hal _ hown hgrow;obtain⟨rfl,_⟩:=AllR.flat.1 hal;go_wp2;go_ret;exact⟨_,rfl,hown,(Below.refl _ _).grown hgrow nle (fun j hj=>by cases hj)⟩
theorem jdz {A:Option Addr} {n c:Nat} {l:List Int} {fp:List Nat} (w:World) (hx:SlR Rp.int w A n c l fp) (hl:l.length≤4194304):
  Calls Tryz.prog 91 #[.slice A n c] w (OwnF 3 1 (fun n=>[.int .i64 n]) w l):=by
 have HX:=Ja hx;have hn:=hx.1;subst hn;clear hx;obtain⟨i0,hi,hz0,hz1,hz2⟩:=info_parts jfw;go_enter Tryz.func91,Tryz.ntmps91;go_wp2_with(at_builtin;refine V2 (r:=Rp.int) rfl _ _ 23 rfl w.heap.size 3 i0 _ 8 Tryz.underlying23 hi hz0 hz1 hz2 rfl (by decide) (.slice none 0 0) 0 [] rfl (World.ownsRow_nil _ _ _ _) rfl HX.out (by unfold maxLen;omega) (by omega) (by simp) ?_)
 intro v' w1 zs f1 hal _ hown hgrow;obtain⟨rfl,_⟩:=AllR.flat.1 hal;go_wp2;go_ret;exact⟨_,rfl,hown,(Below.refl _ _).grown hgrow nle (fun j hj=>by cases hj)⟩
theorem X6 {A:Option Addr} {n c:Nat} {l:List File} {fp:List Nat} (w:World) (hx:SlR Rp.file w A n c l fp) (hl:l.length≤4194304):
  Calls Tryz.prog 72 #[.slice A n c] w (OwnF 65 2 Jj w l):=by
 have HX:=Ja hx;have hn:=hx.1;subst hn;clear hx;obtain⟨i0,hi,hz0,hz1,hz2⟩:=info_parts Xj;go_enter Tryz.func72,Tryz.ntmps72
 go_wp2_with(at_builtin;refine V2 (r:=Rp.file) rfl _ _ 34 rfl w.heap.size 65 i0 _ 32 Tryz.underlying34 hi hz0 hz1 hz2 rfl (by decide) _ 0 [] rfl (World.ownsRow_made w #[] 0 nle (by simp[maxLen]) rfl) rfl (HX.out.allocN _) (by unfold maxLen;omega) (by omega) (by simp) ?_);intro v' w1 zs f1 hal _ hown hgrow;obtain⟨rfl,_⟩:=AllR.flat.1 hal;go_wp2;go_ret
 exact⟨_,rfl,hown,((Below.refl _ _).alloc nle _).grown hgrow (by simp) (fun j hj=>by simp[Value.ownBlock] at hj;omega)⟩
theorem jh9: ∀v∈((.agg #[.string ByteArray.empty,.string ByteArray.empty]):Value).cells.toList,v.oneCell'=true:=by intro v hv;simp[Value.cells] at hv;subst hv;rfl
theorem jkw (base i n vb:Nat) (v:Value) (xs ys:List Value) (tV:TypeId) (w:World) (ho:w.ownsRow base 65 2 v n xs) (hbase:base≤w.heap.size) (hi:i≤n) (hy:ys.length=2) (hy1: ∀u∈ys,u.oneCell'=true) (hx1: ∀u∈xs,u.oneCell'=true)
  (hv:Blk w vb tV ys.toArray) (hne:v.ownBlock≠some vb) (hn:n≤4194304):
  Calls Tryz.prog 176 #[v,.int .i64 i,.slice (some ⟨vb,0,none⟩) 1 1] w fun e w'=>∃v',e= .returned v'∧w'.ownsRow base 65 2 v' (n+1) (jae 2 i xs ys)∧w.grownBy w' v.ownBlock:=by
 obtain⟨i0,hi0,hz0,hz1,hz2⟩:=info_parts Xj;have hnews: ∀j u,ys[j]? =some u→w.cell? ((⟨vb,0,none⟩:Addr).add j)=some u:=fun j u hu=>World.news_of_block hv j u (by simpa using hu);have hlx:=ho.1;have HN:=Ja hnews;have HV:=Ja hv;have HY1:=Ja hy1;have HX1:=Ja hx1;have HLX:=Ja hlx;have HY:=Ja hy;clear hnews hy1 hx1 hlx hv hy;by_cases hin:i=n
 ·subst hin;have hall:jae 2 i xs ys=xs++ys:=by
   unfold jae;rw[List.take_of_length_le (by rw[HLX.out];exact Nat.le_refl _),List.drop_eq_nil_of_le (by rw[HLX.out];exact Nat.le_refl _),List.append_nil]
  have HALL:=Ja hall;clear hall;have ho':=ho;rcases ho.2 with ⟨rfl,rfl⟩|⟨g,cap,cur,rfl,hb,hg,hnc,hcm,hcs,ht⟩
  ·clear ho;go_enter Tryz.func176,Tryz.ntmps176;go_wp2_with(at_builtin;refine wpList_append_own _ rfl _ _ 34 rfl base 65 i0 _ 2 32 Tryz.underlying34 hi0 hz0 hz1 hz2 rfl (by decide) _ _ _ rfl ho' ⟨vb,0,none⟩ 1 1 ys rfl (by rw[HY.out]) HN.out HY1.out (by unfold maxLen;omega) (by omega) hbase ?_);intro v' w5 hown' hgrow _;go_wp2;go_ret;exact⟨_,rfl,by rw[HALL.out];exact hown',hgrow⟩
  ·have HH:=Ja (show True∧w.heap[g]? =some (.cells cur 65 (0,0)) from⟨trivial,hg⟩);unfold maxLen at hcm;clear ho hg ht hcs;have hcap:(cap=i)∨¬(cap=i):=Classical.em _;rcases hcap with hcap|hcap
   all_goals
    go_enter Tryz.func176,Tryz.ntmps176;go_wp2_with(at_builtin;refine wpList_append_own _ rfl _ _ 34 rfl base 65 i0 _ 2 32 Tryz.underlying34 hi0 hz0 hz1 hz2 rfl (by decide) _ _ _ rfl ho' ⟨vb,0,none⟩ 1 1 ys rfl (by rw[HY.out]) HN.out HY1.out (by unfold maxLen;omega) (by omega) hbase ?_);intro v' w5 hown' hgrow _;go_wp2;go_ret;exact⟨_,rfl,by rw[HALL.out];exact hown',hgrow⟩
 ·rcases ho.2 with ⟨rfl,rfl⟩|⟨g,cap,cur,rfl,hb,hg,hnc,hcm,hcs,ht⟩
  ·omega
  ·have hlt:i<n:=by omega
   have hgv:g≠vb:=fun e=>hne (by subst e;rfl);have hsz:(Tryz.prog.info? 65).map (·.size)=some 2:=by rw[hi0];simp[hz1]
   unfold maxLen at hcm;clear ho;have hcl:cur.toList.length=cap*2:=by simpa using hcs
   have hfst: ∀j u,xs[j]? =some u→cur[j]? =some u:=fun j u hu=>by
    rw[←ht,List.getElem?_take] at hu;split at hu
    ·simpa using hu
    ·cases hu
   have hsrc: ∀(W:World),Blk W g 65 cur→∀j u,(xs.drop (i*2))[j]? =some u→W.cell? ((⟨g,i*2,none⟩:Addr).add j)=some u:=fun W hW j u hu=>by
    rw[Addr.add_lit,hW.cell];rw[List.getElem?_drop] at hu;exact hfst _ _ hu
   have hdl:(xs.drop (i*2)).length=(n - i)*2:=by rw[List.length_drop,HLX.out,←Nat.sub_mul]
   have h1d: ∀u∈xs.drop (i*2),u.oneCell'=true:=fun u hu=>HX1.out u (List.mem_of_mem_drop hu);have k1:(0:Int)≤(i:Int):=by omega
   have k2:(i:Int)≤(n:Int):=by omega
   have k3:((i:Int)==(n:Int))=false:=by simp;omega
   have k4: ¬(cap=i):=by omega
   by_cases hroom:n+1≤cap
   ·have hcp1: ∀ty dc sc,(Builtin.copy_ #[34,34] ty #[.slice (some ⟨g,(i+1)*2,none⟩) (n - i) dc,.slice (some ⟨g,i*2,none⟩) (n+1 - i) sc]).run Tryz.prog w.drew= .ok (goInt ((n - i:Nat):Int)) (w.drew.setRow g (cur.toList.take ((i+1)*2)++xs.drop (i*2)++cur.toList.drop ((i+1)*2+(xs.drop (i*2)).length)).toArray):=fun ty dc sc=>
     Vr w.drew 34 34 ty 65 2 g ((i+1)*2) (n - i) dc ⟨g,i*2,none⟩ (n+1 - i) sc cur 65 _ Tryz.underlying34 hsz hg (n - i) (by simp only[Nat.min_def];split<;>omega) hdl (hsrc w.drew hg) (by rw[hdl,hcs];omega) h1d
    obtain⟨c1,hc1⟩: ∃c1,c1=cur.toList.take ((i+1)*2)++xs.drop (i*2)++cur.toList.drop ((i+1)*2+(xs.drop (i*2)).length):=⟨_,rfl⟩;have l1:=jfi ht hcl hlt hroom;have l2:=jik ht hcl HY.out hlt hroom hc1;rw[←hc1] at l1 hcp1;have hg1:(w.drew.setRow g c1.toArray).heap[g]? =some (.cells c1.toArray 65 (0,0)):=setRow_heap w.drew g cur c1.toArray 65 (0,0) hg
    have hcp2: ∀ty dc,(Builtin.copy_ #[34,34] ty #[.slice (some ⟨g,i*2,none⟩) (n+1 - i) dc,.slice (some ⟨vb,0,none⟩) 1 1]).run Tryz.prog (w.drew.setRow g c1.toArray)= .ok (goInt 1) ((w.drew.setRow g c1.toArray).setRow g (c1.take (i*2)++ys++c1.drop (i*2+ys.length)).toArray):=fun ty dc=>
     Vr _ 34 34 ty 65 2 g (i*2) (n+1 - i) dc ⟨vb,0,none⟩ 1 1 c1.toArray 65 ys Tryz.underlying34 hsz hg1 1 (by simp only[Nat.min_def];split<;>omega) (by have:=HY.out;omega)
      (fun j u hu=>(cell_setRow_other w.drew g c1.toArray _ (by rw[Addr.add_lit];exact fun e=>hgv e.symm)).trans (HN.out j u hu)) (by rw[HY.out];simp only[List.size_toArray];omega) HY1.out
    have hov: ∀lb cb,(callFunc 189 #[.slice (some ⟨vb,0,none⟩) 1 1,.slice (some ⟨g,(i+1)*2,none⟩) lb cb]).run Tryz.prog w= .ok (.value (.bool false)) w:=fun lb cb=>by
     rw[run_callFunc_extern Tryz.func189 (by kernel_rfl) (by kernel_rfl) (by kernel_rfl) (e:=Extern.SlicesOverlaps.overlaps #[34,34] #[4]) (by kernel_rfl),
      Lib.run_overlaps_apart w 34 4 65 Tryz.underlying34 2 (fun w=>by simp[Go.sizeOf,typeInfo,hi0,hz1]) ⟨vb,0,none⟩ ⟨g,(i+1)*2,none⟩ 1 1 lb cb (fun e=>hgv e.symm) tV 65 _ _ (jdi HV.out) (jdi hg) (by rw[hcs];omega) (jcg HV.out _) (jcg HV.out _)]
     rfl
    obtain⟨W2,hW2⟩: ∃W2,W2=(w.drew.setRow g c1.toArray).setRow g (c1.take (i*2)++ys++c1.drop (i*2+ys.length)).toArray:=⟨_,rfl⟩;rw[←hW2] at hcp2;have HO:=Ja (show W2.ownsRow base 65 2 (.slice (some ⟨g,0,none⟩) (n+1) cap) (n+1) (jae 2 i xs ys) from
     ⟨by unfold jae;simp only[List.length_append,List.length_take,hdl,HY.out,HLX.out];omega,.inr ⟨g,cap,_,rfl,hb,by rw[hW2];exact setRow_heap _ g c1.toArray _ 65 (0,0) hg1,hroom,by unfold maxLen;omega,by simpa using l2.1,by simpa using l2.2⟩⟩)
    have HG:=Ja (show w.grownBy W2 (some g) by rw[hW2];exact Vy (Vy (jao w (some g)) (V7 c1.toArray)) (V7 (w:=w.drew.setRow g c1.toArray) (c1.take (i*2)++ys++c1.drop (i*2+ys.length)).toArray));clear hW2;have k5:(n:Int)+1≤(cap:Int):=by omega
    have k6:IntKind.i64.wrap ((i:Int)+1)=(i:Int)+1:=IntWalk.i64_in _ (by omega);have k7:(0:Int)≤(i:Int)+1:=by omega
    have k8:((i:Int)+1).toNat=i+1:=by omega
    have k9:(i:Int)+1≤(n:Int)+1:=by omega
    have k10: ¬(cap=i+1):=by omega
    have k11:(i:Int)≤(n:Int)+1:=by omega
    have mixed:Tryz.prog.follows .mixedOrders=true:=by kernel_rfl
    clear l1 l2 hc1 hg1 hsrc hfst hdl h1d hg ht hcs hcl;go_enter Tryz.func176,Tryz.ntmps176;go_wp2_with(simp only[hov])
    go_region_law_o (refine step_copy_runI rfl _ _ 34 34 rfl _ _ (by simp[Act.eval,Act.put]) (by simp[Act.eval,Act.put]) (hcp1 _ _ _) ?_)
    go_wp2_with(at_builtin;refine wpList_copy_runI _ rfl _ _ 34 34 rfl _ _ rfl rfl (hcp2 _ _) ?_);go_ret;exact⟨.slice (some ⟨g,0,none⟩) (n+1) cap,rfl,HO.out,HG.out⟩
   ·have hgw:g<w.heap.size:=(Array.getElem?_eq_some_iff.1 hg).1;have hvw:vb<w.heap.size:=HV.out.lt;have hcn:cap=n:=by omega
    subst hcn;have hold:(Builtin.firstCells i0.size i (.slice (some ⟨g,0,none⟩) i cap)).run Tryz.prog w.drew= .ok (xs.take (i*2)).toArray w.drew:=by
     rw[hz1];refine run_firstCells_some w.drew 2 i ⟨g,0,none⟩ i cap (xs.take (i*2)) (by rw[List.length_take,HLX.out];omega) (fun j u hu=> ?_);rw[Addr.add_lit,Nat.zero_add,Blk.cell (w:=w.drew) (g:=g) hg];rw[List.getElem?_take] at hu;split at hu
     ·exact hfst _ _ hu
     ·cases hu
    have hkk:(cap:Int)+1 - (i:Int)=((cap+1 - i:Nat):Int):=by omega
    have hik:i+(cap+1 - i)=cap+1:=by omega
    have hrz: ∀ty,(Builtin.append_ #[34,3] ty #[.slice (some ⟨g,0,none⟩) i cap,.int .i64 ((cap:Int)+1 - (i:Int))]).run Tryz.prog w=
      .ok (.slice (some ⟨w.heap.size,0,none⟩) (cap+1) (grownCap w (cap+1) cap 65)) (w.drew.alloc (.cells ((xs.take (i*2)).toArray++Builtin.zeroCells ((.agg #[.string ByteArray.empty,.string ByteArray.empty]):Value).cells (cap+1 - i)++Builtin.zeroCells ((.agg #[.string ByteArray.empty,.string ByteArray.empty]):Value).cells (grownCap w (cap+1) cap 65 - (cap+1))) 65)):=fun ty=>by
     have h:=Lib.run_append_grow_zeros w 34 3 ty 65 i0 _ .i64 .i64 Tryz.underlying34 Tryz.underlying3 hi0 hz0 (some ⟨g,0,none⟩) i cap (xs.take (i*2)) hold (cap+1 - i) (by omega) (by rw[hz1];decide) (by omega) (by omega) (by rw[hz2];omega) (by rw[hz2,hik];exact growslice_fits (by omega) (by omega));rw[hik] at h;rw[hkk];exact h
    have hGn:cap+1≤grownCap w (cap+1) cap 65:=grownCap_ge w _ _ _;have hGm:=grownCap_le_maxLen w (cap+1) cap 65 (by unfold maxLen;omega);unfold maxLen at hGm;generalize hGe:grownCap w (cap+1) cap 65=G at hrz hGn hGm;clear hGe
    obtain⟨ROW,hROW⟩: ∃ROW:Array Value,ROW=(xs.take (i*2)).toArray++Builtin.zeroCells ((.agg #[.string ByteArray.empty,.string ByteArray.empty]):Value).cells (cap+1 - i)++Builtin.zeroCells ((.agg #[.string ByteArray.empty,.string ByteArray.empty]):Value).cells (G - (cap+1)):=⟨_,rfl⟩;rw[←hROW] at hrz
    have hrow:ROW.toList=xs.take (i*2)++(Builtin.zeroCells ((.agg #[.string ByteArray.empty,.string ByteArray.empty]):Value).cells (cap+1 - i)).toList++(Builtin.zeroCells ((.agg #[.string ByteArray.empty,.string ByteArray.empty]):Value).cells (G - (cap+1))).toList:=by rw[hROW];simp
    obtain⟨r1,hr1⟩: ∃r1,r1=ROW.toList.take (i*2)++ys++ROW.toList.drop (i*2+ys.length):=⟨_,rfl⟩;obtain⟨q0,q1,q2,q3⟩:=jl9 HLX.out HY.out hlt hGn (by simp[Builtin.zeroCells,Value.cells]) (by simp[Builtin.zeroCells,Value.cells]) hrow hr1;have hRS:ROW.size=G*2:=by rw[←Array.length_toList];exact q0
    obtain⟨r2,hr2⟩: ∃r2,r2=r1.take ((i+1)*2)++xs.drop (i*2)++r1.drop ((i+1)*2+(xs.drop (i*2)).length):=⟨_,rfl⟩;rw[←hr2] at q2 q3;obtain⟨W1,hW1⟩: ∃W1,W1=w.drew.alloc (.cells ROW 65):=⟨_,rfl⟩;rw[←hW1] at hrz;have hN1:W1.heap[w.heap.size]? =some (.cells ROW 65 (0,0)):=by rw[hW1];exact heap_alloc_new w.drew _
    have hold1: ∀b,b<w.heap.size→W1.heap[b]? =w.heap[b]? :=fun b hb=>by rw[hW1];exact Below.heap_alloc w.drew _ b hb
    have hHS1:W1.heap.size=w.heap.size+1:=by rw[hW1];simp
    have hGR1:w.grownBy W1 (some g):=by rw[hW1];exact Vy (jao w (some g)) (World.grownBy_alloc _ _ _)
    have hcpA: ∀ty dc,(Builtin.copy_ #[34,34] ty #[.slice (some ⟨w.heap.size,i*2,none⟩) (cap+1 - i) dc,.slice (some ⟨vb,0,none⟩) 1 1]).run Tryz.prog W1= .ok (goInt 1) (W1.setRow w.heap.size r1.toArray):=fun ty dc=>by
     rw[hr1];exact Vr W1 34 34 ty 65 2 w.heap.size (i*2) (cap+1 - i) dc ⟨vb,0,none⟩ 1 1 ROW 65 ys Tryz.underlying34 hsz hN1 1 (by simp only[Nat.min_def];split<;>omega) (by have:=HY.out;omega)
      (fun j u hu=>World.news_of_block ((hold1 vb hvw).trans HV.out) j u (by simpa using hu)) (by rw[HY.out,hRS];omega) HY1.out
    obtain⟨W2,hW2⟩: ∃W2,W2=W1.setRow w.heap.size r1.toArray:=⟨_,rfl⟩;rw[←hW2] at hcpA;have hN2:W2.heap[w.heap.size]? =some (.cells r1.toArray 65 (0,0)):=by rw[hW2];exact setRow_heap W1 _ _ _ _ _ hN1
    have hold2: ∀b,b<w.heap.size→W2.heap[b]? =w.heap[b]? :=fun b hb=>by rw[hW2,setRow_other _ _ _ _ (by omega)];exact hold1 b hb
    have hGR2:w.grownBy W2 (some g):=by
     rw[hW2];exact⟨hGR1.os,hGR1.tape,hGR1.output,by rw[setRow_size];exact hGR1.size,fun k hk hn=>by rw[setRow_other _ _ _ _ (by omega)];exact hGR1.block k hk hn⟩
    have hcpB: ∀ty dc sc,(Builtin.copy_ #[34,34] ty #[.slice (some ⟨w.heap.size,(i+1)*2,none⟩) (cap - i) dc,.slice (some ⟨g,i*2,none⟩) (cap - i) sc]).run Tryz.prog W2.drew= .ok (goInt ((cap - i:Nat):Int)) (W2.drew.setRow w.heap.size r2.toArray):=fun ty dc sc=>by
     rw[hr2];exact Vr W2.drew 34 34 ty 65 2 w.heap.size ((i+1)*2) (cap - i) dc ⟨g,i*2,none⟩ (cap - i) sc r1.toArray 65 (xs.drop (i*2)) Tryz.underlying34 hsz hN2 (cap - i) (by simp only[Nat.min_def];split<;>omega) hdl
      (hsrc W2.drew ((hold2 g hgw).trans hg)) (by rw[hdl];simp only[List.size_toArray];omega) h1d
    obtain⟨W3,hW3⟩: ∃W3,W3=W2.drew.setRow w.heap.size r2.toArray:=⟨_,rfl⟩;rw[←hW3] at hcpB;have HO:=Ja (show W3.ownsRow base 65 2 (.slice (some ⟨w.heap.size,0,none⟩) (cap+1) G) (cap+1) (jae 2 i xs ys) from
     ⟨by unfold jae;simp only[List.length_append,List.length_take,hdl,HY.out,HLX.out];omega,.inr ⟨w.heap.size,G,_,rfl,hbase,by rw[hW3];exact setRow_heap W2.drew _ _ _ _ _ hN2,hGn,by unfold maxLen;omega,by simpa using q2,by simpa using q3⟩⟩)
    have HG:=Ja (show w.grownBy W3 (some g) by
     rw[hW3];exact⟨hGR2.os,hGR2.tape,hGR2.output,by rw[setRow_size];exact hGR2.size,fun k hk hn=>by rw[setRow_other _ _ _ _ (by omega)];exact hGR2.block k hk hn⟩)
    have k5:(cap:Int)<(cap:Int)+1:=by omega
    have k6:IntKind.i64.wrap ((i:Int)+1)=(i:Int)+1:=IntWalk.i64_in _ (by omega);have k7:(0:Int)≤(i:Int)+1:=by omega
    have k8:((i:Int)+1).toNat=i+1:=by omega
    have k9:(i:Int)+1≤(cap:Int)+1:=by omega
    have k10: ¬(G=i+1):=by omega
    have k11:(i:Int)≤(cap:Int)+1:=by omega
    have k12: ¬(G=i):=by omega
    have mixed:Tryz.prog.follows .mixedOrders=true:=by kernel_rfl
    generalize w.heap.size=N at hrz hcpA hcpB HO;clear hRS hW3 hW2 hW1 hN1 hN2 hold1 hold2 hHS1 hGR1 hGR2 hr1 hr2 q0 q1 q2 q3 hrow hROW hold hkk hik hsrc hfst hdl h1d hg ht hcs hcl;go_enter Tryz.func176,Tryz.ntmps176;go_wp2_with(first
     |(at_builtin;refine Lib.wpList_append_run _ rfl _ _ _ _ rfl _ _ rfl rfl _ _ (hrz _) ?_)
     |(at_builtin;refine wpList_copy_runI _ rfl _ _ 34 34 rfl _ _ rfl rfl (hcpA _ _) ?_))
    go_region_law_o (refine step_copy_runI rfl _ _ 34 34 rfl _ _ (by simp[Act.eval,Act.put]) (by simp[Act.eval,Act.put]) (hcpB _ _ _) ?_)
    go_wp2;go_ret;exact⟨.slice (some ⟨N,0,none⟩) (cap+1) G,rfl,HO.out,HG.out⟩
theorem jlb (base i n:Nat) (v:Value) (xs:List Value) (w:World) (ho:w.ownsRow base 65 2 v n xs) (hi:i<n) (hx1: ∀u∈xs,u.oneCell'=true) (hn:n≤4194304):
  Calls Tryz.prog 175 #[v,.int .i64 i,.int .i64 ((i:Int)+1)] w fun e w'=>∃v',e= .returned v'∧w'.ownsRow base 65 2 v' (n - 1) (jdw 2 i xs)∧w.grownBy w' v.ownBlock:=by
 obtain⟨i0,hi0,hz0,hz1,hz2⟩:=info_parts Xj;have hlx:=ho.1;rcases ho.2 with ⟨rfl,rfl⟩|⟨g,cap,cur,rfl,hb,hg,hnc,hcm,hcs,ht⟩
 ·omega
 unfold maxLen at hcm;have hcl:cur.toList.length=cap*2:=by simpa using hcs
 have hfst: ∀j u,xs[j]? =some u→cur[j]? =some u:=fun j u hu=>by
  rw[←ht,List.getElem?_take] at hu;split at hu
  ·simpa using hu
  ·cases hu
 have hsrc: ∀j u,(xs.drop ((i+1)*2))[j]? =some u→w.cell? ((⟨g,(i+1)*2,none⟩:Addr).add j)=some u:=fun j u hu=>by
  rw[Addr.add_lit,Blk.cell (w:=w) (g:=g) hg];rw[List.getElem?_drop] at hu;exact hfst _ _ hu
 have hdl:(xs.drop ((i+1)*2)).length=(n - (i+1))*2:=by rw[List.length_drop,hlx,←Nat.sub_mul]
 have h1d: ∀u∈xs.drop ((i+1)*2),u.oneCell'=true:=fun u hu=>hx1 u (List.mem_of_mem_drop hu)
 have hap: ∀ty sc,(Builtin.append_ #[34,34] ty #[.slice (some ⟨g,0,none⟩) i cap,.slice (some ⟨g,(i+1)*2,none⟩) (n - (i+1)) sc]).run Tryz.prog w.drew= .ok (.slice (some ⟨g,0,none⟩) (n - 1) cap) (w.drew.setRow g (cur.toList.take (i*2)++xs.drop ((i+1)*2)++cur.toList.drop (i*2+(xs.drop ((i+1)*2)).length)).toArray):=fun ty sc=>by
  have h:=run_append_room w.drew 34 ty 65 i0 Tryz.underlying34 hi0 g i cap cur hg ⟨g,(i+1)*2,none⟩ (n - (i+1)) sc (xs.drop ((i+1)*2)) (by rw[hz1];exact hdl) (fun j u hu=>hsrc j u hu) h1d (by omega) (by rw[hz1,hdl,hcs];omega);rw[hz1,show i+(n - (i+1))=n - 1 by omega] at h;exact h
 have hap': ∀ty,cap=i+1→(Builtin.append_ #[34,34] ty #[.slice (some ⟨g,0,none⟩) i cap,.slice (some ⟨g,0,none⟩) (n - (i+1)) 0]).run Tryz.prog w.drew= .ok (.slice (some ⟨g,0,none⟩) (n - 1) cap) (w.drew.setRow g (cur.toList.take (i*2)++xs.drop ((i+1)*2)++cur.toList.drop (i*2+(xs.drop ((i+1)*2)).length)).toArray):=fun ty hci=>by
  have hnil:xs.drop ((i+1)*2)= []:=List.drop_eq_nil_of_le (by rw[hlx];omega);have h:=run_append_room w.drew 34 ty 65 i0 Tryz.underlying34 hi0 g i cap cur hg ⟨g,0,none⟩ (n - (i+1)) 0 (xs.drop ((i+1)*2)) (by rw[hz1];exact hdl) (fun j u hu=>by rw[hnil] at hu;cases hu) h1d (by omega) (by rw[hz1,hdl,hcs];omega);rw[hz1,show i+(n - (i+1))=n - 1 by omega] at h;exact h
 obtain⟨c1,hc1⟩: ∃c1,c1=cur.toList.take (i*2)++xs.drop ((i+1)*2)++cur.toList.drop (i*2+(xs.drop ((i+1)*2)).length):=⟨_,rfl⟩;obtain⟨q1,q2,q3⟩:=jo8 ht hcl hi hnc (z:=([.string ByteArray.empty,.string ByteArray.empty]:List Value)) rfl hc1;rw[←hc1] at hap hap';have hg1:(w.drew.setRow g c1.toArray).heap[g]? =some (.cells c1.toArray 65 (0,0)):=setRow_heap w.drew g cur c1.toArray 65 (0,0) hg
 obtain⟨W1,hW1⟩: ∃W1,W1=w.drew.setRow g c1.toArray:=⟨_,rfl⟩;rw[←hW1] at hap hap' hg1;have hcl2: ∀ty dc,(Builtin.clear_ #[34] ty #[.slice (some ⟨g,(n - 1)*2,none⟩) 1 dc]).run Tryz.prog W1= .ok (.tuple #[]) (W1.setRow g (c1.take ((n - 1)*2)++([.string ByteArray.empty,.string ByteArray.empty]:List Value)++c1.drop ((n - 1)*2+1*2)).toArray):=fun ty dc=>
  jdg (P:=Tryz.prog) W1 34 65 ty (.agg #[.string ByteArray.empty,.string ByteArray.empty]) 2 Tryz.underlying34 (fun w=>by kernel_rfl) rfl jh9 g ((n - 1)*2) 1 dc c1.toArray 65 hg1 (by simp only[List.size_toArray];omega)
 obtain⟨W2,hW2⟩: ∃W2,W2=W1.setRow g (c1.take ((n - 1)*2)++([.string ByteArray.empty,.string ByteArray.empty]:List Value)++c1.drop ((n - 1)*2+1*2)).toArray:=⟨_,rfl⟩;rw[←hW2] at hcl2;have HO:=Ja (show W2.ownsRow base 65 2 (.slice (some ⟨g,0,none⟩) (n - 1) cap) (n - 1) (jdw 2 i xs) from
  ⟨by unfold jdw;simp only[List.length_append,List.length_take,hdl,hlx];omega,.inr ⟨g,cap,_,rfl,hb,by rw[hW2];exact setRow_heap W1 g c1.toArray _ 65 (0,0) hg1,by omega,by unfold maxLen;omega,by simpa using q2,by simpa using q3⟩⟩)
 have HG:=Ja (show w.grownBy W2 (some g) by rw[hW2,hW1];exact Vy (Vy (jao w (some g)) (V7 c1.toArray)) (V7 (w:=w.drew.setRow g c1.toArray) _));have k1:(0:Int)≤(i:Int):=by omega
 have k2:(i:Int)≤(n:Int):=by omega
 have k3:((i:Int)==(i:Int)+1)=false:=by simp;omega
 have k5:(i:Int)+1≤(n:Int):=by omega
 have k6:(i:Int)≤(i:Int)+1:=by omega
 have k7:(0:Int)≤(i:Int)+1:=by omega
 have k8:((i:Int)+1).toNat=i+1:=by omega
 have k9:(i:Int)≤(cap:Int):=by omega
 have k10:n≤cap:=hnc;have k11: ¬(n=i):=by omega
 have k12: ¬(cap=n - 1):=by omega
 have k13:(n:Int) - 1≤(n:Int):=by omega
 have k14:n - (n - 1)=1:=by omega
 have k15:0<n:=by omega
 have mixed:Tryz.prog.follows .mixedOrders=true:=by kernel_rfl
 clear hW1 hW2 q1 q2 q3 hc1 hg1 hsrc hfst hdl h1d hg ht hcs hcl ho hlx hx1;by_cases hci:cap=i+1
 ·have hn1:n=i+1:=by omega
  subst hn1;subst hci;have hap:=fun ty=>hap' ty rfl;rw[Nat.add_sub_cancel] at HO hcl2;simp only[Nat.add_sub_cancel,Nat.sub_self] at hap;clear hap' k2 k5 k9 k10 k11 k12 k13 k14 k15;have k9:(i:Int)≤(i:Int)+1:=by omega
  have k16: ¬(i+1=i):=by omega
  have k17:i+1 - i=1:=by omega
  go_enter Tryz.func175,Tryz.ntmps175;go_wp2_with fail
  go_region_law_o (refine Wx rfl _ _ 34 34 rfl _ _ (by simp[Act.eval,Act.put]) (by simp[Act.eval,Act.put]) (hap _) ?_)
  go_wp2;go_ret;exact⟨.slice (some ⟨g,0,none⟩) i (i+1),rfl,by rw[Nat.add_sub_cancel];exact HO.out,HG.out⟩
 ·clear hap';go_enter Tryz.func175,Tryz.ntmps175;go_wp2_with fail
  go_region_law_o (refine Wx rfl _ _ 34 34 rfl _ _ (by simp[Act.eval,Act.put]) (by simp[Act.eval,Act.put]) (hap _ (cap - (i+1))) ?_)
  go_wp2;go_ret;exact⟨.slice (some ⟨g,0,none⟩) (n - 1) cap,rfl,HO.out,HG.out⟩
theorem jdp:(Tryz.prog.info? 52).map (fun i=>(i.zero,i.size,i.bytes))=some (some (.agg #[.string ByteArray.empty,.bool false,.int .i64 0,.slice none 0 0]),4,56):=by kernel_rfl
theorem jjz: ∀v∈((.agg #[.string ByteArray.empty,.bool false,.int .i64 0,.slice none 0 0]):Value).cells.toList,v.oneCell'=true:=by intro v hv;simp[Value.cells] at hv;rcases hv with rfl|rfl|rfl|rfl<;>rfl
theorem jnb (base i n vb:Nat) (v:Value) (xs ys:List Value) (tV:TypeId) (w:World) (ho:w.ownsRow base 52 4 v n xs) (hbase:base≤w.heap.size) (hi:i≤n) (hy:ys.length=4) (hy1: ∀u∈ys,u.oneCell'=true) (hx1: ∀u∈xs,u.oneCell'=true)
  (hv:Blk w vb tV ys.toArray) (hne:v.ownBlock≠some vb) (hn:n≤4194304):
  Calls Tryz.prog 138 #[v,.int .i64 i,.slice (some ⟨vb,0,none⟩) 1 1] w fun e w'=>∃v',e= .returned v'∧w'.ownsRow base 52 4 v' (n+1) (jae 4 i xs ys)∧w.grownBy w' v.ownBlock:=by
 obtain⟨i0,hi0,hz0,hz1,hz2⟩:=info_parts jdp;have hnews: ∀j u,ys[j]? =some u→w.cell? ((⟨vb,0,none⟩:Addr).add j)=some u:=fun j u hu=>World.news_of_block hv j u (by simpa using hu);have hlx:=ho.1;have HN:=Ja hnews;have HV:=Ja hv;have HY1:=Ja hy1;have HX1:=Ja hx1;have HLX:=Ja hlx;have HY:=Ja hy;clear hnews hy1 hx1 hlx hv hy;by_cases hin:i=n
 ·subst hin;have hall:jae 4 i xs ys=xs++ys:=by
   unfold jae;rw[List.take_of_length_le (by rw[HLX.out];exact Nat.le_refl _),List.drop_eq_nil_of_le (by rw[HLX.out];exact Nat.le_refl _),List.append_nil]
  have HALL:=Ja hall;clear hall;have ho':=ho;rcases ho.2 with ⟨rfl,rfl⟩|⟨g,cap,cur,rfl,hb,hg,hnc,hcm,hcs,ht⟩
  ·clear ho;go_enter Tryz.func138,Tryz.ntmps138;go_wp2_with(at_builtin;refine wpList_append_own _ rfl _ _ 46 rfl base 52 i0 _ 4 56 Tryz.underlying46 hi0 hz0 hz1 hz2 rfl (by decide) _ _ _ rfl ho' ⟨vb,0,none⟩ 1 1 ys rfl (by rw[HY.out]) HN.out HY1.out (by unfold maxLen;omega) (by omega) hbase ?_);intro v' w5 hown' hgrow _;go_wp2;go_ret;exact⟨_,rfl,by rw[HALL.out];exact hown',hgrow⟩
  ·have HH:=Ja (show True∧w.heap[g]? =some (.cells cur 52 (0,0)) from⟨trivial,hg⟩);unfold maxLen at hcm;clear ho hg ht hcs;have hcap:(cap=i)∨¬(cap=i):=Classical.em _;rcases hcap with hcap|hcap
   all_goals
    go_enter Tryz.func138,Tryz.ntmps138;go_wp2_with(at_builtin;refine wpList_append_own _ rfl _ _ 46 rfl base 52 i0 _ 4 56 Tryz.underlying46 hi0 hz0 hz1 hz2 rfl (by decide) _ _ _ rfl ho' ⟨vb,0,none⟩ 1 1 ys rfl (by rw[HY.out]) HN.out HY1.out (by unfold maxLen;omega) (by omega) hbase ?_);intro v' w5 hown' hgrow _;go_wp2;go_ret;exact⟨_,rfl,by rw[HALL.out];exact hown',hgrow⟩
 ·rcases ho.2 with ⟨rfl,rfl⟩|⟨g,cap,cur,rfl,hb,hg,hnc,hcm,hcs,ht⟩
  ·omega
  ·have hlt:i<n:=by omega
   have hgv:g≠vb:=fun e=>hne (by subst e;rfl);have hsz:(Tryz.prog.info? 52).map (·.size)=some 4:=by rw[hi0];simp[hz1]
   unfold maxLen at hcm;clear ho;have hcl:cur.toList.length=cap*4:=by simpa using hcs
   have hfst: ∀j u,xs[j]? =some u→cur[j]? =some u:=fun j u hu=>by
    rw[←ht,List.getElem?_take] at hu;split at hu
    ·simpa using hu
    ·cases hu
   have hsrc: ∀(W:World),Blk W g 52 cur→∀j u,(xs.drop (i*4))[j]? =some u→W.cell? ((⟨g,i*4,none⟩:Addr).add j)=some u:=fun W hW j u hu=>by
    rw[Addr.add_lit,hW.cell];rw[List.getElem?_drop] at hu;exact hfst _ _ hu
   have hdl:(xs.drop (i*4)).length=(n - i)*4:=by rw[List.length_drop,HLX.out,←Nat.sub_mul]
   have h1d: ∀u∈xs.drop (i*4),u.oneCell'=true:=fun u hu=>HX1.out u (List.mem_of_mem_drop hu);have k1:(0:Int)≤(i:Int):=by omega
   have k2:(i:Int)≤(n:Int):=by omega
   have k3:((i:Int)==(n:Int))=false:=by simp;omega
   have k4: ¬(cap=i):=by omega
   by_cases hroom:n+1≤cap
   ·have hcp1: ∀ty dc sc,(Builtin.copy_ #[46,46] ty #[.slice (some ⟨g,(i+1)*4,none⟩) (n - i) dc,.slice (some ⟨g,i*4,none⟩) (n+1 - i) sc]).run Tryz.prog w.drew= .ok (goInt ((n - i:Nat):Int)) (w.drew.setRow g (cur.toList.take ((i+1)*4)++xs.drop (i*4)++cur.toList.drop ((i+1)*4+(xs.drop (i*4)).length)).toArray):=fun ty dc sc=>
     Vr w.drew 46 46 ty 52 4 g ((i+1)*4) (n - i) dc ⟨g,i*4,none⟩ (n+1 - i) sc cur 52 _ Tryz.underlying46 hsz hg (n - i) (by simp only[Nat.min_def];split<;>omega) hdl (hsrc w.drew hg) (by rw[hdl,hcs];omega) h1d
    obtain⟨c1,hc1⟩: ∃c1,c1=cur.toList.take ((i+1)*4)++xs.drop (i*4)++cur.toList.drop ((i+1)*4+(xs.drop (i*4)).length):=⟨_,rfl⟩;have l1:=jfi ht hcl hlt hroom;have l2:=jik ht hcl HY.out hlt hroom hc1;rw[←hc1] at l1 hcp1;have hg1:(w.drew.setRow g c1.toArray).heap[g]? =some (.cells c1.toArray 52 (0,0)):=setRow_heap w.drew g cur c1.toArray 52 (0,0) hg
    have hcp2: ∀ty dc,(Builtin.copy_ #[46,46] ty #[.slice (some ⟨g,i*4,none⟩) (n+1 - i) dc,.slice (some ⟨vb,0,none⟩) 1 1]).run Tryz.prog (w.drew.setRow g c1.toArray)= .ok (goInt 1) ((w.drew.setRow g c1.toArray).setRow g (c1.take (i*4)++ys++c1.drop (i*4+ys.length)).toArray):=fun ty dc=>
     Vr _ 46 46 ty 52 4 g (i*4) (n+1 - i) dc ⟨vb,0,none⟩ 1 1 c1.toArray 52 ys Tryz.underlying46 hsz hg1 1 (by simp only[Nat.min_def];split<;>omega) (by have:=HY.out;omega)
      (fun j u hu=>(cell_setRow_other w.drew g c1.toArray _ (by rw[Addr.add_lit];exact fun e=>hgv e.symm)).trans (HN.out j u hu)) (by rw[HY.out];simp only[List.size_toArray];omega) HY1.out
    have hov: ∀lb cb,(callFunc 159 #[.slice (some ⟨vb,0,none⟩) 1 1,.slice (some ⟨g,(i+1)*4,none⟩) lb cb]).run Tryz.prog w= .ok (.value (.bool false)) w:=fun lb cb=>by
     rw[run_callFunc_extern Tryz.func159 (by kernel_rfl) (by kernel_rfl) (by kernel_rfl) (e:=Extern.SlicesOverlaps.overlaps #[46,46] #[4]) (by kernel_rfl),
      Lib.run_overlaps_apart w 46 4 52 Tryz.underlying46 4 (fun w=>by simp[Go.sizeOf,typeInfo,hi0,hz1]) ⟨vb,0,none⟩ ⟨g,(i+1)*4,none⟩ 1 1 lb cb (fun e=>hgv e.symm) tV 52 _ _ (jdi HV.out) (jdi hg) (by rw[hcs];omega) (jcg HV.out _) (jcg HV.out _)]
     rfl
    obtain⟨W2,hW2⟩: ∃W2,W2=(w.drew.setRow g c1.toArray).setRow g (c1.take (i*4)++ys++c1.drop (i*4+ys.length)).toArray:=⟨_,rfl⟩;rw[←hW2] at hcp2;have HO:=Ja (show W2.ownsRow base 52 4 (.slice (some ⟨g,0,none⟩) (n+1) cap) (n+1) (jae 4 i xs ys) from
     ⟨by unfold jae;simp only[List.length_append,List.length_take,hdl,HY.out,HLX.out];omega,.inr ⟨g,cap,_,rfl,hb,by rw[hW2];exact setRow_heap _ g c1.toArray _ 52 (0,0) hg1,hroom,by unfold maxLen;omega,by simpa using l2.1,by simpa using l2.2⟩⟩)
    have HG:=Ja (show w.grownBy W2 (some g) by rw[hW2];exact Vy (Vy (jao w (some g)) (V7 c1.toArray)) (V7 (w:=w.drew.setRow g c1.toArray) (c1.take (i*4)++ys++c1.drop (i*4+ys.length)).toArray));clear hW2;have k5:(n:Int)+1≤(cap:Int):=by omega
    have k6:IntKind.i64.wrap ((i:Int)+1)=(i:Int)+1:=IntWalk.i64_in _ (by omega);have k7:(0:Int)≤(i:Int)+1:=by omega
    have k8:((i:Int)+1).toNat=i+1:=by omega
    have k9:(i:Int)+1≤(n:Int)+1:=by omega
    have k10: ¬(cap=i+1):=by omega
    have k11:(i:Int)≤(n:Int)+1:=by omega
    have mixed:Tryz.prog.follows .mixedOrders=true:=by kernel_rfl
    clear l1 l2 hc1 hg1 hsrc hfst hdl h1d hg ht hcs hcl;go_enter Tryz.func138,Tryz.ntmps138;go_wp2_with(simp only[hov])
    go_region_law_o (refine step_copy_runI rfl _ _ 46 46 rfl _ _ (by simp[Act.eval,Act.put]) (by simp[Act.eval,Act.put]) (hcp1 _ _ _) ?_)
    go_wp2_with(at_builtin;refine wpList_copy_runI _ rfl _ _ 46 46 rfl _ _ rfl rfl (hcp2 _ _) ?_);go_ret;exact⟨.slice (some ⟨g,0,none⟩) (n+1) cap,rfl,HO.out,HG.out⟩
   ·have hgw:g<w.heap.size:=(Array.getElem?_eq_some_iff.1 hg).1;have hvw:vb<w.heap.size:=HV.out.lt;have hcn:cap=n:=by omega
    subst hcn;have hold:(Builtin.firstCells i0.size i (.slice (some ⟨g,0,none⟩) i cap)).run Tryz.prog w.drew= .ok (xs.take (i*4)).toArray w.drew:=by
     rw[hz1];refine run_firstCells_some w.drew 4 i ⟨g,0,none⟩ i cap (xs.take (i*4)) (by rw[List.length_take,HLX.out];omega) (fun j u hu=> ?_);rw[Addr.add_lit,Nat.zero_add,Blk.cell (w:=w.drew) (g:=g) hg];rw[List.getElem?_take] at hu;split at hu
     ·exact hfst _ _ hu
     ·cases hu
    have hkk:(cap:Int)+1 - (i:Int)=((cap+1 - i:Nat):Int):=by omega
    have hik:i+(cap+1 - i)=cap+1:=by omega
    have hrz: ∀ty,(Builtin.append_ #[46,3] ty #[.slice (some ⟨g,0,none⟩) i cap,.int .i64 ((cap:Int)+1 - (i:Int))]).run Tryz.prog w=
      .ok (.slice (some ⟨w.heap.size,0,none⟩) (cap+1) (grownCap w (cap+1) cap 52)) (w.drew.alloc (.cells ((xs.take (i*4)).toArray++Builtin.zeroCells ((.agg #[.string ByteArray.empty,.bool false,.int .i64 0,.slice none 0 0]):Value).cells (cap+1 - i)++Builtin.zeroCells ((.agg #[.string ByteArray.empty,.bool false,.int .i64 0,.slice none 0 0]):Value).cells (grownCap w (cap+1) cap 52 - (cap+1))) 52)):=fun ty=>by
     have h:=Lib.run_append_grow_zeros w 46 3 ty 52 i0 _ .i64 .i64 Tryz.underlying46 Tryz.underlying3 hi0 hz0 (some ⟨g,0,none⟩) i cap (xs.take (i*4)) hold (cap+1 - i) (by omega) (by rw[hz1];decide) (by omega) (by omega) (by rw[hz2];omega) (by rw[hz2,hik];exact growslice_fits (by omega) (by omega));rw[hik] at h;rw[hkk];exact h
    have hGn:cap+1≤grownCap w (cap+1) cap 52:=grownCap_ge w _ _ _;have hGm:=grownCap_le_maxLen w (cap+1) cap 52 (by unfold maxLen;omega);unfold maxLen at hGm;generalize hGe:grownCap w (cap+1) cap 52=G at hrz hGn hGm;clear hGe
    obtain⟨ROW,hROW⟩: ∃ROW:Array Value,ROW=(xs.take (i*4)).toArray++Builtin.zeroCells ((.agg #[.string ByteArray.empty,.bool false,.int .i64 0,.slice none 0 0]):Value).cells (cap+1 - i)++Builtin.zeroCells ((.agg #[.string ByteArray.empty,.bool false,.int .i64 0,.slice none 0 0]):Value).cells (G - (cap+1)):=⟨_,rfl⟩;rw[←hROW] at hrz
    have hrow:ROW.toList=xs.take (i*4)++(Builtin.zeroCells ((.agg #[.string ByteArray.empty,.bool false,.int .i64 0,.slice none 0 0]):Value).cells (cap+1 - i)).toList++(Builtin.zeroCells ((.agg #[.string ByteArray.empty,.bool false,.int .i64 0,.slice none 0 0]):Value).cells (G - (cap+1))).toList:=by rw[hROW];simp
    obtain⟨r1,hr1⟩: ∃r1,r1=ROW.toList.take (i*4)++ys++ROW.toList.drop (i*4+ys.length):=⟨_,rfl⟩;obtain⟨q0,q1,q2,q3⟩:=jl9 HLX.out HY.out hlt hGn (by simp[Builtin.zeroCells,Value.cells]) (by simp[Builtin.zeroCells,Value.cells]) hrow hr1;have hRS:ROW.size=G*4:=by rw[←Array.length_toList];exact q0
    obtain⟨r2,hr2⟩: ∃r2,r2=r1.take ((i+1)*4)++xs.drop (i*4)++r1.drop ((i+1)*4+(xs.drop (i*4)).length):=⟨_,rfl⟩;rw[←hr2] at q2 q3;obtain⟨W1,hW1⟩: ∃W1,W1=w.drew.alloc (.cells ROW 52):=⟨_,rfl⟩;rw[←hW1] at hrz;have hN1:W1.heap[w.heap.size]? =some (.cells ROW 52 (0,0)):=by rw[hW1];exact heap_alloc_new w.drew _
    have hold1: ∀b,b<w.heap.size→W1.heap[b]? =w.heap[b]? :=fun b hb=>by rw[hW1];exact Below.heap_alloc w.drew _ b hb
    have hHS1:W1.heap.size=w.heap.size+1:=by rw[hW1];simp
    have hGR1:w.grownBy W1 (some g):=by rw[hW1];exact Vy (jao w (some g)) (World.grownBy_alloc _ _ _)
    have hcpA: ∀ty dc,(Builtin.copy_ #[46,46] ty #[.slice (some ⟨w.heap.size,i*4,none⟩) (cap+1 - i) dc,.slice (some ⟨vb,0,none⟩) 1 1]).run Tryz.prog W1= .ok (goInt 1) (W1.setRow w.heap.size r1.toArray):=fun ty dc=>by
     rw[hr1];exact Vr W1 46 46 ty 52 4 w.heap.size (i*4) (cap+1 - i) dc ⟨vb,0,none⟩ 1 1 ROW 52 ys Tryz.underlying46 hsz hN1 1 (by simp only[Nat.min_def];split<;>omega) (by have:=HY.out;omega)
      (fun j u hu=>World.news_of_block ((hold1 vb hvw).trans HV.out) j u (by simpa using hu)) (by rw[HY.out,hRS];omega) HY1.out
    obtain⟨W2,hW2⟩: ∃W2,W2=W1.setRow w.heap.size r1.toArray:=⟨_,rfl⟩;rw[←hW2] at hcpA;have hN2:W2.heap[w.heap.size]? =some (.cells r1.toArray 52 (0,0)):=by rw[hW2];exact setRow_heap W1 _ _ _ _ _ hN1
    have hold2: ∀b,b<w.heap.size→W2.heap[b]? =w.heap[b]? :=fun b hb=>by rw[hW2,setRow_other _ _ _ _ (by omega)];exact hold1 b hb
    have hGR2:w.grownBy W2 (some g):=by
     rw[hW2];exact⟨hGR1.os,hGR1.tape,hGR1.output,by rw[setRow_size];exact hGR1.size,fun k hk hn=>by rw[setRow_other _ _ _ _ (by omega)];exact hGR1.block k hk hn⟩
    have hcpB: ∀ty dc sc,(Builtin.copy_ #[46,46] ty #[.slice (some ⟨w.heap.size,(i+1)*4,none⟩) (cap - i) dc,.slice (some ⟨g,i*4,none⟩) (cap - i) sc]).run Tryz.prog W2.drew= .ok (goInt ((cap - i:Nat):Int)) (W2.drew.setRow w.heap.size r2.toArray):=fun ty dc sc=>by
     rw[hr2];exact Vr W2.drew 46 46 ty 52 4 w.heap.size ((i+1)*4) (cap - i) dc ⟨g,i*4,none⟩ (cap - i) sc r1.toArray 52 (xs.drop (i*4)) Tryz.underlying46 hsz hN2 (cap - i) (by simp only[Nat.min_def];split<;>omega) hdl
      (hsrc W2.drew ((hold2 g hgw).trans hg)) (by rw[hdl];simp only[List.size_toArray];omega) h1d
    obtain⟨W3,hW3⟩: ∃W3,W3=W2.drew.setRow w.heap.size r2.toArray:=⟨_,rfl⟩;rw[←hW3] at hcpB;have HO:=Ja (show W3.ownsRow base 52 4 (.slice (some ⟨w.heap.size,0,none⟩) (cap+1) G) (cap+1) (jae 4 i xs ys) from
     ⟨by unfold jae;simp only[List.length_append,List.length_take,hdl,HY.out,HLX.out];omega,.inr ⟨w.heap.size,G,_,rfl,hbase,by rw[hW3];exact setRow_heap W2.drew _ _ _ _ _ hN2,hGn,by unfold maxLen;omega,by simpa using q2,by simpa using q3⟩⟩)
    have HG:=Ja (show w.grownBy W3 (some g) by
     rw[hW3];exact⟨hGR2.os,hGR2.tape,hGR2.output,by rw[setRow_size];exact hGR2.size,fun k hk hn=>by rw[setRow_other _ _ _ _ (by omega)];exact hGR2.block k hk hn⟩)
    have k5:(cap:Int)<(cap:Int)+1:=by omega
    have k6:IntKind.i64.wrap ((i:Int)+1)=(i:Int)+1:=IntWalk.i64_in _ (by omega);have k7:(0:Int)≤(i:Int)+1:=by omega
    have k8:((i:Int)+1).toNat=i+1:=by omega
    have k9:(i:Int)+1≤(cap:Int)+1:=by omega
    have k10: ¬(G=i+1):=by omega
    have k11:(i:Int)≤(cap:Int)+1:=by omega
    have k12: ¬(G=i):=by omega
    have mixed:Tryz.prog.follows .mixedOrders=true:=by kernel_rfl
    generalize w.heap.size=N at hrz hcpA hcpB HO;clear hRS hW3 hW2 hW1 hN1 hN2 hold1 hold2 hHS1 hGR1 hGR2 hr1 hr2 q0 q1 q2 q3 hrow hROW hold hkk hik hsrc hfst hdl h1d hg ht hcs hcl;go_enter Tryz.func138,Tryz.ntmps138;go_wp2_with(first
     |(at_builtin;refine Lib.wpList_append_run _ rfl _ _ _ _ rfl _ _ rfl rfl _ _ (hrz _) ?_)
     |(at_builtin;refine wpList_copy_runI _ rfl _ _ 46 46 rfl _ _ rfl rfl (hcpA _ _) ?_))
    go_region_law_o (refine step_copy_runI rfl _ _ 46 46 rfl _ _ (by simp[Act.eval,Act.put]) (by simp[Act.eval,Act.put]) (hcpB _ _ _) ?_)
    go_wp2;go_ret;exact⟨.slice (some ⟨N,0,none⟩) (cap+1) G,rfl,HO.out,HG.out⟩
theorem jnj (base i n:Nat) (v:Value) (xs:List Value) (w:World) (ho:w.ownsRow base 52 4 v n xs) (hi:i<n) (hx1: ∀u∈xs,u.oneCell'=true) (hn:n≤4194304):
  Calls Tryz.prog 139 #[v,.int .i64 i,.int .i64 ((i:Int)+1)] w fun e w'=>∃v',e= .returned v'∧w'.ownsRow base 52 4 v' (n - 1) (jdw 4 i xs)∧w.grownBy w' v.ownBlock:=by
 obtain⟨i0,hi0,hz0,hz1,hz2⟩:=info_parts jdp;have hlx:=ho.1;rcases ho.2 with ⟨rfl,rfl⟩|⟨g,cap,cur,rfl,hb,hg,hnc,hcm,hcs,ht⟩
 ·omega
 unfold maxLen at hcm;have hcl:cur.toList.length=cap*4:=by simpa using hcs
 have hfst: ∀j u,xs[j]? =some u→cur[j]? =some u:=fun j u hu=>by
  rw[←ht,List.getElem?_take] at hu;split at hu
  ·simpa using hu
  ·cases hu
 have hsrc: ∀j u,(xs.drop ((i+1)*4))[j]? =some u→w.cell? ((⟨g,(i+1)*4,none⟩:Addr).add j)=some u:=fun j u hu=>by
  rw[Addr.add_lit,Blk.cell (w:=w) (g:=g) hg];rw[List.getElem?_drop] at hu;exact hfst _ _ hu
 have hdl:(xs.drop ((i+1)*4)).length=(n - (i+1))*4:=by rw[List.length_drop,hlx,←Nat.sub_mul]
 have h1d: ∀u∈xs.drop ((i+1)*4),u.oneCell'=true:=fun u hu=>hx1 u (List.mem_of_mem_drop hu)
 have hap: ∀ty sc,(Builtin.append_ #[46,46] ty #[.slice (some ⟨g,0,none⟩) i cap,.slice (some ⟨g,(i+1)*4,none⟩) (n - (i+1)) sc]).run Tryz.prog w.drew= .ok (.slice (some ⟨g,0,none⟩) (n - 1) cap) (w.drew.setRow g (cur.toList.take (i*4)++xs.drop ((i+1)*4)++cur.toList.drop (i*4+(xs.drop ((i+1)*4)).length)).toArray):=fun ty sc=>by
  have h:=run_append_room w.drew 46 ty 52 i0 Tryz.underlying46 hi0 g i cap cur hg ⟨g,(i+1)*4,none⟩ (n - (i+1)) sc (xs.drop ((i+1)*4)) (by rw[hz1];exact hdl) (fun j u hu=>hsrc j u hu) h1d (by omega) (by rw[hz1,hdl,hcs];omega);rw[hz1,show i+(n - (i+1))=n - 1 by omega] at h;exact h
 have hap': ∀ty,cap=i+1→(Builtin.append_ #[46,46] ty #[.slice (some ⟨g,0,none⟩) i cap,.slice (some ⟨g,0,none⟩) (n - (i+1)) 0]).run Tryz.prog w.drew= .ok (.slice (some ⟨g,0,none⟩) (n - 1) cap) (w.drew.setRow g (cur.toList.take (i*4)++xs.drop ((i+1)*4)++cur.toList.drop (i*4+(xs.drop ((i+1)*4)).length)).toArray):=fun ty hci=>by
  have hnil:xs.drop ((i+1)*4)= []:=List.drop_eq_nil_of_le (by rw[hlx];omega);have h:=run_append_room w.drew 46 ty 52 i0 Tryz.underlying46 hi0 g i cap cur hg ⟨g,0,none⟩ (n - (i+1)) 0 (xs.drop ((i+1)*4)) (by rw[hz1];exact hdl) (fun j u hu=>by rw[hnil] at hu;cases hu) h1d (by omega) (by rw[hz1,hdl,hcs];omega);rw[hz1,show i+(n - (i+1))=n - 1 by omega] at h;exact h
 obtain⟨c1,hc1⟩: ∃c1,c1=cur.toList.take (i*4)++xs.drop ((i+1)*4)++cur.toList.drop (i*4+(xs.drop ((i+1)*4)).length):=⟨_,rfl⟩;obtain⟨q1,q2,q3⟩:=jo8 ht hcl hi hnc (z:=([.string ByteArray.empty,.bool false,.int .i64 0,.slice none 0 0]:List Value)) rfl hc1;rw[←hc1] at hap hap'
 have hg1:(w.drew.setRow g c1.toArray).heap[g]? =some (.cells c1.toArray 52 (0,0)):=setRow_heap w.drew g cur c1.toArray 52 (0,0) hg;obtain⟨W1,hW1⟩: ∃W1,W1=w.drew.setRow g c1.toArray:=⟨_,rfl⟩;rw[←hW1] at hap hap' hg1
 have hcl2: ∀ty dc,(Builtin.clear_ #[46] ty #[.slice (some ⟨g,(n - 1)*4,none⟩) 1 dc]).run Tryz.prog W1= .ok (.tuple #[]) (W1.setRow g (c1.take ((n - 1)*4)++([.string ByteArray.empty,.bool false,.int .i64 0,.slice none 0 0]:List Value)++c1.drop ((n - 1)*4+1*4)).toArray):=fun ty dc=>
  jdg (P:=Tryz.prog) W1 46 52 ty (.agg #[.string ByteArray.empty,.bool false,.int .i64 0,.slice none 0 0]) 4 Tryz.underlying46 (fun w=>by kernel_rfl) rfl jjz g ((n - 1)*4) 1 dc c1.toArray 52 hg1 (by simp only[List.size_toArray];omega)
 obtain⟨W2,hW2⟩: ∃W2,W2=W1.setRow g (c1.take ((n - 1)*4)++([.string ByteArray.empty,.bool false,.int .i64 0,.slice none 0 0]:List Value)++c1.drop ((n - 1)*4+1*4)).toArray:=⟨_,rfl⟩;rw[←hW2] at hcl2;have HO:=Ja (show W2.ownsRow base 52 4 (.slice (some ⟨g,0,none⟩) (n - 1) cap) (n - 1) (jdw 4 i xs) from
  ⟨by unfold jdw;simp only[List.length_append,List.length_take,hdl,hlx];omega,.inr ⟨g,cap,_,rfl,hb,by rw[hW2];exact setRow_heap W1 g c1.toArray _ 52 (0,0) hg1,by omega,by unfold maxLen;omega,by simpa using q2,by simpa using q3⟩⟩)
 have HG:=Ja (show w.grownBy W2 (some g) by rw[hW2,hW1];exact Vy (Vy (jao w (some g)) (V7 c1.toArray)) (V7 (w:=w.drew.setRow g c1.toArray) _));have k1:(0:Int)≤(i:Int):=by omega
 have k2:(i:Int)≤(n:Int):=by omega
 have k3:((i:Int)==(i:Int)+1)=false:=by simp;omega
 have k5:(i:Int)+1≤(n:Int):=by omega
 have k6:(i:Int)≤(i:Int)+1:=by omega
 have k7:(0:Int)≤(i:Int)+1:=by omega
 have k8:((i:Int)+1).toNat=i+1:=by omega
 have k9:(i:Int)≤(cap:Int):=by omega
 have k10:n≤cap:=hnc;have k11: ¬(n=i):=by omega
 have k12: ¬(cap=n - 1):=by omega
 have k13:(n:Int) - 1≤(n:Int):=by omega
 have k14:n - (n - 1)=1:=by omega
 have k15:0<n:=by omega
 have mixed:Tryz.prog.follows .mixedOrders=true:=by kernel_rfl
 clear hW1 hW2 q1 q2 q3 hc1 hg1 hsrc hfst hdl h1d hg ht hcs hcl ho hlx hx1;by_cases hci:cap=i+1
 ·have hn1:n=i+1:=by omega
  subst hn1;subst hci;have hap:=fun ty=>hap' ty rfl;rw[Nat.add_sub_cancel] at HO hcl2;simp only[Nat.add_sub_cancel,Nat.sub_self] at hap;clear hap' k2 k5 k9 k10 k11 k12 k13 k14 k15;have k9:(i:Int)≤(i:Int)+1:=by omega
  have k16: ¬(i+1=i):=by omega
  have k17:i+1 - i=1:=by omega
  go_enter Tryz.func139,Tryz.ntmps139;go_wp2_with fail
  go_region_law_o (refine Wx rfl _ _ 46 46 rfl _ _ (by simp[Act.eval,Act.put]) (by simp[Act.eval,Act.put]) (hap _) ?_)
  go_wp2;go_ret;exact⟨.slice (some ⟨g,0,none⟩) i (i+1),rfl,by rw[Nat.add_sub_cancel];exact HO.out,HG.out⟩
 ·clear hap';go_enter Tryz.func139,Tryz.ntmps139;go_wp2_with fail
  go_region_law_o (refine Wx rfl _ _ 46 46 rfl _ _ (by simp[Act.eval,Act.put]) (by simp[Act.eval,Act.put]) (hap _ (cap - (i+1))) ?_)
  go_wp2;go_ret;exact⟨.slice (some ⟨g,0,none⟩) (n - 1) cap,rfl,HO.out,HG.out⟩
theorem jqn (n lo hi:Int):inB n lo hi=(decide (lo≤n)&&decide (n≤hi)):=rfl
theorem Jw (n lo hi:Int) (w:World):
  Calls Tryz.prog 49 #[.int .i64 n,.int .i64 lo,.int .i64 hi] w fun e w'=>e= .returned (.bool (inB n lo hi))∧Below w.heap.size w w':=by
 go_enter Tryz.func49,Tryz.ntmps49;go_wp2
 all_goals(go_ret;exact⟨Jc (by rw[jqn,Bool.eq_iff_iff];simp;try omega),Below.refl _ _⟩)
theorem Y2 (n lo hi:Int) (w:World):
  Calls Tryz.prog 63 #[.int .i64 n,.int .i64 lo,.int .i64 hi] w fun e w'=>e= .returned (.bool (inB n lo hi))∧Below w.heap.size w w':=by
 go_enter Tryz.func63,Tryz.ntmps63;go_wp2
 all_goals(go_ret;exact⟨Jc (by rw[jqn,Bool.eq_iff_iff];simp;try omega),Below.refl _ _⟩)
def jko (s:ByteArray) (k:Nat):Prop:=(s.data.toList.take k).all lowB=true
theorem jlf {s:ByteArray} {k:Nat} (_h:k<s.size) (h':k<s.data.toList.length):s.data.toList[k]=s[k]:=rfl
theorem jgt {s:ByteArray} {k:Nat} (h:jko s k) (hk:k<s.size) (h1:97≤s[k].toNat) (h2:s[k].toNat≤122):jko s (k+1):=by
 have hk':k<s.data.toList.length:=by rw[←Lib.size_eq];exact hk
 unfold jko at*;rw[List.take_succ_eq_append_getElem hk',List.all_append,h,jlf hk hk'];simp[lowB,h1,h2]
theorem ji0 {s:ByteArray} {k:Nat} (hk:k<s.size) (h: ¬(97≤s[k].toNat∧s[k].toNat≤122)):s.data.toList.all lowB=false:=by
 have hk':k<s.data.toList.length:=by rw[←Lib.size_eq];exact hk
 rw[List.all_eq_false];exact⟨s[k],by rw[←jlf hk hk'];exact List.getElem_mem hk',by simp[lowB];omega⟩
theorem ji1 {s:ByteArray} (h:jko s s.size):s.data.toList.all lowB=true:=by
 unfold jko at h;rwa [List.take_of_length_le (by rw[Lib.size_eq];exact Nat.le_refl _)] at h
theorem Zj (s:ByteArray) (hs:s.size≤4194304) (w:World):
  Calls Tryz.prog 55 #[.string s] w fun e w'=>e= .returned (.bool (Y5 s))∧Below w.heap.size w w':=by
 go_enter Tryz.func55,Tryz.ntmps55;go_wp2
 go_loopw [6] (fun i wr=>∃k:Nat,k≤s.size∧i= .int .i64 k∧jko s k∧Below w.heap.size w wr) (fun i _=>s.size - (intOf i).toNat)
 case atStart=>exact⟨0,Nat.zero_le _,rfl,rfl,Below.refl _ _⟩
 case round=>
  obtain⟨k,hk,rfl,hag,hbl⟩:=hrel;have HA:=Ja hag;clear hag;by_cases hlt:k<s.size
  ·go_wp2
   all_goals first
    |(go_ret;exact⟨Jc (by simp[Y5,ji0 hlt (by omega)]),hbl⟩)
    |exact⟨⟨k+1,by omega,by go_num,jgt HA.out hlt (by omega) (by omega),hbl⟩,by simp[intOf];omega⟩
  ·have hk':k=s.size:=by omega
   subst hk';go_wp2_with fail;refine(Y2 _ _ _ _).mono ?_;rintro e w1 ⟨rfl,hb1⟩;go_wp2;go_ret;exact⟨Jc (by simp[Y5,ji1 HA.out]),hbl.trans (hb1.mono hbl.size)⟩
theorem Vq (s:ByteArray) (hs:s.size≤4194304) (w:World):
  Calls Tryz.prog 53 #[.string s] w fun e w'=>e= .returned (.bool (Y5 s))∧Below w.heap.size w w':=by
 go_enter Tryz.func53,Tryz.ntmps53;go_wp2_with fail;refine(Jw _ _ _ _).mono ?_;rintro e w1 ⟨rfl,hb1⟩;cases hd:inB s.size 1 3
 ·go_wp2;go_ret;exact⟨Jc (by simp[Y5,hd]),hb1⟩
 ·have HD:=Ja hd;clear hd;go_wp2
  go_loopw [3] (fun i wr=>∃k:Nat,k≤s.size∧i= .int .i64 k∧jko s k∧Below w.heap.size w wr) (fun i _=>s.size - (intOf i).toNat)
  case atStart=>exact⟨0,Nat.zero_le _,rfl,rfl,hb1⟩
  case round=>
   obtain⟨k,hk,rfl,hag,hbl⟩:=hrel;have HA:=Ja hag;clear hag;by_cases hlt:k<s.size
   ·go_wp2
    all_goals first
     |(go_ret;exact⟨Jc (by simp[Y5,ji0 hlt (by omega)]),hbl⟩)
     |exact⟨⟨k+1,by omega,by go_num,jgt HA.out hlt (by omega) (by omega),hbl⟩,by simp[intOf];omega⟩
   ·have hk':k=s.size:=by omega
    subst hk';go_wp2;go_ret;exact⟨Jc (by simp[Y5,HD.out,ji1 HA.out]),hbl⟩
theorem jiz {α β:Type} (f:α→β): ∀l:List α,l.map f=l.flatMap fun n=>[f n]
 | []=>rfl
 |a::l=>by simp[jiz f l]
theorem jn5 (c:UInt8) (s:ByteArray) (hs:s.size≤4194304) (w:World):
  Calls Tryz.prog 154 #[.string s,.string ⟨#[c]⟩] w (FreshS Rp.str w (jf8 c s)):=by
 have h1:1≤(⟨#[c]⟩:ByteArray).size:=Nat.le_refl 1;have hle:=Lib.countB_le ⟨#[c]⟩ h1 s.size s nle;have hlen:=Lib.splitB_all ⟨#[c]⟩ h1 0 _ s rfl;have k:Calls Tryz.prog 174 #[.string s,.string ⟨#[c]⟩,.int .i64 0,.int .i64 (-1)] w fun e w'=>
   e= .returned (.slice (some ⟨w.heap.size,0,none⟩) (Lib.splitB ⟨#[c]⟩ 0 (Lib.countB s ⟨#[c]⟩+1 - 1) s).length (Lib.countB s ⟨#[c]⟩+1))∧w'=w.alloc (.cells (Lib.cellsOf (Lib.splitB ⟨#[c]⟩ 0 (Lib.countB s ⟨#[c]⟩+1 - 1) s) (Lib.countB s ⟨#[c]⟩+1)) 9):=Any.strings_genSplit_core Tryz.lays221 (by kernel_rfl) s ⟨#[c]⟩ 0 (-1) (Lib.countB s ⟨#[c]⟩+1) w (by omega) h1 (Nat.zero_le _)
  (fun x cc hx=>by
   have:=Tryz.strings_Index_one x c (w.alloc (.cells cc 9));rw[←Lib.index_one] at this;exact this)
  (by
   have:=Tryz.strings_Count_one s c w;unfold Lib.countByte at this;rw[←Lib.count_one] at this;exact this)
  (by decide) (by decide) (by rw[if_pos (by decide)];omega)
 rw[Nat.add_sub_cancel,hlen] at k;have e2:Lib.cellsOf (Lib.splitB ⟨#[c]⟩ 0 (Lib.countB s ⟨#[c]⟩) s) (Lib.countB s ⟨#[c]⟩+1)=((Lib.splitB ⟨#[c]⟩ 0 (Lib.countB s ⟨#[c]⟩) s).map Value.string).toArray:=by rw[←hlen];exact Lib.cellsOf_full _
 rw[e2,←hlen,jnl] at k;clear e2 hle hlen h1;go_enter Tryz.func154,Tryz.ntmps154;go_wp2_with fail;refine k.mono ?_;rintro e w1 ⟨rfl,rfl⟩;go_wp2;go_ret;have hl:=jlc c s
 refine⟨_,_,_,[w.heap.size],rfl,⟨rfl,Nat.le_refl _,by unfold maxLen;omega,(jf8 c s).map Value.string,[w.heap.size],[],⟨by simp[Rp.str,Rp.flat], ?_⟩,AllR.flat.2 ⟨?_,rfl⟩,rfl⟩,by simp,by simp, ?_,(Below.refl _ _).alloc nle _⟩
 ·refine .inr ⟨?_,_,0,rfl,rfl,by simp,fun j u hu=> ?_⟩
  ·have:=jh3 c s.data.toList;unfold jf8;rw[List.length_map];exact List.length_pos_iff.2 this
  ·rw[(Blk.new w _ _).cell,Nat.zero_add];simpa using hu
 ·exact jiz _ _
 ·intro b hb;obtain rfl:b=w.heap.size:=by simpa using hb
  exact⟨_,_,heap_alloc_new w _⟩
theorem Ju (s:ByteArray):s.toList.isEmpty=decide (s=ByteArray.empty):=by
 rw[←Jr,ByteArray.toList_eq,ByteArray.toList_eq];cases s.data.toList<;>rfl
theorem jon (s:ByteArray) (hs:s.size≤4194304) (w:World):
  Calls Tryz.prog 125 #[.string s] w (FreshS Rp.str w (if s=ByteArray.empty then [] else jf8 47 s)):=by
 go_enter Tryz.func125,Tryz.ntmps125;by_cases h0:s=ByteArray.empty
 ·subst h0;go_wp2;go_ret;exact⟨none,0,0,[],rfl,SlR.nil,by simp,by simp,Free.nil _,Below.refl _ _⟩
 ·have hd:s.toList.isEmpty=false:=by rw[Ju];exact decide_eq_false h0
  have H0:=Ja h0;clear h0;go_wp2_with fail;refine(jn5 47 s hs _).mono ?_;rintro e w1 ⟨A,n,cc,f,rfl,hS,hR⟩;go_wp2;go_ret;exact⟨A,n,cc,f,rfl,hS,hR⟩
def jkn (l:List ByteArray) (k:Nat):Prop:=(l.take k).all Y5=true
theorem jgr {l:List ByteArray} {k:Nat} (h:jkn l k) (hk:k<l.length) (h1:Y5 l[k]=true):jkn l (k+1):=by
 unfold jkn at*;rw[List.take_succ_eq_append_getElem hk,List.all_append,h];simp[h1]
theorem jiw {l:List ByteArray} {k:Nat} (hk:k<l.length) (h1:Y5 l[k]=false):l.all Y5=false:=by
 rw[List.all_eq_false];exact⟨l[k],List.getElem_mem hk,by simp[h1]⟩
theorem jix {l:List ByteArray} (h:jkn l l.length):l.all Y5=true:=by
 unfold jkn at h;rwa [List.take_of_length_le nle] at h
theorem jl0 (s:ByteArray):Xm s=((if s=ByteArray.empty then [] else jf8 47 s).all Y5&&decide ((if s=ByteArray.empty then [] else jf8 47 s).length≤3)):=by
 by_cases h:s=ByteArray.empty
 ·simp[Xm,h]
 ·simp[Xm,h]
theorem X8 (s:ByteArray) (hs:s.size≤4194304) (w:World):
  Calls Tryz.prog 74 #[.string s] w fun e w'=>e= .returned (.bool (Xm s))∧Below w.heap.size w w':=by
 have HE:=Ja (jl0 s);have hpart: ∀x∈(if s=ByteArray.empty then [] else jf8 47 s),x.size≤4194304:=fun x hx=>by
  split at hx
  ·simp at hx
  ·exact Nat.le_trans (jjr 47 s x hx) hs
 go_enter Tryz.func74,Tryz.ntmps74;go_wp2_with fail;refine(jon s hs _).mono ?_;generalize(if s=ByteArray.empty then [] else jf8 47 s)=l at HE hpart ⊢;rintro e w1 ⟨A,n,cc,f,rfl,hS,_,_,_,hb1⟩;obtain⟨rfl,hcx,hmx,_⟩:=id hS;unfold maxLen at hmx;go_wp2
 go_loopw [10] (fun i wr=>∃k:Nat,k≤l.length∧i= .int .i64 k∧jkn l k∧Below w1.heap.size w1 wr) (fun i _=>l.length - (intOf i).toNat)
 case atStart=>exact⟨0,Nat.zero_le _,rfl,rfl,Below.refl _ _⟩
 case round=>
  obtain⟨k,hk,rfl,hag,hbl⟩:=hrel;have HA:=Ja hag;clear hag;by_cases hlt:k<l.length
  ·obtain⟨b,o,rfl,hb,_,h0⟩:=ja0 (hS.step hbl) hlt;go_wp2_with fail;refine(Zj l[k] (hpart _ (List.getElem_mem hlt)) _).mono ?_;rintro e w2 ⟨rfl,hb2⟩;have HB:=Ja (Below.t hbl hb2);clear hb2;cases hd:Y5 l[k]
   ·have HN:=Ja (jiw hlt hd);clear hd;go_wp2;go_ret;exact⟨Jc (by rw[HE.out,HN.out];rfl),Below.t hb1 HB.out⟩
   ·have HN:=Ja (jgr HA.out hlt hd);clear hd;go_wp2;refine⟨⟨k+1,by omega,by go_num,HN.out,HB.out⟩,by simp[intOf];omega⟩
  ·have hk':k=l.length:=by omega
   subst hk';go_wp2;go_ret;exact⟨Jc (by rw[HE.out,jix HA.out,Bool.true_and];exact decide_eq_decide.2 (by omega)),Below.t hb1 hbl⟩
def CutRel (s:ByteArray) (w:World) (k:Nat) (v word:Value) (wr:World):Prop:=
 ∃(o:List (List UInt8)) (x:List UInt8),word= .string ⟨x.toArray⟩∧jcy 47 (s.data.toList.take k)=o++ [x]∧wr.ownsRow w.heap.size 9 1 v o.length (o.flatMap fun l=>[.string ⟨l.toArray⟩])∧Below w.heap.size w wr
theorem Tryz.infoStr:(Tryz.prog.info? 9).map (fun i=>(i.zero,i.size,i.bytes))=some (some (.string ByteArray.empty),1,16):=by kernel_rfl
theorem jjp {s:ByteArray} {k:Nat} {o:List (List UInt8)} {x:List UInt8} (h:jcy 47 (s.data.toList.take k)=o++ [x]):o.length≤s.size∧x.length≤s.size:=by
 have h1:=jcd 47 (s.data.toList.take k);rw[h] at h1;have h2:=Lib.size_eq s;simp at h1;omega
theorem jp6 {s:ByteArray} {k:Nat} {o:List (List UInt8)} {x:List UInt8} (h:jcy 47 (s.data.toList.take k)=o++ [x]) (hk:k<s.size):
  jcy 47 (s.data.toList.take (k+1))=if s[k]=47 then o++ [x]++ [[]] else o++ [x++ [s[k]]]:=by
 have hk':k<s.data.toList.length:=by rw[←Lib.size_eq];exact hk
 rw[List.take_succ_eq_append_getElem hk',jlf hk hk'];exact jjq 47 _ _ _ _ h
theorem cut_end {s:ByteArray} {o:List (List UInt8)} {x:List UInt8} (h:jcy 47 (s.data.toList.take s.size)=o++ [x]):jf8 47 s=(o++ [x]).map fun l=>⟨l.toArray⟩:=by
 rw[List.take_of_length_le (by rw[Lib.size_eq];exact Nat.le_refl _)] at h;unfold jf8;rw[h]
theorem jou (s:ByteArray) (hs:s.size≤4194304) (w:World):
  Calls Tryz.prog 109 #[.string s] w (FreshS Rp.str w (jf8 47 s)):=by
 have hcv:=jj9 (P:=Tryz.prog) (dst:=9) Tryz.underlying22 Tryz.underlying5 Tryz.underlying9;obtain⟨i0,hi,hz0,hz1,hz2⟩:=info_parts Tryz.infoStr;go_enter Tryz.func109,Tryz.ntmps109;go_wp2
 go_loopw [3,4,5] (fun v word i wr=>∃k:Nat,k≤s.size∧i= .int .i64 k∧CutRel s w k v word wr) (fun _ _ i _=>s.size - (intOf i).toNat)
 case atStart=>exact⟨0,Nat.zero_le _,rfl,[],[],rfl,by simp[jcy],World.ownsRow_made w #[] 0 nle (by simp[maxLen]) rfl,(Below.refl _ _).alloc nle _⟩
 case round=>
  obtain⟨k,hk,rfl,o,x,rfl,hc,hown,hbl⟩:=hrel;have HC:=Ja hc;clear hc;have hob:=(jjp HC.out).1;have hxb:=(jjp HC.out).2;by_cases hlt:k<s.size
  ·have HN:=Ja (jp6 HC.out hlt);cases hd:((s[k].toNat:Int)==47)
   ·have HD:s[k]≠47:=fun h=>by rw[h] at hd;simp at hd
    have HM:=Ja (HN.out.trans (if_neg HD));go_wp2;refine⟨⟨k+1,by omega,by go_num,o,x++ [s[k]], ?_,HM.out,hown.alloc _,hbl.alloc hbl.size _⟩,by simp[intOf];omega⟩;show Value.string (_++_)=_
    congr 1
   ·have HD:s[k]=47:=by
     have:=beq_iff_eq.1 hd;exact UInt8.toNat_inj.1 (by simp;omega)
    have HM:=Ja (HN.out.trans (if_pos HD));clear HD;go_wp2_with(at_builtin;refine wpList_append_own _ rfl _ _ 35 rfl w.heap.size 9 i0 _ 1 16 Tryz.underlying35 hi hz0 hz1 hz2 rfl (by decide) _ _ _ rfl (hown.alloc _) ⟨wr.heap.size,0,none⟩ 1 1 [.string ⟨x.toArray⟩] rfl rfl (Jm wr [.string ⟨x.toArray⟩] _) (by simp;rfl) (by unfold maxLen;omega) (by omega) (by have:=hbl.size;simp;omega) ?_)
    intro v' w1 hown' hgrow _;go_wp2;exact⟨⟨k+1,by omega,by go_num,o++ [x],[],rfl,HM.out,by simpa using hown',(hbl.alloc hbl.size _).grown hgrow (by have:=hbl.size;simp;omega) (fun j hj=>(hown.lt j hj).1)⟩,by simp[intOf];omega⟩
  ·have hk':k=s.size:=by omega
   subst hk';have HN:=Ja (cut_end HC.out);go_wp2_with(at_builtin;refine wpList_append_own _ rfl _ _ 35 rfl w.heap.size 9 i0 _ 1 16 Tryz.underlying35 hi hz0 hz1 hz2 rfl (by decide) _ _ _ rfl (hown.alloc _) ⟨wr.heap.size,0,none⟩ 1 1 [.string ⟨x.toArray⟩] rfl rfl (Jm wr [.string ⟨x.toArray⟩] _) (by simp;rfl) (by unfold maxLen;omega) (by omega) (by have:=hbl.size;simp;omega) ?_)
   intro v' w1 hown' hgrow _;go_wp2;go_ret;rw[HN.out];exact FreshS.of_owns_flat (by simpa [List.flatMap_map] using hown') ((hbl.alloc hbl.size _).grown hgrow (by have:=hbl.size;simp;omega) (fun j hj=>(hown.lt j hj).1))
theorem Y6 (s:ByteArray) (hs:s.size≤4194304) (w:World):
  Calls Tryz.prog 54 #[.string s] w fun e w'=>e= .returned (.bool (Xm s))∧Below w.heap.size w w':=by
 have HE:=Ja (jl0 s);have HZ:=Ja (Zr (s:=s));go_enter Tryz.func54,Tryz.ntmps54;by_cases h0:s=ByteArray.empty
 ·subst h0;go_wp2;go_ret;exact⟨Jc (by rw[jki]),Below.refl _ _⟩
 ·have hd:s.toList.isEmpty=false:=by rw[Ju];exact decide_eq_false h0
  have hpart:=jjr 47 s;rw[if_neg h0] at HE;clear h0;by_cases h12:s.size≤12
  ·go_wp2_with fail;refine(jou s hs _).mono ?_;generalize jf8 47 s=l at HE hpart ⊢;rintro e w1 ⟨A,n,cc,f,rfl,hS,_,_,_,hb1⟩;obtain⟨rfl,hcx,hmx,_⟩:=id hS;unfold maxLen at hmx;go_wp2
   go_loopw [4] (fun i wr=>∃k:Nat,k≤l.length∧i= .int .i64 k∧jkn l k∧Below w1.heap.size w1 wr) (fun i _=>l.length - (intOf i).toNat)
   case atStart=>exact⟨0,Nat.zero_le _,rfl,rfl,Below.refl _ _⟩
   case round=>
    obtain⟨k,hk,rfl,hag,hbl⟩:=hrel;have HA:=Ja hag;clear hag;by_cases hlt:k<l.length
    ·obtain⟨b,o,rfl,hb,_,h0⟩:=ja0 (hS.step hbl) hlt;have hsz:=Nat.le_trans (hpart _ (List.getElem_mem hlt)) hs;go_wp2_with fail;refine(Vq l[k] hsz _).mono ?_;rintro e w2 ⟨rfl,hb2⟩;have HB:=Ja (Below.t hbl hb2);clear hb2 h0;cases hd:Y5 l[k]
     ·have HN:=Ja (jiw hlt hd);clear hd;go_wp2;go_ret;exact⟨Jc (by rw[HE.out,HN.out];rfl),Below.t hb1 HB.out⟩
     ·have HN:=Ja (jgr HA.out hlt hd);clear hd;go_wp2;refine⟨⟨k+1,by omega,by go_num,HN.out,HB.out⟩,by simp[intOf];omega⟩
    ·have hk':k=l.length:=by omega
     subst hk';go_wp2;go_ret;exact⟨Jc (by rw[HE.out,jix HA.out,Bool.true_and];exact decide_eq_decide.2 (by omega)),Below.t hb1 hbl⟩
  ·have HF:=Ja (show Xm s=false by
    cases hp:Xm s
    ·rfl
    ·have:=HZ.out hp;omega)
   go_wp2;go_ret;exact⟨Jc (by rw[HF.out]),Below.refl _ _⟩
def jfv (p s:ByteArray):Bool:=p.data.toList.isPrefixOf s.data.toList
def Jq (a b:ByteArray):Bool:=Xm a&&Xm b&&(decide (a=ByteArray.empty)||decide (a=b)||jfv (a++⟨#[47]⟩) b)
theorem jow {p s:ByteArray} (_h:p.size≤s.size):jfv p s=((s.extract 0 p.size).toList==p.toList):=by
 unfold jfv;rw[ByteArray.toList_eq,ByteArray.toList_eq,Lib.extract_from_zero,Lib.size_eq p,Bool.eq_iff_iff,List.isPrefixOf_iff_prefix,beq_iff_eq,List.prefix_iff_eq_take];exact eq_comm
theorem jl7 {p s:ByteArray} (h: ¬p.size≤s.size):jfv p s=false:=by
 unfold jfv;rw[Bool.eq_false_iff];intro e;have:=(List.isPrefixOf_iff_prefix.1 e).length_le;rw[←Lib.size_eq,←Lib.size_eq] at this;omega
theorem jan {a b:ByteArray} (h:a.toList=b.toList):a=b:=by
 have:=Jr a b;rw[h] at this;simpa using this
theorem jgn {a:ByteArray} (h:a.toList= []):a=ByteArray.empty:=jan (by rw[h,ByteArray.toList_eq];rfl)
theorem Vt {a b:ByteArray} (h:Xm a=true) (h':Xm b=true):Jq a b=(decide (a=ByteArray.empty)||decide (a=b)||jfv (a++⟨#[47]⟩) b):=by
 unfold Jq;rw[h,h'];rfl
theorem Wy (a b:ByteArray) (ha:a.size≤4194304) (hb:b.size≤4194304) (w:World):
  Calls Tryz.prog 61 #[.string a,.string b] w fun e w'=>e= .returned (.bool (Jq a b))∧Below w.heap.size w w':=by
 go_enter Tryz.func61,Tryz.ntmps61;go_wp2_with fail;refine(X8 a ha _).mono ?_;rintro e w1 ⟨rfl,hb1⟩;cases ha1:Xm a
 ·go_wp2;go_ret;exact⟨Jc (by simp[Jq,ha1]),hb1⟩
 ·have HA:=Ja ha1;clear ha1;go_wp2_with fail;refine(X8 b hb _).mono ?_;rintro e w2 ⟨rfl,hb2⟩;have HB:=Ja (Below.t hb1 hb2);clear hb1 hb2;cases hb1:Xm b
  ·go_wp2;go_ret;exact⟨Jc (by simp[Jq,hb1]),HB.out⟩
  ·have HC:=Ja hb1;clear hb1;have hss:(a++⟨#[47]⟩:ByteArray).size=a.size+1:=by simp[ByteArray.size_append];rfl
   have HS:=Ja hss;clear hss;go_wp2
   ·go_ret;refine⟨Jc ?_,HB.out⟩;rw[Vt HA.out HC.out,jgn ‹a.toList= []›];simp
   ·go_ret;refine⟨Jc ?_,HB.out⟩;rw[Vt HA.out HC.out,jan ‹a.toList=b.toList›];simp
   ·go_ret;refine⟨Jc ?_,HB.out⟩;rw[Vt HA.out HC.out,Ju,Jr a b,jow (by rw[HS.out];omega),HS.out]
   ·go_ret;refine⟨Jc ?_,HB.out⟩;rw[Vt HA.out HC.out,Ju,Jr a b,jl7 (by rw[HS.out];omega),Bool.or_false]
theorem jev {a b:ByteArray} (h:a.size<b.size):jfv (a++⟨#[47]⟩) b=((b.extract 0 a.size).toList==a.toList&&((b[a.size].toNat:Int)==47)):=by
 have hk':a.data.toList.length<b.data.toList.length:=by rw[←Lib.size_eq,←Lib.size_eq];exact h
 have e1:(a++⟨#[47]⟩:ByteArray).data.toList=a.data.toList++ [47]:=by simp
 have e2:b.data.toList[a.data.toList.length]=b[a.size]:=rfl;unfold jfv;rw[e1,ByteArray.toList_eq,ByteArray.toList_eq,Lib.extract_from_zero,Bool.eq_iff_iff,List.isPrefixOf_iff_prefix,List.prefix_iff_eq_take,List.length_append,List.length_singleton,List.take_succ_eq_append_getElem hk',e2,Bool.and_eq_true,beq_iff_eq,beq_iff_eq,←Lib.size_eq];constructor
 ·intro e;obtain⟨x,y⟩:=List.append_inj' e rfl;refine⟨x.symm, ?_⟩;simp at y;rw[←y];rfl
 ·rintro⟨x,y⟩;rw[x]
  congr 1
  have:b[a.size]=47:=UInt8.toNat_inj.1 (by simp;omega);rw[this]
theorem jfu {a b:ByteArray} (h: ¬a.size<b.size):jfv (a++⟨#[47]⟩) b=false:=jl7 (by have:(a++⟨#[47]⟩:ByteArray).size=a.size+1:=(by simp[ByteArray.size_append];rfl);omega)
theorem jaa (a b:ByteArray) (ha:a.size≤4194304) (hb:b.size≤4194304) (w:World):
  Calls Tryz.prog 124 #[.string a,.string b] w fun e w'=>e= .returned (.bool (Jq a b))∧Below w.heap.size w w':=by
 go_enter Tryz.func124,Tryz.ntmps124;go_wp2_with fail;refine(Y6 a ha _).mono ?_;rintro e w1 ⟨rfl,hb1⟩;cases ha1:Xm a
 ·go_wp2;go_ret;exact⟨Jc (by simp[Jq,ha1]),hb1⟩
 ·have HA:=Ja ha1;clear ha1;go_wp2_with fail;refine(Y6 b hb _).mono ?_;rintro e w2 ⟨rfl,hb2⟩;have HB:=Ja (Below.t hb1 hb2);clear hb1 hb2;cases hb1:Xm b
  ·go_wp2;go_ret;exact⟨Jc (by simp[Jq,hb1]),HB.out⟩
  ·have HC:=Ja hb1;clear hb1;have hss:(a++⟨#[47]⟩:ByteArray).size=a.size+1:=by simp[ByteArray.size_append];rfl
   have HS:=Ja hss;clear hss;go_wp2
   ·go_ret;refine⟨Jc ?_,HB.out⟩;rw[Vt HA.out HC.out,jgn ‹a.toList= []›];simp
   ·go_ret;refine⟨Jc ?_,HB.out⟩;rw[Vt HA.out HC.out,jan ‹a.toList=b.toList›];simp
   all_goals
    go_ret;refine⟨Jc ?_,HB.out⟩;rw[Vt HA.out HC.out,Ju,Jr a b]
    first
    |(rw[jev ‹a.size<b.size›,beq_iff_eq.2 ‹(b.extract 0 a.size).toList=a.toList›,Bool.true_and];done)
    |(rw[jev ‹a.size<b.size›,beq_eq_false_iff_ne.2 ‹¬(b.extract 0 a.size).toList=a.toList›,Bool.false_and,Bool.or_false];done)
    |(rw[jfu (by omega),Bool.or_false];done)
theorem jf0 {A:Option Addr} {n c:Nat} {l:List (Yt)} {fp:List Nat} (p:Yt→Bool) (g:Nat) (lb:Array Value) (eg: ∀args w,(callFunc g args).run Tryz.prog w= .ok (.enter g args) w) (w:World) (hx:SlR Rp.rule w A n c l fp)
  (hp: ∀(i:Nat) (hi:i<l.length) (cs:List Value) (fq:List Nat) (w1:World),Below w.heap.size w w1→Rp.rule.R w1 cs l[i] fq→Calls Tryz.prog g (#[.agg cs.toArray]++lb) w1 fun e w2=>e= .returned (.bool (p l[i]))∧Below w1.heap.size w1 w2):
  Calls Tryz.prog 114 #[.slice A n c,.func (.func g) #[] lb] w fun e w'=>e= .returned (.int .i64 (jd4 p l))∧Below w.heap.size w w':=by
 obtain⟨rfl,hcx,hmx,_⟩:=id hx;unfold maxLen at hmx;have HP:=Ja hp;clear hp;go_enter Tryz.func114,Tryz.ntmps114;go_wp2
 go_loopw [8] (fun i wr=>∃k:Nat,k≤l.length∧i= .int .i64 k∧noneTo p l k∧Below w.heap.size w wr) (fun i _=>l.length - (intOf i).toNat)
 case atStart=>exact⟨0,Nat.zero_le _,rfl,Yh,Below.refl _ _⟩
 case round=>
  obtain⟨k,hk,rfl,hag,hbl⟩:=hrel;have HA:=Ja hag;clear hag;by_cases hlt:k<l.length
  ·obtain⟨b,o,rfl,hb,hm,h0,h1,h2,h3⟩:=Yv (hx.step hbl) hlt;go_wp2_with fail;refine(HP.out k hlt (Jh l[k]) _ wr hbl ⟨rfl,rfl⟩).mono ?_;rintro e w1 ⟨rfl,hb1⟩;have HB:=Ja (Below.t hbl hb1);clear hb1;cases hd:p l[k]
   ·have HN:=Ja (HA.out.next hlt hd);clear hd;go_wp2;exact⟨⟨k+1,by omega,by go_num,HN.out,HB.out⟩,by simp[intOf];omega⟩
   ·have HN:=Ja (HA.out.hit hlt hd);clear hd;go_wp2;go_ret;exact⟨Xl HN.out.symm,HB.out⟩
  ·have hk':k=l.length:=by omega
   subst hk';go_wp2;go_ret;exact⟨Xl HA.out.all_.symm,hbl⟩
theorem jf1 {A:Option Addr} {n c:Nat} {l:List (Yt)} {fp:List Nat} (p:Yt→Bool) (g:Nat) (lb:Array Value) (eg: ∀args w,(callFunc g args).run Tryz.prog w= .ok (.enter g args) w) (w:World) (hx:SlR Rp.rule w A n c l fp)
  (hp: ∀(i:Nat) (hi:i<l.length) (cs:List Value) (fq:List Nat) (w1:World),Below w.heap.size w w1→Rp.rule.R w1 cs l[i] fq→Calls Tryz.prog g (#[.agg cs.toArray]++lb) w1 fun e w2=>e= .returned (.bool (p l[i]))∧Below w1.heap.size w1 w2):
  Calls Tryz.prog 58 #[.slice A n c,.func (.func g) #[] lb] w fun e w'=>e= .returned (.bool (l.any p))∧Below w.heap.size w w':=by
 have HP:=Ja hp;clear hp;go_enter Tryz.func58,Tryz.ntmps58;go_wp2_with fail;refine(jf0 p g lb eg _ hx HP.out).mono ?_;rintro e w1 ⟨rfl,hb1⟩;go_wp2;go_ret;exact⟨Jc (jdq p l),hb1⟩
theorem jky {A:Option Addr} {n c:Nat} {l:List (Wz)} {fp:List Nat} (p:Wz→Bool) (g:Nat) (lb:Array Value) (eg: ∀args w,(callFunc g args).run Tryz.prog w= .ok (.enter g args) w) (w:World) (hx:SlR Rp.edit w A n c l fp)
  (hp: ∀(i:Nat) (hi:i<l.length) (cs:List Value) (fq:List Nat) (w1:World),Below w.heap.size w w1→Rp.edit.R w1 cs l[i] fq→Calls Tryz.prog g (#[.agg cs.toArray]++lb) w1 fun e w2=>e= .returned (.bool (p l[i]))∧Below w1.heap.size w1 w2):
  Calls Tryz.prog 131 #[.slice A n c,.func (.func g) #[] lb] w fun e w'=>e= .returned (.int .i64 (jd4 p l))∧Below w.heap.size w w':=by
 obtain⟨rfl,hcx,hmx,_⟩:=id hx;unfold maxLen at hmx;have HP:=Ja hp;clear hp;go_enter Tryz.func131,Tryz.ntmps131;go_wp2
 go_loopw [8] (fun i wr=>∃k:Nat,k≤l.length∧i= .int .i64 k∧noneTo p l k∧Below w.heap.size w wr) (fun i _=>l.length - (intOf i).toNat)
 case atStart=>exact⟨0,Nat.zero_le _,rfl,Yh,Below.refl _ _⟩
 case round=>
  obtain⟨k,hk,rfl,hag,hbl⟩:=hrel;have HA:=Ja hag;clear hag;by_cases hlt:k<l.length
  ·obtain⟨b,o,rfl,hb,hm,h0,h1,h2⟩:=Zv (hx.step hbl) hlt;go_wp2_with fail;refine(HP.out k hlt (Jp l[k]) _ wr hbl ⟨rfl,rfl⟩).mono ?_;rintro e w1 ⟨rfl,hb1⟩;have HB:=Ja (Below.t hbl hb1);clear hb1;cases hd:p l[k]
   ·have HN:=Ja (HA.out.next hlt hd);clear hd;go_wp2;exact⟨⟨k+1,by omega,by go_num,HN.out,HB.out⟩,by simp[intOf];omega⟩
   ·have HN:=Ja (HA.out.hit hlt hd);clear hd;go_wp2;go_ret;exact⟨Xl HN.out.symm,HB.out⟩
  ·have hk':k=l.length:=by omega
   subst hk';go_wp2;go_ret;exact⟨Xl HA.out.all_.symm,hbl⟩
theorem jf2 {A:Option Addr} {n c:Nat} {l:List (Wz)} {fp:List Nat} (p:Wz→Bool) (g:Nat) (lb:Array Value) (eg: ∀args w,(callFunc g args).run Tryz.prog w= .ok (.enter g args) w) (w:World) (hx:SlR Rp.edit w A n c l fp)
  (hp: ∀(i:Nat) (hi:i<l.length) (cs:List Value) (fq:List Nat) (w1:World),Below w.heap.size w w1→Rp.edit.R w1 cs l[i] fq→Calls Tryz.prog g (#[.agg cs.toArray]++lb) w1 fun e w2=>e= .returned (.bool (p l[i]))∧Below w1.heap.size w1 w2):
  Calls Tryz.prog 88 #[.slice A n c,.func (.func g) #[] lb] w fun e w'=>e= .returned (.bool (l.any p))∧Below w.heap.size w w':=by
 have HP:=Ja hp;clear hp;go_enter Tryz.func88,Tryz.ntmps88;go_wp2_with fail;refine(jky p g lb eg _ hx HP.out).mono ?_;rintro e w1 ⟨rfl,hb1⟩;go_wp2;go_ret;exact⟨Jc (jdq p l),hb1⟩
theorem jkx {A:Option Addr} {n c:Nat} {l:List (File)} {fp:List Nat} (p:File→Bool) (g:Nat) (lb:Array Value) (eg: ∀args w,(callFunc g args).run Tryz.prog w= .ok (.enter g args) w) (w:World) (hx:SlR Rp.file w A n c l fp)
  (hp: ∀(i:Nat) (hi:i<l.length) (cs:List Value) (fq:List Nat) (w1:World),Below w.heap.size w w1→Rp.file.R w1 cs l[i] fq→Calls Tryz.prog g (#[.agg cs.toArray]++lb) w1 fun e w2=>e= .returned (.bool (p l[i]))∧Below w1.heap.size w1 w2):
  Calls Tryz.prog 110 #[.slice A n c,.func (.func g) #[] lb] w fun e w'=>e= .returned (.int .i64 (jd4 p l))∧Below w.heap.size w w':=by
 obtain⟨rfl,hcx,hmx,_⟩:=id hx;unfold maxLen at hmx;have HP:=Ja hp;clear hp;go_enter Tryz.func110,Tryz.ntmps110;go_wp2
 go_loopw [8] (fun i wr=>∃k:Nat,k≤l.length∧i= .int .i64 k∧noneTo p l k∧Below w.heap.size w wr) (fun i _=>l.length - (intOf i).toNat)
 case atStart=>exact⟨0,Nat.zero_le _,rfl,Yh,Below.refl _ _⟩
 case round=>
  obtain⟨k,hk,rfl,hag,hbl⟩:=hrel;have HA:=Ja hag;clear hag;by_cases hlt:k<l.length
  ·obtain⟨b,o,rfl,hb,hm,h0,h1⟩:=Jx (hx.step hbl) hlt;go_wp2_with fail;refine(HP.out k hlt (Jj l[k]) _ wr hbl ⟨rfl,rfl⟩).mono ?_;rintro e w1 ⟨rfl,hb1⟩;have HB:=Ja (Below.t hbl hb1);clear hb1;cases hd:p l[k]
   ·have HN:=Ja (HA.out.next hlt hd);clear hd;go_wp2;exact⟨⟨k+1,by omega,by go_num,HN.out,HB.out⟩,by simp[intOf];omega⟩
   ·have HN:=Ja (HA.out.hit hlt hd);clear hd;go_wp2;go_ret;exact⟨Xl HN.out.symm,HB.out⟩
  ·have hk':k=l.length:=by omega
   subst hk';go_wp2;go_ret;exact⟨Xl HA.out.all_.symm,hbl⟩
theorem jne {A:Option Addr} {n c:Nat} {l:List (Ref)} {fp:List Nat} (p:Ref→Bool) (g:Nat) (lb:Array Value) (eg: ∀args w,(callFunc g args).run Tryz.prog w= .ok (.enter g args) w) (w:World) (hx:SlR Rp.ref w A n c l fp)
  (hp: ∀(i:Nat) (hi:i<l.length) (cs:List Value) (fq:List Nat) (w1:World),Below w.heap.size w w1→Rp.ref.R w1 cs l[i] fq→Calls Tryz.prog g (#[.agg cs.toArray]++lb) w1 fun e w2=>e= .returned (.bool (p l[i]))∧Below w1.heap.size w1 w2):
  Calls Tryz.prog 152 #[.slice A n c,.func (.func g) #[] lb] w fun e w'=>e= .returned (.int .i64 (jd4 p l))∧Below w.heap.size w w':=by
 obtain⟨rfl,hcx,hmx,_⟩:=id hx;unfold maxLen at hmx;have HP:=Ja hp;clear hp;go_enter Tryz.func152,Tryz.ntmps152;go_wp2
 go_loopw [8] (fun i wr=>∃k:Nat,k≤l.length∧i= .int .i64 k∧noneTo p l k∧Below w.heap.size w wr) (fun i _=>l.length - (intOf i).toNat)
 case atStart=>exact⟨0,Nat.zero_le _,rfl,Yh,Below.refl _ _⟩
 case round=>
  obtain⟨k,hk,rfl,hag,hbl⟩:=hrel;have HA:=Ja hag;clear hag;by_cases hlt:k<l.length
  ·obtain⟨b,o,A0,n0,c0,f0,rfl,hb,hm,h0,h1,h2,h3,hs0,hsub⟩:=J3 (hx.step hbl) hlt;go_wp2_with fail;refine(HP.out k hlt ([.string l[k].name,.bool l[k].guard,.int .i64 l[k].count,.slice A0 n0 c0]) _ wr hbl ⟨A0,n0,c0,f0,rfl,rfl,hs0⟩).mono ?_;rintro e w1 ⟨rfl,hb1⟩;have HB:=Ja (Below.t hbl hb1);clear hb1;cases hd:p l[k]
   ·have HN:=Ja (HA.out.next hlt hd);clear hd;go_wp2;exact⟨⟨k+1,by omega,by go_num,HN.out,HB.out⟩,by simp[intOf];omega⟩
   ·have HN:=Ja (HA.out.hit hlt hd);clear hd;go_wp2;go_ret;exact⟨Xl HN.out.symm,HB.out⟩
  ·have hk':k=l.length:=by omega
   subst hk';go_wp2;go_ret;exact⟨Xl HA.out.all_.symm,hbl⟩
theorem jjg {A:Option Addr} {n c:Nat} {l:List (List (File))} {fp:List Nat} (p:List (File)→Bool) (g:Nat) (lb:Array Value) (eg: ∀args w,(callFunc g args).run Tryz.prog w= .ok (.enter g args) w) (w:World) (hx:SlR (Rp.slice Rp.file) w A n c l fp)
  (hp: ∀(i:Nat) (hi:i<l.length) (v:Value) (fq:List Nat) (w1:World),Below w.heap.size w w1→(Rp.slice Rp.file).R w1 [v] l[i] fq→Calls Tryz.prog g (#[v]++lb) w1 fun e w2=>e= .returned (.bool (p l[i]))∧Below w1.heap.size w1 w2):
  Calls Tryz.prog 119 #[.slice A n c,.func (.func g) #[] lb] w fun e w'=>e= .returned (.int .i64 (jd4 p l))∧Below w.heap.size w w':=by
 obtain⟨rfl,hcx,hmx,_⟩:=id hx;unfold maxLen at hmx;have HP:=Ja hp;clear hp;go_enter Tryz.func119,Tryz.ntmps119;go_wp2
 go_loopw [8] (fun i wr=>∃k:Nat,k≤l.length∧i= .int .i64 k∧noneTo p l k∧Below w.heap.size w wr) (fun i _=>l.length - (intOf i).toNat)
 case atStart=>exact⟨0,Nat.zero_le _,rfl,Yh,Below.refl _ _⟩
 case round=>
  obtain⟨k,hk,rfl,hag,hbl⟩:=hrel;have HA:=Ja hag;clear hag;by_cases hlt:k<l.length
  ·obtain⟨b,o,A0,n0,c0,f0,rfl,hb,hm,h0,hs0,hsub⟩:=Vv (hx.step hbl) hlt;go_wp2_with fail;refine(HP.out k hlt (.slice A0 n0 c0) _ wr hbl ⟨A0,n0,c0,rfl,hs0⟩).mono ?_;rintro e w1 ⟨rfl,hb1⟩;have HB:=Ja (Below.t hbl hb1);clear hb1;cases hd:p l[k]
   ·have HN:=Ja (HA.out.next hlt hd);clear hd;go_wp2;exact⟨⟨k+1,by omega,by go_num,HN.out,HB.out⟩,by simp[intOf];omega⟩
   ·have HN:=Ja (HA.out.hit hlt hd);clear hd;go_wp2;go_ret;exact⟨Xl HN.out.symm,HB.out⟩
  ·have hk':k=l.length:=by omega
   subst hk';go_wp2;go_ret;exact⟨Xl HA.out.all_.symm,hbl⟩
theorem jjh {A:Option Addr} {n c:Nat} {l:List (List (File))} {fp:List Nat} (p:List (File)→Bool) (g:Nat) (lb:Array Value) (eg: ∀args w,(callFunc g args).run Tryz.prog w= .ok (.enter g args) w) (w:World) (hx:SlR (Rp.slice Rp.file) w A n c l fp)
  (hp: ∀(i:Nat) (hi:i<l.length) (v:Value) (fq:List Nat) (w1:World),Below w.heap.size w w1→(Rp.slice Rp.file).R w1 [v] l[i] fq→Calls Tryz.prog g (#[v]++lb) w1 fun e w2=>e= .returned (.bool (p l[i]))∧Below w1.heap.size w1 w2):
  Calls Tryz.prog 64 #[.slice A n c,.func (.func g) #[] lb] w fun e w'=>e= .returned (.bool (l.any p))∧Below w.heap.size w w':=by
 have HP:=Ja hp;clear hp;go_enter Tryz.func64,Tryz.ntmps64;go_wp2_with fail;refine(jjg p g lb eg _ hx HP.out).mono ?_;rintro e w1 ⟨rfl,hb1⟩;go_wp2;go_ret;exact⟨Jc (jdq p l),hb1⟩
theorem jnf {A:Option Addr} {n c:Nat} {l:List (Int)} {fp:List Nat} (p:Int→Bool) (g:Nat) (lb:Array Value) (eg: ∀args w,(callFunc g args).run Tryz.prog w= .ok (.enter g args) w) (w:World) (hx:SlR Rp.int w A n c l fp)
  (hp: ∀(i:Nat) (hi:i<l.length) (v:Value) (fq:List Nat) (w1:World),Below w.heap.size w w1→Rp.int.R w1 [v] l[i] fq→Calls Tryz.prog g (#[v]++lb) w1 fun e w2=>e= .returned (.bool (p l[i]))∧Below w1.heap.size w1 w2):
  Calls Tryz.prog 150 #[.slice A n c,.func (.func g) #[] lb] w fun e w'=>e= .returned (.int .i64 (jd4 p l))∧Below w.heap.size w w':=by
 obtain⟨rfl,hcx,hmx,_⟩:=id hx;unfold maxLen at hmx;have HP:=Ja hp;clear hp;go_enter Tryz.func150,Tryz.ntmps150;go_wp2
 go_loopw [8] (fun i wr=>∃k:Nat,k≤l.length∧i= .int .i64 k∧noneTo p l k∧Below w.heap.size w wr) (fun i _=>l.length - (intOf i).toNat)
 case atStart=>exact⟨0,Nat.zero_le _,rfl,Yh,Below.refl _ _⟩
 case round=>
  obtain⟨k,hk,rfl,hag,hbl⟩:=hrel;have HA:=Ja hag;clear hag;by_cases hlt:k<l.length
  ·obtain⟨b,o,rfl,hb,hm,h0⟩:=Xg (hx.step hbl) hlt;go_wp2_with fail;refine(HP.out k hlt (.int .i64 l[k]) _ wr hbl ⟨rfl,rfl⟩).mono ?_;rintro e w1 ⟨rfl,hb1⟩;have HB:=Ja (Below.t hbl hb1);clear hb1;cases hd:p l[k]
   ·have HN:=Ja (HA.out.next hlt hd);clear hd;go_wp2;exact⟨⟨k+1,by omega,by go_num,HN.out,HB.out⟩,by simp[intOf];omega⟩
   ·have HN:=Ja (HA.out.hit hlt hd);clear hd;go_wp2;go_ret;exact⟨Xl HN.out.symm,HB.out⟩
  ·have hk':k=l.length:=by omega
   subst hk';go_wp2;go_ret;exact⟨Xl HA.out.all_.symm,hbl⟩
theorem jg1 {A:Option Addr} {n c:Nat} {l:List (Int)} {fp:List Nat} (p:Int→Bool) (g:Nat) (lb:Array Value) (eg: ∀args w,(callFunc g args).run Tryz.prog w= .ok (.enter g args) w) (w:World) (hx:SlR Rp.int w A n c l fp)
  (hp: ∀(i:Nat) (hi:i<l.length) (v:Value) (fq:List Nat) (w1:World),Below w.heap.size w w1→Rp.int.R w1 [v] l[i] fq→Calls Tryz.prog g (#[v]++lb) w1 fun e w2=>e= .returned (.bool (p l[i]))∧Below w1.heap.size w1 w2):
  Calls Tryz.prog 116 #[.slice A n c,.func (.func g) #[] lb] w fun e w'=>e= .returned (.bool (l.any p))∧Below w.heap.size w w':=by
 have HP:=Ja hp;clear hp;go_enter Tryz.func116,Tryz.ntmps116;go_wp2_with fail;refine(jnf p g lb eg _ hx HP.out).mono ?_;rintro e w1 ⟨rfl,hb1⟩;go_wp2;go_ret;exact⟨Jc (jdq p l),hb1⟩
def refFits (s:ByteArray):Bool:=decide (s=ByteArray.empty)||Y5 s
def jac (r:Yt):Bool:=inB r.user 0 4&&refFits r.ref&&Xm r.path
def Vn (r:Yt):Prop:=r.ref.size≤4194304∧r.path.size≤4194304
theorem jc2 (s:ByteArray) (hs:s.size≤4194304) (w:World):
  Calls Tryz.prog 86 #[.string s] w fun e w'=>e= .returned (.bool (refFits s))∧Below w.heap.size w w':=by
 go_enter Tryz.func86,Tryz.ntmps86;cases hd:s.toList.isEmpty
 ·go_wp2_with fail;refine(Zj s hs _).mono ?_;rintro e w1 ⟨rfl,hb1⟩;go_wp2;go_ret;exact⟨Jc (by rw[Ju] at hd;simp[refFits,hd]),hb1⟩
 ·go_wp2;go_ret;exact⟨Jc (by rw[Ju] at hd;simp[refFits,hd]),Below.refl _ _⟩
theorem jaj (r:Yt) (hr:Vn r) (w:World):
  Calls Tryz.prog 87 #[.agg (Jh r).toArray] w fun e w'=>e= .returned (.bool (jac r))∧Below w.heap.size w w':=by
 obtain⟨user,ref,path,wr⟩:=r;obtain⟨hr1,hr2⟩:=hr;unfold Jh;go_enter Tryz.func87,Tryz.ntmps87;go_wp2_with fail;refine(Y2 _ _ _ _).mono ?_;rintro e w1 ⟨rfl,hb1⟩;have k1:=(Blk.new w _ _).step hb1;have HB1:=Below.box1 hb1;clear hb1;cases h1:inB user 0 4
 ·go_wp2;go_ret;exact⟨Jc (by simp[jac,h1]),HB1⟩
 ·have HA:=Ja h1;clear h1;have c1:=k1.cell 1;have c2:=k1.cell 2;go_wp2_with fail;refine(jc2 ref hr1 _).mono ?_;rintro e w2 ⟨rfl,hb2⟩;have k2:=k1.step hb2;have HB2:=Below.t HB1 hb2;clear hb2 c1 c2;cases h1:refFits ref
  ·go_wp2;go_ret;exact⟨Jc (by simp[jac,h1]),HB2⟩
  ·have HC:=Ja h1;clear h1;have c2:=k2.cell 2;go_wp2_with fail;refine(X8 path hr2 _).mono ?_;rintro e w3 ⟨rfl,hb3⟩;go_wp2;go_ret;exact⟨Jc (by simp[jac,HA.out,HC.out]),Below.t HB2 hb3⟩
theorem jag (r:Yt) (hr:Vn r) (w:World):
  Calls Tryz.prog 52 #[.agg (Jh r).toArray] w fun e w'=>e= .returned (.bool (jac r))∧Below w.heap.size w w':=by
 obtain⟨user,ref,path,wr⟩:=r;obtain⟨hr1,hr2⟩:=hr;unfold Jh;go_enter Tryz.func52,Tryz.ntmps52;go_wp2_with fail;refine(Jw _ _ _ _).mono ?_;rintro e w1 ⟨rfl,hb1⟩;have k1:=(Blk.new w _ _).step hb1;have HB1:=Below.box1 hb1;clear hb1;cases h1:inB user 0 4
 ·go_wp2;go_ret;exact⟨Jc (by simp[jac,h1]),HB1⟩
 ·have HA:=Ja h1;clear h1;have c1:=k1.cell 1;have c2:=k1.cell 2;cases hd:ref.toList.isEmpty
  ·go_wp2_with fail;refine(Vq ref hr1 _).mono ?_;rintro e w2 ⟨rfl,hb2⟩;have k2:=k1.step hb2;have HB2:=Below.t HB1 hb2;rw[Ju] at hd;have HD:=Ja hd;clear hb2 c1 c2 hd;cases h1:Y5 ref
   ·go_wp2;go_ret;exact⟨Jc (by simp[jac,refFits,h1,HD.out]),HB2⟩
   ·have HC:=Ja h1;clear h1;have c2:=k2.cell 2;go_wp2_with fail;refine(Y6 path hr2 _).mono ?_;rintro e w3 ⟨rfl,hb3⟩;go_wp2;go_ret;exact⟨Jc (by simp[jac,refFits,HA.out,HC.out]),Below.t HB2 hb3⟩
  ·go_wp2_with fail;refine(Y6 path hr2 _).mono ?_;rintro e w3 ⟨rfl,hb3⟩;rw[Ju] at hd;have HD:=Ja hd;clear hd;go_wp2;go_ret;exact⟨Jc (by simp[jac,refFits,HA.out,HD.out]),Below.t HB1 hb3⟩
def jk1 (r:Yt) (user:Int) (ref:ByteArray):Bool:=jac r&&(r.user==0||r.user==user)&&(decide (r.ref=ByteArray.empty)||decide (r.ref=ref))
theorem jgd (r:Yt) (hr:Vn r) (user:Int) (ref:ByteArray) (w:World):
  Calls Tryz.prog 60 #[.agg (Jh r).toArray,.int .i64 user,.string ref] w fun e w'=>e= .returned (.bool (jk1 r user ref))∧Below w.heap.size w w':=by
 obtain⟨u,rf,path,wr⟩:=r;have HE:=Ja hr;clear hr;unfold Jh;go_enter Tryz.func60,Tryz.ntmps60;go_wp2_with fail;refine(jaj ⟨u,rf,path,wr⟩ HE.out _).mono ?_;rintro e w1 ⟨rfl,hb1⟩;have k1:=(Blk.new w _ _).step hb1;have HB1:=Below.box1 hb1;have c0:=k1.cell 0;have c1:=k1.cell 1;clear hb1 k1;cases h1:jac ⟨u,rf,path,wr⟩
 ·go_wp2;go_ret;exact⟨Jc (by simp[jk1,h1]),HB1⟩
 ·have HA:=Ja h1;clear h1;cases h2:(u==0)<;>cases h3:(u==user)<;>cases h4:rf.toList.isEmpty
  all_goals
   go_wp2
   all_goals
    go_ret;exact⟨Jc (by rw[Ju] at h4;simp[jk1,h2,h3,h4,HA.out,Jr]),HB1⟩
theorem ji5 (r:Yt) (hr:Vn r) (user:Int) (ref:ByteArray) (w:World):
  Calls Tryz.prog 123 #[.agg (Jh r).toArray,.int .i64 user,.string ref] w fun e w'=>e= .returned (.bool (jk1 r user ref))∧Below w.heap.size w w':=by
 obtain⟨u,rf,path,wr⟩:=r;have HE:=Ja hr;clear hr;unfold Jh;go_enter Tryz.func123,Tryz.ntmps123;go_wp2_with fail;refine(jag ⟨u,rf,path,wr⟩ HE.out _).mono ?_;rintro e w1 ⟨rfl,hb1⟩;have k1:=(Blk.new w _ _).step hb1;have HB1:=Below.box1 hb1;have c0:=k1.cell 0;have c1:=k1.cell 1;clear hb1 k1;cases h1:jac ⟨u,rf,path,wr⟩
 ·go_wp2;go_ret;exact⟨Jc (by simp[jk1,h1]),HB1⟩
 ·have HA:=Ja h1;clear h1;cases h2:(u==0)<;>cases h3:(u==user)<;>cases h4:rf.toList.isEmpty
  all_goals
   go_wp2
   all_goals
    go_ret;exact⟨Jc (by rw[Ju] at h4;simp[jk1,h2,h3,h4,HA.out,Jr]),HB1⟩
def editOk (e:Wz):Bool:=Xm e.path&& !decide (e.path=ByteArray.empty)&&decide (e.bytes.size≤6)&&(!e.gone||decide (e.bytes=ByteArray.empty))
def jed (e:Wz):Prop:=e.path.size≤4194304
theorem jb0 (n:Int) (w:World):
  Calls Tryz.prog 85 #[.int .i64 n] w fun e w'=>e= .returned (.bool (inB n 0 99))∧Below w.heap.size w w':=by
 go_enter Tryz.func85,Tryz.ntmps85;go_wp2_with fail;refine(Y2 _ _ _ _).mono ?_;rintro e w1 ⟨rfl,hb1⟩;go_wp2;go_ret;exact⟨rfl,hb1⟩
theorem jni (x:Wz) (hf:jed x) (w:World):
  Calls Tryz.prog 90 #[.agg (Jp x).toArray] w fun e w'=>e= .returned (.bool (editOk x))∧Below w.heap.size w w':=by
 obtain⟨path,bytes,gone⟩:=x;have HF:=Ja hf;clear hf;rw[show(Jp ⟨path,bytes,gone⟩).toArray= #[.string path,.string bytes,.bool gone] from rfl];go_enter Tryz.func90,Tryz.ntmps90;go_wp2_with fail;refine(X8 path HF.out _).mono ?_;rintro e w1 ⟨rfl,hb1⟩;have k1:=(Blk.new w _ _).step hb1;have c0:=Blk.c0 k1;have c1:=Blk.c1 k1;have c2:=Blk.c2 k1;have HB1:=Below.box1 hb1;clear hb1 k1
 cases h1:Xm path
 ·go_wp2;go_ret;exact⟨Jc (by simp[editOk,h1]),HB1⟩
 ·have H1:=Ja h1;clear h1;cases h2:path.toList.isEmpty<;>cases h3:bytes.toList.isEmpty<;>cases gone
  all_goals
   go_wp2
   all_goals
    go_ret;refine⟨Jc ?_,HB1⟩;rw[Ju] at h2 h3;have e1:=H1.out;clear H1 HF
    simp_all [editOk]
    try omega
def Yw (x:Req):Bool:=inB x.user 0 99&&inB x.repo 0 99&&inB x.old 0 99&&inB x.back 0 99&&inB x.frm 0 99&&inB x.key 0 9999&&inB x.kind 1 11&&refFits x.ref&&refFits x.other&&Xm x.path&&jac x.rule&&decide (x.Ez.length≤4)&& !(x.Ez.any fun e=> !editOk e)
structure jdu (x:Req):Prop where
 ref:x.ref.size≤4194304
 other:x.other.size≤4194304
 path:x.path.size≤4194304
 rule:Vn x.rule
 Ez: ∀i (h:i<x.Ez.length),jed x.Ez[i]
theorem jmo (x:Wz) (hf:jed x) (w:World):
  Calls Tryz.prog 89 #[.agg (Jp x).toArray] w fun e w'=>e= .returned (.bool (!editOk x))∧Below w.heap.size w w':=by
 have HF:=Ja hf;clear hf;rw[show(Jp x).toArray= #[.string x.path,.string x.bytes,.bool x.gone] from rfl];go_enter Tryz.func89,Tryz.ntmps89;go_wp2_with fail;refine(jni x HF.out _).mono ?_;rintro e w1 ⟨rfl,hb1⟩;go_wp2;go_ret;exact⟨rfl,Below.box1 hb1⟩
theorem jhx {cs:List Value} {x:Req} {fx:List Nat} (w:World) (hx:Rp.req.R w cs x fx) (hf:jdu x):
  Calls Tryz.prog 34 #[.agg cs.toArray] w fun e w'=>e= .returned (.bool (Yw x))∧Below w.heap.size w w':=by
 obtain⟨A0,n0,c0,f0,rfl,_,h0⟩:=hx;have hn:=h0.1;subst hn;have hmx:=h0.max;have HF:=Ja hf;clear hf;go_enter Tryz.func34,Tryz.ntmps34;have k0:=Blk.new w 31 (RA x (.slice A0 x.Ez.length c0));have s0:=h0.allocN (.cells (RA x (.slice A0 x.Ez.length c0)) 31);have HB0:=(Below.refl w.heap.size w).alloc nle (.cells (RA x (.slice A0 x.Ez.length c0)) 31);clear h0;go_wp2_with fail
 refine(jb0 _ _).mono ?_;rintro e w1 ⟨rfl,hb1⟩;have k1:=k0.step hb1;have s1:=s0.step hb1;have HB1:=HB0.trans (hb1.mono HB0.size);clear hb1 k0 s0 HB0;cases hd:inB x.user 0 99
 ·go_wp2;go_ret;exact⟨Jc (by simp[Yw,hd]),HB1⟩
 have H1:=Ja hd;clear hd;have c2:=Blk.c2 k1;go_wp2_with fail;refine(jb0 _ _).mono ?_;rintro e w2 ⟨rfl,hb2⟩;have k2:=k1.step hb2;have s2:=s1.step hb2;have HB2:=Below.t HB1 hb2;clear hb2 k1 s1 HB1 c2;cases hd:inB x.repo 0 99
 ·go_wp2;go_ret;exact⟨Jc (by simp[Yw,hd]),HB2⟩
 have H2:=Ja hd;clear hd;have c6:=Blk.c6 k2;go_wp2_with fail;refine(jb0 _ _).mono ?_;rintro e w3 ⟨rfl,hb3⟩;have k3:=k2.step hb3;have s3:=s2.step hb3;have HB3:=Below.t HB2 hb3;clear hb3 k2 s2 HB2 c6;cases hd:inB x.old 0 99
 ·go_wp2;go_ret;exact⟨Jc (by simp[Yw,hd]),HB3⟩
 have H3:=Ja hd;clear hd;have c7:=Blk.c7 k3;go_wp2_with fail;refine(jb0 _ _).mono ?_;rintro e w4 ⟨rfl,hb4⟩;have k4:=k3.step hb4;have s4:=s3.step hb4;have HB4:=Below.t HB3 hb4;clear hb4 k3 s3 HB3 c7;cases hd:inB x.back 0 99
 ·go_wp2;go_ret;exact⟨Jc (by simp[Yw,hd]),HB4⟩
 have H4:=Ja hd;clear hd;have c13:=Blk.c13 k4;go_wp2_with fail;refine(jb0 _ _).mono ?_;rintro e w5 ⟨rfl,hb5⟩;have k5:=k4.step hb5;have s5:=s4.step hb5;have HB5:=Below.t HB4 hb5;clear hb5 k4 s4 HB4 c13;cases hd:inB x.frm 0 99
 ·go_wp2;go_ret;exact⟨Jc (by simp[Yw,hd]),HB5⟩
 have H5:=Ja hd;clear hd;have c1:=Blk.c1 k5;go_wp2_with fail;refine(Y2 _ _ _ _).mono ?_;rintro e w6 ⟨rfl,hb6⟩;have k6:=k5.step hb6;have s6:=s5.step hb6;have HB6:=Below.t HB5 hb6;clear hb6 k5 s5 HB5 c1;cases hd:inB x.key 0 9999
 ·go_wp2;go_ret;exact⟨Jc (by simp[Yw,hd]),HB6⟩
 have H6:=Ja hd;clear hd;have c3:=Blk.c3 k6;go_wp2_with fail;refine(Y2 _ _ _ _).mono ?_;rintro e w7 ⟨rfl,hb7⟩;have k7:=k6.step hb7;have s7:=s6.step hb7;have HB7:=Below.t HB6 hb7;clear hb7 k6 s6 HB6 c3;cases hd:inB x.kind 1 11
 ·go_wp2;go_ret;exact⟨Jc (by simp[Yw,hd]),HB7⟩
 have H7:=Ja hd;clear hd;have c4:=Blk.c4 k7;go_wp2_with fail;refine(jc2 _ HF.out.ref _).mono ?_;rintro e w8 ⟨rfl,hb8⟩;have k8:=k7.step hb8;have s8:=s7.step hb8;have HB8:=Below.t HB7 hb8;clear hb8 k7 s7 HB7 c4;cases hd:refFits x.ref
 ·go_wp2;go_ret;exact⟨Jc (by simp[Yw,hd]),HB8⟩
 have H8:=Ja hd;clear hd;have c14:=Blk.c14 k8;go_wp2_with fail;refine(jc2 _ HF.out.other _).mono ?_;rintro e w9 ⟨rfl,hb9⟩;have k9:=k8.step hb9;have s9:=s8.step hb9;have HB9:=Below.t HB8 hb9;clear hb9 k8 s8 HB8 c14;cases hd:refFits x.other
 ·go_wp2;go_ret;exact⟨Jc (by simp[Yw,hd]),HB9⟩
 have H9:=Ja hd;clear hd;have c5:=Blk.c5 k9;go_wp2_with fail;refine(X8 _ HF.out.path _).mono ?_;rintro e w10 ⟨rfl,hb10⟩;have k10:=k9.step hb10;have s10:=s9.step hb10;have HB10:=Below.t HB9 hb10;clear hb10 k9 s9 HB9 c5;cases hd:Xm x.path
 ·go_wp2;go_ret;exact⟨Jc (by simp[Yw,hd]),HB10⟩
 have H10:=Ja hd;clear hd;have c9:=Blk.c9 k10;have c10:=Blk.c10 k10;have c11:=Blk.c11 k10;have c12:=Blk.c12 k10;go_wp2_with fail;refine(jaj x.rule HF.out.rule _).mono ?_;rintro e w11 ⟨rfl,hb11⟩;have k11:=k10.step hb11;have s11:=s10.step hb11;have HB11:=Below.t HB10 hb11;clear hb11 k10 s10 HB10 c9 c10 c11 c12;cases hd:jac x.rule
 ·go_wp2;go_ret;exact⟨Jc (by simp[Yw,hd]),HB11⟩
 have H11:=Ja hd;clear hd;have c8:=Blk.c8 k11;by_cases h4:x.Ez.length≤4
 ·go_wp2_with fail;refine(jf2 (l:=x.Ez) (fun e=> !editOk e) _ _ (enters_of Tryz.func89 (by kernel_rfl) rfl) _ s11 (fun i hi cs fq w1 hB hR=> ?_)).mono ?_
  ·obtain⟨rfl,rfl⟩:=hR;exact jmo _ (HF.out.Ez i hi) w1
  ·rintro e wz ⟨rfl,hbz⟩;go_wp2;go_ret;exact⟨Jc (by simp[Yw,H1.out,H2.out,H3.out,H4.out,H5.out,H6.out,H7.out,H8.out,H9.out,H10.out,H11.out,h4]),Below.t HB11 hbz⟩
 ·go_wp2;go_ret;exact⟨Jc (by simp[Yw,h4]),HB11⟩
def Vs (r:Req):Bool:=r.kind==1||r.kind==9||r.kind==10
theorem Zp {cs:List Value} {x:Req} {fx:List Nat} (w:World) (hx:Rp.req.R w cs x fx):
  Calls Tryz.prog 42 #[.agg cs.toArray] w fun e w'=>e= .returned (.bool (Vs x))∧Below w.heap.size w w':=by
 obtain⟨A0,n0,c0,f0,rfl,_,h0⟩:=hx;go_enter Tryz.func42,Tryz.ntmps42;go_wp2
 all_goals(go_ret;exact⟨Jc (by simp_all [Vs]),(Below.refl _ _).alloc nle _⟩)
theorem jec {cs:List Value} {x:Req} {fx:List Nat} (w:World) (hx:Rp.req.R w cs x fx):
  Calls Tryz.prog 16 #[.agg cs.toArray] w fun e w'=>e= .returned (.bool (Vs x))∧Below w.heap.size w w':=by
 obtain⟨A0,n0,c0,f0,rfl,_,h0⟩:=hx;go_enter Tryz.func16,Tryz.ntmps16;go_wp2
 all_goals(go_ret;exact⟨Jc (by simp_all [Vs]),(Below.refl _ _).alloc nle _⟩)
theorem jkt {A:Option Addr} {n c:Nat} {l:List Wz} {fp:List Nat} (w:World) (hx:SlR Rp.edit w A n c l fp) (hf: ∀i (h:i<l.length),jed l[i]):
  Calls Tryz.prog 51 #[.slice A n c] w fun e w'=>e= .returned (.bool (decide (l.length≤4)&& !(l.any fun e=> !editOk e)))∧Below w.heap.size w w':=by
 obtain⟨rfl,hcx,hmx,_⟩:=id hx;unfold maxLen at hmx;have HF:=Ja hf;clear hf;go_enter Tryz.func51,Tryz.ntmps51;by_cases h4:l.length≤4
 ·go_wp2
  go_loopw [3] (fun i wr=>∃k:Nat,k≤l.length∧i= .int .i64 k∧noneTo (fun e=> !editOk e) l k∧Below w.heap.size w wr) (fun i _=>l.length - (intOf i).toNat)
  case atStart=>exact⟨0,Nat.zero_le _,rfl,Yh,Below.refl _ _⟩
  case round=>
   obtain⟨k,hk,rfl,hag,hbl⟩:=hrel;have HA:=Ja hag;clear hag;by_cases hlt:k<l.length
   ·obtain⟨b,o,rfl,hb,hm,h0,h1,h2⟩:=Zv (hx.step hbl) hlt;have HG:=Ja (HF.out k hlt);have HX:=Ja (fun(h:editOk l[k]=false)=>jda (p:=fun e=> !editOk e) hlt (by simp[h]));have HY:=Ja (fun(h:editOk l[k]=true)=>HA.out.next (p:=fun e=> !editOk e) hlt (by simp[h]));generalize l[k]=x at h0 h1 h2 HG HX HY;obtain⟨path,bytes,gone⟩:=x;cases hp:path.toList.isEmpty
    ·go_wp2_with fail;refine(Y6 path HG.out _).mono ?_;rintro e w1 ⟨rfl,hb1⟩;have q1:=Je h1 hb1;have q2:=Je h2 hb1;have HB:=Ja (Below.t hbl hb1);clear hb1 h0 h1 h2;rw[Ju] at hp;have HP:=Ja hp;clear hp;cases hd:Xm path
     ·go_wp2;go_ret;exact⟨Jc (by rw[HX.out (by simp[editOk,hd])];simp),HB.out⟩
     ·have HD:=Ja hd;clear hd;cases h3:bytes.toList.isEmpty<;>cases gone
      all_goals
       go_wp2
       all_goals
        rw[Ju] at h3
        first
        |(go_ret;exact⟨Jc (by rw[HX.out (by simp_all [editOk,HD.out,HP.out];try omega)];simp),HB.out⟩)
        |exact⟨⟨k+1,by omega,by go_num,HY.out (by simp_all [editOk,HD.out,HP.out];try omega),HB.out⟩,by simp[intOf];omega⟩
    ·go_wp2;go_ret;exact⟨Jc (by rw[Ju] at hp;rw[HX.out (by simp[editOk,hp])];simp),hbl⟩
   ·have hk':k=l.length:=by omega
    subst hk';go_wp2;go_ret;exact⟨Jc (by rw[HA.out.any_];simp;omega),hbl⟩
 ·go_wp2;go_ret;exact⟨Jc (by rw[decide_eq_false h4];rfl),Below.refl _ _⟩
end Go.Proofs.YtobbdhgkcoeifaaGreatDoor
