/- Lemmas and walks, joined and shortened by program (wip/gen/merge2.py). -/
import Derived.Deep.CutRange
import Derived.Outline
import Derived.Test.YtlkoaobaoffpaaaGreatDoorZ5
import Derived.Test.YtlkoaobaoffpaaaGreatDoorZ9
import Derived.Test.YtlkoaobaoffpaaaGreatDoorZ3
namespace Go.Proofs.YtlkoaobaoffpaaaGreatDoor
open Go.RowKit
attribute [local go_sem ↓] Go.wp_at_zero Go.wp_at_succ
set_option maxHeartbeats 8000000
set_option maxRecDepth 100000
set_option linter.unusedSimpArgs false
set_option linter.unusedVariables false
theorem jeb:(Tryz.prog.info? 38).map (fun i=>(i.zero,i.size,i.bytes))=some (some (.agg #[.int .i64 0,.slice none 0 0,.slice none 0 0]),3,56):=by kernel_rfl
theorem Zh {B g i j k:Nat} {u v y:Value} {a w:World} (h:Below B a w) (hg:B≤g):Below B a (((w.setCell ⟨g,i,none⟩ u).setCell ⟨g,j,none⟩ v).setCell ⟨g,k,none⟩ y):=((h.setCell hg u).setCell hg v).setCell hg y
theorem jhw (x:Int): ∀u∈ [Value.int .i64 x],u.oneCell'=true:=by intro u hu;simp at hu;subst hu;rfl
structure SmallHouse (x:Jl):Prop where
 keys:x.keys.length≤4194304
 used:x.used.length≤4194304
 Rz:x.Rz.length≤4194304
 Uz: ∀p∈x.Rz,p.Uz.length≤4194304
 Fz: ∀p∈x.Rz,p.Fz.length≤4194304
 vers: ∀p∈x.Rz,∀r∈p.Fz,r.Vz.length≤4194304
 files: ∀p∈x.Rz,∀r∈p.Fz,∀l∈r.Vz,l.length≤4194304
def Half (x:Jl) (H:Nat) (w0:World) (p:Value) (wx:World):Prop:=
 ∃b AK cK fK AU cU fU,p= .pointer (some ⟨b,0,none⟩)∧Blk wx b 26 #[.slice AK x.keys.length cK,.slice AU x.used.length cU,.slice none 0 0]∧
  SlR Rp.int wx AK x.keys.length cK x.keys fK∧SlR Rp.int wx AU x.used.length cU x.used fU∧fK.Nodup∧fU.Nodup∧(∀z∈fK,H≤z∧z≠b∧z∉fU)∧(∀z∈fU,H≤z∧z≠b)∧H≤b∧Free wx fK∧Free wx fU∧Below H w0 wx
theorem jk0 {x:Jl} {w0 w1 w1' w2 W:World} {b:Nat} {AK:Option Addr} {cK:Nat} {fK:List Nat} {AU:Option Addr} {cU:Nat} {fU:List Nat} (hK:SlR Rp.int w1 AK x.keys.length cK x.keys fK) (nK:fK.Nodup) (lK: ∀z∈fK,w1'.heap.size≤z) (frK:Free w1 fK)
  {w2':World} (hU:SlR Rp.int w2 AU x.used.length cU x.used fU) (nU:fU.Nodup) (lU: ∀z∈fU,w2'.heap.size≤z) (frU:Free w2 fU) (h1:Below w0.heap.size w0 w1') (hb1:Below w1'.heap.size w1' w1) (h2:Below w1.heap.size w1 w2') (hb2:Below w2'.heap.size w2' w2)
  (hbl:w0.heap.size≤b) (hord:b=w2.heap.size∨(w1.heap.size≤b∧b<w2'.heap.size)∨b<w1'.heap.size) (hW:Below w0.heap.size w0 W)
  (kb:Blk W b 26 #[.slice AK x.keys.length cK,.slice AU x.used.length cU,.slice none 0 0]) (ho: ∀z,z≠b→z<w2.heap.size→W.heap[z]? =w2.heap[z]?):
  Half x w0.heap.size w0 (.pointer (some ⟨b,0,none⟩)) W:=by
 have ltK: ∀z∈fK,z<w1.heap.size:=hK.lt;have ltU: ∀z∈fU,z<w2.heap.size:=hU.lt;have s0:=h1.size;have s1:=hb1.size;have s2:=h2.size;have s3:=hb2.size;have e1: ∀z∈fK,z≠b:=fun z hz e=>by have:=lK z hz;have:=ltK z hz;omega
 have e2: ∀z∈fU,z≠b:=fun z hz e=>by have:=lU z hz;have:=ltU z hz;omega
 have k1: ∀z∈fK,W.heap[z]? =w1.heap[z]? :=fun z hz=>(ho z (e1 z hz) (by have:=ltK z hz;omega)).trans (((hb2.block z (by have:=ltK z hz;omega)).trans (h2.block z (ltK z hz))));have k2: ∀z∈fU,W.heap[z]? =w2.heap[z]? :=fun z hz=>ho z (e2 z hz) (ltU z hz)
 refine⟨b,AK,cK,fK,AU,cU,fU,rfl,kb,hK.keep k1,hU.keep k2,nK,nU,fun z hz=>⟨?_,e1 z hz,fun hm=> ?_⟩,fun z hz=>⟨?_,e2 z hz⟩,hbl,frK.keep k1,frU.keep k2,hW⟩
 ·have:=lK z hz;omega
 ·have:=ltK z hz;have:=lU z hm;omega
 ·have:=lU z hz;omega
def jh7 (x:Jl) (wc:World) (b:Nat) (AK:Option Addr) (cK:Nat) (AU:Option Addr) (cU:Nat) (k:Nat) (wr:World):Prop:=
 ∃v,Blk wr b 26 #[.slice AK x.keys.length cK,.slice AU x.used.length cU,v]∧OwB Rp.repoO 38 wc.heap.size v (x.Rz.take k) wr∧Only [b] wc wr
def jh6 (x:Xq) (w0:World) (p:Value) (wx:World):Prop:=
 ∃b A c f,p= .pointer (some ⟨b,0,none⟩)∧Blk wx b 38 #[.int .i64 x.Az,.slice A x.Uz.length c,.slice none 0 0]∧
  SlR Rp.rule wx A x.Uz.length c x.Uz f∧f.Nodup∧(∀z∈f,w0.heap.size≤z∧z≠b)∧w0.heap.size≤b∧Free wx f∧Below w0.heap.size w0 wx
def jmc (x:Xq) (wc:World) (b:Nat) (A:Option Addr) (c:Nat) (k:Nat) (wr:World):Prop:=
 ∃v,Blk wr b 38 #[.int .i64 x.Az,.slice A x.Uz.length c,v]∧OwB Rp.refO 41 wc.heap.size v (x.Fz.take k) wr∧Only [b] wc wr
theorem Xy {w w':World} {b o:Nat} {v:Value} {f:List Nat} (h:w.cell? ⟨b,o,none⟩=some v) (ho:Only f w w') (hn:b∉f):w'.cell? ⟨b,o,none⟩=some v:=
 (World.cell?_of_block (ho.block b (World.block_lt_of_cell? w _ h) hn)).trans h
structure CRefAt (y:Ref) (w8:World) (b6 b8:Nat) (v2:Value) (B:Option Addr) (d:Nat) (g:List Nat):Prop where
 c62:w8.cell? ⟨b6,2,none⟩=some v2
 c0:w8.cell? ⟨b8,0,none⟩=some (.string y.name)
 c1:w8.cell? ⟨b8,1,none⟩=some (.bool y.guard)
 c2:w8.cell? ⟨b8,2,none⟩=some (.int .i64 y.count)
 c3:w8.cell? ⟨b8,3,none⟩=some (.slice B y.Vz.length d)
 sl:SlR (Rp.slice Rp.file) w8 B y.Vz.length d y.Vz g
 n6:b6∉Vm v2
 n8:b8∉Vm v2
 vl: ∀z∈Vm v2,z<w8.heap.size
 ng: ∀z∈g,z∉Vm v2
def jeo (y:Ref) (v:Value):Value:= .agg #[.string y.name,.bool y.guard,.int .i64 y.count,v]
def GotVers (y:Ref) (H:Nat) (v:Value) (w:World):Prop:=∃A c,v= .slice A y.Vz.length c∧OwB (Rp.slice Rp.file) 42 H v y.Vz w
def jp9 (y:Ref) (w8:World) (b6 b8:Nat) (v2:Value) (B:Option Addr) (d:Nat):Xr:=fun t v w=>match t with
 | 6=>v= .pointer (some ⟨b6,0,none⟩)
 | 8=>v= .pointer (some ⟨b8,0,none⟩)
 | 36=>v= .pointer (some ⟨b6,2,none⟩)
 | 37=>v=v2
 | 38=>v= .pointer (some ⟨b8,0,none⟩)
 | 39=>v= .string y.name
 | 40=>v= .pointer (some ⟨b8,1,none⟩)
 | 41=>v= .bool y.guard
 | 42=>v= .pointer (some ⟨b8,2,none⟩)
 | 43=>v= .int .i64 y.count
 | 44=>v= .pointer (some ⟨b8,3,none⟩)
 | 45=>v= .slice B y.Vz.length d
 | 46=>GotVers y w8.heap.size v w
 | 47=>∃u,v=jeo y u∧GotVers y w8.heap.size u w
 | 48=>∃u g,v= .slice (some ⟨g,0,none⟩) 1 1∧Blk w g 41 #[.string y.name,.bool y.guard,.int .i64 y.count,u]∧w8.heap.size≤g∧GotVers y w8.heap.size u w
 | 50=>v= .pointer (some ⟨b6,2,none⟩)
 |_=>True
theorem GotVers.only {y:Ref} {H:Nat} {v:Value} {w w':World} {f:List Nat} (h:GotVers y H v w) (ho:Only f w w') (hf: ∀z∈f,z<H):GotVers y H v w':=by
 obtain⟨A,c,e,h⟩:=h;exact⟨A,c,e,h.only ho hf⟩
theorem jle (y:Ref) (w8:World) (b6 b8:Nat) (v2:Value) (B:Option Addr) (d:Nat) (hv: ∀z∈Vm v2,z<w8.heap.size):Zx (Only (Vm v2)) (jp9 y w8 b6 b8 v2 B d):=fun t v w w' h ho=>by
 unfold jp9 at*;split at h<;>first|exact h|exact h.only ho hv|skip
 ·obtain⟨u,e,h⟩:=h;exact⟨u,e,h.only ho hv⟩
 ·obtain⟨u,g,e,h1,h2,h3⟩:=h;exact⟨u,g,e,h1.only ho (fun hm=>by have:=hv g hm;omega),h2,h3.only ho hv⟩
def jpa (l:List Ref) (H:Nat) (v2:Value) (w8:World) (L:Array Bool) (τ:Tmp→Value) (w:World):Prop:=
 Only (Vm v2) w8 w∧((L.getD 13 false=false∧Below w8.heap.size w8 w)∨(L.getD 13 false=true∧L.getD 10 false=true∧L.getD 12 false=true∧OwB Rp.refO 41 H (τ 49) l w))
theorem Vo {l:List Ref} {H:Nat} {v2:Value} {w8 w:World} {L:Array Bool} {τ:Tmp→Value} {i d:Nat} {u:Value} (h:jpa l H v2 w8 L τ w) (hi:i≠13) (hd:d≠49):jpa l H v2 w8 (L.setIfInBounds i true) (jaf τ (some d) u) w:=by
 obtain⟨h0,h⟩:=h;refine⟨h0, ?_⟩;rw[getD_set_ne false hi];have e49:jaf τ (some d) u 49=τ 49:=by simp[jaf,Ne.symm hd]
 have hm: ∀j,L.getD j false=true→(L.setIfInBounds i true).getD j false=true:=fun j hj=>by
  by_cases e:i=j
  ·subst e;have:i<L.size:=by
    rcases Nat.lt_or_ge i L.size with h|h
    ·exact h
    ·simp[Array.getD,Nat.not_lt.2 h] at hj
   simp[this]
  ·rw[getD_set_ne false e];exact hj
 rcases h with ⟨h1,h2⟩|⟨h1,h2,h3,h4⟩
 ·exact .inl ⟨h1,h2⟩
 ·exact .inr ⟨h1,hm _ h2,hm _ h3,by rw[e49];exact h4⟩
theorem jgc {l:List Ref} {H:Nat} {v2:Value} {w8 w w':World} {L:Array Bool} {τ:Tmp→Value} {i d:Nat} {u:Value} (h:jpa l H v2 w8 L τ w) (hi:i=10∨i=12) (hl:L.getD i false=false) (hb:Below w.heap.size w w'):jpa l H v2 w8 (L.setIfInBounds i true) (jaf τ (some d) u) w':=by
 obtain⟨h0,h⟩:=h;have hi':i≠13:=by omega
 refine⟨h0.then_below hb, ?_⟩;rw[getD_set_ne false hi'];rcases h with ⟨h1,h2⟩|⟨h1,h2,h3,h4⟩
 ·exact .inl ⟨h1,Below.t h2 hb⟩
 ·rcases hi with rfl|rfl
  ·rw[h2] at hl;cases hl
  ·rw[h3] at hl;cases hl
theorem jcz {cs:List Value} {x:Jl} {fx:List Nat} (w:World) (hx:Rp.house.R w cs x fx) (hs:SmallHouse x):
  Calls Tryz.prog 41 #[.agg cs.toArray] w (FreshR Rp.houseO w x):=by
 obtain⟨A0,n0,c0,f0,A1,n1,c1,f1,A2,n2,c2,f2,rfl,hff,h0,h1,h2⟩:=hx;obtain rfl:=h0.1;obtain rfl:=h1.1;obtain rfl:=h2.1;clear hff;have k1:=Blk.new w 26 #[.slice A0 x.keys.length c0,.slice A1 x.used.length c1,.slice A2 x.Rz.length c2];have k2:=Blk.new (w.alloc (.cells #[.slice A0 x.keys.length c0,.slice A1 x.used.length c1,.slice A2 x.Rz.length c2] 26)) 26 H0;replace k1:=k1.alloc (.cells H0 26)
 have HB0:=Ja (((Below.refl w.heap.size w).alloc nle (.cells #[.slice A0 x.keys.length c0,.slice A1 x.used.length c1,.slice A2 x.Rz.length c2] 26)).alloc (by simp) (.cells H0 26));replace h0:=(h0.allocN (.cells #[.slice A0 x.keys.length c0,.slice A1 x.used.length c1,.slice A2 x.Rz.length c2] 26)).allocN (.cells H0 26)
 replace h1:=(h1.allocN (.cells #[.slice A0 x.keys.length c0,.slice A1 x.used.length c1,.slice A2 x.Rz.length c2] 26)).allocN (.cells H0 26);replace h2:=(h2.allocN (.cells #[.slice A0 x.keys.length c0,.slice A1 x.used.length c1,.slice A2 x.Rz.length c2] 26)).allocN (.cells H0 26)
 rw[show(w.alloc (.cells #[.slice A0 x.keys.length c0,.slice A1 x.used.length c1,.slice A2 x.Rz.length c2] 26)).heap.size=w.heap.size+1 by simp] at k2;have HSZ0:=Ja (show((w.alloc (.cells #[.slice A0 x.keys.length c0,.slice A1 x.used.length c1,.slice A2 x.Rz.length c2] 26)).alloc (.cells H0 26)).heap.size=w.heap.size+1+1 by simp);have HS:=Ja hs;clear hs;go_enter Tryz.func41,Tryz.ntmps41
 go_upto_region 1 with fail
 generalize hW0:(w.alloc (.cells #[.slice A0 x.keys.length c0,.slice A1 x.used.length c1,.slice A2 x.Rz.length c2] 26)).alloc (.cells H0 26)=w0 at k1 k2 HB0 HSZ0 h0 h1 h2 ⊢;clear hW0
 go_cut [3] from 9 to 16 (fun p wx=>Half x w0.heap.size w0 p wx)
 case first=>
  have d1:=k1.drew;have e0:=h0.drew;have e1:=h1.drew;have HBd:=(Below.refl w0.heap.size w0).drew;have sK:=HS.out.keys;have sU:=HS.out.used;have HBA:=((Below.refl w0.heap.size w0).alloc nle (.cells H0 26)).drew;have RK:=Ja (fun(W:World) (hb:Below w0.heap.size w0 W)=>h0.step hb);have RU:=Ja (fun(W:World) (hb:Below w0.heap.size w0 W)=>h1.step hb)
  have G:=Ja (show ∀W:World,Below w0.heap.size w0 W→W.cell? ⟨w.heap.size,0,none⟩=some (.slice A0 x.keys.length c0)∧W.cell? ⟨w.heap.size,1,none⟩=some (.slice A1 x.used.length c1) from fun W hb=>⟨(k1.step hb).cell 0,(k1.step hb).cell 1⟩)
  have ZF:=Ja (show ∀(V W:World) (b:Nat),V.heap.size=b→Below (V.alloc (.cells H0 26)).heap.size (V.alloc (.cells H0 26)) W→Blk W b 26 H0 from fun V W b hb h=>by subst hb;exact(Blk.new V _ _).step h)
  have ZD:=Ja (show ∀(V W:World) (b:Nat),V.heap.size=b→Below (V.alloc (.cells H0 26)).drew.heap.size (V.alloc (.cells H0 26)).drew W→Blk W b 26 H0 from fun V W b hb h=>by subst hb;exact(Blk.drew (Blk.new V _ _)).step h);clear h0 h1 e0 e1 h2 d1 k1 k2
  go_region_held3 (fun w'=>w'.cell? ⟨w.heap.size,0,none⟩=some (.slice A0 x.keys.length c0)∧w'.cell? ⟨w.heap.size,1,none⟩=some (.slice A1 x.used.length c1))
   (((with_reducible refine G.out _ ?_);(first|with_reducible exact HBd|with_reducible exact HBA|with_reducible exact(Below.t HBd hb3)|with_reducible exact(Below.t HBA hb3)|with_reducible exact((Below.t HBd hb3).alloc (Below.t HBd hb3).size _)|with_reducible exact(Below.t (Below.t HBd hb3) hb4)|with_reducible exact(Below.t (Below.t HBA hb3) hb4)|with_reducible exact(Below.t ((Below.t HBd hb3).alloc (Below.t HBd hb3).size _) hb4)|with_reducible exact((Below.t (Below.t HBd hb3) hb4).alloc (Below.t (Below.t HBd hb3) hb4).size _)|(with_reducible refine Below.setCell (Below.setCell (Below.setCell (Below.t ((Below.t HBd hb3).alloc (Below.t HBd hb3).size _) hb4) ?_ _) ?_ _) ?_ _;all_goals(first|exact Nat.le_refl _|exact(Below.t HBd hb3).size))|(with_reducible refine Below.setCell (Below.setCell (Below.setCell (Below.t (Below.t HBA hb3) hb4) ?_ _) ?_ _) ?_ _;all_goals(first|exact Nat.le_refl _|exact(Below.t HBd hb3).size)))))
   (first|(go_at_call 90;refine(jdz _ (RK.out _ (by first|with_reducible exact HBd|with_reducible exact HBA|with_reducible exact(Below.t HBd hb3)|with_reducible exact(Below.t HBA hb3)|with_reducible exact((Below.t HBd hb3).alloc (Below.t HBd hb3).size _)|with_reducible exact(Below.t (Below.t HBd hb3) hb4)|with_reducible exact(Below.t (Below.t HBA hb3) hb4)|with_reducible exact(Below.t ((Below.t HBd hb3).alloc (Below.t HBd hb3).size _) hb4)|with_reducible exact((Below.t (Below.t HBd hb3) hb4).alloc (Below.t (Below.t HBd hb3) hb4).size _))) sK).mono ?_;rintro e w3 hfr3;obtain⟨AK,cK,fK,rfl,hK,nK,lK,frK,hb3⟩:=OwnF.sl (k:=1) (enc:=fun n=>[.int .i64 n]) (hk:=fun _=>rfl) (h1:=jhw) hfr3;clear hfr3;(try(with_reducible have qa:=ZD.out _ _ _ rfl hb3)))|(go_at_call 90;refine(jdz _ (RU.out _ (by first|with_reducible exact HBd|with_reducible exact HBA|with_reducible exact(Below.t HBd hb3)|with_reducible exact(Below.t HBA hb3)|with_reducible exact((Below.t HBd hb3).alloc (Below.t HBd hb3).size _)|with_reducible exact(Below.t (Below.t HBd hb3) hb4)|with_reducible exact(Below.t (Below.t HBA hb3) hb4)|with_reducible exact(Below.t ((Below.t HBd hb3).alloc (Below.t HBd hb3).size _) hb4)|with_reducible exact((Below.t (Below.t HBd hb3) hb4).alloc (Below.t (Below.t HBd hb3) hb4).size _))) sU).mono ?_;rintro e w4 hfr4;obtain⟨AU,cU,fU,rfl,hU,nU,lU,frU,hb4⟩:=OwnF.sl (k:=1) (enc:=fun n=>[.int .i64 n]) (hk:=fun _=>rfl) (h1:=jhw) hfr4;clear hfr4;(try(with_reducible have qa2:=ZF.out _ _ _ rfl hb4));(try(have qa2:=qa.step hb4));(try(have y0:=qa2.cell 0;have y1:=qa2.cell 1;have y2:=qa2.cell 2;have x0:=Jb qa2 0;have x1:=Jb qa2 1;have x2:=Jb qa2 2;simp at y0 y1 y2))))
  all_goals(go_wp2_with fail)
  ·go_meet
   case rel=>exact jk0 hK nK lK frK hU nU lU frU HBd hb3 (Below.refl _ _) hb4 (by have:=(Below.t (Below.t HBd hb3) hb4).size;omega) (.inl rfl) ((Below.t (Below.t HBd hb3) hb4).alloc (Below.t (Below.t HBd hb3) hb4).size _) (Blk.new _ _ _) (fun z _ hlt=>Below.heap_alloc _ _ _ hlt)
  ·go_meet
   case rel=>exact jk0 hK nK lK frK hU nU lU frU HBd hb3 ((Below.refl w3.heap.size w3).alloc nle _) hb4 (Below.t HBd hb3).size (.inr (.inl ⟨Nat.le_refl _,by simp⟩)) (Zh (Below.t ((Below.t HBd hb3).alloc (Below.t HBd hb3).size _) hb4) (Below.t HBd hb3).size) (((qa2.put 0 _).put 1 _).put 2 _) (fun z hz _=>(Below.heap_setCell _ _ _ _ hz).trans ((Below.heap_setCell _ _ _ _ hz).trans (Below.heap_setCell _ _ _ _ hz)))
  ·go_meet
   case rel=>exact jk0 hK nK lK frK hU nU lU frU HBA hb3 (Below.refl _ _) hb4 nle (.inr (.inr (by simp))) (Zh (Below.t (Below.t HBA hb3) hb4) nle) (((qa2.put 0 _).put 1 _).put 2 _) (fun z hz _=>(Below.heap_setCell _ _ _ _ hz).trans ((Below.heap_setCell _ _ _ _ hz).trans (Below.heap_setCell _ _ _ _ hz)))
 case rest=>
  obtain⟨wh,hwh⟩: ∃wh,wh=wc:=⟨_,rfl⟩;subst hwh;obtain⟨b,AK,cK,fK,AU,cU,fU,rfl,kb,hsK,hsU,nK,nU,dK,dU,hb0,frK,frU,hbw⟩:=hcut;have HB1:=Ja hbw;have HB0L:=Ja hb0;have KB:=Ja kb;have K1:=Ja k1;have k1w:=k1.step hbw;have c2':=Blk.c2 k1w;have h2m:=h2.max;have hbl:=kb.lt;have HKU:=Ja (And.intro hsK (And.intro hsU (And.intro nK (And.intro nU (And.intro dK (And.intro dU (And.intro frK frU)))))))
  clear k1w h0 h1 hsK hsU nK nU dK dU frK frU hbw hb0 kb k1;go_wp2_with fail
  go_loopw [19] (fun i wr=>∃k:Nat,k≤x.Rz.length∧i= .int .i64 k∧jh7 x wh b AK cK AU cU k wr) (fun i _=>x.Rz.length - (intOf i).toNat)
  case atStart=>exact⟨0,Nat.zero_le _,rfl,.slice none 0 0,KB.out,OwB.nil,Only.refl _ _⟩
  case round=>
   obtain⟨wo,hwo⟩: ∃wo,wo=wr:=⟨_,rfl⟩;subst hwo;obtain⟨k,hk,rfl,v,kbr,hown,ho⟩:=hrel;have HBR:=Ja (HB1.out.trans (ho.below (B:=w0.heap.size) (fun z hz=>by simp at hz;rw[hz];exact HB0L.out) HB1.out.size));have KBR:=Ja kbr;have HOW:=Ja hown;have HON:=Ja ho;clear kbr hown ho c2';by_cases hlt:k<x.Rz.length
   ·obtain⟨bp,op,B0,m0,d0,g0,B1,m1,d1,g1,rfl,hbp,hmp,q0,q1,q2,hs0,hs1,_⟩:=J7 (h2.step HBR.out) hlt;obtain rfl:=hs0.1;obtain rfl:=hs1.1;have i1:(k:Int)<(x.Rz.length:Int):=by omega
    have k5:=Blk.new wo 38 #[.int .i64 x.Rz[k].Az,.slice B0 x.Rz[k].Uz.length d0,.slice B1 x.Rz[k].Fz.length d1];have HKR:=Ja (show Below wo.heap.size wo (wo.alloc (.cells #[.int .i64 x.Rz[k].Az,.slice B0 x.Rz[k].Uz.length d0,.slice B1 x.Rz[k].Fz.length d1] 38)) from(Below.refl _ _).alloc nle _);have hs0:=hs0.step HKR.out;have hs1:=hs1.step HKR.out
    have HKB:=Ja k5.lt;go_upto_region 5 with fail
    clear q0 q1 q2;generalize hw5:wo.alloc (.cells #[.int .i64 x.Rz[k].Az,.slice B0 x.Rz[k].Uz.length d0,.slice B1 x.Rz[k].Fz.length d1] 38)=w5 at k5 HKR HKB hs0 hs1 ⊢;clear hw5
    go_cut [5,6,19] from 19 to 58 (fun p5 p6 i wx=>p5= .pointer (some ⟨wo.heap.size,0,none⟩)∧i= .int .i64 (k:Int)∧jh6 x.Rz[k] w5 p6 wx)
    case first=>
     have sR:=HS.out.Uz _ (List.getElem_mem hlt);have HBd:=(Below.refl w5.heap.size w5).drew;have HBA:=((Below.refl w5.heap.size w5).alloc nle (.cells #[.int .i64 0,.slice none 0 0,.slice none 0 0] 38)).drew;have RK:=Ja (fun(W:World) (hb:Below w5.heap.size w5 W)=>hs0.step hb)
     have G:=Ja (show ∀W:World,Below w5.heap.size w5 W→W.cell? ⟨wo.heap.size,0,none⟩=some (.int .i64 x.Rz[k].Az)∧W.cell? ⟨wo.heap.size,1,none⟩=some (.slice B0 x.Rz[k].Uz.length d0) from fun W hb=>⟨(k5.step hb).cell 0,(k5.step hb).cell 1⟩)
     have ZD:=Ja (show ∀(V W:World) (b:Nat),V.heap.size=b→Below (V.alloc (.cells #[.int .i64 0,.slice none 0 0,.slice none 0 0] 38)).drew.heap.size (V.alloc (.cells #[.int .i64 0,.slice none 0 0,.slice none 0 0] 38)).drew W→Blk W b 38 #[.int .i64 0,.slice none 0 0,.slice none 0 0] from fun V W b hb h=>by subst hb;exact(Blk.drew (Blk.new V _ _)).step h)
     clear hs0 hs1 k5 HBR HON HOW KBR HKU KB K1 h2 HS
     go_region_held3 (fun w'=>w'.cell? ⟨wo.heap.size,0,none⟩=some (.int .i64 x.Rz[k].Az)∧w'.cell? ⟨wo.heap.size,1,none⟩=some (.slice B0 x.Rz[k].Uz.length d0))
      (((with_reducible refine G.out _ ?_);(first|with_reducible exact HBd|with_reducible exact HBA|with_reducible exact(Below.t HBd hb3)|with_reducible exact(Below.t HBA hb3)|with_reducible exact((Below.t HBd hb3).alloc (Below.t HBd hb3).size _)|(with_reducible refine Zh (Below.t HBA hb3) ?_;exact Nat.le_refl _))))
      (first|(go_at_call 91;refine(Z1 _ (RK.out _ (by first|with_reducible exact HBd|with_reducible exact HBA)) sR).mono ?_;rintro e w3 hfr3;obtain⟨AR,cR,fR,rfl,hR,nR,lR,frR,hb3⟩:=OwnF.sl (k:=4) (enc:=Jh) (hk:=fun _=>rfl) (h1:=Y9) hfr3;clear hfr3;(try(with_reducible have qa:=ZD.out _ _ _ rfl hb3));(try(have y0:=qa.cell 0;have y1:=qa.cell 1;have y2:=qa.cell 2;have x0:=Jb qa 0;have x1:=Jb qa 1;have x2:=Jb qa 2;simp at y0 y1 y2))))
     all_goals(go_wp2_with fail)
     ·go_meet
      case rel=>exact⟨rfl,rfl,w3.heap.size,AR,cR,fR,rfl,Blk.new _ _ _,hR.allocN _,nR,fun z hz=>⟨lR z hz,by have:=hR.lt z hz;omega⟩,(Below.t HBd hb3).size,frR.step ((Below.refl _ _).alloc nle _),(Below.t HBd hb3).alloc (Below.t HBd hb3).size _⟩
     ·go_meet
      case rel=>exact⟨rfl,rfl,w5.heap.size,AR,cR,fR,rfl,((qa.put 0 _).put 1 _).put 2 _,((hR.putN (fun hm=>by have:=lR _ hm;simp at this;omega) _).putN (fun hm=>by have:=lR _ hm;simp at this;omega) _).putN (fun hm=>by have:=lR _ hm;simp at this;omega) _,nR,fun z hz=>⟨by have:=lR z hz;simp at this;omega,fun e=>by have:=lR z hz;simp at this;omega⟩,Nat.le_refl _,((frR.putN).putN).putN,Zh (Below.t HBA hb3) nle⟩
    case rest=>
     obtain⟨wn,hwn⟩: ∃wn,wn=wc:=⟨_,rfl⟩;subst hwn;obtain⟨rfl,rfl,b6,AR,cR,fR,rfl,kn,hsR,nR,lR,hb6,frR,hbn⟩:=hcut;have HNX:=Ja (And.intro kn (And.intro hsR (And.intro nR (And.intro lR (And.intro hb6 (And.intro frR hbn))))));have r2:=Blk.c2 (k5.step hbn);have hbl6:=kn.lt;have HRL:=Ja (HS.out.Fz _ (List.getElem_mem hlt));have HVE:=Ja (HS.out.vers _ (List.getElem_mem hlt))
     have HFI:=Ja (HS.out.files _ (List.getElem_mem hlt));have HK5:=Ja k5;have hs1m:=hs1.max;clear kn hsR nR lR hb6 frR hbn hs0 k5;go_wp2_with fail
     go_loopw [32] (fun i wr=>∃j:Nat,j≤x.Rz[k].Fz.length∧i= .int .i64 j∧jmc x.Rz[k] wn b6 AR cR j wr) (fun i _=>x.Rz[k].Fz.length - (intOf i).toNat)
     case atStart=>exact⟨0,Nat.zero_le _,rfl,.slice none 0 0,HNX.out.1,OwB.nil,Only.refl _ _⟩
     case round=>
      obtain⟨j,hj,rfl,v2,kbi,hown2,ho2⟩:=hrel;have HBI:=Ja (HNX.out.2.2.2.2.2.2.trans (ho2.below (B:=w5.heap.size) (fun z hz=>by simp at hz;rw[hz];exact HNX.out.2.2.2.2.1) HNX.out.2.2.2.2.2.2.size));have KBI:=Ja kbi;have HOI:=Ja hown2;have HNI:=Ja ho2;clear kbi hown2 ho2 r2;by_cases hlj:j<x.Rz[k].Fz.length
      ·obtain⟨br,orr,B3,m3,d3,g3,rfl,hbr,hmr,t0,t1,t2,t3,hs3,hg3s⟩:=J3 (hs1.step HBI.out) hlj;have HG3:=Ja (show ∀z∈g3,z<w5.heap.size from fun z hz=>hs1.lt z (hg3s z hz));clear hg3s;obtain rfl:=hs3.1;have j1:(j:Int)<(x.Rz[k].Fz.length:Int):=by omega
       have k8:=Blk.new wr 41 #[.string x.Rz[k].Fz[j].name,.bool x.Rz[k].Fz[j].guard,.int .i64 x.Rz[k].Fz[j].count,.slice B3 x.Rz[k].Fz[j].Vz.length d3]
       have HK8:=Ja (show Below wr.heap.size wr (wr.alloc (.cells #[.string x.Rz[k].Fz[j].name,.bool x.Rz[k].Fz[j].guard,.int .i64 x.Rz[k].Fz[j].count,.slice B3 x.Rz[k].Fz[j].Vz.length d3] 41)) from(Below.refl _ _).alloc nle _);have hs3:=hs3.step HK8.out;go_upto_region 9 with fail
       generalize hw8:wr.alloc (.cells #[.string x.Rz[k].Fz[j].name,.bool x.Rz[k].Fz[j].guard,.int .i64 x.Rz[k].Fz[j].count,.slice B3 x.Rz[k].Fz[j].Vz.length d3] 41)=w8 at k8 HK8 hs3 ⊢;clear hw8 t0 t1 t2 t3;have HKj:=Ja (show(x.Rz[k].Fz.take j).length=j by simp;omega);have HTj:=Ja (List.take_succ_eq_append_getElem hlj);have sV:=HVE.out _ (List.getElem_mem hlj)
       have sF:=HFI.out _ (List.getElem_mem hlj);have k6:=KBI.out.step HK8.out;have HNE:=Ja (show v2.ownBlock≠some b6∧v2.ownBlock≠some wr.heap.size∧(∀z∈Vm v2,z<wr.heap.size) from by
        obtain⟨fq,⟨xs,f1,ho,_,_⟩,_⟩:=HOI.out;exact⟨fun e=>by have:=HOI.out.vlow b6 (by unfold Vm;rw[e];simp);omega,fun e=>by have:=(ho.lt _ e).2;omega,fun z hz=>(Jn ho z hz).2⟩)
       obtain⟨i0,hi0,hz0,hz1,hz2⟩:=info_parts jdp;have HLW:=Ja (show wn.heap.size≤wr.heap.size from HNI.out.size);generalize hy:x.Rz[k].Fz[j]=y at sV sF hs3 k8 HTj ⊢;clear hy;have hg3: ∀z∈g3,z∉Vm v2:=fun z hz hm=>by have:=HG3.out z hz;have:=HOI.out.vlow z hm;have:=HNX.out.2.2.2.2.2.2.size;omega
       have hA:CRefAt y w8 b6 wr.heap.size v2 B3 d3 g3:=⟨k6.cell 2,k8.cell 0,k8.cell 1,k8.cell 2,k8.cell 3,hs3,fun hm=>HNE.out.1 (by unfold Vm at hm;simpa using hm),fun hm=>HNE.out.2.1 (by unfold Vm at hm;simpa using hm),fun z hz=>Nat.lt_of_lt_of_le (HNE.out.2.2 z hz) HK8.out.size,hg3⟩
       refine Jz 15 _ rfl (jpa (x.Rz[k].Fz.take (j+1)) wn.heap.size v2 w8) (Only (Vm v2)) (jp9 y w8 b6 wr.heap.size v2 B3 d3) (by kernel_rfl) rfl (by kernel_rfl) rfl (jle _ _ _ _ _ _ _ hA.vl) (Only.refl _) ⟨⟨Only.of_below ((Below.refl _ _).drew) _,.inl ⟨by simp[Array.getD],(Below.refl _ _).drew⟩⟩,fun s hs=> ?_,by rfl⟩ ?_ ?_
       ·by_cases e4:s=6
        ·subst e4;rfl
        ·by_cases e5:s=8
         ·subst e5;rfl
         ·have hne:s∉ [36,37,38,39,40,41,42,43,44,45,46,47,48,49,50]:=fun hm=>by
           simp only[List.mem_cons,List.not_mem_nil,or_false] at hm;rcases hm with rfl|rfl|rfl|rfl|rfl|rfl|rfl|rfl|rfl|rfl|rfl|rfl|rfl|rfl|rfl<;>exact absurd hs (by decide)
          simp only[List.mem_cons,List.not_mem_nil,or_false,not_or] at hne;unfold jp9;split<;>first|trivial|(exfalso;omega)
       ·intro i p hi hp;have hcases:i=0∨i=1∨i=2∨i=3∨i=4∨i=5∨i=6∨i=7∨i=8∨i=9∨i=10∨i=11∨i=12∨i=13∨i=14:=by omega
        rcases hcases with rfl|rfl|rfl|rfl|rfl|rfl|rfl|rfl|rfl|rfl|rfl|rfl|rfl|rfl|rfl
        all_goals(obtain rfl:=Option.some.inj hp)
        ·intro L a w' hL hl hall hC hR;have r6:a.tmps[6]?.getD undef=_:=hR 6 (by decide);simp[Region.wanted,Jg,go_sem,execOp,r6,upT];exact⟨Only.refl _ _,rfl,Vo hC (by decide) (by decide)⟩
        ·intro L a w' hL hl hall hC hR;have r36:a.tmps[36]?.getD undef=_:=hR 36 (by decide);have hc:w'.cell? _=_:=Xy hA.c62 hC.1 hA.n6;simp[Region.wanted,Jg,go_sem,execOp,r36,hc,upT];exact⟨Only.refl _ _,rfl,Vo hC (by decide) (by decide)⟩
        ·intro L a w' hL hl hall hC hR;have r8:a.tmps[8]?.getD undef=_:=hR 8 (by decide);simp[Region.wanted,Jg,go_sem,execOp,r8,upT];exact⟨Only.refl _ _,rfl,Vo hC (by decide) (by decide)⟩
        ·intro L a w' hL hl hall hC hR;have r38:a.tmps[38]?.getD undef=_:=hR 38 (by decide);have hc:w'.cell? _=_:=Xy hA.c0 hC.1 hA.n8;simp[Region.wanted,Jg,go_sem,execOp,r38,hc,upT];exact⟨Only.refl _ _,rfl,Vo hC (by decide) (by decide)⟩
        ·intro L a w' hL hl hall hC hR;have r8:a.tmps[8]?.getD undef=_:=hR 8 (by decide);simp[Region.wanted,Jg,go_sem,execOp,r8,upT];exact⟨Only.refl _ _,rfl,Vo hC (by decide) (by decide)⟩
        ·intro L a w' hL hl hall hC hR;have r40:a.tmps[40]?.getD undef=_:=hR 40 (by decide);have hc:w'.cell? _=_:=Xy hA.c1 hC.1 hA.n8;simp[Region.wanted,Jg,go_sem,execOp,r40,hc,upT];exact⟨Only.refl _ _,rfl,Vo hC (by decide) (by decide)⟩
        ·intro L a w' hL hl hall hC hR;have r8:a.tmps[8]?.getD undef=_:=hR 8 (by decide);simp[Region.wanted,Jg,go_sem,execOp,r8,upT];exact⟨Only.refl _ _,rfl,Vo hC (by decide) (by decide)⟩
        ·intro L a w' hL hl hall hC hR;have r42:a.tmps[42]?.getD undef=_:=hR 42 (by decide);have hc:w'.cell? _=_:=Xy hA.c2 hC.1 hA.n8;simp[Region.wanted,Jg,go_sem,execOp,r42,hc,upT];exact⟨Only.refl _ _,rfl,Vo hC (by decide) (by decide)⟩
        ·intro L a w' hL hl hall hC hR;have r8:a.tmps[8]?.getD undef=_:=hR 8 (by decide);simp[Region.wanted,Jg,go_sem,execOp,r8,upT];exact⟨Only.refl _ _,rfl,Vo hC (by decide) (by decide)⟩
        ·intro L a w' hL hl hall hC hR;have r44:a.tmps[44]?.getD undef=_:=hR 44 (by decide);have hc:w'.cell? _=_:=Xy hA.c3 hC.1 hA.n8;simp[Region.wanted,Jg,go_sem,execOp,r44,hc,upT];exact⟨Only.refl _ _,rfl,Vo hC (by decide) (by decide)⟩
        ·intro L a w' hL hl hall hC hR;have r45:a.tmps[45]?.getD undef=_:=hR 45 (by decide);simp[Region.wanted,Jg,go_sem,execOp,r45,upT];have hw:=hC.1.size;refine(jee _ (hA.sl.keep fun z hz=>hC.1.block z (hA.sl.lt z hz) (hA.ng z hz)) sV sF).mono ?_;rintro e w4 ⟨vv,rfl,hvv,hb4⟩;obtain⟨Av,cv,rfl,_,_⟩:=hvv.form
         exact⟨_,rfl,Only.of_below hb4 _,⟨Av,cv,rfl,hvv.low hw⟩,jgc hC (.inl rfl) hl hb4⟩
        ·intro L a w' hL hl hall hC hR;have r39:a.tmps[39]?.getD undef=_:=hR 39 (by decide);have r41:a.tmps[41]?.getD undef=_:=hR 41 (by decide);have r43:a.tmps[43]?.getD undef=_:=hR 43 (by decide);obtain⟨Av,cv,r46,hv⟩:GotVers _ _ _ _:=hR 46 (by decide);rw[r46] at hv;simp[Region.wanted,Jg,go_sem,execOp,r39,r41,r43,r46,upT]
         exact⟨Only.refl _ _,⟨_,rfl,Av,cv,rfl,hv⟩,Vo hC (by decide) (by decide)⟩
        ·intro L a w' hL hl hall hC hR;obtain⟨u,r47,Av,cv,rfl,hv⟩: ∃u,_=jeo _ u∧GotVers _ _ u _:=hR 47 (by decide);unfold jeo at r47;have hw:=hC.1.size;simp[Region.wanted,Jg,go_sem,execOp,r47,upT];exact⟨Only.of_below ((Below.refl _ _).alloc nle _) _,⟨_,_,rfl,Blk.new _ _ _,hw,Av,cv,rfl,hv.alloc _⟩,jgc hC (.inr rfl) hl ((Below.refl _ _).alloc nle _)⟩
        ·intro L a w' hL hl hall hC hR;have r37:a.tmps[37]?.getD undef=_:=hR 37 (by decide);obtain⟨u,g,r48,hg,hgl,Av,cv,rfl,hv⟩: ∃u g,_=Value.slice (some ⟨g,0,none⟩) 1 1∧Blk _ g _ _∧_≤g∧GotVers _ _ u _:=hR 48 (by decide);rcases hC.2 with ⟨_,hb⟩|⟨h1,_⟩
         ·obtain⟨xs,ho,hgrow⟩:=HOI.out.grow;obtain⟨hoA,hsn⟩:=hgrow (Below.t HK8.out hb);rw[HKj.out] at hoA;obtain⟨fq,hows,hnd,hlo,hfr⟩:=hv;have hs9:=hsn (ys:=[.string y.name,.bool y.guard,.int .i64 y.count,.slice Av y.Vz.length cv]) (y:=y) ⟨_,rfl,hows⟩ hnd (fun z hz=>Nat.le_trans HK8.out.size (hlo z hz)) HLW.out hfr rfl;rw[HKj.out] at hs9
          obtain⟨g',cap,w5,hr,ho2,hgr,hor,_⟩:=run_append_lies (P:=Tryz.prog) w' 36 36 0 41 i0 _ 4 56 Tryz.underlying36 hi0 hz0 hz1 hz2 rfl (by decide) v2 j xs hoA ⟨g,0,none⟩ 1 1 [.string y.name,.bool y.guard,.int .i64 y.count,.slice Av y.Vz.length cv] rfl (World.news_of_block hg) (by intro u hu;simp at hu;rcases hu with rfl|rfl|rfl|rfl<;>rfl) (by decide) (by have:=HRL.out;unfold maxLen;omega) (by have:=HRL.out;omega) (Nat.zero_le _) w'.heap.size rfl
          have hnew:=hs9 g' cap w5 ho2 hgr hor;rw[if_pos (show Region.wanted _ _=true from rfl)];simp only[execOp,resolve,invoke,builtin,Sem.run_bind,Sem.run_pure,Result.andThen_ok,List.map_toArray,List.map_cons,List.map_nil,Wm,r37,r48,hr,upT];have hL13:13<L.size:=by rw[hL];decide
          have g10:=hall ⟨10,.chain⟩ (by simp) (by decide);have g12:=hall ⟨12,.data⟩ (by simp) (by decide);refine⟨trivial,Yr hgr,trivial,Yr hgr |> hC.1.trans,.inr ⟨by simp[hL13],by rw[getD_set_ne false (by decide)];exact g10,by rw[getD_set_ne false (by decide)];exact g12, ?_⟩⟩
          ·rw[HTj.out];exact hnew
         ·rw[h1] at hl;cases hl
        ·intro L a w' hL hl hall hC hR;have r6:a.tmps[6]?.getD undef=_:=hR 6 (by decide);simp[Region.wanted,Jg,go_sem,execOp,r6,upT];exact⟨Only.refl _ _,rfl,Vo hC (by decide) (by decide)⟩
       ·intro l w4 τ hall hC;simp only[List.take_succ_cons,List.take_zero,jdb];intro v36 h36 v37 h37 v38 h38 v39 h39 v40 h40 v41 h41 v42 h42 v43 h43 v44 h44 v45 h45 v46 h46 v47 h47 v48 h48 v49 _ v50 h50 hτ;obtain rfl:v36=_:=h36;obtain rfl:v37=_:=h37;obtain rfl:v38=_:=h38;obtain rfl:v39=_:=h39;obtain rfl:v40=_:=h40;obtain rfl:v41=_:=h41;obtain rfl:v42=_:=h42;obtain rfl:v43=_:=h43
        obtain rfl:v44=_:=h44;obtain rfl:v45=_:=h45;obtain rfl:v50=_:=h50;have e49:τ 49=v49:=by rw[←hτ];simp[tau,Act.put]
        have hrow:OwB Rp.refO 41 wn.heap.size v49 (x.Rz[k].Fz.take (j+1)) w4:=by
         rcases hC.2 with ⟨h,_⟩|⟨_,_,_,h⟩
         ·rw[hall 13 (by decide)] at h;cases h
         ·rwa [e49] at h
        have k6':=k6.only hC.1 hA.n6;have c62:w4.cell? ⟨b6,2,none⟩=some v37:=k6'.cell 2;have z62:=Jb k6' 2;have hon:Only [b6] wn w4:=((HNI.out.then_below HK8.out).then_only hC.1 (fun z hz=> .inr (HOI.out.vlow z hz)));obtain⟨A49,c49,hv49,_,_⟩:=hrow.form;rw[show(x.Rz[k].Fz.take (j+1)).length=j+1 by simp;omega] at hv49;subst hv49
        have HREL:=Ja (show jmc x.Rz[k] wn b6 AR cR (j+1) (w4.setCell ⟨b6,2,none⟩ _) from⟨_,k6'.put 2 _,hrow.only (Js w4 b6 2 _) (by intro z hz;simp at hz;omega),hon.trans (Js w4 b6 2 _)⟩);clear hrow hon k6 k6' hA hC h46 h47 h48 e49 hτ hs3 k8;go_wp2;exact⟨⟨j+1,by omega,by go_num,HREL.out⟩,by simp[intOf];omega⟩
      ·have hj':j=x.Rz[k].Fz.length:=by omega
       subst hj';have HE:=Ja (show x.Rz[k].Fz.take x.Rz[k].Fz.length=x.Rz[k].Fz from List.take_of_length_le nle);have HBW:=Ja (show Below wo.heap.size wo wr from(Below.t HKR.out HNX.out.2.2.2.2.2.2).trans (HNI.out.below (fun z hz=>by simp at hz;rw[hz];have:=HNX.out.2.2.2.2.1;have:=HKR.out.size;omega) (by have:=HKR.out.size;have:=HNX.out.2.2.2.2.2.2.size;omega)))
       have hown2:=HOI.out;rw[HE.out] at hown2;obtain⟨A2v,c2v,rfl,_,_⟩:=hown2.form;obtain⟨fq,hows,hnd,hlo,hfr⟩:=hown2;obtain⟨hkn,hsR,nR,lR,hb6,frR,hbn⟩:=HNX.out;have hRR:=hsR.keep (w':=wr) fun z hz=>HNI.out.block z (hsR.lt z hz) (by simp;exact(lR z hz).2);have hltR: ∀z∈fR,z<wn.heap.size:=hsR.lt;have hfrR:=frR.keep (w':=wr) fun z hz=>HNI.out.block z (hltR z hz) (by simp;exact(lR z hz).2)
       have hRepo:Rp.repoO.R wr [.int .i64 x.Rz[k].Az,.slice AR x.Rz[k].Uz.length cR,.slice A2v x.Rz[k].Fz.length c2v] x.Rz[k] (fR++fq):=⟨_,_,_,fR,_,fq,rfl,rfl,hRR,hows⟩;have hndR:(fR++fq).Nodup:=List.nodup_append.2 ⟨nR,hnd,fun a ha b hb e=>by subst e;have:=hltR a ha;have:=hlo a hb;omega⟩;have hloR: ∀z∈fR++fq,wo.heap.size≤z:=fun z hz=>by
        rcases List.mem_append.1 hz with hz|hz
        ·have:=(lR z hz).1;have:=HKR.out.size;omega
        ·have:=hlo z hz;have:=hbn.size;have:=HKR.out.size;omega
       have hfrA:=hfrR.append hfr;have kB:=KBR.out.step HBW.out;obtain⟨xs,hoo,hgrow⟩:=HOW.out.grow;obtain⟨hoA,hsn⟩:=hgrow (HBW.out.alloc HBW.out.size (.cells #[.int .i64 x.Rz[k].Az,.slice AR x.Rz[k].Uz.length cR,.slice A2v x.Rz[k].Fz.length c2v] 38))
       have HSZ:=Ja (show(wr.alloc (.cells #[.int .i64 x.Rz[k].Az,.slice AR x.Rz[k].Uz.length cR,.slice A2v x.Rz[k].Fz.length c2v] 38)).heap.size=wr.heap.size+1 by simp)
       have hs9:=hsn (ys:=[.int .i64 x.Rz[k].Az,.slice AR x.Rz[k].Uz.length cR,.slice A2v x.Rz[k].Fz.length c2v]) (y:=x.Rz[k]) (Rp.repoO.below hRepo ((Below.refl wr.heap.size wr).alloc nle (.cells #[.int .i64 x.Rz[k].Az,.slice AR x.Rz[k].Uz.length cR,.slice A2v x.Rz[k].Fz.length c2v] 38)) nle) hndR hloR HON.out.size (hfrA.step ((Below.refl _ _).alloc nle _)) HSZ.out
       rw[show(x.Rz.take k).length=k by simp;omega] at hs9 hoA;have HTk:=Ja (List.take_succ_eq_append_getElem hlt);have HS9:=Ja hs9;have HV:=Ja HOW.out.vlow;have k6:=KBI.out;have cb2:wr.cell? ⟨b,2,none⟩=some v:=kB.cell 2;have zb2:=Jb kB 2;have c60:=Blk.c0 k6;have c61:=Blk.c1 k6;have c62:=Blk.c2 k6;obtain⟨i0,hi0,hz0,hz1,hz2⟩:=info_parts jeb;have HKBb:=Ja kB
       have HONW:=Ja (HON.out.then_below HBW.out);have HNEb:=Ja (show b∉Vm v from fun hm=>by have:=HOW.out.vlow b hm;omega);have sRp:=HS.out.Rz;clear hs9 hsn hgrow hoo hRepo hndR hloR hfrA hfrR hRR hltR hkn hsR nR lR hb6 frR hbn hows hnd hlo hfr k6 kB hs1 HRL HVE HFI HK5 HKB
       go_wp2_with(at_builtin;refine wpList_append_lies _ rfl _ _ 24 rfl 0 38 i0 _ 3 56 Tryz.underlying24 hi0 hz0 hz1 hz2 rfl (by decide) _ _ _ rfl hoA ⟨wr.heap.size,0,none⟩ 1 1 [.int .i64 x.Rz[k].Az,.slice AR x.Rz[k].Uz.length cR,.slice A2v x.Rz[k].Fz.length c2v] rfl rfl (Jm wr _ _) (by intro u hu;simp at hu;rcases hu with rfl|rfl|rfl<;>rfl) (by decide) (by unfold maxLen;omega) (by omega) (Nat.zero_le _) (wr.heap.size+1) HSZ.out ?_)
       intro g' cap w6 ho2 hgr hor hlt2;have HN:=Ja (HS9.out _ _ _ ho2 hgr hor);have k6b:=HKBb.out.alloc (.cells #[.int .i64 x.Rz[k].Az,.slice AR x.Rz[k].Uz.length cR,.slice A2v x.Rz[k].Fz.length c2v] 38);have k6c:=k6b.only (Yr hgr) HNEb.out;have HREL:=Ja (show jh7 x wh b AK cK AU cU (k+1) (w6.setCell ⟨b,2,none⟩ (.slice (some ⟨g',0,none⟩) (k+1) cap)) from
        ⟨_,k6c.put 2 _,by rw[HTk.out];exact HN.out.only (Js w6 b 2 _) (by intro z hz;simp at hz;omega),((HONW.out.alloc _).then_only (Yr hgr) (fun z hz=> .inr (HV.out z hz))).trans (Js w6 b 2 _)⟩)
       have cb2:w6.cell? ⟨b,2,none⟩=some v:=k6c.cell 2;have zb2:=Jb k6c 2;clear ho2 hgr hor hoA k6b k6c;go_wp2;exact⟨⟨k+1,by omega,by go_num,HREL.out⟩,by simp[intOf];omega⟩
   ·have hk':k=x.Rz.length:=by omega
    subst hk';have hown:=HOW.out;rw[show x.Rz.take x.Rz.length=x.Rz from List.take_of_length_le nle] at hown;obtain⟨Av,cv,rfl,_,_⟩:=hown.form;have kB:=KBR.out;have k2o:=k2.step HBR.out;have c0:=Blk.c0 kB;have c1:=Blk.c1 kB;have c2:=Blk.c2 kB;have d0:=Blk.c0 k2o;have d1:=Blk.c1 k2o;have d2:=Blk.c2 k2o;have y0:=Jb k2o 0;have y1:=Jb k2o 1;have y2:=Jb k2o 2
    have R:=Ja (((k2o.put 0 (.slice AK x.keys.length cK)).put 1 (.slice AU x.used.length cU)).put 2 (.slice Av x.Rz.length cv))
    have RO:=Ja ((((Only.refl [w.heap.size+1] wo).setCell (p:=⟨w.heap.size+1,0,none⟩) (.inl (by simp)) (.slice AK x.keys.length cK)).setCell (p:=⟨w.heap.size+1,1,none⟩) (.inl (by simp)) (.slice AU x.used.length cU)).setCell (p:=⟨w.heap.size+1,2,none⟩) (.inl (by simp)) (.slice Av x.Rz.length cv));have HOWN:=Ja hown;clear kB k2o k2 hown HOW h2 K1;go_wp2_with fail;have R:=R.out;have RO:=RO.out
    generalize((wo.setCell ⟨w.heap.size+1,0,none⟩ (.slice AK x.keys.length cK)).setCell ⟨w.heap.size+1,1,none⟩ (.slice AU x.used.length cU)).setCell ⟨w.heap.size+1,2,none⟩ (.slice Av x.Rz.length cv)=W at R RO ⊢;have e0:=Blk.c0 R;have e1:=Blk.c1 R;have e2:=Blk.c2 R
    refine bodyPost_ret (v:= .agg #[.slice AK x.keys.length cK,.slice AU x.used.length cU,.slice Av x.Rz.length cv]) (by simp[results,Tryz.results41,go_sem,e0,e1,e2]) rfl ?_;obtain⟨hsK,hsU,nK,nU,dK,dU,frK,frU⟩:=HKU.out;have hs0:=HSZ0.out;have hsb:=HBR.out.size;obtain⟨fq,hows,hnd,hlo,hfr⟩:=HOWN.out.only RO (by intro z hz;simp at hz;have:=HB1.out.size;omega);have hKb: ∀z∈fK,z<wh.heap.size:=hsK.lt
    have hUb: ∀z∈fU,z<wh.heap.size:=hsU.lt;have eK: ∀z∈fK,W.heap[z]? =wh.heap[z]? :=fun z hz=>(RO.block z (by have:=hKb z hz;have:=HON.out.size;omega) (by simp;have:=(dK z hz).1;omega)).trans (HON.out.block z (hKb z hz) (by simp;exact(dK z hz).2.1))
    have eU: ∀z∈fU,W.heap[z]? =wh.heap[z]? :=fun z hz=>(RO.block z (by have:=hUb z hz;have:=HON.out.size;omega) (by simp;have:=(dU z hz).1;omega)).trans (HON.out.block z (hUb z hz) (by simp;exact(dU z hz).2));have hf': ∀z∈fq,wh.heap.size≤z:=hlo;have hHw:=HB1.out.size
    exact⟨[.slice AK x.keys.length cK,.slice AU x.used.length cU,.slice Av x.Rz.length cv],fK++(fU++fq),rfl,⟨_,_,_,fK,_,_,_,fU,_,fq,rfl,rfl,hsK.keep eK,hsU.keep eU,hows⟩,
     List.nodup_append.2 ⟨nK,List.nodup_append.2 ⟨nU,hnd,fun a ha b hb e=>by subst e;have:=hUb a ha;have:=hf' a hb;omega⟩,fun a ha b hb e=>by
      subst e;rcases List.mem_append.1 hb with hb|hb
      ·exact(dK a ha).2.2 hb
      ·have:=hKb a ha;have:=hf' a hb;omega⟩,
     fun z hz=>by
      rcases List.mem_append.1 hz with hz|hz
      ·have:=(dK z hz).1;omega
      ·rcases List.mem_append.1 hz with hz|hz
       ·have:=(dU z hz).1;omega
       ·have:=hf' z hz;omega,
     (frK.keep eK).append ((frU.keep eU).append (hfr)),HB0.out.trans ((HBR.out.mono (by omega)).trans (RO.below (by intro z hz;simp at hz;omega) (by omega)))⟩
def Z8 (g:Nat) (v:Value):Prop:=v= .pointer (some ⟨g,0,none⟩)
def jcn (n:Nat) (v:Value):Prop:=∃x:Nat,v= .int .i64 (x:Int)∧x<n
def jh8 (k:Nat) (v:Value):Prop:=∃s:ByteArray,v= .string s∧s.size≤k
def FStrs (g:Nat) (l:List ByteArray) (v:Value) (w:World):Prop:=∃b,v= .slice (some ⟨b,0,none⟩) l.length l.length∧b≠g∧Blk w b 9 (jhc l)
def FCell (g k:Nat) (v:Value) (w:World):Prop:=∃b x s,v= .pointer (some ⟨b,x,none⟩)∧b≠g∧b<w.heap.size∧w.cell? ⟨b,x,none⟩=some (.string s)∧s.size≤k
def FBox (g B:Nat) (t:TypeId) (cs:Array Value) (v:Value) (w:World):Prop:=∃b,v= .pointer (some ⟨b,0,none⟩)∧b≠g∧B≤b∧Blk w b t cs
section
variable {g k B:Nat} {l:List ByteArray} {v:Value} {w w':World} {t:TypeId} {cs:Array Value}
theorem FStrs.only (h:FStrs g l v w) (ho:Only [g] w w'):FStrs g l v w':=by
 obtain⟨b,h1,h2,h3⟩:=h;exact⟨b,h1,h2,h3.only ho (by simpa using h2)⟩
theorem FCell.only (h:FCell g k v w) (ho:Only [g] w w'):FCell g k v w':=by
 obtain⟨b,x,s,h1,h2,h3,h4,h5⟩:=h;refine⟨b,x,s,h1,h2,Nat.lt_of_lt_of_le h3 ho.size, ?_,h5⟩;rw[World.cell?_of_block (a:=⟨b,x,none⟩) (ho.block b h3 (by simpa using h2))];exact h4
theorem FBox.only (h:FBox g B t cs v w) (ho:Only [g] w w'):FBox g B t cs v w':=by
 obtain⟨b,h1,h2,h3,h4⟩:=h;exact⟨b,h1,h2,h3,h4.only ho (by simpa using h2)⟩
end
theorem Blk.set4 {w:World} {b:Nat} {t:TypeId} {a0 a1 a2 a3:Value} (h:Blk w b t #[a0,a1,a2,a3]) (x0 x1 x2 x3:Value):
  Blk ((((w.setCell ⟨b,0,none⟩ x0).setCell ⟨b,1,none⟩ x1).setCell ⟨b,2,none⟩ x2).setCell ⟨b,3,none⟩ x3) b t #[x0,x1,x2,x3]:=by
 have h1:=Jd (i:=0) h x0;have h2:=Jd (i:=1) h1 x1;have h3:=Jd (i:=2) h2 x2;have h4:=Jd (i:=3) h3 x3;simpa [Blk] using h4
theorem Blk.set1 {w:World} {b i:Nat} {t:TypeId} {cs:Array Value} (h:Blk w b t cs) (x:Value):Blk (w.setCell ⟨b,i,none⟩ x) b t (cs.setIfInBounds i x):=Jd h x
theorem Blk.frozen {w:World} {b:Nat} {t:TypeId} {cs:Array Value} (h:Blk w b t cs) (j:Nat):w.frozen? ⟨b,j,none⟩=false:=
 (show Free w [b] from fun x hx=>by simp at hx;subst hx;exact⟨_,_,h⟩).frozen (by simp) j
def jpq (g B:Nat):Xr:=fun s v w=>match s with
 | 0=>Z8 g v
 | 6=>Z8 g v
 | 7=>jcn 4 v
 | 8=>FStrs g [ByteArray.empty,⟨#[97]⟩,⟨#[98]⟩,⟨#[99]⟩] v w
 | 9=>Z8 g v
 | 10=>jcn 4 v
 | 11=>FCell g 11 v w
 | 12=>jh8 11 v
 | 13=>FStrs g [ByteArray.empty,ByteArray.empty,⟨#[97]⟩,⟨#[98]⟩,⟨#[97,47,98]⟩] v w
 | 14=>Z8 g v
 | 15=>jcn 5 v
 | 16=>FCell g 11 v w
 | 17=>jh8 11 v
 | 18=>Z8 g v
 | 19=>jcn 2 v
 | 20=>∃b,v= .bool b
 | 21=>∃r:Yt,Vn r∧v= .agg (Jh r).toArray
 | 5=>FBox g B 29 #[.int .i64 0,.string ByteArray.empty,.string ByteArray.empty,.bool false] v w
 |_=>True
theorem jka (g B:Nat):Zx (Only [g]) (jpq g B):=fun s v w w' h ho=>by
 unfold jpq at*;split at h<;>first|exact h|exact FStrs.only h ho|exact FCell.only h ho|exact FBox.only h ho
def DrRule (g P:Nat) (w:World) (e:Ending) (w':World):Prop:=∃r:Yt,e= .returned (.agg (Jh r).toArray)∧Vn r∧Rd w' g P∧Only [g] w w'
theorem jbe (g P:Nat) (n:Int) (hn:n≤1000) (hP:P+30≤1000000) (w:World) (h:Rd w g P):
  Calls Tryz.prog 85 #[.pointer (some ⟨g,0,none⟩),.int .i64 n] w (DrRule g (P+30) w):=by
 have hg:=h.lt;go_enter Tryz.func85,Tryz.ntmps85;go_wp2_with fail;have hg0:g<(w.alloc (.cells #[.int .i64 0,.string ⟨#[]⟩,.string ⟨#[]⟩,.bool false] 29)).heap.size:=by simp;omega
 have hr0:=h.step ((Below.refl w.heap.size w).alloc nle (.cells #[.int .i64 0,.string ⟨#[]⟩,.string ⟨#[]⟩,.bool false] 29));have k4:=Blk.new w 29 #[.int .i64 0,.string ⟨#[]⟩,.string ⟨#[]⟩,.bool false];have ho0:=(Only.refl [g] w).alloc (.cells #[.int .i64 0,.string ⟨#[]⟩,.string ⟨#[]⟩,.bool false] 29)
 have hg4:w.heap.size<(w.alloc (.cells #[.int .i64 0,.string ⟨#[]⟩,.string ⟨#[]⟩,.bool false] 29)).heap.size:=by simp
 generalize hw0:w.alloc (.cells #[.int .i64 0,.string ⟨#[]⟩,.string ⟨#[]⟩,.bool false] 29)=w0 at hg0 hr0 k4 ho0 hg4 ⊢;clear hw0
 refine Jt 17 _ rfl (fun k w'=>Rd w' g (P+k)∧Only [g] w0 w') (Only [g]) (jpq g w0.heap.size) (by kernel_rfl) rfl (by kernel_rfl) rfl (jka _ _) (Only.refl _) ⟨⟨hr0.step (Below.refl _ _).drew,Only.of_below ((Below.refl _ _).drew) _⟩,fun s hs=> ?_,by rfl⟩ ?_ ?_
 ·by_cases e:s=0
  ·subst e;rfl
  ·have hne:s∉ [6,7,8,9,10,11,12,13,14,15,16,17,18,19,20,21,5]:=fun hm=>by
    simp only[List.mem_cons,List.not_mem_nil,or_false] at hm;rcases hm with rfl|rfl|rfl|rfl|rfl|rfl|rfl|rfl|rfl|rfl|rfl|rfl|rfl|rfl|rfl|rfl|rfl<;>exact absurd hs (by decide)
   simp only[List.mem_cons,List.not_mem_nil,or_false,not_or] at hne;unfold jpq;split<;>first|trivial|(exfalso;omega)
 ·intro p hp;simp only[List.take_succ_cons,List.take_zero,List.mem_cons,List.not_mem_nil,or_false] at hp;rcases hp with rfl|rfl|rfl|rfl|rfl|rfl|rfl|rfl|rfl|rfl|rfl|rfl|rfl|rfl|rfl|rfl|rfl
  ·intro k a w' hk hC hR;have r0:a.tmps[0]?.getD undef=_:=hR 0 (by decide);simp[Region.wanted,Jg,go_sem,execOp,r0,upT];exact⟨⟨hC.1.mono (by omega),hC.2⟩,Only.refl _ _,rfl⟩
  ·intro k a w' hk hC hR;have r6:a.tmps[6]?.getD undef=_:=hR 6 (by decide);simp[Region.wanted,Jg,go_sem,r6,upT];have hk':k<18:=hk;refine(Jk g (P+k) 4 (by omega) (by omega) _ hC.1).mono ?_;rintro e w1 ⟨x,rfl,hx,hr,ho⟩;exact⟨_,rfl,⟨hr,hC.2.trans ho⟩,ho,⟨x,rfl,by omega⟩⟩
  ·intro k a w' hk hC hR;simp[Region.wanted,Jg,go_sem,execOp,upT];have hg':=hC.1.lt;exact⟨⟨(hC.1.step ((Below.refl _ _).alloc nle _)).mono (by omega),hC.2.alloc _⟩,(Only.refl _ _).alloc _,⟨_,rfl,by omega,Blk.new _ _ _⟩⟩
  ·intro k a w' hk hC hR;have r0:a.tmps[0]?.getD undef=_:=hR 0 (by decide);simp[Region.wanted,Jg,go_sem,execOp,r0,upT];exact⟨⟨hC.1.mono (by omega),hC.2⟩,Only.refl _ _,rfl⟩
  ·intro k a w' hk hC hR;have r6:a.tmps[9]?.getD undef=_:=hR 9 (by decide);simp[Region.wanted,Jg,go_sem,r6,upT];have hk':k<18:=hk;refine(Jk g (P+k) 4 (by omega) (by omega) _ hC.1).mono ?_;rintro e w1 ⟨x,rfl,hx,hr,ho⟩;exact⟨_,rfl,⟨hr,hC.2.trans ho⟩,ho,⟨x,rfl,by omega⟩⟩
  ·intro k a w' hk hC hR;obtain⟨b,r8,hb,hB⟩:FStrs g _ _ _:=hR 8 (by decide);obtain⟨x,r10,hx⟩:jcn 4 _:=hR 10 (by decide);have x0:(x:Int)<4:=by omega
   simp[Region.wanted,Jg,go_sem,execOp,r8,r10,x0,upT];obtain⟨s,hs,hz⟩:=Zs (k:=11) (x:=x) hB (Only.refl [g] _) hb (by simpa using hx) (by decide);exact⟨⟨hC.1.mono (by omega),hC.2⟩,Only.refl _ _,⟨b,x,s,rfl,hb,hB.lt,hs,hz⟩⟩
  ·intro k a w' hk hC hR;obtain⟨b,x,s,r11,hb,hlt,hc,hz⟩:FCell g 11 _ _:=hR 11 (by decide);simp[Region.wanted,Jg,go_sem,execOp,r11,hc,upT];exact⟨⟨hC.1.mono (by omega),hC.2⟩,Only.refl _ _,⟨s,rfl,hz⟩⟩
  ·intro k a w' hk hC hR;simp[Region.wanted,Jg,go_sem,execOp,upT];have hg':=hC.1.lt;exact⟨⟨(hC.1.step ((Below.refl _ _).alloc nle _)).mono (by omega),hC.2.alloc _⟩,(Only.refl _ _).alloc _,⟨_,rfl,by omega,Blk.new _ _ _⟩⟩
  ·intro k a w' hk hC hR;have r0:a.tmps[0]?.getD undef=_:=hR 0 (by decide);simp[Region.wanted,Jg,go_sem,execOp,r0,upT];exact⟨⟨hC.1.mono (by omega),hC.2⟩,Only.refl _ _,rfl⟩
  ·intro k a w' hk hC hR;have r6:a.tmps[14]?.getD undef=_:=hR 14 (by decide);simp[Region.wanted,Jg,go_sem,r6,upT];have hk':k<18:=hk;refine(Jk g (P+k) 5 (by omega) (by omega) _ hC.1).mono ?_;rintro e w1 ⟨x,rfl,hx,hr,ho⟩;exact⟨_,rfl,⟨hr,hC.2.trans ho⟩,ho,⟨x,rfl,by omega⟩⟩
  ·intro k a w' hk hC hR;obtain⟨b,r8,hb,hB⟩:FStrs g _ _ _:=hR 13 (by decide);obtain⟨x,r10,hx⟩:jcn 5 _:=hR 15 (by decide);have x0:(x:Int)<5:=by omega
   simp[Region.wanted,Jg,go_sem,execOp,r8,r10,x0,upT];obtain⟨s,hs,hz⟩:=Zs (k:=11) (x:=x) hB (Only.refl [g] _) hb (by simpa using hx) (by decide);exact⟨⟨hC.1.mono (by omega),hC.2⟩,Only.refl _ _,⟨b,x,s,rfl,hb,hB.lt,hs,hz⟩⟩
  ·intro k a w' hk hC hR;obtain⟨b,x,s,r11,hb,hlt,hc,hz⟩:FCell g 11 _ _:=hR 16 (by decide);simp[Region.wanted,Jg,go_sem,execOp,r11,hc,upT];exact⟨⟨hC.1.mono (by omega),hC.2⟩,Only.refl _ _,⟨s,rfl,hz⟩⟩
  ·intro k a w' hk hC hR;have r0:a.tmps[0]?.getD undef=_:=hR 0 (by decide);simp[Region.wanted,Jg,go_sem,execOp,r0,upT];exact⟨⟨hC.1.mono (by omega),hC.2⟩,Only.refl _ _,rfl⟩
  ·intro k a w' hk hC hR;have r6:a.tmps[18]?.getD undef=_:=hR 18 (by decide);simp[Region.wanted,Jg,go_sem,r6,upT];have hk':k<18:=hk;refine(Jk g (P+k) 2 (by omega) (by omega) _ hC.1).mono ?_;rintro e w1 ⟨x,rfl,hx,hr,ho⟩;exact⟨_,rfl,⟨hr,hC.2.trans ho⟩,ho,⟨x,rfl,by omega⟩⟩
  ·intro k a w' hk hC hR;obtain⟨x,r19,hx⟩:jcn 2 _:=hR 19 (by decide);simp[Region.wanted,Jg,go_sem,execOp,r19,upT];exact⟨⟨hC.1.mono (by omega),hC.2⟩,Only.refl _ _,⟨_,rfl⟩⟩
  ·intro k a w' hk hC hR;obtain⟨x7,r7,hx7⟩:jcn 4 _:=hR 7 (by decide);obtain⟨s12,r12,hz12⟩:jh8 11 _:=hR 12 (by decide);obtain⟨s17,r17,hz17⟩:jh8 11 _:=hR 17 (by decide);obtain⟨b20,r20⟩: ∃b,a.tmps[20]?.getD undef= .bool b:=hR 20 (by decide);simp[Region.wanted,Jg,go_sem,execOp,r7,r12,r17,r20,upT]
   exact⟨⟨hC.1.mono (by omega),hC.2⟩,Only.refl _ _,⟨⟨x7,s12,s17,b20⟩,⟨by show s12.size≤_;omega,by show s17.size≤_;omega⟩,rfl⟩⟩
  ·intro k a w' hk hC hR;simp[Region.wanted,Jg,go_sem,execOp,upT];have hg':=hC.1.lt;have hs:=hC.2.size;exact⟨⟨(hC.1.step ((Below.refl _ _).alloc nle _)).mono (by omega),hC.2.alloc _⟩,(Only.refl _ _).alloc _,⟨_,rfl,by omega,hs,Blk.new _ _ _⟩⟩
 ·rintro w1 ⟨hr1,ho1⟩;simp only[List.take_succ_cons,List.take_zero,jdb];intro v6 _ v7 _ v8 _ v9 _ v10 _ v11 _ v12 _ v13 _ v14 _ v15 _ v16 _ v17 _ v18 _ v19 _ v20 _ v21 h21 v5 h5;obtain⟨r,hfit,rfl⟩: ∃r:Yt,Vn r∧v21= .agg (Jh r).toArray:=h21;obtain⟨b5,rfl,hb5,hB5,k5⟩:FBox g _ _ _ _ _:=h5;have k4':=k4.only ho1 (by simp;omega);have q0:=Blk.c0 k5;have q1:=Blk.c1 k5;have q2:=Blk.c2 k5
  have q3:=Blk.c3 k5;have f0:=k5.frozen 0;have f1:=k5.frozen 1;have f2:=k5.frozen 2;have f3:=k5.frozen 3;rw[show(Jh r).toArray= #[.int .i64 r.user,.string r.ref,.string r.path,.bool r.write] from rfl];go_wp2_with fail;refine(Jk g (P+17) n (by omega) (by omega) _ ((((hr1.put (by omega) _).put (by omega) _).put (by omega) _).put (by omega) _)).mono ?_;rintro e w2 ⟨x,rfl,hx,hr2,ho2⟩
  have k52:=(k5.set4 (.int .i64 r.user) (.string r.ref) (.string r.path) (.bool r.write)).only ho2 (by simpa using hb5);have k42:=(((((k4'.far (by omega) _).far (by omega) _).far (by omega) _).far (by omega) _)).only ho2 (by simp;omega)
  have ho2':=((((ho1.setCell (.inr hB5) (.int .i64 r.user)).setCell (p:=⟨b5,1,none⟩) (.inr hB5) (.string r.ref)).setCell (p:=⟨b5,2,none⟩) (.inr hB5) (.string r.path)).setCell (p:=⟨b5,3,none⟩) (.inr hB5) (.bool r.write)).trans ho2;clear q0 q1 q2 q3 f0 f1 f2 f3 k5 k4' ho1 hr1 ho2;have q0:=Blk.c0 k52;have q1:=Blk.c1 k52;have q2:=Blk.c2 k52;have q3:=Blk.c3 k52;have p0:=Blk.c0 k42;have p1:=Blk.c1 k42
  have p2:=Blk.c2 k42;have p3:=Blk.c3 k42;have g0:=k42.frozen 0;have g1:=k42.frozen 1;have g2:=k42.frozen 2;have g3:=k42.frozen 3;by_cases hx0:x=0
  ·have hx1: ¬(0:Int)<(x:Int):=by omega
   clear hx;clear q0 q1 q2 q3 p0 p1 p2 p3 g0 g1 g2 g3;go_wp2_with fail;refine(Jk g (P+17+1) 3 (by omega) (by omega) _ hr2).mono ?_;rintro e w3 ⟨y,rfl,hy,hr3,ho3⟩;replace k52:=k52.only ho3 (by simpa using hb5);replace k42:=k42.only ho3 (by simp;omega);replace ho2':=ho2'.trans ho3;clear hr2 ho3;have hg3:=hr3.lt;by_cases hy0:y=0
   ·have hy1:((y:Int)==0)=true:=by simpa using hy0
    clear hy;go_wp2_with fail;have kb:=Blk.new w3 3 #[.int .i64 (-1),.int .i64 5,.int .i64 4];refine(Jk g (P+17+1+1) 3 (by omega) (by omega) _ (hr3.step ((Below.refl _ _).alloc nle _))).mono ?_;rintro e w4 ⟨z,rfl,hz,hr4,ho4⟩;replace k52:=(k52.alloc (.cells #[.int .i64 (-1),.int .i64 5,.int .i64 4] 3)).only ho4 (by simpa using hb5)
    replace k42:=(k42.alloc (.cells #[.int .i64 (-1),.int .i64 5,.int .i64 4] 3)).only ho4 (by simp;omega);replace ho2':=(ho2'.alloc (.cells #[.int .i64 (-1),.int .i64 5,.int .i64 4] 3)).trans ho4;obtain⟨u,hu⟩: ∃u:Int,w4.cell? ⟨w3.heap.size,z,none⟩=some (.int .i64 u):=by
     have hc:=(kb.only ho4 (by simp;omega)).cell z;have h3:z=0∨z=1∨z=2:=by omega
     rcases h3 with rfl|rfl|rfl
     ·exact⟨_,hc⟩
     ·exact⟨_,hc⟩
     ·exact⟨_,hc⟩
    have z1:(z:Int)<3:=by omega
    have q1:=Blk.c1 k52;have q2:=Blk.c2 k52;have q3:=Blk.c3 k52;have q0:=Blk.c0 k52;have p0:=Blk.c0 k42;have p1:=Blk.c1 k42;have p2:=Blk.c2 k42;have p3:=Blk.c3 k42;have g0:=k42.frozen 0;have g1:=k42.frozen 1;have g2:=k42.frozen 2;have g3:=k42.frozen 3;have f0:=k52.frozen 0;have hne:b5≠w.heap.size:=by omega
    clear kb hz;replace k52:Blk (w4.setCell ⟨b5,0,none⟩ (.int .i64 u)) b5 29 #[.int .i64 u,.string r.ref,.string r.path,.bool r.write]:=by simpa using k52.set1 (i:=0) (.int .i64 u)
    have hr5:=hr4.put (b:=b5) (j:=0) (by omega) (.int .i64 u);replace k42:=k42.far (b:=b5) (j:=0) (by omega) (.int .i64 u);replace ho2':=ho2'.setCell (p:=⟨b5,0,none⟩) (.inr hB5) (.int .i64 u);go_wp2
    refine bodyPost_ret (v:= .agg #[.int .i64 u,.string r.ref,.string r.path,.bool r.write]) (by simp[results,Tryz.results85,go_sem,p0,p1,p2,p3]) rfl ⟨⟨u,r.ref,r.path,r.write⟩,rfl,hfit,((((hr5.put hg _).put hg _).put hg _).put hg _).mono (by omega), ?_⟩
    exact((((ho0.trans ho2').setCell (p:=⟨w.heap.size,0,none⟩) (.inr nle) _).setCell (p:=⟨w.heap.size,1,none⟩) (.inr nle) _).setCell (p:=⟨w.heap.size,2,none⟩) (.inr nle) _).setCell (p:=⟨w.heap.size,3,none⟩) (.inr nle) _
   ·by_cases hy0':y=1
    ·have hy1:((y:Int)==0)=false:=by simpa using hy0
     have hy2:((y:Int)==1)=true:=by subst hy0';rfl
     clear hy;go_wp2_with fail;have kb:=Blk.new w3 9 (jhc [⟨#[97,98,99,100]⟩,⟨#[65]⟩,⟨#[122,122,122]⟩]);refine(Jk g (P+17+1+1) 3 (by omega) (by omega) _ (hr3.step ((Below.refl _ _).alloc nle _))).mono ?_;rintro e w4 ⟨z,rfl,hz,hr4,ho4⟩;obtain⟨u,hu,huz⟩:=Zs (k:=11) (x:=z) kb ho4 (by omega) (by simp;omega) (by decide)
     replace k52:=(k52.alloc (.cells (jhc [⟨#[97,98,99,100]⟩,⟨#[65]⟩,⟨#[122,122,122]⟩]) 9)).only ho4 (by simpa using hb5);replace k42:=(k42.alloc (.cells (jhc [⟨#[97,98,99,100]⟩,⟨#[65]⟩,⟨#[122,122,122]⟩]) 9)).only ho4 (by simp;omega);replace ho2':=(ho2'.alloc (.cells (jhc [⟨#[97,98,99,100]⟩,⟨#[65]⟩,⟨#[122,122,122]⟩]) 9)).trans ho4;have z1:(z:Int)<3:=by omega
     have q1:=Blk.c1 k52;have q2:=Blk.c2 k52;have q3:=Blk.c3 k52;have q0:=Blk.c0 k52;have p0:=Blk.c0 k42;have p1:=Blk.c1 k42;have p2:=Blk.c2 k42;have p3:=Blk.c3 k42;have g0:=k42.frozen 0;have g1:=k42.frozen 1;have g2:=k42.frozen 2;have g3:=k42.frozen 3;have f0:=k52.frozen 1;have hne:b5≠w.heap.size:=by omega
     clear kb hz;replace k52:Blk (w4.setCell ⟨b5,1,none⟩ (.string u)) b5 29 #[.int .i64 r.user,.string u,.string r.path,.bool r.write]:=by simpa using k52.set1 (i:=1) (.string u)
     have hr5:=hr4.put (b:=b5) (j:=1) (by omega) (.string u);replace k42:=k42.far (b:=b5) (j:=1) (by omega) (.string u);replace ho2':=ho2'.setCell (p:=⟨b5,1,none⟩) (.inr hB5) (.string u);go_wp2
     refine bodyPost_ret (v:= .agg #[.int .i64 r.user,.string u,.string r.path,.bool r.write]) (by simp[results,Tryz.results85,go_sem,p0,p1,p2,p3]) rfl ⟨⟨r.user,u,r.path,r.write⟩,rfl,⟨by show u.size≤_;omega,hfit.2⟩,((((hr5.put hg _).put hg _).put hg _).put hg _).mono (by omega), ?_⟩
     exact((((ho0.trans ho2').setCell (p:=⟨w.heap.size,0,none⟩) (.inr nle) _).setCell (p:=⟨w.heap.size,1,none⟩) (.inr nle) _).setCell (p:=⟨w.heap.size,2,none⟩) (.inr nle) _).setCell (p:=⟨w.heap.size,3,none⟩) (.inr nle) _
    ·have hy1:((y:Int)==0)=false:=by simpa using hy0
     have hy2:((y:Int)==1)=false:=by simp;omega
     clear hy;go_wp2_with fail;refine(Zz g (P+17+1+1) 1 (by omega) (by omega) _ hr3).mono ?_;rintro e w4 ⟨u,rfl,huz,hr4,ho4⟩;replace k52:=k52.only ho4 (by simpa using hb5);replace k42:=k42.only ho4 (by simp;omega);replace ho2':=ho2'.trans ho4;have q1:=Blk.c1 k52;have q2:=Blk.c2 k52;have q3:=Blk.c3 k52;have q0:=Blk.c0 k52;have p0:=Blk.c0 k42;have p1:=Blk.c1 k42;have p2:=Blk.c2 k42
     have p3:=Blk.c3 k42;have g0:=k42.frozen 0;have g1:=k42.frozen 1;have g2:=k42.frozen 2;have g3:=k42.frozen 3;have f0:=k52.frozen 2;have hne:b5≠w.heap.size:=by omega
     replace k52:Blk (w4.setCell ⟨b5,2,none⟩ (.string u)) b5 29 #[.int .i64 r.user,.string r.ref,.string u,.bool r.write]:=by simpa using k52.set1 (i:=2) (.string u)
     have hr5:=hr4.put (b:=b5) (j:=2) (by omega) (.string u);replace k42:=k42.far (b:=b5) (j:=2) (by omega) (.string u);replace ho2':=ho2'.setCell (p:=⟨b5,2,none⟩) (.inr hB5) (.string u);go_wp2
     refine bodyPost_ret (v:= .agg #[.int .i64 r.user,.string r.ref,.string u,.bool r.write]) (by simp[results,Tryz.results85,go_sem,p0,p1,p2,p3]) rfl ⟨⟨r.user,r.ref,u,r.write⟩,rfl,⟨hfit.1,by show u.size≤_;omega⟩,((((hr5.put hg _).put hg _).put hg _).put hg _).mono (by omega), ?_⟩
     exact((((ho0.trans ho2').setCell (p:=⟨w.heap.size,0,none⟩) (.inr nle) _).setCell (p:=⟨w.heap.size,1,none⟩) (.inr nle) _).setCell (p:=⟨w.heap.size,2,none⟩) (.inr nle) _).setCell (p:=⟨w.heap.size,3,none⟩) (.inr nle) _
  ·have hx1:(0:Int)<(x:Int):=by omega
   clear hx;go_wp2;refine bodyPost_ret (v:= .agg #[.int .i64 r.user,.string r.ref,.string r.path,.bool r.write]) (by simp[results,Tryz.results85,go_sem,p0,p1,p2,p3]) rfl ⟨⟨r.user,r.ref,r.path,r.write⟩,rfl,hfit,((((hr2.put hg _).put hg _).put hg _).put hg _).mono (by omega), ?_⟩
   exact((((ho0.trans ho2').setCell (p:=⟨w.heap.size,0,none⟩) (.inr nle) _).setCell (p:=⟨w.heap.size,1,none⟩) (.inr nle) _).setCell (p:=⟨w.heap.size,2,none⟩) (.inr nle) _).setCell (p:=⟨w.heap.size,3,none⟩) (.inr nle) _
end Go.Proofs.YtlkoaobaoffpaaaGreatDoor
