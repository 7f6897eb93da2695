/- Lemmas and walks, joined by program. -/
import Derived.Deep.CutRange
import Derived.Test.YtobbdhgkcoeifaaGreatDoorZ5
import Derived.Test.YtobbdhgkcoeifaaGreatDoorZ2
import Derived.Test.YtobbdhgkcoeifaaGreatDoorZ6
namespace Go.Proofs.YtobbdhgkcoeifaaGreatDoor
open Go.RowKit
attribute [local go_sem ↓] Go.wp_at_zero Go.wp_at_succ
set_option maxHeartbeats 8000000
set_option maxRecDepth 100000
set_option linter.unusedSimpArgs false
set_option linter.unusedVariables false
theorem jeb:(Tryz.prog.info? 48).map (fun i=>(i.zero,i.size,i.bytes))=some (some (.agg #[.int .i64 0,.slice none 0 0,.slice none 0 0]),3,56):=by kernel_rfl
theorem Zh {B g i j k:Nat} {u v y:Value} {a w:World} (h:Below B a w) (hg:B≤g):Below B a (((w.setCell ⟨g,i,none⟩ u).setCell ⟨g,j,none⟩ v).setCell ⟨g,k,none⟩ y):=((h.setCell hg u).setCell hg v).setCell hg y
theorem jhw (x:Int): ∀u∈ [Value.int .i64 x],u.oneCell'=true:=by intro u hu;simp at hu;subst hu;rfl
structure SmallHouse (x:Jl):Prop where
 keys:x.keys.length≤4194304
 used:x.used.length≤4194304
 Rz:x.Rz.length≤4194304
 Uz: ∀p∈x.Rz,p.Uz.length≤4194304
 Fz: ∀p∈x.Rz,p.Fz.length≤4194304
 vers: ∀p∈x.Rz,∀r∈p.Fz,r.Vz.length≤4194304
 files: ∀p∈x.Rz,∀r∈p.Fz,∀l∈r.Vz,l.length≤4194304
def Half (x:Jl) (H:Nat) (w0:World) (p:Value) (wx:World):Prop:=
 ∃b AK cK fK AU cU fU,p= .pointer (some ⟨b,0,none⟩)∧Blk wx b 26 #[.slice AK x.keys.length cK,.slice AU x.used.length cU,.slice none 0 0]∧
  SlR Rp.int wx AK x.keys.length cK x.keys fK∧SlR Rp.int wx AU x.used.length cU x.used fU∧fK.Nodup∧fU.Nodup∧(∀z∈fK,H≤z∧z≠b∧z∉fU)∧(∀z∈fU,H≤z∧z≠b)∧H≤b∧Free wx fK∧Free wx fU∧Below H w0 wx
theorem jk0 {x:Jl} {w0 w1 w1' w2 W:World} {b:Nat} {AK:Option Addr} {cK:Nat} {fK:List Nat} {AU:Option Addr} {cU:Nat} {fU:List Nat} (hK:SlR Rp.int w1 AK x.keys.length cK x.keys fK) (nK:fK.Nodup) (lK: ∀z∈fK,w1'.heap.size≤z) (frK:Free w1 fK)
  {w2':World} (hU:SlR Rp.int w2 AU x.used.length cU x.used fU) (nU:fU.Nodup) (lU: ∀z∈fU,w2'.heap.size≤z) (frU:Free w2 fU) (h1:Below w0.heap.size w0 w1') (hb1:Below w1'.heap.size w1' w1) (h2:Below w1.heap.size w1 w2') (hb2:Below w2'.heap.size w2' w2)
  (hbl:w0.heap.size≤b) (hord:b=w2.heap.size∨(w1.heap.size≤b∧b<w2'.heap.size)∨b<w1'.heap.size) (hW:Below w0.heap.size w0 W)
  (kb:Blk W b 26 #[.slice AK x.keys.length cK,.slice AU x.used.length cU,.slice none 0 0]) (ho: ∀z,z≠b→z<w2.heap.size→W.heap[z]? =w2.heap[z]?):
  Half x w0.heap.size w0 (.pointer (some ⟨b,0,none⟩)) W:=by
 have ltK: ∀z∈fK,z<w1.heap.size:=hK.lt;have ltU: ∀z∈fU,z<w2.heap.size:=hU.lt;have s0:=h1.size;have s1:=hb1.size;have s2:=h2.size;have s3:=hb2.size;have e1: ∀z∈fK,z≠b:=fun z hz e=>by have:=lK z hz;have:=ltK z hz;omega
 have e2: ∀z∈fU,z≠b:=fun z hz e=>by have:=lU z hz;have:=ltU z hz;omega
 have k1: ∀z∈fK,W.heap[z]? =w1.heap[z]? :=fun z hz=>(ho z (e1 z hz) (by have:=ltK z hz;omega)).trans (((hb2.block z (by have:=ltK z hz;omega)).trans (h2.block z (ltK z hz))));have k2: ∀z∈fU,W.heap[z]? =w2.heap[z]? :=fun z hz=>ho z (e2 z hz) (ltU z hz)
 refine⟨b,AK,cK,fK,AU,cU,fU,rfl,kb,hK.keep k1,hU.keep k2,nK,nU,fun z hz=>⟨?_,e1 z hz,fun hm=> ?_⟩,fun z hz=>⟨?_,e2 z hz⟩,hbl,frK.keep k1,frU.keep k2,hW⟩
 ·have:=lK z hz;omega
 ·have:=ltK z hz;have:=lU z hm;omega
 ·have:=lU z hz;omega
def jh7 (x:Jl) (wc:World) (b:Nat) (AK:Option Addr) (cK:Nat) (AU:Option Addr) (cU:Nat) (k:Nat) (wr:World):Prop:=
 ∃v,Blk wr b 26 #[.slice AK x.keys.length cK,.slice AU x.used.length cU,v]∧OwB Rp.repoO 48 wc.heap.size v (x.Rz.take k) wr∧Only [b] wc wr
def jh6 (x:Xq) (w0:World) (p:Value) (wx:World):Prop:=
 ∃b A c f,p= .pointer (some ⟨b,0,none⟩)∧Blk wx b 48 #[.int .i64 x.Az,.slice A x.Uz.length c,.slice none 0 0]∧
  SlR Rp.rule wx A x.Uz.length c x.Uz f∧f.Nodup∧(∀z∈f,w0.heap.size≤z∧z≠b)∧w0.heap.size≤b∧Free wx f∧Below w0.heap.size w0 wx
def jmc (x:Xq) (wc:World) (b:Nat) (A:Option Addr) (c:Nat) (k:Nat) (wr:World):Prop:=
 ∃v,Blk wr b 48 #[.int .i64 x.Az,.slice A x.Uz.length c,v]∧OwB Rp.refO 52 wc.heap.size v (x.Fz.take k) wr∧Only [b] wc wr
theorem Xy {w w':World} {b o:Nat} {v:Value} {f:List Nat} (h:w.cell? ⟨b,o,none⟩=some v) (ho:Only f w w') (hn:b∉f):w'.cell? ⟨b,o,none⟩=some v:=
 (World.cell?_of_block (ho.block b (World.block_lt_of_cell? w _ h) hn)).trans h
structure CRefAt (y:Ref) (w8:World) (b6 b8:Nat) (v2:Value) (B:Option Addr) (d:Nat) (g:List Nat):Prop where
 c62:w8.cell? ⟨b6,2,none⟩=some v2
 c0:w8.cell? ⟨b8,0,none⟩=some (.string y.name)
 c1:w8.cell? ⟨b8,1,none⟩=some (.bool y.guard)
 c2:w8.cell? ⟨b8,2,none⟩=some (.int .i64 y.count)
 c3:w8.cell? ⟨b8,3,none⟩=some (.slice B y.Vz.length d)
 sl:SlR (Rp.slice Rp.file) w8 B y.Vz.length d y.Vz g
 n6:b6∉Vm v2
 n8:b8∉Vm v2
 vl: ∀z∈Vm v2,z<w8.heap.size
 ng: ∀z∈g,z∉Vm v2
def jeo (y:Ref) (v:Value):Value:= .agg #[.string y.name,.bool y.guard,.int .i64 y.count,v]
def GotVers (y:Ref) (H:Nat) (v:Value) (w:World):Prop:=∃A c,v= .slice A y.Vz.length c∧OwB (Rp.slice Rp.file) 34 H v y.Vz w
def jp9 (y:Ref) (w8:World) (b6 b8:Nat) (v2:Value) (B:Option Addr) (d:Nat):Xr:=fun t v w=>match t with
 | 6=>v= .pointer (some ⟨b6,0,none⟩)
 | 8=>v= .pointer (some ⟨b8,0,none⟩)
 | 36=>v= .pointer (some ⟨b6,2,none⟩)
 | 37=>v=v2
 | 38=>v= .pointer (some ⟨b8,0,none⟩)
 | 39=>v= .string y.name
 | 40=>v= .pointer (some ⟨b8,1,none⟩)
 | 41=>v= .bool y.guard
 | 42=>v= .pointer (some ⟨b8,2,none⟩)
 | 43=>v= .int .i64 y.count
 | 44=>v= .pointer (some ⟨b8,3,none⟩)
 | 45=>v= .slice B y.Vz.length d
 | 46=>GotVers y w8.heap.size v w
 | 47=>∃u,v=jeo y u∧GotVers y w8.heap.size u w
 | 48=>∃u g,v= .slice (some ⟨g,0,none⟩) 1 1∧Blk w g 52 #[.string y.name,.bool y.guard,.int .i64 y.count,u]∧w8.heap.size≤g∧GotVers y w8.heap.size u w
 | 50=>v= .pointer (some ⟨b6,2,none⟩)
 |_=>True
theorem GotVers.only {y:Ref} {H:Nat} {v:Value} {w w':World} {f:List Nat} (h:GotVers y H v w) (ho:Only f w w') (hf: ∀z∈f,z<H):GotVers y H v w':=by
 obtain⟨A,c,e,h⟩:=h;exact⟨A,c,e,h.only ho hf⟩
theorem jle (y:Ref) (w8:World) (b6 b8:Nat) (v2:Value) (B:Option Addr) (d:Nat) (hv: ∀z∈Vm v2,z<w8.heap.size):Zx (Only (Vm v2)) (jp9 y w8 b6 b8 v2 B d):=fun t v w w' h ho=>by
 unfold jp9 at*;split at h<;>first|exact h|exact h.only ho hv|skip
 ·obtain⟨u,e,h⟩:=h;exact⟨u,e,h.only ho hv⟩
 ·obtain⟨u,g,e,h1,h2,h3⟩:=h;exact⟨u,g,e,h1.only ho (fun hm=>by have:=hv g hm;omega),h2,h3.only ho hv⟩
def jpa (l:List Ref) (H:Nat) (v2:Value) (w8:World) (L:Array Bool) (τ:Tmp→Value) (w:World):Prop:=
 Only (Vm v2) w8 w∧((L.getD 13 false=false∧Below w8.heap.size w8 w)∨(L.getD 13 false=true∧L.getD 10 false=true∧L.getD 12 false=true∧OwB Rp.refO 52 H (τ 49) l w))
theorem Vo {l:List Ref} {H:Nat} {v2:Value} {w8 w:World} {L:Array Bool} {τ:Tmp→Value} {i d:Nat} {u:Value} (h:jpa l H v2 w8 L τ w) (hi:i≠13) (hd:d≠49):jpa l H v2 w8 (L.setIfInBounds i true) (jaf τ (some d) u) w:=by
 obtain⟨h0,h⟩:=h;refine⟨h0, ?_⟩;rw[getD_set_ne false hi];have e49:jaf τ (some d) u 49=τ 49:=by simp[jaf,Ne.symm hd]
 have hm: ∀j,L.getD j false=true→(L.setIfInBounds i true).getD j false=true:=fun j hj=>by
  by_cases e:i=j
  ·subst e;have:i<L.size:=by
    rcases Nat.lt_or_ge i L.size with h|h
    ·exact h
    ·simp[Array.getD,Nat.not_lt.2 h] at hj
   simp[this]
  ·rw[getD_set_ne false e];exact hj
 rcases h with ⟨h1,h2⟩|⟨h1,h2,h3,h4⟩
 ·exact .inl ⟨h1,h2⟩
 ·exact .inr ⟨h1,hm _ h2,hm _ h3,by rw[e49];exact h4⟩
theorem jgc {l:List Ref} {H:Nat} {v2:Value} {w8 w w':World} {L:Array Bool} {τ:Tmp→Value} {i d:Nat} {u:Value} (h:jpa l H v2 w8 L τ w) (hi:i=10∨i=12) (hl:L.getD i false=false) (hb:Below w.heap.size w w'):jpa l H v2 w8 (L.setIfInBounds i true) (jaf τ (some d) u) w':=by
 obtain⟨h0,h⟩:=h;have hi':i≠13:=by omega
 refine⟨h0.then_below hb, ?_⟩;rw[getD_set_ne false hi'];rcases h with ⟨h1,h2⟩|⟨h1,h2,h3,h4⟩
 ·exact .inl ⟨h1,Below.t h2 hb⟩
 ·rcases hi with rfl|rfl
  ·rw[h2] at hl;cases hl
  ·rw[h3] at hl;cases hl
theorem jcz {cs:List Value} {x:Jl} {fx:List Nat} (w:World) (hx:Rp.house.R w cs x fx) (hs:SmallHouse x):
  Calls Tryz.prog 35 #[.agg cs.toArray] w (FreshR Rp.houseO w x):=by
 obtain⟨A0,n0,c0,f0,A1,n1,c1,f1,A2,n2,c2,f2,rfl,hff,h0,h1,h2⟩:=hx;obtain rfl:=h0.1;obtain rfl:=h1.1;obtain rfl:=h2.1;clear hff;have k1:=Blk.new w 26 #[.slice A0 x.keys.length c0,.slice A1 x.used.length c1,.slice A2 x.Rz.length c2];have k2:=Blk.new (w.alloc (.cells #[.slice A0 x.keys.length c0,.slice A1 x.used.length c1,.slice A2 x.Rz.length c2] 26)) 26 H0;replace k1:=k1.alloc (.cells H0 26)
 have HB0:=Ja (((Below.refl w.heap.size w).alloc nle (.cells #[.slice A0 x.keys.length c0,.slice A1 x.used.length c1,.slice A2 x.Rz.length c2] 26)).alloc (by simp) (.cells H0 26));replace h0:=(h0.allocN (.cells #[.slice A0 x.keys.length c0,.slice A1 x.used.length c1,.slice A2 x.Rz.length c2] 26)).allocN (.cells H0 26)
 replace h1:=(h1.allocN (.cells #[.slice A0 x.keys.length c0,.slice A1 x.used.length c1,.slice A2 x.Rz.length c2] 26)).allocN (.cells H0 26);replace h2:=(h2.allocN (.cells #[.slice A0 x.keys.length c0,.slice A1 x.used.length c1,.slice A2 x.Rz.length c2] 26)).allocN (.cells H0 26)
 rw[show(w.alloc (.cells #[.slice A0 x.keys.length c0,.slice A1 x.used.length c1,.slice A2 x.Rz.length c2] 26)).heap.size=w.heap.size+1 by simp] at k2;have HSZ0:=Ja (show((w.alloc (.cells #[.slice A0 x.keys.length c0,.slice A1 x.used.length c1,.slice A2 x.Rz.length c2] 26)).alloc (.cells H0 26)).heap.size=w.heap.size+1+1 by simp);have HS:=Ja hs;clear hs;go_enter Tryz.func35,Tryz.ntmps35
 go_upto_region 1 with fail
 generalize hW0:(w.alloc (.cells #[.slice A0 x.keys.length c0,.slice A1 x.used.length c1,.slice A2 x.Rz.length c2] 26)).alloc (.cells H0 26)=w0 at k1 k2 HB0 HSZ0 h0 h1 h2 ⊢;clear hW0
 go_cut [3] from 9 to 16 (fun p wx=>Half x w0.heap.size w0 p wx)
 case first=>
  have d1:=k1.drew;have e0:=h0.drew;have e1:=h1.drew;have HBd:=(Below.refl w0.heap.size w0).drew;have sK:=HS.out.keys;have sU:=HS.out.used;have HBA:=((Below.refl w0.heap.size w0).alloc nle (.cells H0 26)).drew;have RK:=Ja (fun(W:World) (hb:Below w0.heap.size w0 W)=>h0.step hb);have RU:=Ja (fun(W:World) (hb:Below w0.heap.size w0 W)=>h1.step hb)
  have G:=Ja (show ∀W:World,Below w0.heap.size w0 W→W.cell? ⟨w.heap.size,0,none⟩=some (.slice A0 x.keys.length c0)∧W.cell? ⟨w.heap.size,1,none⟩=some (.slice A1 x.used.length c1) from fun W hb=>⟨(k1.step hb).cell 0,(k1.step hb).cell 1⟩)
  have ZF:=Ja (show ∀(V W:World) (b:Nat),V.heap.size=b→Below (V.alloc (.cells H0 26)).heap.size (V.alloc (.cells H0 26)) W→Blk W b 26 H0 from fun V W b hb h=>by subst hb;exact(Blk.new V _ _).step h)
  have ZD:=Ja (show ∀(V W:World) (b:Nat),V.heap.size=b→Below (V.alloc (.cells H0 26)).drew.heap.size (V.alloc (.cells H0 26)).drew W→Blk W b 26 H0 from fun V W b hb h=>by subst hb;exact(Blk.drew (Blk.new V _ _)).step h);clear h0 h1 e0 e1 h2 d1 k1 k2
  go_region_held3 (fun w'=>w'.cell? ⟨w.heap.size,0,none⟩=some (.slice A0 x.keys.length c0)∧w'.cell? ⟨w.heap.size,1,none⟩=some (.slice A1 x.used.length c1))
   (((with_reducible refine G.out _ ?_);(first|with_reducible exact HBd|with_reducible exact HBA|with_reducible exact(Below.t HBd hb3)|with_reducible exact(Below.t HBA hb3)|with_reducible exact((Below.t HBd hb3).alloc (Below.t HBd hb3).size _)|with_reducible exact(Below.t (Below.t HBd hb3) hb4)|with_reducible exact(Below.t (Below.t HBA hb3) hb4)|with_reducible exact(Below.t ((Below.t HBd hb3).alloc (Below.t HBd hb3).size _) hb4)|with_reducible exact((Below.t (Below.t HBd hb3) hb4).alloc (Below.t (Below.t HBd hb3) hb4).size _)|(with_reducible refine Below.setCell (Below.setCell (Below.setCell (Below.t ((Below.t HBd hb3).alloc (Below.t HBd hb3).size _) hb4) ?_ _) ?_ _) ?_ _;all_goals(first|exact Nat.le_refl _|exact(Below.t HBd hb3).size))|(with_reducible refine Below.setCell (Below.setCell (Below.setCell (Below.t (Below.t HBA hb3) hb4) ?_ _) ?_ _) ?_ _;all_goals(first|exact Nat.le_refl _|exact(Below.t HBd hb3).size)))))
   (first|(go_at_call 91;refine(jdz _ (RK.out _ (by first|with_reducible exact HBd|with_reducible exact HBA|with_reducible exact(Below.t HBd hb3)|with_reducible exact(Below.t HBA hb3)|with_reducible exact((Below.t HBd hb3).alloc (Below.t HBd hb3).size _)|with_reducible exact(Below.t (Below.t HBd hb3) hb4)|with_reducible exact(Below.t (Below.t HBA hb3) hb4)|with_reducible exact(Below.t ((Below.t HBd hb3).alloc (Below.t HBd hb3).size _) hb4)|with_reducible exact((Below.t (Below.t HBd hb3) hb4).alloc (Below.t (Below.t HBd hb3) hb4).size _))) sK).mono ?_;rintro e w3 hfr3;obtain⟨AK,cK,fK,rfl,hK,nK,lK,frK,hb3⟩:=OwnF.sl (k:=1) (enc:=fun n=>[.int .i64 n]) (hk:=fun _=>rfl) (h1:=jhw) hfr3;clear hfr3;(try(with_reducible have qa:=ZD.out _ _ _ rfl hb3)))|(go_at_call 91;refine(jdz _ (RU.out _ (by first|with_reducible exact HBd|with_reducible exact HBA|with_reducible exact(Below.t HBd hb3)|with_reducible exact(Below.t HBA hb3)|with_reducible exact((Below.t HBd hb3).alloc (Below.t HBd hb3).size _)|with_reducible exact(Below.t (Below.t HBd hb3) hb4)|with_reducible exact(Below.t (Below.t HBA hb3) hb4)|with_reducible exact(Below.t ((Below.t HBd hb3).alloc (Below.t HBd hb3).size _) hb4)|with_reducible exact((Below.t (Below.t HBd hb3) hb4).alloc (Below.t (Below.t HBd hb3) hb4).size _))) sU).mono ?_;rintro e w4 hfr4;obtain⟨AU,cU,fU,rfl,hU,nU,lU,frU,hb4⟩:=OwnF.sl (k:=1) (enc:=fun n=>[.int .i64 n]) (hk:=fun _=>rfl) (h1:=jhw) hfr4;clear hfr4;(try(with_reducible have qa2:=ZF.out _ _ _ rfl hb4));(try(have qa2:=qa.step hb4));(try(have y0:=qa2.cell 0;have y1:=qa2.cell 1;have y2:=qa2.cell 2;have x0:=Jb qa2 0;have x1:=Jb qa2 1;have x2:=Jb qa2 2;simp at y0 y1 y2))))
  all_goals(go_wp2_with fail)
  ·go_meet
   case rel=>exact jk0 hK nK lK frK hU nU lU frU HBd hb3 (Below.refl _ _) hb4 (by have:=(Below.t (Below.t HBd hb3) hb4).size;omega) (.inl rfl) ((Below.t (Below.t HBd hb3) hb4).alloc (Below.t (Below.t HBd hb3) hb4).size _) (Blk.new _ _ _) (fun z _ hlt=>Below.heap_alloc _ _ _ hlt)
  ·go_meet
   case rel=>exact jk0 hK nK lK frK hU nU lU frU HBd hb3 ((Below.refl w3.heap.size w3).alloc nle _) hb4 (Below.t HBd hb3).size (.inr (.inl ⟨Nat.le_refl _,by simp⟩)) (Zh (Below.t ((Below.t HBd hb3).alloc (Below.t HBd hb3).size _) hb4) (Below.t HBd hb3).size) (((qa2.put 0 _).put 1 _).put 2 _) (fun z hz _=>(Below.heap_setCell _ _ _ _ hz).trans ((Below.heap_setCell _ _ _ _ hz).trans (Below.heap_setCell _ _ _ _ hz)))
  ·go_meet
   case rel=>exact jk0 hK nK lK frK hU nU lU frU HBA hb3 (Below.refl _ _) hb4 nle (.inr (.inr (by simp))) (Zh (Below.t (Below.t HBA hb3) hb4) nle) (((qa2.put 0 _).put 1 _).put 2 _) (fun z hz _=>(Below.heap_setCell _ _ _ _ hz).trans ((Below.heap_setCell _ _ _ _ hz).trans (Below.heap_setCell _ _ _ _ hz)))
 case rest=>
  obtain⟨wh,hwh⟩: ∃wh,wh=wc:=⟨_,rfl⟩;subst hwh;obtain⟨b,AK,cK,fK,AU,cU,fU,rfl,kb,hsK,hsU,nK,nU,dK,dU,hb0,frK,frU,hbw⟩:=hcut;have HB1:=Ja hbw;have HB0L:=Ja hb0;have KB:=Ja kb;have K1:=Ja k1;have k1w:=k1.step hbw;have c2':=Blk.c2 k1w;have h2m:=h2.max;have hbl:=kb.lt;have HKU:=Ja (And.intro hsK (And.intro hsU (And.intro nK (And.intro nU (And.intro dK (And.intro dU (And.intro frK frU)))))))
  clear k1w h0 h1 hsK hsU nK nU dK dU frK frU hbw hb0 kb k1;go_wp2_with fail
  go_loopw [19] (fun i wr=>∃k:Nat,k≤x.Rz.length∧i= .int .i64 k∧jh7 x wh b AK cK AU cU k wr) (fun i _=>x.Rz.length - (intOf i).toNat)
  case atStart=>exact⟨0,Nat.zero_le _,rfl,.slice none 0 0,KB.out,OwB.nil,Only.refl _ _⟩
  case round=>
   obtain⟨wo,hwo⟩: ∃wo,wo=wr:=⟨_,rfl⟩;subst hwo;obtain⟨k,hk,rfl,v,kbr,hown,ho⟩:=hrel;have HBR:=Ja (HB1.out.trans (ho.below (B:=w0.heap.size) (fun z hz=>by simp at hz;rw[hz];exact HB0L.out) HB1.out.size));have KBR:=Ja kbr;have HOW:=Ja hown;have HON:=Ja ho;clear kbr hown ho c2';by_cases hlt:k<x.Rz.length
   ·obtain⟨bp,op,B0,m0,d0,g0,B1,m1,d1,g1,rfl,hbp,hmp,q0,q1,q2,hs0,hs1,_⟩:=J7 (h2.step HBR.out) hlt;obtain rfl:=hs0.1;obtain rfl:=hs1.1;have i1:(k:Int)<(x.Rz.length:Int):=by omega
    have k5:=Blk.new wo 48 #[.int .i64 x.Rz[k].Az,.slice B0 x.Rz[k].Uz.length d0,.slice B1 x.Rz[k].Fz.length d1];have HKR:=Ja (show Below wo.heap.size wo (wo.alloc (.cells #[.int .i64 x.Rz[k].Az,.slice B0 x.Rz[k].Uz.length d0,.slice B1 x.Rz[k].Fz.length d1] 48)) from(Below.refl _ _).alloc nle _);have hs0:=hs0.step HKR.out;have hs1:=hs1.step HKR.out
    have HKB:=Ja k5.lt;go_upto_region 5 with fail
    clear q0 q1 q2;generalize hw5:wo.alloc (.cells #[.int .i64 x.Rz[k].Az,.slice B0 x.Rz[k].Uz.length d0,.slice B1 x.Rz[k].Fz.length d1] 48)=w5 at k5 HKR HKB hs0 hs1 ⊢;clear hw5
    go_cut [5,6,19] from 19 to 58 (fun p5 p6 i wx=>p5= .pointer (some ⟨wo.heap.size,0,none⟩)∧i= .int .i64 (k:Int)∧jh6 x.Rz[k] w5 p6 wx)
    case first=>
     have sR:=HS.out.Uz _ (List.getElem_mem hlt);have HBd:=(Below.refl w5.heap.size w5).drew;have HBA:=((Below.refl w5.heap.size w5).alloc nle (.cells #[.int .i64 0,.slice none 0 0,.slice none 0 0] 48)).drew;have RK:=Ja (fun(W:World) (hb:Below w5.heap.size w5 W)=>hs0.step hb)
     have G:=Ja (show ∀W:World,Below w5.heap.size w5 W→W.cell? ⟨wo.heap.size,0,none⟩=some (.int .i64 x.Rz[k].Az)∧W.cell? ⟨wo.heap.size,1,none⟩=some (.slice B0 x.Rz[k].Uz.length d0) from fun W hb=>⟨(k5.step hb).cell 0,(k5.step hb).cell 1⟩)
     have ZD:=Ja (show ∀(V W:World) (b:Nat),V.heap.size=b→Below (V.alloc (.cells #[.int .i64 0,.slice none 0 0,.slice none 0 0] 48)).drew.heap.size (V.alloc (.cells #[.int .i64 0,.slice none 0 0,.slice none 0 0] 48)).drew W→Blk W b 48 #[.int .i64 0,.slice none 0 0,.slice none 0 0] from fun V W b hb h=>by subst hb;exact(Blk.drew (Blk.new V _ _)).step h)
     clear hs0 hs1 k5 HBR HON HOW KBR HKU KB K1 h2 HS
     go_region_held3 (fun w'=>w'.cell? ⟨wo.heap.size,0,none⟩=some (.int .i64 x.Rz[k].Az)∧w'.cell? ⟨wo.heap.size,1,none⟩=some (.slice B0 x.Rz[k].Uz.length d0))
      (((with_reducible refine G.out _ ?_);(first|with_reducible exact HBd|with_reducible exact HBA|with_reducible exact(Below.t HBd hb3)|with_reducible exact(Below.t HBA hb3)|with_reducible exact((Below.t HBd hb3).alloc (Below.t HBd hb3).size _)|(with_reducible refine Zh (Below.t HBA hb3) ?_;exact Nat.le_refl _))))
      (first|(go_at_call 92;refine(Z1 _ (RK.out _ (by first|with_reducible exact HBd|with_reducible exact HBA)) sR).mono ?_;rintro e w3 hfr3;obtain⟨AR,cR,fR,rfl,hR,nR,lR,frR,hb3⟩:=OwnF.sl (k:=4) (enc:=Jh) (hk:=fun _=>rfl) (h1:=Y9) hfr3;clear hfr3;(try(with_reducible have qa:=ZD.out _ _ _ rfl hb3));(try(have y0:=qa.cell 0;have y1:=qa.cell 1;have y2:=qa.cell 2;have x0:=Jb qa 0;have x1:=Jb qa 1;have x2:=Jb qa 2;simp at y0 y1 y2))))
     all_goals(go_wp2_with fail)
     ·go_meet
      case rel=>exact⟨rfl,rfl,w3.heap.size,AR,cR,fR,rfl,Blk.new _ _ _,hR.allocN _,nR,fun z hz=>⟨lR z hz,by have:=hR.lt z hz;omega⟩,(Below.t HBd hb3).size,frR.step ((Below.refl _ _).alloc nle _),(Below.t HBd hb3).alloc (Below.t HBd hb3).size _⟩
     ·go_meet
      case rel=>exact⟨rfl,rfl,w5.heap.size,AR,cR,fR,rfl,((qa.put 0 _).put 1 _).put 2 _,((hR.putN (fun hm=>by have:=lR _ hm;simp at this;omega) _).putN (fun hm=>by have:=lR _ hm;simp at this;omega) _).putN (fun hm=>by have:=lR _ hm;simp at this;omega) _,nR,fun z hz=>⟨by have:=lR z hz;simp at this;omega,fun e=>by have:=lR z hz;simp at this;omega⟩,Nat.le_refl _,((frR.putN).putN).putN,Zh (Below.t HBA hb3) nle⟩
    case rest=>
     obtain⟨wn,hwn⟩: ∃wn,wn=wc:=⟨_,rfl⟩;subst hwn;obtain⟨rfl,rfl,b6,AR,cR,fR,rfl,kn,hsR,nR,lR,hb6,frR,hbn⟩:=hcut;have HNX:=Ja (And.intro kn (And.intro hsR (And.intro nR (And.intro lR (And.intro hb6 (And.intro frR hbn))))));have r2:=Blk.c2 (k5.step hbn);have hbl6:=kn.lt;have HRL:=Ja (HS.out.Fz _ (List.getElem_mem hlt));have HVE:=Ja (HS.out.vers _ (List.getElem_mem hlt))
     have HFI:=Ja (HS.out.files _ (List.getElem_mem hlt));have HK5:=Ja k5;have hs1m:=hs1.max;clear kn hsR nR lR hb6 frR hbn hs0 k5;go_wp2_with fail
     go_loopw [32] (fun i wr=>∃j:Nat,j≤x.Rz[k].Fz.length∧i= .int .i64 j∧jmc x.Rz[k] wn b6 AR cR j wr) (fun i _=>x.Rz[k].Fz.length - (intOf i).toNat)
     case atStart=>exact⟨0,Nat.zero_le _,rfl,.slice none 0 0,HNX.out.1,OwB.nil,Only.refl _ _⟩
     case round=>
      obtain⟨j,hj,rfl,v2,kbi,hown2,ho2⟩:=hrel;have HBI:=Ja (HNX.out.2.2.2.2.2.2.trans (ho2.below (B:=w5.heap.size) (fun z hz=>by simp at hz;rw[hz];exact HNX.out.2.2.2.2.1) HNX.out.2.2.2.2.2.2.size));have KBI:=Ja kbi;have HOI:=Ja hown2;have HNI:=Ja ho2;clear kbi hown2 ho2 r2;by_cases hlj:j<x.Rz[k].Fz.length
      ·obtain⟨br,orr,B3,m3,d3,g3,rfl,hbr,hmr,t0,t1,t2,t3,hs3,hg3s⟩:=J3 (hs1.step HBI.out) hlj;have HG3:=Ja (show ∀z∈g3,z<w5.heap.size from fun z hz=>hs1.lt z (hg3s z hz));clear hg3s;obtain rfl:=hs3.1;have j1:(j:Int)<(x.Rz[k].Fz.length:Int):=by omega
       have k8:=Blk.new wr 52 #[.string x.Rz[k].Fz[j].name,.bool x.Rz[k].Fz[j].guard,.int .i64 x.Rz[k].Fz[j].count,.slice B3 x.Rz[k].Fz[j].Vz.length d3]
       have HK8:=Ja (show Below wr.heap.size wr (wr.alloc (.cells #[.string x.Rz[k].Fz[j].name,.bool x.Rz[k].Fz[j].guard,.int .i64 x.Rz[k].Fz[j].count,.slice B3 x.Rz[k].Fz[j].Vz.length d3] 52)) from(Below.refl _ _).alloc nle _);have hs3:=hs3.step HK8.out;go_upto_region 9 with fail
       generalize hw8:wr.alloc (.cells #[.string x.Rz[k].Fz[j].name,.bool x.Rz[k].Fz[j].guard,.int .i64 x.Rz[k].Fz[j].count,.slice B3 x.Rz[k].Fz[j].Vz.length d3] 52)=w8 at k8 HK8 hs3 ⊢;clear hw8 t0 t1 t2 t3;have HKj:=Ja (show(x.Rz[k].Fz.take j).length=j by simp;omega);have HTj:=Ja (List.take_succ_eq_append_getElem hlj);have sV:=HVE.out _ (List.getElem_mem hlj)
       have sF:=HFI.out _ (List.getElem_mem hlj);have k6:=KBI.out.step HK8.out;have HNE:=Ja (show v2.ownBlock≠some b6∧v2.ownBlock≠some wr.heap.size∧(∀z∈Vm v2,z<wr.heap.size) from by
        obtain⟨fq,⟨xs,f1,ho,_,_⟩,_⟩:=HOI.out;exact⟨fun e=>by have:=HOI.out.vlow b6 (by unfold Vm;rw[e];simp);omega,fun e=>by have:=(ho.lt _ e).2;omega,fun z hz=>(Jn ho z hz).2⟩)
       obtain⟨i0,hi0,hz0,hz1,hz2⟩:=info_parts jdp;have HLW:=Ja (show wn.heap.size≤wr.heap.size from HNI.out.size);generalize hy:x.Rz[k].Fz[j]=y at sV sF hs3 k8 HTj ⊢;clear hy;have hg3: ∀z∈g3,z∉Vm v2:=fun z hz hm=>by have:=HG3.out z hz;have:=HOI.out.vlow z hm;have:=HNX.out.2.2.2.2.2.2.size;omega
       have hA:CRefAt y w8 b6 wr.heap.size v2 B3 d3 g3:=⟨k6.cell 2,k8.cell 0,k8.cell 1,k8.cell 2,k8.cell 3,hs3,fun hm=>HNE.out.1 (by unfold Vm at hm;simpa using hm),fun hm=>HNE.out.2.1 (by unfold Vm at hm;simpa using hm),fun z hz=>Nat.lt_of_lt_of_le (HNE.out.2.2 z hz) HK8.out.size,hg3⟩
       refine Jz 15 _ rfl (jpa (x.Rz[k].Fz.take (j+1)) wn.heap.size v2 w8) (Only (Vm v2)) (jp9 y w8 b6 wr.heap.size v2 B3 d3) (by kernel_rfl) rfl (by kernel_rfl) rfl (jle _ _ _ _ _ _ _ hA.vl) (Only.refl _) ⟨⟨Only.of_below ((Below.refl _ _).drew) _,.inl ⟨by simp[Array.getD],(Below.refl _ _).drew⟩⟩,fun s hs=> ?_,by rfl⟩ ?_ ?_
       ·by_cases e4:s=6
        ·subst e4;rfl
        ·by_cases e5:s=8
         ·subst e5;rfl
         ·have hne:s∉ [36,37,38,39,40,41,42,43,44,45,46,47,48,49,50]:=fun hm=>by
           simp only[List.mem_cons,List.not_mem_nil,or_false] at hm;rcases hm with rfl|rfl|rfl|rfl|rfl|rfl|rfl|rfl|rfl|rfl|rfl|rfl|rfl|rfl|rfl<;>exact absurd hs (by decide)
          simp only[List.mem_cons,List.not_mem_nil,or_false,not_or] at hne;unfold jp9;split<;>first|trivial|(exfalso;omega)
       ·intro i p hi hp;have hcases:i=0∨i=1∨i=2∨i=3∨i=4∨i=5∨i=6∨i=7∨i=8∨i=9∨i=10∨i=11∨i=12∨i=13∨i=14:=by omega
        rcases hcases with rfl|rfl|rfl|rfl|rfl|rfl|rfl|rfl|rfl|rfl|rfl|rfl|rfl|rfl|rfl
        all_goals(obtain rfl:=Option.some.inj hp)
        ·intro L a w' hL hl hall hC hR;have r6:_=_:=hR 6 (by decide);simp[Region.wanted,Jg,go_sem,execOp,r6,upT];exact⟨Only.refl _ _,rfl,Vo hC (by decide) (by decide)⟩
        ·intro L a w' hL hl hall hC hR;have r36:_=_:=hR 36 (by decide);have hc:w'.cell? _=_:=Xy hA.c62 hC.1 hA.n6;simp[Region.wanted,Jg,go_sem,execOp,r36,hc,upT];exact⟨Only.refl _ _,rfl,Vo hC (by decide) (by decide)⟩
        ·intro L a w' hL hl hall hC hR;have r8:_=_:=hR 8 (by decide);simp[Region.wanted,Jg,go_sem,execOp,r8,upT];exact⟨Only.refl _ _,rfl,Vo hC (by decide) (by decide)⟩
        ·intro L a w' hL hl hall hC hR;have r38:_=_:=hR 38 (by decide);have hc:w'.cell? _=_:=Xy hA.c0 hC.1 hA.n8;simp[Region.wanted,Jg,go_sem,execOp,r38,hc,upT];exact⟨Only.refl _ _,rfl,Vo hC (by decide) (by decide)⟩
        ·intro L a w' hL hl hall hC hR;have r8:_=_:=hR 8 (by decide);simp[Region.wanted,Jg,go_sem,execOp,r8,upT];exact⟨Only.refl _ _,rfl,Vo hC (by decide) (by decide)⟩
        ·intro L a w' hL hl hall hC hR;have r40:_=_:=hR 40 (by decide);have hc:w'.cell? _=_:=Xy hA.c1 hC.1 hA.n8;simp[Region.wanted,Jg,go_sem,execOp,r40,hc,upT];exact⟨Only.refl _ _,rfl,Vo hC (by decide) (by decide)⟩
        ·intro L a w' hL hl hall hC hR;have r8:_=_:=hR 8 (by decide);simp[Region.wanted,Jg,go_sem,execOp,r8,upT];exact⟨Only.refl _ _,rfl,Vo hC (by decide) (by decide)⟩
        ·intro L a w' hL hl hall hC hR;have r42:_=_:=hR 42 (by decide);have hc:w'.cell? _=_:=Xy hA.c2 hC.1 hA.n8;simp[Region.wanted,Jg,go_sem,execOp,r42,hc,upT];exact⟨Only.refl _ _,rfl,Vo hC (by decide) (by decide)⟩
        ·intro L a w' hL hl hall hC hR;have r8:_=_:=hR 8 (by decide);simp[Region.wanted,Jg,go_sem,execOp,r8,upT];exact⟨Only.refl _ _,rfl,Vo hC (by decide) (by decide)⟩
        ·intro L a w' hL hl hall hC hR;have r44:_=_:=hR 44 (by decide);have hc:w'.cell? _=_:=Xy hA.c3 hC.1 hA.n8;simp[Region.wanted,Jg,go_sem,execOp,r44,hc,upT];exact⟨Only.refl _ _,rfl,Vo hC (by decide) (by decide)⟩
        ·intro L a w' hL hl hall hC hR;have r45:_=_:=hR 45 (by decide);simp[Region.wanted,Jg,go_sem,execOp,r45,upT];have hw:=hC.1.size;refine(jee _ (hA.sl.keep fun z hz=>hC.1.block z (hA.sl.lt z hz) (hA.ng z hz)) sV sF).mono ?_;rintro e w4 ⟨vv,rfl,hvv,hb4⟩;obtain⟨Av,cv,rfl,_,_⟩:=hvv.form;exact⟨_,rfl,Only.of_below hb4 _,⟨Av,cv,rfl,hvv.low hw⟩,jgc hC (.inl rfl) hl hb4⟩
        ·intro L a w' hL hl hall hC hR;have r39:_=_:=hR 39 (by decide);have r41:_=_:=hR 41 (by decide);have r43:_=_:=hR 43 (by decide);obtain⟨Av,cv,r46,hv⟩:GotVers _ _ _ _:=hR 46 (by decide);rw[r46] at hv;simp[Region.wanted,Jg,go_sem,execOp,r39,r41,r43,r46,upT];exact⟨Only.refl _ _,⟨_,rfl,Av,cv,rfl,hv⟩,Vo hC (by decide) (by decide)⟩
        ·intro L a w' hL hl hall hC hR;obtain⟨u,r47,Av,cv,rfl,hv⟩: ∃u,_=jeo _ u∧GotVers _ _ u _:=hR 47 (by decide);unfold jeo at r47;have hw:=hC.1.size;simp[Region.wanted,Jg,go_sem,execOp,r47,upT];exact⟨Only.of_below ((Below.refl _ _).alloc nle _) _,⟨_,_,rfl,Blk.new _ _ _,hw,Av,cv,rfl,hv.alloc _⟩,jgc hC (.inr rfl) hl ((Below.refl _ _).alloc nle _)⟩
        ·intro L a w' hL hl hall hC hR;have r37:_=_:=hR 37 (by decide);obtain⟨u,g,r48,hg,hgl,Av,cv,rfl,hv⟩: ∃u g,_=Value.slice (some ⟨g,0,none⟩) 1 1∧Blk _ g _ _∧_≤g∧GotVers _ _ u _:=hR 48 (by decide);rcases hC.2 with ⟨_,hb⟩|⟨h1,_⟩
         ·obtain⟨xs,ho,hgrow⟩:=HOI.out.grow;obtain⟨hoA,hsn⟩:=hgrow (Below.t HK8.out hb);rw[HKj.out] at hoA;obtain⟨fq,hows,hnd,hlo,hfr⟩:=hv;have hs9:=hsn (ys:=[.string y.name,.bool y.guard,.int .i64 y.count,.slice Av y.Vz.length cv]) (y:=y) ⟨_,rfl,hows⟩ hnd (fun z hz=>Nat.le_trans HK8.out.size (hlo z hz)) HLW.out hfr rfl;rw[HKj.out] at hs9
          obtain⟨g',cap,w5,hr,ho2,hgr,hor,_⟩:=run_append_lies (P:=Tryz.prog) w' 46 46 0 52 i0 _ 4 56 Tryz.underlying46 hi0 hz0 hz1 hz2 rfl (by decide) v2 j xs hoA ⟨g,0,none⟩ 1 1 [.string y.name,.bool y.guard,.int .i64 y.count,.slice Av y.Vz.length cv] rfl (World.news_of_block hg) (by intro u hu;simp at hu;rcases hu with rfl|rfl|rfl|rfl<;>rfl) (by decide) (by have:=HRL.out;unfold maxLen;omega) (by have:=HRL.out;omega) (Nat.zero_le _) w'.heap.size rfl
          have hnew:=hs9 g' cap w5 ho2 hgr hor;rw[if_pos (show Region.wanted _ _=true from rfl)];simp only[execOp,resolve,invoke,builtin,Sem.run_bind,Sem.run_pure,Result.andThen_ok,List.map_toArray,List.map_cons,List.map_nil,Wm,r37,r48,hr,upT];have hL13:13<L.size:=by rw[hL];decide
          have g10:=hall ⟨10,.chain⟩ (by simp) (by decide);have g12:=hall ⟨12,.data⟩ (by simp) (by decide);refine⟨trivial,Yr hgr,trivial,Yr hgr |> hC.1.trans,.inr ⟨by simp[hL13],by rw[getD_set_ne false (by decide)];exact g10,by rw[getD_set_ne false (by decide)];exact g12, ?_⟩⟩
          ·rw[HTj.out];exact hnew
         ·rw[h1] at hl;cases hl
        ·intro L a w' hL hl hall hC hR;have r6:_=_:=hR 6 (by decide);simp[Region.wanted,Jg,go_sem,execOp,r6,upT];exact⟨Only.refl _ _,rfl,Vo hC (by decide) (by decide)⟩
       ·intro l w4 τ hall hC;simp only[List.take_succ_cons,List.take_zero,jdb];intro v36 h36 v37 h37 v38 h38 v39 h39 v40 h40 v41 h41 v42 h42 v43 h43 v44 h44 v45 h45 v46 h46 v47 h47 v48 h48 v49 _ v50 h50 hτ;obtain rfl:v36=_:=h36;obtain rfl:v37=_:=h37;obtain rfl:v38=_:=h38;obtain rfl:v39=_:=h39;obtain rfl:v40=_:=h40;obtain rfl:v41=_:=h41;obtain rfl:v42=_:=h42;obtain rfl:v43=_:=h43
        obtain rfl:v44=_:=h44;obtain rfl:v45=_:=h45;obtain rfl:v50=_:=h50;have e49:τ 49=v49:=by rw[←hτ];simp[tau,Act.put]
        have hrow:OwB Rp.refO 52 wn.heap.size v49 (x.Rz[k].Fz.take (j+1)) w4:=by
         rcases hC.2 with ⟨h,_⟩|⟨_,_,_,h⟩
         ·rw[hall 13 (by decide)] at h;cases h
         ·rwa [e49] at h
        have k6':=k6.only hC.1 hA.n6;have c62:w4.cell? ⟨b6,2,none⟩=some v37:=k6'.cell 2;have z62:=Jb k6' 2;have hon:Only [b6] wn w4:=((HNI.out.then_below HK8.out).then_only hC.1 (fun z hz=> .inr (HOI.out.vlow z hz)));obtain⟨A49,c49,hv49,_,_⟩:=hrow.form;rw[show(x.Rz[k].Fz.take (j+1)).length=j+1 by simp;omega] at hv49;subst hv49
        have HREL:=Ja (show jmc x.Rz[k] wn b6 AR cR (j+1) (w4.setCell ⟨b6,2,none⟩ _) from⟨_,k6'.put 2 _,hrow.only (Js w4 b6 2 _) (by intro z hz;simp at hz;omega),hon.trans (Js w4 b6 2 _)⟩);clear hrow hon k6 k6' hA hC h46 h47 h48 e49 hτ hs3 k8;go_wp2;exact⟨⟨j+1,by omega,by go_num,HREL.out⟩,by simp[intOf];omega⟩
      ·have hj':j=x.Rz[k].Fz.length:=by omega
       subst hj';have HE:=Ja (show x.Rz[k].Fz.take x.Rz[k].Fz.length=x.Rz[k].Fz from List.take_of_length_le nle);have HBW:=Ja (show Below wo.heap.size wo wr from(Below.t HKR.out HNX.out.2.2.2.2.2.2).trans (HNI.out.below (fun z hz=>by simp at hz;rw[hz];have:=HNX.out.2.2.2.2.1;have:=HKR.out.size;omega) (by have:=HKR.out.size;have:=HNX.out.2.2.2.2.2.2.size;omega)))
       have hown2:=HOI.out;rw[HE.out] at hown2;obtain⟨A2v,c2v,rfl,_,_⟩:=hown2.form;obtain⟨fq,hows,hnd,hlo,hfr⟩:=hown2;obtain⟨hkn,hsR,nR,lR,hb6,frR,hbn⟩:=HNX.out;have hRR:=hsR.keep (w':=wr) fun z hz=>HNI.out.block z (hsR.lt z hz) (by simp;exact(lR z hz).2);have hltR: ∀z∈fR,z<wn.heap.size:=hsR.lt;have hfrR:=frR.keep (w':=wr) fun z hz=>HNI.out.block z (hltR z hz) (by simp;exact(lR z hz).2)
       have hRepo:Rp.repoO.R wr [.int .i64 x.Rz[k].Az,.slice AR x.Rz[k].Uz.length cR,.slice A2v x.Rz[k].Fz.length c2v] x.Rz[k] (fR++fq):=⟨_,_,_,fR,_,fq,rfl,rfl,hRR,hows⟩;have hndR:(fR++fq).Nodup:=List.nodup_append.2 ⟨nR,hnd,fun a ha b hb e=>by subst e;have:=hltR a ha;have:=hlo a hb;omega⟩;have hloR: ∀z∈fR++fq,wo.heap.size≤z:=fun z hz=>by
        rcases List.mem_append.1 hz with hz|hz
        ·have:=(lR z hz).1;have:=HKR.out.size;omega
        ·have:=hlo z hz;have:=hbn.size;have:=HKR.out.size;omega
       have hfrA:=hfrR.append hfr;have kB:=KBR.out.step HBW.out;obtain⟨xs,hoo,hgrow⟩:=HOW.out.grow;obtain⟨hoA,hsn⟩:=hgrow (HBW.out.alloc HBW.out.size (.cells #[.int .i64 x.Rz[k].Az,.slice AR x.Rz[k].Uz.length cR,.slice A2v x.Rz[k].Fz.length c2v] 48))
       have HSZ:=Ja (show(wr.alloc (.cells #[.int .i64 x.Rz[k].Az,.slice AR x.Rz[k].Uz.length cR,.slice A2v x.Rz[k].Fz.length c2v] 48)).heap.size=wr.heap.size+1 by simp)
       have hs9:=hsn (ys:=[.int .i64 x.Rz[k].Az,.slice AR x.Rz[k].Uz.length cR,.slice A2v x.Rz[k].Fz.length c2v]) (y:=x.Rz[k]) (Rp.repoO.below hRepo ((Below.refl wr.heap.size wr).alloc nle (.cells #[.int .i64 x.Rz[k].Az,.slice AR x.Rz[k].Uz.length cR,.slice A2v x.Rz[k].Fz.length c2v] 48)) nle) hndR hloR HON.out.size (hfrA.step ((Below.refl _ _).alloc nle _)) HSZ.out
       rw[show(x.Rz.take k).length=k by simp;omega] at hs9 hoA;have HTk:=Ja (List.take_succ_eq_append_getElem hlt);have HS9:=Ja hs9;have HV:=Ja HOW.out.vlow;have k6:=KBI.out;have cb2:wr.cell? ⟨b,2,none⟩=some v:=kB.cell 2;have zb2:=Jb kB 2;have c60:=Blk.c0 k6;have c61:=Blk.c1 k6;have c62:=Blk.c2 k6;obtain⟨i0,hi0,hz0,hz1,hz2⟩:=info_parts jeb;have HKBb:=Ja kB
       have HONW:=Ja (HON.out.then_below HBW.out);have HNEb:=Ja (show b∉Vm v from fun hm=>by have:=HOW.out.vlow b hm;omega);have sRp:=HS.out.Rz;clear hs9 hsn hgrow hoo hRepo hndR hloR hfrA hfrR hRR hltR hkn hsR nR lR hb6 frR hbn hows hnd hlo hfr k6 kB hs1 HRL HVE HFI HK5 HKB
       go_wp2_with(at_builtin;refine wpList_append_lies _ rfl _ _ 24 rfl 0 48 i0 _ 3 56 Tryz.underlying24 hi0 hz0 hz1 hz2 rfl (by decide) _ _ _ rfl hoA ⟨wr.heap.size,0,none⟩ 1 1 [.int .i64 x.Rz[k].Az,.slice AR x.Rz[k].Uz.length cR,.slice A2v x.Rz[k].Fz.length c2v] rfl rfl (Jm wr _ _) (by intro u hu;simp at hu;rcases hu with rfl|rfl|rfl<;>rfl) (by decide) (by unfold maxLen;omega) (by omega) (Nat.zero_le _) (wr.heap.size+1) HSZ.out ?_)
       intro g' cap w6 ho2 hgr hor hlt2;have HN:=Ja (HS9.out _ _ _ ho2 hgr hor);have k6b:=HKBb.out.alloc (.cells #[.int .i64 x.Rz[k].Az,.slice AR x.Rz[k].Uz.length cR,.slice A2v x.Rz[k].Fz.length c2v] 48);have k6c:=k6b.only (Yr hgr) HNEb.out;have HREL:=Ja (show jh7 x wh b AK cK AU cU (k+1) (w6.setCell ⟨b,2,none⟩ (.slice (some ⟨g',0,none⟩) (k+1) cap)) from
        ⟨_,k6c.put 2 _,by rw[HTk.out];exact HN.out.only (Js w6 b 2 _) (by intro z hz;simp at hz;omega),((HONW.out.alloc _).then_only (Yr hgr) (fun z hz=> .inr (HV.out z hz))).trans (Js w6 b 2 _)⟩)
       have cb2:w6.cell? ⟨b,2,none⟩=some v:=k6c.cell 2;have zb2:=Jb k6c 2;clear ho2 hgr hor hoA k6b k6c;go_wp2;exact⟨⟨k+1,by omega,by go_num,HREL.out⟩,by simp[intOf];omega⟩
   ·have hk':k=x.Rz.length:=by omega
    subst hk';have hown:=HOW.out;rw[show x.Rz.take x.Rz.length=x.Rz from List.take_of_length_le nle] at hown;obtain⟨Av,cv,rfl,_,_⟩:=hown.form;have kB:=KBR.out;have k2o:=k2.step HBR.out;have c0:=Blk.c0 kB;have c1:=Blk.c1 kB;have c2:=Blk.c2 kB;have d0:=Blk.c0 k2o;have d1:=Blk.c1 k2o;have d2:=Blk.c2 k2o;have y0:=Jb k2o 0;have y1:=Jb k2o 1;have y2:=Jb k2o 2
    have R:=Ja (((k2o.put 0 (.slice AK x.keys.length cK)).put 1 (.slice AU x.used.length cU)).put 2 (.slice Av x.Rz.length cv))
    have RO:=Ja ((((Only.refl [w.heap.size+1] wo).setCell (p:=⟨w.heap.size+1,0,none⟩) (.inl (by simp)) (.slice AK x.keys.length cK)).setCell (p:=⟨w.heap.size+1,1,none⟩) (.inl (by simp)) (.slice AU x.used.length cU)).setCell (p:=⟨w.heap.size+1,2,none⟩) (.inl (by simp)) (.slice Av x.Rz.length cv));have HOWN:=Ja hown;clear kB k2o k2 hown HOW h2 K1;go_wp2_with fail;have R:=R.out;have RO:=RO.out
    generalize((wo.setCell ⟨w.heap.size+1,0,none⟩ (.slice AK x.keys.length cK)).setCell ⟨w.heap.size+1,1,none⟩ (.slice AU x.used.length cU)).setCell ⟨w.heap.size+1,2,none⟩ (.slice Av x.Rz.length cv)=W at R RO ⊢;have e0:=Blk.c0 R;have e1:=Blk.c1 R;have e2:=Blk.c2 R
    refine bodyPost_ret (v:= .agg #[.slice AK x.keys.length cK,.slice AU x.used.length cU,.slice Av x.Rz.length cv]) (by simp[results,Tryz.results35,go_sem,e0,e1,e2]) rfl ?_;obtain⟨hsK,hsU,nK,nU,dK,dU,frK,frU⟩:=HKU.out;have hs0:=HSZ0.out;have hsb:=HBR.out.size;obtain⟨fq,hows,hnd,hlo,hfr⟩:=HOWN.out.only RO (by intro z hz;simp at hz;have:=HB1.out.size;omega);have hKb: ∀z∈fK,z<wh.heap.size:=hsK.lt
    have hUb: ∀z∈fU,z<wh.heap.size:=hsU.lt;have eK: ∀z∈fK,W.heap[z]? =wh.heap[z]? :=fun z hz=>(RO.block z (by have:=hKb z hz;have:=HON.out.size;omega) (by simp;have:=(dK z hz).1;omega)).trans (HON.out.block z (hKb z hz) (by simp;exact(dK z hz).2.1))
    have eU: ∀z∈fU,W.heap[z]? =wh.heap[z]? :=fun z hz=>(RO.block z (by have:=hUb z hz;have:=HON.out.size;omega) (by simp;have:=(dU z hz).1;omega)).trans (HON.out.block z (hUb z hz) (by simp;exact(dU z hz).2));have hf': ∀z∈fq,wh.heap.size≤z:=hlo;have hHw:=HB1.out.size
    exact⟨[.slice AK x.keys.length cK,.slice AU x.used.length cU,.slice Av x.Rz.length cv],fK++(fU++fq),rfl,⟨_,_,_,fK,_,_,_,fU,_,fq,rfl,rfl,hsK.keep eK,hsU.keep eU,hows⟩,
     List.nodup_append.2 ⟨nK,List.nodup_append.2 ⟨nU,hnd,fun a ha b hb e=>by subst e;have:=hUb a ha;have:=hf' a hb;omega⟩,fun a ha b hb e=>by
      subst e;rcases List.mem_append.1 hb with hb|hb
      ·exact(dK a ha).2.2 hb
      ·have:=hKb a ha;have:=hf' a hb;omega⟩,
     fun z hz=>by
      rcases List.mem_append.1 hz with hz|hz
      ·have:=(dK z hz).1;omega
      ·rcases List.mem_append.1 hz with hz|hz
       ·have:=(dU z hz).1;omega
       ·have:=hf' z hz;omega,
     (frK.keep eK).append ((frU.keep eU).append (hfr)),HB0.out.trans ((HBR.out.mono (by omega)).trans (RO.below (by intro z hz;simp at hz;omega) (by omega)))⟩
theorem jab {α:Type} {r:Rp α} {P:Program} (w:World) (t ty e:TypeId) (i:TypeInfo) (z:Value) (bytes:Nat) (ht:P.underlying t=some (.slice e)) (hi:P.info? e=some i) (hz:i.zero=some z)
  (hsize:i.size=r.k) (hby:i.bytes=bytes) (hzs:z.cells.size=r.k) (_hsz:0<r.k) {g:Nat} (hg:Blk w g e #[]) {A:Option Addr} {m c:Nat} {l:List α} {fp:List Nat} (hS:SlR r w A m c l fp) (hbytes:m*bytes≤140737488355328) (hm22:m≤4194304):
  ∃v' w' zs f1,(Builtin.append_ #[t,t] ty #[.slice (some ⟨g,0,none⟩) 0 0,.slice A m c]).run P w= .ok v' w'∧AllR r w zs l f1∧(∀b∈f1,b∈fp)∧w'.ownsRow 0 e r.k v' m zs∧Below w.heap.size w w'∧(v'.ownBlock=some g∨v'.ownBlock=some w.heap.size):=by
 obtain⟨hm,hmc,hcx,zs,f0,f1,hsl,hal,hf⟩:=hS;have hsub: ∀b∈f1,b∈fp:=fun b hb=>by rw[hf];exact List.mem_append_right _ hb
 have hown:w.ownsRow 0 e r.k (.slice (some ⟨g,0,none⟩) 0 0) 0 []:=⟨by simp,.inr ⟨g,0,#[],rfl,Nat.zero_le _,hg,Nat.le_refl _,by simp[maxLen],by simp,by simp⟩⟩;by_cases h0:m=0
 ·subst h0;have hz0:zs= []:=List.eq_nil_of_length_eq_zero (by simpa using hsl.1);subst hz0;cases A with
  |none=>exact⟨_,w,[],f1,Zb (P:=P) (w:=w) 0 t ty e i r.k ht hi _ 0 [] hown c,hal,hsub,hown,Below.refl _ _,.inl rfl⟩
  |some ad=>
   have hr:=run_append_room (P:=P) w t ty e i ht hi g 0 0 #[] hg ad 0 c [] (by simp) (by simp) (by simp) nle (by simp);simp only[Nat.zero_mul,Array.toList_empty,List.take_nil,List.append_nil,List.drop_nil,Nat.add_zero] at hr;rw[show(#[]:Array Value)=([]:List Value).toArray from rfl] at hg;rw[setRow_self w g _ e (0,0) hg] at hr;exact⟨_,w,[],f1,hr,hal,hsub,hown,Below.refl _ _,.inl rfl⟩
 ·rcases hsl.2 with ⟨h,_⟩|⟨_,b,o',rfl,_,_,hc⟩
  ·exact absurd h h0
  ·have hr:=run_append_grow (P:=P) w t ty e i z ht hi hz ⟨g,0,none⟩ 0 0 [] (by simp) (by simp) ⟨b,o',none⟩ m c zs (by rw[hsize];exact hsl.1) (fun j u hu=>by rw[Addr.add_lit];exact hc j u hu) (by omega) (by omega) (growslice_fits (by omega) (by rw[hby,Nat.zero_add];exact hbytes))
   refine⟨_,_,zs,f1,hr,hal,hsub,⟨hsl.1,.inr ⟨w.heap.size,_,_,by rw[Nat.zero_add],Nat.zero_le _,heap_alloc_new w.drew _,by have:=grownCap_ge w (0+m) 0 e;omega,grownCap_le_maxLen w (0+m) 0 e (by unfold maxLen;omega), ?_, ?_⟩⟩,((Below.refl _ _).drew).alloc nle _,.inr rfl⟩
   ·have hge:=grownCap_ge w (0+m) 0 e;have hl:=hsl.1;simp only[Array.size_append,List.size_toArray,size_zeroCells,hzs,hl,List.length_nil];rw[Nat.zero_add] at hge ⊢;rw[Nat.zero_add,←Nat.add_mul]
    congr 1
    omega
   ·simp only[Array.toList_append,List.nil_append];rw[←hsl.1];exact List.take_left
def RowOf {α:Type} (r:Rp α) (l:List α) (v:Value) (w:World):Prop:=∃A c f,v= .slice A l.length c∧SlR r w A l.length c l f∧f.Nodup∧Free w f∧∀z∈f,z∈vbk v
theorem RowOf.step {α:Type} {r:Rp α} {l:List α} {v:Value} {w w':World} (h:RowOf r l v w) (hb:Below w.heap.size w w'):RowOf r l v w':=by
 obtain⟨A,c,f,e,h1,h2,h3,h4⟩:=h;exact⟨A,c,f,e,h1.step hb,h2,h3.step hb,h4⟩
theorem RowOf.of_owns {α:Type} {k:Nat} {enc:α→List Value} {hk: ∀x,(enc x).length=k} {h1: ∀x,∀u∈enc x,u.oneCell'=true} {w w0:World} {e:TypeId} {v:Value} {l:List α} {zs:List Value} {f1:List Nat}
  (h:w.ownsRow 0 e k v l.length zs) (ha:AllR (Rp.flat k enc hk h1) w0 zs l f1):RowOf (Rp.flat k enc hk h1) l v w:=by
 obtain⟨rfl,rfl⟩:=AllR.flat.1 ha;obtain⟨A,c,f0,rfl,hs,h0,hn,hf⟩:=SlR.of_owns (r:=Rp.flat k enc hk h1) (f1:=[]) h (AllR.flat.2 ⟨rfl,rfl⟩);refine⟨A,c,f0,rfl,by simpa using hs,hn,hf,fun z hz=> ?_⟩;have:=(h0 z hz).1;cases A with
 |none=>simp[Value.ownBlock] at this
 |some a=>simp[Value.ownBlock] at this;simp[vbk,this]
theorem jd5 {v:Value} {A:Option Addr} {n c:Nat} (h:v= .slice A n c) {z:Nat} (hz:z∈vbk v):v.ownBlock=some z:=by
 subst h;cases A with
 |none=>simp[vbk] at hz
 |some a=>simp[vbk] at hz;simp[Value.ownBlock,hz]
def BelowT (w w':World):Prop:=Below w.heap.size w w'
theorem BelowT.refl (w:World):BelowT w w:=Below.refl _ _
def jqs (x:Jl) (H:Nat) (p:Value) (w:World):Prop:=∃b AU cU f,p= .pointer (some ⟨b,0,none⟩)∧w.cell? ⟨b,1,none⟩=some (.slice AU x.used.length cU)∧OwS Rp.int 3 w (.slice AU x.used.length cU) x.used f∧∀z∈f,H≤z∧z≠b
def FreshH (w:World) (x:Jl) (e:Ending) (w':World):Prop:=
 ∃A0 c0 A1 c1 v fp fw,e= .returned (.agg #[.slice A0 x.keys.length c0,.slice A1 x.used.length c1,v])∧Rp.houseO.R w' [.slice A0 x.keys.length c0,.slice A1 x.used.length c1,v] x fp∧fp.Nodup∧(∀b∈fp,w.heap.size≤b)∧Free w' fp∧OwS Rp.int 3 w' (.slice A1 x.used.length c1) x.used fw∧(∀b∈fw,w.heap.size≤b)∧Below w.heap.size w w'
def RowU (l:List Int) (v:Value) (w:World):Prop:=RowOf Rp.int l v w∧∃f,OwS Rp.int 3 w v l f∧∀z∈f,z∈vbk v
theorem RowU.step {l:List Int} {v:Value} {w w':World} (h:RowU l v w) (hb:Below w.heap.size w w'):RowU l v w':=by
 obtain⟨h1,f,h2,h3⟩:=h;exact⟨h1.step hb,f,h2.step hb,h3⟩
def cpΓ (x:Jl) (b1:Nat) (A0:Option Addr) (c0:Nat) (A1:Option Addr) (c1:Nat):Xr:=fun t v w=>match t with
 | 1=>v= .pointer (some ⟨b1,0,none⟩)
 | 8=>∃g,v= .slice (some ⟨g,0,none⟩) 0 0∧Blk w g 3 #[]
 | 9=>v= .pointer (some ⟨b1,0,none⟩)
 | 10=>v= .slice A0 x.keys.length c0
 | 11=>RowOf Rp.int x.keys v w
 | 12=>∃g,v= .slice (some ⟨g,0,none⟩) 0 0∧Blk w g 3 #[]
 | 13=>v= .pointer (some ⟨b1,1,none⟩)
 | 14=>v= .slice A1 x.used.length c1
 | 15=>RowU x.used v w
 | 3=>∃b,v= .pointer (some ⟨b,0,none⟩)∧Blk w b 26 H0
 |_=>True
theorem jo9 (x:Jl) (b1:Nat) (A0:Option Addr) (c0:Nat) (A1:Option Addr) (c1:Nat):Zx BelowT (cpΓ x b1 A0 c0 A1 c1):=fun t v w w' h ho=>by
 unfold BelowT at ho;unfold cpΓ at*;split at h<;>first|exact h|exact h.step ho|(obtain⟨g,e,h⟩:=h;exact⟨g,e,h.step ho⟩)
def cpGr:Tmp→Option (Nat×Nat):=fun t=>match t with
 | 8=>some (0,0)
 | 11=>some (0,3)
 | 12=>some (1,4)
 | 15=>some (1,7)
 | 3=>some (2,9)
 |_=>none
def cpC (w0:World) (L:Array Bool) (τ:Tmp→Value) (w:World):Prop:=
 Below w0.heap.size w0 w∧Apart cpGr w0.heap.size L τ w∧(L.getD 8 false=true→L.getD 3 false=true∧L.getD 7 false=true∧τ 16= .agg #[τ 11,τ 15,.slice none 0 0])
theorem jji {i:Nat} : ∀(s g:Nat),cpGr s=some (g,i)→(s=8∧i=0)∨(s=11∧i=3)∨(s=12∧i=4)∨(s=15∧i=7)∨(s=3∧i=9):=fun s g h=>by
 unfold cpGr at h;split at h<;>cases h<;>simp
theorem Zk {L:Array Bool} {i j:Nat} (h:L.getD j false=true):(L.setIfInBounds i true).getD j false=true:=by
 by_cases e:i=j
 ·subst e;have:i<L.size:=by
   rcases Nat.lt_or_ge i L.size with h'|h'
   ·exact h'
   ·simp[Array.getD,Nat.not_lt.2 h'] at h
  simp[this]
 ·rw[getD_set_ne false e];exact h
theorem jdx {w0 w:World} {L:Array Bool} {τ:Tmp→Value} {i d:Nat} {u:Value} (h:cpC w0 L τ w) (hi:i=1∨i=2∨i=5∨i=6) (hd:d≠8∧d≠11∧d≠12∧d≠15∧d≠3∧d≠16):cpC w0 (L.setIfInBounds i true) (jaf τ (some d) u) w:=by
 obtain⟨h1,h2,h3⟩:=h;refine⟨h1,h2.same (fun s hs=>by cases hs;unfold cpGr;split<;>first|rfl|omega) (fun s g hg=>by have:=jji s g hg;omega) nle,fun h8=> ?_⟩;rw[getD_set_ne false (by omega)] at h8;obtain⟨k1,k2,k3⟩:=h3 h8;refine⟨Zk k1,Zk k2, ?_⟩;have e: ∀(s:Nat),s≠d→jaf τ (some d) u s=τ s:=fun s hs=>by simp[jaf,hs]
 rw[e 16 (by omega),e 11 (by omega),e 15 (by omega)];exact k3
theorem jdy {w0 w w':World} {L:Array Bool} {τ:Tmp→Value} {i d g:Nat} {u:Value} (h:cpC w0 L τ w) (hd:cpGr d=some (g,i)) (hl:L.getD i false=false) (hi:i≠8) (hb:Below w.heap.size w w')
  (hu: ∀z∈vbk u,(w.heap.size≤z∧z<w'.heap.size)∨∃s j,s≠d∧cpGr s=some (g,j)∧L.getD j false=true∧z∈vbk (τ s)):cpC w0 (L.setIfInBounds i true) (jaf τ (some d) u) w':=by
 obtain⟨h1,h2,h3⟩:=h;have hone: ∀(s k:Nat),cpGr s=some (k,i)→s=d:=fun s k hs=>by have:=jji s k hs;have:=jji d g hd;omega
 refine⟨Below.t h1 hb,h2.next hd hone hb.size h1.size hu,fun h8=> ?_⟩;rw[getD_set_ne false hi] at h8;obtain⟨k1,k2,k3⟩:=h3 h8;have e: ∀(s:Nat),s≠d→jaf τ (some d) u s=τ s:=fun s hs=>by simp[jaf,hs]
 have hd':=jji d g hd;have n11:d≠11:=fun e=>by
  have hi3:i=3:=by omega
  rw[hi3,k1] at hl;cases hl
 have n15:d≠15:=fun e=>by
  have hi7:i=7:=by omega
  rw[hi7,k2] at hl;cases hl
 refine⟨Zk k1,Zk k2, ?_⟩;rw[e 16 (by omega),e 11 (Ne.symm n11),e 15 (Ne.symm n15)];exact k3
def c6Γ (p:Xq) (b5:Nat) (B0:Option Addr) (d0:Nat):Xr:=fun t v w=>match t with
 | 5=>v= .pointer (some ⟨b5,0,none⟩)
 | 29=>v= .pointer (some ⟨b5,0,none⟩)
 | 30=>v= .int .i64 p.Az
 | 31=>∃g,v= .slice (some ⟨g,0,none⟩) 0 0∧Blk w g 29 #[]
 | 32=>v= .pointer (some ⟨b5,1,none⟩)
 | 33=>v= .slice B0 p.Uz.length d0
 | 34=>RowOf Rp.rule p.Uz v w
 | 6=>∃b,v= .pointer (some ⟨b,0,none⟩)∧Blk w b 48 #[.int .i64 0,.slice none 0 0,.slice none 0 0]
 |_=>True
theorem jpb (p:Xq) (b5:Nat) (B0:Option Addr) (d0:Nat):Zx BelowT (c6Γ p b5 B0 d0):=fun t v w w' h ho=>by
 unfold BelowT at ho;unfold c6Γ at*;split at h<;>first|exact h|exact h.step ho|(obtain⟨g,e,h⟩:=h;exact⟨g,e,h.step ho⟩)
def c6Gr:Tmp→Option (Nat×Nat):=fun t=>match t with
 | 31=>some (0,2)
 | 34=>some (0,5)
 | 6=>some (1,7)
 |_=>none
def c6C (adm:Int) (w0:World) (L:Array Bool) (τ:Tmp→Value) (w:World):Prop:=
 Below w0.heap.size w0 w∧Apart c6Gr w0.heap.size L τ w∧(L.getD 6 false=true→L.getD 5 false=true∧τ 35= .agg #[.int .i64 adm,τ 34,.slice none 0 0])
theorem jf3 {i:Nat} : ∀(s g:Nat),c6Gr s=some (g,i)→(s=31∧i=2)∨(s=34∧i=5)∨(s=6∧i=7):=fun s g h=>by
 unfold c6Gr at h;split at h<;>cases h<;>simp
theorem jd1 {adm:Int} {w0 w:World} {L:Array Bool} {τ:Tmp→Value} {i d:Nat} {u:Value} (h:c6C adm w0 L τ w) (hi:i=0∨i=1∨i=3∨i=4) (hd:d≠31∧d≠34∧d≠6∧d≠35):c6C adm w0 (L.setIfInBounds i true) (jaf τ (some d) u) w:=by
 obtain⟨h1,h2,h3⟩:=h;refine⟨h1,h2.same (fun s hs=>by cases hs;unfold c6Gr;split<;>first|rfl|omega) (fun s g hg=>by have:=jf3 s g hg;omega) nle,fun h8=> ?_⟩;rw[getD_set_ne false (by omega)] at h8;obtain⟨k1,k3⟩:=h3 h8;refine⟨Zk k1, ?_⟩;have e: ∀(s:Nat),s≠d→jaf τ (some d) u s=τ s:=fun s hs=>by simp[jaf,hs]
 rw[e 35 (by omega),e 34 (by omega)];exact k3
theorem jh5 {adm:Int} {w0 w w':World} {L:Array Bool} {τ:Tmp→Value} {i d g:Nat} {u:Value} (h:c6C adm w0 L τ w) (hd:c6Gr d=some (g,i)) (hl:L.getD i false=false) (hi:i≠6) (hb:Below w.heap.size w w')
  (hu: ∀z∈vbk u,(w.heap.size≤z∧z<w'.heap.size)∨∃s j,s≠d∧c6Gr s=some (g,j)∧L.getD j false=true∧z∈vbk (τ s)):c6C adm w0 (L.setIfInBounds i true) (jaf τ (some d) u) w':=by
 obtain⟨h1,h2,h3⟩:=h;have hone: ∀(s k:Nat),c6Gr s=some (k,i)→s=d:=fun s k hs=>by have:=jf3 s k hs;have:=jf3 d g hd;omega
 refine⟨Below.t h1 hb,h2.next hd hone hb.size h1.size hu,fun h8=> ?_⟩;rw[getD_set_ne false hi] at h8;obtain⟨k1,k3⟩:=h3 h8;have e: ∀(s:Nat),s≠d→jaf τ (some d) u s=τ s:=fun s hs=>by simp[jaf,hs]
 have hd':=jf3 d g hd;have n11:d≠34:=fun e=>by
  have hi3:i=5:=by omega
  rw[hi3,k1] at hl;cases hl
 refine⟨Zk k1, ?_⟩;rw[e 35 (by omega),e 34 (Ne.symm n11)];exact k3
structure C10At (p:Xq) (j:Nat) (y:Ref) (w8:World) (b5 b6 br orr:Nat) (v2:Value) (B:Option Addr) (d:Nat) (g:List Nat) (d1:Nat):Prop where
 c62:w8.cell? ⟨b6,2,none⟩=some v2
 c52:w8.cell? ⟨b5,2,none⟩=some (.slice (some ⟨br,orr,none⟩) p.Fz.length d1)
 c0:w8.cell? ⟨br,orr+j*4,none⟩=some (.string y.name)
 c1:w8.cell? ⟨br,orr+j*4+1,none⟩=some (.bool y.guard)
 c2:w8.cell? ⟨br,orr+j*4+2,none⟩=some (.int .i64 y.count)
 c3:w8.cell? ⟨br,orr+j*4+3,none⟩=some (.slice B y.Vz.length d)
 sl:SlR (Rp.slice Rp.file) w8 B y.Vz.length d y.Vz g
 n6:b6∉Vm v2
 n5:b5∉Vm v2
 nr:br∉Vm v2
 vl: ∀z∈Vm v2,z<w8.heap.size
 ng: ∀z∈g,z∉Vm v2
def c10Γ (p:Xq) (j:Nat) (y:Ref) (w8:World) (b5 b6 br orr:Nat) (v2:Value) (B:Option Addr) (d d1:Nat):Xr:=fun t v w=>match t with
 | 6=>v= .pointer (some ⟨b6,0,none⟩)
 | 5=>v= .pointer (some ⟨b5,0,none⟩)
 | 7=>v= .int .i64 (j:Int)
 | 43=>v= .pointer (some ⟨b6,2,none⟩)
 | 44=>v=v2
 | 45=>v= .pointer (some ⟨b5,2,none⟩)
 | 46=>v= .slice (some ⟨br,orr,none⟩) p.Fz.length d1
 | 47=>v= .int .i64 (j:Int)
 | 48=>v= .pointer (some ⟨br,orr+j*4,none⟩)
 | 49=>v=jeo y (.slice B y.Vz.length d)
 | 50=>∃u,v=jeo y u∧GotVers y w8.heap.size u w
 | 51=>∃u g,v= .slice (some ⟨g,0,none⟩) 1 1∧Blk w g 52 #[.string y.name,.bool y.guard,.int .i64 y.count,u]∧w8.heap.size≤g∧GotVers y w8.heap.size u w
 | 53=>v= .pointer (some ⟨b6,2,none⟩)
 |_=>True
theorem jnn (p:Xq) (j:Nat) (y:Ref) (w8:World) (b5 b6 br orr:Nat) (v2:Value) (B:Option Addr) (d d1:Nat) (hv: ∀z∈Vm v2,z<w8.heap.size):Zx (Only (Vm v2)) (c10Γ p j y w8 b5 b6 br orr v2 B d d1):=fun t v w w' h ho=>by
 unfold c10Γ at*;split at h<;>first|exact h|exact h.only ho hv|skip
 ·obtain⟨u,e,h⟩:=h;exact⟨u,e,h.only ho hv⟩
 ·obtain⟨u,g,e,h1,h2,h3⟩:=h;exact⟨u,g,e,h1.only ho (fun hm=>by have:=hv g hm;omega),h2,h3.only ho hv⟩
def c10C (l:List Ref) (H:Nat) (v2:Value) (w8:World) (L:Array Bool) (τ:Tmp→Value) (w:World):Prop:=
 Only (Vm v2) w8 w∧((L.getD 9 false=false∧Below w8.heap.size w8 w)∨(L.getD 9 false=true∧L.getD 7 false=true∧L.getD 8 false=true∧OwB Rp.refO 52 H (τ 52) l w))
theorem Z6 {l:List Ref} {H:Nat} {v2:Value} {w8 w:World} {L:Array Bool} {τ:Tmp→Value} {i d:Nat} {u:Value} (h:c10C l H v2 w8 L τ w) (hi:i≠9) (hd:d≠52):c10C l H v2 w8 (L.setIfInBounds i true) (jaf τ (some d) u) w:=by
 obtain⟨h0,h⟩:=h;refine⟨h0, ?_⟩;rw[getD_set_ne false hi];have e52:jaf τ (some d) u 52=τ 52:=by simp[jaf,Ne.symm hd]
 have hm: ∀j,L.getD j false=true→(L.setIfInBounds i true).getD j false=true:=fun j hj=>by
  by_cases e:i=j
  ·subst e;have:i<L.size:=by
    rcases Nat.lt_or_ge i L.size with h|h
    ·exact h
    ·simp[Array.getD,Nat.not_lt.2 h] at hj
   simp[this]
  ·rw[getD_set_ne false e];exact hj
 rcases h with ⟨h1,h2⟩|⟨h1,h2,h3,h4⟩
 ·exact .inl ⟨h1,h2⟩
 ·exact .inr ⟨h1,hm _ h2,hm _ h3,by rw[e52];exact h4⟩
theorem jg5 {l:List Ref} {H:Nat} {v2:Value} {w8 w w':World} {L:Array Bool} {τ:Tmp→Value} {i d:Nat} {u:Value} (h:c10C l H v2 w8 L τ w) (hi:i=7∨i=8) (hl:L.getD i false=false) (hb:Below w.heap.size w w'):c10C l H v2 w8 (L.setIfInBounds i true) (jaf τ (some d) u) w':=by
 obtain⟨h0,h⟩:=h;have hi':i≠9:=by omega
 refine⟨h0.then_below hb, ?_⟩;rw[getD_set_ne false hi'];rcases h with ⟨h1,h2⟩|⟨h1,h2,h3,h4⟩
 ·exact .inl ⟨h1,Below.t h2 hb⟩
 ·rcases hi with rfl|rfl
  ·rw[h2] at hl;cases hl
  ·rw[h3] at hl;cases hl
theorem jfr {cs:List Value} {x:Jl} {fx:List Nat} (w:World) (hx:Rp.house.R w cs x fx) (hs:SmallHouse x):
  Calls Tryz.prog 37 #[.agg cs.toArray] w (FreshH w x):=by
 obtain⟨A0,n0,c0,f0,A1,n1,c1,f1,A2,n2,c2,f2,rfl,hff,h0,h1,h2⟩:=hx;obtain rfl:=h0.1;obtain rfl:=h1.1;obtain rfl:=h2.1;clear hff;have k1:=Blk.new w 26 #[.slice A0 x.keys.length c0,.slice A1 x.used.length c1,.slice A2 x.Rz.length c2];have k2:=Blk.new (w.alloc (.cells #[.slice A0 x.keys.length c0,.slice A1 x.used.length c1,.slice A2 x.Rz.length c2] 26)) 26 H0;replace k1:=k1.alloc (.cells H0 26)
 have HB0:=Ja (((Below.refl w.heap.size w).alloc nle (.cells #[.slice A0 x.keys.length c0,.slice A1 x.used.length c1,.slice A2 x.Rz.length c2] 26)).alloc (by simp) (.cells H0 26));replace h0:=(h0.allocN (.cells #[.slice A0 x.keys.length c0,.slice A1 x.used.length c1,.slice A2 x.Rz.length c2] 26)).allocN (.cells H0 26)
 replace h1:=(h1.allocN (.cells #[.slice A0 x.keys.length c0,.slice A1 x.used.length c1,.slice A2 x.Rz.length c2] 26)).allocN (.cells H0 26);replace h2:=(h2.allocN (.cells #[.slice A0 x.keys.length c0,.slice A1 x.used.length c1,.slice A2 x.Rz.length c2] 26)).allocN (.cells H0 26)
 rw[show(w.alloc (.cells #[.slice A0 x.keys.length c0,.slice A1 x.used.length c1,.slice A2 x.Rz.length c2] 26)).heap.size=w.heap.size+1 by simp] at k2;have HSZ0:=Ja (show((w.alloc (.cells #[.slice A0 x.keys.length c0,.slice A1 x.used.length c1,.slice A2 x.Rz.length c2] 26)).alloc (.cells H0 26)).heap.size=w.heap.size+1+1 by simp);have HS:=Ja hs;clear hs;go_enter Tryz.func37,Tryz.ntmps37
 go_upto_region 1 with fail
 generalize hW0:(w.alloc (.cells #[.slice A0 x.keys.length c0,.slice A1 x.used.length c1,.slice A2 x.Rz.length c2] 26)).alloc (.cells H0 26)=w0 at k1 k2 HB0 HSZ0 h0 h1 h2 ⊢;clear hW0
 go_cut [3] from 8 to 16 (fun p wx=>Half x w0.heap.size w0 p wx∧jqs x w0.heap.size p wx)
 case first=>
  have hc0:=Blk.c0 k1;have hc1:=Blk.c1 k1;obtain⟨i01,hi1,hz1,hzs1,hby1⟩:=info_parts jfw;refine Jz 10 _ rfl (cpC w0) BelowT (cpΓ x w.heap.size A0 c0 A1 c1) (by kernel_rfl) rfl (by kernel_rfl) rfl (jo9 _ _ _ _ _ _) BelowT.refl ⟨⟨(Below.refl _ _).drew,Apart.start _ _ _ _ _,fun h=>by simp[Array.getD] at h⟩,fun s hs=> ?_,by rfl⟩ ?_ ?_
  ·by_cases e1:s=1
   ·subst e1;rfl
   ·have hne:s∉ [8,9,10,11,12,13,14,15,16,3]:=fun hm=>by
     simp only[List.mem_cons,List.not_mem_nil,or_false] at hm;rcases hm with rfl|rfl|rfl|rfl|rfl|rfl|rfl|rfl|rfl|rfl<;>exact absurd hs (by decide)
    simp only[List.mem_cons,List.not_mem_nil,or_false,not_or] at hne;unfold cpΓ;split<;>first|trivial|(exfalso;omega)
  ·intro i p hi hp;have hcases:i=0∨i=1∨i=2∨i=3∨i=4∨i=5∨i=6∨i=7∨i=8∨i=9:=by omega
   rcases hcases with rfl|rfl|rfl|rfl|rfl|rfl|rfl|rfl|rfl|rfl
   all_goals(obtain rfl:=Option.some.inj hp)
   ·intro L a w' hL hl hall hC hR;simp[Region.wanted,Jg,go_sem,execOp,upT];exact⟨(Below.refl _ _).alloc nle _,⟨_,rfl,Blk.new _ _ _⟩,jdy hC rfl hl (by decide) ((Below.refl _ _).alloc nle _) fun z hz=> .inl (by simp[vbk] at hz;subst hz;exact⟨Nat.le_refl _,by simp⟩)⟩
   ·intro L a w' hL hl hall hC hR;have r1:_=_:=hR 1 (by decide);simp[Region.wanted,Jg,go_sem,execOp,r1,upT];exact⟨BelowT.refl _,rfl,jdx hC (by decide) (by decide)⟩
   ·intro L a w' hL hl hall hC hR;have r9:_=_:=hR 9 (by decide);have hc:=Je hc0 hC.1;simp[Region.wanted,Jg,go_sem,execOp,r9,hc,upT];exact⟨BelowT.refl _,rfl,jdx hC (by decide) (by decide)⟩
   ·intro L a w' hL hl hall hC hR;have r10:_=_:=hR 10 (by decide);obtain⟨g,r8,hg⟩: ∃g,_=Value.slice (some ⟨g,0,none⟩) 0 0∧Blk _ g _ _:=hR 8 (by decide);obtain⟨v',w5,zs,f1,hr,hal,_,hown,hb,hor⟩:=jab (r:=Rp.int) (P:=Tryz.prog) w' 23 23 3 i01 _ 8 Tryz.underlying23 hi1 hz1 hzs1 hby1 rfl (by decide) hg (h0.step hC.1) (by have:=HS.out.keys;omega) (by have:=HS.out.keys;omega)
    have hrow:=RowOf.of_owns (k:=1) (enc:=fun n=>[.int .i64 n]) (hk:=fun _=>rfl) (h1:=jhw) hown hal;rw[if_pos (show Region.wanted _ _=true from rfl)];simp only[execOp,resolve,invoke,builtin,Sem.run_bind,Sem.run_pure,Result.andThen_ok,List.map_toArray,List.map_cons,List.map_nil,Wm,r8,r10,hr,upT];obtain⟨A',c',f',hv',_⟩:=id hrow
    refine⟨trivial,hb,hrow,jdy hC rfl hl (by decide) hb fun z hz=> ?_⟩;have hz':=jd5 hv' hz;rcases hor with h|h
    ·rw[h] at hz';cases hz';exact .inr ⟨8,0,by decide,rfl,hall ⟨0,.data⟩ (by simp) (by decide),by show _∈vbk (a.tmps[8]?.getD undef);rw[r8];simp[vbk]⟩
    ·rw[h] at hz';cases hz';have hown':=hown.lt w'.heap.size (by rw[h]);exact .inl ⟨Nat.le_refl _,hown'.2⟩
   ·intro L a w' hL hl hall hC hR;simp[Region.wanted,Jg,go_sem,execOp,upT];exact⟨(Below.refl _ _).alloc nle _,⟨_,rfl,Blk.new _ _ _⟩,jdy hC rfl hl (by decide) ((Below.refl _ _).alloc nle _) fun z hz=> .inl (by simp[vbk] at hz;subst hz;exact⟨Nat.le_refl _,by simp⟩)⟩
   ·intro L a w' hL hl hall hC hR;have r1:_=_:=hR 1 (by decide);simp[Region.wanted,Jg,go_sem,execOp,r1,upT];exact⟨BelowT.refl _,rfl,jdx hC (by decide) (by decide)⟩
   ·intro L a w' hL hl hall hC hR;have r13:_=_:=hR 13 (by decide);have hc:=Je hc1 hC.1;simp[Region.wanted,Jg,go_sem,execOp,r13,hc,upT];exact⟨BelowT.refl _,rfl,jdx hC (by decide) (by decide)⟩
   ·intro L a w' hL hl hall hC hR;have r14:_=_:=hR 14 (by decide);obtain⟨g,r12,hg⟩: ∃g,_=Value.slice (some ⟨g,0,none⟩) 0 0∧Blk _ g _ _:=hR 12 (by decide);obtain⟨v',w5,zs,f1,hr,hal,_,hown,hb,hor⟩:=jab (r:=Rp.int) (P:=Tryz.prog) w' 23 23 3 i01 _ 8 Tryz.underlying23 hi1 hz1 hzs1 hby1 rfl (by decide) hg (h1.step hC.1) (by have:=HS.out.used;omega) (by have:=HS.out.used;omega)
    have hrow:=RowOf.of_owns (k:=1) (enc:=fun n=>[.int .i64 n]) (hk:=fun _=>rfl) (h1:=jhw) hown hal;rw[if_pos (show Region.wanted _ _=true from rfl)];simp only[execOp,resolve,invoke,builtin,Sem.run_bind,Sem.run_pure,Result.andThen_ok,List.map_toArray,List.map_cons,List.map_nil,Wm,r12,r14,hr,upT];obtain⟨A',c',f',hv',_⟩:=id hrow
    have hru:RowU x.used v' w5:=⟨hrow,_,OwS.of_owns (r:=Rp.int) hown (AllR.flat.2 (AllR.flat.1 hal)),fun z hz=>by
     rw[(AllR.flat.1 hal).2,List.append_nil,hv'] at hz;rw[hv'];cases A' with
     |none=>simp[Vm,Value.ownBlock] at hz
     |some a=>simpa [Vm,Value.ownBlock,vbk] using hz⟩
    refine⟨trivial,hb,hru,jdy hC rfl hl (by decide) hb fun z hz=> ?_⟩;have hz':=jd5 hv' hz;rcases hor with h|h
    ·rw[h] at hz';cases hz';exact .inr ⟨12,4,by decide,rfl,hall ⟨4,.data⟩ (by simp) (by decide),by show _∈vbk (a.tmps[12]?.getD undef);rw[r12];simp[vbk]⟩
    ·rw[h] at hz';cases hz';have hown':=hown.lt w'.heap.size (by rw[h]);exact .inl ⟨Nat.le_refl _,hown'.2⟩
   ·intro L a w' hL hl hall hC hR;obtain⟨AK,cK,fK,r11,_⟩:RowOf _ _ _ _:=hR 11 (by decide);obtain⟨AU,cU,fU,r15,_⟩:RowOf _ _ _ _:=(show RowU _ _ _ from hR 15 (by decide)).1;simp[Region.wanted,Jg,go_sem,execOp,r11,r15,upT]
    refine⟨BelowT.refl _,trivial,hC.1,hC.2.1.same (fun s hs=>by cases hs;rfl) (fun s g hg=>by have:=jji s g hg;omega) nle,fun _=>⟨Zk (hall ⟨3,.data⟩ (by simp) (by decide)),Zk (hall ⟨7,.data⟩ (by simp) (by decide)), ?_⟩⟩;simp[jaf,tau,r11,r15]
   ·intro L a w' hL hl hall hC hR;simp[Region.wanted,Jg,go_sem,execOp,upT];exact⟨(Below.refl _ _).alloc nle _,⟨_,rfl,Blk.new _ _ _⟩,jdy hC rfl hl (by decide) ((Below.refl _ _).alloc nle _) fun z hz=> .inl (by simp[vbk] at hz;subst hz;exact⟨Nat.le_refl _,by simp⟩)⟩
  ·intro l w4 τ hall hC;simp only[List.take_succ_cons,List.take_zero,jdb];intro v8 _ v9 _ v10 _ v11 h11 v12 _ v13 _ v14 _ v15 h15 v16 _ v3 h3 hτ;obtain⟨AK,cK,fK,rfl,hK,nK,frK,vK⟩:RowOf _ _ _ _:=h11;obtain⟨⟨AU,cU,fU,rfl,hU,nU,frU,vU⟩,fw,hOU,vW⟩:RowU _ _ _:=h15;obtain⟨b,rfl,hb⟩: ∃b,_=Value.pointer (some ⟨b,0,none⟩)∧Blk _ b _ _:=h3;obtain⟨hB,hA,h8⟩:=hC;obtain⟨_,_,e16⟩:=h8 (hall 8 (by decide))
   have t11:τ 11= .slice AK x.keys.length cK:=by rw[←hτ];simp[tau,Act.put]
   have t15:τ 15= .slice AU x.used.length cU:=by rw[←hτ];simp[tau,Act.put]
   have t3:τ 3= .pointer (some ⟨b,0,none⟩):=by rw[←hτ];simp[tau,Act.put]
   have t16:τ 16=v16:=by rw[←hτ];simp[tau,Act.put]
   rw[t16,t11,t15] at e16;subst e16;have l3:=hall 3 (by decide);have l7:=hall 7 (by decide);have l9:=hall 9 (by decide);have dKU: ∀z∈fK,z∉fU:=fun z hz hm=>hA.dj 11 15 0 3 1 7 rfl rfl (by decide) l3 l7 z (by rw[t11];exact vK z hz) (by rw[t15];exact vU z hm);have dKb: ∀z∈fK,z≠b:=fun z hz e=>hA.dj 11 3 0 3 2 9 rfl rfl (by decide) l3 l9 z (by rw[t11];exact vK z hz) (by rw[t3];simp[vbk,e])
   have dUb: ∀z∈fU,z≠b:=fun z hz e=>hA.dj 15 3 1 7 2 9 rfl rfl (by decide) l7 l9 z (by rw[t15];exact vU z hz) (by rw[t3];simp[vbk,e]);have lK: ∀z∈fK,w0.heap.size≤z:=fun z hz=>(hA.lo 11 0 3 rfl l3 z (by rw[t11];exact vK z hz)).1;have lU: ∀z∈fU,w0.heap.size≤z:=fun z hz=>(hA.lo 15 1 7 rfl l7 z (by rw[t15];exact vU z hz)).1
   have dWb: ∀z∈fw,z≠b:=fun z hz e=>hA.dj 15 3 1 7 2 9 rfl rfl (by decide) l7 l9 z (by rw[t15];exact vW z hz) (by rw[t3];simp[vbk,e]);have lW: ∀z∈fw,w0.heap.size≤z:=fun z hz=>(hA.lo 15 1 7 rfl l7 z (by rw[t15];exact vW z hz)).1;have lb:w0.heap.size≤b:=(hA.lo 3 2 9 rfl l9 b (by rw[t3];simp[vbk])).1;have y0:=hb.cell 0;have y1:=hb.cell 1;have y2:=hb.cell 2;have x0:=Jb hb 0
   have x1:=Jb hb 1;have x2:=Jb hb 2;simp at y0 y1 y2;have HH:=Ja (show Half x w0.heap.size w0 (.pointer (some ⟨b,0,none⟩)) (((w4.setCell ⟨b,0,none⟩ (.slice AK x.keys.length cK)).setCell ⟨b,1,none⟩ (.slice AU x.used.length cU)).setCell ⟨b,2,none⟩ (.slice none 0 0)) from
    ⟨b,AK,cK,fK,AU,cU,fU,rfl,((hb.put 0 _).put 1 _).put 2 _,((hK.putN (fun hm=>dKb _ hm rfl) _).putN (fun hm=>dKb _ hm rfl) _).putN (fun hm=>dKb _ hm rfl) _,((hU.putN (fun hm=>dUb _ hm rfl) _).putN (fun hm=>dUb _ hm rfl) _).putN (fun hm=>dUb _ hm rfl) _,nK,nU,fun z hz=>⟨lK z hz,dKb z hz,dKU z hz⟩,fun z hz=>⟨lU z hz,dUb z hz⟩,lb,(frK.putN.putN).putN,(frU.putN.putN).putN,Zh hB lb⟩)
   have HU:=Ja (show jqs x w0.heap.size (.pointer (some ⟨b,0,none⟩)) (((w4.setCell ⟨b,0,none⟩ (.slice AK x.keys.length cK)).setCell ⟨b,1,none⟩ (.slice AU x.used.length cU)).setCell ⟨b,2,none⟩ (.slice none 0 0)) from
    ⟨b,AU,cU,fw,rfl,(((hb.put 0 _).put 1 _).put 2 _).cell 1,hOU.keep fun z hz=>(((Js w4 b 0 _).trans (Js _ b 1 _)).trans (Js _ b 2 _)).block z (hOU.lt z hz) (by simpa using dWb z hz),fun z hz=>⟨lW z hz,dWb z hz⟩⟩)
   clear hOU;clear hA t11 t15 t3 t16 hτ hb;go_wp2_with fail;go_meet
   case rel=>exact⟨HH.out,HU.out⟩
 case rest=>
  obtain⟨wh,hwh⟩: ∃wh,wh=wc:=⟨_,rfl⟩;subst hwh;obtain⟨⟨b,AK,cK,fK,AU,cU,fU,rfl,kb,hsK,hsU,nK,nU,dK,dU,hb0,frK,frU,hbw⟩,b',AU',cU',fw,hbe,hbc,hOU,lW⟩:=hcut;cases hbe;cases hbc.symm.trans (kb.cell 1);have HOU:=Ja (And.intro hOU lW);clear hOU lW hbc;have HB1:=Ja hbw;have HB0L:=Ja hb0;have KB:=Ja kb;have K1:=Ja k1;have h2m:=h2.max;have hbl:=kb.lt
  have HKU:=Ja (And.intro hsK (And.intro hsU (And.intro nK (And.intro nU (And.intro dK (And.intro dU (And.intro frK frU)))))));clear h0 h1 hsK hsU nK nU dK dU frK frU hbw hb0 kb k1;go_wp2_with fail
  go_loopw [4] (fun i wr=>∃k:Nat,k≤x.Rz.length∧i= .int .i64 k∧jh7 x wh b AK cK AU cU k wr) (fun i _=>x.Rz.length - (intOf i).toNat)
  case atStart=>exact⟨0,Nat.zero_le _,rfl,.slice none 0 0,KB.out,OwB.nil,Only.refl _ _⟩
  case round=>
   obtain⟨wo,hwo⟩: ∃wo,wo=wr:=⟨_,rfl⟩;subst hwo;obtain⟨k,hk,rfl,v,kbr,hown,ho⟩:=hrel;have HBR:=Ja (HB1.out.trans (ho.below (B:=w0.heap.size) (fun z hz=>by simp at hz;rw[hz];exact HB0L.out) HB1.out.size));have KBR:=Ja kbr;have HOW:=Ja hown;have HON:=Ja ho;clear kbr hown ho;have u2:=Blk.c2 (K1.out.step HBR.out);by_cases hlt:k<x.Rz.length
   ·obtain⟨bp,op,B0,m0,d0,g0,B1,m1,d1,g1,rfl,hbp,hmp,q0,q1,q2,hs0,hs1,_⟩:=J7 (h2.step HBR.out) hlt;obtain rfl:=hs0.1;obtain rfl:=hs1.1;have i1:(k:Int)<(x.Rz.length:Int):=by omega
    have i0:(0:Int)≤(k:Int):=by omega
    have k5:=Blk.new wo 48 #[.int .i64 x.Rz[k].Az,.slice B0 x.Rz[k].Uz.length d0,.slice B1 x.Rz[k].Fz.length d1];have HKR:=Ja (show Below wo.heap.size wo (wo.alloc (.cells #[.int .i64 x.Rz[k].Az,.slice B0 x.Rz[k].Uz.length d0,.slice B1 x.Rz[k].Fz.length d1] 48)) from(Below.refl _ _).alloc nle _);have hs0:=hs0.step HKR.out;have hs1:=hs1.step HKR.out
    have HKB:=Ja k5.lt;go_upto_region 6 with fail
    clear q0 q1 q2 u2;generalize hw5:wo.alloc (.cells #[.int .i64 x.Rz[k].Az,.slice B0 x.Rz[k].Uz.length d0,.slice B1 x.Rz[k].Fz.length d1] 48)=w5 at k5 HKR HKB hs0 hs1 ⊢;clear hw5
    go_cut [6] from 17 to 59 (fun p6 wx=>jh6 x.Rz[k] w5 p6 wx)
    case first=>
     have hc0:=Blk.c0 k5;have hc1:=Blk.c1 k5;obtain⟨i04,hi4,hz4,hzs4,hby4⟩:=info_parts Zt;refine Jz 8 _ rfl (c6C x.Rz[k].Az w5) BelowT (c6Γ x.Rz[k] wo.heap.size B0 d0) (by kernel_rfl) rfl (by kernel_rfl) rfl (jpb _ _ _ _) BelowT.refl ⟨⟨(Below.refl _ _).drew,Apart.start _ _ _ _ _,fun h=>by simp[Array.getD] at h⟩,fun s hs=> ?_,by rfl⟩ ?_ ?_
     ·by_cases e5:s=5
      ·subst e5;rfl
      ·have hne:s∉ [29,30,31,32,33,34,35,6]:=fun hm=>by
        simp only[List.mem_cons,List.not_mem_nil,or_false] at hm;rcases hm with rfl|rfl|rfl|rfl|rfl|rfl|rfl|rfl<;>exact absurd hs (by decide)
       simp only[List.mem_cons,List.not_mem_nil,or_false,not_or] at hne;unfold c6Γ;split<;>first|trivial|(exfalso;omega)
     ·intro i p hi hp;have hcases:i=0∨i=1∨i=2∨i=3∨i=4∨i=5∨i=6∨i=7:=by omega
      rcases hcases with rfl|rfl|rfl|rfl|rfl|rfl|rfl|rfl
      all_goals(obtain rfl:=Option.some.inj hp)
      ·intro L a w' hL hl hall hC hR;have r5:_=_:=hR 5 (by decide);simp[Region.wanted,Jg,go_sem,execOp,r5,upT];exact⟨BelowT.refl _,rfl,jd1 hC (by decide) (by decide)⟩
      ·intro L a w' hL hl hall hC hR;have r29:_=_:=hR 29 (by decide);have hc:=Je hc0 hC.1;simp[Region.wanted,Jg,go_sem,execOp,r29,hc,upT];exact⟨BelowT.refl _,rfl,jd1 hC (by decide) (by decide)⟩
      ·intro L a w' hL hl hall hC hR;simp[Region.wanted,Jg,go_sem,execOp,upT];exact⟨(Below.refl _ _).alloc nle _,⟨_,rfl,Blk.new _ _ _⟩,jh5 hC rfl hl (by decide) ((Below.refl _ _).alloc nle _) fun z hz=> .inl (by simp[vbk] at hz;subst hz;exact⟨Nat.le_refl _,by simp⟩)⟩
      ·intro L a w' hL hl hall hC hR;have r5:_=_:=hR 5 (by decide);simp[Region.wanted,Jg,go_sem,execOp,r5,upT];exact⟨BelowT.refl _,rfl,jd1 hC (by decide) (by decide)⟩
      ·intro L a w' hL hl hall hC hR;have r32:_=_:=hR 32 (by decide);have hc:=Je hc1 hC.1;simp[Region.wanted,Jg,go_sem,execOp,r32,hc,upT];exact⟨BelowT.refl _,rfl,jd1 hC (by decide) (by decide)⟩
      ·intro L a w' hL hl hall hC hR;have r33:_=_:=hR 33 (by decide);obtain⟨g,r31,hg⟩: ∃g,_=Value.slice (some ⟨g,0,none⟩) 0 0∧Blk _ g _ _:=hR 31 (by decide)
       obtain⟨v',w5,zs,f1,hr,hal,_,hown,hb,hor⟩:=jab (r:=Rp.rule) (P:=Tryz.prog) w' 45 45 29 i04 _ 48 Tryz.underlying45 hi4 hz4 hzs4 hby4 rfl (by decide) hg (hs0.step hC.1) (by have:=HS.out.Uz _ (List.getElem_mem hlt);omega) (by have:=HS.out.Uz _ (List.getElem_mem hlt);omega);have hrow:=RowOf.of_owns (k:=4) (enc:=Jh) (hk:=fun _=>rfl) (h1:=Y9) hown hal
       rw[if_pos (show Region.wanted _ _=true from rfl)];simp only[execOp,resolve,invoke,builtin,Sem.run_bind,Sem.run_pure,Result.andThen_ok,List.map_toArray,List.map_cons,List.map_nil,Wm,r31,r33,hr,upT];obtain⟨A',c',f',hv',_⟩:=id hrow;refine⟨trivial,hb,hrow,jh5 hC rfl hl (by decide) hb fun z hz=> ?_⟩;have hz':=jd5 hv' hz;rcases hor with h|h
       ·rw[h] at hz';cases hz';exact .inr ⟨31,2,by decide,rfl,hall ⟨2,.data⟩ (by simp) (by decide),by show _∈vbk (a.tmps[31]?.getD undef);rw[r31];simp[vbk]⟩
       ·rw[h] at hz';cases hz';have hown':=hown.lt w'.heap.size (by rw[h]);exact .inl ⟨Nat.le_refl _,hown'.2⟩
      ·intro L a w' hL hl hall hC hR;obtain⟨AR,cR,fR,r34,_⟩:RowOf _ _ _ _:=hR 34 (by decide);have r30:_=_:=hR 30 (by decide);simp[Region.wanted,Jg,go_sem,execOp,r34,r30,upT];refine⟨BelowT.refl _,trivial,hC.1,hC.2.1.same (fun s hs=>by cases hs;rfl) (fun s g hg=>by have:=jf3 s g hg;omega) nle,fun _=>⟨Zk (hall ⟨5,.data⟩ (by simp) (by decide)), ?_⟩⟩;simp[jaf,tau,r34]
      ·intro L a w' hL hl hall hC hR;simp[Region.wanted,Jg,go_sem,execOp,upT];exact⟨(Below.refl _ _).alloc nle _,⟨_,rfl,Blk.new _ _ _⟩,jh5 hC rfl hl (by decide) ((Below.refl _ _).alloc nle _) fun z hz=> .inl (by simp[vbk] at hz;subst hz;exact⟨Nat.le_refl _,by simp⟩)⟩
     ·intro l w4 τ hall hC;simp only[List.take_succ_cons,List.take_zero,jdb];intro v29 _ v30 _ v31 _ v32 _ v33 _ v34 h34 v35 _ v6 h6 hτ;obtain⟨AR,cR,fR,rfl,hR,nR,frR,vR⟩:RowOf _ _ _ _:=h34;obtain⟨b6,rfl,hb⟩: ∃b,_=Value.pointer (some ⟨b,0,none⟩)∧Blk _ b _ _:=h6;obtain⟨hB,hA,h8⟩:=hC;obtain⟨_,e35⟩:=h8 (hall 6 (by decide))
      have t34:τ 34= .slice AR x.Rz[k].Uz.length cR:=by rw[←hτ];simp[tau,Act.put]
      have t6:τ 6= .pointer (some ⟨b6,0,none⟩):=by rw[←hτ];simp[tau,Act.put]
      have t35:τ 35=v35:=by rw[←hτ];simp[tau,Act.put]
      rw[t35,t34] at e35;subst e35;have l5:=hall 5 (by decide);have l7:=hall 7 (by decide);have dRb: ∀z∈fR,z≠b6:=fun z hz e=>hA.dj 34 6 0 5 1 7 rfl rfl (by decide) l5 l7 z (by rw[t34];exact vR z hz) (by rw[t6];simp[vbk,e]);have lR: ∀z∈fR,w5.heap.size≤z:=fun z hz=>(hA.lo 34 0 5 rfl l5 z (by rw[t34];exact vR z hz)).1;have lb:w5.heap.size≤b6:=(hA.lo 6 1 7 rfl l7 b6 (by rw[t6];simp[vbk])).1
      have y0:=hb.cell 0;have y1:=hb.cell 1;have y2:=hb.cell 2;have x0:=Jb hb 0;have x1:=Jb hb 1;have x2:=Jb hb 2;simp at y0 y1 y2;have HH:=Ja (show jh6 x.Rz[k] w5 (.pointer (some ⟨b6,0,none⟩)) (((w4.setCell ⟨b6,0,none⟩ (.int .i64 x.Rz[k].Az)).setCell ⟨b6,1,none⟩ (.slice AR x.Rz[k].Uz.length cR)).setCell ⟨b6,2,none⟩ (.slice none 0 0)) from
       ⟨b6,AR,cR,fR,rfl,((hb.put 0 _).put 1 _).put 2 _,((hR.putN (fun hm=>dRb _ hm rfl) _).putN (fun hm=>dRb _ hm rfl) _).putN (fun hm=>dRb _ hm rfl) _,nR,fun z hz=>⟨lR z hz,dRb z hz⟩,lb,(frR.putN.putN).putN,Zh hB lb⟩)
      clear hA t34 t6 t35 hτ hb;go_wp2_with fail;go_meet
      case rel=>exact HH.out
    case rest=>
     obtain⟨wn,hwn⟩: ∃wn,wn=wc:=⟨_,rfl⟩;subst hwn;obtain⟨b6,AR,cR,fR,rfl,kn,hsR,nR,lR,hb6,frR,hbn⟩:=hcut;have HNX:=Ja (And.intro kn (And.intro hsR (And.intro nR (And.intro lR (And.intro hb6 (And.intro frR hbn))))));have hbl6:=kn.lt;have HRL:=Ja (HS.out.Fz _ (List.getElem_mem hlt));have HVE:=Ja (HS.out.vers _ (List.getElem_mem hlt));have HFI:=Ja (HS.out.files _ (List.getElem_mem hlt))
     have HK5:=Ja k5;have hs1m:=hs1.max;clear kn hsR nR lR hb6 frR hbn hs0 k5;go_wp2_with fail
     go_loopw [7] (fun i wr=>∃j:Nat,j≤x.Rz[k].Fz.length∧i= .int .i64 j∧jmc x.Rz[k] wn b6 AR cR j wr) (fun i _=>x.Rz[k].Fz.length - (intOf i).toNat)
     case atStart=>exact⟨0,Nat.zero_le _,rfl,.slice none 0 0,HNX.out.1,OwB.nil,Only.refl _ _⟩
     case round=>
      obtain⟨j,hj,rfl,v2,kbi,hown2,ho2⟩:=hrel;have HBI:=Ja (HNX.out.2.2.2.2.2.2.trans (ho2.below (B:=w5.heap.size) (fun z hz=>by simp at hz;rw[hz];exact HNX.out.2.2.2.2.1) HNX.out.2.2.2.2.2.2.size));have KBI:=Ja kbi;have HOI:=Ja hown2;have HNI:=Ja ho2;clear kbi hown2 ho2;have r2:=Blk.c2 (HK5.out.step HBI.out);by_cases hlj:j<x.Rz[k].Fz.length
      ·obtain⟨br,orr,B3,m3,d3,g3,rfl,hbr,hmr,t0,t1,t2,t3,hs3,hg3s⟩:=J3 (hs1.step HBI.out) hlj;have HBR5:=Ja (show br<w5.heap.size from hs1.lt br hmr);have j0:(0:Int)≤(j:Int):=by omega
       have HG3:=Ja (show ∀z∈g3,z<w5.heap.size from fun z hz=>hs1.lt z (hg3s z hz));clear hg3s;obtain rfl:=hs3.1;have j1:(j:Int)<(x.Rz[k].Fz.length:Int):=by omega
       go_upto_region 10 with fail
       have HKj:=Ja (show(x.Rz[k].Fz.take j).length=j by simp;omega);have HTj:=Ja (List.take_succ_eq_append_getElem hlj);have sV:=HVE.out _ (List.getElem_mem hlj);have sF:=HFI.out _ (List.getElem_mem hlj);have hLow:=HOI.out.vlow;have hltv: ∀z∈Vm v2,z<wr.heap.size:=by
        obtain⟨fq,⟨xs,f1,ho,_,_⟩,_⟩:=HOI.out;exact fun z hz=>(Jn ho z hz).2
       obtain⟨i04,hi4,hz4,hzs4,hby4⟩:=info_parts jdp;have HLW:=Ja (show wn.heap.size≤wr.heap.size from HNI.out.size);have hw5n:=HNX.out.2.2.2.2.2.2.size;have hbrl:=HBR5.out;generalize hy:x.Rz[k].Fz[j]=y at sV sF hs3 HTj t0 t1 t2 t3 ⊢;clear hy
       have hA:C10At x.Rz[k] j y wr wo.heap.size b6 br orr v2 B3 d3 g3 d1:=⟨KBI.out.cell 2,r2,t0,t1,t2,t3,hs3,fun hm=>by have:=hLow _ hm;omega,fun hm=>by have:=hLow _ hm;have:=HKB.out;omega,fun hm=>by have:=hLow _ hm;omega,hltv,fun z hz hm=>by have:=HG3.out z hz;have:=hLow z hm;omega⟩;clear t0 t1 t2 t3 r2
       refine Jz 11 _ rfl (c10C (x.Rz[k].Fz.take (j+1)) wn.heap.size v2 wr) (Only (Vm v2)) (c10Γ x.Rz[k] j y wr wo.heap.size b6 br orr v2 B3 d3 d1) (by kernel_rfl) rfl (by kernel_rfl) rfl (jnn _ _ _ _ _ _ _ _ _ _ _ _ hA.vl) (Only.refl _) ⟨⟨Only.of_below ((Below.refl _ _).drew) _,.inl ⟨by simp[Array.getD],(Below.refl _ _).drew⟩⟩,fun s hs=> ?_,by rfl⟩ ?_ ?_
       ·by_cases e6:s=6
        ·subst e6;rfl
        ·
         by_cases e5:s=5
         ·subst e5;rfl
         ·
          by_cases e7:s=7
          ·subst e7;rfl
          ·have hne:s∉ [43,44,45,46,47,48,49,50,51,52,53]:=fun hm=>by
            simp only[List.mem_cons,List.not_mem_nil,or_false] at hm;rcases hm with rfl|rfl|rfl|rfl|rfl|rfl|rfl|rfl|rfl|rfl|rfl<;>exact absurd hs (by decide)
           simp only[List.mem_cons,List.not_mem_nil,or_false,not_or] at hne;unfold c10Γ;split<;>first|trivial|(exfalso;omega)
       ·intro i p hi hp;have hcases:i=0∨i=1∨i=2∨i=3∨i=4∨i=5∨i=6∨i=7∨i=8∨i=9∨i=10:=by omega
        rcases hcases with rfl|rfl|rfl|rfl|rfl|rfl|rfl|rfl|rfl|rfl|rfl
        all_goals(obtain rfl:=Option.some.inj hp)
        ·intro L a w' hL hl hall hC hR;have r6:_=_:=hR 6 (by decide);simp[Region.wanted,Jg,go_sem,execOp,r6,upT];exact⟨Only.refl _ _,rfl,Z6 hC (by decide) (by decide)⟩
        ·intro L a w' hL hl hall hC hR;have r43:_=_:=hR 43 (by decide);have hc:=Xy hA.c62 hC.1 hA.n6;simp[Region.wanted,Jg,go_sem,execOp,r43,hc,upT];exact⟨Only.refl _ _,rfl,Z6 hC (by decide) (by decide)⟩
        ·intro L a w' hL hl hall hC hR;have r5:_=_:=hR 5 (by decide);simp[Region.wanted,Jg,go_sem,execOp,r5,upT];exact⟨Only.refl _ _,rfl,Z6 hC (by decide) (by decide)⟩
        ·intro L a w' hL hl hall hC hR;have r45:_=_:=hR 45 (by decide);have hc:=Xy hA.c52 hC.1 hA.n5;simp[Region.wanted,Jg,go_sem,execOp,r45,hc,upT];exact⟨Only.refl _ _,rfl,Z6 hC (by decide) (by decide)⟩
        ·intro L a w' hL hl hall hC hR;have r7:_=_:=hR 7 (by decide);simp[Region.wanted,Jg,go_sem,execOp,r7,upT];exact⟨Only.refl _ _,rfl,Z6 hC (by decide) (by decide)⟩
        ·intro L a w' hL hl hall hC hR;have r46:_=_:=hR 46 (by decide);have r47:_=_:=hR 47 (by decide);have j0:(0:Int)≤(j:Int):=by omega
         have j1:(j:Int)<(x.Rz[k].Fz.length:Int):=by omega
         simp[Region.wanted,Jg,go_sem,execOp,r46,r47,↓IntWalk.iteOmega,hlj,upT];exact⟨Only.refl _ _,rfl,Z6 hC (by decide) (by decide)⟩
        ·intro L a w' hL hl hall hC hR;have r48:_=_:=hR 48 (by decide);have hc0:=Xy hA.c0 hC.1 hA.nr;have hc1:=Xy hA.c1 hC.1 hA.nr;have hc2:=Xy hA.c2 hC.1 hA.nr;have hc3:=Xy hA.c3 hC.1 hA.nr;simp[Region.wanted,Jg,go_sem,execOp,r48,hc0,hc1,hc2,hc3,upT];exact⟨Only.refl _ _,rfl,Z6 hC (by decide) (by decide)⟩
        ·intro L a w' hL hl hall hC hR;have r49:_=_:=hR 49 (by decide);unfold jeo at r49;simp[Region.wanted,Jg,go_sem,execOp,r49,upT];have hw:=hC.1.size;refine(jhu (x:=y) _ ⟨_,_,_,_,rfl,rfl,hA.sl.keep fun z hz=>hC.1.block z (hA.sl.lt z hz) (hA.ng z hz)⟩ sV sF).mono ?_;rintro e w4 ⟨csr,fr,rfl,⟨u,rfl,hows⟩,hnd,hlo,hfr,hb4⟩
         have hob:OwB (Rp.slice Rp.file) 34 wr.heap.size u y.Vz w4:=⟨fr,hows,hnd,fun z hz=>Nat.le_trans hw (hlo z hz),hfr⟩;obtain⟨Av,cv,rfl,_,_⟩:=hob.form;exact⟨_,rfl,Only.of_below hb4 _,⟨_,rfl,Av,cv,rfl,hob⟩,jg5 hC (.inl rfl) hl hb4⟩
        ·intro L a w' hL hl hall hC hR;obtain⟨u,r50,Av,cv,rfl,hv⟩: ∃u,_=jeo _ u∧GotVers _ _ u _:=hR 50 (by decide);unfold jeo at r50;have hw:=hC.1.size;simp[Region.wanted,Jg,go_sem,execOp,r50,upT];exact⟨Only.of_below ((Below.refl _ _).alloc nle _) _,⟨_,_,rfl,Blk.new _ _ _,hw,Av,cv,rfl,hv.alloc _⟩,jg5 hC (.inr rfl) hl ((Below.refl _ _).alloc nle _)⟩
        ·intro L a w' hL hl hall hC hR;have r44:_=_:=hR 44 (by decide);obtain⟨u,g,r51,hg,hgl,Av,cv,rfl,hv⟩: ∃u g,_=Value.slice (some ⟨g,0,none⟩) 1 1∧Blk _ g _ _∧_≤g∧GotVers _ _ u _:=hR 51 (by decide);rcases hC.2 with ⟨_,hb⟩|⟨h1,_⟩
         ·obtain⟨xs,ho,hgrow⟩:=HOI.out.grow;obtain⟨hoA,hsn⟩:=hgrow hb;rw[HKj.out] at hoA;obtain⟨fq,hows,hnd,hlo,hfr⟩:=hv;have hs9:=hsn (ys:=[.string y.name,.bool y.guard,.int .i64 y.count,.slice Av y.Vz.length cv]) (y:=y) ⟨_,rfl,hows⟩ hnd hlo HLW.out hfr rfl;rw[HKj.out] at hs9
          obtain⟨g',cap,w5',hr,ho2,hgr,hor,_⟩:=run_append_lies (P:=Tryz.prog) w' 46 46 0 52 i04 _ 4 56 Tryz.underlying46 hi4 hz4 hzs4 hby4 rfl (by decide) v2 j xs hoA ⟨g,0,none⟩ 1 1 [.string y.name,.bool y.guard,.int .i64 y.count,.slice Av y.Vz.length cv] rfl (World.news_of_block hg) (by intro u hu;simp at hu;rcases hu with rfl|rfl|rfl|rfl<;>rfl) (by decide) (by have:=HRL.out;unfold maxLen;omega) (by have:=HRL.out;omega) (Nat.zero_le _) w'.heap.size rfl
          have hnew:=hs9 g' cap w5' ho2 hgr hor;rw[if_pos (show Region.wanted _ _=true from rfl)];simp only[execOp,resolve,invoke,builtin,Sem.run_bind,Sem.run_pure,Result.andThen_ok,List.map_toArray,List.map_cons,List.map_nil,Wm,r44,r51,hr,upT];have hL9:9<L.size:=by rw[hL];decide
          have g7:=hall ⟨7,.chain⟩ (by simp) (by decide);have g8:=hall ⟨8,.data⟩ (by simp) (by decide);refine⟨trivial,Yr hgr,trivial,Yr hgr |> hC.1.trans,.inr ⟨by simp[hL9],by rw[getD_set_ne false (by decide)];exact g7,by rw[getD_set_ne false (by decide)];exact g8, ?_⟩⟩;rw[HTj.out];exact hnew
         ·rw[h1] at hl;cases hl
        ·intro L a w' hL hl hall hC hR;have r6:_=_:=hR 6 (by decide);simp[Region.wanted,Jg,go_sem,execOp,r6,upT];exact⟨Only.refl _ _,rfl,Z6 hC (by decide) (by decide)⟩
       ·intro l w4 τ hall hC;simp only[List.take_succ_cons,List.take_zero,jdb];intro v43 h43 v44 h44 v45 h45 v46 h46 v47 h47 v48 h48 v49 h49 v50 h50 v51 h51 v52 _ v53 h53 hτ;obtain rfl:v43=_:=h43;obtain rfl:v44=_:=h44;obtain rfl:v45=_:=h45;obtain rfl:v46=_:=h46;obtain rfl:v47=_:=h47;obtain rfl:v48=_:=h48;obtain rfl:v53=_:=h53;have e52:τ 52=v52:=by rw[←hτ];simp[tau,Act.put]
        have hrow:OwB Rp.refO 52 wn.heap.size v52 (x.Rz[k].Fz.take (j+1)) w4:=by
         rcases hC.2 with ⟨h,_⟩|⟨_,_,_,h⟩
         ·rw[hall 9 (by decide)] at h;cases h
         ·rwa [e52] at h
        have k6':=KBI.out.only hC.1 hA.n6;have c62:w4.cell? ⟨b6,2,none⟩=some v44:=k6'.cell 2;have z62:=Jb k6' 2;have hon:Only [b6] wn w4:=HNI.out.then_only hC.1 (fun z hz=> .inr (HOI.out.vlow z hz));obtain⟨A52,c52,hv52,_,_⟩:=hrow.form;rw[show(x.Rz[k].Fz.take (j+1)).length=j+1 by simp;omega] at hv52;subst hv52
        have HREL:=Ja (show jmc x.Rz[k] wn b6 AR cR (j+1) (w4.setCell ⟨b6,2,none⟩ _) from⟨_,k6'.put 2 _,hrow.only (Js w4 b6 2 _) (by intro z hz;simp at hz;omega),hon.trans (Js w4 b6 2 _)⟩);clear hrow hon k6' hA hC h49 h50 h51 e52 hτ;go_wp2;exact⟨⟨j+1,by omega,by go_num,HREL.out⟩,by simp[intOf];omega⟩
      ·have hj':j=x.Rz[k].Fz.length:=by omega
       subst hj';have HE:=Ja (show x.Rz[k].Fz.take x.Rz[k].Fz.length=x.Rz[k].Fz from List.take_of_length_le nle);have HBW:=Ja (show Below wo.heap.size wo wr from(Below.t HKR.out HNX.out.2.2.2.2.2.2).trans (HNI.out.below (fun z hz=>by simp at hz;rw[hz];have:=HNX.out.2.2.2.2.1;have:=HKR.out.size;omega) (by have:=HKR.out.size;have:=HNX.out.2.2.2.2.2.2.size;omega)))
       have hown2:=HOI.out;rw[HE.out] at hown2;obtain⟨A2v,c2v,rfl,_,_⟩:=hown2.form;obtain⟨fq,hows,hnd,hlo,hfr⟩:=hown2;obtain⟨hkn,hsR,nR,lR,hb6,frR,hbn⟩:=HNX.out;have hRR:=hsR.keep (w':=wr) fun z hz=>HNI.out.block z (hsR.lt z hz) (by simp;exact(lR z hz).2);have hltR: ∀z∈fR,z<wn.heap.size:=hsR.lt;have hfrR:=frR.keep (w':=wr) fun z hz=>HNI.out.block z (hltR z hz) (by simp;exact(lR z hz).2)
       have hRepo:Rp.repoO.R wr [.int .i64 x.Rz[k].Az,.slice AR x.Rz[k].Uz.length cR,.slice A2v x.Rz[k].Fz.length c2v] x.Rz[k] (fR++fq):=⟨_,_,_,fR,_,fq,rfl,rfl,hRR,hows⟩;have hndR:(fR++fq).Nodup:=List.nodup_append.2 ⟨nR,hnd,fun a ha b hb e=>by subst e;have:=hltR a ha;have:=hlo a hb;omega⟩;have hloR: ∀z∈fR++fq,wo.heap.size≤z:=fun z hz=>by
        rcases List.mem_append.1 hz with hz|hz
        ·have:=(lR z hz).1;have:=HKR.out.size;omega
        ·have:=hlo z hz;have:=hbn.size;have:=HKR.out.size;omega
       have hfrA:=hfrR.append hfr;have kB:=KBR.out.step HBW.out;obtain⟨xs,hoo,hgrow⟩:=HOW.out.grow;obtain⟨hoA,hsn⟩:=hgrow (HBW.out.alloc HBW.out.size (.cells #[.int .i64 x.Rz[k].Az,.slice AR x.Rz[k].Uz.length cR,.slice A2v x.Rz[k].Fz.length c2v] 48))
       have HSZ:=Ja (show(wr.alloc (.cells #[.int .i64 x.Rz[k].Az,.slice AR x.Rz[k].Uz.length cR,.slice A2v x.Rz[k].Fz.length c2v] 48)).heap.size=wr.heap.size+1 by simp)
       have hs9:=hsn (ys:=[.int .i64 x.Rz[k].Az,.slice AR x.Rz[k].Uz.length cR,.slice A2v x.Rz[k].Fz.length c2v]) (y:=x.Rz[k]) (Rp.repoO.below hRepo ((Below.refl wr.heap.size wr).alloc nle (.cells #[.int .i64 x.Rz[k].Az,.slice AR x.Rz[k].Uz.length cR,.slice A2v x.Rz[k].Fz.length c2v] 48)) nle) hndR hloR HON.out.size (hfrA.step ((Below.refl _ _).alloc nle _)) HSZ.out
       rw[show(x.Rz.take k).length=k by simp;omega] at hs9 hoA;have HTk:=Ja (List.take_succ_eq_append_getElem hlt);have HS9:=Ja hs9;have HV:=Ja HOW.out.vlow;have k6:=KBI.out;have cb2:wr.cell? ⟨b,2,none⟩=some v:=kB.cell 2;have zb2:=Jb kB 2;have c60:=Blk.c0 k6;have c61:=Blk.c1 k6;have c62:=Blk.c2 k6;obtain⟨i0,hi0,hz0,hz1,hz2⟩:=info_parts jeb;have HKBb:=Ja kB
       have HONW:=Ja (HON.out.then_below HBW.out);have HNEb:=Ja (show b∉Vm v from fun hm=>by have:=HOW.out.vlow b hm;omega);have sRp:=HS.out.Rz;clear hs9 hsn hgrow hoo hRepo hndR hloR hfrA hfrR hRR hltR hkn hsR nR lR hb6 frR hbn hows hnd hlo hfr k6 kB hs1 HRL HVE HFI HK5 HKB
       go_wp2_with(at_builtin;refine wpList_append_lies _ rfl _ _ 24 rfl 0 48 i0 _ 3 56 Tryz.underlying24 hi0 hz0 hz1 hz2 rfl (by decide) _ _ _ rfl hoA ⟨wr.heap.size,0,none⟩ 1 1 [.int .i64 x.Rz[k].Az,.slice AR x.Rz[k].Uz.length cR,.slice A2v x.Rz[k].Fz.length c2v] rfl rfl (Jm wr _ _) (by intro u hu;simp at hu;rcases hu with rfl|rfl|rfl<;>rfl) (by decide) (by unfold maxLen;omega) (by omega) (Nat.zero_le _) (wr.heap.size+1) HSZ.out ?_)
       intro g' cap w6 ho2 hgr hor hlt2;have HN:=Ja (HS9.out _ _ _ ho2 hgr hor);have k6b:=HKBb.out.alloc (.cells #[.int .i64 x.Rz[k].Az,.slice AR x.Rz[k].Uz.length cR,.slice A2v x.Rz[k].Fz.length c2v] 48);have k6c:=k6b.only (Yr hgr) HNEb.out;have HREL:=Ja (show jh7 x wh b AK cK AU cU (k+1) (w6.setCell ⟨b,2,none⟩ (.slice (some ⟨g',0,none⟩) (k+1) cap)) from
        ⟨_,k6c.put 2 _,by rw[HTk.out];exact HN.out.only (Js w6 b 2 _) (by intro z hz;simp at hz;omega),((HONW.out.alloc _).then_only (Yr hgr) (fun z hz=> .inr (HV.out z hz))).trans (Js w6 b 2 _)⟩)
       have cb2:w6.cell? ⟨b,2,none⟩=some v:=k6c.cell 2;have zb2:=Jb k6c 2;clear ho2 hgr hor hoA k6b k6c;go_wp2;exact⟨⟨k+1,by omega,by go_num,HREL.out⟩,by simp[intOf];omega⟩
   ·have hk':k=x.Rz.length:=by omega
    subst hk';have hown:=HOW.out;rw[show x.Rz.take x.Rz.length=x.Rz from List.take_of_length_le nle] at hown;obtain⟨Av,cv,rfl,_,_⟩:=hown.form;have kB:=KBR.out;have k2o:=k2.step HBR.out;have c0:=Blk.c0 kB;have c1:=Blk.c1 kB;have c2:=Blk.c2 kB;have d0:=Blk.c0 k2o;have d1:=Blk.c1 k2o;have d2:=Blk.c2 k2o;have y0:=Jb k2o 0;have y1:=Jb k2o 1;have y2:=Jb k2o 2
    have R:=Ja (((k2o.put 0 (.slice AK x.keys.length cK)).put 1 (.slice AU x.used.length cU)).put 2 (.slice Av x.Rz.length cv))
    have RO:=Ja ((((Only.refl [w.heap.size+1] wo).setCell (p:=⟨w.heap.size+1,0,none⟩) (.inl (by simp)) (.slice AK x.keys.length cK)).setCell (p:=⟨w.heap.size+1,1,none⟩) (.inl (by simp)) (.slice AU x.used.length cU)).setCell (p:=⟨w.heap.size+1,2,none⟩) (.inl (by simp)) (.slice Av x.Rz.length cv));have HOWN:=Ja hown;clear kB k2o k2 hown HOW h2 K1;go_wp2_with fail;have R:=R.out;have RO:=RO.out
    generalize((wo.setCell ⟨w.heap.size+1,0,none⟩ (.slice AK x.keys.length cK)).setCell ⟨w.heap.size+1,1,none⟩ (.slice AU x.used.length cU)).setCell ⟨w.heap.size+1,2,none⟩ (.slice Av x.Rz.length cv)=W at R RO ⊢;have e0:=Blk.c0 R;have e1:=Blk.c1 R;have e2:=Blk.c2 R
    refine bodyPost_ret (v:= .agg #[.slice AK x.keys.length cK,.slice AU x.used.length cU,.slice Av x.Rz.length cv]) (by simp[results,Tryz.results37,go_sem,e0,e1,e2]) rfl ?_;obtain⟨hsK,hsU,nK,nU,dK,dU,frK,frU⟩:=HKU.out;have hs0:=HSZ0.out;have hsb:=HBR.out.size;obtain⟨fq,hows,hnd,hlo,hfr⟩:=HOWN.out.only RO (by intro z hz;simp at hz;have:=HB1.out.size;omega);have hKb: ∀z∈fK,z<wh.heap.size:=hsK.lt
    have hUb: ∀z∈fU,z<wh.heap.size:=hsU.lt;have eK: ∀z∈fK,W.heap[z]? =wh.heap[z]? :=fun z hz=>(RO.block z (by have:=hKb z hz;have:=HON.out.size;omega) (by simp;have:=(dK z hz).1;omega)).trans (HON.out.block z (hKb z hz) (by simp;exact(dK z hz).2.1))
    have eU: ∀z∈fU,W.heap[z]? =wh.heap[z]? :=fun z hz=>(RO.block z (by have:=hUb z hz;have:=HON.out.size;omega) (by simp;have:=(dU z hz).1;omega)).trans (HON.out.block z (hUb z hz) (by simp;exact(dU z hz).2));have hf': ∀z∈fq,wh.heap.size≤z:=hlo;have hHw:=HB1.out.size;obtain⟨hOU,lW⟩:=HOU.out
    have eW: ∀z∈fw,W.heap[z]? =wh.heap[z]? :=fun z hz=>(RO.block z (by have:=hOU.lt z hz;have:=HON.out.size;omega) (by simp;have:=(lW z hz).1;omega)).trans (HON.out.block z (hOU.lt z hz) (by simp;exact(lW z hz).2));exact⟨AK,cK,AU,cU,.slice Av x.Rz.length cv,fK++(fU++fq),fw,rfl,⟨_,_,_,fK,_,_,_,fU,_,fq,rfl,rfl,hsK.keep eK,hsU.keep eU,hows⟩,
     List.nodup_append.2 ⟨nK,List.nodup_append.2 ⟨nU,hnd,fun a ha b hb e=>by subst e;have:=hUb a ha;have:=hf' a hb;omega⟩,fun a ha b hb e=>by
      subst e;rcases List.mem_append.1 hb with hb|hb
      ·exact(dK a ha).2.2 hb
      ·have:=hKb a ha;have:=hf' a hb;omega⟩,
     fun z hz=>by
      rcases List.mem_append.1 hz with hz|hz
      ·have:=(dK z hz).1;omega
      ·rcases List.mem_append.1 hz with hz|hz
       ·have:=(dU z hz).1;omega
       ·have:=hf' z hz;omega,
     (frK.keep eK).append ((frU.keep eU).append (hfr)),hOU.keep eW,fun z hz=>by have:=(lW z hz).1;omega,HB0.out.trans ((HBR.out.mono (by omega)).trans (RO.below (by intro z hz;simp at hz;omega) (by omega)))⟩
theorem jea {cs:List Value} {x:Jl} {fx:List Nat} (w:World) (hx:Rp.house.R w cs x fx) (hs:SmallHouse x):
  Calls Tryz.prog 37 #[.agg cs.toArray] w (FreshR Rp.houseO w x):=
 (jfr w hx hs).mono fun e w' ⟨_,_,_,_,_,fp,_,he,hR,hn,hl,hf,_,_,hb⟩=>⟨_,fp,he,hR,hn,hl,hf,hb⟩
end Go.Proofs.YtobbdhgkcoeifaaGreatDoor
