/- Lemmas and walks, joined and shortened by program (wip/gen/merge2.py). -/
import Derived.Deep.CutRange
import Derived.Deep.AppendLies
import Derived.BigRegion
import Derived.Test.YtlkoaobaoffpaaaGreatDoorZ12
import Derived.Test.YtlkoaobaoffpaaaGreatDoorZ4
import Derived.Test.YtlkoaobaoffpaaaGreatDoorZ6
import Derived.Test.YtlkoaobaoffpaaaGreatDoorZ11
import Derived.Test.YtlkoaobaoffpaaaGreatDoorZ1
namespace Go.Proofs.YtlkoaobaoffpaaaGreatDoor
open Go.RowKit
attribute [local go_sem ↓] Go.wp_at_zero Go.wp_at_succ
set_option maxHeartbeats 8000000
set_option maxRecDepth 100000
set_option linter.unusedSimpArgs false
set_option linter.unusedVariables false
def StopQ (K:Act→World→Prop):Exit→Act→World→Prop
 | .normal=>K
 |_=>fun _ _=>False
theorem jqx (K:Act→World→Prop):StopQ K .normal=K:=rfl
theorem jnt {P:Program} {c:Code} {Q:Exit→Act→World→Prop} {a:Act} {w:World} (h: ∀K:Act→World→Prop,(∀a w,Q .normal a w→K a w)→c.wp P (StopQ K) a w):c.wp P Q a w:=
 Code.wp_mono (Q:=StopQ (Q .normal)) (fun e a w hq=>by cases e<;>first|exact hq|exact False.elim hq) (h (Q .normal) fun _ _ h=>h)
attribute [local go_sem] jqx
def allTo {α:Type} (p:α→Bool) (l:List α) (k:Nat):Prop:=(l.take k).all p=true
section
variable {α:Type} {p:α→Bool} {l:List α} {k:Nat}
theorem allTo.zero:allTo p l 0:=by simp[allTo]
theorem allTo.next (h:allTo p l k) (hk:k<l.length) (hp:p l[k]=true):allTo p l (k+1):=by
 unfold allTo at*;rw[List.take_succ_eq_append_getElem hk,List.all_append,h];simp[hp]
theorem allTo.end_ (h:allTo p l l.length):l.all p=true:=by
 unfold allTo at h;rwa [List.take_of_length_le nle] at h
theorem jpg (hk:k<l.length) (hp:p l[k]=false):l.all p=false:=by
 rw[List.all_eq_false];exact⟨_,List.getElem_mem hk,by simp[hp]⟩
end
theorem jiy (keys admins:List Int):Ys (Yl keys admins)=(inB keys.length 1 4&&inB admins.length 1 3&&keys.all (fun n=>inB n 1 9999)&&admins.all (fun a=>inB a 1 keys.length)):=by
 have h1:((jbo keys).all fun n=>inB n 0 200)=true:=by
  rw[List.all_eq_true];intro n hn;unfold jbo at hn;rw[List.mem_map] at hn;obtain⟨_,_,rfl⟩:=hn
  decide
 have h2: ∀a:Int,repoOk keys.length ⟨a,[],[]⟩=inB a 1 keys.length:=fun a=>by
  unfold repoOk;rw[show J5 ([]:List Yt)=true by decide];simp[jay]
 unfold Ys usersOk Yl;simp only[h1,jei,List.length_map,List.all_map];rw[show(repoOk (keys.length:Int)∘fun a=>(⟨a,[],[]⟩:Xq))=fun a=>inB a 1 keys.length from funext h2];simp only[decide_true,Bool.and_true];cases inB keys.length 1 4<;>cases inB admins.length 1 3<;>simp
theorem jdm {keys admins:List Int} (h:(inB keys.length 1 4&&inB admins.length 1 3&&keys.all (fun n=>inB n 1 9999)&&admins.all (fun a=>inB a 1 keys.length))=false):jb4 keys admins=⟨[],[],[]⟩:=by
 unfold jb4;rw[jiy,h];rfl
theorem jmz {keys admins:List Int} (h:(inB keys.length 1 4&&inB admins.length 1 3&&keys.all (fun n=>inB n 1 9999)&&admins.all (fun a=>inB a 1 keys.length))=true):jb4 keys admins=Yl keys admins:=by
 unfold jb4;rw[jiy,h];rfl
def ReadR {α:Type} (r:Rp α) (w:World) (x:α) (e:Ending) (w':World):Prop:=
 ∃cs fp,e= .returned (.agg cs.toArray)∧r.R w' cs x fp∧(∀b∈fp,w.heap.size≤b)∧Below w.heap.size w w'
def jnh (n:Int):List Value:=[.int .i64 n]
theorem jn4 {l:List Int} {k:Nat} (h:k<l.length):(l.take (k+1)).flatMap jnh=(l.take k).flatMap jnh++ [.int .i64 l[k]]:=by
 rw[List.take_succ_eq_append_getElem h,List.flatMap_append,List.flatMap_singleton];rfl
theorem jmg {l:List Int} {k:Nat} (h:k<l.length):(jbo (l.take (k+1))).flatMap jnh=(jbo (l.take k)).flatMap jnh++ [.int .i64 0]:=by
 unfold jbo;rw[List.take_succ_eq_append_getElem h,List.map_append,List.flatMap_append];rfl
structure Pair (B b:Nat) (w:World) (vK vU:Value) (n m:Nat) (xs ys:List Value):Prop where
 blk:Blk w b 26 #[vK,vU,.slice none 0 0]
 oK:w.ownsRow B 3 1 vK n xs
 oU:w.ownsRow B 3 1 vU m ys
 dj: ∀z∈Vm vK,z∉Vm vU
section
variable {B b n m g cap HA:Nat} {w w2 wA w6:World} {vK vU:Value} {xs ys news:List Value}
theorem Pair.nK (h:Pair B b w vK vU n m xs ys) (hb:b<B):b∉Vm vK:=fun hm=>by have:=(Jn h.oK b hm).1;omega
theorem Pair.nU (h:Pair B b w vK vU n m xs ys) (hb:b<B):b∉Vm vU:=fun hm=>by have:=(Jn h.oU b hm).1;omega
theorem Pair.step (h:Pair B b w vK vU n m xs ys) (hB:Below w.heap.size w wA):Pair B b wA vK vU n m xs ys:=
 ⟨h.blk.step hB,Jy h.oK fun z hz=>hB.block z (Jn h.oK z hz).2,Jy h.oU fun z hz=>hB.block z (Jn h.oU z hz).2,h.dj⟩
theorem Pair.growK (h:Pair B b w vK vU n m xs ys) (hb:b<B) (hB:Below w.heap.size w wA) (ho2:w6.ownsRow B 3 1 (.slice (some ⟨g,0,none⟩) (n+1) cap) (n+1) (xs++news)) (hgr:wA.grownBy w6 vK.ownBlock) (hor:vK.ownBlock=some g∨g=HA) (hHA:wA.heap.size=HA):
  Blk w6 b 26 #[vK,vU,.slice none 0 0]∧Pair B b (w6.setCell ⟨b,0,none⟩ (.slice (some ⟨g,0,none⟩) (n+1) cap)) (.slice (some ⟨g,0,none⟩) (n+1) cap) vU (n+1) m (xs++news) ys∧
   (w2.heap.size=B→Only [b] w2 w→Only [b] w2 (w6.setCell ⟨b,0,none⟩ (.slice (some ⟨g,0,none⟩) (n+1) cap))):=by
 have hA:=h.step hB;have k6:=hA.blk.only (Yr hgr) (h.nK hb);have e6: ∀z∈Vm vU,w6.heap[z]? =wA.heap[z]? :=fun z hz=>(Yr hgr).block z (Jn hA.oU z hz).2 fun hm=>h.dj z hm hz;have oU6:=Jy hA.oU e6;have ho:=Js w6 b 0 (.slice (some ⟨g,0,none⟩) (n+1) cap);have hgB:=(Jn ho2 g (by simp[Vm,Value.ownBlock])).1
 refine⟨k6,⟨by simpa using k6.put 0 _,Jy ho2 fun z hz=>ho.block z (Jn ho2 z hz).2 (by simp;have:=(Jn ho2 z hz).1;omega),Jy oU6 fun z hz=>ho.block z (Jn oU6 z hz).2 (by simp;have:=(Jn oU6 z hz).1;omega),fun z hz hm=> ?_⟩,fun h2 hw=>((hw.then_below hB).then_only (Yr hgr) (fun z hz=> .inr (by have:=(Jn h.oK z hz).1;omega))).trans ho⟩
 simp[Vm,Value.ownBlock] at hz;subst hz;rcases hor with h'|h'
 ·exact h.dj z (by unfold Vm;rw[h'];simp) hm
 ·have:=(Jn h.oU z hm).2;have:=hB.size;omega
theorem Pair.growU (h:Pair B b w vK vU n m xs ys) (hb:b<B) (hB:Below w.heap.size w wA) (ho2:w6.ownsRow B 3 1 (.slice (some ⟨g,0,none⟩) (m+1) cap) (m+1) (ys++news)) (hgr:wA.grownBy w6 vU.ownBlock) (hor:vU.ownBlock=some g∨g=HA) (hHA:wA.heap.size=HA):
  Blk w6 b 26 #[vK,vU,.slice none 0 0]∧Pair B b (w6.setCell ⟨b,1,none⟩ (.slice (some ⟨g,0,none⟩) (m+1) cap)) vK (.slice (some ⟨g,0,none⟩) (m+1) cap) n (m+1) xs (ys++news)∧
   (w2.heap.size=B→Only [b] w2 w→Only [b] w2 (w6.setCell ⟨b,1,none⟩ (.slice (some ⟨g,0,none⟩) (m+1) cap))):=by
 have hA:=h.step hB;have k6:=hA.blk.only (Yr hgr) (h.nU hb);have e6: ∀z∈Vm vK,w6.heap[z]? =wA.heap[z]? :=fun z hz=>(Yr hgr).block z (Jn hA.oK z hz).2 fun hm=>h.dj z hz hm;have oK6:=Jy hA.oK e6;have ho:=Js w6 b 1 (.slice (some ⟨g,0,none⟩) (m+1) cap)
 refine⟨k6,⟨by simpa using k6.put 1 _,Jy oK6 fun z hz=>ho.block z (Jn oK6 z hz).2 (by simp;have:=(Jn oK6 z hz).1;omega),Jy ho2 fun z hz=>ho.block z (Jn ho2 z hz).2 (by simp;have:=(Jn ho2 z hz).1;omega),fun z hz hm=> ?_⟩,fun h2 hw=>((hw.then_below hB).then_only (Yr hgr) (fun z hz=> .inr (by have:=(Jn h.oU z hz).1;omega))).trans ho⟩
 simp[Vm,Value.ownBlock] at hm;subst hm;rcases hor with h'|h'
 ·exact h.dj z hz (by unfold Vm;rw[h'];simp)
 ·have:=(Jn h.oK z hz).2;have:=hB.size;omega
end
def keyB (n:Int):Bool:=inB n 1 9999
def admB (u a:Int):Bool:=inB a 1 u
def jqw (keys:List Int) (b:Nat) (w2:World) (k:Nat) (wr:World):Prop:=
 ∃vK vU,Pair w2.heap.size b wr vK vU k k ((keys.take k).flatMap jnh) ((jbo (keys.take k)).flatMap jnh)∧Only [b] w2 wr
theorem jhn {w:World} {B:Nat} {v:Value} {l:List Int} (h:w.ownsRow B 3 1 v l.length (l.flatMap jnh)): ∃A c f,v= .slice A l.length c∧SlR Rp.int w A l.length c l f∧(∀z∈f,B≤z):=by
 obtain⟨A,c,f,hv,hs,h0,_,_⟩:=SlR.of_owns (r:=Rp.int) (f1:=[]) h (AllR.flat (w:=w).2 ⟨rfl,rfl⟩);exact⟨A,c,f,hv,by simpa using hs,fun z hz=>(h.lt z (h0 z hz).1).1⟩
def AdmTo (keys admins:List Int) (wc:World) (b:Nat) (vK vU:Value) (k:Nat) (wr:World):Prop:=
 ∃v,Blk wr b 26 #[vK,vU,v]∧OwB Rp.repo 38 wc.heap.size v ((Yl keys admins).Rz.take k) wr∧Only [b] wc wr
theorem jgf {A0 A1:Option Addr} {c0 c1:Nat} {keys admins:List Int} {f0 f1:List Nat} (w:World) (h0:SlR Rp.int w A0 keys.length c0 keys f0) (h1:SlR Rp.int w A1 admins.length c1 admins f1) (hk:keys.length≤1048576) (ha:admins.length≤1048576):
  Calls Tryz.prog 79 #[.slice A0 keys.length c0,.slice A1 admins.length c1] w (ReadR Rp.house w (jb4 keys admins)):=by
 have hf0:=h0.lt;have hf1:=h1.lt;have k1:=Blk.new w 26 H0;have k2:=Blk.new (w.alloc (.cells H0 26)) 26 H0;replace k1:=k1.alloc (.cells H0 26);have HB0:=(((Below.refl w.heap.size w).alloc nle (.cells H0 26)).alloc (by simp) (.cells H0 26));replace h0:=(h0.allocN (.cells H0 26)).allocN (.cells H0 26);replace h1:=(h1.allocN (.cells H0 26)).allocN (.cells H0 26)
 rw[show(w.alloc (.cells H0 26)).heap.size=w.heap.size+1 by simp] at k2;have HSZ0:=Ja (show((w.alloc (.cells H0 26)).alloc (.cells H0 26)).heap.size=w.heap.size+1+1 by simp);have HK:=Ja hk;have HA:=Ja ha;clear hk ha;go_enter Tryz.func79,Tryz.ntmps79;go_upto_region 2 with fail
 generalize hW0:(w.alloc (.cells H0 26)).alloc (.cells H0 26)=w0 at k1 k2 HB0 HSZ0 h0 h1 ⊢;clear hW0;go_wp2_with fail;refine(Jw keys.length 1 4 _).mono ?_;rintro e w1 ⟨rfl,hb1⟩;replace k1:=k1.step hb1;replace k2:=k2.step hb1;replace h0:=h0.step hb1;replace h1:=h1.step hb1;have HS1:=Ja (show w.heap.size+1+1≤w1.heap.size by have:=hb1.size;have:=HSZ0.out;omega);replace HB0:=Below.t HB0 hb1
 clear hb1 HSZ0;cases hd:inB keys.length 1 4
 ·have HE:=Ja (show jb4 keys admins=⟨[],[],[]⟩ from jdm (by rw[hd];simp));have kz:=k1;have HBB:=Ja HB0;have m0:=Blk.c0 k2;have m1:=Blk.c1 k2;have m2:=Blk.c2 k2;clear hd h0 h1 k1 k2 HB0;have y0:=Jb kz 0;have y1:=Jb kz 1;have y2:=Jb kz 2;have d0:=Blk.c0 kz;have d1:=Blk.c1 kz;have d2:=Blk.c2 kz
  have R:=Ja (((kz.put 0 (.slice none 0 0)).put 1 (.slice none 0 0)).put 2 (.slice none 0 0));have RO:=Ja ((((Only.refl [w.heap.size] w1).setCell (p:=⟨w.heap.size,0,none⟩) (.inl (by simp)) (.slice none 0 0)).setCell (p:=⟨w.heap.size,1,none⟩) (.inl (by simp)) (.slice none 0 0)).setCell (p:=⟨w.heap.size,2,none⟩) (.inl (by simp)) (.slice none 0 0))
  have HBW:=Ja (Zh (i:=0) (j:=1) (k:=2) (u:=(.slice none 0 0)) (v:=(.slice none 0 0)) (y:=(.slice none 0 0)) HBB.out nle);clear kz HBB;go_wp2_with fail;have R:=R.out;have RO:=RO.out;have HBW:=HBW.out;generalize((w1.setCell ⟨w.heap.size,0,none⟩ (.slice none 0 0)).setCell ⟨w.heap.size,1,none⟩ (.slice none 0 0)).setCell ⟨w.heap.size,2,none⟩ (.slice none 0 0)=W at R RO HBW ⊢;have e0:=Blk.c0 R
  have e1:=Blk.c1 R;have e2:=Blk.c2 R;refine bodyPost_ret (v:= .agg #[(.slice none 0 0),(.slice none 0 0),(.slice none 0 0)]) (by simp[results,Tryz.results79,go_sem,e0,e1,e2]) rfl ?_;rw[HE.out];exact⟨[.slice none 0 0,.slice none 0 0,.slice none 0 0],[],rfl,⟨none,0,0,[],none,0,0,[],none,0,0,[],rfl,rfl,SlR.nil,SlR.nil,SlR.nil⟩,by simp,HBW⟩
 have H1:=Ja hd;clear hd;go_wp2_with fail;refine(Jw admins.length 1 3 _).mono ?_;rintro e w2 ⟨rfl,hb2⟩;replace k1:=k1.step hb2;replace k2:=k2.step hb2;replace h0:=h0.step hb2;replace h1:=h1.step hb2;have HS2:=Ja (show w.heap.size+1+1≤w2.heap.size by have:=hb2.size;have:=HS1.out;omega);replace HB0:=Below.t HB0 hb2;clear hb2 HS1;cases hd:inB admins.length 1 3
 ·have HE:=Ja (show jb4 keys admins=⟨[],[],[]⟩ from jdm (by rw[hd];simp));have kz:=k1;have HBB:=Ja HB0;have m0:=Blk.c0 k2;have m1:=Blk.c1 k2;have m2:=Blk.c2 k2;clear hd h0 h1 k1 k2 HB0;have y0:=Jb kz 0;have y1:=Jb kz 1;have y2:=Jb kz 2;have d0:=Blk.c0 kz;have d1:=Blk.c1 kz;have d2:=Blk.c2 kz
  have R:=Ja (((kz.put 0 (.slice none 0 0)).put 1 (.slice none 0 0)).put 2 (.slice none 0 0));have RO:=Ja ((((Only.refl [w.heap.size] w2).setCell (p:=⟨w.heap.size,0,none⟩) (.inl (by simp)) (.slice none 0 0)).setCell (p:=⟨w.heap.size,1,none⟩) (.inl (by simp)) (.slice none 0 0)).setCell (p:=⟨w.heap.size,2,none⟩) (.inl (by simp)) (.slice none 0 0))
  have HBW:=Ja (Zh (i:=0) (j:=1) (k:=2) (u:=(.slice none 0 0)) (v:=(.slice none 0 0)) (y:=(.slice none 0 0)) HBB.out nle);clear kz HBB;go_wp2_with fail;have R:=R.out;have RO:=RO.out;have HBW:=HBW.out;generalize((w2.setCell ⟨w.heap.size,0,none⟩ (.slice none 0 0)).setCell ⟨w.heap.size,1,none⟩ (.slice none 0 0)).setCell ⟨w.heap.size,2,none⟩ (.slice none 0 0)=W at R RO HBW ⊢;have e0:=Blk.c0 R
  have e1:=Blk.c1 R;have e2:=Blk.c2 R;refine bodyPost_ret (v:= .agg #[(.slice none 0 0),(.slice none 0 0),(.slice none 0 0)]) (by simp[results,Tryz.results79,go_sem,e0,e1,e2]) rfl ?_;rw[HE.out];exact⟨[.slice none 0 0,.slice none 0 0,.slice none 0 0],[],rfl,⟨none,0,0,[],none,0,0,[],none,0,0,[],rfl,rfl,SlR.nil,SlR.nil,SlR.nil⟩,by simp,HBW⟩
 have H2:=Ja hd;clear hd;have hL0: ∀z∈f0,z<w.heap.size:=hf0;have hL1: ∀z∈f1,z<w.heap.size:=hf1;have K1:=Ja (show ∀W:World,Only [w.heap.size+1] w2 W→Blk W w.heap.size 26 H0 from fun W h=>k1.only h (by simp));have R0:=Ja (show ∀W:World,Only [w.heap.size+1] w2 W→SlR Rp.int W A0 keys.length c0 keys f0 from fun W h=>h0.only h (fun z hz hm=>by simp at hm;have:=hL0 z hz;omega))
 have R1:=Ja (show ∀W:World,Only [w.heap.size+1] w2 W→SlR Rp.int W A1 admins.length c1 admins f1 from fun W h=>h1.only h (fun z hz hm=>by simp at hm;have:=hL1 z hz;omega));have RB:=Ja (show ∀W:World,Only [w.heap.size+1] w2 W→Below w.heap.size w W from fun W h=>HB0.trans (h.below (fun z hz=>by simp at hz;omega) (by have:=HS2.out;omega)));have hm0:=h0.max;have hm1:=h1.max
 obtain⟨i0,hi0,hz0,hz1,hz2⟩:=info_parts jfw;have KP:=Ja k2;clear h0 h1 k1 k2 HB0 hL0 hL1;go_wp2_with fail
 go_loopw [6] (fun i wr=>∃k:Nat,k≤keys.length∧i= .int .i64 k∧allTo keyB keys k∧jqw keys (w.heap.size+1) w2 k wr) (fun i _=>keys.length - (intOf i).toNat)
 case atStart=>exact⟨0,Nat.zero_le _,rfl,allTo.zero,.slice none 0 0,.slice none 0 0,⟨KP.out,World.ownsRow_nil _ _ _ _,World.ownsRow_nil _ _ _ _,by simp[Vm,Value.ownBlock]⟩,Only.refl _ _⟩
 case round=>
  obtain⟨wo,hwo⟩: ∃wo,wo=wr:=⟨_,rfl⟩;subst hwo;obtain⟨k,hk,rfl,hal,vK,vU,hP,ho⟩:=hrel;have HP:=Ja hP;have HO:=Ja ho;have HAL:=Ja hal;have hbB:w.heap.size+1<w2.heap.size:=by have:=HS2.out;omega
  have HbB:=Ja hbB;clear hP ho hal;by_cases hlt:k<keys.length
  ·obtain⟨bp,op,rfl,hbp,hmp,q0⟩:=Xg (R0.out wo HO.out) hlt;have j0:(0:Int)≤(k:Int):=by omega
   have j1:(k:Int)<(keys.length:Int):=by omega
   have kb:=HP.out.blk;have u0:wo.cell? ⟨w.heap.size+1,0,none⟩=some vK:=kb.cell 0;go_wp2_with fail;refine(Jw keys[k] 1 9999 _).mono ?_;rintro e w3 ⟨rfl,hb3⟩;have q3:=Je q0 hb3;have HP3:=Ja (HP.out.step hb3);have HO3:=Ja (HO.out.then_below hb3);clear hb3 u0 q0 kb hbp HP HO;cases hd:inB keys[k] 1 9999
   ·have HE:=Ja (show jb4 keys admins=⟨[],[],[]⟩ from jdm (by rw[show(keys.all fun n=>inB n 1 9999)=false from jpg hlt hd];simp));have kz:=K1.out _ HO3.out;have HBB:=Ja (RB.out _ HO3.out);clear hd q3;have y0:=Jb kz 0;have y1:=Jb kz 1;have y2:=Jb kz 2;have d0:=Blk.c0 kz;have d1:=Blk.c1 kz;have d2:=Blk.c2 kz
    have R:=Ja (((kz.put 0 (.slice none 0 0)).put 1 (.slice none 0 0)).put 2 (.slice none 0 0));have RO:=Ja ((((Only.refl [w.heap.size] w3).setCell (p:=⟨w.heap.size,0,none⟩) (.inl (by simp)) (.slice none 0 0)).setCell (p:=⟨w.heap.size,1,none⟩) (.inl (by simp)) (.slice none 0 0)).setCell (p:=⟨w.heap.size,2,none⟩) (.inl (by simp)) (.slice none 0 0))
    have HBW:=Ja (Zh (i:=0) (j:=1) (k:=2) (u:=(.slice none 0 0)) (v:=(.slice none 0 0)) (y:=(.slice none 0 0)) HBB.out nle);clear kz HBB;go_wp2_with fail;have R:=R.out;have RO:=RO.out;have HBW:=HBW.out;generalize((w3.setCell ⟨w.heap.size,0,none⟩ (.slice none 0 0)).setCell ⟨w.heap.size,1,none⟩ (.slice none 0 0)).setCell ⟨w.heap.size,2,none⟩ (.slice none 0 0)=W at R RO HBW ⊢
    have e0:=Blk.c0 R;have e1:=Blk.c1 R;have e2:=Blk.c2 R;refine bodyPost_ret (v:= .agg #[(.slice none 0 0),(.slice none 0 0),(.slice none 0 0)]) (by simp[results,Tryz.results79,go_sem,e0,e1,e2]) rfl ?_;rw[HE.out];exact⟨[.slice none 0 0,.slice none 0 0,.slice none 0 0],[],rfl,⟨none,0,0,[],none,0,0,[],none,0,0,[],rfl,rfl,SlR.nil,SlR.nil,SlR.nil⟩,by simp,HBW⟩
   ·have HAN:=Ja (HAL.out.next hlt (show keyB keys[k]=true from hd));clear hd HAL;have kb:=HP3.out.blk;have u0:w3.cell? ⟨w.heap.size+1,0,none⟩=some vK:=kb.cell 0;have HKk:=Ja (show k+1≤1048576 from by have:=HK.out;omega);have HSo:=Ja (show w2.heap.size≤w3.heap.size from HO3.out.size);have ua:=J6 u0 (.cells #[.int .i64 keys[k]] 3);go_wp2_with fail;refine jnt fun K hK=> ?_
    have HKK:=Ja hK;clear hK
    go_region_law (refine step_append_lies _ rfl _ _ 23 rfl w2.heap.size 3 i0 _ 1 8 Tryz.underlying23 hi0 hz0 hz1 hz2 rfl (by decide) vK k ((keys.take k).flatMap jnh) (by simp[Act.eval,Act.put]) (HP3.out.step (by first|exact((Below.refl _ _).alloc nle _).drew|exact((Below.refl _ _).drew).alloc nle _)).oK ⟨w3.heap.size,0,none⟩ 1 1 [.int .i64 keys[k]] (by simp[Act.eval,Act.put]) rfl (by first|exact Jm w3.drew _ _|exact Jm w3 _ _) (by intro u hu;simp at hu;subst hu;rfl) (by decide) (by have:=HKk.out;unfold maxLen;omega) (by have:=HKk.out;omega) (by first|(simp;have:=HSo.out;omega)) (w3.heap.size+1) (by simp) ?_;intro g cap w6 ho2 hgr hor hlt2;obtain⟨k6,P6,O6⟩:=HP3.out.growK (w2:=w2) HbB.out (by first|exact((Below.refl _ _).drew).alloc nle _|exact((Below.refl _ _).alloc nle _).drew) ho2 hgr hor (by simp);have cb6:=k6.cell 0;have zb6:=Jb k6 0;simp at cb6)
    all_goals
     refine HKK.out _ _ ?_;clear HKK K;have HP7:=Ja P6;have HO7:=Ja (O6 rfl HO3.out);clear ho2 hgr hor hlt2 k6 P6 O6 cb6 zb6 u0 kb ua;generalize w6.setCell ⟨w.heap.size+1,0,none⟩ (.slice (some ⟨g,0,none⟩) (k+1) cap)=w7 at HP7 HO7 ⊢;have kb:=HP7.out.blk;have u1:w7.cell? ⟨w.heap.size+1,1,none⟩=some vU:=kb.cell 1;have HS7:=Ja (show w2.heap.size≤w7.heap.size from HO7.out.size)
     have HSZ:=Ja (show(w7.alloc (.cells #[.int .i64 0] 3)).heap.size=w7.heap.size+1 by simp)
     go_wp2_with(at_builtin;refine wpList_append_lies _ rfl _ _ 23 rfl w2.heap.size 3 i0 _ 1 8 Tryz.underlying23 hi0 hz0 hz1 hz2 rfl (by decide) _ _ _ rfl (HP7.out.step ((Below.refl _ _).alloc nle _)).oU ⟨w7.heap.size,0,none⟩ 1 1 [.int .i64 0] rfl rfl (Jm w7 _ _) (by intro u hu;simp at hu;subst hu;rfl) (by decide) (by have:=HKk.out;unfold maxLen;omega) (by have:=HKk.out;omega) (by simp;have:=HS7.out;omega) (w7.heap.size+1) HSZ.out ?_)
     intro g2 cap2 w8 ho2 hgr hor hlt2;obtain⟨k8,P8,O8⟩:=HP7.out.growU (w2:=w2) HbB.out ((Below.refl _ _).alloc nle _) ho2 hgr hor HSZ.out;have cb8:w8.cell? ⟨w.heap.size+1,1,none⟩=some vU:=k8.cell 1;have zb8:=Jb k8 1
     have HREL:=Ja (show jqw keys (w.heap.size+1) w2 (k+1) (w8.setCell ⟨w.heap.size+1,1,none⟩ (.slice (some ⟨g2,0,none⟩) (k+1) cap2)) from⟨_,_,by rw[jn4 hlt,jmg hlt];exact P8,O8 rfl HO7.out⟩);clear ho2 hgr hor hlt2 k8 P8 O8 u1 kb q3;go_wp2;exact⟨⟨k+1,by omega,by go_num,HAN.out,HREL.out⟩,by simp[intOf];omega⟩
  ·have hk':k=keys.length:=by omega
   subst hk';have HKO:=Ja (show(keys.all fun n=>inB n 1 9999)=true from HAL.out.end_);have hP:=HP.out;rw[show(keys.take keys.length)=keys from List.take_of_length_le nle] at hP;have hU:=hP.oU;rw[←jei keys] at hU;obtain⟨AK,cK,fK,rfl,hsK,hloK⟩:=jhn hP.oK;obtain⟨AU,cU,fU,rfl,hsU,hloU⟩:=jhn hU;have KBW:=Ja hP.blk;have SK:=Ja hsK;have SU:=Ja hsU
   have HLK:=Ja (And.intro hloK hloU);have HSW:=Ja (show w2.heap.size≤wo.heap.size from HO.out.size);obtain⟨j0,hj0,hy0,hy1,hy2⟩:=info_parts jeb;clear hP hU hsK hsU hloK hloU HP HAL hlt hk;go_wp2_with fail
   go_loopw [7] (fun i wr=>∃k:Nat,k≤admins.length∧i= .int .i64 k∧allTo (admB keys.length) admins k∧AdmTo keys admins wo (w.heap.size+1) (.slice AK keys.length cK) (.slice AU (jbo keys).length cU) k wr) (fun i _=>admins.length - (intOf i).toNat)
   case atStart=>exact⟨0,Nat.zero_le _,rfl,allTo.zero,.slice none 0 0,KBW.out,OwB.nil,Only.refl _ _⟩
   case round=>
    obtain⟨wp,hwp⟩: ∃wp,wp=wr:=⟨_,rfl⟩;subst hwp;obtain⟨k,hk,rfl,hal,v,kbr,hown,ho⟩:=hrel;have KBR:=Ja kbr;have HOW:=Ja hown;have HON:=Ja ho;have HOQ:=Ja (HO.out.trans ho);have HAL:=Ja hal;clear kbr hown ho hal;by_cases hlt:k<admins.length
    ·obtain⟨bp,op,rfl,hbp,hmp,q0⟩:=Xg (R1.out wp HOQ.out) hlt;have i0:(0:Int)≤(k:Int):=by omega
     have i1:(k:Int)<(admins.length:Int):=by omega
     go_wp2_with fail;refine(Jw admins[k] 1 keys.length _).mono ?_;rintro e w3 ⟨rfl,hb3⟩;have q3:=Je q0 hb3;have KB3:=Ja (KBR.out.step hb3);have HW3:=Ja (HOW.out.step hb3);have HN3:=Ja (HON.out.then_below hb3);have HO3:=Ja (HO.out.trans HN3.out);clear hb3 q0 hbp KBR HOW HON;cases hd:inB admins[k] 1 keys.length
     ·have HE:=Ja (show jb4 keys admins=⟨[],[],[]⟩ from jdm (by rw[show(admins.all fun a=>inB a 1 keys.length)=false from jpg hlt hd];simp));have kz:=K1.out _ HO3.out;have HBB:=Ja (RB.out _ HO3.out);clear hd q3;have y0:=Jb kz 0;have y1:=Jb kz 1;have y2:=Jb kz 2;have d0:=Blk.c0 kz;have d1:=Blk.c1 kz;have d2:=Blk.c2 kz
      have R:=Ja (((kz.put 0 (.slice none 0 0)).put 1 (.slice none 0 0)).put 2 (.slice none 0 0));have HBW:=Ja (Zh (i:=0) (j:=1) (k:=2) (u:=(.slice none 0 0)) (v:=(.slice none 0 0)) (y:=(.slice none 0 0)) HBB.out nle);clear kz HBB;go_wp2_with fail;have R:=R.out;have HBW:=HBW.out
      generalize((w3.setCell ⟨w.heap.size,0,none⟩ (.slice none 0 0)).setCell ⟨w.heap.size,1,none⟩ (.slice none 0 0)).setCell ⟨w.heap.size,2,none⟩ (.slice none 0 0)=W at R HBW ⊢;have e0:=Blk.c0 R;have e1:=Blk.c1 R;have e2:=Blk.c2 R;refine bodyPost_ret (v:= .agg #[(.slice none 0 0),(.slice none 0 0),(.slice none 0 0)]) (by simp[results,Tryz.results79,go_sem,e0,e1,e2]) rfl ?_;rw[HE.out]
      exact⟨[.slice none 0 0,.slice none 0 0,.slice none 0 0],[],rfl,⟨none,0,0,[],none,0,0,[],none,0,0,[],rfl,rfl,SlR.nil,SlR.nil,SlR.nil⟩,by simp,HBW⟩
     ·have HAN:=Ja (HAL.out.next hlt (show admB keys.length admins[k]=true from hd));clear hd HAL;have HTk:=Ja (show(Yl keys admins).Rz.take (k+1)=(Yl keys admins).Rz.take k++ [⟨admins[k],[],[]⟩] by
       have hl:k<(Yl keys admins).Rz.length:=by simpa [Yl] using hlt
       rw[List.take_succ_eq_append_getElem hl];simp[Yl])
      have HLk:=Ja (show((Yl keys admins).Rz.take k).length=k by simp[Yl];omega);obtain⟨xs,hoo,hgrow⟩:=HW3.out.grow;rw[HLk.out] at hgrow
      have HG:=Ja (show ∀wA:World,Below w3.heap.size w3 wA→wA.heap.size=w3.heap.size+1→wA.ownsRow 0 38 3 v k xs∧Grows Rp.repo 38 wo.heap.size v k xs [.int .i64 admins[k],.slice none 0 0,.slice none 0 0] ((Yl keys admins).Rz.take k++ [⟨admins[k],[],[]⟩]) wA (w3.heap.size+1) from fun wA hb hs=>by
       obtain⟨hoA,hsn⟩:=hgrow hb;exact⟨hoA,hsn (ys:=[.int .i64 admins[k],.slice none 0 0,.slice none 0 0]) (y:=⟨admins[k],[],[]⟩) (g:=[]) ⟨none,0,0,[],none,0,0,[],rfl,rfl,SlR.nil,SlR.nil⟩ List.nodup_nil (by simp) HN3.out.size (Free.nil _) hs⟩)
      have HV:=Ja HW3.out.vlow;have HNEb:=Ja (show w.heap.size+1∉Vm v from fun hm=>by have:=HW3.out.vlow _ hm;have:=HSW.out;have:=HbB.out;omega);have kb:=KB3.out;have u0:w3.cell? ⟨w.heap.size+1,2,none⟩=some v:=kb.cell 2;have HAd:=Ja (show k+1≤1048576 from by have:=HA.out;omega);have HSo:=Ja (show w2.heap.size≤w3.heap.size from HO3.out.size)
      have ua:=J6 u0 (.cells #[.int .i64 admins[k],.slice none 0 0,.slice none 0 0] 38);clear hgrow hoo;go_wp2_with fail;refine jnt fun K hK=> ?_;have HKK:=Ja hK;clear hK
      go_region_law (refine step_append_lies _ rfl _ _ 24 rfl 0 38 j0 _ 3 56 Tryz.underlying24 hj0 hy0 hy1 hy2 rfl (by decide) v k xs (by simp[Act.eval,Act.put]) (HG.out _ (by first|exact((Below.refl _ _).alloc nle _).drew|exact((Below.refl _ _).drew).alloc nle _) (by simp)).1 ⟨w3.heap.size,0,none⟩ 1 1 [.int .i64 admins[k],.slice none 0 0,.slice none 0 0] (by simp[Act.eval,Act.put]) rfl (by first|exact Jm w3.drew _ _|exact Jm w3 _ _) (by intro u hu;simp at hu;rcases hu with rfl|rfl<;>rfl) (by decide) (by have:=HAd.out;unfold maxLen;omega) (by have:=HAd.out;omega) (Nat.zero_le _) (w3.heap.size+1) (by simp) ?_;intro g cap w6 ho2 hgr hor hlt2;have HNw:=Ja ((HG.out _ (by first|exact((Below.refl _ _).drew).alloc nle _|exact((Below.refl _ _).alloc nle _).drew) (by simp)).2 _ _ _ ho2 hgr hor);have HOa:=Ja (show Only [w.heap.size+1] wo w6 from(HN3.out.then_below (by first|exact((Below.refl _ _).drew).alloc nle _|exact((Below.refl _ _).alloc nle _).drew)).then_only (Yr hgr) (fun z hz=> .inr (HV.out z hz)));have k6:=(KB3.out.step (by first|exact((Below.refl _ _).drew).alloc nle _|exact((Below.refl _ _).alloc nle _).drew)).only (Yr hgr) HNEb.out;have cb6:=k6.cell 2;have zb6:=Jb k6 2;simp at cb6)
      all_goals
       refine HKK.out _ _ ?_;clear HKK K;have HREL:=Ja (show AdmTo keys admins wo (w.heap.size+1) (.slice AK keys.length cK) (.slice AU (jbo keys).length cU) (k+1) (w6.setCell ⟨w.heap.size+1,2,none⟩ (.slice (some ⟨g,0,none⟩) (k+1) cap)) from
        ⟨_,by simpa using k6.put 2 (.slice (some ⟨g,0,none⟩) (k+1) cap),by rw[HTk.out];exact HNw.out.only (Js w6 _ 2 _) (by intro z hz;simp at hz;have:=HSW.out;have:=HbB.out;omega),HOa.out.trans (Js w6 _ 2 _)⟩)
       clear ho2 hgr hor hlt2 k6 cb6 zb6 u0 kb ua q3;go_wp2;exact⟨⟨k+1,by omega,by go_num,HAN.out,HREL.out⟩,by simp[intOf];omega⟩
    ·have hk':k=admins.length:=by omega
     subst hk';have HE:=Ja (show jb4 keys admins=Yl keys admins from jmz (by rw[H1.out,H2.out,HKO.out,show(admins.all fun a=>inB a 1 keys.length)=true from HAL.out.end_];rfl));have hown:=HOW.out;rw[show(Yl keys admins).Rz.take admins.length=(Yl keys admins).Rz from List.take_of_length_le (by simp[Yl])] at hown;obtain⟨fq,hows,_,hlo,_⟩:=hown
     obtain⟨Av,cv,fv,rfl,hsl,hsub,_,_⟩:=hows.sl;have hsK:=SK.out.keep (w':=wp) fun z hz=>HON.out.block z (SK.out.lt z hz) (by simp;have:=HLK.out.1 z hz;have:=HbB.out;omega);have hsU:=SU.out.keep (w':=wp) fun z hz=>HON.out.block z (SU.out.lt z hz) (by simp;have:=HLK.out.2 z hz;have:=HbB.out;omega);have hLo: ∀z∈fK++(fU++fv),w.heap.size+1≤z:=fun z hz=>by
      have:=HbB.out;have:=HSW.out;simp only[List.mem_append] at hz;rcases hz with hz|hz|hz
      ·have:=HLK.out.1 z hz;omega
      ·have:=HLK.out.2 z hz;omega
      ·have:=hlo z (hsub.subset hz);omega
     have HRead:=Ja (show Rp.house.R wp [.slice AK keys.length cK,.slice AU (jbo keys).length cU,.slice Av (Yl keys admins).Rz.length cv] (Yl keys admins) (fK++(fU++fv)) from⟨_,_,_,fK,_,_,_,fU,_,_,_,fv,rfl,rfl,hsK,hsU,hsl⟩);have HLo:=Ja hLo;have kB:=KBR.out;have u0:=Blk.c0 kB;have u1:=Blk.c1 kB;have u2:=Blk.c2 kB;have kz:=K1.out _ HOQ.out;have HBB:=Ja (RB.out _ HOQ.out)
     have y0:=Jb kz 0;have y1:=Jb kz 1;have y2:=Jb kz 2;have d0:=Blk.c0 kz;have d1:=Blk.c1 kz;have d2:=Blk.c2 kz;have R:=Ja (((kz.put 0 (.slice AK keys.length cK)).put 1 (.slice AU (jbo keys).length cU)).put 2 (.slice Av (Yl keys admins).Rz.length cv))
     have RO:=Ja ((((Only.refl [w.heap.size] wp).setCell (p:=⟨w.heap.size,0,none⟩) (.inl (by simp)) (.slice AK keys.length cK)).setCell (p:=⟨w.heap.size,1,none⟩) (.inl (by simp)) (.slice AU (jbo keys).length cU)).setCell (p:=⟨w.heap.size,2,none⟩) (.inl (by simp)) (.slice Av (Yl keys admins).Rz.length cv))
     have HBW:=Ja (Zh (i:=0) (j:=1) (k:=2) (u:=(.slice AK keys.length cK)) (v:=(.slice AU (jbo keys).length cU)) (y:=(.slice Av (Yl keys admins).Rz.length cv)) HBB.out nle);clear hows hlo hsl hsub hsK hsU hLo kB HOW kz HBB;go_wp2_with fail;have R:=R.out;have RO:=RO.out;have HBW:=HBW.out
     generalize((wp.setCell ⟨w.heap.size,0,none⟩ (.slice AK keys.length cK)).setCell ⟨w.heap.size,1,none⟩ (.slice AU (jbo keys).length cU)).setCell ⟨w.heap.size,2,none⟩ (.slice Av (Yl keys admins).Rz.length cv)=W at R RO HBW ⊢;have e0:=Blk.c0 R;have e1:=Blk.c1 R;have e2:=Blk.c2 R
     refine bodyPost_ret (v:= .agg #[(.slice AK keys.length cK),(.slice AU (jbo keys).length cU),(.slice Av (Yl keys admins).Rz.length cv)]) (by simp[results,Tryz.results79,go_sem,e0,e1,e2]) rfl ?_;rw[HE.out];have hRd:=HRead.out;have hl7:=Rp.house.lt hRd
     exact⟨_,_,rfl,Rp.house.keep hRd (fun z hz=>RO.block z (hl7 z hz) (by simp;have:=HLo.out z hz;omega)),fun z hz=>by have:=HLo.out z hz;omega,HBW⟩
theorem Z5 (g P:Nat) (hP:P+1≤1000000) (w:World) (h:Rd w g P):
  Calls Tryz.prog 84 #[.pointer (some ⟨g,0,none⟩)] w (DrStr g (P+1) 11 w):=by
 go_enter Tryz.func84,Tryz.ntmps84;go_wp2_with fail;have kb:=Blk.new w 9 (jhc [⟨#[]⟩,⟨#[120]⟩,⟨#[121]⟩,⟨#[120,121]⟩,⟨#[0,255]⟩,⟨#[49,50,51,52,53,54]⟩,⟨#[76]⟩]);refine(Jk g P 7 (by omega) (by omega) _ (h.step ((Below.refl _ _).alloc nle _))).mono ?_;rintro e w1 ⟨x,rfl,hx,hr,ho⟩;have hg:=h.lt;obtain⟨s,hs,hz⟩:=Zs (k:=11) (x:=x) kb ho (by omega) (by simp;omega) (by decide)
 have x1:(x:Int)<7:=by omega
 clear kb hx;go_wp2;go_ret;exact⟨s,rfl,hz,hr,Only.box ho⟩
def Xu (e:Wz):Prop:=e.path.size≤11∧e.bytes.size≤11
def DrEdit (g P:Nat) (w:World) (e:Ending) (w':World):Prop:=∃x:Wz,e= .returned (.agg (Jp x).toArray)∧Xu x∧Rd w' g P∧Only [g] w w'
theorem jiu {w0 w:World} {g b:Nat} (h:Only [g] w0 w) (hb:w0.heap.size≤b) (u v x:Value):Only [g] w0 (((w.setCell ⟨b,0,none⟩ u).setCell ⟨b,1,none⟩ v).setCell ⟨b,2,none⟩ x):=
 ((h.setCell (p:=⟨b,0,none⟩) (.inr hb) u).setCell (p:=⟨b,1,none⟩) (.inr hb) v).setCell (p:=⟨b,2,none⟩) (.inr hb) x
theorem jc6 (g P:Nat) (hP:P+3≤1000000) (w:World) (h:Rd w g P):
  Calls Tryz.prog 129 #[.pointer (some ⟨g,0,none⟩)] w (DrEdit g (P+3) w):=by
 have hg:=h.lt;have k2:=Blk.new w 93 #[.string ⟨#[]⟩,.string ⟨#[]⟩,.bool false];have h0:=h.step ((Below.refl _ _).alloc nle (.cells #[.string ⟨#[]⟩,.string ⟨#[]⟩,.bool false] 93));go_enter Tryz.func129,Tryz.ntmps129;go_wp2_with fail;refine(jbf g P (by omega) _ h0).mono ?_;rintro e w1 ⟨s,rfl,hs,hr1,ho1⟩;replace k2:=k2.only ho1 (by simp;omega);have HO:=Only.box ho1;clear h0 ho1
 go_wp2_with fail;refine(Z5 g (P+1) (by omega) _ hr1).mono ?_;rintro e w2 ⟨t,rfl,ht,hr2,ho2⟩;replace k2:=k2.only ho2 (by simp;omega);replace HO:=HO.trans ho2;have k3:=Blk.new w2 93 #[.string s,.string t,.bool false];have hr3:=hr2.step ((Below.refl _ _).alloc nle (.cells #[.string s,.string t,.bool false] 93));have h2w:=k2.lt
 replace k2:=k2.step ((Below.refl _ _).alloc nle (.cells #[.string s,.string t,.bool false] 93));replace HO:=HO.alloc (.cells #[.string s,.string t,.bool false] 93);clear hr1 hr2 ho2;go_wp2_with fail;refine(Jk g _ 5 (by omega) (by omega) _ hr3).mono ?_;rintro e w3 ⟨x,rfl,hx,hr4,ho4⟩;have hne:w2.heap.size≠w.heap.size:=by omega
 replace k2:=k2.only ho4 (by simp;omega);replace k3:=k3.only ho4 (by have:=HO.size;simp at this ⊢;omega);replace HO:=HO.trans ho4;have p0:=Blk.c0 k2;have p1:=Blk.c1 k2;have p2:=Blk.c2 k2;have q0:=Blk.c0 k3;have q1:=Blk.c1 k3;have q2:=Blk.c2 k3;have g0:=k2.frozen 0;have g1:=k2.frozen 1;have g2:=k2.frozen 2;clear k2 k3 hx hr3 ho4;cases hd:((x:Int)==0)
 ·have HP:=Ja (jiu HO nle (.string s) (.string t) (.bool false));go_wp2;exact bodyPost_ret (v:= .agg #[.string s,.string t,.bool false]) (by simp[results,Tryz.results129,go_sem,p0,p1,p2]) rfl ⟨⟨s,t,false⟩,rfl,⟨hs,ht⟩,(((hr4.put hg _).put hg _).put hg _).mono (by omega),HP.out⟩
 ·have HP:=Ja (jiu HO nle (.string s) (.string ⟨#[]⟩) (.bool true));go_wp2;exact bodyPost_ret (v:= .agg #[.string s,.string ⟨#[]⟩,.bool true]) (by simp[results,Tryz.results129,go_sem,p0,p1,p2]) rfl ⟨⟨s,⟨#[]⟩,true⟩,rfl,⟨hs,Nat.zero_le _⟩,(((hr4.put hg _).put hg _).put hg _).mono (by omega),HP.out⟩
def Xi (l:List Wz):Prop:=∀i (h:i<l.length),Xu l[i]
theorem jb2 {l:List Wz} {r:Wz} (h:Xi l) (hr:Xu r):Xi (l++ [r]):=fun i hi=>by
 by_cases e:i<l.length
 ·rw[List.getElem_append_left e];exact h i e
 ·have:i=l.length:=by simp at hi;omega
  subst this;simpa using hr
def DrEdits (g P:Nat) (w:World) (e:Ending) (w':World):Prop:=
 ∃v l,e= .returned v∧w'.ownsRow w.heap.size 93 3 v l.length (l.flatMap Jp)∧Xi l∧l.length≤4∧Rd w' g P∧Only [g] w w'
theorem jcl:(Tryz.prog.info? 93).map (fun i=>(i.zero,i.size,i.bytes))=some (some (.agg #[.string ByteArray.empty,.string ByteArray.empty,.bool false]),3,40):=by kernel_rfl
theorem jeu (g P:Nat) (hP:P+20≤1000000) (w:World) (h:Rd w g P):
  Calls Tryz.prog 128 #[.pointer (some ⟨g,0,none⟩)] w (DrEdits g (P+20) w):=by
 have hg:=h.lt;obtain⟨i0,hi,hz0,hz1,hz2⟩:=info_parts jcl;have HO:=Ja (World.ownsRow_made (base:=w.heap.size) (e:=93) (size:=3) w #[] 0 nle (by simp[maxLen]) rfl);go_enter Tryz.func128,Tryz.ntmps128;go_wp2_with fail;refine(Jk g P 4 (by omega) (by omega) _ (h.step ((Below.refl _ _).alloc nle _))).mono ?_;rintro e w1 ⟨j0,rfl,hj0,hr1,ho1⟩;have HW:=Ja (Vj HO.out ho1 hg)
 have ho:=Only.box ho1;clear HO ho1;go_wp2
 go_loopw [3,4] (fun v kv wr=>∃(j:Nat) (l:List Wz),kv= .int .i64 (j:Int)∧j≤4∧wr.ownsRow w.heap.size 93 3 v l.length (l.flatMap Jp)∧Xi l∧l.length+j≤4∧Rd wr g (P+1+4*(4 - j))∧Only [g] w wr) (fun _ i _=>(intOf i).toNat)
 case atStart=>exact⟨1+j0,[],by go_num,by omega,HW.out,fun i hi=>absurd hi (by simp),by simp;omega,hr1.mono (by omega),ho⟩
 case round=>
  obtain⟨j,l,rfl,hj,hown,hfit,hl,hr,hor⟩:=hrel;have HW1:=Ja hown;have HF:=Ja hfit;clear hown hfit HW hr1 ho hj0;by_cases hlt:0<j
  ·have hlt':(0:Int)<(j:Int):=by omega
   go_wp2_with fail;refine(jc6 g (P+1+4*(4 - j)) (by omega) _ hr).mono ?_;rintro e w2 ⟨r,rfl,hrf,hr2,ho2⟩;have HR:=Ja hrf;have hown3:=Vj HW1.out ho2 hg;have hor3:=hor.trans ho2;have hsz:=hor3.size;have hbA:=(Below.refl w.heap.size w2).alloc hsz (.cells (Jp r).toArray 93);rw[show(Jp r).toArray= #[.string r.path,.string r.bytes,.bool r.gone] from rfl];clear hrf HW1 ho2 hr
   go_wp2_with(at_builtin;refine wpList_append_own _ rfl _ _ 27 rfl w.heap.size 93 i0 _ 3 40 Tryz.underlying27 hi hz0 hz1 hz2 rfl (by decide) _ _ _ rfl (hown3.alloc _) ⟨w2.heap.size,0,none⟩ 1 1 (Jp r) rfl rfl (Jm w2 (Jp r) _) (Rp.edit.one (w:=w2) ⟨rfl,rfl⟩) (by unfold maxLen;omega) (by omega) (by simp;omega) ?_);intro v4 w4 hown4 hgrow _
   have hlow:Below w.heap.size w2 w4:=hbA.grown hgrow (by simp;omega) (fun j hj=>(hown3.lt j hj).1);have hr4:=hr2.below hlow hg;have ho4:=hor3.then_low hlow;have HW4:=Ja (jcj hown4);have HF4:=Ja (jb2 HF.out HR.out);have hl4:(l++ [r]).length+(j - 1)≤4:=by simp;omega
   generalize l++ [r]=l4 at HW4 HF4 hl4;clear hown4 hgrow hlow hr2 hor3 hown3 hbA hsz HR;go_wp2;exact⟨⟨j - 1,l4,by go_num,by omega,HW4.out,HF4.out,hl4,hr4.mono (by omega),ho4⟩,by simp[intOf];omega⟩
  ·have hlt': ¬(0:Int)<(j:Int):=by omega
   go_wp2;go_ret;exact⟨_,l,rfl,HW1.out,HF.out,by omega,hr.mono (by omega),hor⟩
end Go.Proofs.YtlkoaobaoffpaaaGreatDoor
