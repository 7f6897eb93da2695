/- Lemmas and walks, joined by program. -/
import Derived.Deep.CutRange
import Derived.Deep.AppendLies
import Derived.BigRegion
import Derived.Test.YtobbdhgkcoeifaaGreatDoorZ9
import Derived.Test.YtobbdhgkcoeifaaGreatDoorZ4
import Derived.Test.YtobbdhgkcoeifaaGreatDoorZ5
import Derived.Test.YtobbdhgkcoeifaaGreatDoorZ8
namespace Go.Proofs.YtobbdhgkcoeifaaGreatDoor
open Go.RowKit
attribute [local go_sem ↓] Go.wp_at_zero Go.wp_at_succ
set_option maxHeartbeats 8000000
set_option maxRecDepth 100000
set_option linter.unusedSimpArgs false
set_option linter.unusedVariables false
def StopQ (K:Act→World→Prop):Exit→Act→World→Prop
 | .normal=>K
 |_=>fun _ _=>False
theorem jqx (K:Act→World→Prop):StopQ K .normal=K:=rfl
theorem jnt {P:Program} {c:Code} {Q:Exit→Act→World→Prop} {a:Act} {w:World} (h: ∀K:Act→World→Prop,(∀a w,Q .normal a w→K a w)→c.wp P (StopQ K) a w):c.wp P Q a w:=
 Code.wp_mono (Q:=StopQ (Q .normal)) (fun e a w hq=>by cases e<;>first|exact hq|exact False.elim hq) (h (Q .normal) fun _ _ h=>h)
attribute [local go_sem] jqx
def allTo {α:Type} (p:α→Bool) (l:List α) (k:Nat):Prop:=(l.take k).all p=true
section
variable {α:Type} {p:α→Bool} {l:List α} {k:Nat}
theorem allTo.zero:allTo p l 0:=by simp[allTo]
theorem allTo.next (h:allTo p l k) (hk:k<l.length) (hp:p l[k]=true):allTo p l (k+1):=by
 unfold allTo at*;rw[List.take_succ_eq_append_getElem hk,List.all_append,h];simp[hp]
theorem allTo.end_ (h:allTo p l l.length):l.all p=true:=by
 unfold allTo at h;rwa [List.take_of_length_le nle] at h
theorem jpg (hk:k<l.length) (hp:p l[k]=false):l.all p=false:=by
 rw[List.all_eq_false];exact⟨_,List.getElem_mem hk,by simp[hp]⟩
end
theorem jiy (keys admins:List Int):Ys (Yl keys admins)=(inB keys.length 1 4&&inB admins.length 1 3&&keys.all (fun n=>inB n 1 9999)&&admins.all (fun a=>inB a 1 keys.length)):=by
 have h1:((jbo keys).all fun n=>inB n 0 200)=true:=by
  rw[List.all_eq_true];intro n hn;unfold jbo at hn;rw[List.mem_map] at hn;obtain⟨_,_,rfl⟩:=hn
  decide
 have h2: ∀a:Int,repoOk keys.length ⟨a,[],[]⟩=inB a 1 keys.length:=fun a=>by
  unfold repoOk;rw[show J5 ([]:List Yt)=true by decide];simp[jay]
 unfold Ys usersOk Yl;simp only[h1,jei,List.length_map,List.all_map];rw[show(repoOk (keys.length:Int)∘fun a=>(⟨a,[],[]⟩:Xq))=fun a=>inB a 1 keys.length from funext h2];simp only[decide_true,Bool.and_true];cases inB keys.length 1 4<;>cases inB admins.length 1 3<;>simp
theorem jdm {keys admins:List Int} (h:(inB keys.length 1 4&&inB admins.length 1 3&&keys.all (fun n=>inB n 1 9999)&&admins.all (fun a=>inB a 1 keys.length))=false):jb4 keys admins=⟨[],[],[]⟩:=by
 unfold jb4;rw[jiy,h];rfl
theorem jmz {keys admins:List Int} (h:(inB keys.length 1 4&&inB admins.length 1 3&&keys.all (fun n=>inB n 1 9999)&&admins.all (fun a=>inB a 1 keys.length))=true):jb4 keys admins=Yl keys admins:=by
 unfold jb4;rw[jiy,h];rfl
def ReadR {α:Type} (r:Rp α) (w:World) (x:α) (e:Ending) (w':World):Prop:=
 ∃cs fp,e= .returned (.agg cs.toArray)∧r.R w' cs x fp∧(∀b∈fp,w.heap.size≤b)∧Below w.heap.size w w'
def jnh (n:Int):List Value:=[.int .i64 n]
theorem jn4 {l:List Int} {k:Nat} (h:k<l.length):(l.take (k+1)).flatMap jnh=(l.take k).flatMap jnh++ [.int .i64 l[k]]:=by
 rw[List.take_succ_eq_append_getElem h,List.flatMap_append,List.flatMap_singleton];rfl
theorem jmg {l:List Int} {k:Nat} (h:k<l.length):(jbo (l.take (k+1))).flatMap jnh=(jbo (l.take k)).flatMap jnh++ [.int .i64 0]:=by
 unfold jbo;rw[List.take_succ_eq_append_getElem h,List.map_append,List.flatMap_append];rfl
structure Pair (B b:Nat) (w:World) (vK vU:Value) (n m:Nat) (xs ys:List Value):Prop where
 blk:Blk w b 26 #[vK,vU,.slice none 0 0]
 oK:w.ownsRow B 3 1 vK n xs
 oU:w.ownsRow B 3 1 vU m ys
 dj: ∀z∈Vm vK,z∉Vm vU
section
variable {B b n m g cap HA:Nat} {w w2 wA w6:World} {vK vU:Value} {xs ys news:List Value}
theorem Pair.nK (h:Pair B b w vK vU n m xs ys) (hb:b<B):b∉Vm vK:=fun hm=>by have:=(Jn h.oK b hm).1;omega
theorem Pair.nU (h:Pair B b w vK vU n m xs ys) (hb:b<B):b∉Vm vU:=fun hm=>by have:=(Jn h.oU b hm).1;omega
theorem Pair.step (h:Pair B b w vK vU n m xs ys) (hB:Below w.heap.size w wA):Pair B b wA vK vU n m xs ys:=
 ⟨h.blk.step hB,Jy h.oK fun z hz=>hB.block z (Jn h.oK z hz).2,Jy h.oU fun z hz=>hB.block z (Jn h.oU z hz).2,h.dj⟩
theorem Pair.growK (h:Pair B b w vK vU n m xs ys) (hb:b<B) (hB:Below w.heap.size w wA) (ho2:w6.ownsRow B 3 1 (.slice (some ⟨g,0,none⟩) (n+1) cap) (n+1) (xs++news)) (hgr:wA.grownBy w6 vK.ownBlock) (hor:vK.ownBlock=some g∨g=HA) (hHA:wA.heap.size=HA):
  Blk w6 b 26 #[vK,vU,.slice none 0 0]∧Pair B b (w6.setCell ⟨b,0,none⟩ (.slice (some ⟨g,0,none⟩) (n+1) cap)) (.slice (some ⟨g,0,none⟩) (n+1) cap) vU (n+1) m (xs++news) ys∧
   (w2.heap.size=B→Only [b] w2 w→Only [b] w2 (w6.setCell ⟨b,0,none⟩ (.slice (some ⟨g,0,none⟩) (n+1) cap))):=by
 have hA:=h.step hB;have k6:=hA.blk.only (Yr hgr) (h.nK hb);have e6: ∀z∈Vm vU,w6.heap[z]? =wA.heap[z]? :=fun z hz=>(Yr hgr).block z (Jn hA.oU z hz).2 fun hm=>h.dj z hm hz;have oU6:=Jy hA.oU e6;have ho:=Js w6 b 0 (.slice (some ⟨g,0,none⟩) (n+1) cap);have hgB:=(Jn ho2 g (by simp[Vm,Value.ownBlock])).1
 refine⟨k6,⟨by simpa using k6.put 0 _,Jy ho2 fun z hz=>ho.block z (Jn ho2 z hz).2 (by simp;have:=(Jn ho2 z hz).1;omega),Jy oU6 fun z hz=>ho.block z (Jn oU6 z hz).2 (by simp;have:=(Jn oU6 z hz).1;omega),fun z hz hm=> ?_⟩,fun h2 hw=>((hw.then_below hB).then_only (Yr hgr) (fun z hz=> .inr (by have:=(Jn h.oK z hz).1;omega))).trans ho⟩
 simp[Vm,Value.ownBlock] at hz;subst hz;rcases hor with h'|h'
 ·exact h.dj z (by unfold Vm;rw[h'];simp) hm
 ·have:=(Jn h.oU z hm).2;have:=hB.size;omega
theorem Pair.growU (h:Pair B b w vK vU n m xs ys) (hb:b<B) (hB:Below w.heap.size w wA) (ho2:w6.ownsRow B 3 1 (.slice (some ⟨g,0,none⟩) (m+1) cap) (m+1) (ys++news)) (hgr:wA.grownBy w6 vU.ownBlock) (hor:vU.ownBlock=some g∨g=HA) (hHA:wA.heap.size=HA):
  Blk w6 b 26 #[vK,vU,.slice none 0 0]∧Pair B b (w6.setCell ⟨b,1,none⟩ (.slice (some ⟨g,0,none⟩) (m+1) cap)) vK (.slice (some ⟨g,0,none⟩) (m+1) cap) n (m+1) xs (ys++news)∧
   (w2.heap.size=B→Only [b] w2 w→Only [b] w2 (w6.setCell ⟨b,1,none⟩ (.slice (some ⟨g,0,none⟩) (m+1) cap))):=by
 have hA:=h.step hB;have k6:=hA.blk.only (Yr hgr) (h.nU hb);have e6: ∀z∈Vm vK,w6.heap[z]? =wA.heap[z]? :=fun z hz=>(Yr hgr).block z (Jn hA.oK z hz).2 fun hm=>h.dj z hz hm;have oK6:=Jy hA.oK e6;have ho:=Js w6 b 1 (.slice (some ⟨g,0,none⟩) (m+1) cap)
 refine⟨k6,⟨by simpa using k6.put 1 _,Jy oK6 fun z hz=>ho.block z (Jn oK6 z hz).2 (by simp;have:=(Jn oK6 z hz).1;omega),Jy ho2 fun z hz=>ho.block z (Jn ho2 z hz).2 (by simp;have:=(Jn ho2 z hz).1;omega),fun z hz hm=> ?_⟩,fun h2 hw=>((hw.then_below hB).then_only (Yr hgr) (fun z hz=> .inr (by have:=(Jn h.oU z hz).1;omega))).trans ho⟩
 simp[Vm,Value.ownBlock] at hm;subst hm;rcases hor with h'|h'
 ·exact h.dj z hz (by unfold Vm;rw[h'];simp)
 ·have:=(Jn h.oK z hz).2;have:=hB.size;omega
end
def keyB (n:Int):Bool:=inB n 1 9999
def admB (u a:Int):Bool:=inB a 1 u
def jqw (keys:List Int) (b:Nat) (w2:World) (k:Nat) (wr:World):Prop:=
 ∃vK vU,Pair w2.heap.size b wr vK vU k k ((keys.take k).flatMap jnh) ((jbo (keys.take k)).flatMap jnh)∧Only [b] w2 wr
theorem jhn {w:World} {B:Nat} {v:Value} {l:List Int} (h:w.ownsRow B 3 1 v l.length (l.flatMap jnh)): ∃A c f,v= .slice A l.length c∧SlR Rp.int w A l.length c l f∧(∀z∈f,B≤z):=by
 obtain⟨A,c,f,hv,hs,h0,_,_⟩:=SlR.of_owns (r:=Rp.int) (f1:=[]) h (AllR.flat (w:=w).2 ⟨rfl,rfl⟩);exact⟨A,c,f,hv,by simpa using hs,fun z hz=>(h.lt z (h0 z hz).1).1⟩
def AdmTo (keys admins:List Int) (wc:World) (b:Nat) (vK vU:Value) (k:Nat) (wr:World):Prop:=
 ∃v,Blk wr b 26 #[vK,vU,v]∧OwB Rp.repo 48 wc.heap.size v ((Yl keys admins).Rz.take k) wr∧Only [b] wc wr
theorem jgf {A0 A1:Option Addr} {c0 c1:Nat} {keys admins:List Int} {f0 f1:List Nat} (w:World) (h0:SlR Rp.int w A0 keys.length c0 keys f0) (h1:SlR Rp.int w A1 admins.length c1 admins f1) (hk:keys.length≤1048576) (ha:admins.length≤1048576):
  Calls Tryz.prog 76 #[.slice A0 keys.length c0,.slice A1 admins.length c1] w (ReadR Rp.house w (jb4 keys admins)):=by
 have hf0:=h0.lt;have hf1:=h1.lt;have k1:=Blk.new w 26 H0;have k2:=Blk.new (w.alloc (.cells H0 26)) 26 H0;replace k1:=k1.alloc (.cells H0 26);have HB0:=(((Below.refl w.heap.size w).alloc nle (.cells H0 26)).alloc (by simp) (.cells H0 26));replace h0:=(h0.allocN (.cells H0 26)).allocN (.cells H0 26);replace h1:=(h1.allocN (.cells H0 26)).allocN (.cells H0 26)
 rw[show(w.alloc (.cells H0 26)).heap.size=w.heap.size+1 by simp] at k2;have HSZ0:=Ja (show((w.alloc (.cells H0 26)).alloc (.cells H0 26)).heap.size=w.heap.size+1+1 by simp);have HK:=Ja hk;have HA:=Ja ha;clear hk ha;go_enter Tryz.func76,Tryz.ntmps76;go_upto_region 2 with fail
 generalize hW0:(w.alloc (.cells H0 26)).alloc (.cells H0 26)=w0 at k1 k2 HB0 HSZ0 h0 h1 ⊢;clear hW0;go_wp2_with fail;refine(Jw keys.length 1 4 _).mono ?_;rintro e w1 ⟨rfl,hb1⟩;replace k1:=k1.step hb1;replace k2:=k2.step hb1;replace h0:=h0.step hb1;replace h1:=h1.step hb1;have HS1:=Ja (show w.heap.size+1+1≤w1.heap.size by have:=hb1.size;have:=HSZ0.out;omega);replace HB0:=Below.t HB0 hb1
 clear hb1 HSZ0;cases hd:inB keys.length 1 4
 ·have HE:=Ja (show jb4 keys admins=⟨[],[],[]⟩ from jdm (by rw[hd];simp));have kz:=k1;have HBB:=Ja HB0;have m0:=Blk.c0 k2;have m1:=Blk.c1 k2;have m2:=Blk.c2 k2;clear hd h0 h1 k1 k2 HB0;have y0:=Jb kz 0;have y1:=Jb kz 1;have y2:=Jb kz 2;have d0:=Blk.c0 kz;have d1:=Blk.c1 kz;have d2:=Blk.c2 kz
  have R:=Ja (((kz.put 0 (.slice none 0 0)).put 1 (.slice none 0 0)).put 2 (.slice none 0 0));have RO:=Ja ((((Only.refl [w.heap.size] w1).setCell (p:=⟨w.heap.size,0,none⟩) (.inl (by simp)) (.slice none 0 0)).setCell (p:=⟨w.heap.size,1,none⟩) (.inl (by simp)) (.slice none 0 0)).setCell (p:=⟨w.heap.size,2,none⟩) (.inl (by simp)) (.slice none 0 0))
  have HBW:=Ja (Zh (i:=0) (j:=1) (k:=2) (u:=(.slice none 0 0)) (v:=(.slice none 0 0)) (y:=(.slice none 0 0)) HBB.out nle);clear kz HBB;go_wp2_with fail;have R:=R.out;have RO:=RO.out;have HBW:=HBW.out;generalize((w1.setCell ⟨w.heap.size,0,none⟩ (.slice none 0 0)).setCell ⟨w.heap.size,1,none⟩ (.slice none 0 0)).setCell ⟨w.heap.size,2,none⟩ (.slice none 0 0)=W at R RO HBW ⊢;have e0:=Blk.c0 R
  have e1:=Blk.c1 R;have e2:=Blk.c2 R;refine bodyPost_ret (v:= .agg #[(.slice none 0 0),(.slice none 0 0),(.slice none 0 0)]) (by simp[results,Tryz.results76,go_sem,e0,e1,e2]) rfl ?_;rw[HE.out];exact⟨[.slice none 0 0,.slice none 0 0,.slice none 0 0],[],rfl,⟨none,0,0,[],none,0,0,[],none,0,0,[],rfl,rfl,SlR.nil,SlR.nil,SlR.nil⟩,by simp,HBW⟩
 have H1:=Ja hd;clear hd;go_wp2_with fail;refine(Jw admins.length 1 3 _).mono ?_;rintro e w2 ⟨rfl,hb2⟩;replace k1:=k1.step hb2;replace k2:=k2.step hb2;replace h0:=h0.step hb2;replace h1:=h1.step hb2;have HS2:=Ja (show w.heap.size+1+1≤w2.heap.size by have:=hb2.size;have:=HS1.out;omega);replace HB0:=Below.t HB0 hb2;clear hb2 HS1;cases hd:inB admins.length 1 3
 ·have HE:=Ja (show jb4 keys admins=⟨[],[],[]⟩ from jdm (by rw[hd];simp));have kz:=k1;have HBB:=Ja HB0;have m0:=Blk.c0 k2;have m1:=Blk.c1 k2;have m2:=Blk.c2 k2;clear hd h0 h1 k1 k2 HB0;have y0:=Jb kz 0;have y1:=Jb kz 1;have y2:=Jb kz 2;have d0:=Blk.c0 kz;have d1:=Blk.c1 kz;have d2:=Blk.c2 kz
  have R:=Ja (((kz.put 0 (.slice none 0 0)).put 1 (.slice none 0 0)).put 2 (.slice none 0 0));have RO:=Ja ((((Only.refl [w.heap.size] w2).setCell (p:=⟨w.heap.size,0,none⟩) (.inl (by simp)) (.slice none 0 0)).setCell (p:=⟨w.heap.size,1,none⟩) (.inl (by simp)) (.slice none 0 0)).setCell (p:=⟨w.heap.size,2,none⟩) (.inl (by simp)) (.slice none 0 0))
  have HBW:=Ja (Zh (i:=0) (j:=1) (k:=2) (u:=(.slice none 0 0)) (v:=(.slice none 0 0)) (y:=(.slice none 0 0)) HBB.out nle);clear kz HBB;go_wp2_with fail;have R:=R.out;have RO:=RO.out;have HBW:=HBW.out;generalize((w2.setCell ⟨w.heap.size,0,none⟩ (.slice none 0 0)).setCell ⟨w.heap.size,1,none⟩ (.slice none 0 0)).setCell ⟨w.heap.size,2,none⟩ (.slice none 0 0)=W at R RO HBW ⊢;have e0:=Blk.c0 R
  have e1:=Blk.c1 R;have e2:=Blk.c2 R;refine bodyPost_ret (v:= .agg #[(.slice none 0 0),(.slice none 0 0),(.slice none 0 0)]) (by simp[results,Tryz.results76,go_sem,e0,e1,e2]) rfl ?_;rw[HE.out];exact⟨[.slice none 0 0,.slice none 0 0,.slice none 0 0],[],rfl,⟨none,0,0,[],none,0,0,[],none,0,0,[],rfl,rfl,SlR.nil,SlR.nil,SlR.nil⟩,by simp,HBW⟩
 have H2:=Ja hd;clear hd;have hL0: ∀z∈f0,z<w.heap.size:=hf0;have hL1: ∀z∈f1,z<w.heap.size:=hf1;have K1:=Ja (show ∀W:World,Only [w.heap.size+1] w2 W→Blk W w.heap.size 26 H0 from fun W h=>k1.only h (by simp));have R0:=Ja (show ∀W:World,Only [w.heap.size+1] w2 W→SlR Rp.int W A0 keys.length c0 keys f0 from fun W h=>h0.only h (fun z hz hm=>by simp at hm;have:=hL0 z hz;omega))
 have R1:=Ja (show ∀W:World,Only [w.heap.size+1] w2 W→SlR Rp.int W A1 admins.length c1 admins f1 from fun W h=>h1.only h (fun z hz hm=>by simp at hm;have:=hL1 z hz;omega));have RB:=Ja (show ∀W:World,Only [w.heap.size+1] w2 W→Below w.heap.size w W from fun W h=>HB0.trans (h.below (fun z hz=>by simp at hz;omega) (by have:=HS2.out;omega)));have hm0:=h0.max;have hm1:=h1.max
 obtain⟨i0,hi0,hz0,hz1,hz2⟩:=info_parts jfw;have KP:=Ja k2;clear h0 h1 k1 k2 HB0 hL0 hL1;go_wp2_with fail
 go_loopw [6] (fun i wr=>∃k:Nat,k≤keys.length∧i= .int .i64 k∧allTo keyB keys k∧jqw keys (w.heap.size+1) w2 k wr) (fun i _=>keys.length - (intOf i).toNat)
 case atStart=>exact⟨0,Nat.zero_le _,rfl,allTo.zero,.slice none 0 0,.slice none 0 0,⟨KP.out,World.ownsRow_nil _ _ _ _,World.ownsRow_nil _ _ _ _,by simp[Vm,Value.ownBlock]⟩,Only.refl _ _⟩
 case round=>
  obtain⟨wo,hwo⟩: ∃wo,wo=wr:=⟨_,rfl⟩;subst hwo;obtain⟨k,hk,rfl,hal,vK,vU,hP,ho⟩:=hrel;have HP:=Ja hP;have HO:=Ja ho;have HAL:=Ja hal;have hbB:w.heap.size+1<w2.heap.size:=by have:=HS2.out;omega
  have HbB:=Ja hbB;clear hP ho hal;by_cases hlt:k<keys.length
  ·obtain⟨bp,op,rfl,hbp,hmp,q0⟩:=Xg (R0.out wo HO.out) hlt;have j0:(0:Int)≤(k:Int):=by omega
   have j1:(k:Int)<(keys.length:Int):=by omega
   have kb:=HP.out.blk;have u0:wo.cell? ⟨w.heap.size+1,0,none⟩=some vK:=kb.cell 0;go_wp2_with fail;refine(Jw keys[k] 1 9999 _).mono ?_;rintro e w3 ⟨rfl,hb3⟩;have q3:=Je q0 hb3;have HP3:=Ja (HP.out.step hb3);have HO3:=Ja (HO.out.then_below hb3);clear hb3 u0 q0 kb hbp HP HO;cases hd:inB keys[k] 1 9999
   ·have HE:=Ja (show jb4 keys admins=⟨[],[],[]⟩ from jdm (by rw[show(keys.all fun n=>inB n 1 9999)=false from jpg hlt hd];simp));have kz:=K1.out _ HO3.out;have HBB:=Ja (RB.out _ HO3.out);clear hd q3;have y0:=Jb kz 0;have y1:=Jb kz 1;have y2:=Jb kz 2;have d0:=Blk.c0 kz;have d1:=Blk.c1 kz;have d2:=Blk.c2 kz
    have R:=Ja (((kz.put 0 (.slice none 0 0)).put 1 (.slice none 0 0)).put 2 (.slice none 0 0));have RO:=Ja ((((Only.refl [w.heap.size] w3).setCell (p:=⟨w.heap.size,0,none⟩) (.inl (by simp)) (.slice none 0 0)).setCell (p:=⟨w.heap.size,1,none⟩) (.inl (by simp)) (.slice none 0 0)).setCell (p:=⟨w.heap.size,2,none⟩) (.inl (by simp)) (.slice none 0 0))
    have HBW:=Ja (Zh (i:=0) (j:=1) (k:=2) (u:=(.slice none 0 0)) (v:=(.slice none 0 0)) (y:=(.slice none 0 0)) HBB.out nle);clear kz HBB;go_wp2_with fail;have R:=R.out;have RO:=RO.out;have HBW:=HBW.out;generalize((w3.setCell ⟨w.heap.size,0,none⟩ (.slice none 0 0)).setCell ⟨w.heap.size,1,none⟩ (.slice none 0 0)).setCell ⟨w.heap.size,2,none⟩ (.slice none 0 0)=W at R RO HBW ⊢
    have e0:=Blk.c0 R;have e1:=Blk.c1 R;have e2:=Blk.c2 R;refine bodyPost_ret (v:= .agg #[(.slice none 0 0),(.slice none 0 0),(.slice none 0 0)]) (by simp[results,Tryz.results76,go_sem,e0,e1,e2]) rfl ?_;rw[HE.out];exact⟨[.slice none 0 0,.slice none 0 0,.slice none 0 0],[],rfl,⟨none,0,0,[],none,0,0,[],none,0,0,[],rfl,rfl,SlR.nil,SlR.nil,SlR.nil⟩,by simp,HBW⟩
   ·have HAN:=Ja (HAL.out.next hlt (show keyB keys[k]=true from hd));clear hd HAL;have kb:=HP3.out.blk;have u0:w3.cell? ⟨w.heap.size+1,0,none⟩=some vK:=kb.cell 0;have HKk:=Ja (show k+1≤1048576 from by have:=HK.out;omega);have HSo:=Ja (show w2.heap.size≤w3.heap.size from HO3.out.size);have ua:=J6 u0 (.cells #[.int .i64 keys[k]] 3);go_wp2_with fail;refine jnt fun K hK=> ?_
    have HKK:=Ja hK;clear hK
    go_region_law (refine step_append_lies _ rfl _ _ 23 rfl w2.heap.size 3 i0 _ 1 8 Tryz.underlying23 hi0 hz0 hz1 hz2 rfl (by decide) vK k ((keys.take k).flatMap jnh) (by simp[Act.eval,Act.put]) (HP3.out.step (by first|exact((Below.refl _ _).alloc nle _).drew|exact((Below.refl _ _).drew).alloc nle _)).oK ⟨w3.heap.size,0,none⟩ 1 1 [.int .i64 keys[k]] (by simp[Act.eval,Act.put]) rfl (by first|exact Jm w3.drew _ _|exact Jm w3 _ _) (by intro u hu;simp at hu;subst hu;rfl) (by decide) (by have:=HKk.out;unfold maxLen;omega) (by have:=HKk.out;omega) (by first|(simp;have:=HSo.out;omega)) (w3.heap.size+1) (by simp) ?_;intro g cap w6 ho2 hgr hor hlt2;obtain⟨k6,P6,O6⟩:=HP3.out.growK (w2:=w2) HbB.out (by first|exact((Below.refl _ _).drew).alloc nle _|exact((Below.refl _ _).alloc nle _).drew) ho2 hgr hor (by simp);have cb6:=k6.cell 0;have zb6:=Jb k6 0;simp at cb6)
    all_goals
     refine HKK.out _ _ ?_;clear HKK K;have HP7:=Ja P6;have HO7:=Ja (O6 rfl HO3.out);clear ho2 hgr hor hlt2 k6 P6 O6 cb6 zb6 u0 kb ua;generalize w6.setCell ⟨w.heap.size+1,0,none⟩ (.slice (some ⟨g,0,none⟩) (k+1) cap)=w7 at HP7 HO7 ⊢;have kb:=HP7.out.blk;have u1:w7.cell? ⟨w.heap.size+1,1,none⟩=some vU:=kb.cell 1;have HS7:=Ja (show w2.heap.size≤w7.heap.size from HO7.out.size)
     have HSZ:=Ja (show(w7.alloc (.cells #[.int .i64 0] 3)).heap.size=w7.heap.size+1 by simp)
     go_wp2_with(at_builtin;refine wpList_append_lies _ rfl _ _ 23 rfl w2.heap.size 3 i0 _ 1 8 Tryz.underlying23 hi0 hz0 hz1 hz2 rfl (by decide) _ _ _ rfl (HP7.out.step ((Below.refl _ _).alloc nle _)).oU ⟨w7.heap.size,0,none⟩ 1 1 [.int .i64 0] rfl rfl (Jm w7 _ _) (by intro u hu;simp at hu;subst hu;rfl) (by decide) (by have:=HKk.out;unfold maxLen;omega) (by have:=HKk.out;omega) (by simp;have:=HS7.out;omega) (w7.heap.size+1) HSZ.out ?_)
     intro g2 cap2 w8 ho2 hgr hor hlt2;obtain⟨k8,P8,O8⟩:=HP7.out.growU (w2:=w2) HbB.out ((Below.refl _ _).alloc nle _) ho2 hgr hor HSZ.out;have cb8:w8.cell? ⟨w.heap.size+1,1,none⟩=some vU:=k8.cell 1;have zb8:=Jb k8 1
     have HREL:=Ja (show jqw keys (w.heap.size+1) w2 (k+1) (w8.setCell ⟨w.heap.size+1,1,none⟩ (.slice (some ⟨g2,0,none⟩) (k+1) cap2)) from⟨_,_,by rw[jn4 hlt,jmg hlt];exact P8,O8 rfl HO7.out⟩);clear ho2 hgr hor hlt2 k8 P8 O8 u1 kb q3;go_wp2;exact⟨⟨k+1,by omega,by go_num,HAN.out,HREL.out⟩,by simp[intOf];omega⟩
  ·have hk':k=keys.length:=by omega
   subst hk';have HKO:=Ja (show(keys.all fun n=>inB n 1 9999)=true from HAL.out.end_);have hP:=HP.out;rw[show(keys.take keys.length)=keys from List.take_of_length_le nle] at hP;have hU:=hP.oU;rw[←jei keys] at hU;obtain⟨AK,cK,fK,rfl,hsK,hloK⟩:=jhn hP.oK;obtain⟨AU,cU,fU,rfl,hsU,hloU⟩:=jhn hU;have KBW:=Ja hP.blk;have SK:=Ja hsK;have SU:=Ja hsU
   have HLK:=Ja (And.intro hloK hloU);have HSW:=Ja (show w2.heap.size≤wo.heap.size from HO.out.size);obtain⟨j0,hj0,hy0,hy1,hy2⟩:=info_parts jeb;clear hP hU hsK hsU hloK hloU HP HAL hlt hk;go_wp2_with fail
   go_loopw [7] (fun i wr=>∃k:Nat,k≤admins.length∧i= .int .i64 k∧allTo (admB keys.length) admins k∧AdmTo keys admins wo (w.heap.size+1) (.slice AK keys.length cK) (.slice AU (jbo keys).length cU) k wr) (fun i _=>admins.length - (intOf i).toNat)
   case atStart=>exact⟨0,Nat.zero_le _,rfl,allTo.zero,.slice none 0 0,KBW.out,OwB.nil,Only.refl _ _⟩
   case round=>
    obtain⟨wp,hwp⟩: ∃wp,wp=wr:=⟨_,rfl⟩;subst hwp;obtain⟨k,hk,rfl,hal,v,kbr,hown,ho⟩:=hrel;have KBR:=Ja kbr;have HOW:=Ja hown;have HON:=Ja ho;have HOQ:=Ja (HO.out.trans ho);have HAL:=Ja hal;clear kbr hown ho hal;by_cases hlt:k<admins.length
    ·obtain⟨bp,op,rfl,hbp,hmp,q0⟩:=Xg (R1.out wp HOQ.out) hlt;have i0:(0:Int)≤(k:Int):=by omega
     have i1:(k:Int)<(admins.length:Int):=by omega
     go_wp2_with fail;refine(Jw admins[k] 1 keys.length _).mono ?_;rintro e w3 ⟨rfl,hb3⟩;have q3:=Je q0 hb3;have KB3:=Ja (KBR.out.step hb3);have HW3:=Ja (HOW.out.step hb3);have HN3:=Ja (HON.out.then_below hb3);have HO3:=Ja (HO.out.trans HN3.out);clear hb3 q0 hbp KBR HOW HON;cases hd:inB admins[k] 1 keys.length
     ·have HE:=Ja (show jb4 keys admins=⟨[],[],[]⟩ from jdm (by rw[show(admins.all fun a=>inB a 1 keys.length)=false from jpg hlt hd];simp));have kz:=K1.out _ HO3.out;have HBB:=Ja (RB.out _ HO3.out);clear hd q3;have y0:=Jb kz 0;have y1:=Jb kz 1;have y2:=Jb kz 2;have d0:=Blk.c0 kz;have d1:=Blk.c1 kz;have d2:=Blk.c2 kz
      have R:=Ja (((kz.put 0 (.slice none 0 0)).put 1 (.slice none 0 0)).put 2 (.slice none 0 0));have HBW:=Ja (Zh (i:=0) (j:=1) (k:=2) (u:=(.slice none 0 0)) (v:=(.slice none 0 0)) (y:=(.slice none 0 0)) HBB.out nle);clear kz HBB;go_wp2_with fail;have R:=R.out;have HBW:=HBW.out
      generalize((w3.setCell ⟨w.heap.size,0,none⟩ (.slice none 0 0)).setCell ⟨w.heap.size,1,none⟩ (.slice none 0 0)).setCell ⟨w.heap.size,2,none⟩ (.slice none 0 0)=W at R HBW ⊢;have e0:=Blk.c0 R;have e1:=Blk.c1 R;have e2:=Blk.c2 R;refine bodyPost_ret (v:= .agg #[(.slice none 0 0),(.slice none 0 0),(.slice none 0 0)]) (by simp[results,Tryz.results76,go_sem,e0,e1,e2]) rfl ?_;rw[HE.out]
      exact⟨[.slice none 0 0,.slice none 0 0,.slice none 0 0],[],rfl,⟨none,0,0,[],none,0,0,[],none,0,0,[],rfl,rfl,SlR.nil,SlR.nil,SlR.nil⟩,by simp,HBW⟩
     ·have HAN:=Ja (HAL.out.next hlt (show admB keys.length admins[k]=true from hd));clear hd HAL;have HTk:=Ja (show(Yl keys admins).Rz.take (k+1)=(Yl keys admins).Rz.take k++ [⟨admins[k],[],[]⟩] by
       have hl:k<(Yl keys admins).Rz.length:=by simpa [Yl] using hlt
       rw[List.take_succ_eq_append_getElem hl];simp[Yl])
      have HLk:=Ja (show((Yl keys admins).Rz.take k).length=k by simp[Yl];omega);obtain⟨xs,hoo,hgrow⟩:=HW3.out.grow;rw[HLk.out] at hgrow
      have HG:=Ja (show ∀wA:World,Below w3.heap.size w3 wA→wA.heap.size=w3.heap.size+1→wA.ownsRow 0 48 3 v k xs∧Grows Rp.repo 48 wo.heap.size v k xs [.int .i64 admins[k],.slice none 0 0,.slice none 0 0] ((Yl keys admins).Rz.take k++ [⟨admins[k],[],[]⟩]) wA (w3.heap.size+1) from fun wA hb hs=>by
       obtain⟨hoA,hsn⟩:=hgrow hb;exact⟨hoA,hsn (ys:=[.int .i64 admins[k],.slice none 0 0,.slice none 0 0]) (y:=⟨admins[k],[],[]⟩) (g:=[]) ⟨none,0,0,[],none,0,0,[],rfl,rfl,SlR.nil,SlR.nil⟩ List.nodup_nil (by simp) HN3.out.size (Free.nil _) hs⟩)
      have HV:=Ja HW3.out.vlow;have HNEb:=Ja (show w.heap.size+1∉Vm v from fun hm=>by have:=HW3.out.vlow _ hm;have:=HSW.out;have:=HbB.out;omega);have kb:=KB3.out;have u0:w3.cell? ⟨w.heap.size+1,2,none⟩=some v:=kb.cell 2;have HAd:=Ja (show k+1≤1048576 from by have:=HA.out;omega);have HSo:=Ja (show w2.heap.size≤w3.heap.size from HO3.out.size)
      have ua:=J6 u0 (.cells #[.int .i64 admins[k],.slice none 0 0,.slice none 0 0] 48);clear hgrow hoo;go_wp2_with fail;refine jnt fun K hK=> ?_;have HKK:=Ja hK;clear hK
      go_region_law (refine step_append_lies _ rfl _ _ 24 rfl 0 48 j0 _ 3 56 Tryz.underlying24 hj0 hy0 hy1 hy2 rfl (by decide) v k xs (by simp[Act.eval,Act.put]) (HG.out _ (by first|exact((Below.refl _ _).alloc nle _).drew|exact((Below.refl _ _).drew).alloc nle _) (by simp)).1 ⟨w3.heap.size,0,none⟩ 1 1 [.int .i64 admins[k],.slice none 0 0,.slice none 0 0] (by simp[Act.eval,Act.put]) rfl (by first|exact Jm w3.drew _ _|exact Jm w3 _ _) (by intro u hu;simp at hu;rcases hu with rfl|rfl<;>rfl) (by decide) (by have:=HAd.out;unfold maxLen;omega) (by have:=HAd.out;omega) (Nat.zero_le _) (w3.heap.size+1) (by simp) ?_;intro g cap w6 ho2 hgr hor hlt2;have HNw:=Ja ((HG.out _ (by first|exact((Below.refl _ _).drew).alloc nle _|exact((Below.refl _ _).alloc nle _).drew) (by simp)).2 _ _ _ ho2 hgr hor);have HOa:=Ja (show Only [w.heap.size+1] wo w6 from(HN3.out.then_below (by first|exact((Below.refl _ _).drew).alloc nle _|exact((Below.refl _ _).alloc nle _).drew)).then_only (Yr hgr) (fun z hz=> .inr (HV.out z hz)));have k6:=(KB3.out.step (by first|exact((Below.refl _ _).drew).alloc nle _|exact((Below.refl _ _).alloc nle _).drew)).only (Yr hgr) HNEb.out;have cb6:=k6.cell 2;have zb6:=Jb k6 2;simp at cb6)
      all_goals
       refine HKK.out _ _ ?_;clear HKK K;have HREL:=Ja (show AdmTo keys admins wo (w.heap.size+1) (.slice AK keys.length cK) (.slice AU (jbo keys).length cU) (k+1) (w6.setCell ⟨w.heap.size+1,2,none⟩ (.slice (some ⟨g,0,none⟩) (k+1) cap)) from
        ⟨_,by simpa using k6.put 2 (.slice (some ⟨g,0,none⟩) (k+1) cap),by rw[HTk.out];exact HNw.out.only (Js w6 _ 2 _) (by intro z hz;simp at hz;have:=HSW.out;have:=HbB.out;omega),HOa.out.trans (Js w6 _ 2 _)⟩)
       clear ho2 hgr hor hlt2 k6 cb6 zb6 u0 kb ua q3;go_wp2;exact⟨⟨k+1,by omega,by go_num,HAN.out,HREL.out⟩,by simp[intOf];omega⟩
    ·have hk':k=admins.length:=by omega
     subst hk';have HE:=Ja (show jb4 keys admins=Yl keys admins from jmz (by rw[H1.out,H2.out,HKO.out,show(admins.all fun a=>inB a 1 keys.length)=true from HAL.out.end_];rfl));have hown:=HOW.out;rw[show(Yl keys admins).Rz.take admins.length=(Yl keys admins).Rz from List.take_of_length_le (by simp[Yl])] at hown;obtain⟨fq,hows,_,hlo,_⟩:=hown
     obtain⟨Av,cv,fv,rfl,hsl,hsub,_,_⟩:=hows.sl;have hsK:=SK.out.keep (w':=wp) fun z hz=>HON.out.block z (SK.out.lt z hz) (by simp;have:=HLK.out.1 z hz;have:=HbB.out;omega);have hsU:=SU.out.keep (w':=wp) fun z hz=>HON.out.block z (SU.out.lt z hz) (by simp;have:=HLK.out.2 z hz;have:=HbB.out;omega);have hLo: ∀z∈fK++(fU++fv),w.heap.size+1≤z:=fun z hz=>by
      have:=HbB.out;have:=HSW.out;simp only[List.mem_append] at hz;rcases hz with hz|hz|hz
      ·have:=HLK.out.1 z hz;omega
      ·have:=HLK.out.2 z hz;omega
      ·have:=hlo z (hsub.subset hz);omega
     have HRead:=Ja (show Rp.house.R wp [.slice AK keys.length cK,.slice AU (jbo keys).length cU,.slice Av (Yl keys admins).Rz.length cv] (Yl keys admins) (fK++(fU++fv)) from⟨_,_,_,fK,_,_,_,fU,_,_,_,fv,rfl,rfl,hsK,hsU,hsl⟩);have HLo:=Ja hLo;have kB:=KBR.out;have u0:=Blk.c0 kB;have u1:=Blk.c1 kB;have u2:=Blk.c2 kB;have kz:=K1.out _ HOQ.out;have HBB:=Ja (RB.out _ HOQ.out)
     have y0:=Jb kz 0;have y1:=Jb kz 1;have y2:=Jb kz 2;have d0:=Blk.c0 kz;have d1:=Blk.c1 kz;have d2:=Blk.c2 kz;have R:=Ja (((kz.put 0 (.slice AK keys.length cK)).put 1 (.slice AU (jbo keys).length cU)).put 2 (.slice Av (Yl keys admins).Rz.length cv))
     have RO:=Ja ((((Only.refl [w.heap.size] wp).setCell (p:=⟨w.heap.size,0,none⟩) (.inl (by simp)) (.slice AK keys.length cK)).setCell (p:=⟨w.heap.size,1,none⟩) (.inl (by simp)) (.slice AU (jbo keys).length cU)).setCell (p:=⟨w.heap.size,2,none⟩) (.inl (by simp)) (.slice Av (Yl keys admins).Rz.length cv))
     have HBW:=Ja (Zh (i:=0) (j:=1) (k:=2) (u:=(.slice AK keys.length cK)) (v:=(.slice AU (jbo keys).length cU)) (y:=(.slice Av (Yl keys admins).Rz.length cv)) HBB.out nle);clear hows hlo hsl hsub hsK hsU hLo kB HOW kz HBB;go_wp2_with fail;have R:=R.out;have RO:=RO.out;have HBW:=HBW.out
     generalize((wp.setCell ⟨w.heap.size,0,none⟩ (.slice AK keys.length cK)).setCell ⟨w.heap.size,1,none⟩ (.slice AU (jbo keys).length cU)).setCell ⟨w.heap.size,2,none⟩ (.slice Av (Yl keys admins).Rz.length cv)=W at R RO HBW ⊢;have e0:=Blk.c0 R;have e1:=Blk.c1 R;have e2:=Blk.c2 R
     refine bodyPost_ret (v:= .agg #[(.slice AK keys.length cK),(.slice AU (jbo keys).length cU),(.slice Av (Yl keys admins).Rz.length cv)]) (by simp[results,Tryz.results76,go_sem,e0,e1,e2]) rfl ?_;rw[HE.out];have hRd:=HRead.out;have hl7:=Rp.house.lt hRd
     exact⟨_,_,rfl,Rp.house.keep hRd (fun z hz=>RO.block z (hl7 z hz) (by simp;have:=HLo.out z hz;omega)),fun z hz=>by have:=HLo.out z hz;omega,HBW⟩
theorem jjd:(Tryz.prog.info? 3).map (fun i=>(i.zero,i.size,i.bytes))=some (some (.int .i64 0),1,8):=by kernel_rfl
def jgh (n:Nat):List Int:=(List.range n).map fun k:Nat=>10+(k:Int)
theorem jna (n:Nat):(jgh (n+1)).flatMap jnh=(jgh n).flatMap jnh++ [.int .i64 (10+(n:Int))]:=by
 simp[jgh,List.range_succ,jnh]
theorem jjb (n:Nat):(jgh n).length=n:=by simp[jgh]
theorem jku (n:Nat) (hn:n≤100) (w:World):
  Calls Tryz.prog 77 #[.int .i64 (n:Int)] w fun e w'=>∃v,e= .returned v∧w'.ownsRow w.heap.size 3 1 v (jgh n).length ((jgh n).flatMap jnh)∧Below w.heap.size w w':=by
 obtain⟨i0,hi,hz0,hz1,hz2⟩:=info_parts jjd;have HO:=Ja (World.ownsRow_made (base:=w.heap.size) (e:=3) (size:=1) w #[] 0 nle (by simp[maxLen]) rfl);have HB:=(Below.refl w.heap.size w).alloc nle (.cells #[] 3);go_enter Tryz.func77,Tryz.ntmps77;go_wp2
 go_loopw [3,4] (fun v kv wr=>∃j:Nat,kv= .int .i64 (j:Int)∧j≤n∧wr.ownsRow w.heap.size 3 1 v j ((jgh j).flatMap jnh)∧Below w.heap.size w wr) (fun _ i _=>n - (intOf i).toNat)
 case atStart=>exact⟨0,rfl,by omega,HO.out,HB⟩
 case round=>
  obtain⟨j,rfl,hj,hown,hb⟩:=hrel;have HW1:=Ja hown;clear hown HO HB;by_cases hlt:j<n
  ·have hlt':(j:Int)<(n:Int):=by omega
   have hsz:=hb.size;have hown3:=HW1.out;have hbA:=(Below.refl w.heap.size wr).alloc hsz (.cells #[.int .i64 (10+(j:Int))] 3);clear HW1
   go_wp2_with(at_builtin;refine wpList_append_own _ rfl _ _ 23 rfl w.heap.size 3 i0 _ 1 8 Tryz.underlying23 hi hz0 hz1 hz2 rfl (by decide) _ _ _ rfl (hown3.alloc _) ⟨wr.heap.size,0,none⟩ 1 1 [.int .i64 (10+(j:Int))] rfl rfl (Jm wr [.int .i64 (10+(j:Int))] _) (by simp[Value.oneCell']) (by unfold maxLen;omega) (by omega) (by simp;omega) ?_);intro v4 w4 hown4 hgrow _
   have hlow:Below w.heap.size wr w4:=hbA.grown hgrow (by simp;omega) (fun j hj=>(hown3.lt j hj).1);have hb4:=hb.trans hlow;have HW4:=Ja hown4;clear hown4 hgrow hlow hown3 hbA hb hsz;go_wp2;exact⟨⟨j+1,by go_num,by omega,by rw[jna];exact HW4.out,hb4⟩,by simp[intOf];omega⟩
  ·have hlt': ¬(j:Int)<(n:Int):=by omega
   obtain rfl:j=n:=by omega
   go_wp2;go_ret;exact⟨_,rfl,by rw[jjb];exact HW1.out,hb⟩
def jch (q:Req):List Value:=(V5 q (.slice none 0 0)).toList
theorem jjw {w:World} : ∀ {l:List Req},(∀q∈l,q.Ez= [])→AllR Rp.req w (l.flatMap jch) l []
 | [],_=>⟨rfl,rfl⟩
 |q::l,h=>⟨jch q,l.flatMap jch,[],[],rfl,rfl,⟨none,0,0,[],rfl,rfl,by rw[h q (by simp)];exact SlR.nil⟩,jjw fun x hx=>h x (by simp[hx])⟩
def jlv (u:Int) (ref path:ByteArray) (wr:Bool):Yt:=⟨u,ref,path,wr⟩
def startL:List Req:=
 [{ Ws with user:=1,key:=10,kind:=6,ref:=⟨#[97]⟩},
  { Ws with user:=1,key:=10,kind:=4,rule:=jlv 1 ⟨#[]⟩ ⟨#[]⟩ true},
  { Ws with user:=1,key:=10,kind:=4,rule:=jlv 2 ⟨#[97]⟩ ⟨#[97]⟩ true},
  { Ws with user:=1,key:=10,kind:=4,rule:=jlv 3 ⟨#[97]⟩ ⟨#[98]⟩ false},
  { Ws with user:=2,key:=11,repo:=1,kind:=6,ref:=⟨#[97]⟩},
  { Ws with user:=2,key:=11,repo:=1,kind:=4,rule:=jlv 2 ⟨#[]⟩ ⟨#[]⟩ true},
  { Ws with user:=1,key:=10,kind:=6,ref:=⟨#[98]⟩}]
theorem jj7: ∀q∈startL,q.Ez= []:=by unfold startL Ws;simp
theorem jmj: ∀q∈startL,jdu q:=by
 unfold startL;intro q hq;have h0: ∀(i:Nat) (h:i<([]:List Wz).length),jed ([]:List Wz)[i]:=fun i h=>absurd h (Nat.not_lt_zero _);simp only[List.mem_cons,List.not_mem_nil,or_false] at hq;rcases hq with rfl|rfl|rfl|rfl|rfl|rfl|rfl<;>exact⟨by decide,by decide,by decide,⟨by decide,by decide⟩,h0⟩
theorem ji7 (w:World):
  Calls Tryz.prog 78 #[] w fun e w'=>∃A c f,e= .returned (.slice A 7 c)∧SlR Rp.req w' A 7 c startL f∧(∀z∈f,w.heap.size≤z)∧Below w.heap.size w w':=by
 have HB:=Ja ((Below.refl w.heap.size w).alloc nle (.cells (startL.flatMap jch).toArray 31));have HS:=Ja (SlR.of_owns (r:=Rp.req) (w:=w.alloc (.cells (startL.flatMap jch).toArray 31)) (l:=startL) (World.ownsRow_lit (base:=w.heap.size) (e:=31) (size:=15) w (startL.flatMap jch).toArray 7 nle (by decide) (by decide)) (jjw jj7));go_enter Tryz.func78,Tryz.ntmps78;go_wp2
 go_ret;obtain⟨A,c,f,he,hs,hf, -, -⟩:=HS.out;cases he;exact⟨_,_,_,rfl,hs,fun z hz=>(hf z (by simpa using hz)).2,HB.out⟩
def jas (l:List File) (k:Nat):List File:=(l.take k).foldl (fun o f=>Zm (fun g=>bLt g.path f.path) f o) []
theorem jc1 {l:List File} {k:Nat} (h:k<l.length):jas l (k+1)=Zm (fun g=>bLt g.path l[k].path) l[k] (jas l k):=by
 unfold jas;rw[List.take_succ_eq_append_getElem h,List.foldl_append];rfl
theorem jbb {l:List File} : ∀ {k:Nat},k≤l.length→(jas l k).length=k
 | 0,_=>rfl
 |k+1,h=>by rw[jc1 (by omega),jaw,jbb (by omega)]
theorem jmk {l:List File} (h:asc File.path l):jas l l.length=l:=by
 unfold jas;rw[List.take_of_length_le nle];simpa using jjk (key:=File.path) l [] (by simpa using h)
theorem jj8 {l:List File} {x:File} (h:asc File.path l):jas (l++ [x]) (l++ [x]).length=Zm (fun g=>bLt g.path x.path) x l:=by
 have h1:jas (l++ [x]) l.length=l:=by
  have:=jmk h;unfold jas at*;rw[List.take_left];rwa [List.take_of_length_le nle] at this
 have h2:l.length<(l++ [x]).length:=by simp
 have:=jc1 h2;rw[h1] at this;rw[show(l++ [x]).length=l.length+1 by simp,this];simp
def lessTo (out:List File) (p:ByteArray) (j:Nat):Prop:=∀i (hi:i<out.length),i<j→bLt out[i].path p=true
theorem lessTo.zero {out:List File} {p:ByteArray} :lessTo out p 0:=fun i _ h=>by omega
theorem lessTo.next {out:List File} {p:ByteArray} {j:Nat} (h:lessTo out p j) (hj:j<out.length) (hl:bLt out[j].path p=true):lessTo out p (j+1):=fun i hi hij=>by
 rcases Nat.lt_succ_iff_lt_or_eq.1 hij with h1|rfl
 ·exact h i hi h1
 ·exact hl
theorem SlR.drop {α:Type} {r:Rp α} {w:World} {b o n c:Nat} {l:List α} {fp:List Nat} (h:SlR r w (some ⟨b,o,none⟩) n c l fp) {k:Nat} (hk:k≤l.length):
  ∃f,SlR r w (some ⟨b,o+k*r.k,none⟩) (n - k) (c - k) (l.drop k) f∧∀z∈f,z∈fp:=by
 obtain⟨hn,h1,h2,xs,f0,f1,hs,ha,hf⟩:=h;obtain⟨c0,c1,g0,g1,e1,e2,e3,e4,e5⟩:=ha.cut k hk;have hl:n - k=(l.drop k).length:=by simp;omega
 rcases hs.2 with ⟨h0,hf0⟩|⟨hn0,b',o',hA,hf0,hb,hc⟩
 ·exact⟨g1,⟨hl,by omega,by omega,c1,[],g1,⟨by rw[e5.len,←hl],.inl ⟨by omega,rfl⟩⟩,e5,rfl⟩,fun z hz=>by rw[hf,e2];simp[hz]⟩
 ·cases hA;by_cases h0:n - k=0
  ·exact⟨g1,⟨hl,by omega,by omega,c1,[],g1,⟨by rw[e5.len,←hl],.inl ⟨h0,rfl⟩⟩,e5,rfl⟩,fun z hz=>by rw[hf,e2];simp[hz]⟩
  ·refine⟨[b]++g1,⟨hl,by omega,by omega,c1,[b],g1,⟨by rw[e5.len,←hl],.inr ⟨by omega,b,o+k*r.k,rfl,rfl,hb, ?_⟩⟩,e5,rfl⟩,fun x hx=> ?_⟩
   ·rw[e1] at hc;have:=hc.right;rwa [e3] at this
   ·rw[hf,e2,hf0];simp at hx ⊢;rcases hx with rfl|hx
    ·simp
    ·simp[hx]
theorem SlR.drop_all {α:Type} {r:Rp α} {w:World} {A B:Option Addr} {n c k:Nat} {l:List α} {fp:List Nat} (h:SlR r w A n c l fp) (hk:c=k): ∃f,SlR r w B (n - k) 0 (l.drop k) f:=by
 have h1:=h.1;have h2:=h.2.1;have e1:n - k=0:=by omega
 have e2:l.drop k= []:=List.drop_eq_nil_of_le (by omega);rw[e1,e2];exact⟨[],rfl,Nat.zero_le _,Nat.zero_le _,[],[],[],⟨by simp,.inl ⟨rfl,rfl⟩⟩,⟨rfl,rfl⟩,rfl⟩
theorem SlR.none_of {α:Type} {r:Rp α} {w:World} {A:Option Addr} (c:Nat) (hc:c≤maxLen):SlR r w A 0 c [] []:=⟨rfl,Nat.zero_le _,hc,[],[],[],⟨by simp,.inl ⟨rfl,rfl⟩⟩,⟨rfl,rfl⟩,rfl⟩
theorem jav {w:World} {base size n:Nat} {e:TypeId} {v:Value} {xs:List Value} (h:w.ownsRow base e size v n xs) (hn:0<n): ∃g cap,v= .slice (some ⟨g,0,none⟩) n cap∧n≤cap∧cap≤maxLen:=by
 rcases h.2 with ⟨rfl,rfl⟩|⟨g,cap,cur,rfl,_,_,hc,hm,_⟩
 ·omega
 ·exact⟨g,cap,rfl,hc,hm⟩
theorem jl1 {w:World} {base size n g cap j:Nat} {e:TypeId} {u:Value} {xs:List Value} (h:w.ownsRow base e size (.slice (some ⟨g,0,none⟩) n cap) n xs) (hn:0<n):
  (w.setCell ⟨g,j,none⟩ u).ownsRow base e size (.slice (some ⟨g,0,none⟩) n cap) n (xs.set j u):=by
 rcases h.2 with ⟨_,h0⟩|⟨g',cap',cur,hv,hb,hg,hc,hm,hs,ht⟩
 ·omega
 ·cases hv;refine⟨by rw[List.length_set];exact h.1,.inr ⟨g,cap,cur.setIfInBounds j u,rfl,hb,Jd hg u,hc,hm,by simpa using hs, ?_⟩⟩;rw[Array.toList_setIfInBounds,List.take_set,ht]
theorem je9: ∀(l:List File) (k:Nat) (hk:k<l.length) (b:ByteArray),(l.set k ⟨l[k].path,b⟩).flatMap Jj=(l.flatMap Jj).set (k*2+1) (.string b)
 |x::l,0,_,b=>rfl
 |x::l,k+1,hk,b=>by
  have ih:=je9 l k (by simpa using hk) b;simp only[List.set_cons_succ,List.getElem_cons_succ,List.flatMap_cons];rw[ih];unfold Jj;rw[show(k+1)*2+1=(k*2+1)+1+1 by omega];rfl
theorem jbr {l:List File} {e:Wz} (h:l.findIdx? (Wv e.path)=none) (hg:e.gone=true):Zf l e=none:=by
 unfold Zf jbj;rw[show(fun f:File=>decide (f.path=e.path))=Wv e.path from rfl,h];simp[hg]
theorem jcr {l:List File} {e:Wz} (h:l.findIdx? (Wv e.path)=none) (hg:e.gone=false):Zf l e=some (Zm (fun g=>bLt g.path e.path) ⟨e.path,e.bytes⟩ l):=by
 unfold Zf jbj;rw[show(fun f:File=>decide (f.path=e.path))=Wv e.path from rfl,h];simp[hg]
theorem jcp {l:List File} {e:Wz} {k:Nat} (h:l.findIdx? (Wv e.path)=some k) (hg:e.gone=true) (hb:e.bytes=ByteArray.empty):Zf l e=some (l.eraseIdx k):=by
 unfold Zf jbj;rw[show(fun f:File=>decide (f.path=e.path))=Wv e.path from rfl,h];simp[hg,hb]
theorem jcq {l:List File} {e:Wz} {k:Nat} (h:l.findIdx? (Wv e.path)=some k) (hg:e.gone=true) (hb:e.bytes≠ByteArray.empty):Zf l e=none:=by
 unfold Zf jbj;rw[show(fun f:File=>decide (f.path=e.path))=Wv e.path from rfl,h];simp[hg,hb]
theorem jco {l:List File} {e:Wz} {k:Nat} (h:l.findIdx? (Wv e.path)=some k) (hg:e.gone=false):Zf l e=some (l.set k ⟨e.path,e.bytes⟩):=by
 unfold Zf jbj;rw[show(fun f:File=>decide (f.path=e.path))=Wv e.path from rfl,h];simp[hg]
theorem joh {l:List File} {p:ByteArray} {k:Nat} (h:l.findIdx? (Wv p)=some k): ∃hk:k<l.length,l[k].path=p:=by
 obtain⟨hk,h1,_⟩:=List.findIdx?_eq_some_iff_getElem.1 h;exact⟨hk,by simpa [Wv] using h1⟩
theorem jej {es:List Wz} : ∀ {l o:List File} {k:Nat},(hk:k<es.length)→Z9 l (es.take k)=some o→Z9 l (es.take (k+1))=Zf o es[k]∧(Zf o es[k]=none→Z9 l es=none):=by
 induction es with
 |nil=>intro l o k hk;simp at hk
 |cons e es ih=>
  intro l o k hk h;cases k with
  |zero=>
   simp only[List.take_zero,Z9,Option.some.injEq] at h;subst h;simp only[List.take_succ_cons,List.take_zero,List.getElem_cons_zero,Z9];cases Zf l e<;>simp[Z9]
  |succ k=>
   simp only[List.take_succ_cons,Z9] at h;cases h1:Zf l e with
   |none=>rw[h1] at h;simp at h
   |some l1=>
    rw[h1] at h;obtain⟨i1,i2⟩:=ih (l:=l1) (o:=o) (k:=k) (by simpa using hk) h;simp only[List.take_succ_cons,Z9,List.getElem_cons_succ,h1];exact⟨i1,i2⟩
theorem jny {l o:List File} {e:Wz} (h:Vk l) (he:e.path.size≤4194304) (ht:Zf l e=some o):Vk o:=fun i hi=>by
 rcases jnx ht (List.getElem_mem hi) with h1|h1
 ·rw[h1];exact he
 ·obtain⟨j,hj,h2⟩:=List.mem_iff_getElem.1 h1;rw[←h2];exact h j hj
structure TurnTo (l:List File) (es:List Wz) (k:Nat) (o:List File):Prop where
 all:Z9 l (es.take k)=some o
 asc_:asc File.path o
 len:o.length≤60+k
 fit:Vk o
section
variable {l o o':List File} {es:List Wz} {k:Nat}
theorem TurnTo.zero (h:Y1 l=true) (hf:Vk l):TurnTo l es 0 l:=⟨by simp[Z9],jn1 h,by have:=(Yo.1 h).1;omega,hf⟩
theorem TurnTo.next (h:TurnTo l es k o) (hk:k<es.length) (he:es[k].path.size≤4194304) (ht:Zf o es[k]=some o'):TurnTo l es (k+1) o':=
 ⟨by rw[(jej hk h.all).1,ht],jnz h.asc_ ht,by have:=jie ht;have:=h.len;omega,jny h.fit he ht⟩
theorem TurnTo.no (h:TurnTo l es k o) (hk:k<es.length) (ht:Zf o es[k]=none):Yu l es=none:=by
 unfold Yu;rw[(jej hk h.all).2 ht];split<;>rfl
theorem TurnTo.end_ (h:TurnTo l es es.length o) (hl:Y1 l=true) (he:es.length≤4):Yu l es=if Y1 o then some o else none:=by
 have:=h.all;rw[List.take_of_length_le nle] at this;unfold Yu;rw[if_pos ⟨hl,he⟩,this]
end
theorem ja8 {l:List File} {es:List Wz} (h: ¬(Y1 l=true∧es.length≤4)):Yu l es=none:=by
 unfold Yu;rw[if_neg h]
def TurnF (w:World) (x:Option (List File)) (e:Ending) (w':World):Prop:=
 ∃v,e= .returned (.tuple #[v,.bool x.isSome])∧w'.ownsRow w.heap.size 65 2 v (x.getD []).length ((x.getD []).flatMap Jj)∧Below w.heap.size w w'
theorem Gath.grow {b H:Nat} {fx:List Nat} {w0 w:World} {v:Value} {o:List Ref} (h:Gath b H fx w v o) (hB:Below b w0 w) (hb0:b≤w0.heap.size) (hbH:b≤H) (hH:H≤w.heap.size) {x:Ref} {ys:List Value} {f:List Nat} (hx:Rp.ref.R w ys x f) (hfx: ∀z∈f,z<H∧z≠b∧(z∈fx∨b≤z)) (ob:Obj):
  ∃xs,(w.alloc ob).ownsRow b 52 4 v o.length xs∧∀g cap w6,w6.ownsRow b 52 4 (.slice (some ⟨g,0,none⟩) (o.length+1) cap) (o.length+1) (xs++ys)→(w.alloc ob).grownBy w6 v.ownBlock→(v.ownBlock=some g∨g=w.heap.size+1)→
   Gath b H fx w6 (.slice (some ⟨g,0,none⟩) (o.length+1) cap) (o++ [x])∧(∀z,z<H→z≠b→w6.heap[z]? =w.heap[z]?)∧Below b w0 w6∧H≤w6.heap.size:=by
 obtain⟨xs,f1,ho,ha,hf,hv⟩:=h;have hk: ∀z,z<w.heap.size→(w.alloc ob).heap[z]? =w.heap[z]? :=fun z hz=>Below.heap_alloc w ob z hz;have hsz:(w.alloc ob).heap.size=w.heap.size+1:=by simp
 refine⟨xs,ho.alloc ob,fun g cap w6 ho2 hgr hor=>⟨Gath.more (wA:=w.alloc ob) (ha.keep fun z hz=>hk z (ha.lt z hz)) hf hv (Rp.ref.keep hx fun z hz=>hk z (Rp.ref.lt hx z hz)) hfx ho2 hgr (by rw[hsz];exact hor) (by omega),fun z hz hn=> ?_, ?_, ?_⟩⟩
 ·exact(hgr.block z (by omega) fun e=>by rcases hv z e.symm with h1|h1<;>omega).trans (hk z (by omega))
 ·exact(hB.alloc (Nat.le_trans hb0 hB.size) ob).grown hgr (by have:=hB.size;omega) (fun z hz=>(ho.lt z hz).1)
 ·have:=hgr.size;omega
theorem Gath.named {H:Nat} {fx:List Nat} {w0 w:World} {v:Value} {o l:List Ref} (h:Gath w0.heap.size H fx w v o) (hB:Below w0.heap.size w0 w) (e:o=l):jpi w0 l fx (.returned v) w:=by
 subst e;obtain⟨xs,f1,ho,ha,hf,hv⟩:=h;obtain⟨A,c,f0,rfl,hs,h0,_,_⟩:=SlR.of_owns (r:=Rp.ref) ho ha;exact⟨A,_,c,_,rfl,hs,fun z hz=>by
  rcases List.mem_append.1 hz with h|h
  ·exact .inr (h0 z h).2
  ·exact(hf z h).2.2,hB⟩
theorem jlx {W:World} {nb e1:Nat} {t:TypeId} (s:ByteArray) (hk:Blk W nb t #[.slice (some ⟨e1,0,none⟩) 0 0]):Rp.ref.R W [.string s,.bool false,.int .i64 0,.slice (some ⟨nb,0,none⟩) 1 1] ⟨s,false,0,[[]]⟩ [nb]:=by
 refine⟨some ⟨nb,0,none⟩,1,1,[nb],rfl,rfl,rfl,Nat.le_refl _,by simp[maxLen],[.slice (some ⟨e1,0,none⟩) 0 0],[nb],[],⟨rfl,.inr ⟨by omega,nb,0,rfl,rfl,hk.lt,fun j u hu=> ?_⟩⟩,AllR.single ⟨some ⟨e1,0,none⟩,0,0,rfl,SlR.none_of 0 (by simp[maxLen])⟩,rfl⟩;rw[Nat.zero_add,hk.cell j];simpa using hu
theorem jkq {A:Option Addr} {n c:Nat} {l:List Ref} {name:ByteArray} {fx:List Nat} (w:World) (hs:SlR Rp.ref w A n c l fx) (h60:l.length≤60) (hne: ∀y∈l,y.name≠name):
  Calls Tryz.prog 141 #[.slice A n c,.string name] w (jpi w (Zm (fun y=>bLt y.name name) ⟨name,false,0,[[]]⟩ l) fx):=by
 obtain rfl:=hs.1;have HS:=Ja (fun(W:World) (hb:Below w.heap.size w W)=>hs.step hb);have HLT:=Ja hs.lt;have HNE:=Ja hne;obtain⟨ii,hi0,hz0,hz1,hz2⟩:=info_parts jgy;clear hs hne;go_enter Tryz.func141,Tryz.ntmps141;go_wp2_with fail
 obtain⟨w3,hw3⟩: ∃w3,w3=(((w.alloc (.cells #[] 52)).alloc (.cells #[] 65)).alloc (.cells #[.slice (some ⟨w.heap.size+1,0,none⟩) 0 0] 34)).alloc (.cells #[.string name,.bool false,.int .i64 0,.slice (some ⟨w.heap.size+1+1,0,none⟩) 1 1] 52):=⟨_,rfl⟩;rw[←hw3]
 have HB3:=Ja (show Below w.heap.size w w3 from hw3▸((((Below.refl w.heap.size w).alloc nle _).alloc (by simp) _).alloc (by simp;omega) _).alloc (by simp;omega) _);have HSZ3:=Ja (show w3.heap.size=w.heap.size+4 by rw[hw3];simp);have HK3:=Ja (show Blk w3 (w.heap.size+1+1+1) 52 #[.string name,.bool false,.int .i64 0,.slice (some ⟨w.heap.size+1+1,0,none⟩) 1 1] from hw3▸Blk.new' (by simp) _ _)
 have HK2:=Ja (show Blk w3 (w.heap.size+1+1) 34 #[.slice (some ⟨w.heap.size+1,0,none⟩) 0 0] from hw3▸(Blk.new' (by simp) _ _).alloc _);have HG0:=Ja (show Gath w.heap.size (w.heap.size+4) fx w3 (.slice (some ⟨w.heap.size,0,none⟩) 0 0) [] from⟨[],[],by
  rw[hw3];exact(((World.ownsRow_made (base:=w.heap.size) (size:=4) w #[] 0 nle (by simp[maxLen]) rfl).alloc _).alloc _).alloc _,⟨rfl,rfl⟩,by simp,fun z hz=> .inl (by simp[Value.ownBlock] at hz;exact hz.symm)⟩)
 clear hw3
 go_loopw [5,7,8] (fun v dv iv wr=>∃k d o,k≤l.length∧iv= .int .i64 (k:Nat)∧dv= .bool d∧namedTo l ⟨name,false,0,[[]]⟩ k d o∧Gath w.heap.size (w.heap.size+4) fx wr v o∧(∀z,z<w.heap.size+4→z≠w.heap.size→wr.heap[z]? =w3.heap[z]?)∧Below w.heap.size w wr∧w.heap.size+4≤wr.heap.size) (fun _ _ iv _=>l.length - (intOf iv).toNat)
 case atStart=>exact⟨0,false,[],Nat.zero_le _,rfl,rfl,namedTo.zero,HG0.out,fun _ _ _=>rfl,HB3.out,Nat.le_of_eq HSZ3.out.symm⟩
 case round=>
  obtain⟨k,d,o,hk,rfl,rfl,hn,hg,hkp,hbl,hsz⟩:=hrel;have HN:=Ja hn;have HG:=Ja hg;have HKP:=Ja hkp;have HBL:=Ja hbl;have HSZ:=Ja hsz;have j0:(0:Int)≤(k:Int):=by omega
  clear hn hg hkp hbl hsz;by_cases hlt:k<l.length
  ·have j1:(k:Int)<(l.length:Int):=by omega
   obtain⟨bR,oR,B9,m9,d9,g9,rfl,_,_,t0,t1,t2,t3,hs3,hsub⟩:=J3 (HS.out _ HBL.out) hlt;obtain rfl:=hs3.1;have hx9:Rp.ref.R wr [.string l[k].name,.bool l[k].guard,.int .i64 l[k].count,.slice B9 l[k].Vz.length d9] l[k] g9:=⟨B9,_,d9,g9,rfl,rfl,hs3⟩;have hfx9: ∀z∈g9,z<w.heap.size+4∧z≠w.heap.size∧(z∈fx∨w.heap.size≤z):=fun z hz=>by
    have h1:z∈fx:=by first|exact hsub z hz|exact hsub.subset hz
    have:=HLT.out z h1;exact⟨by omega,by omega,.inl h1⟩
   clear hs3 hsub;cases d
   ·have hq:(l[k].name.toList==name.toList)=false:=by
     simp only[beq_eq_false_iff_ne];exact fun e=>HNE.out _ (List.getElem_mem hlt) (jan e)
    cases hd:bLt l[k].name name
    ·have HD:=Ja hd;unfold bLt at hd;clear hx9 hfx9;have k3:Blk wr (w.heap.size+1+1+1) 52 #[.string name,.bool false,.int .i64 0,.slice (some ⟨w.heap.size+1+1,0,none⟩) 1 1]:=(HKP.out _ (by omega) (by omega)).trans HK3.out;have k2:Blk wr (w.heap.size+1+1) 34 #[.slice (some ⟨w.heap.size+1,0,none⟩) 0 0]:=(HKP.out _ (by omega) (by omega)).trans HK2.out;have hx9:=jlx name k2
     have hfx9: ∀z∈ [w.heap.size+1+1],z<w.heap.size+4∧z≠w.heap.size∧(z∈fx∨w.heap.size≤z):=fun z hz=>by simp at hz;exact⟨by omega,by omega,.inr (by omega)⟩
     have s0:=k3.cell 0;have s1:=k3.cell 1;have s2:=k3.cell 2;have s3:=k3.cell 3;clear k2 k3;obtain⟨xs6,ho6,hgrow⟩:=HG.out.grow HBL.out nle (by omega) HSZ.out hx9 hfx9 (.cells #[.string name,.bool false,.int .i64 0,.slice (some ⟨w.heap.size+1+1,0,none⟩) 1 1] 52);have HGR:=Ja hgrow;have HLo:=Ja (HN.out.len hk)
     have HHS:=Ja (show(wr.alloc (.cells #[.string name,.bool false,.int .i64 0,.slice (some ⟨w.heap.size+1+1,0,none⟩) 1 1] 52)).heap.size=wr.heap.size+1 by simp);have HSS:=Ja HSZ.out;clear hgrow hx9 hfx9
     go_wp2_with(at_builtin;refine wpList_append_lies _ rfl _ _ 46 rfl w.heap.size 52 ii _ 4 56 Tryz.underlying46 hi0 hz0 hz1 hz2 rfl (by decide) _ _ _ rfl ho6 ⟨wr.heap.size,0,none⟩ 1 1 [.string name,.bool false,.int .i64 0,.slice (some ⟨w.heap.size+1+1,0,none⟩) 1 1] rfl rfl (Jm wr _ _) (by intro u hu;simp at hu;rcases hu with rfl|rfl|rfl|rfl<;>rfl) (by decide) (by have:=HLo.out;unfold maxLen;omega) (by have:=HLo.out;omega) (by have:=HHS.out;have:=HSS.out;omega) (wr.heap.size+1) HHS.out ?_)
     intro g6 cap6 w6 ho2 hgr hor hlt2;have HR6:=Ja (HGR.out _ _ _ ho2 hgr hor);clear ho2 hgr hor hlt2 ho6 HGR HLo HHS HSS;clear t0 t1 t2 t3 s0 s1 s2 s3;obtain⟨bR,oR,B9,m9,d9,g9,hAA,_,_,t0,t1,t2,t3,hs3,hsub⟩:=J3 (HS.out _ HR6.out.2.2.1) hlt;cases hAA;obtain rfl:=hs3.1
     have hx9:Rp.ref.R w6 [.string l[k].name,.bool l[k].guard,.int .i64 l[k].count,.slice B9 l[k].Vz.length d9] l[k] g9:=⟨B9,_,d9,g9,rfl,rfl,hs3⟩;have hfx9: ∀z∈g9,z<w.heap.size+4∧z≠w.heap.size∧(z∈fx∨w.heap.size≤z):=fun z hz=>by
      have h1:z∈fx:=by first|exact hsub z hz|exact hsub.subset hz
      have:=HLT.out z h1;exact⟨by omega,by omega,.inl h1⟩
     clear hs3 hsub;obtain⟨xs7,ho7,hgrow⟩:=HR6.out.1.grow HR6.out.2.2.1 nle (by omega) HR6.out.2.2.2 hx9 hfx9 (.cells #[.string l[k].name,.bool l[k].guard,.int .i64 l[k].count,.slice B9 l[k].Vz.length d9] 52);simp only[List.length_append,List.length_singleton] at hgrow ho7;have HGR:=Ja hgrow;have HLo:=Ja (show o.length+1≤k+2 by have:=HN.out.len hk;omega)
     have HHS:=Ja (show(w6.alloc (.cells #[.string l[k].name,.bool l[k].guard,.int .i64 l[k].count,.slice B9 l[k].Vz.length d9] 52)).heap.size=w6.heap.size+1 by simp);have HSS:=Ja HR6.out.2.2.2;clear hgrow hx9 hfx9
     go_wp2_with(at_builtin;refine wpList_append_lies _ rfl _ _ 46 rfl w.heap.size 52 ii _ 4 56 Tryz.underlying46 hi0 hz0 hz1 hz2 rfl (by decide) _ _ _ rfl ho7 ⟨w6.heap.size,0,none⟩ 1 1 [.string l[k].name,.bool l[k].guard,.int .i64 l[k].count,.slice B9 l[k].Vz.length d9] rfl rfl (Jm w6 _ _) (by intro u hu;simp at hu;rcases hu with rfl|rfl|rfl|rfl<;>rfl) (by decide) (by have:=HLo.out;unfold maxLen;omega) (by have:=HLo.out;omega) (by have:=HHS.out;have:=HSS.out;omega) (w6.heap.size+1) HHS.out ?_)
     intro g7 cap7 w7 ho2 hgr hor hlt2;have HR7:=Ja (HGR.out _ _ _ ho2 hgr hor);clear ho2 hgr hor hlt2 ho7 HGR HLo HHS HSS;clear t0 t1 t2 t3;go_wp2_with fail;exact⟨⟨k+1,true,_,by omega,by go_num,rfl,HN.out.here hlt HD.out,by simpa using HR7.out.1,fun z h1 h2=>(HR7.out.2.1 z h1 h2).trans ((HR6.out.2.1 z h1 h2).trans (HKP.out z h1 h2)),HR7.out.2.2.1,HR7.out.2.2.2⟩,by simp[intOf];omega⟩
    ·have HD:=Ja hd;unfold bLt at hd;obtain⟨xs6,ho6,hgrow⟩:=HG.out.grow HBL.out nle (by omega) HSZ.out hx9 hfx9 (.cells #[.string l[k].name,.bool l[k].guard,.int .i64 l[k].count,.slice B9 l[k].Vz.length d9] 52);have HGR:=Ja hgrow;have HLo:=Ja (HN.out.len hk)
     have HHS:=Ja (show(wr.alloc (.cells #[.string l[k].name,.bool l[k].guard,.int .i64 l[k].count,.slice B9 l[k].Vz.length d9] 52)).heap.size=wr.heap.size+1 by simp);have HSS:=Ja HSZ.out;clear hgrow hx9 hfx9
     go_wp2_with(at_builtin;refine wpList_append_lies _ rfl _ _ 46 rfl w.heap.size 52 ii _ 4 56 Tryz.underlying46 hi0 hz0 hz1 hz2 rfl (by decide) _ _ _ rfl ho6 ⟨wr.heap.size,0,none⟩ 1 1 [.string l[k].name,.bool l[k].guard,.int .i64 l[k].count,.slice B9 l[k].Vz.length d9] rfl rfl (Jm wr _ _) (by intro u hu;simp at hu;rcases hu with rfl|rfl|rfl|rfl<;>rfl) (by decide) (by have:=HLo.out;unfold maxLen;omega) (by have:=HLo.out;omega) (by have:=HHS.out;have:=HSS.out;omega) (wr.heap.size+1) HHS.out ?_)
     intro g6 cap6 w6 ho2 hgr hor hlt2;have HR6:=Ja (HGR.out _ _ _ ho2 hgr hor);clear ho2 hgr hor hlt2 ho6 HGR HLo HHS HSS;clear t0 t1 t2 t3;go_wp2_with fail;exact⟨⟨k+1,false,_,by omega,by go_num,rfl,HN.out.skip hlt HD.out,by simpa using HR6.out.1,fun z h1 h2=>(HR6.out.2.1 z h1 h2).trans (HKP.out z h1 h2),HR6.out.2.2.1,HR6.out.2.2.2⟩,by simp[intOf];omega⟩
   ·obtain⟨xs6,ho6,hgrow⟩:=HG.out.grow HBL.out nle (by omega) HSZ.out hx9 hfx9 (.cells #[.string l[k].name,.bool l[k].guard,.int .i64 l[k].count,.slice B9 l[k].Vz.length d9] 52);have HGR:=Ja hgrow;have HLo:=Ja (HN.out.len hk)
    have HHS:=Ja (show(wr.alloc (.cells #[.string l[k].name,.bool l[k].guard,.int .i64 l[k].count,.slice B9 l[k].Vz.length d9] 52)).heap.size=wr.heap.size+1 by simp);have HSS:=Ja HSZ.out;clear hgrow hx9 hfx9
    go_wp2_with(at_builtin;refine wpList_append_lies _ rfl _ _ 46 rfl w.heap.size 52 ii _ 4 56 Tryz.underlying46 hi0 hz0 hz1 hz2 rfl (by decide) _ _ _ rfl ho6 ⟨wr.heap.size,0,none⟩ 1 1 [.string l[k].name,.bool l[k].guard,.int .i64 l[k].count,.slice B9 l[k].Vz.length d9] rfl rfl (Jm wr _ _) (by intro u hu;simp at hu;rcases hu with rfl|rfl|rfl|rfl<;>rfl) (by decide) (by have:=HLo.out;unfold maxLen;omega) (by have:=HLo.out;omega) (by have:=HHS.out;have:=HSS.out;omega) (wr.heap.size+1) HHS.out ?_)
    intro g6 cap6 w6 ho2 hgr hor hlt2;have HR6:=Ja (HGR.out _ _ _ ho2 hgr hor);clear ho2 hgr hor hlt2 ho6 HGR HLo HHS HSS;clear t0 t1 t2 t3;go_wp2_with fail;exact⟨⟨k+1,true,_,by omega,by go_num,rfl,HN.out.more hlt,by simpa using HR6.out.1,fun z h1 h2=>(HR6.out.2.1 z h1 h2).trans (HKP.out z h1 h2),HR6.out.2.2.1,HR6.out.2.2.2⟩,by simp[intOf];omega⟩
  ·obtain rfl:k=l.length:=by omega
   cases d
   ·have k3:Blk wr (w.heap.size+1+1+1) 52 #[.string name,.bool false,.int .i64 0,.slice (some ⟨w.heap.size+1+1,0,none⟩) 1 1]:=(HKP.out _ (by omega) (by omega)).trans HK3.out;have k2:Blk wr (w.heap.size+1+1) 34 #[.slice (some ⟨w.heap.size+1,0,none⟩) 0 0]:=(HKP.out _ (by omega) (by omega)).trans HK2.out;have hx9:=jlx name k2
    have hfx9: ∀z∈ [w.heap.size+1+1],z<w.heap.size+4∧z≠w.heap.size∧(z∈fx∨w.heap.size≤z):=fun z hz=>by simp at hz;exact⟨by omega,by omega,.inr (by omega)⟩
    have s0:=k3.cell 0;have s1:=k3.cell 1;have s2:=k3.cell 2;have s3:=k3.cell 3;clear k2 k3;obtain⟨xs6,ho6,hgrow⟩:=HG.out.grow HBL.out nle (by omega) HSZ.out hx9 hfx9 (.cells #[.string name,.bool false,.int .i64 0,.slice (some ⟨w.heap.size+1+1,0,none⟩) 1 1] 52);have HGR:=Ja hgrow;have HLo:=Ja (HN.out.len hk)
    have HHS:=Ja (show(wr.alloc (.cells #[.string name,.bool false,.int .i64 0,.slice (some ⟨w.heap.size+1+1,0,none⟩) 1 1] 52)).heap.size=wr.heap.size+1 by simp);have HSS:=Ja HSZ.out;clear hgrow hx9 hfx9
    go_wp2_with(at_builtin;refine wpList_append_lies _ rfl _ _ 46 rfl w.heap.size 52 ii _ 4 56 Tryz.underlying46 hi0 hz0 hz1 hz2 rfl (by decide) _ _ _ rfl ho6 ⟨wr.heap.size,0,none⟩ 1 1 [.string name,.bool false,.int .i64 0,.slice (some ⟨w.heap.size+1+1,0,none⟩) 1 1] rfl rfl (Jm wr _ _) (by intro u hu;simp at hu;rcases hu with rfl|rfl|rfl|rfl<;>rfl) (by decide) (by have:=HLo.out;unfold maxLen;omega) (by have:=HLo.out;omega) (by have:=HHS.out;have:=HSS.out;omega) (wr.heap.size+1) HHS.out ?_)
    intro g6 cap6 w6 ho2 hgr hor hlt2;have HR6:=Ja (HGR.out _ _ _ ho2 hgr hor);clear ho2 hgr hor hlt2 ho6 HGR HLo HHS HSS;clear s0 s1 s2 s3;go_wp2_with fail;go_ret;exact Gath.named HR6.out.1 HR6.out.2.2.1 HN.out.last
   ·go_wp2_with fail;go_ret;exact Gath.named HG.out HBL.out HN.out.end_
end Go.Proofs.YtobbdhgkcoeifaaGreatDoor
