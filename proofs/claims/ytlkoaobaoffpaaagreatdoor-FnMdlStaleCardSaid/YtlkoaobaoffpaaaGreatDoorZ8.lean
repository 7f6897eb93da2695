/- Lemmas and walks, joined and shortened by program (wip/gen/merge2.py). -/
import Derived.Deep.AppendLies
import Derived.Deep.CutBlock
import Derived.Deep.DeepCutAuto
import Derived.Test.YtlkoaobaoffpaaaGreatDoorZ6
import Derived.Test.YtlkoaobaoffpaaaGreatDoorZ7
import Derived.Test.YtlkoaobaoffpaaaGreatDoorZ4
import Derived.Test.YtlkoaobaoffpaaaGreatDoorZ5
namespace Go.Proofs.YtlkoaobaoffpaaaGreatDoor
open Go.RowKit
attribute [local go_sem ↓] Go.wp_at_zero Go.wp_at_succ
set_option maxHeartbeats 8000000
set_option maxRecDepth 100000
set_option linter.unusedSimpArgs false
set_option linter.unusedVariables false
def Xx (name:ByteArray) (x:Ref):Bool:=decide (x.name=name)
theorem Zu {α:Type} (q:α→Bool) (l:List α):(l.findIdx? q=none∧jd4 q l= -1)∨∃k,l.findIdx? q=some k∧k<l.length∧jd4 q l=k:=by
 unfold jd4;cases h:l.findIdx? q with
 |none=>exact .inl ⟨rfl,rfl⟩
 |some k=>exact .inr ⟨k,rfl,(List.findIdx?_eq_some_iff_getElem.1 h).1,rfl⟩
theorem jj2 {vs:List (List File)} {b:Int} (h:b<0):version vs b=none:=by unfold version;rw[if_neg (by omega)]
theorem ja6 {vs:List (List File)} {b:Int} (h:(vs.length:Int)≤b):version vs b=none:=by unfold version;rw[if_neg (by omega)]
theorem jaz {vs:List (List File)} {b:Int} {j:Nat} (h0:0≤b) (h:(j:Int)=vs.length - 1 - b) (hj:j<vs.length):version vs b=some vs[j]:=by
 unfold version;rw[if_pos (by omega),show vs.length - 1 - b.toNat=j by omega];exact List.getElem?_eq_getElem hj
theorem jk3 {m:Jl} {repo back:Int} {name:ByteArray} (h:inB repo 0 ((m.Rz.length:Int) - 1)=false):Xn m repo name back=none:=by
 unfold Xn;by_cases h0:0≤repo
 ·rw[if_pos h0];have: ¬repo.toNat<m.Rz.length:=fun hc=>by
   have:inB repo 0 ((m.Rz.length:Int) - 1)=true:=by simp[inB];omega
   rw[this] at h;cases h
  rw[List.getElem?_eq_none (by omega)]
 ·rw[if_neg h0]
theorem je0 {m:Jl} {i:Nat} {repo back:Int} {name:ByteArray} (hr:repo=i) (hi:i<m.Rz.length) (h:m.Rz[i].Fz.findIdx? (Xx name)=none):Xn m repo name back=none:=by
 subst hr;unfold Xn;rw[if_pos (by omega),Int.toNat_natCast,List.getElem?_eq_getElem hi];simp only;rw[show Y7 m.Rz[i].Fz name=none from h]
theorem jez {m:Jl} {i k:Nat} {repo back:Int} {name:ByteArray} (hr:repo=i) (hi:i<m.Rz.length) (hk:k<m.Rz[i].Fz.length) (h:m.Rz[i].Fz.findIdx? (Xx name)=some k):Xn m repo name back=version m.Rz[i].Fz[k].Vz back:=by
 subst hr;unfold Xn;rw[if_pos (by omega),Int.toNat_natCast,List.getElem?_eq_getElem hi];simp only;rw[show Y7 m.Rz[i].Fz name=some k from h];simp only;rw[J4 hk]
def jpj (w:World) (o:Option (List File)) (f0:List Nat) (e:Ending) (w':World):Prop:=
 ∃A n c f,e= .returned (.tuple #[.slice A n c,.bool o.isSome])∧SlR Rp.file w' A n c (o.getD []) f∧(∀z∈f,z∈f0)∧Below w.heap.size w w'
theorem jbd {cs:List Value} {x:Xq} {fx:List Nat} (name:ByteArray) (w:World) (hx:Rp.repo.R w cs x fx):
  Calls Tryz.prog 101 #[.agg cs.toArray,.string name] w fun e w'=>e= .returned (.int .i64 (jd4 (Xx name) x.Fz))∧Below w.heap.size w w':=by
 obtain⟨A0,n0,c0,f0,A1,n1,c1,f1,rfl,_,h0,h1⟩:=hx;obtain rfl:=h1.1;have hmx:=h1.max;have kb:=Blk.new w 38 #[.int .i64 x.Az,.slice A0 n0 c0,.slice A1 x.Fz.length c1];replace h1:=h1.allocN (.cells #[.int .i64 x.Az,.slice A0 n0 c0,.slice A1 x.Fz.length c1] 38);have HB:=(Below.refl w.heap.size w).alloc nle (.cells #[.int .i64 x.Az,.slice A0 n0 c0,.slice A1 x.Fz.length c1] 38)
 have HSZ:=HB.size;go_enter Tryz.func101,Tryz.ntmps101;go_wp2;generalize hwx:w.alloc (.cells #[.int .i64 x.Az,.slice A0 n0 c0,.slice A1 x.Fz.length c1] 38)=wx at kb h1 HB HSZ ⊢;clear hwx
 go_loopw [5] (fun i wr=>∃k:Nat,k≤x.Fz.length∧i= .int .i64 k∧noneTo (Xx name) x.Fz k∧Below wx.heap.size wx wr) (fun i _=>x.Fz.length - (intOf i).toNat)
 case atStart=>exact⟨0,Nat.zero_le _,rfl,Yh,Below.refl _ _⟩
 case round=>
  obtain⟨k,hk,rfl,hag,hbl⟩:=hrel;have HA:=Ja hag;clear hag;have kr:=kb.step hbl;have c2:=Blk.c2 kr;by_cases hlt:k<x.Fz.length
  ·obtain⟨b,o,A3,n3,c3,f3,rfl,hb,hm,r0,r1,r2,r3,_,_⟩:=J3 (h1.step hbl) hlt;have i0:(0:Int)≤(k:Int):=by omega
   have i1:(k:Int)<(x.Fz.length:Int):=by omega
   have hq:=Jr x.Fz[k].name name;clear r1 r2 r3;cases hd:decide (x.Fz[k].name=name)
   ·have HN:=Ja (HA.out.next hlt hd);rw[hd] at hq;clear hd;go_wp2;exact⟨⟨k+1,by omega,by go_num,HN.out,hbl⟩,by simp[intOf];omega⟩
   ·have HN:=Ja (HA.out.hit hlt hd);rw[hd] at hq;clear hd;go_wp2;go_ret;exact⟨Xl HN.out.symm,HB.trans (hbl.mono HSZ)⟩
  ·have hk':k=x.Fz.length:=by omega
   subst hk';have HN:=Ja HA.out.all_;go_wp2;go_ret;exact⟨Xl HN.out.symm,HB.trans (hbl.mono HSZ)⟩
theorem jpv {cs:List Value} {x:Ref} {fx:List Nat} (name:ByteArray) (b1:Nat) (w:World) (hx:Rp.ref.R w cs x fx) (c1:w.cell? ⟨b1,0,none⟩=some (.string name)):
  Calls Tryz.prog 155 #[.agg cs.toArray,.pointer (some ⟨b1,0,none⟩)] w fun e w'=>e= .returned (.bool (Xx name x))∧Below w.heap.size w w':=by
 obtain⟨A0,n0,c0,f0,rfl,_,h0⟩:=hx;have hq:=Jr x.name name;have d1:=J6 c1 (.cells #[.string x.name,.bool x.guard,.int .i64 x.count,.slice A0 n0 c0] 41);clear c1;go_enter Tryz.func155,Tryz.ntmps155;go_wp2;go_ret;exact⟨rfl,(Below.refl _ _).alloc nle _⟩
theorem jbh {cs:List Value} {x:Xq} {fx:List Nat} (name:ByteArray) (w:World) (hx:Rp.repo.R w cs x fx):
  Calls Tryz.prog 119 #[.agg cs.toArray,.string name] w fun e w'=>e= .returned (.int .i64 (jd4 (Xx name) x.Fz))∧Below w.heap.size w w':=by
 have hmf:=Zd;obtain⟨A0,n0,c0,f0,A1,n1,c1,f1,rfl,_,h0,h1⟩:=hx;go_enter Tryz.func119,Tryz.ntmps119;go_wp2_with fail;refine(jne (l:=x.Fz) (Xx name) _ _ (enters_of Tryz.func155 (by kernel_rfl) rfl) _ ((h1.allocN _).allocN _) (fun i hi cs fq w1 hB hR=> ?_)).mono ?_
 ·refine jpv name _ w1 hR ?_;have hc:=(Blk.step (Blk.new _ _ _) hB).cell 0;simpa using hc
 ·rintro e w1 ⟨rfl,hb1⟩;go_wp2;go_ret;exact⟨rfl,Below.box2 hb1⟩
theorem ja7 {cs:List Value} {x:Ref} {fx:List Nat} (back:Int) (hb1:back≤9223372036854775807) (w:World) (hx:Rp.ref.R w cs x fx):
  Calls Tryz.prog 120 #[.agg cs.toArray,.int .i64 back] w (jpj w (version x.Vz back) fx):=by
 obtain⟨A0,n0,c0,f0,rfl,hff,h0⟩:=hx;obtain rfl:=h0.1;obtain rfl:=hff;have hmx:=h0.max;go_enter Tryz.func120,Tryz.ntmps120;by_cases hneg:back<0
 ·have HV:=Ja (jj2 (vs:=x.Vz) hneg);go_wp2
  go_ret2
  rw[HV.out];exact⟨none,0,0,[],rfl,SlR.nil,by simp,(Below.refl _ _).alloc nle _⟩
 ·by_cases hfar:(x.Vz.length:Int)≤back
  ·have HV:=Ja (ja6 (vs:=x.Vz) hfar);have e1:(x.Vz.length:Int) - 1 - back<0:=by omega
   have e2:IntKind.i64.wrap ((x.Vz.length:Int) - 1 - back)=(x.Vz.length:Int) - 1 - back:=IntWalk.i64_in _ (by omega);go_wp2
   go_ret2
   rw[HV.out];exact⟨none,0,0,[],rfl,SlR.nil,by simp,(Below.refl _ _).alloc nle _⟩
  ·obtain⟨j,hj⟩: ∃j:Nat,(j:Int)=x.Vz.length - 1 - back:=⟨(x.Vz.length - 1 - back).toNat,by omega⟩;have hjl:j<x.Vz.length:=by omega
   have HV:=Ja (jaz (vs:=x.Vz) (by omega) hj hjl);obtain⟨b,o,A1,n1,c1,f1,rfl,hb,hm,q0,hs1,hsub⟩:=Vv h0 hjl;have q0:=J6 q0 (.cells #[.string x.name,.bool x.guard,.int .i64 x.count,.slice (some ⟨b,o,none⟩) x.Vz.length c0] 41);have e1:(x.Vz.length:Int) - 1 - back=(j:Int):=hj.symm;have i0:(0:Int)≤(j:Int):=by omega
   have i1:(j:Int)<(x.Vz.length:Int):=by omega
   have e2:IntKind.i64.wrap (j:Int)=(j:Int):=IntWalk.i64_in _ (by omega);have e3: ¬(j:Int)<0:=by omega
   clear hj;go_wp2
   go_ret2
   rw[HV.out];exact⟨A1,n1,c1,f1,rfl,hs1.allocN _,hsub,(Below.refl _ _).alloc nle _⟩
theorem jk5 {m:Jl} {repo back:Int} {name:ByteArray} (hm:Ys m=true):((Xn m repo name back).getD []).length≤60:=by
 cases h:Xn m repo name back with
 |none=>simp
 |some l=>exact(Yo.1 (jg3 hm h)).1
theorem jo3 {cs:List Value} {x:Jl} {fx:List Nat} (repo:Int) (name:ByteArray) (back:Int) (hb1:back≤9223372036854775807) (w:World) (hx:Rp.house.R w cs x fx):
  Calls Tryz.prog 72 #[.agg cs.toArray,.int .i64 repo,.string name,.int .i64 back] w (jpj w (Xn x repo name back) fx):=by
 obtain⟨A0,n0,c0,f0,A1,n1,c1,f1,A2,n2,c2,f2,rfl,hff,h0,h1,h2⟩:=hx;obtain rfl:=h2.1;have hmx2:=h2.max;have kb:=Blk.new w 26 #[.slice A0 n0 c0,.slice A1 n1 c1,.slice A2 x.Rz.length c2];replace h2:=h2.allocN (.cells #[.slice A0 n0 c0,.slice A1 n1 c1,.slice A2 x.Rz.length c2] 26)
 have HB:=(Below.refl w.heap.size w).alloc nle (.cells #[.slice A0 n0 c0,.slice A1 n1 c1,.slice A2 x.Rz.length c2] 26);have e2:IntKind.i64.wrap ((x.Rz.length:Int) - 1)=(x.Rz.length:Int) - 1:=IntWalk.i64_in _ (by omega);go_enter Tryz.func72,Tryz.ntmps72;go_wp2_with fail;refine(Y2 repo 0 ((x.Rz.length:Int) - 1) _).mono ?_;rintro e w1 ⟨rfl,hb⟩;replace kb:=kb.step hb
 replace h2:=h2.step hb;replace HB:=Below.t HB hb;clear hb;clear e2;cases hd:inB repo 0 ((x.Rz.length:Int) - 1)
 ·have HV:=Ja (jk3 (name:=name) (back:=back) hd);clear hd;go_wp2
  go_ret2
  rw[HV.out];exact⟨none,0,0,[],rfl,SlR.nil,by simp,HB⟩
 ·obtain⟨hd1,hd2⟩:=jap.1 hd;obtain⟨i,rfl⟩: ∃i:Nat,repo=(i:Int):=⟨repo.toNat,by omega⟩;have hi:i<x.Rz.length:=by omega
  clear hd hd1 hd2;obtain⟨b,o,B0,m0,k0,g0,B1,m1,k1,g1,rfl,hb,hm,q0,q1,q2,hs0,hs1,hsub⟩:=J7 h2 hi;obtain rfl:=hs1.1;have hmx1:=hs1.max;have c2:=Blk.c2 kb;have i1:(i:Int)<(x.Rz.length:Int):=by omega
  have i0:(0:Int)≤(i:Int):=by omega
  go_wp2_with fail;refine(jbh (x:=x.Rz[i]) name _ ⟨_,_,_,_,_,_,_,_,rfl,rfl,hs0,hs1⟩).mono ?_;rintro e w2 ⟨rfl,hb⟩;replace kb:=kb.step hb;replace hs1:=hs1.step hb;have q2:=Je q2 hb;replace HB:=Below.t HB hb;clear hb c2 q0 q1;rcases Zu (Xx name) x.Rz[i].Fz with ⟨hn,he⟩|⟨k,hn,hk,he⟩
  ·have HV:=Ja (je0 (back:=back) rfl hi hn);rw[he];clear he hn;go_wp2
   go_ret2
   rw[HV.out];exact⟨none,0,0,[],rfl,SlR.nil,by simp,HB⟩
  ·have HV:=Ja (jez (back:=back) rfl hi hk hn);rw[he];clear he hn;obtain⟨b3,o3,A3,n3,c3,f3,rfl,hb3,hm3,r0,r1,r2,r3,hs3,hsub3⟩:=J3 hs1 hk;have c2:=Blk.c2 kb;have j1:(k:Int)<(x.Rz[i].Fz.length:Int):=by omega
   have j0: ¬(k:Int)<0:=by omega
   have j2:(0:Int)≤(k:Int):=by omega
   go_wp2_with fail;refine(ja7 (x:=x.Rz[i].Fz[k]) back hb1 _ ⟨_,_,_,_,rfl,rfl,hs3⟩).mono ?_;rintro e w3 ⟨A4,n4,c4,f4,rfl,hs4,hsub4,hb⟩;replace HB:=Below.t HB hb;have HSUB:=Ja (show ∀z∈f4,z∈fx from fun z hz=>by
    rw[hff];exact List.mem_append_right _ (List.mem_append_right _ (hsub z (List.mem_append_right _ (hsub3 z (hsub4 z hz))))))
   clear hb c2 r0 r1 r2 r3 q2;go_wp2
   go_ret2
   rw[HV.out];exact⟨A4,n4,c4,f4,rfl,hs4,HSUB.out,HB⟩
theorem jep {Uz:List Yt} {user:Int} {ref:ByteArray} {l:List File} {k:Nat} (hk:k<l.length) (h:Yz Uz user ref l[k].path false=true):readable Uz user ref (l.take (k+1))=readable Uz user ref (l.take k)++ [l[k]]:=by
 unfold readable;rw[List.take_succ_eq_append_getElem hk,List.filter_append,show List.filter (fun f=>Yz Uz user ref f.path false) [l[k]]= [l[k]] by simp[h]]
theorem jfl {Uz:List Yt} {user:Int} {ref:ByteArray} {l:List File} {k:Nat} (hk:k<l.length) (h:Yz Uz user ref l[k].path false=false):readable Uz user ref (l.take (k+1))=readable Uz user ref (l.take k):=by
 unfold readable;rw[List.take_succ_eq_append_getElem hk,List.filter_append,show List.filter (fun f=>Yz Uz user ref f.path false) [l[k]]= [] by simp[h],List.append_nil]
theorem jfm (Uz:List Yt) (user:Int) (ref:ByteArray) (l:List File) (k:Nat):(readable Uz user ref (l.take k)).length≤l.length:=
 Nat.le_trans (List.length_filter_le _ _) (by simp;omega)
theorem jbw {l:List File} (h:Y1 l=true):Vk l:=fun i hi=>by
 have h1:=(Yo.1 h).2.1 _ (List.getElem_mem hi);simp only[Y3,Bool.and_eq_true] at h1;have:=Zr h1.1.1;omega
theorem jiq {A A0:Option Addr} {n c n0 c0:Nat} {l:List File} {Uz:List Yt} {fp f0:List Nat} (user:Int) (ref:ByteArray) (w:World) (h0:SlR Rp.rule w A0 n0 c0 Uz f0) (hx:SlR Rp.file w A n c l fp) (hr:Ym Uz) (hf:Vk l) (hl:l.length≤4194304):
  Calls Tryz.prog 78 #[.slice A0 n0 c0,.int .i64 user,.string ref,.slice A n c] w (OwnF 98 2 Jj w (readable Uz user ref l)):=by
 obtain rfl:=hx.1;obtain⟨i0,hi,hz0,hz1,hz2⟩:=info_parts Xj;have HR:=Ja hr;have HF:=Ja hf;clear hr hf;go_enter Tryz.func78,Tryz.ntmps78;go_wp2
 go_loopw [9,14] (fun v i wr=>∃k:Nat,k≤l.length∧i= .int .i64 k∧wr.ownsRow w.heap.size 98 2 v (readable Uz user ref (l.take k)).length ((readable Uz user ref (l.take k)).flatMap Jj)∧Below w.heap.size w wr) (fun _ i _=>l.length - (intOf i).toNat)
 case atStart=>exact⟨0,Nat.zero_le _,rfl,World.ownsRow_nil _ _ _ _,Below.refl _ _⟩
 case round=>
  obtain⟨k,hk,rfl,hown,hbl⟩:=hrel;have hsz:=hbl.size;have hle:=jfm Uz user ref l k;by_cases hlt:k<l.length
  ·obtain⟨b,o,rfl,hb,hm,q0,q1⟩:=Jx (hx.step hbl) hlt;have HY:=Ja (fun(h:Yz Uz user ref l[k].path false=true)=>jep hlt h);have HN:=Ja (fun(h:Yz Uz user ref l[k].path false=false)=>jfl hlt h);have HFK:=Ja (HF.out k hlt);generalize hg:l[k]=f at q0 q1 HY HN HFK;clear hg;have kq:=Blk.new wr 98 #[.string f.path,.string f.bytes]
   have i1:(k:Int)<(l.length:Int):=by omega
   have HW:=Ja hown;clear hown;go_wp2_with fail;refine(Z0 user ref f.path false _ ((h0.step hbl).allocN _) HR.out HFK.out).mono ?_;rintro e w1 ⟨rfl,hb1⟩;have hown1:=Yx (HW.out.alloc _) hb1;replace kq:=kq.step hb1;have hbl1:=(hbl.alloc hbl.size (.cells #[.string f.path,.string f.bytes] 98)).trans (hb1.mono (by simp;omega));have hsz1:=hbl1.size;clear hb1 q0 q1 HW
   cases hd:Yz Uz user ref f.path false
   ·have HE:=Ja (HN.out hd);have HW:=Ja hown1;clear hd hown1 kq;go_wp2;refine⟨⟨k+1,by omega,by go_num, ?_,hbl1⟩,by simp[intOf];omega⟩;rw[HE.out];exact HW.out
   ·have HE:=Ja (HY.out hd);clear hd;have u0:=Blk.c0 kq;have u1:=Blk.c1 kq
    go_wp2_with(at_builtin;refine wpList_append_own _ rfl _ _ 42 rfl w.heap.size 98 i0 _ 2 32 Tryz.underlying42 hi hz0 hz1 hz2 rfl (by decide) _ _ _ rfl (hown1.alloc _) ⟨w1.heap.size,0,none⟩ 1 1 (Jj f) rfl rfl (Jm w1 (Jj f) _) (Rp.file.one (w:=w1) ⟨rfl,rfl⟩) (by unfold maxLen;omega) (by omega) (by simp;omega) ?_);intro v' w5 hown' hgrow _;have HO:=Ja hown'
    have HBB:=Ja ((hbl1.alloc hbl1.size _).grown hgrow (by simp;omega) (fun j hj=>(hown1.lt j hj).1));clear hown' hgrow hown1 kq u0 u1 hbl1;go_wp2;refine⟨⟨k+1,by omega,by go_num, ?_,HBB.out⟩,by simp[intOf];omega⟩;rw[HE.out,List.length_append,List.flatMap_append,List.flatMap_singleton];exact HO.out
  ·have hk':k=l.length:=by omega
   subst hk';rw[List.take_of_length_le nle] at hown;have HO:=Ja hown;clear hown;go_wp2;go_ret;exact⟨_,rfl,HO.out,hbl⟩
def Wv (path:ByteArray) (f:File):Bool:=decide (f.path=path)
theorem jo2 (x:File) (path:ByteArray) (b1:Nat) (w:World) (c1:w.cell? ⟨b1,0,none⟩=some (.string path)):
  Calls Tryz.prog 122 #[.agg (Jj x).toArray,.pointer (some ⟨b1,0,none⟩)] w fun e w'=>e= .returned (.bool (Wv path x))∧Below w.heap.size w w':=by
 have hq:=Jr x.path path;have d1:=J6 c1 (.cells #[.string x.path,.string x.bytes] 98);clear c1;unfold Jj;go_enter Tryz.func122,Tryz.ntmps122;go_wp2;go_ret;exact⟨rfl,(Below.refl _ _).alloc nle _⟩
theorem jp4 {A:Option Addr} {n c:Nat} {l:List File} {fp:List Nat} (path:ByteArray) (w:World) (hx:SlR Rp.file w A n c l fp):
  Calls Tryz.prog 74 #[.slice A n c,.string path] w fun e w'=>e= .returned (.int .i64 (jd4 (Wv path) l))∧Below w.heap.size w w':=by
 have hmf:=Zd;have h1:=hx.allocN (.cells #[.string path] 9);have HQ:=Ja (Blk.new w 9 #[.string path]);go_enter Tryz.func74,Tryz.ntmps74;go_wp2_with fail;refine(jkx (l:=l) (Wv path) _ _ (enters_of Tryz.func122 (by kernel_rfl) rfl) _ h1 (fun i hi cs fq w1 hB hR=> ?_)).mono ?_
 ·obtain⟨rfl,rfl⟩:=hR;exact jo2 l[i] path _ w1 ((HQ.out.step hB).cell 0)
 ·rintro e w1 ⟨rfl,hb1⟩;go_wp2;go_ret;exact⟨rfl,Below.box1 hb1⟩
theorem jm9 {A:Option Addr} {n c:Nat} {l:List File} {fp:List Nat} (path:ByteArray) (w:World) (hx:SlR Rp.file w A n c l fp):
  Calls Tryz.prog 169 #[.slice A n c,.string path] w fun e w'=>e= .returned (.int .i64 (jd4 (Wv path) l))∧Below w.heap.size w w':=by
 obtain⟨rfl,hcx,hmx,_⟩:=id hx;unfold maxLen at hmx;go_enter Tryz.func169,Tryz.ntmps169;go_wp2
 go_loopw [5] (fun i wr=>∃k:Nat,k≤l.length∧i= .int .i64 k∧noneTo (Wv path) l k∧Below w.heap.size w wr) (fun i _=>l.length - (intOf i).toNat)
 case atStart=>exact⟨0,Nat.zero_le _,rfl,Yh,Below.refl _ _⟩
 case round=>
  obtain⟨k,hk,rfl,hag,hbl⟩:=hrel;have HA:=Ja hag;clear hag;by_cases hlt:k<l.length
  ·obtain⟨b,o,rfl,hb,hm,h0,h1⟩:=Jx (hx.step hbl) hlt;have i0:(0:Int)≤(k:Int):=by omega
   have i1:(k:Int)<(l.length:Int):=by omega
   have hq:=Jr l[k].path path;cases hd:decide (l[k].path=path)
   ·have HN:=Ja (HA.out.next hlt hd);rw[hd] at hq;clear hd;go_wp2;exact⟨⟨k+1,by omega,by go_num,HN.out,hbl⟩,by simp[intOf];omega⟩
   ·have HN:=Ja (HA.out.hit hlt hd);rw[hd] at hq;clear hd;go_wp2;go_ret;exact⟨Xl HN.out.symm,hbl⟩
  ·have hk':k=l.length:=by omega
   subst hk';have HN:=Ja HA.out.all_;go_wp2;go_ret;exact⟨Xl HN.out.symm,hbl⟩
def jbi (es:List Wz):Prop:=es.length≤4194304∧∀e∈es,e.path.size≤4194304∧e.bytes.size≤4194304
theorem jbt {es:List Wz} {k:Nat} (h:k<es.length):Yg (es.take (k+1))=Yg (es.take k)+(es[k].path.size+es[k].bytes.size):=by
 unfold Yg;rw[List.take_succ_eq_append_getElem h];simp only[List.map_append,List.sum_append,List.map_cons,List.map_nil,List.sum_cons,List.sum_nil,Nat.add_zero]
theorem jcf {es:List Wz} (h:jbi es): ∀k,k≤es.length→Yg (es.take k)≤k*8388608
 | 0,_=>by simp[Yg]
 |k+1,hk=>by
  have ih:=jcf h k (by omega);have:=h.2 _ (List.getElem_mem (show k<es.length by omega));rw[jbt (by omega)];omega
theorem jb7 {A:Option Addr} {n c:Nat} {es:List Wz} {fp:List Nat} (w:World) (hx:SlR Rp.edit w A n c es fp) (hf:jbi es):
  Calls Tryz.prog 30 #[.slice A n c] w fun e w'=>e= .returned (.int .i64 (Yg es:Nat))∧Below w.heap.size w w':=by
 obtain⟨rfl,hcx,hmx,_⟩:=id hx;unfold maxLen at hmx;have HF:=Ja hf;have hl4:=hf.1;clear hf;go_enter Tryz.func30,Tryz.ntmps30;go_wp2
 go_loopw [3,8] (fun s i wr=>∃k:Nat,k≤es.length∧i= .int .i64 k∧s= .int .i64 (Yg (es.take k):Nat)∧Below w.heap.size w wr) (fun _ i _=>es.length - (intOf i).toNat)
 case atStart=>exact⟨0,Nat.zero_le _,rfl,rfl,Below.refl _ _⟩
 case round=>
  obtain⟨k,hk,rfl,rfl,hbl⟩:=hrel;by_cases hlt:k<es.length
  ·obtain⟨b,o,rfl,hb,hm,h0,h1,h2⟩:=Zv (hx.step hbl) hlt;have hle:=jcf HF.out k hk;have hsz:=HF.out.2 _ (List.getElem_mem hlt);have HS:=Ja (jbt hlt);have i1:(k:Int)<(es.length:Int):=by omega
   have HB:=Ja (hbl.alloc hbl.size (.cells #[.string es[k].path,.string es[k].bytes,.bool es[k].gone] 93));generalize Yg (es.take k)=s at*;obtain⟨z0,z1⟩:=hsz;go_wp2;exact⟨⟨k+1,by omega,by go_num,by rw[HS.out];go_num,HB.out⟩,by simp[intOf];omega⟩
  ·have hk':k=es.length:=by omega
   subst hk';rw[List.take_of_length_le nle];go_wp2;go_ret;exact⟨rfl,hbl⟩
theorem jby {A:Option Addr} {n c:Nat} {es:List Wz} {fp:List Nat} (w:World) (hx:SlR Rp.edit w A n c es fp) (hf:jbi es):
  Calls Tryz.prog 108 #[.slice A n c] w fun e w'=>e= .returned (.int .i64 (Yg es:Nat))∧Below w.heap.size w w':=by
 obtain⟨rfl,hcx,hmx,_⟩:=id hx;unfold maxLen at hmx;have HF:=Ja hf;have hl4:=hf.1;clear hf;go_enter Tryz.func108,Tryz.ntmps108;go_wp2
 go_loopw [3,4] (fun s i wr=>∃k:Nat,k≤es.length∧i= .int .i64 k∧s= .int .i64 (Yg (es.take k):Nat)∧Below w.heap.size w wr) (fun _ i _=>es.length - (intOf i).toNat)
 case atStart=>exact⟨0,Nat.zero_le _,rfl,rfl,Below.refl _ _⟩
 case round=>
  obtain⟨k,hk,rfl,rfl,hbl⟩:=hrel;by_cases hlt:k<es.length
  ·obtain⟨b,o,rfl,hb,hm,h0,h1,h2⟩:=Zv (hx.step hbl) hlt;have hle:=jcf HF.out k hk;have hsz:=HF.out.2 _ (List.getElem_mem hlt);have HS:=Ja (jbt hlt);have i0:(0:Int)≤(k:Int):=by omega
   have i1:(k:Int)<(es.length:Int):=by omega
   generalize Yg (es.take k)=s at*;obtain⟨z0,z1⟩:=hsz;have e1:IntKind.i64.wrap ((s:Int)+(es[k].path.size:Int))=(s:Int)+(es[k].path.size:Int):=IntWalk.i64_in _ (by omega);have e2:IntKind.i64.wrap ((s:Int)+(es[k].path.size:Int)+(es[k].bytes.size:Int))=(s:Int)+(es[k].path.size:Int)+(es[k].bytes.size:Int):=IntWalk.i64_in _ (by omega);go_wp2_with fail;go_quiet(fail);clear e1 e2;go_wp2
   exact⟨⟨k+1,by omega,by go_num,by rw[HS.out];go_num,Below.drewN' hbl _⟩,by simp[intOf];omega⟩
  ·have hk':k=es.length:=by omega
   subst hk';rw[List.take_of_length_le nle];go_wp2;go_ret;exact⟨rfl,hbl⟩
theorem jek {path:ByteArray} {l:List File} {k:Nat} (hk:k<l.length) (h:Jq path l[k].path=true):Yq (l.take (k+1)) path=Yq (l.take k) path++ [l[k]]:=by
 unfold Yq;rw[List.take_succ_eq_append_getElem hk,List.filter_append,show List.filter (fun f=>Jq path f.path) [l[k]]= [l[k]] by simp[h]]
theorem jfe {path:ByteArray} {l:List File} {k:Nat} (hk:k<l.length) (h:Jq path l[k].path=false):Yq (l.take (k+1)) path=Yq (l.take k) path:=by
 unfold Yq;rw[List.take_succ_eq_append_getElem hk,List.filter_append,show List.filter (fun f=>Jq path f.path) [l[k]]= [] by simp[h],List.append_nil]
theorem jff (path:ByteArray) (l:List File) (k:Nat):(Yq (l.take k) path).length≤l.length:=
 Nat.le_trans (List.length_filter_le _ _) (by simp;omega)
theorem je5 {A:Option Addr} {n c:Nat} {l:List File} {fp:List Nat} (path:ByteArray) (w:World) (hx:SlR Rp.file w A n c l fp) (hp:path.size≤4194304) (hf:Vk l) (hl:l.length≤4194304):
  Calls Tryz.prog 135 #[.slice A n c,.string path] w (OwnF 98 2 Jj w (Yq l path)):=by
 obtain rfl:=hx.1;obtain⟨i0,hi,hz0,hz1,hz2⟩:=info_parts Xj;have HF:=Ja hf;clear hf;go_enter Tryz.func135,Tryz.ntmps135;go_wp2
 go_loopw [5,10] (fun v i wr=>∃k:Nat,k≤l.length∧i= .int .i64 k∧wr.ownsRow w.heap.size 98 2 v (Yq (l.take k) path).length ((Yq (l.take k) path).flatMap Jj)∧Below w.heap.size w wr) (fun _ i _=>l.length - (intOf i).toNat)
 case atStart=>exact⟨0,Nat.zero_le _,rfl,World.ownsRow_nil _ _ _ _,Below.refl _ _⟩
 case round=>
  obtain⟨k,hk,rfl,hown,hbl⟩:=hrel;have hsz:=hbl.size;have hle:=jff path l k;by_cases hlt:k<l.length
  ·obtain⟨b,o,rfl,hb,hm,q0,q1⟩:=Jx (hx.step hbl) hlt;have HY:=Ja (fun(h:Jq path l[k].path=true)=>jek hlt h);have HN:=Ja (fun(h:Jq path l[k].path=false)=>jfe hlt h);have HFK:=Ja (HF.out k hlt);generalize hg:l[k]=f at q0 q1 HY HN HFK;clear hg;have kq:=Blk.new wr 98 #[.string f.path,.string f.bytes];have i1:(k:Int)<(l.length:Int):=by omega
   have HW:=Ja hown;clear hown;go_wp2_with fail;refine(Wy path f.path hp HFK.out _).mono ?_;rintro e w1 ⟨rfl,hb1⟩;have hown1:=Yx (HW.out.alloc _) hb1;replace kq:=kq.step hb1;have hbl1:=(hbl.alloc hbl.size (.cells #[.string f.path,.string f.bytes] 98)).trans (hb1.mono (by simp;omega));have hsz1:=hbl1.size;clear hb1 q0 q1 HW;cases hd:Jq path f.path
   ·have HE:=Ja (HN.out hd);have HW:=Ja hown1;clear hd hown1 kq;go_wp2;refine⟨⟨k+1,by omega,by go_num, ?_,hbl1⟩,by simp[intOf];omega⟩;rw[HE.out];exact HW.out
   ·have HE:=Ja (HY.out hd);clear hd;have u0:=Blk.c0 kq;have u1:=Blk.c1 kq
    go_wp2_with(at_builtin;refine wpList_append_own _ rfl _ _ 42 rfl w.heap.size 98 i0 _ 2 32 Tryz.underlying42 hi hz0 hz1 hz2 rfl (by decide) _ _ _ rfl (hown1.alloc _) ⟨w1.heap.size,0,none⟩ 1 1 (Jj f) rfl rfl (Jm w1 (Jj f) _) (Rp.file.one (w:=w1) ⟨rfl,rfl⟩) (by unfold maxLen;omega) (by omega) (by simp;omega) ?_);intro v' w5 hown' hgrow _;have HO:=Ja hown'
    have HBB:=Ja ((hbl1.alloc hbl1.size _).grown hgrow (by simp;omega) (fun j hj=>(hown1.lt j hj).1));clear hown' hgrow hown1 kq u0 u1 hbl1;go_wp2;refine⟨⟨k+1,by omega,by go_num, ?_,HBB.out⟩,by simp[intOf];omega⟩;rw[HE.out,List.length_append,List.flatMap_append,List.flatMap_singleton];exact HO.out
  ·have hk':k=l.length:=by omega
   subst hk';rw[List.take_of_length_le nle] at hown;have HO:=Ja hown;clear hown;go_wp2;go_ret;exact⟨_,rfl,HO.out,hbl⟩
theorem je4 {A:Option Addr} {n c:Nat} {l:List File} {fp:List Nat} (path:ByteArray) (w:World) (hx:SlR Rp.file w A n c l fp) (hp:path.size≤4194304) (hf:Vk l) (hl:l.length≤4194304):
  Calls Tryz.prog 102 #[.slice A n c,.string path] w (OwnF 98 2 Jj w (Yq l path)):=by
 obtain rfl:=hx.1;obtain⟨i0,hi,hz0,hz1,hz2⟩:=info_parts Xj;have HF:=Ja hf;have hmx:=hx.max;clear hf;have HM:=Ja (World.ownsRow_made (base:=w.heap.size) (e:=98) (size:=2) w #[] 0 nle (by simp[maxLen]) rfl);have HBM:=Ja ((Below.refl w.heap.size w).alloc nle (.cells #[] 98));go_enter Tryz.func102,Tryz.ntmps102;go_wp2
 go_loopw [5,6] (fun v i wr=>∃k:Nat,k≤l.length∧i= .int .i64 k∧wr.ownsRow w.heap.size 98 2 v (Yq (l.take k) path).length ((Yq (l.take k) path).flatMap Jj)∧Below w.heap.size w wr) (fun _ i _=>l.length - (intOf i).toNat)
 case atStart=>exact⟨0,Nat.zero_le _,rfl,HM.out,HBM.out⟩
 case round=>
  obtain⟨k,hk,rfl,hown,hbl⟩:=hrel;have hsz:=hbl.size;have hle:=jff path l k;by_cases hlt:k<l.length
  ·obtain⟨b,o,rfl,hb,hm,q0,q1⟩:=Jx (hx.step hbl) hlt;have HY:=Ja (fun(h:Jq path l[k].path=true)=>jek hlt h);have HN:=Ja (fun(h:Jq path l[k].path=false)=>jfe hlt h);have HFK:=Ja (HF.out k hlt);generalize hg:l[k]=f at q0 q1 HY HN HFK;clear hg;have i0':(0:Int)≤(k:Int):=by omega
   have i1:(k:Int)<(l.length:Int):=by omega
   have HW:=Ja hown;clear hown;go_wp2_with fail;refine(jaa path f.path hp HFK.out _).mono ?_;rintro e w1 ⟨rfl,hb1⟩;have hown1:=Yx HW.out hb1;replace q0:=Je q0 hb1;replace q1:=Je q1 hb1;have hbl1:=Below.t hbl hb1;have hsz1:=hbl1.size;clear hb1 HW;cases hd:Jq path f.path
   ·have HE:=Ja (HN.out hd);have HW:=Ja hown1;clear hd hown1 q0 q1;go_wp2;refine⟨⟨k+1,by omega,by go_num, ?_,hbl1⟩,by simp[intOf];omega⟩;rw[HE.out];exact HW.out
   ·have HE:=Ja (HY.out hd);clear hd;go_wp2_with(at_builtin;refine wpList_append_own _ rfl _ _ 42 rfl w.heap.size 98 i0 _ 2 32 Tryz.underlying42 hi hz0 hz1 hz2 rfl (by decide) _ _ _ rfl (hown1.alloc _) ⟨w1.heap.size,0,none⟩ 1 1 (Jj f) rfl rfl (Jm w1 (Jj f) _) (Rp.file.one (w:=w1) ⟨rfl,rfl⟩) (by unfold maxLen;omega) (by omega) (by simp;omega) ?_);intro v' w5 hown' hgrow _
    have HO:=Ja hown';have HBB:=Ja ((hbl1.alloc hbl1.size _).grown hgrow (by simp;omega) (fun j hj=>(hown1.lt j hj).1));clear hown' hgrow hown1 q0 q1 hbl1;go_wp2;refine⟨⟨k+1,by omega,by go_num, ?_,HBB.out⟩,by simp[intOf];omega⟩;rw[HE.out,List.length_append,List.flatMap_append,List.flatMap_singleton];exact HO.out
  ·have hk':k=l.length:=by omega
   subst hk';rw[List.take_of_length_le nle] at hown;have HO:=Ja hown;clear hown;go_wp2;go_ret;exact⟨_,rfl,HO.out,hbl⟩
def jas (l:List File) (k:Nat):List File:=(l.take k).foldl (fun o f=>Zm (fun g=>bLt g.path f.path) f o) []
theorem jc1 {l:List File} {k:Nat} (h:k<l.length):jas l (k+1)=Zm (fun g=>bLt g.path l[k].path) l[k] (jas l k):=by
 unfold jas;rw[List.take_succ_eq_append_getElem h,List.foldl_append];rfl
theorem jbb {l:List File} : ∀ {k:Nat},k≤l.length→(jas l k).length=k
 | 0,_=>rfl
 |k+1,h=>by rw[jc1 (by omega),jaw,jbb (by omega)]
theorem jmk {l:List File} (h:asc File.path l):jas l l.length=l:=by
 unfold jas;rw[List.take_of_length_le nle];simpa using jjk (key:=File.path) l [] (by simpa using h)
theorem jj8 {l:List File} {x:File} (h:asc File.path l):jas (l++ [x]) (l++ [x]).length=Zm (fun g=>bLt g.path x.path) x l:=by
 have h1:jas (l++ [x]) l.length=l:=by
  have:=jmk h;unfold jas at*;rw[List.take_left];rwa [List.take_of_length_le nle] at this
 have h2:l.length<(l++ [x]).length:=by simp
 have:=jc1 h2;rw[h1] at this;rw[show(l++ [x]).length=l.length+1 by simp,this];simp
def lessTo (out:List File) (p:ByteArray) (j:Nat):Prop:=∀i (hi:i<out.length),i<j→bLt out[i].path p=true
theorem lessTo.zero {out:List File} {p:ByteArray} :lessTo out p 0:=fun i _ h=>by omega
theorem lessTo.next {out:List File} {p:ByteArray} {j:Nat} (h:lessTo out p j) (hj:j<out.length) (hl:bLt out[j].path p=true):lessTo out p (j+1):=fun i hi hij=>by
 rcases Nat.lt_succ_iff_lt_or_eq.1 hij with h1|rfl
 ·exact h i hi h1
 ·exact hl
theorem SlR.drop {α:Type} {r:Rp α} {w:World} {b o n c:Nat} {l:List α} {fp:List Nat} (h:SlR r w (some ⟨b,o,none⟩) n c l fp) {k:Nat} (hk:k≤l.length):
  ∃f,SlR r w (some ⟨b,o+k*r.k,none⟩) (n - k) (c - k) (l.drop k) f∧∀z∈f,z∈fp:=by
 obtain⟨hn,h1,h2,xs,f0,f1,hs,ha,hf⟩:=h;obtain⟨c0,c1,g0,g1,e1,e2,e3,e4,e5⟩:=ha.cut k hk;have hl:n - k=(l.drop k).length:=by simp;omega
 rcases hs.2 with ⟨h0,hf0⟩|⟨hn0,b',o',hA,hf0,hb,hc⟩
 ·exact⟨g1,⟨hl,by omega,by omega,c1,[],g1,⟨by rw[e5.len,←hl],.inl ⟨by omega,rfl⟩⟩,e5,rfl⟩,fun z hz=>by rw[hf,e2];simp[hz]⟩
 ·cases hA;by_cases h0:n - k=0
  ·exact⟨g1,⟨hl,by omega,by omega,c1,[],g1,⟨by rw[e5.len,←hl],.inl ⟨h0,rfl⟩⟩,e5,rfl⟩,fun z hz=>by rw[hf,e2];simp[hz]⟩
  ·refine⟨[b]++g1,⟨hl,by omega,by omega,c1,[b],g1,⟨by rw[e5.len,←hl],.inr ⟨by omega,b,o+k*r.k,rfl,rfl,hb, ?_⟩⟩,e5,rfl⟩,fun x hx=> ?_⟩
   ·rw[e1] at hc;have:=hc.right;rwa [e3] at this
   ·rw[hf,e2,hf0];simp at hx ⊢;rcases hx with rfl|hx
    ·simp
    ·simp[hx]
theorem SlR.drop_all {α:Type} {r:Rp α} {w:World} {A B:Option Addr} {n c k:Nat} {l:List α} {fp:List Nat} (h:SlR r w A n c l fp) (hk:c=k): ∃f,SlR r w B (n - k) 0 (l.drop k) f:=by
 have h1:=h.1;have h2:=h.2.1;have e1:n - k=0:=by omega
 have e2:l.drop k= []:=List.drop_eq_nil_of_le (by omega);rw[e1,e2];exact⟨[],rfl,Nat.zero_le _,Nat.zero_le _,[],[],[],⟨by simp,.inl ⟨rfl,rfl⟩⟩,⟨rfl,rfl⟩,rfl⟩
theorem SlR.none_of {α:Type} {r:Rp α} {w:World} {A:Option Addr} (c:Nat) (hc:c≤maxLen):SlR r w A 0 c [] []:=⟨rfl,Nat.zero_le _,hc,[],[],[],⟨by simp,.inl ⟨rfl,rfl⟩⟩,⟨rfl,rfl⟩,rfl⟩
theorem jav {w:World} {base size n:Nat} {e:TypeId} {v:Value} {xs:List Value} (h:w.ownsRow base e size v n xs) (hn:0<n): ∃g cap,v= .slice (some ⟨g,0,none⟩) n cap∧n≤cap∧cap≤maxLen:=by
 rcases h.2 with ⟨rfl,rfl⟩|⟨g,cap,cur,rfl,_,_,hc,hm,_⟩
 ·omega
 ·exact⟨g,cap,rfl,hc,hm⟩
theorem jl1 {w:World} {base size n g cap j:Nat} {e:TypeId} {u:Value} {xs:List Value} (h:w.ownsRow base e size (.slice (some ⟨g,0,none⟩) n cap) n xs) (hn:0<n):
  (w.setCell ⟨g,j,none⟩ u).ownsRow base e size (.slice (some ⟨g,0,none⟩) n cap) n (xs.set j u):=by
 rcases h.2 with ⟨_,h0⟩|⟨g',cap',cur,hv,hb,hg,hc,hm,hs,ht⟩
 ·omega
 ·cases hv;refine⟨by rw[List.length_set];exact h.1,.inr ⟨g,cap,cur.setIfInBounds j u,rfl,hb,Jd hg u,hc,hm,by simpa using hs, ?_⟩⟩;rw[Array.toList_setIfInBounds,List.take_set,ht]
theorem je9: ∀(l:List File) (k:Nat) (hk:k<l.length) (b:ByteArray),(l.set k ⟨l[k].path,b⟩).flatMap Jj=(l.flatMap Jj).set (k*2+1) (.string b)
 |x::l,0,_,b=>rfl
 |x::l,k+1,hk,b=>by
  have ih:=je9 l k (by simpa using hk) b;simp only[List.set_cons_succ,List.getElem_cons_succ,List.flatMap_cons];rw[ih];unfold Jj;rw[show(k+1)*2+1=(k*2+1)+1+1 by omega];rfl
theorem jbr {l:List File} {e:Wz} (h:l.findIdx? (Wv e.path)=none) (hg:e.gone=true):Zf l e=none:=by
 unfold Zf jbj;rw[show(fun f:File=>decide (f.path=e.path))=Wv e.path from rfl,h];simp[hg]
theorem jcr {l:List File} {e:Wz} (h:l.findIdx? (Wv e.path)=none) (hg:e.gone=false):Zf l e=some (Zm (fun g=>bLt g.path e.path) ⟨e.path,e.bytes⟩ l):=by
 unfold Zf jbj;rw[show(fun f:File=>decide (f.path=e.path))=Wv e.path from rfl,h];simp[hg]
theorem jcp {l:List File} {e:Wz} {k:Nat} (h:l.findIdx? (Wv e.path)=some k) (hg:e.gone=true) (hb:e.bytes=ByteArray.empty):Zf l e=some (l.eraseIdx k):=by
 unfold Zf jbj;rw[show(fun f:File=>decide (f.path=e.path))=Wv e.path from rfl,h];simp[hg,hb]
theorem jcq {l:List File} {e:Wz} {k:Nat} (h:l.findIdx? (Wv e.path)=some k) (hg:e.gone=true) (hb:e.bytes≠ByteArray.empty):Zf l e=none:=by
 unfold Zf jbj;rw[show(fun f:File=>decide (f.path=e.path))=Wv e.path from rfl,h];simp[hg,hb]
theorem jco {l:List File} {e:Wz} {k:Nat} (h:l.findIdx? (Wv e.path)=some k) (hg:e.gone=false):Zf l e=some (l.set k ⟨e.path,e.bytes⟩):=by
 unfold Zf jbj;rw[show(fun f:File=>decide (f.path=e.path))=Wv e.path from rfl,h];simp[hg]
theorem joh {l:List File} {p:ByteArray} {k:Nat} (h:l.findIdx? (Wv p)=some k): ∃hk:k<l.length,l[k].path=p:=by
 obtain⟨hk,h1,_⟩:=List.findIdx?_eq_some_iff_getElem.1 h;exact⟨hk,by simpa [Wv] using h1⟩
theorem jej {es:List Wz} : ∀ {l o:List File} {k:Nat},(hk:k<es.length)→Z9 l (es.take k)=some o→Z9 l (es.take (k+1))=Zf o es[k]∧(Zf o es[k]=none→Z9 l es=none):=by
 induction es with
 |nil=>intro l o k hk;simp at hk
 |cons e es ih=>
  intro l o k hk h;cases k with
  |zero=>
   simp only[List.take_zero,Z9,Option.some.injEq] at h;subst h;simp only[List.take_succ_cons,List.take_zero,List.getElem_cons_zero,Z9];cases Zf l e<;>simp[Z9]
  |succ k=>
   simp only[List.take_succ_cons,Z9] at h;cases h1:Zf l e with
   |none=>rw[h1] at h;simp at h
   |some l1=>
    rw[h1] at h;obtain⟨i1,i2⟩:=ih (l:=l1) (o:=o) (k:=k) (by simpa using hk) h;simp only[List.take_succ_cons,Z9,List.getElem_cons_succ,h1];exact⟨i1,i2⟩
theorem jny {l o:List File} {e:Wz} (h:Vk l) (he:e.path.size≤4194304) (ht:Zf l e=some o):Vk o:=fun i hi=>by
 rcases jnx ht (List.getElem_mem hi) with h1|h1
 ·rw[h1];exact he
 ·obtain⟨j,hj,h2⟩:=List.mem_iff_getElem.1 h1;rw[←h2];exact h j hj
structure TurnTo (l:List File) (es:List Wz) (k:Nat) (o:List File):Prop where
 all:Z9 l (es.take k)=some o
 asc_:asc File.path o
 len:o.length≤60+k
 fit:Vk o
section
variable {l o o':List File} {es:List Wz} {k:Nat}
theorem TurnTo.zero (h:Y1 l=true) (hf:Vk l):TurnTo l es 0 l:=⟨by simp[Z9],jn1 h,by have:=(Yo.1 h).1;omega,hf⟩
theorem TurnTo.next (h:TurnTo l es k o) (hk:k<es.length) (he:es[k].path.size≤4194304) (ht:Zf o es[k]=some o'):TurnTo l es (k+1) o':=
 ⟨by rw[(jej hk h.all).1,ht],jnz h.asc_ ht,by have:=jie ht;have:=h.len;omega,jny h.fit he ht⟩
theorem TurnTo.no (h:TurnTo l es k o) (hk:k<es.length) (ht:Zf o es[k]=none):Yu l es=none:=by
 unfold Yu;rw[(jej hk h.all).2 ht];split<;>rfl
theorem TurnTo.end_ (h:TurnTo l es es.length o) (hl:Y1 l=true) (he:es.length≤4):Yu l es=if Y1 o then some o else none:=by
 have:=h.all;rw[List.take_of_length_le nle] at this;unfold Yu;rw[if_pos ⟨hl,he⟩,this]
end
theorem ja8 {l:List File} {es:List Wz} (h: ¬(Y1 l=true∧es.length≤4)):Yu l es=none:=by
 unfold Yu;rw[if_neg h]
def TurnF (w:World) (x:Option (List File)) (e:Ending) (w':World):Prop:=
 ∃v,e= .returned (.tuple #[v,.bool x.isSome])∧w'.ownsRow w.heap.size 98 2 v (x.getD []).length ((x.getD []).flatMap Jj)∧Below w.heap.size w w'
theorem jgy:(Tryz.prog.info? 41).map (fun i=>(i.zero,i.size,i.bytes))=some (some (.agg #[.string ByteArray.empty,.bool false,.int .i64 0,.slice none 0 0]),4,56):=by kernel_rfl
def namedTo (l:List Ref) (x:Ref) (k:Nat) (d:Bool) (o:List Ref):Prop:=
 (d=false∧o=l.take k∧lessR l x.name k)∨(d=true∧∃j,j<k∧j≤l.length∧lessR l x.name j∧(∀h:j<l.length,bLt l[j].name x.name=false)∧o=l.take j++x::(l.take k).drop j)
theorem namedTo.zero {l:List Ref} {x:Ref} :namedTo l x 0 false []:= .inl ⟨rfl,rfl,lessR.zero⟩
theorem namedTo.skip {l o:List Ref} {x:Ref} {k:Nat} (h:namedTo l x k false o) (hk:k<l.length) (hl:bLt l[k].name x.name=true):namedTo l x (k+1) false (o++ [l[k]]):=by
 rcases h with ⟨_,rfl,h⟩|⟨h,_⟩
 ·exact .inl ⟨rfl,(List.take_succ_eq_append_getElem hk).symm,h.next hk hl⟩
 ·cases h
theorem namedTo.here {l o:List Ref} {x:Ref} {k:Nat} (h:namedTo l x k false o) (hk:k<l.length) (hl:bLt l[k].name x.name=false):namedTo l x (k+1) true (o++ [x]++ [l[k]]):=by
 rcases h with ⟨_,rfl,h⟩|⟨h,_⟩
 ·refine .inr ⟨rfl,k,by omega,by omega,h,fun _=>hl, ?_⟩;have e:(l.take (k+1)).drop k= [l[k]]:=by
   rw[List.take_succ_eq_append_getElem hk,List.drop_append_of_le_length (by simp;omega),List.drop_eq_nil_of_le (by simp;omega),List.nil_append]
  rw[e,List.append_assoc];rfl
 ·cases h
theorem namedTo.more {l o:List Ref} {x:Ref} {k:Nat} (h:namedTo l x k true o) (hk:k<l.length):namedTo l x (k+1) true (o++ [l[k]]):=by
 rcases h with ⟨h,_⟩|⟨_,j,h1,h2,h3,h4,rfl⟩
 ·cases h
 ·refine .inr ⟨rfl,j,by omega,h2,h3,h4, ?_⟩;rw[List.take_succ_eq_append_getElem hk,List.drop_append_of_le_length (by simp;omega)];simp
theorem namedTo.end_ {l o:List Ref} {x:Ref} (h:namedTo l x l.length true o):o=Zm (fun y=>bLt y.name x.name) x l:=by
 rcases h with ⟨h,_⟩|⟨_,j,h1,h2,h3,h4,rfl⟩
 ·cases h
 ·rw[List.take_length,jck (lt:=fun y:Ref=>bLt y.name x.name) (x:=x) (l:=l) (k:=j) h3 h2 h4]
theorem namedTo.last {l o:List Ref} {x:Ref} (h:namedTo l x l.length false o):o++ [x]=Zm (fun y=>bLt y.name x.name) x l:=by
 rcases h with ⟨_,rfl,h⟩|⟨h,_⟩
 ·rw[jck (lt:=fun y:Ref=>bLt y.name x.name) (x:=x) (l:=l) (k:=l.length) h nle (fun h=>absurd h (Nat.lt_irrefl _)),List.take_length,List.drop_length]
 ·cases h
theorem namedTo.len {l o:List Ref} {x:Ref} {k:Nat} {d:Bool} (h:namedTo l x k d o) (hk:k≤l.length):o.length≤k+1:=by
 rcases h with ⟨_,rfl,h⟩|⟨_,j,h1,h2,h3,h4,rfl⟩
 ·simp;omega
 ·simp;omega
def Gath (b H:Nat) (fx:List Nat) (w:World) (v:Value) (o:List Ref):Prop:=
 ∃xs f1,w.ownsRow b 41 4 v o.length xs∧AllR Rp.ref w xs o f1∧(∀z∈f1,z<H∧z≠b∧(z∈fx∨b≤z))∧∀z,v.ownBlock=some z→z=b∨H≤z
theorem Gath.more {b H:Nat} {fx:List Nat} {wA w2:World} {v:Value} {o:List Ref} {x:Ref} {xs ys:List Value} {f1 f:List Nat} {g cap:Nat} (ha:AllR Rp.ref wA xs o f1) (hf: ∀z∈f1,z<H∧z≠b∧(z∈fx∨b≤z)) (hv: ∀z,v.ownBlock=some z→z=b∨H≤z) (hx:Rp.ref.R wA ys x f) (hfx: ∀z∈f,z<H∧z≠b∧(z∈fx∨b≤z))
  (ho:w2.ownsRow b 41 4 (.slice (some ⟨g,0,none⟩) (o.length+1) cap) (o.length+1) (xs++ys)) (hg:wA.grownBy w2 v.ownBlock) (hor:v.ownBlock=some g∨g=wA.heap.size) (hH:H≤wA.heap.size):Gath b H fx w2 (.slice (some ⟨g,0,none⟩) (o.length+1) cap) (o++ [x]):=by
 have hk: ∀z,z<wA.heap.size→z<H∧z≠b→w2.heap[z]? =wA.heap[z]? :=fun z hz h=>hg.block z hz fun e=>by rcases hv z e.symm with h1|h1<;>omega
 refine⟨xs++ys,f1++f,by simpa using ho,((ha.keep fun z hz=>hk z (ha.lt z hz) ⟨(hf z hz).1,(hf z hz).2.1⟩).snoc (Rp.ref.keep hx fun z hz=>hk z (Rp.ref.lt hx z hz) ⟨(hfx z hz).1,(hfx z hz).2.1⟩)),fun z hz=> ?_,fun z hz=> ?_⟩
 ·rcases List.mem_append.1 hz with h|h
  ·exact hf z h
  ·exact hfx z h
 ·simp only[Value.ownBlock,Option.some.injEq] at hz;subst hz;rcases hor with h|h
  ·exact hv _ h
  ·exact .inr (by omega)
def jpi (w:World) (l:List Ref) (fx:List Nat) (e:Ending) (w':World):Prop:=
 ∃A n c f,e= .returned (.slice A n c)∧SlR Rp.ref w' A n c l f∧(∀z∈f,z∈fx∨w.heap.size≤z)∧Below w.heap.size w w'
theorem Gath.grow {b H:Nat} {fx:List Nat} {w0 w:World} {v:Value} {o:List Ref} (h:Gath b H fx w v o) (hB:Below b w0 w) (hb0:b≤w0.heap.size) (hbH:b≤H) (hH:H≤w.heap.size) {x:Ref} {ys:List Value} {f:List Nat} (hx:Rp.ref.R w ys x f) (hfx: ∀z∈f,z<H∧z≠b∧(z∈fx∨b≤z)) (ob:Obj):
  ∃xs,(w.alloc ob).ownsRow b 41 4 v o.length xs∧∀g cap w6,w6.ownsRow b 41 4 (.slice (some ⟨g,0,none⟩) (o.length+1) cap) (o.length+1) (xs++ys)→(w.alloc ob).grownBy w6 v.ownBlock→(v.ownBlock=some g∨g=w.heap.size+1)→
   Gath b H fx w6 (.slice (some ⟨g,0,none⟩) (o.length+1) cap) (o++ [x])∧(∀z,z<H→z≠b→w6.heap[z]? =w.heap[z]?)∧Below b w0 w6∧H≤w6.heap.size:=by
 obtain⟨xs,f1,ho,ha,hf,hv⟩:=h;have hk: ∀z,z<w.heap.size→(w.alloc ob).heap[z]? =w.heap[z]? :=fun z hz=>Below.heap_alloc w ob z hz;have hsz:(w.alloc ob).heap.size=w.heap.size+1:=by simp
 refine⟨xs,ho.alloc ob,fun g cap w6 ho2 hgr hor=>⟨Gath.more (wA:=w.alloc ob) (ha.keep fun z hz=>hk z (ha.lt z hz)) hf hv (Rp.ref.keep hx fun z hz=>hk z (Rp.ref.lt hx z hz)) hfx ho2 hgr (by rw[hsz];exact hor) (by omega),fun z hz hn=> ?_, ?_, ?_⟩⟩
 ·exact(hgr.block z (by omega) fun e=>by rcases hv z e.symm with h1|h1<;>omega).trans (hk z (by omega))
 ·exact(hB.alloc (Nat.le_trans hb0 hB.size) ob).grown hgr (by have:=hB.size;omega) (fun z hz=>(ho.lt z hz).1)
 ·have:=hgr.size;omega
theorem Gath.named {H:Nat} {fx:List Nat} {w0 w:World} {v:Value} {o l:List Ref} (h:Gath w0.heap.size H fx w v o) (hB:Below w0.heap.size w0 w) (e:o=l):jpi w0 l fx (.returned v) w:=by
 subst e;obtain⟨xs,f1,ho,ha,hf,hv⟩:=h;obtain⟨A,c,f0,rfl,hs,h0,_,_⟩:=SlR.of_owns (r:=Rp.ref) ho ha;exact⟨A,_,c,_,rfl,hs,fun z hz=>by
  rcases List.mem_append.1 hz with h|h
  ·exact .inr (h0 z h).2
  ·exact(hf z h).2.2,hB⟩
theorem jlx {W:World} {nb e1:Nat} {t:TypeId} (s:ByteArray) (hk:Blk W nb t #[.slice (some ⟨e1,0,none⟩) 0 0]):Rp.ref.R W [.string s,.bool false,.int .i64 0,.slice (some ⟨nb,0,none⟩) 1 1] ⟨s,false,0,[[]]⟩ [nb]:=by
 refine⟨some ⟨nb,0,none⟩,1,1,[nb],rfl,rfl,rfl,Nat.le_refl _,by simp[maxLen],[.slice (some ⟨e1,0,none⟩) 0 0],[nb],[],⟨rfl,.inr ⟨by omega,nb,0,rfl,rfl,hk.lt,fun j u hu=> ?_⟩⟩,AllR.single ⟨some ⟨e1,0,none⟩,0,0,rfl,SlR.none_of 0 (by simp[maxLen])⟩,rfl⟩;rw[Nat.zero_add,hk.cell j];simpa using hu
theorem jkq {A:Option Addr} {n c:Nat} {l:List Ref} {name:ByteArray} {fx:List Nat} (w:World) (hs:SlR Rp.ref w A n c l fx) (h60:l.length≤60) (hne: ∀y∈l,y.name≠name):
  Calls Tryz.prog 146 #[.slice A n c,.string name] w (jpi w (Zm (fun y=>bLt y.name name) ⟨name,false,0,[[]]⟩ l) fx):=by
 obtain rfl:=hs.1;have HS:=Ja (fun(W:World) (hb:Below w.heap.size w W)=>hs.step hb);have HLT:=Ja hs.lt;have HNE:=Ja hne;obtain⟨ii,hi0,hz0,hz1,hz2⟩:=info_parts jgy;clear hs hne;go_enter Tryz.func146,Tryz.ntmps146;go_wp2_with fail
 obtain⟨w3,hw3⟩: ∃w3,w3=(((w.alloc (.cells #[] 41)).alloc (.cells #[] 98)).alloc (.cells #[.slice (some ⟨w.heap.size+1,0,none⟩) 0 0] 42)).alloc (.cells #[.string name,.bool false,.int .i64 0,.slice (some ⟨w.heap.size+1+1,0,none⟩) 1 1] 41):=⟨_,rfl⟩;rw[←hw3]
 have HB3:=Ja (show Below w.heap.size w w3 from hw3▸((((Below.refl w.heap.size w).alloc nle _).alloc (by simp) _).alloc (by simp;omega) _).alloc (by simp;omega) _);have HSZ3:=Ja (show w3.heap.size=w.heap.size+4 by rw[hw3];simp);have HK3:=Ja (show Blk w3 (w.heap.size+1+1+1) 41 #[.string name,.bool false,.int .i64 0,.slice (some ⟨w.heap.size+1+1,0,none⟩) 1 1] from hw3▸Blk.new' (by simp) _ _)
 have HK2:=Ja (show Blk w3 (w.heap.size+1+1) 42 #[.slice (some ⟨w.heap.size+1,0,none⟩) 0 0] from hw3▸(Blk.new' (by simp) _ _).alloc _);have HG0:=Ja (show Gath w.heap.size (w.heap.size+4) fx w3 (.slice (some ⟨w.heap.size,0,none⟩) 0 0) [] from⟨[],[],by
  rw[hw3];exact(((World.ownsRow_made (base:=w.heap.size) (size:=4) w #[] 0 nle (by simp[maxLen]) rfl).alloc _).alloc _).alloc _,⟨rfl,rfl⟩,by simp,fun z hz=> .inl (by simp[Value.ownBlock] at hz;exact hz.symm)⟩)
 clear hw3
 go_loopw [5,7,8] (fun v dv iv wr=>∃k d o,k≤l.length∧iv= .int .i64 (k:Nat)∧dv= .bool d∧namedTo l ⟨name,false,0,[[]]⟩ k d o∧Gath w.heap.size (w.heap.size+4) fx wr v o∧(∀z,z<w.heap.size+4→z≠w.heap.size→wr.heap[z]? =w3.heap[z]?)∧Below w.heap.size w wr∧w.heap.size+4≤wr.heap.size) (fun _ _ iv _=>l.length - (intOf iv).toNat)
 case atStart=>exact⟨0,false,[],Nat.zero_le _,rfl,rfl,namedTo.zero,HG0.out,fun _ _ _=>rfl,HB3.out,Nat.le_of_eq HSZ3.out.symm⟩
 case round=>
  obtain⟨k,d,o,hk,rfl,rfl,hn,hg,hkp,hbl,hsz⟩:=hrel;have HN:=Ja hn;have HG:=Ja hg;have HKP:=Ja hkp;have HBL:=Ja hbl;have HSZ:=Ja hsz;have j0:(0:Int)≤(k:Int):=by omega
  clear hn hg hkp hbl hsz;by_cases hlt:k<l.length
  ·have j1:(k:Int)<(l.length:Int):=by omega
   obtain⟨bR,oR,B9,m9,d9,g9,rfl,_,_,t0,t1,t2,t3,hs3,hsub⟩:=J3 (HS.out _ HBL.out) hlt;obtain rfl:=hs3.1;have hx9:Rp.ref.R wr [.string l[k].name,.bool l[k].guard,.int .i64 l[k].count,.slice B9 l[k].Vz.length d9] l[k] g9:=⟨B9,_,d9,g9,rfl,rfl,hs3⟩;have hfx9: ∀z∈g9,z<w.heap.size+4∧z≠w.heap.size∧(z∈fx∨w.heap.size≤z):=fun z hz=>by
    have h1:z∈fx:=by first|exact hsub z hz|exact hsub.subset hz
    have:=HLT.out z h1;exact⟨by omega,by omega,.inl h1⟩
   clear hs3 hsub;cases d
   ·have hq:(l[k].name.toList==name.toList)=false:=by
     simp only[beq_eq_false_iff_ne];exact fun e=>HNE.out _ (List.getElem_mem hlt) (jan e)
    cases hd:bLt l[k].name name
    ·have HD:=Ja hd;unfold bLt at hd;clear hx9 hfx9;have k3:Blk wr (w.heap.size+1+1+1) 41 #[.string name,.bool false,.int .i64 0,.slice (some ⟨w.heap.size+1+1,0,none⟩) 1 1]:=(HKP.out _ (by omega) (by omega)).trans HK3.out;have k2:Blk wr (w.heap.size+1+1) 42 #[.slice (some ⟨w.heap.size+1,0,none⟩) 0 0]:=(HKP.out _ (by omega) (by omega)).trans HK2.out;have hx9:=jlx name k2
     have hfx9: ∀z∈ [w.heap.size+1+1],z<w.heap.size+4∧z≠w.heap.size∧(z∈fx∨w.heap.size≤z):=fun z hz=>by simp at hz;exact⟨by omega,by omega,.inr (by omega)⟩
     have s0:=k3.cell 0;have s1:=k3.cell 1;have s2:=k3.cell 2;have s3:=k3.cell 3;clear k2 k3;obtain⟨xs6,ho6,hgrow⟩:=HG.out.grow HBL.out nle (by omega) HSZ.out hx9 hfx9 (.cells #[.string name,.bool false,.int .i64 0,.slice (some ⟨w.heap.size+1+1,0,none⟩) 1 1] 41);have HGR:=Ja hgrow;have HLo:=Ja (HN.out.len hk)
     have HHS:=Ja (show(wr.alloc (.cells #[.string name,.bool false,.int .i64 0,.slice (some ⟨w.heap.size+1+1,0,none⟩) 1 1] 41)).heap.size=wr.heap.size+1 by simp);have HSS:=Ja HSZ.out;clear hgrow hx9 hfx9
     go_wp2_with(at_builtin;refine wpList_append_lies _ rfl _ _ 36 rfl w.heap.size 41 ii _ 4 56 Tryz.underlying36 hi0 hz0 hz1 hz2 rfl (by decide) _ _ _ rfl ho6 ⟨wr.heap.size,0,none⟩ 1 1 [.string name,.bool false,.int .i64 0,.slice (some ⟨w.heap.size+1+1,0,none⟩) 1 1] rfl rfl (Jm wr _ _) (by intro u hu;simp at hu;rcases hu with rfl|rfl|rfl|rfl<;>rfl) (by decide) (by have:=HLo.out;unfold maxLen;omega) (by have:=HLo.out;omega) (by have:=HHS.out;have:=HSS.out;omega) (wr.heap.size+1) HHS.out ?_)
     intro g6 cap6 w6 ho2 hgr hor hlt2;have HR6:=Ja (HGR.out _ _ _ ho2 hgr hor);clear ho2 hgr hor hlt2 ho6 HGR HLo HHS HSS;clear t0 t1 t2 t3 s0 s1 s2 s3;obtain⟨bR,oR,B9,m9,d9,g9,hAA,_,_,t0,t1,t2,t3,hs3,hsub⟩:=J3 (HS.out _ HR6.out.2.2.1) hlt;cases hAA;obtain rfl:=hs3.1
     have hx9:Rp.ref.R w6 [.string l[k].name,.bool l[k].guard,.int .i64 l[k].count,.slice B9 l[k].Vz.length d9] l[k] g9:=⟨B9,_,d9,g9,rfl,rfl,hs3⟩;have hfx9: ∀z∈g9,z<w.heap.size+4∧z≠w.heap.size∧(z∈fx∨w.heap.size≤z):=fun z hz=>by
      have h1:z∈fx:=by first|exact hsub z hz|exact hsub.subset hz
      have:=HLT.out z h1;exact⟨by omega,by omega,.inl h1⟩
     clear hs3 hsub;obtain⟨xs7,ho7,hgrow⟩:=HR6.out.1.grow HR6.out.2.2.1 nle (by omega) HR6.out.2.2.2 hx9 hfx9 (.cells #[.string l[k].name,.bool l[k].guard,.int .i64 l[k].count,.slice B9 l[k].Vz.length d9] 41);simp only[List.length_append,List.length_singleton] at hgrow ho7;have HGR:=Ja hgrow;have HLo:=Ja (show o.length+1≤k+2 by have:=HN.out.len hk;omega)
     have HHS:=Ja (show(w6.alloc (.cells #[.string l[k].name,.bool l[k].guard,.int .i64 l[k].count,.slice B9 l[k].Vz.length d9] 41)).heap.size=w6.heap.size+1 by simp);have HSS:=Ja HR6.out.2.2.2;clear hgrow hx9 hfx9
     go_wp2_with(at_builtin;refine wpList_append_lies _ rfl _ _ 36 rfl w.heap.size 41 ii _ 4 56 Tryz.underlying36 hi0 hz0 hz1 hz2 rfl (by decide) _ _ _ rfl ho7 ⟨w6.heap.size,0,none⟩ 1 1 [.string l[k].name,.bool l[k].guard,.int .i64 l[k].count,.slice B9 l[k].Vz.length d9] rfl rfl (Jm w6 _ _) (by intro u hu;simp at hu;rcases hu with rfl|rfl|rfl|rfl<;>rfl) (by decide) (by have:=HLo.out;unfold maxLen;omega) (by have:=HLo.out;omega) (by have:=HHS.out;have:=HSS.out;omega) (w6.heap.size+1) HHS.out ?_)
     intro g7 cap7 w7 ho2 hgr hor hlt2;have HR7:=Ja (HGR.out _ _ _ ho2 hgr hor);clear ho2 hgr hor hlt2 ho7 HGR HLo HHS HSS;clear t0 t1 t2 t3;go_wp2_with fail;exact⟨⟨k+1,true,_,by omega,by go_num,rfl,HN.out.here hlt HD.out,by simpa using HR7.out.1,fun z h1 h2=>(HR7.out.2.1 z h1 h2).trans ((HR6.out.2.1 z h1 h2).trans (HKP.out z h1 h2)),HR7.out.2.2.1,HR7.out.2.2.2⟩,by simp[intOf];omega⟩
    ·have HD:=Ja hd;unfold bLt at hd;obtain⟨xs6,ho6,hgrow⟩:=HG.out.grow HBL.out nle (by omega) HSZ.out hx9 hfx9 (.cells #[.string l[k].name,.bool l[k].guard,.int .i64 l[k].count,.slice B9 l[k].Vz.length d9] 41);have HGR:=Ja hgrow;have HLo:=Ja (HN.out.len hk)
     have HHS:=Ja (show(wr.alloc (.cells #[.string l[k].name,.bool l[k].guard,.int .i64 l[k].count,.slice B9 l[k].Vz.length d9] 41)).heap.size=wr.heap.size+1 by simp);have HSS:=Ja HSZ.out;clear hgrow hx9 hfx9
     go_wp2_with(at_builtin;refine wpList_append_lies _ rfl _ _ 36 rfl w.heap.size 41 ii _ 4 56 Tryz.underlying36 hi0 hz0 hz1 hz2 rfl (by decide) _ _ _ rfl ho6 ⟨wr.heap.size,0,none⟩ 1 1 [.string l[k].name,.bool l[k].guard,.int .i64 l[k].count,.slice B9 l[k].Vz.length d9] rfl rfl (Jm wr _ _) (by intro u hu;simp at hu;rcases hu with rfl|rfl|rfl|rfl<;>rfl) (by decide) (by have:=HLo.out;unfold maxLen;omega) (by have:=HLo.out;omega) (by have:=HHS.out;have:=HSS.out;omega) (wr.heap.size+1) HHS.out ?_)
     intro g6 cap6 w6 ho2 hgr hor hlt2;have HR6:=Ja (HGR.out _ _ _ ho2 hgr hor);clear ho2 hgr hor hlt2 ho6 HGR HLo HHS HSS;clear t0 t1 t2 t3;go_wp2_with fail;exact⟨⟨k+1,false,_,by omega,by go_num,rfl,HN.out.skip hlt HD.out,by simpa using HR6.out.1,fun z h1 h2=>(HR6.out.2.1 z h1 h2).trans (HKP.out z h1 h2),HR6.out.2.2.1,HR6.out.2.2.2⟩,by simp[intOf];omega⟩
   ·obtain⟨xs6,ho6,hgrow⟩:=HG.out.grow HBL.out nle (by omega) HSZ.out hx9 hfx9 (.cells #[.string l[k].name,.bool l[k].guard,.int .i64 l[k].count,.slice B9 l[k].Vz.length d9] 41);have HGR:=Ja hgrow;have HLo:=Ja (HN.out.len hk)
    have HHS:=Ja (show(wr.alloc (.cells #[.string l[k].name,.bool l[k].guard,.int .i64 l[k].count,.slice B9 l[k].Vz.length d9] 41)).heap.size=wr.heap.size+1 by simp);have HSS:=Ja HSZ.out;clear hgrow hx9 hfx9
    go_wp2_with(at_builtin;refine wpList_append_lies _ rfl _ _ 36 rfl w.heap.size 41 ii _ 4 56 Tryz.underlying36 hi0 hz0 hz1 hz2 rfl (by decide) _ _ _ rfl ho6 ⟨wr.heap.size,0,none⟩ 1 1 [.string l[k].name,.bool l[k].guard,.int .i64 l[k].count,.slice B9 l[k].Vz.length d9] rfl rfl (Jm wr _ _) (by intro u hu;simp at hu;rcases hu with rfl|rfl|rfl|rfl<;>rfl) (by decide) (by have:=HLo.out;unfold maxLen;omega) (by have:=HLo.out;omega) (by have:=HHS.out;have:=HSS.out;omega) (wr.heap.size+1) HHS.out ?_)
    intro g6 cap6 w6 ho2 hgr hor hlt2;have HR6:=Ja (HGR.out _ _ _ ho2 hgr hor);clear ho2 hgr hor hlt2 ho6 HGR HLo HHS HSS;clear t0 t1 t2 t3;go_wp2_with fail;exact⟨⟨k+1,true,_,by omega,by go_num,rfl,HN.out.more hlt,by simpa using HR6.out.1,fun z h1 h2=>(HR6.out.2.1 z h1 h2).trans (HKP.out z h1 h2),HR6.out.2.2.1,HR6.out.2.2.2⟩,by simp[intOf];omega⟩
  ·obtain rfl:k=l.length:=by omega
   cases d
   ·have k3:Blk wr (w.heap.size+1+1+1) 41 #[.string name,.bool false,.int .i64 0,.slice (some ⟨w.heap.size+1+1,0,none⟩) 1 1]:=(HKP.out _ (by omega) (by omega)).trans HK3.out;have k2:Blk wr (w.heap.size+1+1) 42 #[.slice (some ⟨w.heap.size+1,0,none⟩) 0 0]:=(HKP.out _ (by omega) (by omega)).trans HK2.out;have hx9:=jlx name k2
    have hfx9: ∀z∈ [w.heap.size+1+1],z<w.heap.size+4∧z≠w.heap.size∧(z∈fx∨w.heap.size≤z):=fun z hz=>by simp at hz;exact⟨by omega,by omega,.inr (by omega)⟩
    have s0:=k3.cell 0;have s1:=k3.cell 1;have s2:=k3.cell 2;have s3:=k3.cell 3;clear k2 k3;obtain⟨xs6,ho6,hgrow⟩:=HG.out.grow HBL.out nle (by omega) HSZ.out hx9 hfx9 (.cells #[.string name,.bool false,.int .i64 0,.slice (some ⟨w.heap.size+1+1,0,none⟩) 1 1] 41);have HGR:=Ja hgrow;have HLo:=Ja (HN.out.len hk)
    have HHS:=Ja (show(wr.alloc (.cells #[.string name,.bool false,.int .i64 0,.slice (some ⟨w.heap.size+1+1,0,none⟩) 1 1] 41)).heap.size=wr.heap.size+1 by simp);have HSS:=Ja HSZ.out;clear hgrow hx9 hfx9
    go_wp2_with(at_builtin;refine wpList_append_lies _ rfl _ _ 36 rfl w.heap.size 41 ii _ 4 56 Tryz.underlying36 hi0 hz0 hz1 hz2 rfl (by decide) _ _ _ rfl ho6 ⟨wr.heap.size,0,none⟩ 1 1 [.string name,.bool false,.int .i64 0,.slice (some ⟨w.heap.size+1+1,0,none⟩) 1 1] rfl rfl (Jm wr _ _) (by intro u hu;simp at hu;rcases hu with rfl|rfl|rfl|rfl<;>rfl) (by decide) (by have:=HLo.out;unfold maxLen;omega) (by have:=HLo.out;omega) (by have:=HHS.out;have:=HSS.out;omega) (wr.heap.size+1) HHS.out ?_)
    intro g6 cap6 w6 ho2 hgr hor hlt2;have HR6:=Ja (HGR.out _ _ _ ho2 hgr hor);clear ho2 hgr hor hlt2 ho6 HGR HLo HHS HSS;clear s0 s1 s2 s3;go_wp2_with fail;go_ret;exact Gath.named HR6.out.1 HR6.out.2.2.1 HN.out.last
   ·go_wp2_with fail;go_ret;exact Gath.named HG.out HBL.out HN.out.end_
theorem Blk.two (w:World) (t u:TypeId) (cs ds:Array Value):Blk ((w.alloc (.cells cs t)).alloc (.cells ds u)) w.heap.size t cs∧Blk ((w.alloc (.cells cs t)).alloc (.cells ds u)) (w.heap.size+1) u ds∧Below w.heap.size w ((w.alloc (.cells cs t)).alloc (.cells ds u)):=by
 have h1:=(Below.refl w.heap.size w).alloc nle (.cells cs t);have h2:=(Below.refl _ (w.alloc (.cells cs t))).alloc nle (.cells ds u);refine⟨(Blk.new w t cs).step h2, ?_,Below.t h1 h2⟩;have:=Blk.new (w.alloc (.cells cs t)) u ds;rwa [show(w.alloc (.cells cs t)).heap.size=w.heap.size+1 by simp] at this
theorem je2 {cs ds:List Value} {x y:Ans} {fx fy:List Nat} (w:World) (hx:Rp.ans.R w cs x fx) (hy:Rp.ans.R w ds y fy):
  Calls Tryz.prog 20 #[.agg cs.toArray,.agg ds.toArray] w fun e w'=>e= .returned (.bool (decide (x=y)))∧Below w.heap.size w w':=by
 obtain⟨A0,n0,c0,f0,A1,n1,c1,f1,rfl, -,h0,h1⟩:=hx;obtain⟨B0,m0,d0,g0,B1,m1,d1,g1,rfl, -,j0,j1⟩:=hy;obtain⟨k2,k3,hb⟩:=Blk.two w 45 45 #[.int .i64 x.code,.slice A0 n0 c0,.slice A1 n1 c1,.int .i64 x.n] #[.int .i64 y.code,.slice B0 m0 d0,.slice B1 m1 d1,.int .i64 y.n];go_enter Tryz.func20,Tryz.ntmps20;go_upto_region 1 with fail
 generalize(w.alloc (.cells #[.int .i64 x.code,.slice A0 n0 c0,.slice A1 n1 c1,.int .i64 x.n] 45)).alloc (.cells #[.int .i64 y.code,.slice B0 m0 d0,.slice B1 m1 d1,.int .i64 y.n] 45)=w1 at k2 k3 hb ⊢;replace h0:=h0.step hb;replace h1:=h1.step hb;replace j0:=j0.step hb;replace j1:=j1.step hb;have x0:=k2.cell 0;have x3:=k2.cell 3;have y0:=k3.cell 0;have y3:=k3.cell 3
 simp only[List.getElem?_toArray,List.getElem?_cons_zero,List.getElem?_cons_succ] at x0 x3 y0 y3;cases e0:(x.code==y.code)
 ·have HN:=Ja (show x≠y from fun h=>by rw[h] at e0;simp at e0);go_wp2;go_ret;exact⟨Jc (decide_eq_false HN.out).symm,hb⟩
 cases e1:(x.n==y.n)
 ·have HN:=Ja (show x≠y from fun h=>by rw[h] at e1;simp at e1);go_wp2;go_ret;exact⟨Jc (decide_eq_false HN.out).symm,hb⟩
 have x1:=k2.cell 1;have y1:=k3.cell 1;simp only[List.getElem?_toArray,List.getElem?_cons_zero,List.getElem?_cons_succ] at x1 y1;go_wp2_with fail;refine(jgb _ h0 j0).mono ?_;rintro e w2 ⟨rfl,hb2⟩;have x2:=Blk.c2 (k2.step hb2);have y2:=Blk.c2 (k3.step hb2);cases e2:decide (x.files=y.files)
 ·have HN:=Ja (show x≠y from fun h=>by rw[h] at e2;simp at e2);go_wp2;go_ret;exact⟨Jc (decide_eq_false HN.out).symm,Below.t hb hb2⟩
 go_wp2_with fail;refine(jng _ (h1.step hb2) (j1.step hb2)).mono ?_;rintro e w3 ⟨rfl,hb3⟩;have HE:=Ja (show decide (x.names=y.names)=decide (x=y) from by
  obtain⟨a,b,c,d⟩:=x;obtain⟨a',b',c',d'⟩:=y;simp at e0 e1 e2;simp[e0,e1,e2])
 go_wp2;go_ret;exact⟨Jc HE.out,Below.t (Below.t hb hb2) hb3⟩
theorem joz {a b:Jl} (h1:a.keys=b.keys) (h2:a.used=b.used) (h3:a.Rz=b.Rz):a=b:=by
 cases a;cases b;simp_all
theorem jpr {a b:Xq} (h1:a.Az=b.Az) (h2:a.Uz=b.Uz) (h3:a.Fz=b.Fz):a=b:=by
 cases a;cases b;simp_all
theorem jga {cs ds:List Value} {x y:Jl} {fx fy:List Nat} (w:World) (hx:Rp.house.R w cs x fx) (hy:Rp.house.R w ds y fy):
  Calls Tryz.prog 19 #[.agg cs.toArray,.agg ds.toArray] w fun e w'=>e= .returned (.bool (decide (x=y)))∧Below w.heap.size w w':=by
 obtain⟨A0,n0,c0,f0,A1,n1,c1,f1,A2,n2,c2,f2,rfl, -,h0,h1,h2⟩:=hx;obtain⟨B0,m0,d0,g0,B1,m1,d1,g1,B2,m2,d2,g2,rfl, -,j0,j1,j2⟩:=hy;obtain⟨rfl,hcx,hmx,_⟩:=id h2;obtain⟨rfl,hcy,hmy,_⟩:=id j2;unfold maxLen at hmx hmy;obtain⟨k2,k3,hb⟩:=Blk.two w 26 26 #[.slice A0 n0 c0,.slice A1 n1 c1,.slice A2 x.Rz.length c2] #[.slice B0 m0 d0,.slice B1 m1 d1,.slice B2 y.Rz.length d2]
 go_enter Tryz.func19,Tryz.ntmps19;go_upto_region 1 with fail
 generalize(w.alloc (.cells #[.slice A0 n0 c0,.slice A1 n1 c1,.slice A2 x.Rz.length c2] 26)).alloc (.cells #[.slice B0 m0 d0,.slice B1 m1 d1,.slice B2 y.Rz.length d2] 26)=w1 at k2 k3 hb ⊢;replace h0:=h0.step hb;replace h1:=h1.step hb;replace h2:=h2.step hb;replace j0:=j0.step hb;replace j1:=j1.step hb;replace j2:=j2.step hb;have x0:=Blk.c0 k2;have y0:=Blk.c0 k3;go_wp2_with fail
 refine(jg4 _ h0 j0).mono ?_;rintro e w2 ⟨rfl,hb2⟩;replace k2:=k2.step hb2;replace k3:=k3.step hb2;replace hb:=Below.t hb hb2;replace h1:=h1.step hb2;replace h2:=h2.step hb2;replace j1:=j1.step hb2;replace j2:=j2.step hb2;clear hb2 x0 y0 h0 j0;cases e0:decide (x.keys=y.keys)
 ·have HN:=Ja (show x≠y from fun h=>by rw[h] at e0;simp at e0);go_wp2;go_ret;exact⟨Jc (decide_eq_false HN.out).symm,hb⟩
 have x1:=Blk.c1 k2;have y1:=Blk.c1 k3;go_wp2_with fail;refine(jg4 _ h1 j1).mono ?_;rintro e w3 ⟨rfl,hb2⟩;replace k2:=k2.step hb2;replace k3:=k3.step hb2;replace hb:=Below.t hb hb2;replace h2:=h2.step hb2;replace j2:=j2.step hb2;clear hb2 x1 y1 h1 j1;cases e1:decide (x.used=y.used)
 ·have HN:=Ja (show x≠y from fun h=>by rw[h] at e1;simp at e1);go_wp2;go_ret;exact⟨Jc (decide_eq_false HN.out).symm,hb⟩
 have x2:=Blk.c2 k2;have y2:=Blk.c2 k3;cases e2:((x.Rz.length:Int) !=(y.Rz.length:Int));rotate_left
 ·have HN:=Ja (show x≠y from fun h=>by rw[h] at e2;simp at e2);go_wp2;go_ret;exact⟨Jc (decide_eq_false HN.out).symm,hb⟩
 have hl:x.Rz.length=y.Rz.length:=by have h:=(bne_eq_false_iff_eq).mp e2;omega
 have HE:=Ja (show x.keys=y.keys∧x.used=y.used from⟨by simpa using e0,by simpa using e1⟩);clear e0 e1;go_wp2
 go_loopw [5] (fun i wr=>∃k:Nat,k≤x.Rz.length∧i= .int .i64 k∧je6 x.Rz y.Rz k∧Below w3.heap.size w3 wr) (fun i _=>x.Rz.length - (intOf i).toNat)
 case atStart=>exact⟨0,Nat.zero_le _,rfl,rfl,Below.refl _ _⟩
 case round=>
  obtain⟨k,hk,rfl,hag,hbl⟩:=hrel;have HA:=Ja hag;clear hag;replace x2:=Je x2 hbl;replace y2:=Je y2 hbl;by_cases hlt:k<x.Rz.length
  ·have hlt2:k<y.Rz.length:=by omega
   obtain⟨b,o,A3,n3,c3,f3,A4,n4,c4,f4,rfl, -, -,p0,p1,p2,s1,s2, -⟩:=J7 (h2.step hbl) hlt;obtain⟨b',o',B3,m3,d3,g3,B4,m4,d4,g4,rfl, -, -,q0,q1,q2,t1,t2, -⟩:=J7 (j2.step hbl) hlt2;have i0:(0:Int)≤(k:Int):=by omega
   have i1:(k:Int)<(x.Rz.length:Int):=by omega
   have i2:(k:Int)<(y.Rz.length:Int):=by omega
   have C1:=fun(m:BelowW wr)=>jld _ (BelowW.sl m s1) (BelowW.sl m t1);have C2:=fun(m:BelowW wr)=>jnm _ (BelowW.sl m s2) (BelowW.sl m t2);have HF:=Ja (fun(h: ¬x.Rz[k]=y.Rz[k])=>Ww hlt hlt2 h);have HT:=Ja (fun(h:x.Rz[k]=y.Rz[k])=>Zw HA.out hlt hlt2 h);clear s1 s2 t1 t2 h2 j2 k2 k3;generalize x.Rz[k]=p at p0 p1 p2 C1 C2 HF HT
   generalize y.Rz[k]=q at q0 q1 q2 C1 C2 HF HT;have n0:=BelowW.nonempty wr;have ex0:=BelowW.ex (w:=wr);have g0:=fun n:BelowW wr=>n.cell x2;have g1:=fun n:BelowW wr=>n.cell y2;have g2:=fun n:BelowW wr=>n.cell p0;have g3:=fun n:BelowW wr=>n.cell p1;have g4:=fun n:BelowW wr=>n.cell p2;have g5:=fun n:BelowW wr=>n.cell q0;have g6:=fun n:BelowW wr=>n.cell q1;have g7:=fun n:BelowW wr=>n.cell q2
   have G:=Ja (And.intro g0 (And.intro g1 (And.intro g2 (And.intro g3 (And.intro g4 (And.intro g5 (And.intro g6 g7)))))));have D1:=Ja C1;have D2:=Ja C2;clear g0 g1 g2 g3 g4 g5 g6 g7 C1 C2 p0 p1 p2 q0 q1 q2;cases e3:(p.Az !=q.Az)<;>cases e4:decide (p.Uz=q.Uz)<;>cases e5:decide (p.Fz=q.Fz)
   case false.true.true=>
    have HN:=Ja (HT.out (jpr (by simpa using e3) (by simpa using e4) (by simpa using e5)));rw[e4] at D1;rw[e5] at D2;clear HF HT HA;go_wp2_with fail;obtain⟨g0,g1,g2,g3,g4,g5,g6,g7⟩:=G.out;refine Jf (by kernel_rfl) (by kernel_rfl) ?_
    repeat(go_big_quiet_step(first|(go_at_call 32;exact BelowW.calls _ (D1.out _))|(go_at_call 52;exact BelowW.calls _ (D2.out _))))
    refine wpQuiet_nil ?_;rintro w6 ⟨m6,hw6⟩;have hb6:=m6.property;rw[←hw6] at hb6;clear hw6 m6;go_wp2;exact⟨⟨k+1,by omega,by go_num,HN.out,Below.t hbl hb6⟩,by simp[intOf];omega⟩
   all_goals
    have HN:=Ja (HF.out (by rintro rfl;simp at e3 e4 e5));rw[e4] at D1;rw[e5] at D2;clear HF HT HA;go_wp2_with fail;obtain⟨g0,g1,g2,g3,g4,g5,g6,g7⟩:=G.out;refine Jf (by kernel_rfl) (by kernel_rfl) ?_
    repeat(go_big_quiet_step(first|(go_at_call 32;exact BelowW.calls _ (D1.out _))|(go_at_call 52;exact BelowW.calls _ (D2.out _))))
    refine wpQuiet_nil ?_;rintro w6 ⟨m6,hw6⟩;have hb6:=m6.property;rw[←hw6] at hb6;clear hw6 m6;go_wp2;go_ret;exact⟨Jc (decide_eq_false fun h=>HN.out (by rw[h])).symm,Below.t hb (Below.t hbl hb6)⟩
  ·have hk':k=x.Rz.length:=by omega
   subst hk';have HR:=Ja (jaq HA.out hl);go_wp2;go_ret;exact⟨Jc (decide_eq_true (joz HE.out.1 HE.out.2 HR.out)).symm,Below.t hb hbl⟩
end Go.Proofs.YtlkoaobaoffpaaaGreatDoor
