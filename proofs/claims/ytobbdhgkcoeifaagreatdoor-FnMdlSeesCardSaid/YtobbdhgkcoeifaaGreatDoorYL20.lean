/- FnMdlSees: for every input the law answers true and leaves its arguments as they were. Conditions: the listed library tables read as the tie says. -/
import Derived.ProofKit
import Derived.Deep.Slices
import Derived.Deep.Fields
import Derived.WalkKit
import Derived.OpenShut
import Derived.ChangeMaps5
import Derived.Deep.DeepHandedRow
import Derived.Lib.LaidTab
import Derived.SevenTiedAt
import Derived.Test.YtobbdhgkcoeifaaGreatDoorZ5
import Derived.Test.YtobbdhgkcoeifaaGreatDoorZ4
import Derived.Test.YtobbdhgkcoeifaaGreatDoorZ26
import Derived.Test.YtobbdhgkcoeifaaGreatDoorZ6
import Derived.Test.YtobbdhgkcoeifaaGreatDoorZ27
import Derived.Test.YtobbdhgkcoeifaaGreatDoorZ24
import Derived.Test.YtobbdhgkcoeifaaGreatDoorZ20
import Derived.Test.YtobbdhgkcoeifaaGreatDoorZ28
import Derived.Test.YtobbdhgkcoeifaaGreatDoorZ17
import Derived.Test.YtobbdhgkcoeifaaGreatDoorZ1
import Derived.Test.YtobbdhgkcoeifaaGreatDoorCards
import Derived.Test.YtobbdhgkcoeifaaGreatDoorTie
namespace Go.Proofs.YtobbdhgkcoeifaaGreatDoor
open Go.RowKit
attribute [local go_sem ↓] Go.wp_at_zero Go.wp_at_succ
open Go Go.RowKit
open Go.ChangeShapes Go.WideShapes Go.ChangeAt Go.RowKit Go.Deep
set_option maxHeartbeats 8000000
set_option maxRecDepth 100000
set_option linter.unusedSimpArgs false
set_option linter.unusedVariables false
def FilesOwn (w:World) (o:Option (List File)) (e:Ending) (w':World):Prop:=
 ∃v,e= .returned (.tuple #[v,.bool o.isSome])∧w'.ownsRow w.heap.size 65 2 v (o.getD []).length ((o.getD []).flatMap Jj)∧Below w.heap.size w w'
theorem mdlFiles_ok {m:Jl} {repo back:Int} {name:ByteArray} (hm:Ys m=true):jqz m repo name back=Xn m repo name back:=if_pos hm
theorem mdlFiles_no {m:Jl} {repo back:Int} {name:ByteArray} (hm:Ys m=false):jqz m repo name back=none:=if_neg (by simp[hm])
theorem implMdlFiles_any {cs:List Value} {x:Jl} {fx:List Nat} (repo:Int) (name:ByteArray) (back:Int) (hb1:back≤9223372036854775807) (w:World) (hx:Rp.house.R w cs x fx) (hf:V9 x):
  Calls Tryz.prog 20 #[.agg cs.toArray,.int .i64 repo,.string name,.int .i64 back] w (FilesOwn w (jqz x repo name back)):=by
 have hx0:=hx;obtain⟨A0,n0,c0,f0,A1,n1,c1,f1,A2,n2,c2,f2,rfl,hff,h0,h1,h2⟩:=hx;have RH:=Ja (fun(W:World) (hb:Below w.heap.size w W)=>Rp.house.below hx0 hb nle);have HF:=Ja hf;clear hx0 h0 h1 h2 hff hf;have kb:=Blk.new w 26 #[.slice A0 n0 c0,.slice A1 n1 c1,.slice A2 n2 c2];have HB:=(Below.refl w.heap.size w).alloc nle (.cells #[.slice A0 n0 c0,.slice A1 n1 c1,.slice A2 n2 c2] 26)
 go_enter Tryz.func20,Tryz.ntmps20;go_wp2_with fail;refine(jhy (x:=x) _ (RH.out _ HB) HF.out).mono ?_;rintro e w1 ⟨rfl,hb⟩;replace kb:=kb.step hb;replace HB:=Below.t HB hb;clear hb;cases hd:Ys x
 ·have HV:=Ja (mdlFiles_no (repo:=repo) (name:=name) (back:=back) hd);clear hd;go_wp2
  go_ret2
  rw[HV.out];exact⟨_,rfl,World.ownsRow_nil _ _ _ _,HB⟩
 ·have HV:=Ja (mdlFiles_ok (repo:=repo) (name:=name) (back:=back) hd);have HL:=Ja (jk5 (repo:=repo) (name:=name) (back:=back) hd);clear hd;have u0:=Blk.c0 kb;have u1:=Blk.c1 kb;have u2:=Blk.c2 kb;go_wp2_with fail;refine(jo3 (x:=x) repo name back hb1 _ (RH.out _ HB)).mono ?_;rintro e w2 ⟨A4,n4,c4,f4,rfl,hs4,_,hb⟩;replace HB:=Below.t HB hb;clear hb u0 u1 u2 kb;go_wp2_with fail
  refine(Xk _ hs4 (Nat.le_trans HL.out (by decide))).mono ?_;rintro e w3 ⟨v,rfl,hown,hb⟩;have HO:=Ja (Zy hown HB.size);replace HB:=Below.t HB hb;clear hown hb hs4;go_wp2
  go_ret2
  rw[HV.out];exact⟨_,rfl,HO.out,HB⟩
theorem specMdlFiles_any {cs:List Value} {x:Jl} {fx:List Nat} (repo:Int) (name:ByteArray) (back:Int) (hb1:back≤9223372036854775807) (w:World) (hx:Rp.house.R w cs x fx) (hf:V9 x):
  Calls Tryz.prog 24 #[.agg cs.toArray,.int .i64 repo,.string name,.int .i64 back] w (FilesOwn w (jqz x repo name back)):=by
 have hx0:=hx;have HF:=Ja hf;obtain⟨A0,n0,c0,f0,A1,n1,c1,f1,A2,n2,c2,f2,rfl,hff,h0,h1,h2⟩:=hx;obtain rfl:=h2.1;have hmx2:=h2.max;have RH:=Ja (fun(W:World) (hb:Below w.heap.size w W)=>Rp.house.below hx0 hb nle);clear hx0 h0 h1 hff hf;have kb:=Blk.new w 26 #[.slice A0 n0 c0,.slice A1 n1 c1,.slice A2 x.Rz.length c2]
 replace h2:=h2.allocN (.cells #[.slice A0 n0 c0,.slice A1 n1 c1,.slice A2 x.Rz.length c2] 26);have HB:=(Below.refl w.heap.size w).alloc nle (.cells #[.slice A0 n0 c0,.slice A1 n1 c1,.slice A2 x.Rz.length c2] 26);have e2:IntKind.i64.wrap ((x.Rz.length:Int) - 1)=(x.Rz.length:Int) - 1:=IntWalk.i64_in _ (by omega);go_enter Tryz.func24,Tryz.ntmps24;go_wp2_with fail
 refine(jhe (x:=x) _ (RH.out _ HB) HF.out).mono ?_;rintro e w1 ⟨rfl,hb⟩;replace kb:=kb.step hb;replace h2:=h2.step hb;replace HB:=Below.t HB hb;clear hb;cases hd:Ys x
 ·have HV:=Ja (mdlFiles_no (repo:=repo) (name:=name) (back:=back) hd);clear hd h2 kb;have HM:=Ja (World.ownsRow_made (base:=w.heap.size) (e:=65) (size:=2) w1 #[] 0 HB.size (by simp[maxLen]) rfl);have HBB:=Ja (HB.alloc HB.size (.cells #[] 65));go_wp2
  go_ret2
  rw[HV.out];exact⟨_,rfl,HM.out,HBB.out⟩
 ·have HV:=Ja (mdlFiles_ok (repo:=repo) (name:=name) (back:=back) hd);have HL:=Ja (jk5 (repo:=repo) (name:=name) (back:=back) hd);clear hd;have u2:=Blk.c2 kb;go_wp2_with fail;refine(Jw repo 0 ((x.Rz.length:Int) - 1) _).mono ?_;rintro e w2 ⟨rfl,hb⟩;replace kb:=kb.step hb;replace h2:=h2.step hb;replace HB:=Below.t HB hb;clear hb;clear e2 u2
  cases hd:inB repo 0 ((x.Rz.length:Int) - 1)
  ·have HV2:=Ja (HV.out.trans (jk3 (name:=name) (back:=back) hd));clear hd h2 kb;have HM:=Ja (World.ownsRow_made (base:=w.heap.size) (e:=65) (size:=2) w2 #[] 0 HB.size (by simp[maxLen]) rfl);have HBB:=Ja (HB.alloc HB.size (.cells #[] 65));go_wp2
   go_ret2
   rw[HV2.out];exact⟨_,rfl,HM.out,HBB.out⟩
  ·obtain⟨hd1,hd2⟩:=jap.1 hd;obtain⟨i,rfl⟩: ∃i:Nat,repo=(i:Int):=⟨repo.toNat,by omega⟩;have hi:i<x.Rz.length:=by omega
   clear hd hd1 hd2;obtain⟨b,o,B0,m0,k0,g0,B1,m1,k1,g1,rfl,hb,hm,q0,q1,q2,hs0,hs1,hsub⟩:=J7 h2 hi;obtain rfl:=hs1.1;have hmx1:=hs1.max;by_cases hneg:back<0
   ·have HV2:=Ja (HV.out.trans (show Xn x (i:Int) name back=none by
      rcases Zu (Xx name) x.Rz[i].Fz with ⟨hn,he⟩|⟨k,hn,hk,he⟩
      ·exact je0 rfl hi hn
      ·exact(jez rfl hi hk hn).trans (jj2 hneg)))
    clear q0 q1 q2 h2 kb hs0 hs1;have HM:=Ja (World.ownsRow_made (base:=w.heap.size) (e:=65) (size:=2) w2 #[] 0 HB.size (by simp[maxLen]) rfl);have HBB:=Ja (HB.alloc HB.size (.cells #[] 65));go_wp2
    go_ret2
    rw[HV2.out];exact⟨_,rfl,HM.out,HBB.out⟩
   ·skip;have u2:=Blk.c2 kb;have i1:(i:Int)<(x.Rz.length:Int):=by omega
    have i0:(0:Int)≤(i:Int):=by omega
    go_wp2_with fail;refine(jbd (x:=x.Rz[i]) name _ ⟨_,_,_,_,_,_,_,_,rfl,rfl,hs0,hs1⟩).mono ?_;rintro e w3 ⟨rfl,hb⟩;replace kb:=kb.step hb;replace hs1:=hs1.step hb;have q2:=Je q2 hb;replace HB:=Below.t HB hb;clear hb u2 q0 q1;rcases Zu (Xx name) x.Rz[i].Fz with ⟨hn,he⟩|⟨k,hn,hk,he⟩
    ·have HV2:=Ja (HV.out.trans (je0 (back:=back) rfl hi hn));rw[he];clear he hn q2 kb hs1;have HM:=Ja (World.ownsRow_made (base:=w.heap.size) (e:=65) (size:=2) w3 #[] 0 HB.size (by simp[maxLen]) rfl);have HBB:=Ja (HB.alloc HB.size (.cells #[] 65));go_wp2
     go_ret2
     rw[HV2.out];exact⟨_,rfl,HM.out,HBB.out⟩
    ·have HV2:=Ja (HV.out.trans (jez (back:=back) rfl hi hk hn));have HV3:=Ja (jez (back:=back) rfl hi hk hn);rw[he];clear he hn;obtain⟨b3,o3,A3,n3,c3,f3,rfl,hb3,hm3,r0,r1,r2,r3,hs3,hsub3⟩:=J3 hs1 hk;obtain rfl:=hs3.1;have hmx3:=hs3.max;have u2:=Blk.c2 kb;have j1:(k:Int)<(x.Rz[i].Fz.length:Int):=by omega
     have j0: ¬(k:Int)<0:=by omega
     have j2:(0:Int)≤(k:Int):=by omega
     clear r0 r1 r2;by_cases hfar:(x.Rz[i].Fz[k].Vz.length:Int)≤back
     ·have HV4:=Ja (HV2.out.trans (ja6 hfar));have HM:=Ja (World.ownsRow_made (base:=w.heap.size) (e:=65) (size:=2) w3 #[] 0 HB.size (by simp[maxLen]) rfl);have HBB:=Ja (HB.alloc HB.size (.cells #[] 65));go_wp2
      go_ret2
      rw[HV4.out];exact⟨_,rfl,HM.out,HBB.out⟩
     ·obtain⟨j,hj⟩: ∃j:Nat,(j:Int)=x.Rz[i].Fz[k].Vz.length - 1 - back:=⟨(x.Rz[i].Fz[k].Vz.length - 1 - back).toNat,by omega⟩;have hjl:j<x.Rz[i].Fz[k].Vz.length:=by omega
      have HVA:=Ja (jaz (vs:=x.Rz[i].Fz[k].Vz) (by omega) hj hjl);obtain⟨b5,o5,A5,n5,c5,f5,rfl,hb5,hm5,t0,hs5,hsub5⟩:=Vv hs3 hjl;have HLN:=Ja (show x.Rz[i].Fz[k].Vz[j].length≤60 by have:=HL.out;rw[HV3.out,HVA.out] at this;exact this);have HV5:=Ja (HV2.out.trans HVA.out);have e1:(x.Rz[i].Fz[k].Vz.length:Int) - 1 - back=(j:Int):=hj.symm
      have t1:(0:Int)≤(j:Int):=by omega
      have t2:(j:Int)<(x.Rz[i].Fz[k].Vz.length:Int):=by omega
      have e2:IntKind.i64.wrap (j:Int)=(j:Int):=IntWalk.i64_in _ (by omega);clear hj;go_wp2_with fail;refine(X6 _ hs5 (Nat.le_trans HLN.out (by decide))).mono ?_;rintro e w4 ⟨v,rfl,hown,hb⟩;have HO:=Ja (Zy hown HB.size);replace HB:=Below.t HB hb;clear hown hb hs5 u2 r3 t0 q2;go_wp2
      go_ret2
      rw[HV5.out];exact⟨_,rfl,HO.out,HB⟩
theorem mdlFiles_some {m:Jl} {repo back:Int} {name:ByteArray} {l:List File} (h:jqz m repo name back=some l):Y1 l=true∧∃i:Nat,repo=(i:Int)∧i<m.Rz.length:=by
 cases hm:Ys m
 ·rw[mdlFiles_no hm] at h;cases h
 ·rw[mdlFiles_ok hm] at h;refine⟨jg3 hm h, ?_⟩;cases hd:inB repo 0 ((m.Rz.length:Int) - 1)
  ·rw[jk3 hd] at h;cases h
  ·obtain⟨h1,h2⟩:=jap.1 hd;exact⟨repo.toNat,by omega,by omega⟩
theorem mdlSees_none {m:Jl} {user repo back:Int} {name:ByteArray} (h:jqz m repo name back=none):mdlSees m user repo name back= []:=by
 unfold mdlSees;rw[h]
theorem mdlSees_some {m:Jl} {user back:Int} {i:Nat} {name:ByteArray} {l:List File} (h:jqz m (i:Int) name back=some l) (hi:i<m.Rz.length):mdlSees m user (i:Int) name back=readable m.Rz[i].Uz user name l:=by
 unfold mdlSees;rw[h,Int.toNat_natCast,J4 hi]
theorem mdlSees_len (m:Jl) (user repo:Int) (name:ByteArray) (back:Int):(mdlSees m user repo name back).length≤60:=by
 cases h:jqz m repo name back with
 |none=>rw[mdlSees_none h];simp
 |some l=>
  obtain⟨h1,i,rfl,hi⟩:=mdlFiles_some h;rw[mdlSees_some h hi];exact Nat.le_trans (List.length_filter_le _ _) (Yo.1 h1).1
theorem implMdlSees_any {cs:List Value} {x:Jl} {fx:List Nat} (user repo:Int) (name:ByteArray) (back:Int) (hb1:back≤9223372036854775807) (w:World) (hx:Rp.house.R w cs x fx) (hf:V9 x):
  Calls Tryz.prog 23 #[.agg cs.toArray,.int .i64 user,.int .i64 repo,.string name,.int .i64 back] w (OwnF 65 2 Jj w (mdlSees x user repo name back)):=by
 have hx0:=hx;obtain⟨A0,n0,c0,f0,A1,n1,c1,f1,A2,n2,c2,f2,rfl,hff,h0,h1,h2⟩:=hx;obtain rfl:=h2.1;have RH:=Ja (fun(W:World) (hb:Below w.heap.size w W)=>Rp.house.below hx0 hb nle);have HF:=Ja hf;clear hx0 h0 h1 hff hf;have kb:=Blk.new w 26 #[.slice A0 n0 c0,.slice A1 n1 c1,.slice A2 x.Rz.length c2];replace h2:=h2.allocN (.cells #[.slice A0 n0 c0,.slice A1 n1 c1,.slice A2 x.Rz.length c2] 26)
 have HB:=(Below.refl w.heap.size w).alloc nle (.cells #[.slice A0 n0 c0,.slice A1 n1 c1,.slice A2 x.Rz.length c2] 26);go_enter Tryz.func23,Tryz.ntmps23;go_wp2_with fail;refine(implMdlFiles_any (x:=x) repo name back hb1 _ (RH.out _ HB) HF.out).mono ?_;rintro e w1 ⟨v,rfl,hown,hb⟩;replace kb:=kb.step hb;replace h2:=h2.step hb;replace HB:=Below.t HB hb;have HSZ:=HB.size;clear hb
 cases hmf:jqz x repo name back with
 |none=>
  have HV:=Ja (mdlSees_none (user:=user) hmf);rw[hmf] at hown;clear hmf;obtain⟨A5,c5,f5,rfl,hs5,_,_,_⟩:=Xw (k:=2) (enc:=Jj) (hk:=fun _=>rfl) (h1:=Vz) hown;clear hown;go_wp2;go_ret;rw[HV.out];exact⟨_,rfl,World.ownsRow_nil _ _ _ _,HB⟩
 |some l=>
  obtain⟨hto,i,rfl,hi2⟩:=mdlFiles_some hmf;have HV:=Ja (mdlSees_some (user:=user) hmf hi2);have HFF:=Ja (jbw hto);have hll:=(Yo.1 hto).1;rw[hmf] at hown;clear hmf hto;obtain⟨A5,c5,f5,rfl,hs5,_,_,_⟩:=Xw (l:=l) (k:=2) (enc:=Jj) (hk:=fun _=>rfl) (h1:=Vz) hown;clear hown;have i1:(i:Int)<(x.Rz.length:Int):=by omega
  have i2:(0:Int)≤(i:Int):=by omega
  have HRU:=Ja (HF.out i hi2).Uz;obtain⟨b,o,B0,m0,k0,g0,B1,m1,k1,g1,rfl,hb,hm,q0,q1,q2,hs0,hs1,hsub⟩:=J7 h2 hi2;have u2:=Blk.c2 kb;go_wp2_with fail;refine(jiq user name _ hs0 hs5 HRU.out HFF.out (by omega)).mono ?_;rintro e w2 ⟨v2,rfl,hown2,hb⟩;have HO:=Ja (Zy hown2 HB.size);replace HB:=Below.t HB hb;clear hown2 hb q0 q1 q2 u2;go_wp2;go_ret;rw[HV.out]
  exact⟨_,rfl,HO.out,HB⟩
theorem specMdlSees_any {cs:List Value} {x:Jl} {fx:List Nat} (user repo:Int) (name:ByteArray) (back:Int) (hb1:back≤9223372036854775807) (w:World) (hx:Rp.house.R w cs x fx) (hf:V9 x):
  Calls Tryz.prog 25 #[.agg cs.toArray,.int .i64 user,.int .i64 repo,.string name,.int .i64 back] w (OwnF 65 2 Jj w (mdlSees x user repo name back)):=by
 have hx0:=hx;obtain⟨A0,n0,c0,f0,A1,n1,c1,f1,A2,n2,c2,f2,rfl,hff,h0,h1,h2⟩:=hx;obtain rfl:=h2.1;have RH:=Ja (fun(W:World) (hb:Below w.heap.size w W)=>Rp.house.below hx0 hb nle);have HF:=Ja hf;clear hx0 h0 h1 hff hf;obtain⟨i0,hi0,hz0,hz1,hz2⟩:=info_parts Xj;have hi:=hi0;have kb:=Blk.new w 26 #[.slice A0 n0 c0,.slice A1 n1 c1,.slice A2 x.Rz.length c2]
 replace h2:=h2.allocN (.cells #[.slice A0 n0 c0,.slice A1 n1 c1,.slice A2 x.Rz.length c2] 26);have HB:=(Below.refl w.heap.size w).alloc nle (.cells #[.slice A0 n0 c0,.slice A1 n1 c1,.slice A2 x.Rz.length c2] 26);go_enter Tryz.func25,Tryz.ntmps25;go_wp2_with fail;refine(specMdlFiles_any (x:=x) repo name back hb1 _ (RH.out _ HB) HF.out).mono ?_;rintro e w1 ⟨v,rfl,hown,hb⟩
 replace kb:=kb.step hb;replace h2:=h2.step hb;replace HB:=Below.t HB hb;have HSZ:=HB.size;clear hb;cases hmf:jqz x repo name back with
 |none=>
  have HV:=Ja (mdlSees_none (user:=user) hmf);rw[hmf] at hown;clear hmf;obtain⟨A5,c5,f5,rfl,hs5,_,_,_⟩:=Xw (k:=2) (enc:=Jj) (hk:=fun _=>rfl) (h1:=Vz) hown;clear hown;have HM:=Ja (World.ownsRow_made (base:=w.heap.size) (e:=65) (size:=2) w1 #[] 0 HB.size (by simp[maxLen]) rfl);have HBB:=Ja (HB.alloc HB.size (.cells #[] 65));clear h2 kb;go_wp2
  go_loopw [13,14] (fun v i wr=>v= .slice (some ⟨w1.heap.size,0,none⟩) 0 0∧i= .int .i64 0∧wr.ownsRow w.heap.size 65 2 v 0 []∧Below w.heap.size w wr) (fun _ _ _=>0)
  case atStart=>exact⟨rfl,rfl,HM.out,HBB.out⟩
  case round=>
   obtain⟨rfl,rfl,hO,hBB⟩:=hrel;have HO:=Ja hO;clear hO;go_wp2;go_ret;rw[HV.out];exact⟨_,rfl,HO.out,hBB⟩
 |some l=>
  obtain⟨hto,i,rfl,hi2⟩:=mdlFiles_some hmf;have HV:=Ja (mdlSees_some (user:=user) hmf hi2);have HFF:=Ja (jbw hto);have hll:=(Yo.1 hto).1;rw[hmf] at hown;clear hmf hto;obtain⟨A5,c5,f5,rfl,hs5,_,_,_⟩:=Xw (l:=l) (k:=2) (enc:=Jj) (hk:=fun _=>rfl) (h1:=Vz) hown;clear hown;have i1:(i:Int)<(x.Rz.length:Int):=by omega
  have i2:(0:Int)≤(i:Int):=by omega
  have HRU:=Ja (HF.out i hi2).Uz;have HM2:=Ja (World.ownsRow_made (base:=w1.heap.size) (e:=65) (size:=2) w1 #[] 0 nle (by simp[maxLen]) rfl);have HBB:=Ja ((Below.refl w1.heap.size w1).alloc nle (.cells #[] 65));go_wp2
  go_loopw [13,14] (fun v iv wr=>∃k:Nat,k≤l.length∧iv= .int .i64 k∧wr.ownsRow w1.heap.size 65 2 v (readable x.Rz[i].Uz user name (l.take k)).length ((readable x.Rz[i].Uz user name (l.take k)).flatMap Jj)∧Below w1.heap.size w1 wr) (fun _ i _=>l.length - (intOf i).toNat)
  case atStart=>exact⟨0,Nat.zero_le _,rfl,HM2.out,HBB.out⟩
  case round=>
   obtain⟨k,hk,rfl,hown,hbl⟩:=hrel;have hsz:=hbl.size;have hle:=jfm x.Rz[i].Uz user name l k;have kr:=kb.step hbl;by_cases hlt:k<l.length
   ·obtain⟨b3,o3,rfl,hb3,hm3,t0,t1⟩:=Jx (hs5.step hbl) hlt;obtain⟨b,o,B0,m0,k0,g0,B1,m1,k1,g1,rfl,hb,hm,q0,q1,q2,hs0,hs1,hsub⟩:=J7 (h2.step hbl) hi2;have u2:=Blk.c2 kr;have HY:=Ja (fun(h:Yz x.Rz[i].Uz user name l[k].path false=true)=>jep hlt h);have HN:=Ja (fun(h:Yz x.Rz[i].Uz user name l[k].path false=false)=>jfl hlt h)
    have HFK:=Ja (HFF.out k hlt);have j1:(k:Int)<(l.length:Int):=by omega
    have j0:(0:Int)≤(k:Int):=by omega
    have HW:=Ja hown;clear hown q0 q2 kr;have C1:=fun W (h:SlR Rp.rule W B0 m0 k0 x.Rz[i].Uz g0)=>Wu user name l[k].path false W h HRU.out HFK.out;cases hd:Yz x.Rz[i].Uz user name l[k].path false
    ·have HE:=Ja (HN.out hd);simp only[hd] at C1;have D1:=Ja C1;clear C1 hd;go_wp2_with fail;have n0:=BelowW.nonempty wr;have e0:=BelowW.ex (w:=wr);have g_0:=bwc u2;have g_1:=bwc q1;have g_2:=bwc t0;clear u2 q1 t0;refine Jf (by kernel_rfl) (by kernel_rfl) ?_
     repeat(go_big_quiet_step(first|(go_at_call 73;exact BelowW.calls _ (D1.out _ (BelowW.sl _ hs0)))))
     refine wpQuiet_nil ?_;rintro _ ⟨⟨w4,hb4⟩,rfl⟩;have hbl':=Below.t hbl hb4;have hown1:=Yx HW.out hb4;have HO:=Ja hown1;clear hb4 e0 g_0 g_1 g_2 HW hown1 t1;go_wp2;refine⟨⟨k+1,by omega,by go_num, ?_,hbl'⟩,by simp[intOf];omega⟩;rw[HE.out];exact HO.out
    ·have HE:=Ja (HY.out hd);simp only[hd] at C1;have D1:=Ja C1;clear C1 hd;go_wp2_with fail;have n0:=BelowW.nonempty wr;have e0:=BelowW.ex (w:=wr);have g_0:=bwc u2;have g_1:=bwc q1;have g_2:=bwc t0;clear u2 q1;refine Jf (by kernel_rfl) (by kernel_rfl) ?_
     repeat(go_big_quiet_step(first|(go_at_call 73;exact BelowW.calls _ (D1.out _ (BelowW.sl _ hs0)))))
     refine wpQuiet_nil ?_;rintro _ ⟨⟨w4,hb4⟩,rfl⟩;have hbl':=Below.t hbl hb4;have hown1:=Yx HW.out hb4;have v0:=Je t0 hb4;have v1:=Je t1 hb4;have hsz4:=hbl'.size;clear hb4 e0 g_0 g_1 g_2 t0 t1 HW
     go_wp2_with(at_builtin;refine wpList_append_own _ rfl _ _ 34 rfl w1.heap.size 65 i0 _ 2 32 Tryz.underlying34 hi hz0 hz1 hz2 rfl (by decide) _ _ _ rfl (hown1.alloc _) ⟨_,0,none⟩ 1 1 (Jj l[k]) rfl rfl (Jm _ (Jj l[k]) _) (Rp.file.one (w:=w1) ⟨rfl,rfl⟩) (by unfold maxLen;omega) (by omega) (by simp;omega) ?_);intro v' w5 hown' hgrow _;have HO:=Ja hown'
     have HB5:=Ja ((hbl'.alloc hbl'.size _).grown hgrow (by simp;omega) (fun j hj=>(hown1.lt j hj).1));clear hown' hgrow hown1 hbl' v0 v1;go_wp2;refine⟨⟨k+1,by omega,by go_num, ?_,HB5.out⟩,by simp[intOf];omega⟩;rw[HE.out,List.length_append,List.flatMap_append,List.flatMap_singleton];exact HO.out
   ·have hk':k=l.length:=by omega
    subst hk';rw[List.take_of_length_le nle] at hown;have HO:=Ja (Zy hown HB.size);have HB5:=Ja (HB.trans (hbl.mono HB.size));clear hown;go_wp2;go_ret;rw[HV.out];exact⟨_,rfl,HO.out,HB5.out⟩
def DrawnF (w:World) (e:Ending) (w':World):Prop:=
 ∃m repo ref back A0 n0 c0 A1 n1 c1 A2 n2 c2 f,e= .returned (.tuple #[.agg #[.slice A0 n0 c0,.slice A1 n1 c1,.slice A2 n2 c2],.int .i64 repo,.string ref,.int .i64 back])∧Rp.house.R w' [.slice A0 n0 c0,.slice A1 n1 c1,.slice A2 n2 c2] m f∧(∀z∈f,w.heap.size≤z)∧V9 m∧back≤9223372036854775807∧Below w.heap.size w w'
structure DF (w0:World) (g P M:Nat) (m:Jl) (vK vU vR:Value) (f:List Nat) (w:World):Prop where
 rd:Rd w g P
 on:Below w0.heap.size w0 w
 k0:Blk w w0.heap.size 26 H0
 km:Blk w M 26 #[vK,vU,vR]
 R:Rp.house.R w [vK,vU,vR] m f
 fit:V9 m
 lf: ∀z∈f,g<z∧z≠M
 gl:w0.heap.size<g
 ml:g<M
section
variable {w0 w w':World} {g P P' M:Nat} {m:Jl} {vK vU vR:Value} {f:List Nat}
theorem DF.only (h:DF w0 g P M m vK vU vR f w) (ho:Only [g] w w') (hr:Rd w' g P'):DF w0 g P' M m vK vU vR f w':=
 have h1:=h.gl;have h2:=h.ml
 ⟨hr,h.on.trans (ho.below (by simp;omega) h.on.size),h.k0.only ho (by simp;omega),h.km.only ho (by simp;omega),Rp.house.keep h.R fun z hz=>ho.block z (Rp.house.lt h.R z hz) (by have:=h.lf z hz;simp only[List.mem_singleton];omega),h.fit,h.lf,h1,h2⟩
theorem DF.mono (h:DF w0 g P M m vK vU vR f w) (hp:P≤P'):DF w0 g P' M m vK vU vR f w:=⟨h.rd.mono hp,h.on,h.k0,h.km,h.R,h.fit,h.lf,h.gl,h.ml⟩
end
theorem DF.put {w0 w:World} {g P M:Nat} {m x:Jl} {vK vU vR a0 a1 a2:Value} {f f':List Nat} (h:DF w0 g P M m vK vU vR f w) (hR:Rp.house.R w [a0,a1,a2] x f') (ho:V9 x) (hl: ∀z∈f',g<z∧z≠M):
  DF w0 g P M x a0 a1 a2 f' (((w.setCell ⟨M,0,none⟩ a0).setCell ⟨M,1,none⟩ a1).setCell ⟨M,2,none⟩ a2):=by
 have h1:=h.gl;have h2:=h.ml;have hO:Only [M] w (((w.setCell ⟨M,0,none⟩ a0).setCell ⟨M,1,none⟩ a1).setCell ⟨M,2,none⟩ a2):=(((Only.refl [M] w).setCell (p:=⟨M,0,none⟩) (.inl (by simp)) a0).setCell (p:=⟨M,1,none⟩) (.inl (by simp)) a1).setCell (p:=⟨M,2,none⟩) (.inl (by simp)) a2;have k0:Blk _ M 26 #[a0,vU,vR]:=Jd (i:=0) h.km a0
 have k1:Blk _ M 26 #[a0,a1,vR]:=Jd (i:=1) k0 a1;exact⟨h.rd.only (f:=[M]) hO (by simp;omega),h.on.trans (hO.below (by simp;omega) h.on.size),h.k0.only hO (by simp;omega),Jd (i:=2) k1 a2,Rp.house.keep hR fun z hz=>hO.block z (Rp.house.lt hR z hz) (by simpa using(hl z hz).2),ho,hl,h1,h2⟩
def cnt (L:Array Bool):Nat:=L.toList.count true
theorem cnt_le (L:Array Bool):cnt L≤L.size:=List.count_le_length
theorem count_set: ∀(l:List Bool) (i:Nat),i<l.length→l.getD i false=false→(l.set i true).count true=l.count true+1
 | [],i,h,_=>absurd h (Nat.not_lt_zero _)
 |b::l,0,_,h=>by
  have hb:b=false:=h;subst hb;simp
 |b::l,i+1,h,h'=>by
  have:=count_set l i (by simpa using h) (by simpa using h');rw[List.set_cons_succ,List.count_cons,List.count_cons,this];omega
theorem cnt_set {L:Array Bool} {i:Nat} (h:i<L.size) (h':L.getD i false=false):cnt (L.setIfInBounds i true)=cnt L+1:=by
 unfold cnt;rw[Array.toList_setIfInBounds];refine count_set _ _ (by simpa using h) ?_;rw[List.getD_eq_getElem?_getD,Array.getElem?_toList,←Array.getD_eq_getD_getElem?];exact h'
theorem setD_self' {L:Array Bool} {i:Nat} (h:i<L.size):(L.setIfInBounds i true).getD i false=true:=by simp[h]
def PI (u:Value):Prop:=∃z:Int,u= .int .i64 z∧z≤9223372036854775807
def PS (u:Value):Prop:=∃s:ByteArray,u= .string s
def LitS (G:List Nat) (n:Nat) (Pu:Value→Prop) (v:Value) (w:World):Prop:=∃b vs t,v= .slice (some ⟨b,0,none⟩) n n∧b∉G∧Blk w b t vs∧∀x,x<n→∃u,vs[x]? =some u∧Pu u
def LitC (G:List Nat) (Pu:Value→Prop) (v:Value) (w:World):Prop:=∃b x u,v= .pointer (some ⟨b,x,none⟩)∧b∉G∧b<w.heap.size∧w.cell? ⟨b,x,none⟩=some u∧Pu u
theorem LitS.only {G:List Nat} {n:Nat} {Pu:Value→Prop} {v:Value} {w w':World} (h:LitS G n Pu v w) (ho:Only G w w'):LitS G n Pu v w':=by
 obtain⟨b,vs,t,h1,h2,h3,h4⟩:=h;exact⟨b,vs,t,h1,h2,h3.only ho h2,h4⟩
theorem LitC.only {G:List Nat} {Pu:Value→Prop} {v:Value} {w w':World} (h:LitC G Pu v w) (ho:Only G w w'):LitC G Pu v w':=by
 obtain⟨b,x,u,h1,h2,h3,h4,h5⟩:=h;refine⟨b,x,u,h1,h2,Nat.lt_of_lt_of_le h3 ho.size, ?_,h5⟩;rw[World.cell?_of_block (a:=⟨b,x,none⟩) (ho.block b h3 h2)];exact h4
theorem LitS.at {G:List Nat} {n:Nat} {Pu:Value→Prop} {b:Nat} {vs:Array Value} {t:TypeId} {w:World} (h2:b∉G) (h3:Blk w b t vs) (h4: ∀x,x<n→∃u,vs[x]? =some u∧Pu u) {x:Nat} (hx:x<n):LitC G Pu (.pointer (some ⟨b,x,none⟩)) w:=by
 obtain⟨u,h5,h6⟩:=h4 x hx;exact⟨b,x,u,rfl,h2,h3.lt,(h3.cell x).trans h5,h6⟩
theorem lit5i: ∀x,x<5→∃u,(#[.int .i64 0,.int .i64 0,.int .i64 1,.int .i64 2,.int .i64 (-1)]:Array Value)[x]? =some u∧PI u
 | 0,_=>⟨_,rfl,0,rfl,by decide⟩
 | 1,_=>⟨_,rfl,0,rfl,by decide⟩
 | 2,_=>⟨_,rfl,1,rfl,by decide⟩
 | 3,_=>⟨_,rfl,2,rfl,by decide⟩
 | 4,_=>⟨_,rfl, -1,rfl,by decide⟩
 |n+5,h=>absurd h (by omega)
theorem lit5s: ∀x,x<5→∃u,(#[.string ⟨#[97]⟩,.string ⟨#[97]⟩,.string ⟨#[98]⟩,.string ⟨#[99]⟩,.string ⟨#[]⟩]:Array Value)[x]? =some u∧PS u
 | 0,_=>⟨_,rfl,_,rfl⟩
 | 1,_=>⟨_,rfl,_,rfl⟩
 | 2,_=>⟨_,rfl,_,rfl⟩
 | 3,_=>⟨_,rfl,_,rfl⟩
 | 4,_=>⟨_,rfl,_,rfl⟩
 |n+5,h=>absurd h (by omega)
theorem lit6i: ∀x,x<6→∃u,(#[.int .i64 0,.int .i64 0,.int .i64 1,.int .i64 2,.int .i64 3,.int .i64 (-1)]:Array Value)[x]? =some u∧PI u
 | 0,_=>⟨_,rfl,0,rfl,by decide⟩
 | 1,_=>⟨_,rfl,0,rfl,by decide⟩
 | 2,_=>⟨_,rfl,1,rfl,by decide⟩
 | 3,_=>⟨_,rfl,2,rfl,by decide⟩
 | 4,_=>⟨_,rfl,3,rfl,by decide⟩
 | 5,_=>⟨_,rfl, -1,rfl,by decide⟩
 |n+6,h=>absurd h (by omega)
def dfΓ (g B M:Nat) (hc:Array Value):Xr:=fun s v w=>match s with
 | 2=>v= .pointer (some ⟨B,0,none⟩)
 | 6=>v= .pointer (some ⟨g,0,none⟩)
 | 7=>v= .pointer (some ⟨M,0,none⟩)
 | 18=>v= .agg hc
 | 19=>LitS [g,B] 5 PI v w
 | 20=>v= .pointer (some ⟨g,0,none⟩)
 | 21=>jcn 5 v
 | 22=>LitC [g,B] PI v w
 | 23=>PI v
 | 24=>LitS [g,B] 5 PS v w
 | 25=>v= .pointer (some ⟨g,0,none⟩)
 | 26=>jcn 5 v
 | 27=>LitC [g,B] PS v w
 | 28=>PS v
 | 29=>LitS [g,B] 6 PI v w
 | 30=>v= .pointer (some ⟨g,0,none⟩)
 | 31=>jcn 6 v
 | 32=>LitC [g,B] PI v w
 | 33=>PI v
 | 3=>PI v
 | 4=>PS v
 | 5=>PI v
 |_=>True
theorem dfΓ_stays (g B M:Nat) (hc:Array Value):Zx (Only [g,B]) (dfΓ g B M hc):=fun s v w w' h ho=>by
 unfold dfΓ at*;split at h<;>first|exact h|exact LitS.only h ho|exact LitC.only h ho
structure dfC (w0:World) (g B P:Nat) (hc:Array Value) (L:Array Bool) (w:World):Prop where
 rd:L.getD 16 false=false→∃k,k≤cnt L∧Rd w g (P+k)
 on:Only [g,B] w0 w
 be:L.getD 16 false=false→Blk w B 26 H0
 af:L.getD 16 false=true→Blk w B 26 hc
 o1:L.getD 16 false=true→L.getD 13 false=true
 o2:L.getD 13 false=true→L.getD 8 false=true
 o3:L.getD 8 false=true→L.getD 3 false=true
section
variable {w0 w w':World} {g B P:Nat} {hc:Array Value} {L:Array Bool}
theorem gdn (L:Array Bool) {i j:Nat} (h:i≠j):(L.setIfInBounds i true).getD j false=L.getD j false:=by simp[Array.getD_eq_getD_getElem?,Array.getElem?_setIfInBounds_ne h]
theorem dfC.pure (h:dfC w0 g B P hc L w) (i:Nat) (hi:i≠16∧i≠13∧i≠8∧i≠3) (hL:L.size=20) (hs:i<20) (hl:L.getD i false=false):dfC w0 g B P hc (L.setIfInBounds i true) w:=by
 constructor
 all_goals
  try rw[gdn L hi.1]
  try rw[gdn L hi.2.1]
  try rw[gdn L hi.2.2.1]
  try rw[gdn L hi.2.2.2]
 ·rw[cnt_set (by omega) hl];exact fun h0=>(h.rd h0).imp fun k hk=>⟨by omega,hk.2⟩
 ·exact h.on
 ·exact h.be
 ·exact h.af
 ·exact h.o1
 ·exact h.o2
 ·exact h.o3
theorem dfC.only (h:dfC w0 g B P hc L w) (hb:Below w.heap.size w w'):dfC w0 g B P hc L w':=
 ⟨fun h0=>(h.rd h0).imp fun k hk=>⟨hk.1,hk.2.step hb⟩,h.on.trans (Only.of_below hb _),fun h0=>(h.be h0).step hb,fun h0=>(h.af h0).step hb,h.o1,h.o2,h.o3⟩
theorem dfC.no16 (h:dfC w0 g B P hc L w) {i:Nat} (hl:L.getD i false=false) (hp:i=3∨i=8∨i=13):L.getD 16 false=false:=by
 cases e:L.getD 16 false with
 |false=>rfl
 |true=>
  have e13:=h.o1 e;have e8:=h.o2 e13;have e3:=h.o3 e8;rcases hp with rfl|rfl|rfl
  ·rw[e3] at hl;cases hl
  ·rw[e8] at hl;cases hl
  ·rw[e13] at hl;cases hl
theorem dfC.pick (h:dfC w0 g B P hc L w) (i:Nat) (hL:L.size=20) (hl:L.getD i false=false) (hp:i=3∨(i=8∧L.getD 3 false=true)∨(i=13∧L.getD 8 false=true)) {k:Nat} (hk:k≤cnt L) (hr:Rd w' g (P+k+1)) (ho:Only [g] w w') (hne:g≠B):dfC w0 g B P hc (L.setIfInBounds i true) w':=by
 have hi:i=3∨i=8∨i=13:=by omega
 have n16:=h.no16 hl hi;have hne16:i≠16:=by omega
 have hB:B∉ [g]:=by simp;omega
 have ho':Only [g,B] w w':=ho.mono (by simp);have hc':=cnt_set (L:=L) (i:=i) (by omega) hl;constructor
 ·rw[hc'];exact fun _=>⟨k+1,by omega,hr⟩
 ·exact h.on.trans ho'
 ·exact fun _=>(h.be n16).only ho hB
 ·rw[gdn L hne16,n16];exact fun e=>by cases e
 ·rw[gdn L hne16,n16];exact fun e=>by cases e
 ·rcases hp with rfl|⟨rfl,e⟩|⟨rfl,e⟩
  ·rw[gdn L (show 3≠13 by decide),gdn L (show 3≠8 by decide)];exact h.o2
  ·exact fun _=>setD_self' (by omega)
  ·rw[gdn L (show 13≠8 by decide)];exact fun _=>e
 ·rcases hp with rfl|⟨rfl,e⟩|⟨rfl,e⟩
  ·exact fun _=>setD_self' (by omega)
  ·rw[gdn L (show 8≠3 by decide)];exact fun _=>e
  ·rw[gdn L (show 13≠8 by decide),gdn L (show 13≠3 by decide)];exact h.o3
theorem dfC.hit (h:dfC w0 g B P hc L w) (hL:L.size=20) (h13:L.getD 13 false=true) (ho:Only [g,B] w w') (hb:Blk w' B 26 hc):dfC w0 g B P hc (L.setIfInBounds 16 true) w':=by
 have e:(L.setIfInBounds 16 true).getD 16 false=true:=setD_self' (by omega);constructor
 ·rw[e];exact fun e=>by cases e
 ·exact h.on.trans ho
 ·rw[e];exact fun e=>by cases e
 ·exact fun _=>hb
 ·rw[gdn L (show 16≠13 by decide)];exact fun _=>h13
 ·rw[gdn L (show 16≠13 by decide),gdn L (show 16≠8 by decide)];exact h.o2
 ·rw[gdn L (show 16≠8 by decide),gdn L (show 16≠3 by decide)];exact h.o3
end
theorem drawMdlFiles_any {A:Option Addr} {n c:Nat} {l:List UInt8} {fp:List Nat} (w:World) (hx:SlR Rp.byte w A n c l fp):
  Calls Tryz.prog 69 #[.slice A n c] w (DrawnF w):=by
 have k0:=Blk.new w 26 H0;have hb:=(Below.refl w.heap.size w).alloc nle (.cells H0 26);have hx1:=hx.allocN (.cells H0 26);have hsz:(w.alloc (.cells H0 26)).heap.size=w.heap.size+1:=by simp
 go_enter Tryz.func69,Tryz.ntmps69;go_upto_region 1 with fail
 generalize hw1:w.alloc (.cells H0 26)=w1 at k0 hb hsz hx1 ⊢;clear hw1 hx;go_wp2_with fail;refine(jkv _ hx1).mono ?_;rintro e w2 ⟨g,rfl,hg,hr,hb2⟩;replace k0:=k0.step hb2;replace hb:=Below.t hb hb2;clear hb2 hx1;go_wp2_with fail;refine(ji8 g 0 (by omega) _ hr).mono ?_;rintro e w3 ⟨m,cs,f,rfl,hR,hl,hown,hinv,hr3,ho3⟩;have hgl:=hr.lt
 obtain⟨A0,n0,c0,f0,A1,n1,c1,f1,A2,n2,c2,f2,rfl,hff, -, -,hrs⟩:=id hR;obtain rfl:=hrs.1;replace k0:=k0.only ho3 (by simp;omega);replace hb:=hb.trans (ho3.below (B:=w.heap.size) (by simp;omega) hb.size);have hs3:=ho3.size;clear hr ho3;have km:=Blk.new w3 26 #[.slice A0 n0 c0,.slice A1 n1 c1,.slice A2 m.Rz.length c2]
 have hA:=(Below.refl w3.heap.size w3).alloc nle (.cells #[.slice A0 n0 c0,.slice A1 n1 c1,.slice A2 m.Rz.length c2] 26);have hlt:=Rp.house.lt hR;have H6:DF w g (0+100000) w3.heap.size m (.slice A0 n0 c0) (.slice A1 n1 c1) (.slice A2 m.Rz.length c2) f (w3.alloc (.cells #[.slice A0 n0 c0,.slice A1 n1 c1,.slice A2 m.Rz.length c2] 26)):=
  ⟨hr3.step hA,Below.t hb hA,k0.step hA,km,Rp.house.below hR hA nle,hinv.fit,fun z hz=>by have:=hl z hz;have:=hlt z hz;omega,by omega,by omega⟩
 have HH:=Ja H6;have HI:=Ja hinv;clear H6 hinv hA km k0 hb hR hl hown hr3 hlt hff hrs;go_upto_region 3 with fail
 generalize w3.alloc (.cells #[.slice A0 n0 c0,.slice A1 n1 c1,.slice A2 m.Rz.length c2] 26)=w6 at HH ⊢;have H:=HH.out;clear HH;generalize w3.heap.size=M at H hs3 ⊢;clear hs3;go_wp2_with fail;refine(Jk g _ 16 (by omega) (by omega) _ H.rd).mono ?_;rintro e w7 ⟨x,rfl,hx,hr,ho⟩;replace H:=H.only ho hr;clear hx hr ho;go_upto_if 14 with fail
 go_cut [] from 14 to 17 (fun wx=>∃m a0 n0 c0 a1 n1 c1 a2 n2 c2 f,DF w g 200000 M m (.slice a0 n0 c0) (.slice a1 n1 c1) (.slice a2 n2 c2) f wx)
 case first=>
  have x0:=Blk.c0 H.km;have x1:=Blk.c1 H.km;have x2:=Blk.c2 H.km;have HD:=Ja (H.mono (show _≤200000 by omega));cases hd:((x:Int)==0)
  ·clear H x0 x1 x2;go_wp2_with fail;go_meet
   case rel=>exact⟨_,_,_,_,_,_,_,_,_,_,_,HD.out⟩
  ·go_wp2_with fail;refine(jfs (cs:=[.slice A0 n0 c0,.slice A1 n1 c1,.slice A2 m.Rz.length c2]) g _ (by omega) _ H.rd H.R HI.out).mono ?_;rintro e w8 ⟨x,cs,f',rfl,hR,hl,hfit,hok,hr,ho⟩;obtain⟨B0,k0,d0,e0,B1,k1,d1,e1,B2,k2,d2,e2,rfl, -⟩:=id hR;have hM:=H.ml;have hgl:=H.rd.lt;have hkm:=H.km.lt;have H8:=H.only ho hr;have HP:=Ja (H8.put hR hfit (fun z hz=>by have:=hl z hz;omega))
   have x0:=Blk.c0 H8.km;have x1:=Blk.c1 H8.km;have x2:=Blk.c2 H8.km;have y0:=Ji H8.km 0;have y1:=Ji H8.km 1;have y2:=Ji H8.km 2;clear H H8 hR hl hok hr ho HD;go_wp2_with fail;go_meet
   case rel=>exact⟨_,_,_,_,_,_,_,_,_,_,_,HP.out.mono (by omega)⟩
 case rest=>
  obtain⟨w8,hw8⟩: ∃w8,w8=wc:=⟨_,rfl⟩;subst hw8;clear H HI;obtain⟨m,A0,n0,c0,A1,n1,c1,A2,n2,c2,f,H⟩:=hcut;go_upto_region 5 with fail
  have h1:=H.gl;have h2:=H.ml;have HB0:=Ja h1;have hgB:g≠w.heap.size:=by omega
  go_cut [3,4,5] from 18 to 33 (fun v3 v4 v5 wx=>PI v3∧PS v4∧PI v5∧Only [g,w.heap.size] w8 wx∧Blk wx w.heap.size 26 #[.slice A0 n0 c0,.slice A1 n1 c1,.slice A2 n2 c2])
  case first=>
   refine jbp _ (fun L _ w'=>dfC w8 g w.heap.size 200000 #[.slice A0 n0 c0,.slice A1 n1 c1,.slice A2 n2 c2] L w') (Only [g,w.heap.size]) (dfΓ g w.heap.size M #[.slice A0 n0 c0,.slice A1 n1 c1,.slice A2 n2 c2]) (by kernel_rfl) (by kernel_rfl) (dfΓ_stays _ _ _ _) (Only.refl _) ⟨⟨fun _=>⟨0,Nat.zero_le _,H.rd.step (Below.refl _ _).drew⟩,Only.of_below (Below.refl _ _).drew _,fun _=>H.k0.step (Below.refl _ _).drew,fun h=>(by cases h),fun h=>(by cases h),fun h=>(by cases h),fun h=>(by cases h)⟩,fun s hs=> ?_,by rfl⟩ ?_ ?_
   ·skip;by_cases e2:s=2
    ·subst e2;rfl
    by_cases e6:s=6
    ·subst e6;rfl
    by_cases e7:s=7
    ·subst e7;rfl
    have hne:s∉ [18,19,20,21,22,23,24,25,26,27,28,29,30,31,32,33,3,4,5]:=fun hm=>by
     simp only[List.mem_cons,List.not_mem_nil,or_false] at hm;rcases hm with rfl|rfl|rfl|rfl|rfl|rfl|rfl|rfl|rfl|rfl|rfl|rfl|rfl|rfl|rfl|rfl|rfl|rfl|rfl<;>exact absurd hs (by decide)
    simp only[List.mem_cons,List.not_mem_nil,or_false,not_or] at hne;unfold dfΓ;split<;>first|trivial|(exfalso;omega)
   ·intro i p hi hp;replace hi:i<20:=hi;have hcases:i=0∨i=1∨i=2∨i=3∨i=4∨i=5∨i=6∨i=7∨i=8∨i=9∨i=10∨i=11∨i=12∨i=13∨i=14∨i=15∨i=16∨i=17∨i=18∨i=19:=by omega
    rcases hcases with rfl|rfl|rfl|rfl|rfl|rfl|rfl|rfl|rfl|rfl|rfl|rfl|rfl|rfl|rfl|rfl|rfl|rfl|rfl|rfl
    all_goals(obtain rfl:=Option.some.inj hp)
    ·intro L a w' hL hl hall hC hR;have r7:_=_:=hR 7 (by decide);have km:=(H.km.only hC.on (by have:=HB0.out;simp;omega));have x0:=Blk.c0 km;have x1:=Blk.c1 km;have x2:=Blk.c2 km;simp[Region.wanted,Jg,go_sem,execOp,r7,x0,x1,x2,upT];exact⟨Only.refl _ _,rfl,hC.pure 0 (by decide) hL (by decide) hl⟩
    ·intro L a w' hL hl hall hC hR;simp[Region.wanted,Jg,go_sem,execOp,upT];have hb:=(Below.refl w'.heap.size w').alloc nle;have hz:w'.heap.size∉ [g,w.heap.size]:=by have:=(H.k0.lt);have:=hC.on.size;have:=H.rd.lt;simp;omega
     exact⟨Only.of_below (hb _) _,⟨_,_,_,rfl,hz,Blk.new _ _ _,lit5i⟩,(hC.only (hb _)).pure 1 (by decide) hL (by decide) hl⟩
    ·intro L a w' hL hl hall hC hR;have r6:_=_:=hR 6 (by decide);simp[Region.wanted,Jg,go_sem,execOp,r6,upT];exact⟨Only.refl _ _,rfl,hC.pure 2 (by decide) hL (by decide) hl⟩
    ·intro L a w' hL hl hall hC hR;have r20:_=_:=hR 20 (by decide);obtain⟨k,hk,hr⟩:=hC.rd (hC.no16 hl (by decide));have hk':=cnt_le L;replace hL:L.size=20:=hL;simp[Region.wanted,Jg,go_sem,execOp,r20,upT];refine(Jk g (200000+k) 5 (by omega) (by omega) _ hr).mono ?_;rintro e w1 ⟨x,rfl,hx,hr,ho⟩;exact⟨_,rfl,ho.mono (by simp),⟨x,rfl,by omega⟩,hC.pick 3 hL hl (.inl rfl) hk hr ho hgB⟩
    ·intro L a w' hL hl hall hC hR;obtain⟨b,vs,t,r19,hb,hB,hv⟩:LitS _ _ _ _ _:=hR 19 (by decide);obtain⟨x,r21,hx⟩:jcn 5 _:=hR 21 (by decide);have x0:(x:Int)<5:=by omega
     simp[Region.wanted,Jg,go_sem,execOp,r19,r21,x0,upT];exact⟨Only.refl _ _,LitS.at hb hB hv hx,hC.pure 4 (by decide) hL (by decide) hl⟩
    ·intro L a w' hL hl hall hC hR;obtain⟨b,x,u,r22,hb,hlt,hc,hu⟩:LitC _ _ _ _:=hR 22 (by decide);simp[Region.wanted,Jg,go_sem,execOp,r22,hc,upT];exact⟨Only.refl _ _,hu,hC.pure 5 (by decide) hL (by decide) hl⟩
    ·intro L a w' hL hl hall hC hR;simp[Region.wanted,Jg,go_sem,execOp,upT];have hb:=(Below.refl w'.heap.size w').alloc nle;have hz:w'.heap.size∉ [g,w.heap.size]:=by have:=(H.k0.lt);have:=hC.on.size;have:=H.rd.lt;simp;omega
     exact⟨Only.of_below (hb _) _,⟨_,_,_,rfl,hz,Blk.new _ _ _,lit5s⟩,(hC.only (hb _)).pure 6 (by decide) hL (by decide) hl⟩
    ·intro L a w' hL hl hall hC hR;have r6:_=_:=hR 6 (by decide);simp[Region.wanted,Jg,go_sem,execOp,r6,upT];exact⟨Only.refl _ _,rfl,hC.pure 7 (by decide) hL (by decide) hl⟩
    ·intro L a w' hL hl hall hC hR;have r25:_=_:=hR 25 (by decide);obtain⟨k,hk,hr⟩:=hC.rd (hC.no16 hl (by decide));have hk':=cnt_le L;replace hL:L.size=20:=hL;simp[Region.wanted,Jg,go_sem,execOp,r25,upT];refine(Jk g (200000+k) 5 (by omega) (by omega) _ hr).mono ?_;rintro e w1 ⟨x,rfl,hx,hr,ho⟩
     exact⟨_,rfl,ho.mono (by simp),⟨x,rfl,by omega⟩,hC.pick 8 hL hl (.inr (.inl ⟨rfl,hall ⟨3,.chain⟩ (by simp) (by decide)⟩)) hk hr ho hgB⟩
    ·intro L a w' hL hl hall hC hR;obtain⟨b,vs,t,r24,hb,hB,hv⟩:LitS _ _ _ _ _:=hR 24 (by decide);obtain⟨x,r26,hx⟩:jcn 5 _:=hR 26 (by decide);have x0:(x:Int)<5:=by omega
     simp[Region.wanted,Jg,go_sem,execOp,r24,r26,x0,upT];exact⟨Only.refl _ _,LitS.at hb hB hv hx,hC.pure 9 (by decide) hL (by decide) hl⟩
    ·intro L a w' hL hl hall hC hR;obtain⟨b,x,u,r27,hb,hlt,hc,hu⟩:LitC _ _ _ _:=hR 27 (by decide);simp[Region.wanted,Jg,go_sem,execOp,r27,hc,upT];exact⟨Only.refl _ _,hu,hC.pure 10 (by decide) hL (by decide) hl⟩
    ·intro L a w' hL hl hall hC hR;simp[Region.wanted,Jg,go_sem,execOp,upT];have hb:=(Below.refl w'.heap.size w').alloc nle;have hz:w'.heap.size∉ [g,w.heap.size]:=by have:=(H.k0.lt);have:=hC.on.size;have:=H.rd.lt;simp;omega
     exact⟨Only.of_below (hb _) _,⟨_,_,_,rfl,hz,Blk.new _ _ _,lit6i⟩,(hC.only (hb _)).pure 11 (by decide) hL (by decide) hl⟩
    ·intro L a w' hL hl hall hC hR;have r6:_=_:=hR 6 (by decide);simp[Region.wanted,Jg,go_sem,execOp,r6,upT];exact⟨Only.refl _ _,rfl,hC.pure 12 (by decide) hL (by decide) hl⟩
    ·intro L a w' hL hl hall hC hR;have r30:_=_:=hR 30 (by decide);obtain⟨k,hk,hr⟩:=hC.rd (hC.no16 hl (by decide));have hk':=cnt_le L;replace hL:L.size=20:=hL;simp[Region.wanted,Jg,go_sem,execOp,r30,upT];refine(Jk g (200000+k) 6 (by omega) (by omega) _ hr).mono ?_;rintro e w1 ⟨x,rfl,hx,hr,ho⟩
     exact⟨_,rfl,ho.mono (by simp),⟨x,rfl,by omega⟩,hC.pick 13 hL hl (.inr (.inr ⟨rfl,hall ⟨8,.chain⟩ (by simp) (by decide)⟩)) hk hr ho hgB⟩
    ·intro L a w' hL hl hall hC hR;obtain⟨b,vs,t,r29,hb,hB,hv⟩:LitS _ _ _ _ _:=hR 29 (by decide);obtain⟨x,r31,hx⟩:jcn 6 _:=hR 31 (by decide);have x0:(x:Int)<6:=by omega
     simp[Region.wanted,Jg,go_sem,execOp,r29,r31,x0,upT];exact⟨Only.refl _ _,LitS.at hb hB hv hx,hC.pure 14 (by decide) hL (by decide) hl⟩
    ·intro L a w' hL hl hall hC hR;obtain⟨b,x,u,r32,hb,hlt,hc,hu⟩:LitC _ _ _ _:=hR 32 (by decide);simp[Region.wanted,Jg,go_sem,execOp,r32,hc,upT];exact⟨Only.refl _ _,hu,hC.pure 15 (by decide) hL (by decide) hl⟩
    ·intro L a w' hL hl hall hC hR;have r2:_=_:=hR 2 (by decide);have r18:_=_:=hR 18 (by decide);have kz:=hC.be hl;have x0:=Blk.c0 kz;have x1:=Blk.c1 kz;have x2:=Blk.c2 kz;have y0:=Ji kz 0;have y1:=Ji kz 1;have y2:=Ji kz 2;have j0:Blk _ w.heap.size 26 #[.slice A0 n0 c0,.slice none 0 0,.slice none 0 0]:=Jd (i:=0) kz (.slice A0 n0 c0)
     have j1:Blk _ w.heap.size 26 #[.slice A0 n0 c0,.slice A1 n1 c1,.slice none 0 0]:=Jd (i:=1) j0 (.slice A1 n1 c1);have j2:Blk _ w.heap.size 26 #[.slice A0 n0 c0,.slice A1 n1 c1,.slice A2 n2 c2]:=Jd (i:=2) j1 (.slice A2 n2 c2)
     have hO3:Only [g,w.heap.size] w' _:=(((Only.refl [g,w.heap.size] w').setCell (p:=⟨w.heap.size,0,none⟩) (.inl (by simp)) (.slice A0 n0 c0)).setCell (p:=⟨w.heap.size,1,none⟩) (.inl (by simp)) (.slice A1 n1 c1)).setCell (p:=⟨w.heap.size,2,none⟩) (.inl (by simp)) (.slice A2 n2 c2);simp[Region.wanted,Jg,go_sem,execOp,r2,r18,x0,x1,x2,y0,y1,y2,upT];replace hL:L.size=20:=hL
     exact⟨hO3,hC.hit hL (hall ⟨13,.chain⟩ (by simp) (by decide)) hO3 j2⟩
    ·intro L a w' hL hl hall hC hR;obtain⟨z,r23,hz⟩:PI _:=hR 23 (by decide);simp[Region.wanted,Jg,go_sem,execOp,r23,upT];exact⟨Only.refl _ _,⟨z,rfl,hz⟩,hC.pure 17 (by decide) hL (by decide) hl⟩
    ·intro L a w' hL hl hall hC hR;obtain⟨z,r28⟩:PS _:=hR 28 (by decide);simp[Region.wanted,Jg,go_sem,execOp,r28,upT];exact⟨Only.refl _ _,⟨z,rfl⟩,hC.pure 18 (by decide) hL (by decide) hl⟩
    ·intro L a w' hL hl hall hC hR;obtain⟨z,r33,hz⟩:PI _:=hR 33 (by decide);simp[Region.wanted,Jg,go_sem,execOp,r33,upT];exact⟨Only.refl _ _,⟨z,rfl,hz⟩,hC.pure 19 (by decide) hL (by decide) hl⟩
   ·intro l w9 τ hall hC;simp only[jdb];intro v18 _ v19 _ v20 _ v21 _ v22 _ v23 _ v24 _ v25 _ v26 _ v27 _ v28 _ v29 _ v30 _ v31 _ v32 _ v33 _ v3 h3 v4 h4 v5 h5 _;have hO:=hC.on;have hk:=hC.af (hall 16 (by decide));clear hC;have HH:=Ja (show PI v3∧PS v4∧PI v5∧Only [g,w.heap.size] w8 w9∧Blk w9 w.heap.size 26 #[.slice A0 n0 c0,.slice A1 n1 c1,.slice A2 n2 c2] from⟨h3,h4,h5,hO,hk⟩)
    clear h3 h4 h5 hO hk hall;show Exit.then _ _ _ _ _;simp only[Act.put,List.setIfInBounds_toArray,List.set_cons_zero,List.set_cons_succ];go_wp2_with fail;go_meet
    case rel=>exact HH.out
  case rest=>
   obtain⟨⟨repo,rfl, -⟩,⟨ref,rfl⟩,⟨back,rfl,hback⟩,hO,kR⟩:=hcut;have hlt:=Rp.house.lt H.R
   have HX:=Ja (show DrawnF w (.returned (.tuple #[.agg #[.slice A0 n0 c0,.slice A1 n1 c1,.slice A2 n2 c2],.int .i64 repo,.string ref,.int .i64 back])) wc from⟨m,repo,ref,back,A0,n0,c0,A1,n1,c1,A2,n2,c2,f,rfl,Rp.house.keep H.R fun z hz=>hO.block z (hlt z hz) (by have:=H.lf z hz;simp;omega),fun z hz=>(by have:=H.lf z hz;omega),H.fit,hback,H.on.trans (hO.below (by simp;omega) H.on.size)⟩)
   have z0:=Blk.c0 kR;have z1:=Blk.c1 kR;have z2:=Blk.c2 kR;clear H hO kR hlt hback;go_wp2_with fail;refine bodyPost_ret (v:= .tuple #[.agg #[.slice A0 n0 c0,.slice A1 n1 c1,.slice A2 n2 c2],.int .i64 repo,.string ref,.int .i64 back]) (by simp[results,Tryz.results69,go_sem,z0,z1,z2]) rfl ?_;exact HX.out
def DrawnS (w:World) (e:Ending) (w':World):Prop:=
 ∃m user repo ref back A0 n0 c0 A1 n1 c1 A2 n2 c2 f,e= .returned (.tuple #[.agg #[.slice A0 n0 c0,.slice A1 n1 c1,.slice A2 n2 c2],.int .i64 user,.int .i64 repo,.string ref,.int .i64 back])∧Rp.house.R w' [.slice A0 n0 c0,.slice A1 n1 c1,.slice A2 n2 c2] m f∧V9 m∧back≤9223372036854775807∧Below w.heap.size w w'
theorem drawMdlSees_any {A:Option Addr} {n c:Nat} {l:List UInt8} {fp:List Nat} (w:World) (hx:SlR Rp.byte w A n c l fp):
  Calls Tryz.prog 22 #[.slice A n c] w (DrawnS w):=by
 obtain⟨rfl,hcx,hmx, -⟩:=id hx;unfold maxLen at hmx;have k0:=Blk.new w 26 H0;have hb:=(Below.refl w.heap.size w).alloc nle (.cells H0 26);have hx1:=hx.allocN (.cells H0 26);have hsz:(w.alloc (.cells H0 26)).heap.size=w.heap.size+1:=by simp
 go_enter Tryz.func22,Tryz.ntmps22;go_upto_region 1 with fail
 generalize hw1:w.alloc (.cells H0 26)=w1 at k0 hb hsz hx1 ⊢;clear hw1 hx;go_wp2_with fail;refine(drawMdlFiles_any _ hx1).mono ?_;rintro e w2 ⟨m,repo,ref,back,A0,n0,c0,A1,n1,c1,A2,n2,c2,f,rfl,hR,hfr,hfit,hback,hb2⟩;replace k0:=k0.step hb2;replace hb:=Below.t hb hb2;have hs2:=hb2.size;clear hb2 hx1;have kM:=Blk.new w2 26 #[.slice A0 n0 c0,.slice A1 n1 c1,.slice A2 n2 c2]
 have hA:=(Below.refl w2.heap.size w2).alloc nle (.cells #[.slice A0 n0 c0,.slice A1 n1 c1,.slice A2 n2 c2] 26);replace k0:=k0.step hA;replace hb:=Below.t hb hA;replace hR:=Rp.house.below hR hA nle;clear hA;go_upto_region 2 with fail
 generalize w2.alloc (.cells #[.slice A0 n0 c0,.slice A1 n1 c1,.slice A2 n2 c2] 26)=w3 at k0 kM hb hR ⊢;obtain⟨u,hu⟩: ∃u:Int,u=(l.length:Int).tmod 5:=⟨_,rfl⟩;have x0:=Blk.c0 kM;have x1:=Blk.c1 kM;have x2:=Blk.c2 kM;have y0:=Blk.c0 k0;have y1:=Blk.c1 k0;have y2:=Blk.c2 k0;have z0:=Ji k0 0;have z1:=Ji k0 1;have z2:=Ji k0 2;have hlen0:(0:Int)≤(l.length:Int):=by omega
 have HK0:=Ja k0;have HBB:=Ja hb;have HRR:=Ja hR;have HLT:=Ja (Rp.house.lt hR);have HFR:=Ja hfr;clear k0 kM hb hR;go_wp2_with fail;have j0:Blk _ w.heap.size 26 #[.slice A0 n0 c0,.slice none 0 0,.slice none 0 0]:=Jd (i:=0) HK0.out (.slice A0 n0 c0);have j1:Blk _ w.heap.size 26 #[.slice A0 n0 c0,.slice A1 n1 c1,.slice none 0 0]:=Jd (i:=1) j0 (.slice A1 n1 c1)
 have j2:Blk _ w.heap.size 26 #[.slice A0 n0 c0,.slice A1 n1 c1,.slice A2 n2 c2]:=Jd (i:=2) j1 (.slice A2 n2 c2);have hO:Only [w.heap.size] w3 _:=(((Only.refl [w.heap.size] w3).setCell (p:=⟨w.heap.size,0,none⟩) (.inl (by simp)) (.slice A0 n0 c0)).setCell (p:=⟨w.heap.size,1,none⟩) (.inl (by simp)) (.slice A1 n1 c1)).setCell (p:=⟨w.heap.size,2,none⟩) (.inl (by simp)) (.slice A2 n2 c2)
 generalize((w3.setCell ⟨w.heap.size,0,none⟩ (.slice A0 n0 c0)).setCell ⟨w.heap.size,1,none⟩ (.slice A1 n1 c1)).setCell ⟨w.heap.size,2,none⟩ (.slice A2 n2 c2)=W at j2 hO ⊢;have e0:=Blk.c0 j2;have e1:=Blk.c1 j2;have e2:=Blk.c2 j2
 refine bodyPost_ret (v:= .tuple #[.agg #[.slice A0 n0 c0,.slice A1 n1 c1,.slice A2 n2 c2],.int .i64 ((l.length:Int) % 5),.int .i64 repo,.string ref,.int .i64 back]) (by simp[results,Tryz.results22,go_sem,e0,e1,e2]) rfl ?_
 exact⟨m,_,repo,ref,back,A0,n0,c0,A1,n1,c1,A2,n2,c2,f,rfl,Rp.house.keep HRR.out fun z hz=>hO.block z (HLT.out z hz) (by have:=HFR.out z hz;simp;omega),hfit,hback,HBB.out.trans (hO.below (by simp) HBB.out.size)⟩
section
variable {w w':World} {g:Nat} {m:Jl} {q:Req} {a:Ans} {K U R E F N:Value}
end
section
variable {P:Program} {s:Code} {Q:Exit→Act→World→Prop} {b:Act} {w:World} {m:Jl} {q:Req} {a:Ans} {K U R E F N:Value}
end
section
variable {w0 W W':World} {m:Jl} {q q':Req} {K U R E E':Value}
end
section
variable {w w':World} {g lo:Nat} {m:Jl} {K U R:Value}
end
theorem chFiles_same {w:World} {A B:Option Addr} {n c m d:Nat} {x:List File} {fx fy:List Nat} (hx:SlR Rp.file w A n c x fx) (hy:SlR Rp.file w B m d x fy):
  Calls Tryz.prog 21 #[.slice A n c,.slice B m d] w fun e w'=>e= .returned (.bool true)∧Below w.heap.size w w':=
 (jgb w hx hy).mono fun _ _ ⟨h1,h2⟩=>⟨by rw[h1];simp,h2⟩
theorem may_under {Uz:List Yt} {user:Int} {ref path:ByteArray} {write:Bool} (hp:Xm path=true) (h:Yz Uz user ref ByteArray.empty write=true):Yz Uz user ref path write=true:=by
 unfold Yz at*;rw[List.any_eq_true] at*;obtain⟨r,hr,h⟩:=h;refine⟨r,hr, ?_⟩;unfold jm0 at*;simp only[Bool.and_eq_true] at h ⊢;obtain⟨⟨h1,h2⟩,h3⟩:=h;refine⟨⟨h1, ?_⟩,h3⟩;have hrp:Xm r.path=true:=by unfold Jq at h2;simp only[Bool.and_eq_true] at h2;exact h2.1.1
 rcases(jid hrp jki).1 h2 with h|h|⟨t,ht⟩
 ·exact(jid hrp hp).2 (.inl h)
 ·exact(jid hrp hp).2 (.inl h)
 ·have:=congrArg List.length ht;rw[List.length_append,List.length_cons] at this;have h0:ByteArray.empty.data.toList.length=0:=rfl;omega
theorem treOk_path {l:List File} (h:Y1 l=true) {f:File} (hf:f∈l):Xm f.path=true:=by
 have:=(Yo.1 h).2.1 f hf;simp only[Y3,Bool.and_eq_true] at this;exact this.1.1
theorem readable_all {Uz:List Yt} {user:Int} {ref:ByteArray} {l:List File} (hl:Y1 l=true) (h:Yz Uz user ref ByteArray.empty false=true):readable Uz user ref l=l:=by
 unfold readable;rw[List.filter_eq_self];exact fun f hf=>may_under (treOk_path hl hf) h
theorem readable_sees {Uz:List Yt} {user:Int} {ref:ByteArray} {l:List File} (h:0<(readable Uz user ref l).length):Wt Uz user ref=true:=by
 obtain⟨f,hf⟩:=List.exists_mem_of_length_pos h;unfold readable at hf;have h1:=(List.mem_filter.1 hf).2;unfold Yz at h1;unfold Wt;rw[List.any_eq_true] at*;obtain⟨r,hr,h2⟩:=h1;refine⟨r,hr, ?_⟩;unfold jm0 at h2;simp only[Bool.and_eq_true] at h2;exact h2.1.1
theorem readable_split {Uz:List Yt} {user:Int} {ref:ByteArray} {l:List File} (i:Nat):readable Uz user ref l=readable Uz user ref (l.take i)++readable Uz user ref (l.drop i):=by
 unfold readable;rw[←List.filter_append,List.take_append_drop]
theorem readable_next {Uz:List Yt} {user:Int} {ref:ByteArray} {l:List File} {i:Nat} (hi:i<l.length) (hk:(readable Uz user ref (l.take i)).length<(readable Uz user ref l).length):
  decide (l[i]=(readable Uz user ref l)[(readable Uz user ref (l.take i)).length])=Yz Uz user ref l[i].path false:=by
 cases h:Yz Uz user ref l[i].path false
 ·rw[decide_eq_false_iff_not];intro e;have hm:=List.getElem_mem hk;rw[←e] at hm;unfold readable at hm;have:=(List.mem_filter.1 hm).2;rw[h] at this;cases this
 ·rw[decide_eq_true_iff];have hd:l.drop i=l[i]::l.drop (i+1):=List.drop_eq_getElem_cons hi;have e:=readable_split (Uz:=Uz) (user:=user) (ref:=ref) (l:=l) i;have e2:readable Uz user ref (l.drop i)=l[i]::readable Uz user ref (l.drop (i+1)):=by
   rw[hd];unfold readable;rw[List.filter_cons_of_pos (by simpa using h)]
  rw[e2] at e;have:(readable Uz user ref l)[(readable Uz user ref (l.take i)).length]? =some l[i]:=by rw[e];simp
  exact((List.getElem?_eq_some_iff.1 this).2).symm
theorem readable_take {Uz:List Yt} {user:Int} {ref:ByteArray} {l:List File} {i:Nat} (hi:i<l.length):(readable Uz user ref (l.take (i+1))).length=(readable Uz user ref (l.take i)).length+(if Yz Uz user ref l[i].path false then 1 else 0):=by
 unfold readable;rw[List.take_succ_eq_append_getElem hi,List.filter_append,List.length_append]
 congr 1
 by_cases h:Yz Uz user ref l[i].path false=true
 ·rw[List.filter_cons_of_pos (by simpa using h),if_pos h];rfl
 ·rw[List.filter_cons_of_neg (by simpa using h),if_neg h];rfl
theorem readable_take_le {Uz:List Yt} {user:Int} {ref:ByteArray} {l:List File} (i:Nat):(readable Uz user ref (l.take i)).length≤(readable Uz user ref l).length:=by
 rw[readable_split (l:=l) i,List.length_append];omega
theorem eqlFile (x y:File) (w:World):(binOp .eql 65 (.agg (Jj x).toArray) (.agg (Jj y).toArray)).run Tryz.prog w= .ok (.bool (decide (x=y))) w:=by
 rw[run_eql_struct,jk6];rfl
theorem readable_ok {Uz:List Yt} {user:Int} {ref:ByteArray} {l:List File} (h:Y1 l=true):Y1 (readable Uz user ref l)=true:=by
 obtain⟨h1,h2,h3⟩:=Yo.1 h;exact Yo.2 ⟨Nat.le_trans (List.length_filter_le _ _) h1,fun f hf=>h2 f ((List.mem_filter.1 hf).1),h3.filter _⟩
theorem implSees_sl {w:World} {cs:List Value} {m:Jl} {fx:List Nat} (user repo:Int) (name:ByteArray) (back:Int) (hb1:back≤9223372036854775807) (hx:Rp.house.R w cs m fx) (hf:V9 m) {X:List File} (hX:mdlSees m user repo name back=X):
  Calls Tryz.prog 23 #[.agg cs.toArray,.int .i64 user,.int .i64 repo,.string name,.int .i64 back] w fun e w'=>∃A c f,e= .returned (.slice A X.length c)∧SlR Rp.file w' A X.length c X f∧Below w.heap.size w w':=
 (implMdlSees_any user repo name back hb1 w hx hf).mono fun e w' ⟨v,h1,h2,h3⟩=>by
  rw[hX] at h2;obtain⟨A,c,f,rfl,hs, -⟩:=Xw (k:=2) (enc:=Jj) (hk:=fun _=>rfl) (h1:=Vz) h2;exact⟨A,c,f,h1,hs,h3⟩
theorem specSees_sl {w:World} {cs:List Value} {m:Jl} {fx:List Nat} (user repo:Int) (name:ByteArray) (back:Int) (hb1:back≤9223372036854775807) (hx:Rp.house.R w cs m fx) (hf:V9 m) {X:List File} (hX:mdlSees m user repo name back=X):
  Calls Tryz.prog 25 #[.agg cs.toArray,.int .i64 user,.int .i64 repo,.string name,.int .i64 back] w fun e w'=>∃A c f,e= .returned (.slice A X.length c)∧SlR Rp.file w' A X.length c X f∧Below w.heap.size w w':=
 (specMdlSees_any user repo name back hb1 w hx hf).mono fun e w' ⟨v,h1,h2,h3⟩=>by
  rw[hX] at h2;obtain⟨A,c,f,rfl,hs, -⟩:=Xw (k:=2) (enc:=Jj) (hk:=fun _=>rfl) (h1:=Vz) h2;exact⟨A,c,f,h1,hs,h3⟩
theorem files_sl {w:World} {o:Option (List File)} {b:Bool} {l:List File} {e:Ending} {w':World} (h:FilesOwn w o e w') (ho:o.getD []=l) (hb:o.isSome=b): ∃A c f,e= .returned (.tuple #[.slice A l.length c,.bool b])∧SlR Rp.file w' A l.length c l f∧Below w.heap.size w w':=by
 obtain⟨v,h1,h2,h3⟩:=h;subst hb ho;obtain⟨A,c,f,rfl,hs, -⟩:=Xw (k:=2) (enc:=Jj) (hk:=fun _=>rfl) (h1:=Vz) h2;exact⟨A,c,f,h1,hs,h3⟩
theorem lawSees (w:World) {A:Option Addr} {n c:Nat} {code:List UInt8} {fp:List Nat} (hx:SlR Rp.byte w A n c code fp):
  Calls Tryz.prog 5 #[.slice A n c] w fun e w'=>e= .returned (.bool true)∧Below w.heap.size w w':=by
 obtain⟨rfl,hcx,hmx, -⟩:=id hx;unfold maxLen at hmx;go_enter Tryz.func5,Tryz.ntmps5;by_cases hlen:(1048576:Int)<(code.length:Int)
 ·go_wp2;go_ret;exact⟨rfl,Below.refl _ _⟩
 go_wp2_with fail;refine(drawMdlSees_any _ hx).mono ?_;rintro e w1 ⟨m,user,repo,ref,back,A0,n0,c0,A1,n1,c1,A2,n2,c2,f,rfl,hR,hfit,hback,HB⟩;clear hx;obtain rfl:n2=m.Rz.length:=by
  obtain⟨_,_,_,_,_,_,_,_,_,_,_,_,he, -, -, -,h2⟩:=hR;cases he;exact h2.1
 have hA:=(Below.refl w1.heap.size w1).alloc nle (.cells #[.slice A0 n0 c0,.slice A1 n1 c1,.slice A2 m.Rz.length c2] 26);have hm:Go.Proofs.YtobbdhgkcoeifaaGreatDoor.HB (w1.alloc (.cells #[.slice A0 n0 c0,.slice A1 n1 c1,.slice A2 m.Rz.length c2] 26)) w1.heap.size m (.slice A0 n0 c0) (.slice A1 n1 c1) (.slice A2 m.Rz.length c2):=⟨Blk.new _ _ _,f,Rp.house.below hR hA nle⟩
 replace HB:=Below.t HB hA;have HF:=Ja hfit;have HK:=Ja hback;clear hA hR hfit hback;go_upto_region 4 with fail
 generalize w1.alloc (.cells #[.slice A0 n0 c0,.slice A1 n1 c1,.slice A2 m.Rz.length c2] 26)=w2 at hm HB ⊢;obtain⟨X,hX⟩: ∃X,mdlSees m user repo ref back=X:=⟨_,rfl⟩;obtain⟨l,hl⟩: ∃l,(jqz m repo ref back).getD []=l:=⟨_,rfl⟩;obtain⟨bb,hbb⟩: ∃bb,(jqz m repo ref back).isSome=bb:=⟨_,rfl⟩;have HX:=Ja hX;have HL:=Ja hl;have HO:=Ja hbb
 have HXL:=Ja (show X.length≤60 from hX▸mdlSees_len m user repo ref back);clear hX hl hbb;obtain⟨x0,x1,x2⟩:=hm.cells;go_wp2_with fail;refine(implSees_sl user repo ref back HK.out hm.r.choose_spec HF.out HX.out).mono ?_;rintro e w3 ⟨A4,c4,f4,rfl,s4,hb3⟩;replace hm:=hm.step hb3;replace HB:=Below.t HB hb3;clear hb3 x0 x1 x2;obtain⟨x0,x1,x2⟩:=hm.cells;go_wp2_with fail
 refine(implMdlFiles_any repo ref back HK.out _ hm.r.choose_spec HF.out).mono ?_;intro e w4 hd;obtain⟨A5,c5,f5,rfl,s5,hb3⟩:=files_sl hd HL.out HO.out;replace hm:=hm.step hb3;replace HB:=Below.t HB hb3;replace s4:=s4.step hb3;clear hb3 x0 x1 x2 hd;obtain⟨x0,x1,x2⟩:=hm.cells;go_wp2_with fail;refine(specMdlFiles_any repo ref back HK.out _ hm.r.choose_spec HF.out).mono ?_;intro e w5 hd
 obtain⟨A6,c6,f6,rfl,s6,hb3⟩:=files_sl hd HL.out HO.out;replace hm:=hm.step hb3;replace HB:=Below.t HB hb3;replace s4:=s4.step hb3;replace s5:=s5.step hb3;clear hb3 x0 x1 x2 hd;obtain⟨x0,x1,x2⟩:=hm.cells;go_wp2_with fail;refine(specSees_sl user repo ref back HK.out hm.r.choose_spec HF.out HX.out).mono ?_;rintro e w6 ⟨A7,c7,f7,rfl,s7,hb3⟩;replace hm:=hm.step hb3;replace HB:=Below.t HB hb3
 replace s4:=s4.step hb3;replace s5:=s5.step hb3;replace s6:=s6.step hb3;clear hb3 x0 x1 x2;go_wp2_with fail;refine(chFiles_same s4 s7).mono ?_;rintro e w7 ⟨rfl,hb3⟩;replace hm:=hm.step hb3;replace HB:=Below.t HB hb3;replace s4:=s4.step hb3;replace s5:=s5.step hb3;replace s6:=s6.step hb3;clear hb3 s7;cases bb
 all_goals
  go_wp2_with fail;refine(chFiles_same s5 s6).mono ?_;rintro e w8 ⟨rfl,hb3⟩;replace hm:=hm.step hb3;replace HB:=Below.t HB hb3;replace s4:=s4.step hb3;replace s5:=s5.step hb3;replace s6:=s6.step hb3;clear hb3 s6
 ·obtain rfl:X= []:=by
   rw[←HX.out];exact mdlSees_none (by cases h:jqz m repo ref back with
    |none=>rfl
    |some l=>have:=HO.out;rw[h] at this;cases this)
  clear s4 s5 hm;go_wp2_with fail;refine(chOk_any _).mono ?_;rintro e w20 ⟨rfl,hb4⟩;go_wp2;go_ret;exact⟨rfl,Below.t HB hb4⟩
 have HS:=Ja (show jqz m repo ref back=some l by cases h:jqz m repo ref back with
  |none=>have:=HO.out;rw[h] at this;cases this
  |some l'=>have:=HL.out;rw[h] at this;exact congrArg some this)
 obtain⟨hto,i,hi,hil⟩:=mdlFiles_some HS.out;have HI:=Ja hi;have HTO:=Ja hto;have HXR:=Ja (show X=readable m.Rz[i].Uz user ref l by rw[←HX.out,HI.out];exact mdlSees_some (by rw[←HI.out];exact HS.out) hil);have hll:l.length≤60:=(Yo.1 hto).1;have hxl:X.length≤60:=HXL.out;have HRU:=Ja (HF.out i hil).Uz;clear hto hi;have HM:=Ja hm;have HBB:=Ja HB;have S4:=Ja s4
 have S5:=Ja s5;clear hm HB;go_wp2_with fail
 go_loopw [13,14] (fun kv iv wz=>∃j:Nat,j≤l.length∧iv= .int .i64 j∧kv= .int .i64 (readable m.Rz[i].Uz user ref (l.take j)).length∧Below w8.heap.size w8 wz) (fun _ iv _=>l.length - (intOf iv).toNat)
 case atStart=>exact⟨0,Nat.zero_le _,rfl,rfl,Below.refl _ _⟩
 case round=>
  obtain⟨j,hj,rfl,rfl,hbl⟩:=hrel;obtain⟨wa,hwa⟩: ∃wa,wa=wr:=⟨_,rfl⟩;subst hwa;have HBL:=Ja hbl;have HTL:=Ja (readable_take_le (Uz:=m.Rz[i].Uz) (user:=user) (ref:=ref) (l:=l) j);have HNX:=Ja (fun(h1:j<l.length)=>readable_next (Uz:=m.Rz[i].Uz) (user:=user) (ref:=ref) (i:=j) h1)
  have HTK:=Ja (fun(h1:j<l.length)=>readable_take (Uz:=m.Rz[i].Uz) (user:=user) (ref:=ref) h1);obtain⟨kk,hkk⟩: ∃kk,kk=(readable m.Rz[i].Uz user ref (l.take j)).length:=⟨_,rfl⟩;rw[←hkk] at HTL HNX HTK ⊢;rw[←HXR.out] at HTL HNX;have HKK:=Ja hkk;have hkx:kk≤X.length:=by rw[HXR.out,hkk];exact readable_take_le j
  clear hkk;by_cases hdone:j<l.length∧kk<X.length
  ·obtain⟨hjl,hkl⟩:=hdone;have s4':=S4.out.step hbl;have s5':=S5.out.step hbl;obtain⟨b1,o1,rfl,hb1,hm1,h0,h1⟩:=Jx s5' hjl;obtain⟨b2,o2,rfl,hb2,hm2,k0,k1⟩:=Jx s4' hkl;have j0:(0:Int)≤(j:Int):=by omega
   have j1:(j:Int)<(l.length:Int):=by omega
   have j2:(0:Int)≤(kk:Int):=by omega
   have j3:(kk:Int)<(X.length:Int):=by omega
   have heq:=eqlFile l[j] X[kk];have hgd:=gdFile;unfold Jj at heq;have HE:=Ja (show decide (l[j]=X[kk])=Yz m.Rz[i].Uz user ref l[j].path false from HNX.out hjl hkl);have HT:=Ja (HTK.out hjl);clear s4' s5' hbl HNX HTK hb1 hb2 hm1 hm2;go_wp2_with fail;go_quiet(fail);clear heq hgd h0 h1 k0 k1 j0 j1 j2 j3;cases hd:decide (l[j]=X[kk])
   ·have HR:=Ja (show(readable m.Rz[i].Uz user ref (l.take (j+1))).length=kk by have h:=HT.out;rw[←HE.out,hd] at h;simpa using h);clear hd;go_wp2;exact⟨⟨j+1,by omega,by go_num,by rw[HR.out],Below.drewN' HBL.out _⟩,by simp[intOf];omega⟩
   ·have HR:=Ja (show(readable m.Rz[i].Uz user ref (l.take (j+1))).length=kk+1 by have h:=HT.out;rw[←HE.out,hd] at h;simpa using h);clear hd;go_wp2;exact⟨⟨j+1,by omega,by go_num,by rw[HR.out];go_num,Below.drewN' HBL.out _⟩,by simp[intOf];omega⟩
  ·have HKX:=Ja (show kk=X.length by
    by_cases h1:j<l.length
    ·have: ¬kk<X.length:=fun h=>hdone ⟨h1,h⟩;omega
    ·have hj':j=l.length:=by omega
     have h:=HKK.out;rw[hj',List.take_of_length_le nle,←HXR.out] at h;exact h)
   have x2:=(HM.out.step hbl).cells.2.2;obtain⟨fr,hr⟩:=(HM.out.step hbl).Rz;obtain⟨-,hrc,hrm, -⟩:=id hr;unfold maxLen at hrm;obtain⟨b,o,E1,l1,d1,f1,E2,l2,d2,f2,rfl, -, -, -,p1, -,r1, -, -⟩:=J7 hr hil;have HR1:=Ja r1;have t0:(0:Int)≤(i:Int):=by omega
   have t1:(i:Int)<(m.Rz.length:Int):=by omega
   have HDN:=Ja hdone;clear hdone hr r1;obtain rfl:=HI.out;obtain rfl:=HKX.out;by_cases hjl:j<l.length
   all_goals
    go_wp2_with fail;refine(Z0 user ref ByteArray.empty false _ HR1.out HRU.out (by decide)).mono ?_;rintro e w20 ⟨rfl,hb1⟩;have hb2:=Below.t (Below.t HBB.out HBL.out) hb1;have HB2:=Ja hb2;have t4:=(S4.out.step HBL.out).step hb1;have HT4:=Ja t4;have HT5:=Ja ((S5.out.step HBL.out).step hb1);have HX2:=Ja (Je x2 hb1);have HP1:=Ja (Je p1 hb1)
    have HR2:=Ja (HR1.out.step hb1);have HTX:=Ja (show Y1 X=true by rw[HXR.out];exact readable_ok HTO.out);have HALL:=Ja (fun h:Yz m.Rz[i].Uz user ref ByteArray.empty false=true=>(show X=l by rw[HXR.out];exact readable_all HTO.out h));have HSE:=Ja (fun h:0<X.length=>(show Wt m.Rz[i].Uz user ref=true by rw[HXR.out] at h;exact readable_sees h));clear hb1 hb2 t4 x2 p1
    go_wp2_with fail;refine(jbg _ HT4.out (jbw HTX.out)).mono ?_;rintro e w21 ⟨rfl,hb1⟩;rw[HTX.out];have HT4b:=Ja (HT4.out.step hb1);have HT5b:=Ja (HT5.out.step hb1);have HX3:=Ja (Je HX2.out hb1);have HP2:=Ja (Je HP1.out hb1);have HR3:=Ja (HR2.out.step hb1);have HB3:=Ja (Below.t HB2.out hb1);clear hb1
    have fin: ∀w22,Below w.heap.size w w22→True:=fun _ _=>trivial;clear fin;cases hmay:Yz m.Rz[i].Uz user ref ByteArray.empty false
    ·have x3:=HX3.out;have p2:=HP2.out;by_cases hx0:X.length=0
     ·go_wp2;go_ret;exact⟨rfl,HB3.out⟩
     ·have hse:=HSE.out (by omega);go_wp2_with fail;refine(jb8 user ref _ HR3.out HRU.out).mono ?_;rintro e w23 ⟨rfl,hb1⟩;rw[hse];go_wp2;go_ret;exact⟨rfl,Below.t HB3.out hb1⟩
    ·have HXE:=Ja (HALL.out hmay);go_wp2_with fail;refine(jgb _ HT4b.out HT5b.out).mono ?_;rintro e w22 ⟨rfl,hb1⟩;rw[decide_eq_true HXE.out];have x3:=Je HX3.out hb1;have p2:=Je HP2.out hb1;have HR4:=Ja (HR3.out.step hb1);have HB4:=Ja (Below.t HB3.out hb1);clear hb1 hmay;by_cases hx0:X.length=0
     ·go_wp2;go_ret;exact⟨rfl,HB4.out⟩
     ·have hse:=HSE.out (by omega);go_wp2_with fail;refine(jb8 user ref _ HR4.out HRU.out).mono ?_;rintro e w23 ⟨rfl,hb1⟩;rw[hse];go_wp2;go_ret;exact⟨rfl,Below.t HB4.out hb1⟩
def Opens {α H:Type} (enc:TypeId×Value→H) (P:Program) (t:TypeId) (r:Rp α) (ok:α→Prop):Prop:=
 ∀ {w:World} {base:Nat} {spare:Nat→Bool} {held:Bool} {fuel:Nat} {cs:List Value} {x:DataW H×List MemPlace},DataW.trod enc P w base spare held fuel t cs=some x→∃y fp,r.R w cs y fp∧ok y
section
variable {H:Type} {enc:TypeId×Value→H} {P:Program}
theorem opens_byte {t:TypeId} (ht:P.underlying t=some (.int .u8)):Opens enc P t Rp.byte (fun _=>True):=fun h=>by
 obtain⟨n,rfl,_,hw⟩:=DataW.trod_int ht h;simp[Lit.wf,IntKind.min,IntKind.max,IntKind.signed,IntKind.bits] at hw;refine⟨UInt8.ofNat n.toNat,[],⟨?_,rfl⟩,trivial⟩;have e:((UInt8.ofNat n.toNat).toNat:Int)=n:=by
  rw[UInt8.toNat_ofNat'];omega
 show [Value.int .u8 n]= [Value.int .u8 ((UInt8.ofNat n.toNat).toNat:Int)];rw[e]
theorem spot_none {w:World} {a:Addr} {v:Value} (h:w.cell? a=some v):a.spot=none:=by
 unfold World.cell? at h;split at h
 ·split at h
  ·cases h
  ·rename_i hs;simpa using hs
 ·cases h
theorem opens_rows {α:Type} {r:Rp α} {ok:α→Prop} {w:World} {base:Nat} {a:Addr} : ∀(len:Nat),(∀i,i<len→∃cs' y f,w.cells? base (a.add (i*r.k)) r.k=some cs'∧r.R w cs' y f∧ok y)→
  ∃xs l fp,l.length=len∧AllR r w xs l fp∧(∀y∈l,ok y)∧∀j u,xs[j]? =some u→w.cell? (a.add j)=some u
 | 0,_=>⟨[],[],[],rfl,⟨rfl,rfl⟩,by simp,by simp⟩
 |len+1,h=>by
  obtain⟨xs,l,fp,hl,ha,hok,hc⟩:=opens_rows len (fun i hi=>h i (by omega));obtain⟨cs',y,f,hcs,hr,hy⟩:=h len (by omega);obtain⟨_,hcl,hat⟩:=World.cells?_some hcs;have hxl:=ha.len;refine⟨xs++cs',l++ [y],fp++f,by simp[hl],ha.snoc hr,fun z hz=> ?_,fun j u hu=> ?_⟩
  ·rcases List.mem_append.1 hz with hz|hz
   ·exact hok z hz
   ·simp at hz;subst hz;exact hy
  ·by_cases hj:j<xs.length
   ·rw[List.getElem?_append_left hj] at hu;exact hc j u hu
   ·rw[List.getElem?_append_right (by omega)] at hu;have hlt:=(List.getElem?_eq_some_iff.1 hu).1;have:=hat (i:=j - xs.length) (by omega);rw[hu] at this;rw[Go.Deep.add_add,show len*r.k+(j - xs.length)=j from by rw[hl] at hxl;omega] at this;exact this
theorem opens_slice {α:Type} {r:Rp α} {ok:α→Prop} {t e:TypeId} (ht:P.underlying t=some (.slice e)) (hC:P.cellsOf e=r.k) (hk:0<r.k) (h:Opens enc P e r ok):Opens enc P t (Rp.slice r) (fun l=>∀y∈l,ok y):=fun {w base spare held fuel cs x} hr=>by
 rcases open_slice ht hr with ⟨rfl,_⟩|⟨a,len,cap,m,n,D,Pl,rfl,hb,hl,hm,hmm,_,hi⟩
 ·exact⟨[],[],⟨none,0,0,rfl,SlR.nil⟩,by simp⟩
 ·have hle:len≤m:=by rw[hmm];split<;>omega
  rw[hC] at hi;obtain⟨xs,l,fp,hlen,ha,hok,hc⟩:=opens_rows (r:=r) (ok:=ok) (w:=w) (base:=base) (a:=a) len (fun i hii=>by
   obtain⟨cs',hcs,htr⟩:=hi i (by omega);obtain⟨y,f,hR,hy⟩:=h htr;exact⟨cs',y,f,hcs,hR,hy⟩)
  have hxl:=ha.len;by_cases h0:len=0
  ·subst h0;have:l= []:=List.eq_nil_of_length_eq_zero hlen;subst this;obtain⟨rfl,rfl⟩:=ha;exact⟨[],[],⟨some a,0,cap,rfl,rfl,Nat.zero_le _,hm,[],[],[],⟨by simp,.inl ⟨rfl,rfl⟩⟩,⟨rfl,rfl⟩,rfl⟩,by simp⟩
  ·have hpos:0<xs.length:=by rw[hxl,hlen];exact Nat.mul_pos (by omega) hk
   have h00:=hc 0 xs[0] (List.getElem?_eq_getElem hpos);have ha0:a.add 0=a:=by simp[Addr.add]
   rw[ha0] at h00;obtain⟨b,o,s⟩:=a;have hs:s=none:=spot_none h00;subst hs;refine⟨l,[b]++fp,⟨_,len,cap,rfl,hlen.symm,hl,hm,xs,[b],fp,⟨by rw[hxl,hlen],.inr ⟨by omega,b,o,rfl,rfl,World.block_lt_of_cell? w _ h00,fun j u hu=> ?_⟩⟩,ha,rfl⟩,hok⟩;have:=hc j u hu;rwa [Addr.add_lit] at this
theorem post_of_below {f:Func} {s:ChangeSpec} {apart fresh handsOn again:Bool} {W W':World} {args:Array Value} {v:Value} {ds gs:List (DataW H)} {before pa pv:List MemPlace}
  (hW:DataW.Whole enc P f.params.toList s.vars apart W args.toList ds gs before)
  (hres: ∀(b:Nat) (sp:Nat→Bool) (hd:Bool),DataW.TrodAll enc P W' b sp hd f.resultTypes.toList (v.resultList f.resultTypes.size) (s.fn H (ds++gs)).results [])
  (hargs: ∀sp:Nat→Bool,(∀p∈before,sp p.block=true)→DataW.TrodAll enc P W' 0 sp true f.params.toList args.toList (s.fn H (ds++gs)).args pa)
  (hvars: ∀sp:Nat→Bool,(∀p∈before,sp p.block=true)→DataW.TrodVars enc P W' sp s.vars (s.fn H (ds++gs)).vars pv)
  (hps:before=pa++pv) (hb:Below W.heap.size W W')
  (hok: ∀(j:Nat) (t:TypeId) (r:Value),f.resultTypes[j]? =some t→(v.resultList f.resultTypes.size)[j]? =some r→Value.okWide P W' .any 0 t r):
  s.post enc P f apart fresh handsOn again W args v W':=by
 have hlt: ∀p∈before,p.block<W.heap.size:=fun p hp=>hW.lt p hp;have hold: ∀p∈before,(fun b=>decide (b<W.heap.size)) p.block=true:=fun p hp=>by simpa using hlt p hp
 refine⟨ds,gs,before,[],pa,pv,hW,hres _ _ _,hargs _ hold,hvars _ hold,World.keptBut_mono (fun p hp=>⟨hp, ?_⟩) (hb.frame (·∈before)),fun _=> ?_⟩
 ·rw[hps,List.mem_append] at hp;exact Or.inr hp
 ·obtain⟨_,_,_,_,_,hz,hn⟩:=hW;refine⟨hok,_,_,([]++pa)++pv,⟨[]++pa,pv,trodAll_append (hargs _ (fun _ _=>rfl)) (hres _ _ _),hvars _ (fun _ _=>rfl),rfl, ?_, ?_⟩, ?_⟩
  ·intro b off hp;have hin:MemPlace.cell b off∈before:=by rw[hps];simpa using hp
   rw[hb.frozen (hlt _ hin)];exact hz b off hin
  ·intro ha;have:=hn ha;rw[hps] at this;simpa using this
  ·intro p hp _;rw[hps];simpa using hp
end
theorem fnMdlSees_own:ownKnob Tryz.prog.godebug=none:=by kernel_rfl
theorem fnMdlSees_laidOut:laidOutB Tryz.prog=true:=by kernel_rfl
theorem fnMdlSees_contract (H:Type) (enc:TypeId×Value→H) (W:World) (base:Nat) (args:Array Value) (ds gs:List (DataW H)) (before:List MemPlace)
  (hval0: ∀(j:Nat) t v,Tryz.f5.params[j]? =some t→args[j]? =some v→Value.okWide Tryz.prog W .any base t v)
  (hW:DataW.Whole enc Tryz.prog Tryz.f5.params.toList Rows.fnMdlSeesSpec.vars false W args.toList ds gs before):
  Calls Tryz.prog 5 args W fun e W'=>∃v,e= .returned v∧Rows.fnMdlSeesSpec.post enc Tryz.prog Tryz.f5 false true false false W args v W':=by
 have hval:=hval0;have hW':=hW;obtain⟨p,q,hA0,hV,rfl,hfz,hnd⟩:=hW;have hA:DataW.TrodAll enc Tryz.prog W 0 (fun _=>true) true Tryz.f5.params.toList args.toList ds p:=hA0;rw[Tryz.params5] at hA hval;obtain⟨v0,d0,rfl,rfl,h0⟩:=trodAll_one hA;obtain⟨rfl,rfl⟩:=trodVars_none hV;have h0k:=h0;obtain⟨a0,len0,cap0,rfl⟩:=okWide_slice Tryz.underlying22 (hval 0 22 v0 rfl rfl);obtain⟨fuel0,hf0⟩:=h0
 obtain⟨l0,fp0,⟨A0,n0,c0,hcs0,hs0⟩,hw0⟩:=opens_slice Tryz.underlying22 (by kernel_rfl) (by decide) (opens_byte Tryz.underlying5) hf0;have hc0:Value.slice a0 len0 cap0= .slice A0 n0 c0:=by simpa [Value.cells] using hcs0
 rw[hc0] at h0k hW' ⊢;clear hf0 hcs0 hc0;clear hA0 hval hval0;simp only[List.append_nil] at hW';refine(lawSees W hs0).mono fun e W' ⟨he,hb⟩=> ?_;subst he;have hlt0: ∀y∈p,y.block<W.heap.size:=fun y hy=>hW'.lt y (by simp[hy])
 refine⟨_,rfl,post_of_below (pa:=p) (pv:=[]) hW' (fun _ _ _=>trodAll_mk1 (shut_bool Tryz.underlying4 _)) (fun sp hsp=> ?_) (fun _ _=>rfl) (by simp) hb (ok_one (by kernel_rfl) rfl (okWide_bool_mk Tryz.underlying4 _))⟩;exact trodAll_mk1 (WideElems.Trod_stays fnMdlSees_laidOut (by kernel_rfl) (of_decide_eq_true (by kernel_rfl)) h0k (fun y hy=>hb.same (hlt0 y hy)) (fun y hy=>hsp y (by simp[hy])))
mutual
def fnMdlSees_flat:DataW Unit→List Value
 | .lit l=>[l.value]
 | .agg ps=>fnMdlSees_flats ps
 |_=>[]
def fnMdlSees_flats:List (DataW Unit)→List Value
 | []=>[]
 |d::r=>fnMdlSees_flat d++fnMdlSees_flats r
end
noncomputable def fnMdlSees_world (os:Os):World:=
 { World.holding Tryz.prog os ⟨#[],#[],[]⟩ with heap:=(((World.holding Tryz.prog os ⟨#[],#[],[]⟩).heap.modify 2 fun
   | .cells _ t frozen=> .cells (fnMdlSees_flat Rows.laid_unicode_utf8_acceptRanges).toArray t frozen
   |o=>o).modify 1 fun
   | .cells _ t frozen=> .cells (fnMdlSees_flat Rows.laid_unicode_utf8_first).toArray t frozen
   |o=>o)}
set_option maxRecDepth 100000 in
theorem fnMdlSees_met (os:Os):laidMet Tryz.prog Rows.fnMdlSeesRow.laid ((fnMdlSees_world os).forCall (fun _ _=>0) ⟨#[],#[.slice none 0 0],[]⟩).memory:=
 laidMet_of_run' 8 (by kernel_rfl) (by kernel_rfl)
theorem fnMdlSees_reads (os:Os) {H:Type} (enc:TypeId×Value→H): ∃x,DataW.whole enc Tryz.prog ((fnMdlSees_world os).forCall (fun _ _=>0) ⟨#[],#[.slice none 0 0],[]⟩).memory Tryz.f5.params.toList Rows.fnMdlSeesSpec.vars false (#[.slice none 0 0]:Array Value).toList 8=some x:=
 Option.isSome_iff_exists.1 (show(DataW.whole enc Tryz.prog ((fnMdlSees_world os).forCall (fun _ _=>0) ⟨#[],#[.slice none 0 0],[]⟩).memory Tryz.f5.params.toList Rows.fnMdlSeesSpec.vars false (#[.slice none 0 0]:Array Value).toList 8).isSome=true by kernel_rfl)
theorem fnMdlSees_lifted (os:Os) (started:os.Started) (H:Type) (enc:TypeId×Value→H) (F:Stop.Interp):
  ReturnsInHanded {} Tryz.checked os 5 .any ((OpenSpec.ofChange Rows.fnMdlSeesSpec).preRow enc Tryz.prog Tryz.f5 Rows.fnMdlSeesRow.domain false Rows.fnMdlSeesRow.laid) (((OpenSpec.ofChange Rows.fnMdlSeesSpec).at F).post enc Tryz.prog Tryz.f5 false true false false):=by
 obtain⟨x0,hx⟩:=fnMdlSees_reads os enc;refine returnsInHanded_of_row (C:=Tryz.checked) (s:=OpenSpec.ofChange Rows.fnMdlSeesSpec) fnMdlSees_own started (by kernel_rfl) Tryz.func5
  (witness_row_at (enc:=enc) (C:=Tryz.checked) false (fnMdlSees_world os) #[.slice none 0 0] rfl (by kernel_rfl) (by kernel_rfl) (by kernel_rfl)
   (OpenSpec.preRow_of_cond 8 hx (by kernel_rfl) (fun k hk=>by cases hk) (by kernel_rfl) (fnMdlSees_met os))) ?_
 intro W base args ds gs before hval hW _ _ _ _ _ _;exact fnMdlSees_contract H enc W base args ds gs before hval hW
theorem fnMdlSees_closed:joinedFacts Tryz.pinned.checked.prog 5 Tryz.f5 (OpenSpec.ofChange Rows.fnMdlSeesSpec).bare Rows.fnMdlSeesRow=true:=by
 unfold joinedFacts;simp only[Bool.and_eq_true]
 repeat' apply And.intro
 all_goals(as_aux_lemma=>kernel_rfl)
theorem fnMdlSees_said:Rows.FnMdlSeesSaid:=
 OpenClaim.holds_of_cond 5 Tryz.f5 rfl rfl rfl rfl rfl rfl rfl ⟨rfl,rfl,rfl,rfl,rfl⟩ rfl rfl rfl rfl rfl (by kernel_rfl) Tryz.func5 fnMdlSees_closed
  (of_decide_eq_true (by kernel_rfl)) (by unfold Func.isWrapper;first|(rw[if_pos (by decide+kernel)];kernel_rfl)|(rw[if_neg (by decide+kernel)];exact⟨rfl,rfl⟩))
  (fun os started H enc _ F=>by rw[OpenClaim.pre_eq_preRow];exact fnMdlSees_lifted os started H enc F)
theorem fnMdlSees_plain (f:FuncId) (fn:Func) (hf:Tryz.pinned.checked.prog.funcNamed "loop.example/chartulary/laws.FnMdlSees" =some f) (hfn:Tryz.pinned.checked.prog.funcs[f]? =some fn):
  false=Tryz.pinned.checked.prog.looks []∧∀(j:Nat) t,fn.params[j]? =some t→Tryz.pinned.checked.prog.wantsStandIn t=false:=by
 obtain rfl:f=5:=Option.some.inj ((show Tryz.prog.funcNamed "loop.example/chartulary/laws.FnMdlSees" =some 5 by kernel_rfl).symm.trans hf) |>.symm;obtain rfl:fn=Tryz.f5:=(Option.some.inj (Tryz.func5.symm.trans hfn)).symm;refine⟨by kernel_rfl,fun j t ht=> ?_⟩;rw[Tryz.params5] at ht;have hm:=Array.mem_of_getElem? ht;simp only[List.mem_toArray,List.mem_cons,List.not_mem_nil,or_false] at hm
 rcases hm with rfl
 ·exact(show Tryz.prog.wantsStandIn 22=false by kernel_rfl)
theorem fnMdlSees_holds:Rows.FnMdlSeesCardSaid:=
 Claim7.holds_tied_plain_at .later [] _ _ _ _ fnMdlSees_said (fun _ h=>by cases h) (by kernel_rfl) (fun _ h=>by cases h) fnMdlSees_row_tie rfl ⟨rfl,rfl⟩ (by kernel_rfl) rfl fnMdlSees_plain (by kernel_rfl)
#print axioms fnMdlSees_holds
end Go.Proofs.YtobbdhgkcoeifaaGreatDoor
