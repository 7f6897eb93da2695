/- Lemmas and walks, joined by program. -/
import Derived.Outline
import Derived.Test.YtobbdhgkcoeifaaGreatDoorZ3
import Derived.Test.YtobbdhgkcoeifaaGreatDoorZ6
import Derived.Test.YtobbdhgkcoeifaaGreatDoorZ1
import Derived.Test.YtobbdhgkcoeifaaGreatDoorZ5
namespace Go.Proofs.YtobbdhgkcoeifaaGreatDoor
open Go.RowKit
attribute [local go_sem ↓] Go.wp_at_zero Go.wp_at_succ
set_option maxHeartbeats 8000000
set_option maxRecDepth 100000
set_option linter.unusedSimpArgs false
set_option linter.unusedVariables false
def Z8 (g:Nat) (v:Value):Prop:=v= .pointer (some ⟨g,0,none⟩)
def jcn (n:Nat) (v:Value):Prop:=∃x:Nat,v= .int .i64 (x:Int)∧x<n
def jh8 (k:Nat) (v:Value):Prop:=∃s:ByteArray,v= .string s∧s.size≤k
def FStrs (g:Nat) (l:List ByteArray) (v:Value) (w:World):Prop:=∃b,v= .slice (some ⟨b,0,none⟩) l.length l.length∧b≠g∧Blk w b 9 (jhc l)
def FCell (g k:Nat) (v:Value) (w:World):Prop:=∃b x s,v= .pointer (some ⟨b,x,none⟩)∧b≠g∧b<w.heap.size∧w.cell? ⟨b,x,none⟩=some (.string s)∧s.size≤k
def FBox (g B:Nat) (t:TypeId) (cs:Array Value) (v:Value) (w:World):Prop:=∃b,v= .pointer (some ⟨b,0,none⟩)∧b≠g∧B≤b∧Blk w b t cs
section
variable {g k B:Nat} {l:List ByteArray} {v:Value} {w w':World} {t:TypeId} {cs:Array Value}
theorem FStrs.only (h:FStrs g l v w) (ho:Only [g] w w'):FStrs g l v w':=by
 obtain⟨b,h1,h2,h3⟩:=h;exact⟨b,h1,h2,h3.only ho (by simpa using h2)⟩
theorem FCell.only (h:FCell g k v w) (ho:Only [g] w w'):FCell g k v w':=by
 obtain⟨b,x,s,h1,h2,h3,h4,h5⟩:=h;refine⟨b,x,s,h1,h2,Nat.lt_of_lt_of_le h3 ho.size, ?_,h5⟩;rw[World.cell?_of_block (a:=⟨b,x,none⟩) (ho.block b h3 (by simpa using h2))];exact h4
theorem FBox.only (h:FBox g B t cs v w) (ho:Only [g] w w'):FBox g B t cs v w':=by
 obtain⟨b,h1,h2,h3,h4⟩:=h;exact⟨b,h1,h2,h3,h4.only ho (by simpa using h2)⟩
end
theorem Blk.set4 {w:World} {b:Nat} {t:TypeId} {a0 a1 a2 a3:Value} (h:Blk w b t #[a0,a1,a2,a3]) (x0 x1 x2 x3:Value):
  Blk ((((w.setCell ⟨b,0,none⟩ x0).setCell ⟨b,1,none⟩ x1).setCell ⟨b,2,none⟩ x2).setCell ⟨b,3,none⟩ x3) b t #[x0,x1,x2,x3]:=by
 have h1:=Jd (i:=0) h x0;have h2:=Jd (i:=1) h1 x1;have h3:=Jd (i:=2) h2 x2;have h4:=Jd (i:=3) h3 x3;simpa [Blk] using h4
theorem Blk.set1 {w:World} {b i:Nat} {t:TypeId} {cs:Array Value} (h:Blk w b t cs) (x:Value):Blk (w.setCell ⟨b,i,none⟩ x) b t (cs.setIfInBounds i x):=Jd h x
theorem Blk.frozen {w:World} {b:Nat} {t:TypeId} {cs:Array Value} (h:Blk w b t cs) (j:Nat):w.frozen? ⟨b,j,none⟩=false:=
 (show Free w [b] from fun x hx=>by simp at hx;subst hx;exact⟨_,_,h⟩).frozen (by simp) j
def jpq (g B:Nat):Xr:=fun s v w=>match s with
 | 0=>Z8 g v
 | 6=>Z8 g v
 | 7=>jcn 4 v
 | 8=>FStrs g [ByteArray.empty,⟨#[97]⟩,⟨#[98]⟩,⟨#[99]⟩] v w
 | 9=>Z8 g v
 | 10=>jcn 4 v
 | 11=>FCell g 11 v w
 | 12=>jh8 11 v
 | 13=>FStrs g [ByteArray.empty,ByteArray.empty,⟨#[97]⟩,⟨#[98]⟩,⟨#[97,47,98]⟩] v w
 | 14=>Z8 g v
 | 15=>jcn 5 v
 | 16=>FCell g 11 v w
 | 17=>jh8 11 v
 | 18=>Z8 g v
 | 19=>jcn 2 v
 | 20=>∃b,v= .bool b
 | 21=>∃r:Yt,Vn r∧v= .agg (Jh r).toArray
 | 5=>FBox g B 29 #[.int .i64 0,.string ByteArray.empty,.string ByteArray.empty,.bool false] v w
 |_=>True
theorem jka (g B:Nat):Zx (Only [g]) (jpq g B):=fun s v w w' h ho=>by
 unfold jpq at*;split at h<;>first|exact h|exact FStrs.only h ho|exact FCell.only h ho|exact FBox.only h ho
def DrRule (g P:Nat) (w:World) (e:Ending) (w':World):Prop:=∃r:Yt,e= .returned (.agg (Jh r).toArray)∧Vn r∧Rd w' g P∧Only [g] w w'
theorem jbe (g P:Nat) (n:Int) (hn:n≤1000) (hP:P+30≤1000000) (w:World) (h:Rd w g P):
  Calls Tryz.prog 82 #[.pointer (some ⟨g,0,none⟩),.int .i64 n] w (DrRule g (P+30) w):=by
 have hg:=h.lt;go_enter Tryz.func82,Tryz.ntmps82;go_wp2_with fail;have hg0:g<(w.alloc (.cells #[.int .i64 0,.string ⟨#[]⟩,.string ⟨#[]⟩,.bool false] 29)).heap.size:=by simp;omega
 have hr0:=h.step ((Below.refl w.heap.size w).alloc nle (.cells #[.int .i64 0,.string ⟨#[]⟩,.string ⟨#[]⟩,.bool false] 29));have k4:=Blk.new w 29 #[.int .i64 0,.string ⟨#[]⟩,.string ⟨#[]⟩,.bool false];have ho0:=(Only.refl [g] w).alloc (.cells #[.int .i64 0,.string ⟨#[]⟩,.string ⟨#[]⟩,.bool false] 29)
 have hg4:w.heap.size<(w.alloc (.cells #[.int .i64 0,.string ⟨#[]⟩,.string ⟨#[]⟩,.bool false] 29)).heap.size:=by simp
 generalize hw0:w.alloc (.cells #[.int .i64 0,.string ⟨#[]⟩,.string ⟨#[]⟩,.bool false] 29)=w0 at hg0 hr0 k4 ho0 hg4 ⊢;clear hw0
 refine Jt 17 _ rfl (fun k w'=>Rd w' g (P+k)∧Only [g] w0 w') (Only [g]) (jpq g w0.heap.size) (by kernel_rfl) rfl (by kernel_rfl) rfl (jka _ _) (Only.refl _) ⟨⟨hr0.step (Below.refl _ _).drew,Only.of_below ((Below.refl _ _).drew) _⟩,fun s hs=> ?_,by rfl⟩ ?_ ?_
 ·by_cases e:s=0
  ·subst e;rfl
  ·have hne:s∉ [6,7,8,9,10,11,12,13,14,15,16,17,18,19,20,21,5]:=fun hm=>by
    simp only[List.mem_cons,List.not_mem_nil,or_false] at hm;rcases hm with rfl|rfl|rfl|rfl|rfl|rfl|rfl|rfl|rfl|rfl|rfl|rfl|rfl|rfl|rfl|rfl|rfl<;>exact absurd hs (by decide)
   simp only[List.mem_cons,List.not_mem_nil,or_false,not_or] at hne;unfold jpq;split<;>first|trivial|(exfalso;omega)
 ·intro p hp;simp only[List.take_succ_cons,List.take_zero,List.mem_cons,List.not_mem_nil,or_false] at hp;rcases hp with rfl|rfl|rfl|rfl|rfl|rfl|rfl|rfl|rfl|rfl|rfl|rfl|rfl|rfl|rfl|rfl|rfl
  ·intro k a w' hk hC hR;have r0:_=_:=hR 0 (by decide);simp[Region.wanted,Jg,go_sem,execOp,r0,upT];exact⟨⟨hC.1.mono (by omega),hC.2⟩,Only.refl _ _,rfl⟩
  ·intro k a w' hk hC hR;have r6:_=_:=hR 6 (by decide);simp[Region.wanted,Jg,go_sem,r6,upT];have hk':k<18:=hk;refine(Jk g (P+k) 4 (by omega) (by omega) _ hC.1).mono ?_;rintro e w1 ⟨x,rfl,hx,hr,ho⟩;exact⟨_,rfl,⟨hr,hC.2.trans ho⟩,ho,⟨x,rfl,by omega⟩⟩
  ·intro k a w' hk hC hR;simp[Region.wanted,Jg,go_sem,execOp,upT];have hg':=hC.1.lt;exact⟨⟨(hC.1.step ((Below.refl _ _).alloc nle _)).mono (by omega),hC.2.alloc _⟩,(Only.refl _ _).alloc _,⟨_,rfl,by omega,Blk.new _ _ _⟩⟩
  ·intro k a w' hk hC hR;have r0:_=_:=hR 0 (by decide);simp[Region.wanted,Jg,go_sem,execOp,r0,upT];exact⟨⟨hC.1.mono (by omega),hC.2⟩,Only.refl _ _,rfl⟩
  ·intro k a w' hk hC hR;have r6:a.tmps[9]?.getD undef=_:=hR 9 (by decide);simp[Region.wanted,Jg,go_sem,r6,upT];have hk':k<18:=hk;refine(Jk g (P+k) 4 (by omega) (by omega) _ hC.1).mono ?_;rintro e w1 ⟨x,rfl,hx,hr,ho⟩;exact⟨_,rfl,⟨hr,hC.2.trans ho⟩,ho,⟨x,rfl,by omega⟩⟩
  ·intro k a w' hk hC hR;obtain⟨b,r8,hb,hB⟩:FStrs g _ _ _:=hR 8 (by decide);obtain⟨x,r10,hx⟩:jcn 4 _:=hR 10 (by decide);have x0:(x:Int)<4:=by omega
   simp[Region.wanted,Jg,go_sem,execOp,r8,r10,x0,upT];obtain⟨s,hs,hz⟩:=Zs (k:=11) (x:=x) hB (Only.refl [g] _) hb (by simpa using hx) (by decide);exact⟨⟨hC.1.mono (by omega),hC.2⟩,Only.refl _ _,⟨b,x,s,rfl,hb,hB.lt,hs,hz⟩⟩
  ·intro k a w' hk hC hR;obtain⟨b,x,s,r11,hb,hlt,hc,hz⟩:FCell g 11 _ _:=hR 11 (by decide);simp[Region.wanted,Jg,go_sem,execOp,r11,hc,upT];exact⟨⟨hC.1.mono (by omega),hC.2⟩,Only.refl _ _,⟨s,rfl,hz⟩⟩
  ·intro k a w' hk hC hR;simp[Region.wanted,Jg,go_sem,execOp,upT];have hg':=hC.1.lt;exact⟨⟨(hC.1.step ((Below.refl _ _).alloc nle _)).mono (by omega),hC.2.alloc _⟩,(Only.refl _ _).alloc _,⟨_,rfl,by omega,Blk.new _ _ _⟩⟩
  ·intro k a w' hk hC hR;have r0:_=_:=hR 0 (by decide);simp[Region.wanted,Jg,go_sem,execOp,r0,upT];exact⟨⟨hC.1.mono (by omega),hC.2⟩,Only.refl _ _,rfl⟩
  ·intro k a w' hk hC hR;have r6:a.tmps[14]?.getD undef=_:=hR 14 (by decide);simp[Region.wanted,Jg,go_sem,r6,upT];have hk':k<18:=hk;refine(Jk g (P+k) 5 (by omega) (by omega) _ hC.1).mono ?_;rintro e w1 ⟨x,rfl,hx,hr,ho⟩;exact⟨_,rfl,⟨hr,hC.2.trans ho⟩,ho,⟨x,rfl,by omega⟩⟩
  ·intro k a w' hk hC hR;obtain⟨b,r8,hb,hB⟩:FStrs g _ _ _:=hR 13 (by decide);obtain⟨x,r10,hx⟩:jcn 5 _:=hR 15 (by decide);have x0:(x:Int)<5:=by omega
   simp[Region.wanted,Jg,go_sem,execOp,r8,r10,x0,upT];obtain⟨s,hs,hz⟩:=Zs (k:=11) (x:=x) hB (Only.refl [g] _) hb (by simpa using hx) (by decide);exact⟨⟨hC.1.mono (by omega),hC.2⟩,Only.refl _ _,⟨b,x,s,rfl,hb,hB.lt,hs,hz⟩⟩
  ·intro k a w' hk hC hR;obtain⟨b,x,s,r11,hb,hlt,hc,hz⟩:FCell g 11 _ _:=hR 16 (by decide);simp[Region.wanted,Jg,go_sem,execOp,r11,hc,upT];exact⟨⟨hC.1.mono (by omega),hC.2⟩,Only.refl _ _,⟨s,rfl,hz⟩⟩
  ·intro k a w' hk hC hR;have r0:_=_:=hR 0 (by decide);simp[Region.wanted,Jg,go_sem,execOp,r0,upT];exact⟨⟨hC.1.mono (by omega),hC.2⟩,Only.refl _ _,rfl⟩
  ·intro k a w' hk hC hR;have r6:a.tmps[18]?.getD undef=_:=hR 18 (by decide);simp[Region.wanted,Jg,go_sem,r6,upT];have hk':k<18:=hk;refine(Jk g (P+k) 2 (by omega) (by omega) _ hC.1).mono ?_;rintro e w1 ⟨x,rfl,hx,hr,ho⟩;exact⟨_,rfl,⟨hr,hC.2.trans ho⟩,ho,⟨x,rfl,by omega⟩⟩
  ·intro k a w' hk hC hR;obtain⟨x,r19,hx⟩:jcn 2 _:=hR 19 (by decide);simp[Region.wanted,Jg,go_sem,execOp,r19,upT];exact⟨⟨hC.1.mono (by omega),hC.2⟩,Only.refl _ _,⟨_,rfl⟩⟩
  ·intro k a w' hk hC hR;obtain⟨x7,r7,hx7⟩:jcn 4 _:=hR 7 (by decide);obtain⟨s12,r12,hz12⟩:jh8 11 _:=hR 12 (by decide);obtain⟨s17,r17,hz17⟩:jh8 11 _:=hR 17 (by decide);obtain⟨b20,r20⟩: ∃b,a.tmps[20]?.getD undef= .bool b:=hR 20 (by decide);simp[Region.wanted,Jg,go_sem,execOp,r7,r12,r17,r20,upT]
   exact⟨⟨hC.1.mono (by omega),hC.2⟩,Only.refl _ _,⟨⟨x7,s12,s17,b20⟩,⟨by show s12.size≤_;omega,by show s17.size≤_;omega⟩,rfl⟩⟩
  ·intro k a w' hk hC hR;simp[Region.wanted,Jg,go_sem,execOp,upT];have hg':=hC.1.lt;have hs:=hC.2.size;exact⟨⟨(hC.1.step ((Below.refl _ _).alloc nle _)).mono (by omega),hC.2.alloc _⟩,(Only.refl _ _).alloc _,⟨_,rfl,by omega,hs,Blk.new _ _ _⟩⟩
 ·rintro w1 ⟨hr1,ho1⟩;simp only[List.take_succ_cons,List.take_zero,jdb];intro v6 _ v7 _ v8 _ v9 _ v10 _ v11 _ v12 _ v13 _ v14 _ v15 _ v16 _ v17 _ v18 _ v19 _ v20 _ v21 h21 v5 h5;obtain⟨r,hfit,rfl⟩: ∃r:Yt,Vn r∧v21= .agg (Jh r).toArray:=h21;obtain⟨b5,rfl,hb5,hB5,k5⟩:FBox g _ _ _ _ _:=h5;have k4':=k4.only ho1 (by simp;omega);have q0:=Blk.c0 k5;have q1:=Blk.c1 k5;have q2:=Blk.c2 k5
  have q3:=Blk.c3 k5;have f0:=k5.frozen 0;have f1:=k5.frozen 1;have f2:=k5.frozen 2;have f3:=k5.frozen 3;rw[show(Jh r).toArray= #[.int .i64 r.user,.string r.ref,.string r.path,.bool r.write] from rfl];go_wp2_with fail;refine(Jk g (P+17) n (by omega) (by omega) _ ((((hr1.put (by omega) _).put (by omega) _).put (by omega) _).put (by omega) _)).mono ?_;rintro e w2 ⟨x,rfl,hx,hr2,ho2⟩
  have k52:=(k5.set4 (.int .i64 r.user) (.string r.ref) (.string r.path) (.bool r.write)).only ho2 (by simpa using hb5);have k42:=(((((k4'.far (by omega) _).far (by omega) _).far (by omega) _).far (by omega) _)).only ho2 (by simp;omega)
  have ho2':=((((ho1.setCell (.inr hB5) (.int .i64 r.user)).setCell (p:=⟨b5,1,none⟩) (.inr hB5) (.string r.ref)).setCell (p:=⟨b5,2,none⟩) (.inr hB5) (.string r.path)).setCell (p:=⟨b5,3,none⟩) (.inr hB5) (.bool r.write)).trans ho2;clear q0 q1 q2 q3 f0 f1 f2 f3 k5 k4' ho1 hr1 ho2;have q0:=Blk.c0 k52;have q1:=Blk.c1 k52;have q2:=Blk.c2 k52;have q3:=Blk.c3 k52;have p0:=Blk.c0 k42;have p1:=Blk.c1 k42
  have p2:=Blk.c2 k42;have p3:=Blk.c3 k42;have g0:=k42.frozen 0;have g1:=k42.frozen 1;have g2:=k42.frozen 2;have g3:=k42.frozen 3;by_cases hx0:x=0
  ·have hx1: ¬(0:Int)<(x:Int):=by omega
   clear hx;clear q0 q1 q2 q3 p0 p1 p2 p3 g0 g1 g2 g3;go_wp2_with fail;refine(Jk g (P+17+1) 3 (by omega) (by omega) _ hr2).mono ?_;rintro e w3 ⟨y,rfl,hy,hr3,ho3⟩;replace k52:=k52.only ho3 (by simpa using hb5);replace k42:=k42.only ho3 (by simp;omega);replace ho2':=ho2'.trans ho3;clear hr2 ho3;have hg3:=hr3.lt;by_cases hy0:y=0
   ·have hy1:((y:Int)==0)=true:=by simpa using hy0
    clear hy;go_wp2_with fail;have kb:=Blk.new w3 3 #[.int .i64 (-1),.int .i64 5,.int .i64 4];refine(Jk g (P+17+1+1) 3 (by omega) (by omega) _ (hr3.step ((Below.refl _ _).alloc nle _))).mono ?_;rintro e w4 ⟨z,rfl,hz,hr4,ho4⟩;replace k52:=(k52.alloc (.cells #[.int .i64 (-1),.int .i64 5,.int .i64 4] 3)).only ho4 (by simpa using hb5)
    replace k42:=(k42.alloc (.cells #[.int .i64 (-1),.int .i64 5,.int .i64 4] 3)).only ho4 (by simp;omega);replace ho2':=(ho2'.alloc (.cells #[.int .i64 (-1),.int .i64 5,.int .i64 4] 3)).trans ho4;obtain⟨u,hu⟩: ∃u:Int,w4.cell? ⟨w3.heap.size,z,none⟩=some (.int .i64 u):=by
     have hc:=(kb.only ho4 (by simp;omega)).cell z;have h3:z=0∨z=1∨z=2:=by omega
     rcases h3 with rfl|rfl|rfl
     ·exact⟨_,hc⟩
     ·exact⟨_,hc⟩
     ·exact⟨_,hc⟩
    have z1:(z:Int)<3:=by omega
    have q1:=Blk.c1 k52;have q2:=Blk.c2 k52;have q3:=Blk.c3 k52;have q0:=Blk.c0 k52;have p0:=Blk.c0 k42;have p1:=Blk.c1 k42;have p2:=Blk.c2 k42;have p3:=Blk.c3 k42;have g0:=k42.frozen 0;have g1:=k42.frozen 1;have g2:=k42.frozen 2;have g3:=k42.frozen 3;have f0:=k52.frozen 0;have hne:b5≠w.heap.size:=by omega
    clear kb hz;replace k52:Blk (w4.setCell ⟨b5,0,none⟩ (.int .i64 u)) b5 29 #[.int .i64 u,.string r.ref,.string r.path,.bool r.write]:=by simpa using k52.set1 (i:=0) (.int .i64 u)
    have hr5:=hr4.put (b:=b5) (j:=0) (by omega) (.int .i64 u);replace k42:=k42.far (b:=b5) (j:=0) (by omega) (.int .i64 u);replace ho2':=ho2'.setCell (p:=⟨b5,0,none⟩) (.inr hB5) (.int .i64 u);go_wp2
    refine bodyPost_ret (v:= .agg #[.int .i64 u,.string r.ref,.string r.path,.bool r.write]) (by simp[results,Tryz.results82,go_sem,p0,p1,p2,p3]) rfl ⟨⟨u,r.ref,r.path,r.write⟩,rfl,hfit,((((hr5.put hg _).put hg _).put hg _).put hg _).mono (by omega), ?_⟩
    exact((((ho0.trans ho2').setCell (p:=⟨w.heap.size,0,none⟩) (.inr nle) _).setCell (p:=⟨w.heap.size,1,none⟩) (.inr nle) _).setCell (p:=⟨w.heap.size,2,none⟩) (.inr nle) _).setCell (p:=⟨w.heap.size,3,none⟩) (.inr nle) _
   ·by_cases hy0':y=1
    ·have hy1:((y:Int)==0)=false:=by simpa using hy0
     have hy2:((y:Int)==1)=true:=by subst hy0';rfl
     clear hy;go_wp2_with fail;have kb:=Blk.new w3 9 (jhc [⟨#[97,98,99,100]⟩,⟨#[65]⟩,⟨#[122,122,122]⟩]);refine(Jk g (P+17+1+1) 3 (by omega) (by omega) _ (hr3.step ((Below.refl _ _).alloc nle _))).mono ?_;rintro e w4 ⟨z,rfl,hz,hr4,ho4⟩;obtain⟨u,hu,huz⟩:=Zs (k:=11) (x:=z) kb ho4 (by omega) (by simp;omega) (by decide)
     replace k52:=(k52.alloc (.cells (jhc [⟨#[97,98,99,100]⟩,⟨#[65]⟩,⟨#[122,122,122]⟩]) 9)).only ho4 (by simpa using hb5);replace k42:=(k42.alloc (.cells (jhc [⟨#[97,98,99,100]⟩,⟨#[65]⟩,⟨#[122,122,122]⟩]) 9)).only ho4 (by simp;omega);replace ho2':=(ho2'.alloc (.cells (jhc [⟨#[97,98,99,100]⟩,⟨#[65]⟩,⟨#[122,122,122]⟩]) 9)).trans ho4;have z1:(z:Int)<3:=by omega
     have q1:=Blk.c1 k52;have q2:=Blk.c2 k52;have q3:=Blk.c3 k52;have q0:=Blk.c0 k52;have p0:=Blk.c0 k42;have p1:=Blk.c1 k42;have p2:=Blk.c2 k42;have p3:=Blk.c3 k42;have g0:=k42.frozen 0;have g1:=k42.frozen 1;have g2:=k42.frozen 2;have g3:=k42.frozen 3;have f0:=k52.frozen 1;have hne:b5≠w.heap.size:=by omega
     clear kb hz;replace k52:Blk (w4.setCell ⟨b5,1,none⟩ (.string u)) b5 29 #[.int .i64 r.user,.string u,.string r.path,.bool r.write]:=by simpa using k52.set1 (i:=1) (.string u)
     have hr5:=hr4.put (b:=b5) (j:=1) (by omega) (.string u);replace k42:=k42.far (b:=b5) (j:=1) (by omega) (.string u);replace ho2':=ho2'.setCell (p:=⟨b5,1,none⟩) (.inr hB5) (.string u);go_wp2
     refine bodyPost_ret (v:= .agg #[.int .i64 r.user,.string u,.string r.path,.bool r.write]) (by simp[results,Tryz.results82,go_sem,p0,p1,p2,p3]) rfl ⟨⟨r.user,u,r.path,r.write⟩,rfl,⟨by show u.size≤_;omega,hfit.2⟩,((((hr5.put hg _).put hg _).put hg _).put hg _).mono (by omega), ?_⟩
     exact((((ho0.trans ho2').setCell (p:=⟨w.heap.size,0,none⟩) (.inr nle) _).setCell (p:=⟨w.heap.size,1,none⟩) (.inr nle) _).setCell (p:=⟨w.heap.size,2,none⟩) (.inr nle) _).setCell (p:=⟨w.heap.size,3,none⟩) (.inr nle) _
    ·have hy1:((y:Int)==0)=false:=by simpa using hy0
     have hy2:((y:Int)==1)=false:=by simp;omega
     clear hy;go_wp2_with fail;refine(Zz g (P+17+1+1) 1 (by omega) (by omega) _ hr3).mono ?_;rintro e w4 ⟨u,rfl,huz,hr4,ho4⟩;replace k52:=k52.only ho4 (by simpa using hb5);replace k42:=k42.only ho4 (by simp;omega);replace ho2':=ho2'.trans ho4;have q1:=Blk.c1 k52;have q2:=Blk.c2 k52;have q3:=Blk.c3 k52;have q0:=Blk.c0 k52;have p0:=Blk.c0 k42;have p1:=Blk.c1 k42;have p2:=Blk.c2 k42
     have p3:=Blk.c3 k42;have g0:=k42.frozen 0;have g1:=k42.frozen 1;have g2:=k42.frozen 2;have g3:=k42.frozen 3;have f0:=k52.frozen 2;have hne:b5≠w.heap.size:=by omega
     replace k52:Blk (w4.setCell ⟨b5,2,none⟩ (.string u)) b5 29 #[.int .i64 r.user,.string r.ref,.string u,.bool r.write]:=by simpa using k52.set1 (i:=2) (.string u)
     have hr5:=hr4.put (b:=b5) (j:=2) (by omega) (.string u);replace k42:=k42.far (b:=b5) (j:=2) (by omega) (.string u);replace ho2':=ho2'.setCell (p:=⟨b5,2,none⟩) (.inr hB5) (.string u);go_wp2
     refine bodyPost_ret (v:= .agg #[.int .i64 r.user,.string r.ref,.string u,.bool r.write]) (by simp[results,Tryz.results82,go_sem,p0,p1,p2,p3]) rfl ⟨⟨r.user,r.ref,u,r.write⟩,rfl,⟨hfit.1,by show u.size≤_;omega⟩,((((hr5.put hg _).put hg _).put hg _).put hg _).mono (by omega), ?_⟩
     exact((((ho0.trans ho2').setCell (p:=⟨w.heap.size,0,none⟩) (.inr nle) _).setCell (p:=⟨w.heap.size,1,none⟩) (.inr nle) _).setCell (p:=⟨w.heap.size,2,none⟩) (.inr nle) _).setCell (p:=⟨w.heap.size,3,none⟩) (.inr nle) _
  ·have hx1:(0:Int)<(x:Int):=by omega
   clear hx;go_wp2;refine bodyPost_ret (v:= .agg #[.int .i64 r.user,.string r.ref,.string r.path,.bool r.write]) (by simp[results,Tryz.results82,go_sem,p0,p1,p2,p3]) rfl ⟨⟨r.user,r.ref,r.path,r.write⟩,rfl,hfit,((((hr2.put hg _).put hg _).put hg _).put hg _).mono (by omega), ?_⟩
   exact((((ho0.trans ho2').setCell (p:=⟨w.heap.size,0,none⟩) (.inr nle) _).setCell (p:=⟨w.heap.size,1,none⟩) (.inr nle) _).setCell (p:=⟨w.heap.size,2,none⟩) (.inr nle) _).setCell (p:=⟨w.heap.size,3,none⟩) (.inr nle) _
theorem jex {l:List Yt} :Ym l↔∀r∈l,Vn r:=⟨fun h r hr=>by
 obtain⟨i,hi,rfl⟩:=List.mem_iff_getElem.1 hr;exact h i hi,fun h i hi=>h _ (List.getElem_mem hi)⟩
theorem Vj {w w1:World} {base size n g:Nat} {e:TypeId} {v:Value} {xs:List Value} (h:w.ownsRow base e size v n xs) (hb:Only [g] w w1) (hg:g<base):w1.ownsRow base e size v n xs:=
 ⟨h.1,h.2.elim Or.inl (fun⟨k,cap,cur,hv,hk,hc,r⟩=>Or.inr ⟨k,cap,cur,hv,hk,(hb.block k (Array.getElem?_eq_some_iff.1 hc).1 (by simp;omega)).trans hc,r⟩)⟩
theorem jhg {l:List Yt} {r:Yt} (h:l.length≤6):(Yk l r).length≤6:=by
 unfold Yk;split
 ·rename_i hp
  simp only[Zc,Bool.and_eq_true,Bool.not_eq_true',decide_eq_false_iff_not] at hp;have:=hp.1.2;simp;omega
 ·exact h
theorem jml {l:List Yt} {r:Yt} (h:Ym l) (hr:Vn r):Ym (Yk l r):=by
 rw[jex] at*;unfold Yk;split
 ·intro x hx;rcases List.mem_append.1 hx with hx|hx
  ·exact h x hx
  ·rw[List.mem_singleton.1 hx];exact hr
 ·exact h
theorem Rd.below {w w1:World} {g P B:Nat} (h:Rd w g P) (hb:Below B w w1) (hg:g<B):Rd w1 g P:=by
 obtain⟨A,n,c,l,fp,p,h1,h2,h3,h4⟩:=h.ex;exact⟨A,n,c,l,fp,p,(hb.block g hg).trans h1,h2.keep fun x hx=>hb.block x (Nat.lt_trans (h3 x hx) hg),h3,h4⟩
theorem Only.then_low {w w1 w2:World} {f:List Nat} (h:Only f w w1) (k:Below w.heap.size w1 w2):Only f w w2:=h.step k.os k.tape k.output k.size fun i hi _=>k.block i hi
theorem jdt {l:List Yt} {r:Yt} (h:Ym l) (hr:Vn r):Ym (l++ [r]):=by
 rw[jex] at*;intro x hx;rcases List.mem_append.1 hx with hx|hx
 ·exact h x hx
 ·rw[List.mem_singleton.1 hx];exact hr
theorem jcj {w:World} {base k:Nat} {e:TypeId} {v:Value} {α:Type} {enc:α→List Value} {l:List α} {x:α} (h:w.ownsRow base e k v (l.length+1) (l.flatMap enc++enc x)):w.ownsRow base e k v (l++ [x]).length ((l++ [x]).flatMap enc):=by
 rw[List.length_append,List.flatMap_append,List.flatMap_singleton];exact h
def DrRules (g P:Nat) (w:World) (e:Ending) (w':World):Prop:=
 ∃v l,e= .returned v∧w'.ownsRow w.heap.size 29 4 v l.length (l.flatMap Jh)∧Ym l∧l.length≤8∧Rd w' g P∧Only [g] w w'
theorem ji9 (g P:Nat) (n:Int) (hn:n≤1000) (hP:P+400≤1000000) (w:World) (h:Rd w g P):
  Calls Tryz.prog 83 #[.pointer (some ⟨g,0,none⟩),.int .i64 n] w (DrRules g (P+400) w):=by
 have hg:=h.lt;obtain⟨i0,hi,hz0,hz1,hz2⟩:=info_parts Zt;have HO:=Ja (World.ownsRow_made (base:=w.heap.size) (e:=29) (size:=4) w #[] 0 nle (by simp[maxLen]) rfl);go_enter Tryz.func83,Tryz.ntmps83;go_wp2_with fail;refine(Jk g P 7 (by omega) (by omega) _ (h.step ((Below.refl _ _).alloc nle _))).mono ?_;rintro e w1 ⟨j0,rfl,hj0,hr1,ho1⟩;have HW:=Ja (Vj HO.out ho1 hg)
 have ho:=Only.box ho1;clear HO ho1;go_wp2
 go_loopw [5,6] (fun v kv wr=>∃(j:Nat) (l:List Yt),kv= .int .i64 (j:Int)∧j≤6∧wr.ownsRow w.heap.size 29 4 v l.length (l.flatMap Jh)∧Ym l∧l.length≤6∧Rd wr g (P+1+40*(6 - j))∧Only [g] w wr) (fun _ i _=>(intOf i).toNat)
 case atStart=>exact⟨j0,[],rfl,by omega,HW.out,fun i hi=>absurd hi (by simp),by simp,hr1.mono (by omega),ho⟩
 case round=>
  obtain⟨j,l,rfl,hj,hown,hfit,hl,hr,hor⟩:=hrel;have HW1:=Ja hown;have HF:=Ja hfit;clear hown hfit HW hr1 ho hj0;by_cases hlt:0<j
  ·have hlt':(0:Int)<(j:Int):=by omega
   go_wp2_with fail;refine(jbe g (P+1+40*(6 - j)) 99 (by omega) (by omega) _ hr).mono ?_;rintro e w2 ⟨r,rfl,hrf,hr2,ho2⟩;have HR:=Ja hrf;obtain⟨A,c,f,rfl,hs,hfb,_,_⟩:=Xw (k:=4) (enc:=Jh) (hk:=fun _=>rfl) (h1:=Y9) (Vj HW1.out ho2 hg);have HW2:=Ja (Vj HW1.out ho2 hg);clear hrf HW1;go_wp2_with fail
   refine(jct r _ hs (by omega) HF.out HR.out).mono ?_;rintro e w3 ⟨v,rfl,hown3,hb3⟩;have HW3:=Ja (Zy hown3 (Nat.le_trans hor.size ho2.size));have HW2':=Ja (Yx HW2.out hb3);have hr3:=hr2.step hb3;have ho3:=(hor.trans ho2).then_below hb3;have HFP:=Ja (jml HF.out HR.out);have hlp:=jhg (r:=r) hl;clear hown3 HW2 hr2 ho2 hb3 hs hfb;cases hp:Zc l r
   ·go_wp2;exact⟨⟨j - 1,l,by go_num,by omega,HW2'.out,HF.out,hl,hr3.mono (by omega),ho3⟩,by simp[intOf];omega⟩
   ·go_wp2;exact⟨⟨j - 1,Yk l r,by go_num,by omega,HW3.out,HFP.out,hlp,hr3.mono (by omega),ho3⟩,by simp[intOf];omega⟩
  ·have hlt': ¬(0:Int)<(j:Int):=by omega
   go_wp2_with fail;refine(Jk g (P+1+40*(6 - j)) n (by omega) (by omega) _ hr).mono ?_;rintro e w2 ⟨x,rfl,hx,hr2,ho2⟩;have HW2:=Ja (Vj HW1.out ho2 hg);have ho2':=hor.trans ho2;clear HW1 ho2 hx;cases hx0:((x:Int)==0)
   ·go_wp2;go_ret;exact⟨_,l,rfl,HW2.out,HF.out,by omega,hr2.mono (by omega),ho2'⟩
   ·go_wp2_with fail;refine(jbe g (P+1+40*(6 - j)+1) 2 (by omega) (by omega) _ hr2).mono ?_;rintro e w3 ⟨r,rfl,hrf,hr3,ho3⟩;have HR:=Ja hrf;have hown3:=Vj HW2.out ho3 hg;have hor3:=ho2'.trans ho3;have hsz:=hor3.size;have hbA:=(Below.refl w.heap.size w3).alloc hsz (.cells (Jh r).toArray 29)
    rw[show(Jh r).toArray= #[.int .i64 r.user,.string r.ref,.string r.path,.bool r.write] from rfl];clear hrf HW2 ho3 ho2' hr2
    go_wp2_with(at_builtin;refine wpList_append_own _ rfl _ _ 45 rfl w.heap.size 29 i0 _ 4 48 Tryz.underlying45 hi hz0 hz1 hz2 rfl (by decide) _ _ _ rfl (hown3.alloc _) ⟨w3.heap.size,0,none⟩ 1 1 (Jh r) rfl rfl (Jm w3 (Jh r) _) (Rp.rule.one (w:=w3) ⟨rfl,rfl⟩) (by unfold maxLen;omega) (by omega) (by simp;omega) ?_);intro v4 w4 hown4 hgrow _
    have hlow:Below w.heap.size w3 w4:=hbA.grown hgrow (by simp;omega) (fun j hj=>(hown3.lt j hj).1);have hr4:=hr3.below hlow hg;have ho4:=hor3.then_low hlow;have HW4:=Ja (jcj hown4);have HF4:=Ja (jdt HF.out HR.out);have hl4:(l++ [r]).length≤7:=by simp;omega
    have hl5:0<(l++ [r]).length:=by simp
    generalize l++ [r]=l4 at HW4 HF4 hl4 hl5;clear hown4 hgrow hlow hr3 hor3 hown3 hbA hsz HR;go_wp2_with fail;refine(Jk g (P+1+40*(6 - j)+1+30) 2 (by omega) (by omega) _ hr4).mono ?_;rintro e w5 ⟨y,rfl,hy,hr5,ho5⟩;have HW5:=Ja (Vj HW4.out ho5 hg);have ho5':=ho4.trans ho5;clear HW4 ho5 hy hr4 ho4;cases hy0:((y:Int)==0)
    ·go_wp2;go_ret;exact⟨_,l4,rfl,HW5.out,HF4.out,by omega,hr5.mono (by omega),ho5'⟩
    ·obtain⟨A,c,f,rfl,hs,hfb,_,_⟩:=Xw (k:=4) (enc:=Jh) (hk:=fun _=>rfl) (h1:=Y9) HW5.out;obtain⟨b,o,rfl,hb,hm,q0,q1,q2,q3⟩:=Yv hs hl5;simp only[Nat.zero_mul,Nat.add_zero] at q0 q1 q2 q3;have HR:=Ja (HF4.out 0 hl5);have hl6:(0:Int)<(l4.length:Int):=by omega
     have hsz:=ho5'.size;have hbA:=(Below.refl w.heap.size w5).alloc hsz (.cells (Jh l4[0]).toArray 29);have hown5:=HW5.out;have HOWN:=Ja hown5;clear hs hfb hm hown5 HW5
     go_wp2_with(at_builtin;refine wpList_append_own _ rfl _ _ 45 rfl w.heap.size 29 i0 _ 4 48 Tryz.underlying45 hi hz0 hz1 hz2 rfl (by decide) _ _ _ rfl (HOWN.out.alloc _) ⟨w5.heap.size,0,none⟩ 1 1 (Jh l4[0]) rfl rfl (Jm w5 (Jh l4[0]) _) (Rp.rule.one (w:=w5) ⟨rfl,rfl⟩) (by unfold maxLen;omega) (by omega) (by simp;omega) ?_);intro v6 w6 hown6 hgrow _
     have hlow:Below w.heap.size w5 w6:=hbA.grown hgrow (by simp;omega) (fun j hj=>(HOWN.out.lt j hj).1);have HW6:=Ja (jcj hown6);clear hown6 hgrow;go_wp2;go_ret;exact⟨_,l4++ [l4[0]],rfl,HW6.out,jdt HF4.out HR.out,by simp;omega,(hr5.below hlow hg).mono (by omega),ho5'.then_low hlow⟩
theorem Z5 (g P:Nat) (hP:P+1≤1000000) (w:World) (h:Rd w g P):
  Calls Tryz.prog 81 #[.pointer (some ⟨g,0,none⟩)] w (DrStr g (P+1) 11 w):=by
 go_enter Tryz.func81,Tryz.ntmps81;go_wp2_with fail;have kb:=Blk.new w 9 (jhc [⟨#[]⟩,⟨#[120]⟩,⟨#[121]⟩,⟨#[120,121]⟩,⟨#[0,255]⟩,⟨#[49,50,51,52,53,54]⟩,⟨#[76]⟩]);refine(Jk g P 7 (by omega) (by omega) _ (h.step ((Below.refl _ _).alloc nle _))).mono ?_;rintro e w1 ⟨x,rfl,hx,hr,ho⟩;have hg:=h.lt;obtain⟨s,hs,hz⟩:=Zs (k:=11) (x:=x) kb ho (by omega) (by simp;omega) (by decide)
 have x1:(x:Int)<7:=by omega
 clear kb hx;go_wp2;go_ret;exact⟨s,rfl,hz,hr,Only.box ho⟩
def Xu (e:Wz):Prop:=e.path.size≤11∧e.bytes.size≤11
def DrEdit (g P:Nat) (w:World) (e:Ending) (w':World):Prop:=∃x:Wz,e= .returned (.agg (Jp x).toArray)∧Xu x∧Rd w' g P∧Only [g] w w'
theorem jiu {w0 w:World} {g b:Nat} (h:Only [g] w0 w) (hb:w0.heap.size≤b) (u v x:Value):Only [g] w0 (((w.setCell ⟨b,0,none⟩ u).setCell ⟨b,1,none⟩ v).setCell ⟨b,2,none⟩ x):=
 ((h.setCell (p:=⟨b,0,none⟩) (.inr hb) u).setCell (p:=⟨b,1,none⟩) (.inr hb) v).setCell (p:=⟨b,2,none⟩) (.inr hb) x
theorem jc6 (g P:Nat) (hP:P+3≤1000000) (w:World) (h:Rd w g P):
  Calls Tryz.prog 127 #[.pointer (some ⟨g,0,none⟩)] w (DrEdit g (P+3) w):=by
 have hg:=h.lt;have k2:=Blk.new w 59 #[.string ⟨#[]⟩,.string ⟨#[]⟩,.bool false];have h0:=h.step ((Below.refl _ _).alloc nle (.cells #[.string ⟨#[]⟩,.string ⟨#[]⟩,.bool false] 59));go_enter Tryz.func127,Tryz.ntmps127;go_wp2_with fail;refine(jbf g P (by omega) _ h0).mono ?_;rintro e w1 ⟨s,rfl,hs,hr1,ho1⟩;replace k2:=k2.only ho1 (by simp;omega);have HO:=Only.box ho1;clear h0 ho1
 go_wp2_with fail;refine(Z5 g (P+1) (by omega) _ hr1).mono ?_;rintro e w2 ⟨t,rfl,ht,hr2,ho2⟩;replace k2:=k2.only ho2 (by simp;omega);replace HO:=HO.trans ho2;have k3:=Blk.new w2 59 #[.string s,.string t,.bool false];have hr3:=hr2.step ((Below.refl _ _).alloc nle (.cells #[.string s,.string t,.bool false] 59));have h2w:=k2.lt
 replace k2:=k2.step ((Below.refl _ _).alloc nle (.cells #[.string s,.string t,.bool false] 59));replace HO:=HO.alloc (.cells #[.string s,.string t,.bool false] 59);clear hr1 hr2 ho2;go_wp2_with fail;refine(Jk g _ 5 (by omega) (by omega) _ hr3).mono ?_;rintro e w3 ⟨x,rfl,hx,hr4,ho4⟩;have hne:w2.heap.size≠w.heap.size:=by omega
 replace k2:=k2.only ho4 (by simp;omega);replace k3:=k3.only ho4 (by have:=HO.size;simp at this ⊢;omega);replace HO:=HO.trans ho4;have p0:=Blk.c0 k2;have p1:=Blk.c1 k2;have p2:=Blk.c2 k2;have q0:=Blk.c0 k3;have q1:=Blk.c1 k3;have q2:=Blk.c2 k3;have g0:=k2.frozen 0;have g1:=k2.frozen 1;have g2:=k2.frozen 2;clear k2 k3 hx hr3 ho4;cases hd:((x:Int)==0)
 ·have HP:=Ja (jiu HO nle (.string s) (.string t) (.bool false));go_wp2;exact bodyPost_ret (v:= .agg #[.string s,.string t,.bool false]) (by simp[results,Tryz.results127,go_sem,p0,p1,p2]) rfl ⟨⟨s,t,false⟩,rfl,⟨hs,ht⟩,(((hr4.put hg _).put hg _).put hg _).mono (by omega),HP.out⟩
 ·have HP:=Ja (jiu HO nle (.string s) (.string ⟨#[]⟩) (.bool true));go_wp2;exact bodyPost_ret (v:= .agg #[.string s,.string ⟨#[]⟩,.bool true]) (by simp[results,Tryz.results127,go_sem,p0,p1,p2]) rfl ⟨⟨s,⟨#[]⟩,true⟩,rfl,⟨hs,Nat.zero_le _⟩,(((hr4.put hg _).put hg _).put hg _).mono (by omega),HP.out⟩
def Xi (l:List Wz):Prop:=∀i (h:i<l.length),Xu l[i]
theorem jb2 {l:List Wz} {r:Wz} (h:Xi l) (hr:Xu r):Xi (l++ [r]):=fun i hi=>by
 by_cases e:i<l.length
 ·rw[List.getElem_append_left e];exact h i e
 ·have:i=l.length:=by simp at hi;omega
  subst this;simpa using hr
def DrEdits (g P:Nat) (w:World) (e:Ending) (w':World):Prop:=
 ∃v l,e= .returned v∧w'.ownsRow w.heap.size 59 3 v l.length (l.flatMap Jp)∧Xi l∧l.length≤4∧Rd w' g P∧Only [g] w w'
theorem jcl:(Tryz.prog.info? 59).map (fun i=>(i.zero,i.size,i.bytes))=some (some (.agg #[.string ByteArray.empty,.string ByteArray.empty,.bool false]),3,40):=by kernel_rfl
theorem jeu (g P:Nat) (hP:P+20≤1000000) (w:World) (h:Rd w g P):
  Calls Tryz.prog 126 #[.pointer (some ⟨g,0,none⟩)] w (DrEdits g (P+20) w):=by
 have hg:=h.lt;obtain⟨i0,hi,hz0,hz1,hz2⟩:=info_parts jcl;have HO:=Ja (World.ownsRow_made (base:=w.heap.size) (e:=59) (size:=3) w #[] 0 nle (by simp[maxLen]) rfl);go_enter Tryz.func126,Tryz.ntmps126;go_wp2_with fail;refine(Jk g P 4 (by omega) (by omega) _ (h.step ((Below.refl _ _).alloc nle _))).mono ?_;rintro e w1 ⟨j0,rfl,hj0,hr1,ho1⟩;have HW:=Ja (Vj HO.out ho1 hg)
 have ho:=Only.box ho1;clear HO ho1;go_wp2
 go_loopw [3,4] (fun v kv wr=>∃(j:Nat) (l:List Wz),kv= .int .i64 (j:Int)∧j≤4∧wr.ownsRow w.heap.size 59 3 v l.length (l.flatMap Jp)∧Xi l∧l.length+j≤4∧Rd wr g (P+1+4*(4 - j))∧Only [g] w wr) (fun _ i _=>(intOf i).toNat)
 case atStart=>exact⟨1+j0,[],by go_num,by omega,HW.out,fun i hi=>absurd hi (by simp),by simp;omega,hr1.mono (by omega),ho⟩
 case round=>
  obtain⟨j,l,rfl,hj,hown,hfit,hl,hr,hor⟩:=hrel;have HW1:=Ja hown;have HF:=Ja hfit;clear hown hfit HW hr1 ho hj0;by_cases hlt:0<j
  ·have hlt':(0:Int)<(j:Int):=by omega
   go_wp2_with fail;refine(jc6 g (P+1+4*(4 - j)) (by omega) _ hr).mono ?_;rintro e w2 ⟨r,rfl,hrf,hr2,ho2⟩;have HR:=Ja hrf;have hown3:=Vj HW1.out ho2 hg;have hor3:=hor.trans ho2;have hsz:=hor3.size;have hbA:=(Below.refl w.heap.size w2).alloc hsz (.cells (Jp r).toArray 59);rw[show(Jp r).toArray= #[.string r.path,.string r.bytes,.bool r.gone] from rfl];clear hrf HW1 ho2 hr
   go_wp2_with(at_builtin;refine wpList_append_own _ rfl _ _ 27 rfl w.heap.size 59 i0 _ 3 40 Tryz.underlying27 hi hz0 hz1 hz2 rfl (by decide) _ _ _ rfl (hown3.alloc _) ⟨w2.heap.size,0,none⟩ 1 1 (Jp r) rfl rfl (Jm w2 (Jp r) _) (Rp.edit.one (w:=w2) ⟨rfl,rfl⟩) (by unfold maxLen;omega) (by omega) (by simp;omega) ?_);intro v4 w4 hown4 hgrow _
   have hlow:Below w.heap.size w2 w4:=hbA.grown hgrow (by simp;omega) (fun j hj=>(hown3.lt j hj).1);have hr4:=hr2.below hlow hg;have ho4:=hor3.then_low hlow;have HW4:=Ja (jcj hown4);have HF4:=Ja (jb2 HF.out HR.out);have hl4:(l++ [r]).length+(j - 1)≤4:=by simp;omega
   generalize l++ [r]=l4 at HW4 HF4 hl4;clear hown4 hgrow hlow hr2 hor3 hown3 hbA hsz HR;go_wp2;exact⟨⟨j - 1,l4,by go_num,by omega,HW4.out,HF4.out,hl4,hr4.mono (by omega),ho4⟩,by simp[intOf];omega⟩
  ·have hlt': ¬(0:Int)<(j:Int):=by omega
   go_wp2;go_ret;exact⟨_,l,rfl,HW1.out,HF.out,by omega,hr.mono (by omega),hor⟩
def Wv (path:ByteArray) (f:File):Bool:=decide (f.path=path)
theorem jo2 (x:File) (path:ByteArray) (b1:Nat) (w:World) (c1:w.cell? ⟨b1,0,none⟩=some (.string path)):
  Calls Tryz.prog 111 #[.agg (Jj x).toArray,.pointer (some ⟨b1,0,none⟩)] w fun e w'=>e= .returned (.bool (Wv path x))∧Below w.heap.size w w':=by
 have hq:=Jr x.path path;have d1:=J6 c1 (.cells #[.string x.path,.string x.bytes] 65);clear c1;unfold Jj;go_enter Tryz.func111,Tryz.ntmps111;go_wp2;go_ret;exact⟨rfl,(Below.refl _ _).alloc nle _⟩
theorem jp4 {A:Option Addr} {n c:Nat} {l:List File} {fp:List Nat} (path:ByteArray) (w:World) (hx:SlR Rp.file w A n c l fp):
  Calls Tryz.prog 56 #[.slice A n c,.string path] w fun e w'=>e= .returned (.int .i64 (jd4 (Wv path) l))∧Below w.heap.size w w':=by
 have hmf:=Zd;have h1:=hx.allocN (.cells #[.string path] 9);have HQ:=Ja (Blk.new w 9 #[.string path]);go_enter Tryz.func56,Tryz.ntmps56;go_wp2_with fail;refine(jkx (l:=l) (Wv path) _ _ (enters_of Tryz.func111 (by kernel_rfl) rfl) _ h1 (fun i hi cs fq w1 hB hR=> ?_)).mono ?_
 ·obtain⟨rfl,rfl⟩:=hR;exact jo2 l[i] path _ w1 ((HQ.out.step hB).cell 0)
 ·rintro e w1 ⟨rfl,hb1⟩;go_wp2;go_ret;exact⟨rfl,Below.box1 hb1⟩
theorem jm9 {A:Option Addr} {n c:Nat} {l:List File} {fp:List Nat} (path:ByteArray) (w:World) (hx:SlR Rp.file w A n c l fp):
  Calls Tryz.prog 178 #[.slice A n c,.string path] w fun e w'=>e= .returned (.int .i64 (jd4 (Wv path) l))∧Below w.heap.size w w':=by
 obtain⟨rfl,hcx,hmx,_⟩:=id hx;unfold maxLen at hmx;go_enter Tryz.func178,Tryz.ntmps178;go_wp2
 go_loopw [5] (fun i wr=>∃k:Nat,k≤l.length∧i= .int .i64 k∧noneTo (Wv path) l k∧Below w.heap.size w wr) (fun i _=>l.length - (intOf i).toNat)
 case atStart=>exact⟨0,Nat.zero_le _,rfl,Yh,Below.refl _ _⟩
 case round=>
  obtain⟨k,hk,rfl,hag,hbl⟩:=hrel;have HA:=Ja hag;clear hag;by_cases hlt:k<l.length
  ·obtain⟨b,o,rfl,hb,hm,h0,h1⟩:=Jx (hx.step hbl) hlt;have i0:(0:Int)≤(k:Int):=by omega
   have i1:(k:Int)<(l.length:Int):=by omega
   have hq:=Jr l[k].path path;cases hd:decide (l[k].path=path)
   ·have HN:=Ja (HA.out.next hlt hd);rw[hd] at hq;clear hd;go_wp2;exact⟨⟨k+1,by omega,by go_num,HN.out,hbl⟩,by simp[intOf];omega⟩
   ·have HN:=Ja (HA.out.hit hlt hd);rw[hd] at hq;clear hd;go_wp2;go_ret;exact⟨Xl HN.out.symm,hbl⟩
  ·have hk':k=l.length:=by omega
   subst hk';have HN:=Ja HA.out.all_;go_wp2;go_ret;exact⟨Xl HN.out.symm,hbl⟩
def jbi (es:List Wz):Prop:=es.length≤4194304∧∀e∈es,e.path.size≤4194304∧e.bytes.size≤4194304
theorem jbt {es:List Wz} {k:Nat} (h:k<es.length):Yg (es.take (k+1))=Yg (es.take k)+(es[k].path.size+es[k].bytes.size):=by
 unfold Yg;rw[List.take_succ_eq_append_getElem h];simp only[List.map_append,List.sum_append,List.map_cons,List.map_nil,List.sum_cons,List.sum_nil,Nat.add_zero]
theorem jcf {es:List Wz} (h:jbi es): ∀k,k≤es.length→Yg (es.take k)≤k*8388608
 | 0,_=>by simp[Yg]
 |k+1,hk=>by
  have ih:=jcf h k (by omega);have:=h.2 _ (List.getElem_mem (show k<es.length by omega));rw[jbt (by omega)];omega
theorem jb7 {A:Option Addr} {n c:Nat} {es:List Wz} {fp:List Nat} (w:World) (hx:SlR Rp.edit w A n c es fp) (hf:jbi es):
  Calls Tryz.prog 135 #[.slice A n c] w fun e w'=>e= .returned (.int .i64 (Yg es:Nat))∧Below w.heap.size w w':=by
 obtain⟨rfl,hcx,hmx,_⟩:=id hx;unfold maxLen at hmx;have HF:=Ja hf;have hl4:=hf.1;clear hf;go_enter Tryz.func135,Tryz.ntmps135;go_wp2
 go_loopw [3,8] (fun s i wr=>∃k:Nat,k≤es.length∧i= .int .i64 k∧s= .int .i64 (Yg (es.take k):Nat)∧Below w.heap.size w wr) (fun _ i _=>es.length - (intOf i).toNat)
 case atStart=>exact⟨0,Nat.zero_le _,rfl,rfl,Below.refl _ _⟩
 case round=>
  obtain⟨k,hk,rfl,rfl,hbl⟩:=hrel;by_cases hlt:k<es.length
  ·obtain⟨b,o,rfl,hb,hm,h0,h1,h2⟩:=Zv (hx.step hbl) hlt;have hle:=jcf HF.out k hk;have hsz:=HF.out.2 _ (List.getElem_mem hlt);have HS:=Ja (jbt hlt);have i1:(k:Int)<(es.length:Int):=by omega
   have HB:=Ja (hbl.alloc hbl.size (.cells #[.string es[k].path,.string es[k].bytes,.bool es[k].gone] 59));generalize Yg (es.take k)=s at*;obtain⟨z0,z1⟩:=hsz;go_wp2;exact⟨⟨k+1,by omega,by go_num,by rw[HS.out];go_num,HB.out⟩,by simp[intOf];omega⟩
  ·have hk':k=es.length:=by omega
   subst hk';rw[List.take_of_length_le nle];go_wp2;go_ret;exact⟨rfl,hbl⟩
theorem jby {A:Option Addr} {n c:Nat} {es:List Wz} {fp:List Nat} (w:World) (hx:SlR Rp.edit w A n c es fp) (hf:jbi es):
  Calls Tryz.prog 106 #[.slice A n c] w fun e w'=>e= .returned (.int .i64 (Yg es:Nat))∧Below w.heap.size w w':=by
 obtain⟨rfl,hcx,hmx,_⟩:=id hx;unfold maxLen at hmx;have HF:=Ja hf;have hl4:=hf.1;clear hf;go_enter Tryz.func106,Tryz.ntmps106;go_wp2
 go_loopw [3,4] (fun s i wr=>∃k:Nat,k≤es.length∧i= .int .i64 k∧s= .int .i64 (Yg (es.take k):Nat)∧Below w.heap.size w wr) (fun _ i _=>es.length - (intOf i).toNat)
 case atStart=>exact⟨0,Nat.zero_le _,rfl,rfl,Below.refl _ _⟩
 case round=>
  obtain⟨k,hk,rfl,rfl,hbl⟩:=hrel;by_cases hlt:k<es.length
  ·obtain⟨b,o,rfl,hb,hm,h0,h1,h2⟩:=Zv (hx.step hbl) hlt;have hle:=jcf HF.out k hk;have hsz:=HF.out.2 _ (List.getElem_mem hlt);have HS:=Ja (jbt hlt);have i0:(0:Int)≤(k:Int):=by omega
   have i1:(k:Int)<(es.length:Int):=by omega
   generalize Yg (es.take k)=s at*;obtain⟨z0,z1⟩:=hsz;have e1:IntKind.i64.wrap ((s:Int)+(es[k].path.size:Int))=(s:Int)+(es[k].path.size:Int):=IntWalk.i64_in _ (by omega);have e2:IntKind.i64.wrap ((s:Int)+(es[k].path.size:Int)+(es[k].bytes.size:Int))=(s:Int)+(es[k].path.size:Int)+(es[k].bytes.size:Int):=IntWalk.i64_in _ (by omega);go_wp2_with fail;go_quiet(fail);clear e1 e2;go_wp2
   exact⟨⟨k+1,by omega,by go_num,by rw[HS.out];go_num,Below.drewN' hbl _⟩,by simp[intOf];omega⟩
  ·have hk':k=es.length:=by omega
   subst hk';rw[List.take_of_length_le nle];go_wp2;go_ret;exact⟨rfl,hbl⟩
theorem jek {path:ByteArray} {l:List File} {k:Nat} (hk:k<l.length) (h:Jq path l[k].path=true):Yq (l.take (k+1)) path=Yq (l.take k) path++ [l[k]]:=by
 unfold Yq;rw[List.take_succ_eq_append_getElem hk,List.filter_append,show List.filter (fun f=>Jq path f.path) [l[k]]= [l[k]] by simp[h]]
theorem jfe {path:ByteArray} {l:List File} {k:Nat} (hk:k<l.length) (h:Jq path l[k].path=false):Yq (l.take (k+1)) path=Yq (l.take k) path:=by
 unfold Yq;rw[List.take_succ_eq_append_getElem hk,List.filter_append,show List.filter (fun f=>Jq path f.path) [l[k]]= [] by simp[h],List.append_nil]
theorem jff (path:ByteArray) (l:List File) (k:Nat):(Yq (l.take k) path).length≤l.length:=
 Nat.le_trans (List.length_filter_le _ _) (by simp;omega)
theorem je5 {A:Option Addr} {n c:Nat} {l:List File} {fp:List Nat} (path:ByteArray) (w:World) (hx:SlR Rp.file w A n c l fp) (hp:path.size≤4194304) (hf:Vk l) (hl:l.length≤4194304):
  Calls Tryz.prog 132 #[.slice A n c,.string path] w (OwnF 65 2 Jj w (Yq l path)):=by
 obtain rfl:=hx.1;obtain⟨i0,hi,hz0,hz1,hz2⟩:=info_parts Xj;have HF:=Ja hf;clear hf;go_enter Tryz.func132,Tryz.ntmps132;go_wp2
 go_loopw [5,10] (fun v i wr=>∃k:Nat,k≤l.length∧i= .int .i64 k∧wr.ownsRow w.heap.size 65 2 v (Yq (l.take k) path).length ((Yq (l.take k) path).flatMap Jj)∧Below w.heap.size w wr) (fun _ i _=>l.length - (intOf i).toNat)
 case atStart=>exact⟨0,Nat.zero_le _,rfl,World.ownsRow_nil _ _ _ _,Below.refl _ _⟩
 case round=>
  obtain⟨k,hk,rfl,hown,hbl⟩:=hrel;have hsz:=hbl.size;have hle:=jff path l k;by_cases hlt:k<l.length
  ·obtain⟨b,o,rfl,hb,hm,q0,q1⟩:=Jx (hx.step hbl) hlt;have HY:=Ja (fun(h:Jq path l[k].path=true)=>jek hlt h);have HN:=Ja (fun(h:Jq path l[k].path=false)=>jfe hlt h);have HFK:=Ja (HF.out k hlt);generalize hg:l[k]=f at q0 q1 HY HN HFK;clear hg;have kq:=Blk.new wr 65 #[.string f.path,.string f.bytes];have i1:(k:Int)<(l.length:Int):=by omega
   have HW:=Ja hown;clear hown;go_wp2_with fail;refine(Wy path f.path hp HFK.out _).mono ?_;rintro e w1 ⟨rfl,hb1⟩;have hown1:=Yx (HW.out.alloc _) hb1;replace kq:=kq.step hb1;have hbl1:=(hbl.alloc hbl.size (.cells #[.string f.path,.string f.bytes] 65)).trans (hb1.mono (by simp;omega));have hsz1:=hbl1.size;clear hb1 q0 q1 HW;cases hd:Jq path f.path
   ·have HE:=Ja (HN.out hd);have HW:=Ja hown1;clear hd hown1 kq;go_wp2;refine⟨⟨k+1,by omega,by go_num, ?_,hbl1⟩,by simp[intOf];omega⟩;rw[HE.out];exact HW.out
   ·have HE:=Ja (HY.out hd);clear hd;have u0:=Blk.c0 kq;have u1:=Blk.c1 kq
    go_wp2_with(at_builtin;refine wpList_append_own _ rfl _ _ 34 rfl w.heap.size 65 i0 _ 2 32 Tryz.underlying34 hi hz0 hz1 hz2 rfl (by decide) _ _ _ rfl (hown1.alloc _) ⟨w1.heap.size,0,none⟩ 1 1 (Jj f) rfl rfl (Jm w1 (Jj f) _) (Rp.file.one (w:=w1) ⟨rfl,rfl⟩) (by unfold maxLen;omega) (by omega) (by simp;omega) ?_);intro v' w5 hown' hgrow _;have HO:=Ja hown'
    have HBB:=Ja ((hbl1.alloc hbl1.size _).grown hgrow (by simp;omega) (fun j hj=>(hown1.lt j hj).1));clear hown' hgrow hown1 kq u0 u1 hbl1;go_wp2;refine⟨⟨k+1,by omega,by go_num, ?_,HBB.out⟩,by simp[intOf];omega⟩;rw[HE.out,List.length_append,List.flatMap_append,List.flatMap_singleton];exact HO.out
  ·have hk':k=l.length:=by omega
   subst hk';rw[List.take_of_length_le nle] at hown;have HO:=Ja hown;clear hown;go_wp2;go_ret;exact⟨_,rfl,HO.out,hbl⟩
theorem je4 {A:Option Addr} {n c:Nat} {l:List File} {fp:List Nat} (path:ByteArray) (w:World) (hx:SlR Rp.file w A n c l fp) (hp:path.size≤4194304) (hf:Vk l) (hl:l.length≤4194304):
  Calls Tryz.prog 101 #[.slice A n c,.string path] w (OwnF 65 2 Jj w (Yq l path)):=by
 obtain rfl:=hx.1;obtain⟨i0,hi,hz0,hz1,hz2⟩:=info_parts Xj;have HF:=Ja hf;have hmx:=hx.max;clear hf;have HM:=Ja (World.ownsRow_made (base:=w.heap.size) (e:=65) (size:=2) w #[] 0 nle (by simp[maxLen]) rfl);have HBM:=Ja ((Below.refl w.heap.size w).alloc nle (.cells #[] 65));go_enter Tryz.func101,Tryz.ntmps101;go_wp2
 go_loopw [5,6] (fun v i wr=>∃k:Nat,k≤l.length∧i= .int .i64 k∧wr.ownsRow w.heap.size 65 2 v (Yq (l.take k) path).length ((Yq (l.take k) path).flatMap Jj)∧Below w.heap.size w wr) (fun _ i _=>l.length - (intOf i).toNat)
 case atStart=>exact⟨0,Nat.zero_le _,rfl,HM.out,HBM.out⟩
 case round=>
  obtain⟨k,hk,rfl,hown,hbl⟩:=hrel;have hsz:=hbl.size;have hle:=jff path l k;by_cases hlt:k<l.length
  ·obtain⟨b,o,rfl,hb,hm,q0,q1⟩:=Jx (hx.step hbl) hlt;have HY:=Ja (fun(h:Jq path l[k].path=true)=>jek hlt h);have HN:=Ja (fun(h:Jq path l[k].path=false)=>jfe hlt h);have HFK:=Ja (HF.out k hlt);generalize hg:l[k]=f at q0 q1 HY HN HFK;clear hg;have i0':(0:Int)≤(k:Int):=by omega
   have i1:(k:Int)<(l.length:Int):=by omega
   have HW:=Ja hown;clear hown;go_wp2_with fail;refine(jaa path f.path hp HFK.out _).mono ?_;rintro e w1 ⟨rfl,hb1⟩;have hown1:=Yx HW.out hb1;replace q0:=Je q0 hb1;replace q1:=Je q1 hb1;have hbl1:=Below.t hbl hb1;have hsz1:=hbl1.size;clear hb1 HW;cases hd:Jq path f.path
   ·have HE:=Ja (HN.out hd);have HW:=Ja hown1;clear hd hown1 q0 q1;go_wp2;refine⟨⟨k+1,by omega,by go_num, ?_,hbl1⟩,by simp[intOf];omega⟩;rw[HE.out];exact HW.out
   ·have HE:=Ja (HY.out hd);clear hd;go_wp2_with(at_builtin;refine wpList_append_own _ rfl _ _ 34 rfl w.heap.size 65 i0 _ 2 32 Tryz.underlying34 hi hz0 hz1 hz2 rfl (by decide) _ _ _ rfl (hown1.alloc _) ⟨w1.heap.size,0,none⟩ 1 1 (Jj f) rfl rfl (Jm w1 (Jj f) _) (Rp.file.one (w:=w1) ⟨rfl,rfl⟩) (by unfold maxLen;omega) (by omega) (by simp;omega) ?_);intro v' w5 hown' hgrow _
    have HO:=Ja hown';have HBB:=Ja ((hbl1.alloc hbl1.size _).grown hgrow (by simp;omega) (fun j hj=>(hown1.lt j hj).1));clear hown' hgrow hown1 q0 q1 hbl1;go_wp2;refine⟨⟨k+1,by omega,by go_num, ?_,HBB.out⟩,by simp[intOf];omega⟩;rw[HE.out,List.length_append,List.flatMap_append,List.flatMap_singleton];exact HO.out
  ·have hk':k=l.length:=by omega
   subst hk';rw[List.take_of_length_le nle] at hown;have HO:=Ja hown;clear hown;go_wp2;go_ret;exact⟨_,rfl,HO.out,hbl⟩
end Go.Proofs.YtobbdhgkcoeifaaGreatDoor
