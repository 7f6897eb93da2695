/- FnMdlKeys: for every input the law answers true and leaves its arguments as they were. Conditions: the listed library tables read as the tie says. -/
import Derived.ProofKit
import Derived.Deep.Slices
import Derived.Deep.Fields
import Derived.WalkKit
import Derived.OpenShut
import Derived.ChangeMaps5
import Derived.Deep.DeepHandedRow
import Derived.Lib.LaidTab
import Derived.SevenTiedAt
import Derived.Test.YtlkoaobaoffpaaaGreatDoorZ27
import Derived.Test.YtlkoaobaoffpaaaGreatDoorZ24
import Derived.Test.YtlkoaobaoffpaaaGreatDoorZ20
import Derived.Test.YtlkoaobaoffpaaaGreatDoorZ5
import Derived.Test.YtlkoaobaoffpaaaGreatDoorZ28
import Derived.Test.YtlkoaobaoffpaaaGreatDoorZ15
import Derived.Test.YtlkoaobaoffpaaaGreatDoorZ1
import Derived.Test.YtlkoaobaoffpaaaGreatDoorCards
import Derived.Test.YtlkoaobaoffpaaaGreatDoorTie
namespace Go.Proofs.YtlkoaobaoffpaaaGreatDoor
open Go.RowKit
attribute [local go_sem ↓] Go.wp_at_zero Go.wp_at_succ
open Go.ChangeShapes Go.WideShapes Go.ChangeAt Go.RowKit Go.Deep
set_option maxHeartbeats 8000000
set_option maxRecDepth 100000
set_option linter.unusedSimpArgs false
set_option linter.unusedVariables false
section
variable {w w':World} {g:Nat} {m:Jl} {q:Req} {a:Ans} {K U R E F N:Value}
end
theorem HB.keys {w:World} {g:Nat} {m:Jl} {U R:Value} {A:Option Addr} {n c:Nat} (h:HB w g m (.slice A n c) U R): ∃f,SlR Rp.int w A n c m.keys f:=by
 obtain⟨f,A0,n0,c0,f0,A1,n1,c1,f1,A2,n2,c2,f2,e, -,h2, -, -⟩:=h.r;cases e;exact⟨f0,h2⟩
theorem req_with {w:World} {q q':Req} {E:Value} {f:List Nat} (h:Rp.req.R w (V5 q E).toList q f) (he:q'.Ez=q.Ez):Rp.req.R w (V5 q' E).toList q' f:=by
 obtain⟨A0,n0,c0,f0,e,hf,h1⟩:=h;have:E= .slice A0 n0 c0:=by
  have:=congrArg (fun l=>l[8]?) e;simpa [V5] using this
 subst this;exact⟨A0,n0,c0,f0,rfl,hf,he▸h1⟩
theorem fit_with {q q':Req} (h:jdu q) (h1:q'.ref=q.ref) (h2:q'.other=q.other) (h3:q'.path=q.path) (h4:q'.rule=q.rule) (h5:q'.Ez=q.Ez):jdu q':=
 ⟨by rw[h1];exact h.ref,by rw[h2];exact h.other,by rw[h3];exact h.path,by rw[h4];exact h.rule,by rw[h5];exact h.Ez⟩
section
variable {P:Program} {s:Code} {Q:Exit→Act→World→Prop} {b:Act} {w:World} {m:Jl} {q:Req} {a:Ans} {K U R E F N:Value}
def PutQ (w W:World) (g:Nat) (q:Req) (E:Value):Prop:=∀i v q',(V5 q E).setIfInBounds i v=V5 q' E→q'.Ez=q.Ez→QB (W.setCell ⟨g,i,none⟩ v) g q' E∧Below w.heap.size w (W.setCell ⟨g,i,none⟩ v)
theorem wp_Qp (hQ: ∃f,Rp.req.R w (V5 q E).toList q f) (h: ∀W,QB W w.heap.size q E→Below w.heap.size w W→PutQ w W w.heap.size q E→(∀i,W.frozen? ⟨w.heap.size,i,none⟩=false)→s.wp P Q b W):s.wp P Q b (w.alloc (.cells (RA q E) 31)):=by
 obtain⟨f,hQ⟩:=hQ;have hb:=(Below.refl w.heap.size w).alloc nle (.cells (V5 q E) 31);have hk:=Blk.new w 31 (V5 q E);have hR:=Rp.req.below hQ hb nle;refine h _ ⟨hk,f,hR⟩ hb (fun i v q' e he=> ?_) (Jb hk);refine⟨⟨e▸hk.put i v,f,Rp.req.keep (req_with hR he) fun z hz=> ?_⟩,hb.setCell nle _⟩;exact Below.heap_setCell _ _ _ _ (by have:=Rp.req.lt hQ z hz;rintro rfl;simp at this)
theorem wp_New {t:TypeId} {cs:Array Value} (h: ∀W,Blk W w.heap.size t cs→Below w.heap.size w W→s.wp P Q b W):s.wp P Q b (w.alloc (.cells cs t)):=
 h _ (Blk.new w t cs) ((Below.refl _ _).alloc nle _)
end
section
variable {w0 W W':World} {m:Jl} {q q':Req} {K U R E E':Value}
end
section
variable {w w':World} {g lo:Nat} {m:Jl} {K U R:Value}
end
theorem other_keys {m:Jl} {r:Req} {ks:List Int} {k:Int} (h:knows m.keys r.user r.key=true) (h':knows ks r.user k=true):
  Zn { m with keys:=ks} { r with key:=k} =({ (Zn m r).1 with keys:=ks},(Zn m r).2):=by
 have hw: ∀p,write { m with keys:=ks} p { r with key:=k} =({ (write m p r).1 with keys:=ks},(write m p r).2):=fun p=>by
  have e1:Yi { m with keys:=ks} p { r with key:=k} =Yi m p r:=rfl;have e2: ∀x,newest { m with keys:=ks} x { r with key:=k} =newest m x r:=fun x=>rfl;unfold write;rw[e1];simp only[e2]
  repeat' split
  all_goals first|rfl|simp_all
 unfold Zn;rw[if_pos h',if_pos h];have e3: ∀p,jad p { r with key:=k} =jad p r:=fun p=>rfl;have e4: ∀p,look p { r with key:=k} =look p r:=fun p=>rfl;have e5: ∀p,manage p { r with key:=k} =manage p r:=fun p=>rfl;have e6:Vs { r with key:=k} =Vs r:=rfl;simp only[hw,e3,e4,e5,e6];split
 ·rfl
 ·split
  ·rfl
  ·split
   ·rfl
   ·split
    ·rfl
    ·split
     ·rfl
     ·split<;>rfl
theorem keys_take {w:World} {gx:Nat} {x:Jl} {ks:List Int} {K U R K' U' R':Value} (hx:HB w gx x K' U' R') (hX: ∃f,Rp.house.R w [K,U,R] { x with keys:=ks} f): ∃f,Rp.house.R w [K',U,R] x f:=by
 obtain⟨f,A0,n0,c0,f0,A1,n1,c1,f1,A2,n2,c2,f2,e, -, -,j1,j2⟩:=hX;obtain⟨f',B0,m0,d0,g0,B1,m1,d1,g1,B2,m2,d2,g2,e', -,j0, -, -⟩:=hx.r;cases e;cases e';exact⟨_,B0,m0,d0,g0,_,_,_,f1,_,_,_,f2,rfl,rfl,j0,j1,j2⟩
structure KI (w0:World) (g:Nat) (v U R:Value) (l:List Int) (wz:World):Prop where
 blk:Blk wz g 26 #[v,U,R]
 own:wz.ownsRow (g+1) 3 1 v l.length (l.flatMap fun n=>[.int .i64 n])
 on:Below w0.heap.size w0 wz
 low:w0.heap.size≤g
section
variable {w0 w wz w1 w':World} {g:Nat} {v v' K U R:Value} {l:List Int} {x:Int}
theorem KI.start (hb:Below w0.heap.size w0 w) (h:Blk w w0.heap.size 26 #[K,U,R]):
  KI w0 w0.heap.size (.slice (some ⟨w.heap.size,0,none⟩) 0 0) U R [] ((w.alloc (.cells #[] 3)).setCell ⟨w0.heap.size,0,none⟩ (.slice (some ⟨w.heap.size,0,none⟩) 0 0)):=by
 have hl:=h.lt;have ha:=(Below.refl w.heap.size w).alloc nle (.cells #[] 3);refine⟨(h.step ha).put 0 _, ?_,(Below.t hb ha).setCell nle _,Nat.le_refl _⟩;have ho:(w.alloc (.cells #[] 3)).ownsRow (w0.heap.size+1) 3 1 (.slice (some ⟨w.heap.size,0,none⟩) 0 0) 0 []:=World.ownsRow_made w #[] 0 hl (by simp[maxLen]) rfl
 exact Jy ho fun b hb=>Below.heap_setCell _ _ _ _ (by have:=(Jn ho b hb).1;simp only;omega)
theorem KI.step (h:KI w0 g v U R l wz) (hb:Below wz.heap.size wz w'):KI w0 g v U R l w':=⟨h.blk.step hb,Yx h.own hb,Below.t h.on hb,h.low⟩
theorem KI.next (h:KI w0 g v U R l w1) (ho:w'.ownsRow (g+1) 3 1 v' (l.length+1) ((l.flatMap fun n=>[.int .i64 n])++ [.int .i64 x])) (hg:w1.grownBy w' v.ownBlock):
  Blk w' g 26 #[v,U,R]∧KI w0 g v' U R (l++ [x]) (w'.setCell ⟨g,0,none⟩ v'):=by
 have hk:Blk w' g 26 #[v,U,R]:=h.blk.grown hg fun k hk=>by have:=(h.own.lt k hk).1;omega
 refine⟨hk,hk.put 0 _, ?_,(h.on.grown hg h.on.size (fun k hk=>by have:=(h.own.lt k hk).1;have:=h.low;omega)).setCell h.low _,h.low⟩;have ho2:=Jy (w':=w'.setCell ⟨g,0,none⟩ v') ho fun b hb=>Below.heap_setCell _ _ _ _ (by have:=(Jn ho b hb).1;simp only;omega);rw[List.length_append,List.length_singleton,List.flatMap_append,List.flatMap_singleton];exact ho2
theorem KI.hb {m:Jl} {K0:Value} {g':Nat} (h:KI w0 g v U R l wz) (hm:HB wz g' m K0 U R): ∃A c,v= .slice A l.length c∧HB wz g { m with keys:=l} (.slice A l.length c) U R:=by
 obtain⟨A,c,f,rfl,hs, -⟩:=Xw (k:=1) (enc:=fun n=>[Value.int .i64 n]) (hk:=fun _=>rfl) (h1:=fun x u hu=>by simp at hu;subst hu;rfl) h.own;obtain⟨_,A0,n0,c0,f0,A1,n1,c1,f1,A2,n2,c2,f2,e, -, -,j1,j2⟩:=hm.r;cases e;exact⟨A,c,rfl,h.blk,_,A,_,c,f,_,_,_,f1,_,_,_,f2,rfl,rfl,hs,j1,j2⟩
end
def nk (n x:Int):Int:=1+(x*7+n) % 9999
theorem nk_ok (n x:Int):1≤nk n x∧nk n x≤9999:=by unfold nk;omega
theorem keys_new {m:Jl} (n:Int) (hm:Ys m=true):Ys { m with keys:=m.keys.map (nk n)} =true:=by
 obtain⟨h1,h2,h3⟩:=Jo.1 hm;obtain⟨u1,u2,u3,u4⟩:=J8.1 h1;refine Jo.2 ⟨J8.2 ⟨by simpa using u1,by simpa using u2,fun k hk=> ?_,u4⟩,h2,by simpa using h3⟩;obtain⟨x, -,rfl⟩:=List.mem_map.1 hk;exact nk_ok n x
theorem reqOk_key {r:Req} (h:Yw r=true) {k:Int} (h1:1≤k) (h2:k≤9999):Yw { r with key:=k} =true:=by
 simp only[Yw,Bool.and_eq_true] at h ⊢;refine⟨⟨⟨⟨⟨⟨⟨⟨?_, ?_⟩, ?_⟩, ?_⟩, ?_⟩, ?_⟩, ?_⟩, ?_⟩, ?_⟩
 all_goals first|exact jap.2 ⟨by omega,h2⟩|simp_all [jap]
theorem key_knows {keys:List Int} {user k:Int} {j:Nat} (hu:user=(j:Int)+1) (hj:j<keys.length) (hk:k=keys[j]):knows keys user k=true:=by
 unfold knows;rw[Bool.and_eq_true,decide_eq_true_iff];refine⟨jap.2 ⟨by omega,by omega⟩, ?_⟩;rw[show(user - 1).toNat=j by omega,List.getElem?_eq_getElem hj,hk]
theorem keys_else {m x:Jl} {a:Ans} {q:Req} {n:Int} {j:Nat} (hm:Ys m=true) (hq:Yw q=true) (hd:Zn m q=(x,a)) (hu:q.user=(j:Int)+1) (hj:j<m.keys.length) (hk:q.key=m.keys[j]):
  jai { m with keys:=m.keys.map (nk n)} { q with key:=nk n m.keys[j]} =({ x with keys:=m.keys.map (nk n)},a):=by
 rw[jhr ⟨keys_new n hm,reqOk_key hq (nk_ok n _).1 (nk_ok n _).2⟩,other_keys (key_knows hu hj hk) (key_knows (keys:=m.keys.map (nk n)) hu (by simpa using hj) (by simp)),hd]
theorem lawKeys (w:World) {A:Option Addr} {n c:Nat} {code:List UInt8} {fp:List Nat} (hx:SlR Rp.byte w A n c code fp):
  Calls Tryz.prog 4 #[.slice A n c] w fun e w'=>e= .returned (.bool true)∧Below w.heap.size w w':=by
 obtain⟨rfl,hcx,hmx, -⟩:=id hx;unfold maxLen at hmx;go_enter Tryz.func4,Tryz.ntmps4;by_cases hlen:(1048576:Int)<(code.length:Int)
 ·go_wp2;go_ret;exact⟨rfl,Below.refl _ _⟩
 go_wp2_with fail;refine(jp5 _ hx).mono ?_;rintro e w1 ⟨m,q,A0,n0,c0,A1,n1,c1,A2,n2,c2,A3,c3,f,fq,rfl,hR,hQ,hok,hsm, -, -,HB⟩;clear hx;obtain rfl:n2=m.Rz.length:=by
  obtain⟨_,_,_,_,_,_,_,_,_,_,_,_,he, -, -, -,h2⟩:=hR;cases he;exact h2.1
 go_upto_region 4 with fail
 refine wp_HQ ⟨_,hR⟩ ⟨_,hQ⟩ ?_;intro w2 hm hq hb3;replace HB:=Below.t HB hb3;have hf:=Ja (And.intro hok.1 (jo1 hsm));clear hR hQ hb3 hok;have HS:=Ja hsm;clear hsm;obtain⟨x,a,ho⟩: ∃x a,jai m q=(x,a):=⟨_,_,rfl⟩;have HO:=Ja ho;clear ho;obtain⟨x0,x1,x2⟩:=hm.cells;go_wp2_with((refine wpList_load_row rfl 31 (.tmp 4) rfl _ rfl _ _ _ _ hq.k.out Tryz.underlying31 rfl jb3 ?_))
 go_wp2_with fail;refine(implDo hm hq hf.out.1 hf.out.2).mono ?_;rintro e w3 hd;obtain⟨A4,na4,ca4,A5,na5,ca5,A6,ca6,B0,nb0,cb0,B1,nb1,cb1,rfl,hX,hA,hb3⟩:=hd.parts HO.out;replace hm:=hm.step hb3;replace hq:=hq.step hb3;replace HB:=Below.t HB hb3;clear hb3 hd x0 x1 x2;go_upto_region 5 with fail
 refine wp_HA hX hA ?_;intro w4 hx ha hb3;replace hm:=hm.step hb3;replace hq:=hq.step hb3;replace HB:=Below.t HB hb3;clear hb3 hX hA;obtain⟨x0,x1,x2⟩:=hm.cells;go_wp2_with((refine wpList_load_row rfl 31 (.tmp 4) rfl _ rfl _ _ _ _ hq.k.out Tryz.underlying31 rfl jb3 ?_));go_wp2_with fail;refine(specDo hm hq hf.out.1 hf.out.2).mono ?_;rintro e w5 hd
 obtain⟨A7,na7,ca7,A8,na8,ca8,A9,ca9,B2,nb2,cb2,B3,nb3,cb3,rfl,hX,hA,hb3⟩:=hd.parts HO.out;replace hm:=hm.step hb3;replace hq:=hq.step hb3;replace HB:=Below.t HB hb3;replace hx:=hx.step hb3;replace ha:=ha.step hb3;clear hb3 hd x0 x1 x2;go_upto_region 6 with fail
 refine wp_HA hX hA ?_;intro w6 hy hb hb3;replace hm:=hm.step hb3;replace hq:=hq.step hb3;replace HB:=Below.t HB hb3;replace hx:=hx.step hb3;replace ha:=ha.step hb3;clear hb3 hX hA;obtain⟨x0,x1,x2⟩:=hx.cells;obtain⟨y0,y1,y2⟩:=hy.cells;go_wp2_with fail;refine(jqp hx hy).mono ?_;rintro e w7 ⟨rfl,hb3⟩;replace hm:=hm.step hb3;replace hq:=hq.step hb3;replace HB:=Below.t HB hb3
 replace hx:=hx.step hb3;replace ha:=ha.step hb3;replace hy:=hy.step hb3;replace hb:=hb.step hb3;clear hb3 x0 x1 x2 y0 y1 y2;obtain⟨x0,x1,x2,x3⟩:=ha.cells;obtain⟨y0,y1,y2,y3⟩:=hb.cells;go_wp2_with fail;refine(jp8 ha hb).mono ?_;rintro e w8 ⟨rfl,hb3⟩;replace hm:=hm.step hb3;replace hq:=hq.step hb3;replace HB:=Below.t HB hb3;replace hx:=hx.step hb3;replace ha:=ha.step hb3
 clear hb3 x0 x1 x2 x3 y0 y1 y2 y3 hy hb;obtain⟨fk,hkk⟩:=hm.keys;obtain⟨rfl,hkc,hkm, -⟩:=id hkk;unfold maxLen at hkm;obtain⟨x0,x1,x2⟩:=hm.cells;obtain⟨q0,q1,q2,q3,q4,q5,q6,q7,q8,q9,q10,q11,q12,q13,q14⟩:=hq.cells;have C1:=fun n:BelowW w8=>jhe n.val (hm.step n.property).r.choose_spec hf.out.1;have C2:=fun n:BelowW w8=>jhd n.val (hq.step n.property).r.choose_spec hf.out.2
 go_upto_region 8 with fail
 go_cut [76] from 44 to 76 (fun v wx=>∃bb:Bool,v= .bool bb∧(bb=false→Ys m=true∧Yw q=true∧∃j:Nat,q.user=(j:Int)+1∧∃h:j<m.keys.length,q.key=m.keys[j])∧Below w8.heap.size w8 wx)
 case first=>
  clear hm hq hx ha HB HO HS hf hkc hcx hmx hlen;cases hmo:Ys m
  ·skip;simp only[hmo] at C1;have D1:=Ja C1;clear C1 C2 hmo
   as_aux_lemma=>
    have n0:=BelowW.nonempty w8;have ex0:=BelowW.ex (w:=w8);have g0:=bwc x0;have g1:=bwc x1;have g2:=bwc x2;clear x0 x1 x2;refine Jf (by kernel_rfl) (by kernel_rfl) ?_
    repeat(go_big_quiet_step(first|(go_at_call 16;exact BelowW.calls _ (D1.out _))))
    refine wpQuiet_nil ?_;rintro w9 ⟨m9,hw9⟩;have hb9:=m9.property;rw[←hw9] at hb9;clear hw9 m9;go_wp2_with fail;go_meet
    case rel=>exact⟨true,rfl,by simp,hb9⟩
  cases hro:Yw q
  ·skip;simp only[hmo,hro] at C1 C2;have D1:=Ja C1;have D2:=Ja C2;clear C1 C2 hmo hro
   as_aux_lemma=>
    have n0:=BelowW.nonempty w8;have ex0:=BelowW.ex (w:=w8);have g0:=bwc x0;have g1:=bwc x1;have g2:=bwc x2;have g3:=bwc q0;have g4:=bwc q1;have g5:=bwc q2;have g6:=bwc q3;have g7:=bwc q4;have g8:=bwc q5;have g9:=bwc q6;have g10:=bwc q7;have g11:=bwc q8;have g12:=bwc q9;have g13:=bwc q10;have g14:=bwc q11;have g15:=bwc q12;have g16:=bwc q13;have g17:=bwc q14
    clear x0 x1 x2 q0 q1 q2 q3 q4 q5 q6 q7 q8 q9 q10 q11 q12 q13 q14;refine Jf (by kernel_rfl) (by kernel_rfl) ?_
    repeat(go_big_quiet_step(first|(go_at_call 16;exact BelowW.calls _ (D1.out _))|(go_at_call 21;exact BelowW.calls _ (D2.out _))))
    refine wpQuiet_nil ?_;rintro w9 ⟨m9,hw9⟩;have hb9:=m9.property;rw[←hw9] at hb9;clear hw9 m9;go_wp2_with fail;go_meet
    case rel=>exact⟨true,rfl,by simp,hb9⟩
  have HMR:=Ja (And.intro hmo hro);simp only[hmo,hro] at C1 C2;have D1:=Ja C1;have D2:=Ja C2;clear C1 C2 hmo hro;cases e1:decide (q.user<1);rotate_left
  ·skip
   as_aux_lemma=>
    have n0:=BelowW.nonempty w8;have ex0:=BelowW.ex (w:=w8);have g0:=bwc x0;have g1:=bwc x1;have g2:=bwc x2;have g3:=bwc q0;have g4:=bwc q1;have g5:=bwc q2;have g6:=bwc q3;have g7:=bwc q4;have g8:=bwc q5;have g9:=bwc q6;have g10:=bwc q7;have g11:=bwc q8;have g12:=bwc q9;have g13:=bwc q10;have g14:=bwc q11;have g15:=bwc q12;have g16:=bwc q13;have g17:=bwc q14
    clear x0 x1 x2 q0 q1 q2 q3 q4 q5 q6 q7 q8 q9 q10 q11 q12 q13 q14;refine Jf (by kernel_rfl) (by kernel_rfl) ?_
    repeat(go_big_quiet_step(first|(go_at_call 16;exact BelowW.calls _ (D1.out _))|(go_at_call 21;exact BelowW.calls _ (D2.out _))))
    refine wpQuiet_nil ?_;rintro w9 ⟨m9,hw9⟩;have hb9:=m9.property;rw[←hw9] at hb9;clear hw9 m9;go_wp2_with fail;go_meet
    case rel=>exact⟨true,rfl,by simp,hb9⟩
  cases e2:decide ((m.keys.length:Int)<q.user);rotate_left
  ·skip
   as_aux_lemma=>
    have n0:=BelowW.nonempty w8;have ex0:=BelowW.ex (w:=w8);have g0:=bwc x0;have g1:=bwc x1;have g2:=bwc x2;have g3:=bwc q0;have g4:=bwc q1;have g5:=bwc q2;have g6:=bwc q3;have g7:=bwc q4;have g8:=bwc q5;have g9:=bwc q6;have g10:=bwc q7;have g11:=bwc q8;have g12:=bwc q9;have g13:=bwc q10;have g14:=bwc q11;have g15:=bwc q12;have g16:=bwc q13;have g17:=bwc q14
    clear x0 x1 x2 q0 q1 q2 q3 q4 q5 q6 q7 q8 q9 q10 q11 q12 q13 q14;refine Jf (by kernel_rfl) (by kernel_rfl) ?_
    repeat(go_big_quiet_step(first|(go_at_call 16;exact BelowW.calls _ (D1.out _))|(go_at_call 21;exact BelowW.calls _ (D2.out _))))
    refine wpQuiet_nil ?_;rintro w9 ⟨m9,hw9⟩;have hb9:=m9.property;rw[←hw9] at hb9;clear hw9 m9;go_wp2_with fail;go_meet
    case rel=>exact⟨true,rfl,by simp,hb9⟩
  obtain⟨j,hj⟩: ∃j:Nat,q.user=(j:Int)+1:=⟨(q.user - 1).toNat,by have:=of_decide_eq_false e1;omega⟩;have hjl:j<m.keys.length:=by have:=of_decide_eq_false e2;omega
  have HJ:=Ja (And.intro hj hjl);obtain⟨bk,ok,rfl, -, -,u0⟩:=Xg hkk hjl;have f1: ¬q.user<1:=by omega
  have f2: ¬(m.keys.length:Int)<q.user:=by omega
  have j0:(0:Int)≤(j:Int):=by omega
  have j1:(j:Int)<(m.keys.length:Int):=by omega
  have j4:(j:Int)<4:=by have:=(J8.1 (Jo.1 HMR.out.1).1).1.2;omega
  have jw:IntKind.i64.wrap (q.user - 1)=(j:Int):=by rw[show q.user - 1=(j:Int) by omega];exact IntWalk.i64_in _ (by omega)
  clear e1 e2 hj hkm;cases e3:(q.key !=m.keys[j]);rotate_left
  ·skip
   as_aux_lemma=>
    have n0:=BelowW.nonempty w8;have ex0:=BelowW.ex (w:=w8);have g0:=bwc x0;have g1:=bwc x1;have g2:=bwc x2;have g3:=bwc q0;have g4:=bwc q1;have g5:=bwc q2;have g6:=bwc q3;have g7:=bwc q4;have g8:=bwc q5;have g9:=bwc q6;have g10:=bwc q7;have g11:=bwc q8;have g12:=bwc q9;have g13:=bwc q10;have g14:=bwc q11;have g15:=bwc q12;have g16:=bwc q13;have g17:=bwc q14;have g18:=bwc u0
    clear x0 x1 x2 q0 q1 q2 q3 q4 q5 q6 q7 q8 q9 q10 q11 q12 q13 q14 u0;refine Jf (by kernel_rfl) (by kernel_rfl) ?_
    repeat(go_big_quiet_step(first|(go_at_call 16;exact BelowW.calls _ (D1.out _))|(go_at_call 21;exact BelowW.calls _ (D2.out _))))
    refine wpQuiet_nil ?_;rintro w9 ⟨m9,hw9⟩;have hb9:=m9.property;rw[←hw9] at hb9;clear hw9 m9;go_wp2_with fail;go_meet
    case rel=>exact⟨true,rfl,by simp,hb9⟩
  have HE3:=Ja (show q.key=m.keys[j] by simpa using e3)
  as_aux_lemma=>
   have n0:=BelowW.nonempty w8;have ex0:=BelowW.ex (w:=w8);have g0:=bwc x0;have g1:=bwc x1;have g2:=bwc x2;have g3:=bwc q0;have g4:=bwc q1;have g5:=bwc q2;have g6:=bwc q3;have g7:=bwc q4;have g8:=bwc q5;have g9:=bwc q6;have g10:=bwc q7;have g11:=bwc q8;have g12:=bwc q9;have g13:=bwc q10;have g14:=bwc q11;have g15:=bwc q12;have g16:=bwc q13;have g17:=bwc q14;have g18:=bwc u0
   clear x0 x1 x2 q0 q1 q2 q3 q4 q5 q6 q7 q8 q9 q10 q11 q12 q13 q14 u0;refine Jf (by kernel_rfl) (by kernel_rfl) ?_
   repeat(go_big_quiet_step(first|(go_at_call 16;exact BelowW.calls _ (D1.out _))|(go_at_call 21;exact BelowW.calls _ (D2.out _))))
   refine wpQuiet_nil ?_;rintro w9 ⟨m9,hw9⟩;have hb9:=m9.property;rw[←hw9] at hb9;clear hw9 m9;go_wp2_with fail;go_meet
   case rel=>exact⟨false,rfl,fun _=>⟨HMR.out.1,HMR.out.2,j,HJ.out.1,HJ.out.2,HE3.out⟩,hb9⟩
 case rest=>
  obtain⟨w10,hw10⟩: ∃w10,w10=wc:=⟨_,rfl⟩;subst hw10;obtain⟨bb,rfl,hcc,hb3⟩:=hcut;have HCC:=Ja hcc;clear hcc C1 C2 x0 x1 x2 hkk q0 q1 q2 q3 q4 q5 q6 q7 q8 q9 q10 q11 q12 q13 q14;replace hm:=hm.step hb3;replace hq:=hq.step hb3;replace HB:=Below.t HB hb3;replace hx:=hx.step hb3;replace ha:=ha.step hb3;clear hb3;cases bb;rotate_left
  ·skip;obtain⟨x0,x1,x2⟩:=hm.cells;have C1:=fun n:BelowW w10=>jhy n.val (hm.step n.property).r.choose_spec hf.out.1;have C2:=fun n:BelowW w10=>jhe n.val (hm.step n.property).r.choose_spec hf.out.1;have C3:=fun n:BelowW w10=>chOk_any n.val;go_upto_region 9 with fail
   cases hmo:Ys m
   all_goals
    simp only[hmo] at C1 C2;have D1:=Ja C1;have D2:=Ja C2;have D3:=Ja C3;clear C1 C2 C3 hmo;have n0:=BelowW.nonempty w10;have ex0:=BelowW.ex (w:=w10);have g0:=bwc x0;have g1:=bwc x1;have g2:=bwc x2;clear x0 x1 x2;refine Jf (by kernel_rfl) (by kernel_rfl) ?_
    repeat(go_big_quiet_step(first|(go_at_call 23;exact BelowW.calls _ (D1.out _))|(go_at_call 16;exact BelowW.calls _ (D2.out _))|(go_at_call 22;exact BelowW.calls _ (D3.out _))))
    refine wpQuiet_nil ?_;rintro w9 ⟨m9,hw9⟩;have hb9:=m9.property;rw[←hw9] at hb9;clear hw9 m9;go_wp2;go_ret;exact⟨rfl,Below.t HB hb9⟩
  obtain⟨hmo,hro,j,hj,hjl,hkey⟩:=HCC.out rfl;have HOK:=Ja (And.intro hmo hro);have HD:=Ja (show Zn m q=(x,a) by rw[←HO.out,jhr HOK.out]);have HO2:=Ja (keys_else (n:=(code.length:Int)) hmo hro HD.out hj hjl hkey);have HMK:=Ja (Jv (keys_new (code.length:Int) hmo));have HKB:=Ja (J8.1 (Jo.1 hmo).1).2.2.1;have HK4:=Ja (J8.1 (Jo.1 hmo).1).1.2
  have HJ:=Ja (And.intro hj hjl);clear hmo hro hj hkey HCC;obtain⟨x0,x1,x2⟩:=hm.cells;go_upto_region 11 with fail
  clear x0 x1 x2;refine wp_New ?_;intro w11 hn hb3;have hbn:=hb3;clear hb3;have n0:=hn.cell 0;simp only[List.getElem?_toArray,List.getElem?_cons_zero] at n0;have yn:=fun y:Obj=>J6 n0 y;have zn:=fun y:Obj=>Jb (hn.step ((Below.refl _ _).alloc nle y)) 0;have HKI:=Ja (KI.start hbn hn);have HM:=Ja hm;have HQ:=Ja hq;have HXO:=Ja hx;have HA:=Ja ha;have HBB:=Ja HB
  clear n0 hn hbn hm hq hx ha HB;obtain⟨ii,hi0,hz0,hz1,hz2⟩:=info_parts jfw;go_upto_region 12 with fail
  clear yn zn;generalize(w11.alloc (.cells #[] 3)).setCell ⟨w10.heap.size,0,none⟩ (.slice (some ⟨w11.heap.size,0,none⟩) 0 0)=w12 at HKI ⊢;go_wp2_with fail
  go_loopw [10] (fun iv wz=>∃(k:Nat) (v:Value),k≤m.keys.length∧iv= .int .i64 k∧KI w10 w10.heap.size v (.slice A1 n1 c1) (.slice A2 m.Rz.length c2) ((m.keys.take k).map (nk code.length)) wz) (fun iv _=>m.keys.length - (intOf iv).toNat)
  case atStart=>exact⟨0,_,Nat.zero_le _,rfl,HKI.out⟩
  case round=>
   obtain⟨k,v,hk,rfl,hki⟩:=hrel;have HK:=Ja hki;have hm:=HM.out.step hki.on;obtain⟨fk,hkk⟩:=hm.keys;obtain⟨x0, -, -⟩:=hm.cells;by_cases hlt:k<m.keys.length
   ·obtain⟨bk,ok,rfl, -, -,u0⟩:=Xg hkk hlt;have n0:=hki.blk.cell 0;simp only[List.getElem?_toArray,List.getElem?_cons_zero] at n0;have k0:(0:Int)≤(k:Int):=by omega
    have k1:(k:Int)<(m.keys.length:Int):=by omega
    have hb0:=(HKB.out _ (List.getElem_mem hlt)).1;have hb1:=(HKB.out _ (List.getElem_mem hlt)).2;have HNK:=Ja (show(m.keys.take (k+1)).map (nk code.length)=(m.keys.take k).map (nk code.length)++ [nk code.length m.keys[k]] by rw[List.take_succ_eq_append_getElem hlt,List.map_append];rfl);have HLK:=Ja (show((m.keys.take k).map (nk code.length)).length=k by simp;omega);have HKL:=Ja hki.blk.lt
    have HKN:=Ja (show k+1≤4 by have:=HK4.out;omega);have e1:IntKind.i64.wrap (m.keys[k]*7)=m.keys[k]*7:=IntWalk.i64_in _ (by omega);have e2:IntKind.i64.wrap (m.keys[k]*7+(code.length:Int))=m.keys[k]*7+(code.length:Int):=IntWalk.i64_in _ (by omega);have e3:(m.keys[k]*7+(code.length:Int)).tmod 9999=(m.keys[k]*7+(code.length:Int)) % 9999:=Int.tmod_eq_emod_of_nonneg (by omega)
    have e4:IntKind.i64.wrap (1+(m.keys[k]*7+(code.length:Int)) % 9999)=nk code.length m.keys[k]:=IntWalk.i64_in _ (by omega);clear hb0 hb1;clear hki hkk hm hkc;go_upto_region 15 with fail
    have yn0:=fun y:Obj=>J6 n0 y;refine jnt fun K hK=> ?_;have HKK:=Ja hK;clear hK
    go_region_law (refine Xt rfl (.tmp 96) (.tmp 108) 23 rfl (w10.heap.size+1) 3 ii _ 1 8 Tryz.underlying23 hi0 hz0 hz1 hz2 rfl (by decide) v ((m.keys.take k).map (nk code.length)).length (((m.keys.take k).map (nk code.length)).flatMap fun n=>[.int .i64 n]) (by simp[Act.eval,Act.put]) (HK.out.step (by first|exact((Below.refl _ _).alloc nle _).drew|exact((Below.refl _ _).drew).alloc nle _)).own ⟨wr.heap.size,0,none⟩ 1 1 [.int .i64 (nk code.length m.keys[k])] (by simp[Act.eval,Act.put]) rfl (by first|exact Jm wr.drew _ _|exact Jm wr _ _) (by intro u hu;simp at hu;subst hu;rfl) (by rw[HLK.out];have:=HKN.out;unfold maxLen;omega) (by rw[HLK.out];have:=HKN.out;omega) (by simp;have:=HKL.out;omega) ?_;intro v' w6 ho6 hg6;obtain⟨g6,cap6,rfl, -, -⟩:=jav ho6 (Nat.succ_pos _);obtain⟨k6,P6⟩:=(HK.out.step (by first|exact((Below.refl _ _).alloc nle _).drew|exact((Below.refl _ _).drew).alloc nle _)).next ho6 hg6;have cb6:=k6.cell 0;have zb6:=Jb k6 0;simp only[List.getElem?_toArray,List.getElem?_cons_zero] at cb6)
    all_goals
     refine HKK.out _ _ ?_;clear HKK K;rw[HLK.out] at P6;generalize w6.setCell ⟨w10.heap.size,0,none⟩ (.slice (some ⟨g6,0,none⟩) (k+1) cap6)=w7 at P6 ⊢;have HP:=Ja P6;clear P6 k6 cb6 zb6 ho6 hg6 yn0 n0 u0 x0 e1 e2 e3 e4;have hk4:=HKN.out;go_wp2;exact⟨⟨k+1,_,by omega,by go_num,by rw[HNK.out];exact HP.out⟩,by simp[intOf];omega⟩
   ·have hk':k=m.keys.length:=by omega
    subst hk';rw[List.take_length] at HK;clear hki hkk hm;have hm:=HM.out.step HK.out.on;have hq:=HQ.out.step HK.out.on;have hx:=HXO.out.step HK.out.on;have ha:=HA.out.step HK.out.on;have HB:=Below.t HBB.out HK.out.on;obtain⟨q0,q1,q2,q3,q4,q5,q6,q7,q8,q9,q10,q11,q12,q13,q14⟩:=hq.cells;go_upto_region 17 with fail
    clear q0 q1 q2 q3 q4 q5 q6 q7 q8 q9 q10 q11 q12 q13 q14 x0;refine wp_Qp hq.r ?_;intro w31 hr hb3 hput hfz;have hq7:=hq.step hb3;have hn:=(HK.out.step hb3).hb (hm.step hb3);obtain⟨A',c',rfl,hn⟩:=hn;obtain⟨fk,hkk⟩:=hn.keys;have hjl:=HJ.out.2;obtain⟨-,hkc,hkm, -⟩:=id hkk;unfold maxLen at hkm;have hjn:j<(m.keys.map (nk code.length)).length:=by simpa using hjl
    have hln:(m.keys.map (nk code.length)).length=m.keys.length:=by simp
    obtain⟨bk,ok,rfl, -, -,u0⟩:=Xg hkk hjn;simp only[List.getElem_map] at u0;have hn:=hn;obtain⟨n0, -, -⟩:=hn.cells;obtain⟨q0, -⟩:=hq7.cells;obtain⟨-,r1, -⟩:=hr.cells;rw[HJ.out.1] at q0;have z1:=hfz 1;have j0:(0:Int)≤(j:Int):=by omega
    have j1:(j:Int)<((m.keys.map (nk code.length)).length:Int):=by omega
    generalize hKN:nk (code.length:Int) m.keys[j]=kn at u0;clear hkk hq7;go_upto_region 18 with fail
    obtain⟨hr2,hb4⟩:=hput 1 (.int .i64 kn) { q with key:=kn} rfl rfl;generalize w31.setCell ⟨wr.heap.size,1,none⟩ (.int .i64 kn)=w32 at hr2 hb4 ⊢;obtain⟨A2',c2',he,hn⟩:=(HK.out.step hb4).hb (hm.step hb4);cases he;rw[List.length_map] at hn;clear n0 q0 r1 z1 u0 hr hput hfz hb3 j0 j1 hkc hkm hln hjn;replace hm:=hm.step hb4;replace hq:=hq.step hb4;replace hx:=hx.step hb4;replace ha:=ha.step hb4
    replace HB:=Below.t HB hb4;clear hb4 hm hq;have HFR:=Ja (fit_with (q':= { q with key:=kn}) hf.out.2 rfl rfl rfl rfl rfl);have HF2:=Ja (And.intro HMK.out HFR.out);rw[hKN] at HO2;clear hKN;generalize({ q with key:=kn} :Req)=q' at hr2 HO2 HF2;obtain⟨mm,hmm⟩: ∃mm:Jl,mm= { m with keys:=m.keys.map (nk code.length)} :=⟨_,rfl⟩
    obtain⟨xx,hxx⟩: ∃xx:Jl,xx= { x with keys:=m.keys.map (nk code.length)} :=⟨_,rfl⟩;rw[←hmm] at hn HF2 HO2;rw[←hxx] at HO2;have HXX:=Ja hxx;clear hmm hxx;obtain⟨x0,x1,x2⟩:=hn.cells;go_wp2_with((refine wpList_load_row rfl 31 (.tmp 11) rfl _ rfl _ _ _ _ hr2.k.out Tryz.underlying31 rfl jb3 ?_));go_wp2_with fail;refine(implDo hn hr2 HF2.out.1 HF2.out.2).mono ?_;rintro e w33 hd
    obtain⟨D4,nd4,cd4,D5,nd5,cd5,D6,cd6,E0,ne0,ce0,E1,ne1,ce1,rfl,hX,hA,hb3⟩:=hd.parts HO2.out;replace hn:=hn.step hb3;replace hr2:=hr2.step hb3;replace hx:=hx.step hb3;replace ha:=ha.step hb3;replace HB:=Below.t HB hb3;clear hb3 hd x0 x1 x2;obtain⟨x0, -, -⟩:=hx.cells;have yx:=fun y z:Obj=>J6 (J6 x0 y) z;go_upto_region 20 with fail
    have hX2: ∃f,Rp.house.R w33 [.slice D4 nd4 cd4,.slice D5 nd5 cd5,.slice D6 xx.Rz.length cd6] { x with keys:=m.keys.map (nk code.length)} f:=by
     have e:=HXX.out;generalize xx.Rz.length=nl at hX ⊢;rw[e] at hX;exact hX
    refine wp_HA (keys_take hx hX2) hA ?_;intro w34 hy hb hb3;replace hn:=hn.step hb3;replace hr2:=hr2.step hb3;replace hx:=hx.step hb3;replace ha:=ha.step hb3;replace HB:=Below.t HB hb3;clear hb3 hX hX2 hA yx x0;obtain⟨x0,x1,x2,x3⟩:=ha.cells;obtain⟨y0,y1,y2,y3⟩:=hb.cells;go_wp2_with fail;refine(jp8 ha hb).mono ?_;rintro e w35 ⟨rfl,hb3⟩;replace hx:=hx.step hb3;replace hy:=hy.step hb3
    replace HB:=Below.t HB hb3;clear hb3 x0 x1 x2 x3 y0 y1 y2 y3;obtain⟨x0,x1,x2⟩:=hx.cells;obtain⟨y0,y1,y2⟩:=hy.cells;go_wp2_with fail;refine(jqp hx hy).mono ?_;rintro e w36 ⟨rfl,hb3⟩;go_wp2;go_ret;exact⟨rfl,Below.t HB hb3⟩
def Opens {α H:Type} (enc:TypeId×Value→H) (P:Program) (t:TypeId) (r:Rp α) (ok:α→Prop):Prop:=
 ∀ {w:World} {base:Nat} {spare:Nat→Bool} {held:Bool} {fuel:Nat} {cs:List Value} {x:DataW H×List MemPlace},DataW.trod enc P w base spare held fuel t cs=some x→∃y fp,r.R w cs y fp∧ok y
section
variable {H:Type} {enc:TypeId×Value→H} {P:Program}
theorem opens_byte {t:TypeId} (ht:P.underlying t=some (.int .u8)):Opens enc P t Rp.byte (fun _=>True):=fun h=>by
 obtain⟨n,rfl,_,hw⟩:=DataW.trod_int ht h;simp[Lit.wf,IntKind.min,IntKind.max,IntKind.signed,IntKind.bits] at hw;refine⟨UInt8.ofNat n.toNat,[],⟨?_,rfl⟩,trivial⟩;have e:((UInt8.ofNat n.toNat).toNat:Int)=n:=by
  rw[UInt8.toNat_ofNat'];omega
 show [Value.int .u8 n]= [Value.int .u8 ((UInt8.ofNat n.toNat).toNat:Int)];rw[e]
theorem spot_none {w:World} {a:Addr} {v:Value} (h:w.cell? a=some v):a.spot=none:=by
 unfold World.cell? at h;split at h
 ·split at h
  ·cases h
  ·rename_i hs;simpa using hs
 ·cases h
theorem opens_rows {α:Type} {r:Rp α} {ok:α→Prop} {w:World} {base:Nat} {a:Addr} : ∀(len:Nat),(∀i,i<len→∃cs' y f,w.cells? base (a.add (i*r.k)) r.k=some cs'∧r.R w cs' y f∧ok y)→
  ∃xs l fp,l.length=len∧AllR r w xs l fp∧(∀y∈l,ok y)∧∀j u,xs[j]? =some u→w.cell? (a.add j)=some u
 | 0,_=>⟨[],[],[],rfl,⟨rfl,rfl⟩,by simp,by simp⟩
 |len+1,h=>by
  obtain⟨xs,l,fp,hl,ha,hok,hc⟩:=opens_rows len (fun i hi=>h i (by omega));obtain⟨cs',y,f,hcs,hr,hy⟩:=h len (by omega);obtain⟨_,hcl,hat⟩:=World.cells?_some hcs;have hxl:=ha.len;refine⟨xs++cs',l++ [y],fp++f,by simp[hl],ha.snoc hr,fun z hz=> ?_,fun j u hu=> ?_⟩
  ·rcases List.mem_append.1 hz with hz|hz
   ·exact hok z hz
   ·simp at hz;subst hz;exact hy
  ·by_cases hj:j<xs.length
   ·rw[List.getElem?_append_left hj] at hu;exact hc j u hu
   ·rw[List.getElem?_append_right (by omega)] at hu;have hlt:=(List.getElem?_eq_some_iff.1 hu).1;have:=hat (i:=j - xs.length) (by omega);rw[hu] at this;rw[Go.Deep.add_add,show len*r.k+(j - xs.length)=j from by rw[hl] at hxl;omega] at this;exact this
theorem opens_slice {α:Type} {r:Rp α} {ok:α→Prop} {t e:TypeId} (ht:P.underlying t=some (.slice e)) (hC:P.cellsOf e=r.k) (hk:0<r.k) (h:Opens enc P e r ok):Opens enc P t (Rp.slice r) (fun l=>∀y∈l,ok y):=fun {w base spare held fuel cs x} hr=>by
 rcases open_slice ht hr with ⟨rfl,_⟩|⟨a,len,cap,m,n,D,Pl,rfl,hb,hl,hm,hmm,_,hi⟩
 ·exact⟨[],[],⟨none,0,0,rfl,SlR.nil⟩,by simp⟩
 ·have hle:len≤m:=by rw[hmm];split<;>omega
  rw[hC] at hi;obtain⟨xs,l,fp,hlen,ha,hok,hc⟩:=opens_rows (r:=r) (ok:=ok) (w:=w) (base:=base) (a:=a) len (fun i hii=>by
   obtain⟨cs',hcs,htr⟩:=hi i (by omega);obtain⟨y,f,hR,hy⟩:=h htr;exact⟨cs',y,f,hcs,hR,hy⟩)
  have hxl:=ha.len;by_cases h0:len=0
  ·subst h0;have:l= []:=List.eq_nil_of_length_eq_zero hlen;subst this;obtain⟨rfl,rfl⟩:=ha;exact⟨[],[],⟨some a,0,cap,rfl,rfl,Nat.zero_le _,hm,[],[],[],⟨by simp,.inl ⟨rfl,rfl⟩⟩,⟨rfl,rfl⟩,rfl⟩,by simp⟩
  ·have hpos:0<xs.length:=by rw[hxl,hlen];exact Nat.mul_pos (by omega) hk
   have h00:=hc 0 xs[0] (List.getElem?_eq_getElem hpos);have ha0:a.add 0=a:=by simp[Addr.add]
   rw[ha0] at h00;obtain⟨b,o,s⟩:=a;have hs:s=none:=spot_none h00;subst hs;refine⟨l,[b]++fp,⟨_,len,cap,rfl,hlen.symm,hl,hm,xs,[b],fp,⟨by rw[hxl,hlen],.inr ⟨by omega,b,o,rfl,rfl,World.block_lt_of_cell? w _ h00,fun j u hu=> ?_⟩⟩,ha,rfl⟩,hok⟩;have:=hc j u hu;rwa [Addr.add_lit] at this
theorem post_of_below {f:Func} {s:ChangeSpec} {apart fresh handsOn again:Bool} {W W':World} {args:Array Value} {v:Value} {ds gs:List (DataW H)} {before pa pv:List MemPlace}
  (hW:DataW.Whole enc P f.params.toList s.vars apart W args.toList ds gs before)
  (hres: ∀(b:Nat) (sp:Nat→Bool) (hd:Bool),DataW.TrodAll enc P W' b sp hd f.resultTypes.toList (v.resultList f.resultTypes.size) (s.fn H (ds++gs)).results [])
  (hargs: ∀sp:Nat→Bool,(∀p∈before,sp p.block=true)→DataW.TrodAll enc P W' 0 sp true f.params.toList args.toList (s.fn H (ds++gs)).args pa)
  (hvars: ∀sp:Nat→Bool,(∀p∈before,sp p.block=true)→DataW.TrodVars enc P W' sp s.vars (s.fn H (ds++gs)).vars pv)
  (hps:before=pa++pv) (hb:Below W.heap.size W W')
  (hok: ∀(j:Nat) (t:TypeId) (r:Value),f.resultTypes[j]? =some t→(v.resultList f.resultTypes.size)[j]? =some r→Value.okWide P W' .any 0 t r):
  s.post enc P f apart fresh handsOn again W args v W':=by
 have hlt: ∀p∈before,p.block<W.heap.size:=fun p hp=>hW.lt p hp;have hold: ∀p∈before,(fun b=>decide (b<W.heap.size)) p.block=true:=fun p hp=>by simpa using hlt p hp
 refine⟨ds,gs,before,[],pa,pv,hW,hres _ _ _,hargs _ hold,hvars _ hold,World.keptBut_mono (fun p hp=>⟨hp, ?_⟩) (hb.frame (·∈before)),fun _=> ?_⟩
 ·rw[hps,List.mem_append] at hp;exact Or.inr hp
 ·obtain⟨_,_,_,_,_,hz,hn⟩:=hW;refine⟨hok,_,_,([]++pa)++pv,⟨[]++pa,pv,trodAll_append (hargs _ (fun _ _=>rfl)) (hres _ _ _),hvars _ (fun _ _=>rfl),rfl, ?_, ?_⟩, ?_⟩
  ·intro b off hp;have hin:MemPlace.cell b off∈before:=by rw[hps];simpa using hp
   rw[hb.frozen (hlt _ hin)];exact hz b off hin
  ·intro ha;have:=hn ha;rw[hps] at this;simpa using this
  ·intro p hp _;rw[hps];simpa using hp
end
theorem fnMdlKeys_own:ownKnob Tryz.prog.godebug=none:=by kernel_rfl
theorem fnMdlKeys_laidOut:laidOutB Tryz.prog=true:=by kernel_rfl
theorem fnMdlKeys_contract (H:Type) (enc:TypeId×Value→H) (W:World) (base:Nat) (args:Array Value) (ds gs:List (DataW H)) (before:List MemPlace)
  (hval0: ∀(j:Nat) t v,Tryz.f4.params[j]? =some t→args[j]? =some v→Value.okWide Tryz.prog W .any base t v)
  (hW:DataW.Whole enc Tryz.prog Tryz.f4.params.toList Rows.fnMdlKeysSpec.vars false W args.toList ds gs before):
  Calls Tryz.prog 4 args W fun e W'=>∃v,e= .returned v∧Rows.fnMdlKeysSpec.post enc Tryz.prog Tryz.f4 false true false false W args v W':=by
 have hval:=hval0;have hW':=hW;obtain⟨p,q,hA0,hV,rfl,hfz,hnd⟩:=hW;have hA:DataW.TrodAll enc Tryz.prog W 0 (fun _=>true) true Tryz.f4.params.toList args.toList ds p:=hA0;rw[Tryz.params4] at hA hval;obtain⟨v0,d0,rfl,rfl,h0⟩:=trodAll_one hA;obtain⟨rfl,rfl⟩:=trodVars_none hV;have h0k:=h0;obtain⟨a0,len0,cap0,rfl⟩:=okWide_slice Tryz.underlying22 (hval 0 22 v0 rfl rfl);obtain⟨fuel0,hf0⟩:=h0
 obtain⟨l0,fp0,⟨A0,n0,c0,hcs0,hs0⟩,hw0⟩:=opens_slice Tryz.underlying22 (by kernel_rfl) (by decide) (opens_byte Tryz.underlying5) hf0;have hc0:Value.slice a0 len0 cap0= .slice A0 n0 c0:=by simpa [Value.cells] using hcs0
 rw[hc0] at h0k hW' ⊢;clear hf0 hcs0 hc0;clear hA0 hval hval0;simp only[List.append_nil] at hW';refine(lawKeys W hs0).mono fun e W' ⟨he,hb⟩=> ?_;subst he;have hlt0: ∀y∈p,y.block<W.heap.size:=fun y hy=>hW'.lt y (by simp[hy])
 refine⟨_,rfl,post_of_below (pa:=p) (pv:=[]) hW' (fun _ _ _=>trodAll_mk1 (shut_bool Tryz.underlying4 _)) (fun sp hsp=> ?_) (fun _ _=>rfl) (by simp) hb (ok_one (by kernel_rfl) rfl (okWide_bool_mk Tryz.underlying4 _))⟩;exact trodAll_mk1 (WideElems.Trod_stays fnMdlKeys_laidOut (by kernel_rfl) (of_decide_eq_true (by kernel_rfl)) h0k (fun y hy=>hb.same (hlt0 y hy)) (fun y hy=>hsp y (by simp[hy])))
mutual
def fnMdlKeys_flat:DataW Unit→List Value
 | .lit l=>[l.value]
 | .agg ps=>fnMdlKeys_flats ps
 |_=>[]
def fnMdlKeys_flats:List (DataW Unit)→List Value
 | []=>[]
 |d::r=>fnMdlKeys_flat d++fnMdlKeys_flats r
end
noncomputable def fnMdlKeys_world (os:Os):World:=
 { World.holding Tryz.prog os ⟨#[],#[],[]⟩ with heap:=(((World.holding Tryz.prog os ⟨#[],#[],[]⟩).heap.modify 2 fun
   | .cells _ t frozen=> .cells (fnMdlKeys_flat Rows.laid_unicode_utf8_acceptRanges).toArray t frozen
   |o=>o).modify 1 fun
   | .cells _ t frozen=> .cells (fnMdlKeys_flat Rows.laid_unicode_utf8_first).toArray t frozen
   |o=>o)}
set_option maxRecDepth 100000 in
theorem fnMdlKeys_met (os:Os):laidMet Tryz.prog Rows.fnMdlKeysRow.laid ((fnMdlKeys_world os).forCall (fun _ _=>0) ⟨#[],#[.slice none 0 0],[]⟩).memory:=
 laidMet_of_run' 8 (by kernel_rfl) (by kernel_rfl)
theorem fnMdlKeys_reads (os:Os) {H:Type} (enc:TypeId×Value→H): ∃x,DataW.whole enc Tryz.prog ((fnMdlKeys_world os).forCall (fun _ _=>0) ⟨#[],#[.slice none 0 0],[]⟩).memory Tryz.f4.params.toList Rows.fnMdlKeysSpec.vars false (#[.slice none 0 0]:Array Value).toList 8=some x:=
 Option.isSome_iff_exists.1 (show(DataW.whole enc Tryz.prog ((fnMdlKeys_world os).forCall (fun _ _=>0) ⟨#[],#[.slice none 0 0],[]⟩).memory Tryz.f4.params.toList Rows.fnMdlKeysSpec.vars false (#[.slice none 0 0]:Array Value).toList 8).isSome=true by kernel_rfl)
theorem fnMdlKeys_lifted (os:Os) (started:os.Started) (H:Type) (enc:TypeId×Value→H) (F:Stop.Interp):
  ReturnsInHanded {} Tryz.checked os 4 .any ((OpenSpec.ofChange Rows.fnMdlKeysSpec).preRow enc Tryz.prog Tryz.f4 Rows.fnMdlKeysRow.domain false Rows.fnMdlKeysRow.laid) (((OpenSpec.ofChange Rows.fnMdlKeysSpec).at F).post enc Tryz.prog Tryz.f4 false true false false):=by
 obtain⟨x0,hx⟩:=fnMdlKeys_reads os enc;refine returnsInHanded_of_row (C:=Tryz.checked) (s:=OpenSpec.ofChange Rows.fnMdlKeysSpec) fnMdlKeys_own started (by kernel_rfl) Tryz.func4
  (witness_row_at (enc:=enc) (C:=Tryz.checked) false (fnMdlKeys_world os) #[.slice none 0 0] rfl (by kernel_rfl) (by kernel_rfl) (by kernel_rfl)
   (OpenSpec.preRow_of_cond 8 hx (by kernel_rfl) (fun k hk=>by cases hk) (by kernel_rfl) (fnMdlKeys_met os))) ?_
 intro W base args ds gs before hval hW _ _ _ _ _ _;exact fnMdlKeys_contract H enc W base args ds gs before hval hW
theorem fnMdlKeys_closed:joinedFacts Tryz.pinned.checked.prog 4 Tryz.f4 (OpenSpec.ofChange Rows.fnMdlKeysSpec).bare Rows.fnMdlKeysRow=true:=by
 unfold joinedFacts;simp only[Bool.and_eq_true]
 repeat' apply And.intro
 all_goals(as_aux_lemma=>kernel_rfl)
theorem fnMdlKeys_said:Rows.FnMdlKeysSaid:=
 OpenClaim.holds_of_cond 4 Tryz.f4 rfl rfl rfl rfl rfl rfl rfl ⟨rfl,rfl,rfl,rfl,rfl⟩ rfl rfl rfl rfl rfl (by kernel_rfl) Tryz.func4 fnMdlKeys_closed
  (of_decide_eq_true (by kernel_rfl)) (by unfold Func.isWrapper;first|(rw[if_pos (by decide+kernel)];kernel_rfl)|(rw[if_neg (by decide+kernel)];exact⟨rfl,rfl⟩))
  (fun os started H enc _ F=>by rw[OpenClaim.pre_eq_preRow];exact fnMdlKeys_lifted os started H enc F)
theorem fnMdlKeys_plain (f:FuncId) (fn:Func) (hf:Tryz.pinned.checked.prog.funcNamed "loop.example/chartulary/laws.FnMdlKeys" =some f) (hfn:Tryz.pinned.checked.prog.funcs[f]? =some fn):
  false=Tryz.pinned.checked.prog.looks []∧∀(j:Nat) t,fn.params[j]? =some t→Tryz.pinned.checked.prog.wantsStandIn t=false:=by
 obtain rfl:f=4:=Option.some.inj ((show Tryz.prog.funcNamed "loop.example/chartulary/laws.FnMdlKeys" =some 4 by kernel_rfl).symm.trans hf) |>.symm;obtain rfl:fn=Tryz.f4:=(Option.some.inj (Tryz.func4.symm.trans hfn)).symm;refine⟨by kernel_rfl,fun j t ht=> ?_⟩;rw[Tryz.params4] at ht;have hm:=Array.mem_of_getElem? ht;simp only[List.mem_toArray,List.mem_cons,List.not_mem_nil,or_false] at hm
 rcases hm with rfl
 ·exact(show Tryz.prog.wantsStandIn 22=false by kernel_rfl)
theorem fnMdlKeys_holds:Rows.FnMdlKeysCardSaid:=
 Claim7.holds_tied_plain_at .later [] _ _ _ _ fnMdlKeys_said (fun _ h=>by cases h) (by kernel_rfl) (fun _ h=>by cases h) fnMdlKeys_row_tie rfl ⟨rfl,rfl⟩ (by kernel_rfl) rfl fnMdlKeys_plain (by kernel_rfl)
#print axioms fnMdlKeys_holds
end Go.Proofs.YtlkoaobaoffpaaaGreatDoor
