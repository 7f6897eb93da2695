/- FnMdlEmpty: for every input the law answers true and leaves its arguments as they were. Conditions: the listed library tables read as the tie says. -/
import Derived.ProofKit
import Derived.Deep.Slices
import Derived.Deep.Fields
import Derived.WalkKit
import Derived.OpenShut
import Derived.ChangeMaps5
import Derived.Deep.DeepHandedRow
import Derived.Lib.LaidTab
import Derived.SevenTiedAt
import Derived.Test.YtheifkmggcenpaaGreatDoorZ34
import Derived.Test.YtheifkmggcenpaaGreatDoorZ29
import Derived.Test.YtheifkmggcenpaaGreatDoorZ23
import Derived.Test.YtheifkmggcenpaaGreatDoorZ8
import Derived.Test.YtheifkmggcenpaaGreatDoorZ7
import Derived.Test.YtheifkmggcenpaaGreatDoorZ35
import Derived.Test.YtheifkmggcenpaaGreatDoorZ1
import Derived.Test.YtheifkmggcenpaaGreatDoorCards
import Derived.Test.YtheifkmggcenpaaGreatDoorTie
namespace Go.Proofs.YtheifkmggcenpaaGreatDoor
open Go.RowKit
attribute [local go_sem ↓] Go.wp_at_zero Go.wp_at_succ
open Go.ChangeShapes Go.WideShapes Go.ChangeAt Go.RowKit Go.Deep
set_option maxHeartbeats 8000000
set_option maxRecDepth 100000
set_option linter.unusedSimpArgs false
set_option linter.unusedVariables false
section
variable {w w':World} {g:Nat} {m:Jl} {q:Req} {a:Ans} {K U R E F N:Value}
end
theorem QB.Ez {w:World} {g:Nat} {q:Req} {A:Option Addr} {n c:Nat} (h:QB w g q (.slice A n c)): ∃f,SlR Rp.edit w A n c q.Ez f:=by
 obtain⟨f,A0,n0,c0,f0,e, -,h1⟩:=h.r;have:(Value.slice A n c)= .slice A0 n0 c0:=by
  have:=congrArg (fun l=>l[8]?) e;simpa [V5] using this
 cases this;exact⟨f0,h1⟩
theorem QB.cells {w:World} {g:Nat} {q:Req} {E:Value} (h:QB w g q E):w.cell? ⟨g,0,none⟩=some (.int .i64 q.user)∧w.cell? ⟨g,1,none⟩=some (.int .i64 q.key)∧w.cell? ⟨g,2,none⟩=some (.int .i64 q.repo)∧w.cell? ⟨g,3,none⟩=some (.int .i64 q.kind)∧w.cell? ⟨g,4,none⟩=some (.string q.ref)∧w.cell? ⟨g,5,none⟩=some (.string q.path)∧w.cell? ⟨g,6,none⟩=some (.int .i64 q.old)∧w.cell? ⟨g,7,none⟩=some (.int .i64 q.back)∧w.cell? ⟨g,8,none⟩=some E∧w.cell? ⟨g,9,none⟩=some (.int .i64 q.rule.user)∧w.cell? ⟨g,10,none⟩=some (.string q.rule.ref)∧w.cell? ⟨g,11,none⟩=some (.string q.rule.path)∧w.cell? ⟨g,12,none⟩=some (.bool q.rule.write)∧w.cell? ⟨g,13,none⟩=some (.int .i64 q.frm)∧w.cell? ⟨g,14,none⟩=some (.string q.other):=
 ⟨h.k.cell 0,h.k.cell 1,h.k.cell 2,h.k.cell 3,h.k.cell 4,h.k.cell 5,h.k.cell 6,h.k.cell 7,h.k.cell 8,h.k.cell 9,h.k.cell 10,h.k.cell 11,h.k.cell 12,h.k.cell 13,h.k.cell 14⟩
theorem code_zero {m x:Jl} {q:Req} {a:Ans} (h: ¬(Ys m=true∧Yw q=true)) (ho:jai m q=(x,a)):a.code=0:=by
 rw[jdn h] at ho;cases ho;rfl
theorem req_with {w:World} {q q':Req} {E:Value} {f:List Nat} (h:Rp.req.R w (V5 q E).toList q f) (he:q'.Ez=q.Ez):Rp.req.R w (V5 q' E).toList q' f:=by
 obtain⟨A0,n0,c0,f0,e,hf,h1⟩:=h;have:E= .slice A0 n0 c0:=by
  have:=congrArg (fun l=>l[8]?) e;simpa [V5] using this
 subst this;exact⟨A0,n0,c0,f0,rfl,hf,he▸h1⟩
theorem fit_with {q q':Req} (h:jdu q) (h1:q'.ref=q.ref) (h2:q'.other=q.other) (h3:q'.path=q.path) (h4:q'.rule=q.rule) (h5:q'.Ez=q.Ez):jdu q':=
 ⟨by rw[h1];exact h.ref,by rw[h2];exact h.other,by rw[h3];exact h.path,by rw[h4];exact h.rule,by rw[h5];exact h.Ez⟩
section
variable {P:Program} {s:Code} {Q:Exit→Act→World→Prop} {b:Act} {w:World} {m:Jl} {q:Req} {a:Ans} {K U R E F N:Value}
end
structure HQ (w0 W:World) (m:Jl) (q:Req) (K U R E:Value):Prop where
 on:Below w0.heap.size w0 W
 km:Blk W w0.heap.size 26 #[K,U,R]
 kq:Blk W (w0.heap.size+1) 31 (V5 q E)
 rm: ∃f,Rp.house.R W [K,U,R] m f∧∀z∈f,z<w0.heap.size
 rq: ∃f,Rp.req.R W (V5 q E).toList q f∧∀z∈f,z<w0.heap.size
section
variable {w0 W W':World} {m:Jl} {q q':Req} {K U R E E':Value}
theorem HQ.hb (h:HQ w0 W m q K U R E):HB W w0.heap.size m K U R:=⟨h.km,h.rm.imp fun _ k=>k.1⟩
theorem HQ.qb (h:HQ w0 W m q K U R E):QB W (w0.heap.size+1) q E:=⟨h.kq,h.rq.imp fun _ k=>k.1⟩
theorem HQ.step (h:HQ w0 W m q K U R E) (hb:Below W.heap.size W W'):HQ w0 W' m q K U R E:=
 ⟨Below.t h.on hb,h.km.step hb,h.kq.step hb,h.rm.imp fun _ k=>⟨Rp.house.below k.1 hb nle,k.2⟩,h.rq.imp fun _ k=>⟨Rp.req.below k.1 hb nle,k.2⟩⟩
theorem HQ.frz (h:HQ w0 W m q K U R E) (i:Nat):W.frozen? ⟨w0.heap.size+1,i,none⟩=false:=Jb h.kq i
theorem HQ.put (h:HQ w0 W m q K U R E) {i:Nat} {v:Value} (e:(V5 q E).setIfInBounds i v=V5 q' E') (hQ: ∃f,Rp.req.R W (V5 q' E').toList q' f∧∀z∈f,z<w0.heap.size):HQ w0 (W.setCell ⟨w0.heap.size+1,i,none⟩ v) m q' K U R E':=by
 have hk: ∀z,z<w0.heap.size→(W.setCell ⟨w0.heap.size+1,i,none⟩ v).heap[z]? =W.heap[z]? :=fun z hz=>Below.heap_setCell _ _ _ _ (by rintro rfl;simp at hz;omega);refine⟨h.on.setCell (by simp) _,(Below.heap_setCell _ _ _ _ (by simp)).trans h.km,e▸h.kq.put i v,h.rm.imp fun _ k=>⟨Rp.house.keep k.1 fun z hz=>hk z (k.2 z hz),k.2⟩,hQ.imp fun _ k=>⟨Rp.req.keep k.1 fun z hz=>hk z (k.2 z hz),k.2⟩⟩
theorem HQ.same (h:HQ w0 W m q K U R E) {i:Nat} {v:Value} (e:(V5 q E).setIfInBounds i v=V5 q' E) (he:q'.Ez=q.Ez):HQ w0 (W.setCell ⟨w0.heap.size+1,i,none⟩ v) m q' K U R E:=
 h.put e (h.rq.imp fun _ k=>⟨req_with k.1 he,k.2⟩)
end
theorem fit_none {q:Req} {k:Int} (h:jdu q):jdu { q with kind:=k,Ez:=[]} :=⟨h.ref,h.other,h.path,h.rule,fun i hi=>absurd hi (Nat.not_lt_zero _)⟩
theorem req_empty {w:World} {q:Req} (h:q.Ez= []) (A:Option Addr) (c:Nat) (hc:c≤maxLen):Rp.req.R w (V5 q (.slice A 0 c)).toList q []:=
 ⟨A,0,c,[],rfl,rfl,by rw[h];exact⟨rfl,Nat.zero_le _,hc,[],[],[],⟨rfl,.inl ⟨rfl,rfl⟩⟩,⟨rfl,rfl⟩,rfl⟩⟩
theorem wp_HQx {P:Program} {s:Code} {Q:Exit→Act→World→Prop} {b:Act} {w:World} {m:Jl} {q:Req} {K U R E:Value} (hR: ∃f,Rp.house.R w [K,U,R] m f) (hQ: ∃f,Rp.req.R w (V5 q E).toList q f) (h: ∀W,HQ w W m q K U R E→s.wp P Q b W):
  s.wp P Q b ((w.alloc (.cells #[K,U,R] 26)).alloc (.cells (RA q E) 31)):=by
 obtain⟨h1,h2,h3⟩:=Blk.two w 26 31 #[K,U,R] (V5 q E);exact h _ ⟨h3,h1,h2,hR.imp fun _ k=>⟨Rp.house.below k h3 nle,Rp.house.lt k⟩,hQ.imp fun _ k=>⟨Rp.req.below k h3 nle,Rp.req.lt k⟩⟩
section
variable {w w':World} {g lo:Nat} {m:Jl} {K U R:Value}
end
theorem doIt_none {m:Jl} {r:Req} (hp:m.Rz[r.repo.toNat]? =none) (hk:knows m.keys r.user r.key=true) (h11:r.kind≠11):Zn m r=(m,code 3):=by
 unfold Zn;rw[if_pos hk,if_neg h11,hp]
theorem doIt_writes {m:Jl} {r:Req} {p:Xq} (hk:knows m.keys r.user r.key=true) (hp:m.Rz[r.repo.toNat]? =some p) (hw:Vs r=true):Zn m r=((write m p r).1,code (write m p r).2):=by
 have h:r.kind=1∨r.kind=9∨r.kind=10:=by simpa [Vs,or_assoc] using hw
 unfold Zn;rw[if_pos hk,if_neg (by omega),hp];simp only[hw];rw[if_neg (by omega),if_neg (by omega)];rfl
theorem newest_code (m:Jl) (x:Ref) (r:Req):(newest m x r).2=1∨(newest m x r).2=7∨(newest m x r).2=8:=by
 unfold newest
 repeat' split
 all_goals simp
theorem write_may (m:Jl) (p:Xq) (r:Req):((write m p r).2=4)↔Yi m p r=false:=by
 unfold write;cases h:Yi m p r
 ·simp
 ·simp only[if_true];have:=fun k=>newest_code m (p.Fz.getD k Y8) r;split
  ·simp
  ·rename_i k hk
   have:=this k;split
   ·simp
   ·split
    ·simp
    ·split
     ·simp only[reduceCtorEq,iff_false];omega
     ·split<;>simp
theorem put_may {m:Jl} {r:Req} (h1:r.kind=1) (h2:(Zn m r).2.code≠2) (h3:(Zn m r).2.code≠3): ∃p,m.Rz[r.repo.toNat]? =some p∧decide ((Zn m r).2.code≠4)=(decide (0<r.Ez.length)&&r.Ez.all fun e=>Yz p.Uz r.user r.ref e.path true):=by
 have hw:Vs r=true:=by simp[Vs,h1]
 by_cases hk:knows m.keys r.user r.key=true
 ·cases hp:m.Rz[r.repo.toNat]? with
  |none=>rw[doIt_none hp hk (by omega)] at h3;simp[code] at h3
  |some p=>
   refine⟨p,rfl, ?_⟩;rw[doIt_writes hk hp hw];have h:Yi m p r=(decide (0<r.Ez.length)&&r.Ez.all fun e=>Yz p.Uz r.user r.ref e.path true):=by unfold Yi;rw[if_pos h1]
   rw[←h];have:=write_may m p r;cases hc:Yi m p r
   ·simp[code,this.2 hc]
   ·rw[hc] at this;have h4:(write m p r).2≠4:=fun e=>by simpa using this.1 e
    simp[code,h4]
 ·unfold Zn at h2;rw[if_neg hk] at h2;simp[code] at h2
theorem lawEmpty (w:World) {A:Option Addr} {n c:Nat} {code:List UInt8} {fp:List Nat} (hx:SlR Rp.byte w A n c code fp):
  Calls Tryz.prog 11 #[.slice A n c] w fun e w'=>e= .returned (.bool true)∧Below w.heap.size w w':=by
 obtain⟨rfl,hcx,hmx, -⟩:=id hx;unfold maxLen at hmx;go_enter Tryz.func11,Tryz.ntmps11;by_cases hlen:(1048576:Int)<(code.length:Int)
 ·go_wp2;go_ret;exact⟨rfl,Below.refl _ _⟩
 go_wp2_with fail;refine(jp5 _ hx).mono ?_;rintro e w1 ⟨m,q,A0,n0,c0,A1,n1,c1,A2,n2,c2,A3,c3,f,fq,rfl,hR,hQ,hok,hsm, -, -,HB⟩;clear hx;obtain rfl:n2=m.Rz.length:=by
  obtain⟨_,_,_,_,_,_,_,_,_,_,_,_,he, -, -, -,h2⟩:=hR;cases he;exact h2.1
 go_upto_region 4 with fail
 refine wp_HQx ⟨_,hR⟩ ⟨_,hQ⟩ ?_;intro w2 H;have hf:=Ja (And.intro hok.1 (jo1 hsm));have HOKD:=Ja hok;clear hR hQ hok;have HS:=Ja hsm;clear hsm;obtain⟨-, -, -,p3, -⟩:=H.qb.cells;have z3:=H.frz 3;go_upto_region 5 with fail
 replace H:=H.same (i:=3) (v:= .int .i64 1) (q':= { q with kind:=1}) rfl rfl;clear p3 z3;generalize World.setCell w2 ⟨w1.heap.size+1,3,none⟩ (.int .i64 1)=w3 at H ⊢;go_upto_if 23 with fail
 go_cut [] from 20 to 25 (fun wx=>∃r A c,HQ w1 wx m r (.slice A0 n0 c0) (.slice A1 n1 c1) (.slice A2 m.Rz.length c2) (.slice A r.Ez.length c)∧r.kind=1∧jdu r)
 case first=>
  cases hp:((code.length:Int) % 2==0)
  ·go_wp2_with fail;go_meet
   case rel=>exact⟨_,_,_,H,rfl,fit_with hf.out.2 rfl rfl rfl rfl rfl⟩
  ·obtain⟨-, -, -, -, -, -, -, -,p8, -⟩:=H.qb.cells;have y8:=fun y:Obj=>J6 p8 y;have z8:=fun y:Obj=>(H.step ((Below.refl _ _).alloc nle y)).frz 8;go_wp2_with fail;go_meet
   case rel=>exact⟨{ q with kind:=1,Ez:=[]},_,_,(H.step ((Below.refl _ _).alloc nle _)).put rfl ⟨_,req_empty rfl _ _ (by simp[maxLen]),by simp⟩,rfl,fit_none hf.out.2⟩
 case rest=>
  obtain⟨w4,hw4⟩: ∃w4,w4=wc:=⟨_,rfl⟩;subst hw4;obtain⟨q,A,c,H,hk,hfr⟩:=hcut;replace hf:=Ja (And.intro hf.out.1 hfr);have HK:=Ja hk;have hm:=H.hb;have hq:=H.qb;replace HB:=Below.t HB H.on;clear H hk hfr HS HOKD;obtain⟨x,a,ho⟩: ∃x a,jai m q=(x,a):=⟨_,_,rfl⟩;have HO:=Ja ho;clear ho;obtain⟨x0,x1,x2⟩:=hm.cells
  go_wp2_with((refine wpList_load_row rfl 31 (.tmp 4) rfl _ rfl _ _ _ _ hq.k.out Tryz.underlying31 rfl jb3 ?_));go_wp2_with fail;refine(implDo hm hq hf.out.1 hf.out.2).mono ?_;rintro e w5 hd;obtain⟨A4,na4,ca4,A5,na5,ca5,A6,ca6,B0,nb0,cb0,B1,nb1,cb1,rfl,hX,hA,hb3⟩:=hd.parts HO.out;replace hm:=hm.step hb3;replace hq:=hq.step hb3;replace HB:=Below.t HB hb3;clear hb3 hd x0 x1 x2
  go_upto_region 8 with fail
  refine wp_HA hX hA ?_;intro w6 hx ha hb3;replace hm:=hm.step hb3;replace hq:=hq.step hb3;replace HB:=Below.t HB hb3;clear hb3 hX hA;obtain⟨x0,x1,x2⟩:=hm.cells;go_wp2_with((refine wpList_load_row rfl 31 (.tmp 4) rfl _ rfl _ _ _ _ hq.k.out Tryz.underlying31 rfl jb3 ?_));go_wp2_with fail;refine(specDo hm hq hf.out.1 hf.out.2).mono ?_;rintro e w7 hd
  obtain⟨A7,na7,ca7,A8,na8,ca8,A9,ca9,B2,nb2,cb2,B3,nb3,cb3,rfl,hX,hA,hb3⟩:=hd.parts HO.out;replace hm:=hm.step hb3;replace hq:=hq.step hb3;replace HB:=Below.t HB hb3;replace hx:=hx.step hb3;replace ha:=ha.step hb3;clear hb3 hd x0 x1 x2;go_upto_region 9 with fail
  refine wp_HA hX hA ?_;intro w8 hy hb hb3;replace hm:=hm.step hb3;replace hq:=hq.step hb3;replace HB:=Below.t HB hb3;replace hx:=hx.step hb3;replace ha:=ha.step hb3;clear hb3 hX hA;obtain⟨x0,x1,x2⟩:=hx.cells;obtain⟨y0,y1,y2⟩:=hy.cells;go_wp2_with fail;refine(jqp hx hy).mono ?_;rintro e w9 ⟨rfl,hb3⟩;replace hm:=hm.step hb3;replace hq:=hq.step hb3;replace HB:=Below.t HB hb3
  replace hx:=hx.step hb3;replace ha:=ha.step hb3;replace hy:=hy.step hb3;replace hb:=hb.step hb3;clear hb3 x0 x1 x2 y0 y1 y2;obtain⟨x0,x1,x2,x3⟩:=ha.cells;obtain⟨y0,y1,y2,y3⟩:=hb.cells;go_wp2_with fail;refine(jp8 ha hb).mono ?_;rintro e w10 ⟨rfl,hb3⟩;replace hm:=hm.step hb3;replace hq:=hq.step hb3;replace HB:=Below.t HB hb3;replace hx:=hx.step hb3;replace ha:=ha.step hb3
  clear hb3 x0 x1 x2 x3 y0 y1 y2 y3 hy hb;obtain⟨a0, -, -, -⟩:=ha.cells;cases e0:(a.code==0);rotate_left
  ·skip;go_wp2_with fail;refine(chOk_any _).mono ?_;rintro e w20 ⟨rfl,hb4⟩;go_wp2;go_ret;exact⟨rfl,Below.t HB hb4⟩
  cases e2:(a.code==2);rotate_left
  ·skip;go_wp2_with fail;refine(chOk_any _).mono ?_;rintro e w20 ⟨rfl,hb4⟩;go_wp2;go_ret;exact⟨rfl,Below.t HB hb4⟩
  cases e3:(a.code==3);rotate_left
  ·skip;go_wp2_with fail;refine(chOk_any _).mono ?_;rintro e w20 ⟨rfl,hb4⟩;go_wp2;go_ret;exact⟨rfl,Below.t HB hb4⟩
  have HOK:=Ja (show Ys m=true∧Yw q=true from Classical.byContradiction fun h=>by have:=code_zero h HO.out;rw[this] at e0;simp at e0);have HD:=Ja (show Zn m q=(x,a) by rw[←HO.out,jhr HOK.out]);obtain⟨p,hp,hmay⟩:=put_may (m:=m) HK.out (by rw[HD.out];simpa using e2) (by rw[HD.out];simpa using e3);rw[HD.out] at hmay;have HMAY:=Ja hmay
  obtain⟨i,hi⟩: ∃i:Nat,q.repo=(i:Int):=⟨q.repo.toNat,by have:=(jmn HOK.out.2).2.1.1;omega⟩;rw[hi,Int.toNat_natCast] at hp;obtain⟨hil,rfl⟩:=List.getElem?_eq_some_iff.1 hp;have HI:=Ja hi;clear hp hmay hi;obtain⟨fe,he⟩:=hq.Ez;obtain⟨-,hec,hem, -⟩:=id he;unfold maxLen at hem;obtain⟨-, -, -, -, -, -, -, -,q8, -⟩:=hq.cells;obtain⟨-, -,m2⟩:=hm.cells;obtain⟨fr,hr⟩:=hm.Rz
  obtain⟨-,hcr,hmr, -⟩:=id hr;unfold maxLen at hmr;obtain⟨b,o,D1,l1,e1,f1,D2,l2,e4,f2,rfl, -, -, -,p1, -,s1, -, -⟩:=J7 hr hil;obtain⟨q0, -,q2, -,q4, -⟩:=hq.cells;rw[HI.out] at q2;have i0:(0:Int)≤(i:Int):=by omega
  have i1:(i:Int)<(m.Rz.length:Int):=by omega
  have HRF:=Ja ((hf.out.1 i hil).Uz);obtain⟨F,hF⟩: ∃F:Wz→Bool,F=fun e=>Yz m.Rz[i].Uz q.user q.ref e.path true:=⟨_,rfl⟩;rw[←hF] at HMAY;have HF:=Ja hF;clear hF;go_wp2
  go_loopw [9,10] (fun v i wz=>∃k:Nat,k≤q.Ez.length∧i= .int .i64 k∧v= .bool (decide (0<q.Ez.length)&&(q.Ez.take k).all F)∧Below w10.heap.size w10 wz) (fun _ i _=>q.Ez.length - (intOf i).toNat)
  case atStart=>exact⟨0,Nat.zero_le _,rfl,by simp,Below.refl _ _⟩
  case round=>
   obtain⟨k,hk,rfl,rfl,hbl⟩:=hrel;by_cases hlt:k<q.Ez.length
   ·obtain⟨b',o',rfl, -, -,z0, -, -⟩:=Zv (he.step hbl) hlt;replace m2:=Je m2 hbl;replace p1:=Je p1 hbl;replace q0:=Je q0 hbl;replace q2:=Je q2 hbl;replace q4:=Je q4 hbl;replace q8:=Je q8 hbl;replace s1:=s1.step hbl;have k0:(0:Int)≤(k:Int):=by omega
    have k1:(k:Int)<(q.Ez.length:Int):=by omega
    have HNX:=Ja (show(decide (0<q.Ez.length)&&(q.Ez.take (k+1)).all F)=((decide (0<q.Ez.length)&&(q.Ez.take k).all F)&&F q.Ez[k]) by rw[List.take_succ_eq_append_getElem hlt,List.all_append];simp[Bool.and_assoc]);have C1:=fun(n:BelowW wr)=>Z0 q.user q.ref q.Ez[k].path true _ (BelowW.sl n s1) HRF.out (hf.out.2.Ez k hlt)
    rw[show Yz m.Rz[i].Uz q.user q.ref q.Ez[k].path true=F q.Ez[k] by rw[HF.out]] at C1;generalize F q.Ez[k]=bf at C1 HNX;generalize(decide (0<q.Ez.length)&&(q.Ez.take k).all F)=bb at HNX;have D1:=Ja C1;clear C1 s1;go_upto_region 17 with fail
    cases bb<;>cases bf
    all_goals
     have n0:=BelowW.nonempty wr;have ex0:=BelowW.ex (w:=wr);have g0:=fun n:BelowW wr=>n.cell m2;have g1:=fun n:BelowW wr=>n.cell p1;have g2:=fun n:BelowW wr=>n.cell q0;have g3:=fun n:BelowW wr=>n.cell q2;have g4:=fun n:BelowW wr=>n.cell q4;have g5:=fun n:BelowW wr=>n.cell q8;have g6:=fun n:BelowW wr=>n.cell z0;clear m2 p1 q0 q2 q4 q8 z0;refine Jf (by kernel_rfl) (by kernel_rfl) ?_
     repeat(go_big_quiet_step(first|(go_at_call 26;exact BelowW.calls _ (D1.out _))))
     refine wpQuiet_nil ?_;rintro w9 ⟨m9,hw9⟩;have hb9:=m9.property;rw[←hw9] at hb9;clear hw9 m9;go_wp2;exact⟨⟨k+1,by omega,by go_num,by rw[HNX.out];rfl,Below.t hbl hb9⟩,by simp[intOf];omega⟩
   ·have hk':k=q.Ez.length:=by omega
    subst hk';rw[List.take_length];replace ha:=ha.step hbl;replace q8:=Je q8 hbl;obtain⟨a0, -, -, -⟩:=ha.cells;go_wp2;go_ret;exact⟨Jc (by rw[←HMAY.out];by_cases h:a.code=4<;>simp[h]),Below.t HB hbl⟩
def Opens {α H:Type} (enc:TypeId×Value→H) (P:Program) (t:TypeId) (r:Rp α) (ok:α→Prop):Prop:=
 ∀ {w:World} {base:Nat} {spare:Nat→Bool} {held:Bool} {fuel:Nat} {cs:List Value} {x:DataW H×List MemPlace},DataW.trod enc P w base spare held fuel t cs=some x→∃y fp,r.R w cs y fp∧ok y
section
variable {H:Type} {enc:TypeId×Value→H} {P:Program}
theorem opens_byte {t:TypeId} (ht:P.underlying t=some (.int .u8)):Opens enc P t Rp.byte (fun _=>True):=fun h=>by
 obtain⟨n,rfl,_,hw⟩:=DataW.trod_int ht h;simp[Lit.wf,IntKind.min,IntKind.max,IntKind.signed,IntKind.bits] at hw;refine⟨UInt8.ofNat n.toNat,[],⟨?_,rfl⟩,trivial⟩;have e:((UInt8.ofNat n.toNat).toNat:Int)=n:=by
  rw[UInt8.toNat_ofNat'];omega
 show [Value.int .u8 n]= [Value.int .u8 ((UInt8.ofNat n.toNat).toNat:Int)];rw[e]
theorem spot_none {w:World} {a:Addr} {v:Value} (h:w.cell? a=some v):a.spot=none:=by
 unfold World.cell? at h;split at h
 ·split at h
  ·cases h
  ·rename_i hs;simpa using hs
 ·cases h
theorem opens_rows {α:Type} {r:Rp α} {ok:α→Prop} {w:World} {base:Nat} {a:Addr} : ∀(len:Nat),(∀i,i<len→∃cs' y f,w.cells? base (a.add (i*r.k)) r.k=some cs'∧r.R w cs' y f∧ok y)→
  ∃xs l fp,l.length=len∧AllR r w xs l fp∧(∀y∈l,ok y)∧∀j u,xs[j]? =some u→w.cell? (a.add j)=some u
 | 0,_=>⟨[],[],[],rfl,⟨rfl,rfl⟩,by simp,by simp⟩
 |len+1,h=>by
  obtain⟨xs,l,fp,hl,ha,hok,hc⟩:=opens_rows len (fun i hi=>h i (by omega));obtain⟨cs',y,f,hcs,hr,hy⟩:=h len (by omega);obtain⟨_,hcl,hat⟩:=World.cells?_some hcs;have hxl:=ha.len;refine⟨xs++cs',l++ [y],fp++f,by simp[hl],ha.snoc hr,fun z hz=> ?_,fun j u hu=> ?_⟩
  ·rcases List.mem_append.1 hz with hz|hz
   ·exact hok z hz
   ·simp at hz;subst hz;exact hy
  ·by_cases hj:j<xs.length
   ·rw[List.getElem?_append_left hj] at hu;exact hc j u hu
   ·rw[List.getElem?_append_right (by omega)] at hu;have hlt:=(List.getElem?_eq_some_iff.1 hu).1;have:=hat (i:=j - xs.length) (by omega);rw[hu] at this;rw[Go.Deep.add_add,show len*r.k+(j - xs.length)=j from by rw[hl] at hxl;omega] at this;exact this
theorem opens_slice {α:Type} {r:Rp α} {ok:α→Prop} {t e:TypeId} (ht:P.underlying t=some (.slice e)) (hC:P.cellsOf e=r.k) (hk:0<r.k) (h:Opens enc P e r ok):Opens enc P t (Rp.slice r) (fun l=>∀y∈l,ok y):=fun {w base spare held fuel cs x} hr=>by
 rcases open_slice ht hr with ⟨rfl,_⟩|⟨a,len,cap,m,n,D,Pl,rfl,hb,hl,hm,hmm,_,hi⟩
 ·exact⟨[],[],⟨none,0,0,rfl,SlR.nil⟩,by simp⟩
 ·have hle:len≤m:=by rw[hmm];split<;>omega
  rw[hC] at hi;obtain⟨xs,l,fp,hlen,ha,hok,hc⟩:=opens_rows (r:=r) (ok:=ok) (w:=w) (base:=base) (a:=a) len (fun i hii=>by
   obtain⟨cs',hcs,htr⟩:=hi i (by omega);obtain⟨y,f,hR,hy⟩:=h htr;exact⟨cs',y,f,hcs,hR,hy⟩)
  have hxl:=ha.len;by_cases h0:len=0
  ·subst h0;have:l= []:=List.eq_nil_of_length_eq_zero hlen;subst this;obtain⟨rfl,rfl⟩:=ha;exact⟨[],[],⟨some a,0,cap,rfl,rfl,Nat.zero_le _,hm,[],[],[],⟨by simp,.inl ⟨rfl,rfl⟩⟩,⟨rfl,rfl⟩,rfl⟩,by simp⟩
  ·have hpos:0<xs.length:=by rw[hxl,hlen];exact Nat.mul_pos (by omega) hk
   have h00:=hc 0 xs[0] (List.getElem?_eq_getElem hpos);have ha0:a.add 0=a:=by simp[Addr.add]
   rw[ha0] at h00;obtain⟨b,o,s⟩:=a;have hs:s=none:=spot_none h00;subst hs;refine⟨l,[b]++fp,⟨_,len,cap,rfl,hlen.symm,hl,hm,xs,[b],fp,⟨by rw[hxl,hlen],.inr ⟨by omega,b,o,rfl,rfl,World.block_lt_of_cell? w _ h00,fun j u hu=> ?_⟩⟩,ha,rfl⟩,hok⟩;have:=hc j u hu;rwa [Addr.add_lit] at this
theorem post_of_below {f:Func} {s:ChangeSpec} {apart fresh handsOn again:Bool} {W W':World} {args:Array Value} {v:Value} {ds gs:List (DataW H)} {before pa pv:List MemPlace}
  (hW:DataW.Whole enc P f.params.toList s.vars apart W args.toList ds gs before)
  (hres: ∀(b:Nat) (sp:Nat→Bool) (hd:Bool),DataW.TrodAll enc P W' b sp hd f.resultTypes.toList (v.resultList f.resultTypes.size) (s.fn H (ds++gs)).results [])
  (hargs: ∀sp:Nat→Bool,(∀p∈before,sp p.block=true)→DataW.TrodAll enc P W' 0 sp true f.params.toList args.toList (s.fn H (ds++gs)).args pa)
  (hvars: ∀sp:Nat→Bool,(∀p∈before,sp p.block=true)→DataW.TrodVars enc P W' sp s.vars (s.fn H (ds++gs)).vars pv)
  (hps:before=pa++pv) (hb:Below W.heap.size W W')
  (hok: ∀(j:Nat) (t:TypeId) (r:Value),f.resultTypes[j]? =some t→(v.resultList f.resultTypes.size)[j]? =some r→Value.okWide P W' .any 0 t r):
  s.post enc P f apart fresh handsOn again W args v W':=by
 have hlt: ∀p∈before,p.block<W.heap.size:=fun p hp=>hW.lt p hp;have hold: ∀p∈before,(fun b=>decide (b<W.heap.size)) p.block=true:=fun p hp=>by simpa using hlt p hp
 refine⟨ds,gs,before,[],pa,pv,hW,hres _ _ _,hargs _ hold,hvars _ hold,World.keptBut_mono (fun p hp=>⟨hp, ?_⟩) (hb.frame (·∈before)),fun _=> ?_⟩
 ·rw[hps,List.mem_append] at hp;exact Or.inr hp
 ·obtain⟨_,_,_,_,_,hz,hn⟩:=hW;refine⟨hok,_,_,([]++pa)++pv,⟨[]++pa,pv,trodAll_append (hargs _ (fun _ _=>rfl)) (hres _ _ _),hvars _ (fun _ _=>rfl),rfl, ?_, ?_⟩, ?_⟩
  ·intro b off hp;have hin:MemPlace.cell b off∈before:=by rw[hps];simpa using hp
   rw[hb.frozen (hlt _ hin)];exact hz b off hin
  ·intro ha;have:=hn ha;rw[hps] at this;simpa using this
  ·intro p hp _;rw[hps];simpa using hp
end
theorem fnMdlEmpty_own:ownKnob Tryz.prog.godebug=none:=by kernel_rfl
theorem fnMdlEmpty_laidOut:laidOutB Tryz.prog=true:=by kernel_rfl
theorem fnMdlEmpty_contract (H:Type) (enc:TypeId×Value→H) (W:World) (base:Nat) (args:Array Value) (ds gs:List (DataW H)) (before:List MemPlace)
  (hval0: ∀(j:Nat) t v,Tryz.f11.params[j]? =some t→args[j]? =some v→Value.okWide Tryz.prog W .any base t v)
  (hW:DataW.Whole enc Tryz.prog Tryz.f11.params.toList Rows.fnMdlEmptySpec.vars false W args.toList ds gs before):
  Calls Tryz.prog 11 args W fun e W'=>∃v,e= .returned v∧Rows.fnMdlEmptySpec.post enc Tryz.prog Tryz.f11 false true false false W args v W':=by
 have hval:=hval0;have hW':=hW;obtain⟨p,q,hA0,hV,rfl,hfz,hnd⟩:=hW;have hA:DataW.TrodAll enc Tryz.prog W 0 (fun _=>true) true Tryz.f11.params.toList args.toList ds p:=hA0;rw[Tryz.params11] at hA hval;obtain⟨v0,d0,rfl,rfl,h0⟩:=trodAll_one hA;obtain⟨rfl,rfl⟩:=trodVars_none hV;have h0k:=h0;obtain⟨a0,len0,cap0,rfl⟩:=okWide_slice Tryz.underlying22 (hval 0 22 v0 rfl rfl);obtain⟨fuel0,hf0⟩:=h0
 obtain⟨l0,fp0,⟨A0,n0,c0,hcs0,hs0⟩,hw0⟩:=opens_slice Tryz.underlying22 (by kernel_rfl) (by decide) (opens_byte Tryz.underlying5) hf0;have hc0:Value.slice a0 len0 cap0= .slice A0 n0 c0:=by simpa [Value.cells] using hcs0
 rw[hc0] at h0k hW' ⊢;clear hf0 hcs0 hc0;clear hA0 hval hval0;simp only[List.append_nil] at hW';refine(lawEmpty W hs0).mono fun e W' ⟨he,hb⟩=> ?_;subst he;have hlt0: ∀y∈p,y.block<W.heap.size:=fun y hy=>hW'.lt y (by simp[hy])
 refine⟨_,rfl,post_of_below (pa:=p) (pv:=[]) hW' (fun _ _ _=>trodAll_mk1 (shut_bool Tryz.underlying4 _)) (fun sp hsp=> ?_) (fun _ _=>rfl) (by simp) hb (ok_one (by kernel_rfl) rfl (okWide_bool_mk Tryz.underlying4 _))⟩;exact trodAll_mk1 (WideElems.Trod_stays fnMdlEmpty_laidOut (by kernel_rfl) (of_decide_eq_true (by kernel_rfl)) h0k (fun y hy=>hb.same (hlt0 y hy)) (fun y hy=>hsp y (by simp[hy])))
mutual
def fnMdlEmpty_flat:DataW Unit→List Value
 | .lit l=>[l.value]
 | .agg ps=>fnMdlEmpty_flats ps
 |_=>[]
def fnMdlEmpty_flats:List (DataW Unit)→List Value
 | []=>[]
 |d::r=>fnMdlEmpty_flat d++fnMdlEmpty_flats r
end
noncomputable def fnMdlEmpty_world (os:Os):World:=
 { World.holding Tryz.prog os ⟨#[],#[],[]⟩ with heap:=(((World.holding Tryz.prog os ⟨#[],#[],[]⟩).heap.modify 2 fun
   | .cells _ t frozen=> .cells (fnMdlEmpty_flat Rows.laid_unicode_utf8_acceptRanges).toArray t frozen
   |o=>o).modify 1 fun
   | .cells _ t frozen=> .cells (fnMdlEmpty_flat Rows.laid_unicode_utf8_first).toArray t frozen
   |o=>o)}
set_option maxRecDepth 100000 in
theorem fnMdlEmpty_met (os:Os):laidMet Tryz.prog Rows.fnMdlEmptyRow.laid ((fnMdlEmpty_world os).forCall (fun _ _=>0) ⟨#[],#[.slice none 0 0],[]⟩).memory:=
 laidMet_of_run' 8 (by kernel_rfl) (by kernel_rfl)
theorem fnMdlEmpty_reads (os:Os) {H:Type} (enc:TypeId×Value→H): ∃x,DataW.whole enc Tryz.prog ((fnMdlEmpty_world os).forCall (fun _ _=>0) ⟨#[],#[.slice none 0 0],[]⟩).memory Tryz.f11.params.toList Rows.fnMdlEmptySpec.vars false (#[.slice none 0 0]:Array Value).toList 8=some x:=
 Option.isSome_iff_exists.1 (show(DataW.whole enc Tryz.prog ((fnMdlEmpty_world os).forCall (fun _ _=>0) ⟨#[],#[.slice none 0 0],[]⟩).memory Tryz.f11.params.toList Rows.fnMdlEmptySpec.vars false (#[.slice none 0 0]:Array Value).toList 8).isSome=true by kernel_rfl)
theorem fnMdlEmpty_lifted (os:Os) (started:os.Started) (H:Type) (enc:TypeId×Value→H) (F:Stop.Interp):
  ReturnsInHanded {} Tryz.checked os 11 .any ((OpenSpec.ofChange Rows.fnMdlEmptySpec).preRow enc Tryz.prog Tryz.f11 Rows.fnMdlEmptyRow.domain false Rows.fnMdlEmptyRow.laid) (((OpenSpec.ofChange Rows.fnMdlEmptySpec).at F).post enc Tryz.prog Tryz.f11 false true false false):=by
 obtain⟨x0,hx⟩:=fnMdlEmpty_reads os enc;refine returnsInHanded_of_row (C:=Tryz.checked) (s:=OpenSpec.ofChange Rows.fnMdlEmptySpec) fnMdlEmpty_own started (by kernel_rfl) Tryz.func11
  (witness_row_at (enc:=enc) (C:=Tryz.checked) false (fnMdlEmpty_world os) #[.slice none 0 0] rfl (by kernel_rfl) (by kernel_rfl) (by kernel_rfl)
   (OpenSpec.preRow_of_cond 8 hx (by kernel_rfl) (fun k hk=>by cases hk) (by kernel_rfl) (fnMdlEmpty_met os))) ?_
 intro W base args ds gs before hval hW _ _ _ _ _ _;exact fnMdlEmpty_contract H enc W base args ds gs before hval hW
theorem fnMdlEmpty_closed:joinedFacts Tryz.pinned.checked.prog 11 Tryz.f11 (OpenSpec.ofChange Rows.fnMdlEmptySpec).bare Rows.fnMdlEmptyRow=true:=by
 unfold joinedFacts;simp only[Bool.and_eq_true]
 repeat' apply And.intro
 all_goals(as_aux_lemma=>kernel_rfl)
theorem fnMdlEmpty_said:Rows.FnMdlEmptySaid:=
 OpenClaim.holds_of_cond 11 Tryz.f11 rfl rfl rfl rfl rfl rfl rfl ⟨rfl,rfl,rfl,rfl,rfl⟩ rfl rfl rfl rfl rfl (by kernel_rfl) Tryz.func11 fnMdlEmpty_closed
  (of_decide_eq_true (by kernel_rfl)) (by unfold Func.isWrapper;first|(rw[if_pos (by decide+kernel)];kernel_rfl)|(rw[if_neg (by decide+kernel)];exact⟨rfl,rfl⟩))
  (fun os started H enc _ F=>by rw[OpenClaim.pre_eq_preRow];exact fnMdlEmpty_lifted os started H enc F)
theorem fnMdlEmpty_plain (f:FuncId) (fn:Func) (hf:Tryz.pinned.checked.prog.funcNamed "loop.example/chartulary/laws.FnMdlEmpty" =some f) (hfn:Tryz.pinned.checked.prog.funcs[f]? =some fn):
  false=Tryz.pinned.checked.prog.looks []∧∀(j:Nat) t,fn.params[j]? =some t→Tryz.pinned.checked.prog.wantsStandIn t=false:=by
 obtain rfl:f=11:=Option.some.inj ((show Tryz.prog.funcNamed "loop.example/chartulary/laws.FnMdlEmpty" =some 11 by kernel_rfl).symm.trans hf) |>.symm;obtain rfl:fn=Tryz.f11:=(Option.some.inj (Tryz.func11.symm.trans hfn)).symm;refine⟨by kernel_rfl,fun j t ht=> ?_⟩;rw[Tryz.params11] at ht;have hm:=Array.mem_of_getElem? ht;simp only[List.mem_toArray,List.mem_cons,List.not_mem_nil,or_false] at hm
 rcases hm with rfl
 ·exact(show Tryz.prog.wantsStandIn 22=false by kernel_rfl)
theorem fnMdlEmpty_holds:Rows.FnMdlEmptyCardSaid:=
 Claim7.holds_tied_plain_at .later [] _ _ _ _ fnMdlEmpty_said (fun _ h=>by cases h) (by kernel_rfl) (fun _ h=>by cases h) fnMdlEmpty_row_tie rfl ⟨rfl,rfl⟩ (by kernel_rfl) rfl fnMdlEmpty_plain (by kernel_rfl)
#print axioms fnMdlEmpty_holds
end Go.Proofs.YtheifkmggcenpaaGreatDoor
