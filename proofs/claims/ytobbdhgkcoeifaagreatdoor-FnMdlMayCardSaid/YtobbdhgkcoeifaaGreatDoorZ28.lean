/- Lemmas and walks, joined by program. -/
import Derived.Test.YtobbdhgkcoeifaaGreatDoorZ27
import Derived.Test.YtobbdhgkcoeifaaGreatDoorZ24
import Derived.Test.YtobbdhgkcoeifaaGreatDoorZ20
import Derived.Test.YtobbdhgkcoeifaaGreatDoorZ5
namespace Go.Proofs.YtobbdhgkcoeifaaGreatDoor
open Go.RowKit
set_option maxHeartbeats 8000000
set_option maxRecDepth 100000
set_option linter.unusedSimpArgs false
set_option linter.unusedVariables false
structure HB (w:World) (g:Nat) (m:Jl) (K U R:Value):Prop where
 k:Blk w g 26 #[K,U,R]
 r: ∃f,Rp.house.R w [K,U,R] m f
structure QB (w:World) (g:Nat) (q:Req) (E:Value):Prop where
 k:Blk w g 31 (V5 q E)
 r: ∃f,Rp.req.R w (V5 q E).toList q f
structure AB (w:World) (g:Nat) (a:Ans) (F N:Value):Prop where
 k:Blk w g 37 #[.int .i64 a.code,F,N,.int .i64 a.n]
 r: ∃f,Rp.ans.R w [.int .i64 a.code,F,N,.int .i64 a.n] a f
section
variable {w w':World} {g:Nat} {m:Jl} {q:Req} {a:Ans} {K U R E F N:Value}
theorem HB.step (h:HB w g m K U R) (hb:Below w.heap.size w w'):HB w' g m K U R:=⟨h.k.step hb,h.r.imp fun _ k=>Rp.house.below k hb nle⟩
theorem QB.step (h:QB w g q E) (hb:Below w.heap.size w w'):QB w' g q E:=⟨h.k.step hb,h.r.imp fun _ k=>Rp.req.below k hb nle⟩
theorem AB.step (h:AB w g a F N) (hb:Below w.heap.size w w'):AB w' g a F N:=⟨h.k.step hb,h.r.imp fun _ k=>Rp.ans.below k hb nle⟩
theorem HB.cells (h:HB w g m K U R):w.cell? ⟨g,0,none⟩=some K∧w.cell? ⟨g,1,none⟩=some U∧w.cell? ⟨g,2,none⟩=some R:=⟨h.k.cell 0,h.k.cell 1,h.k.cell 2⟩
theorem AB.cells (h:AB w g a F N):w.cell? ⟨g,0,none⟩=some (.int .i64 a.code)∧w.cell? ⟨g,1,none⟩=some F∧w.cell? ⟨g,2,none⟩=some N∧w.cell? ⟨g,3,none⟩=some (.int .i64 a.n):=⟨h.k.cell 0,h.k.cell 1,h.k.cell 2,h.k.cell 3⟩
end
theorem Done.parts {w w':World} {o:Jl×Ans} {x:Jl} {a:Ans} {e:Ending} (h:Done w o e w') (ho:o=(x,a)): ∃A0 n0 c0 A1 n1 c1 A2 c2 B0 k0 d0 B1 k1 d1,e= .returned (.tuple #[.agg #[.slice A0 n0 c0,.slice A1 n1 c1,.slice A2 x.Rz.length c2],.agg #[.int .i64 a.code,.slice B0 k0 d0,.slice B1 k1 d1,.int .i64 a.n]])∧(∃f,Rp.house.R w' [.slice A0 n0 c0,.slice A1 n1 c1,.slice A2 x.Rz.length c2] x f)∧(∃f,Rp.ans.R w' [.int .i64 a.code,.slice B0 k0 d0,.slice B1 k1 d1,.int .i64 a.n] a f)∧Below w.heap.size w w':=by
 subst ho;obtain⟨ch,av,f,g,rfl,hR,hA, -, -, -,hb⟩:=h;obtain⟨A0,n0,c0,f0,A1,n1,c1,f1,A2,n2,c2,f2,rfl, -, -, -,h2⟩:=id hR;obtain⟨B0,k0,d0,g0,B1,k1,d1,g1,rfl, -⟩:=id hA;obtain rfl:=h2.1;exact⟨A0,n0,c0,A1,n1,c1,A2,c2,B0,k0,d0,B1,k1,d1,rfl,⟨f,hR⟩,⟨g,hA⟩,hb⟩
theorem HB.Rz {w:World} {g:Nat} {m:Jl} {K U:Value} {A:Option Addr} {n c:Nat} (h:HB w g m K U (.slice A n c)): ∃f,SlR Rp.repo w A n c m.Rz f:=by
 obtain⟨f,A0,n0,c0,f0,A1,n1,c1,f1,A2,n2,c2,f2,e, -, -, -,h2⟩:=h.r;cases e;exact⟨f2,h2⟩
theorem QB.cells {w:World} {g:Nat} {q:Req} {E:Value} (h:QB w g q E):w.cell? ⟨g,0,none⟩=some (.int .i64 q.user)∧w.cell? ⟨g,1,none⟩=some (.int .i64 q.key)∧w.cell? ⟨g,2,none⟩=some (.int .i64 q.repo)∧w.cell? ⟨g,3,none⟩=some (.int .i64 q.kind)∧w.cell? ⟨g,4,none⟩=some (.string q.ref)∧w.cell? ⟨g,5,none⟩=some (.string q.path)∧w.cell? ⟨g,6,none⟩=some (.int .i64 q.old)∧w.cell? ⟨g,7,none⟩=some (.int .i64 q.back)∧w.cell? ⟨g,8,none⟩=some E∧w.cell? ⟨g,9,none⟩=some (.int .i64 q.rule.user)∧w.cell? ⟨g,10,none⟩=some (.string q.rule.ref)∧w.cell? ⟨g,11,none⟩=some (.string q.rule.path)∧w.cell? ⟨g,12,none⟩=some (.bool q.rule.write)∧w.cell? ⟨g,13,none⟩=some (.int .i64 q.frm)∧w.cell? ⟨g,14,none⟩=some (.string q.other):=
 ⟨h.k.cell 0,h.k.cell 1,h.k.cell 2,h.k.cell 3,h.k.cell 4,h.k.cell 5,h.k.cell 6,h.k.cell 7,h.k.cell 8,h.k.cell 9,h.k.cell 10,h.k.cell 11,h.k.cell 12,h.k.cell 13,h.k.cell 14⟩
theorem code_zero {m x:Jl} {q:Req} {a:Ans} (h: ¬(Ys m=true∧Yw q=true)) (ho:jai m q=(x,a)):a.code=0:=by
 rw[jdn h] at ho;cases ho;rfl
theorem jqp {w:World} {g g':Nat} {x:Jl} {K U R K' U' R':Value} (h:HB w g x K U R) (h':HB w g' x K' U' R'):
  Calls Tryz.prog 10 #[.agg #[K,U,R],.agg #[K',U',R']] w fun e w'=>e= .returned (.bool true)∧Below w.heap.size w w':=
 (jga w h.r.choose_spec h'.r.choose_spec).mono fun _ _ ⟨h1,h2⟩=>⟨by rw[h1];simp,h2⟩
theorem jp8 {w:World} {g g':Nat} {a:Ans} {F N F' N':Value} (h:AB w g a F N) (h':AB w g' a F' N'):
  Calls Tryz.prog 11 #[.agg #[.int .i64 a.code,F,N,.int .i64 a.n],.agg #[.int .i64 a.code,F',N',.int .i64 a.n]] w fun e w'=>e= .returned (.bool true)∧Below w.heap.size w w':=
 (je2 w h.r.choose_spec h'.r.choose_spec).mono fun _ _ ⟨h1,h2⟩=>⟨by rw[h1];simp,h2⟩
theorem implDo {w:World} {g g':Nat} {m:Jl} {q:Req} {K U R E:Value} (h:HB w g m K U R) (h':QB w g' q E) (hf:V9 m) (hq:jdu q):
  Calls Tryz.prog 8 #[.agg #[K,U,R],.agg (V5 q E)] w (Done w (jai m q)):=jhz w h.r.choose_spec h'.r.choose_spec hf hq
theorem specDo {w:World} {g g':Nat} {m:Jl} {q:Req} {K U R E:Value} (h:HB w g m K U R) (h':QB w g' q E) (hf:V9 m) (hq:jdu q):
  Calls Tryz.prog 9 #[.agg #[K,U,R],.agg (V5 q E)] w (Done w (jai m q)):=jah w h.r.choose_spec h'.r.choose_spec hf hq
section
variable {P:Program} {s:Code} {Q:Exit→Act→World→Prop} {b:Act} {w:World} {m:Jl} {q:Req} {a:Ans} {K U R E F N:Value}
theorem wp_HQ (hR: ∃f,Rp.house.R w [K,U,R] m f) (hQ: ∃f,Rp.req.R w (V5 q E).toList q f) (h: ∀W,HB W w.heap.size m K U R→QB W (w.heap.size+1) q E→Below w.heap.size w W→s.wp P Q b W):
  s.wp P Q b ((w.alloc (.cells #[K,U,R] 26)).alloc (.cells (RA q E) 31)):=by
 obtain⟨h1,h2,h3⟩:=Blk.two w 26 31 #[K,U,R] (V5 q E);exact h _ ⟨h1,hR.imp fun _ k=>Rp.house.below k h3 nle⟩ ⟨h2,hQ.imp fun _ k=>Rp.req.below k h3 nle⟩ h3
theorem wp_HA (hR: ∃f,Rp.house.R w [K,U,R] m f) (hA: ∃f,Rp.ans.R w [.int .i64 a.code,F,N,.int .i64 a.n] a f) (h: ∀W,HB W w.heap.size m K U R→AB W (w.heap.size+1) a F N→Below w.heap.size w W→s.wp P Q b W):
  s.wp P Q b ((w.alloc (.cells #[K,U,R] 26)).alloc (.cells #[.int .i64 a.code,F,N,.int .i64 a.n] 37)):=by
 obtain⟨h1,h2,h3⟩:=Blk.two w 26 37 #[K,U,R] #[.int .i64 a.code,F,N,.int .i64 a.n];exact h _ ⟨h1,hR.imp fun _ k=>Rp.house.below k h3 nle⟩ ⟨h2,hA.imp fun _ k=>Rp.ans.below k h3 nle⟩ h3
end
structure HQ (w0 W:World) (m:Jl) (q:Req) (K U R E:Value):Prop where
 on:Below w0.heap.size w0 W
 km:Blk W w0.heap.size 26 #[K,U,R]
 kq:Blk W (w0.heap.size+1) 31 (V5 q E)
 rm: ∃f,Rp.house.R W [K,U,R] m f∧∀z∈f,z<w0.heap.size
 rq: ∃f,Rp.req.R W (V5 q E).toList q f∧∀z∈f,z<w0.heap.size
section
variable {w0 W W':World} {m:Jl} {q q':Req} {K U R E E':Value}
theorem HQ.hb (h:HQ w0 W m q K U R E):HB W w0.heap.size m K U R:=⟨h.km,h.rm.imp fun _ k=>k.1⟩
theorem HQ.step (h:HQ w0 W m q K U R E) (hb:Below W.heap.size W W'):HQ w0 W' m q K U R E:=
 ⟨Below.t h.on hb,h.km.step hb,h.kq.step hb,h.rm.imp fun _ k=>⟨Rp.house.below k.1 hb nle,k.2⟩,h.rq.imp fun _ k=>⟨Rp.req.below k.1 hb nle,k.2⟩⟩
theorem HQ.put (h:HQ w0 W m q K U R E) {i:Nat} {v:Value} (e:(V5 q E).setIfInBounds i v=V5 q' E') (hQ: ∃f,Rp.req.R W (V5 q' E').toList q' f∧∀z∈f,z<w0.heap.size):HQ w0 (W.setCell ⟨w0.heap.size+1,i,none⟩ v) m q' K U R E':=by
 have hk: ∀z,z<w0.heap.size→(W.setCell ⟨w0.heap.size+1,i,none⟩ v).heap[z]? =W.heap[z]? :=fun z hz=>Below.heap_setCell _ _ _ _ (by rintro rfl;simp at hz;omega);refine⟨h.on.setCell (by simp) _,(Below.heap_setCell _ _ _ _ (by simp)).trans h.km,e▸h.kq.put i v,h.rm.imp fun _ k=>⟨Rp.house.keep k.1 fun z hz=>hk z (k.2 z hz),k.2⟩,hQ.imp fun _ k=>⟨Rp.req.keep k.1 fun z hz=>hk z (k.2 z hz),k.2⟩⟩
end
structure HBn (w:World) (g:Nat) (m:Jl) (K U R:Value) (lo:Nat):Prop where
 k:Blk w g 26 #[K,U,R]
 r: ∃f,Rp.house.R w [K,U,R] m f∧∀z∈f,lo≤z
section
variable {w w':World} {g lo:Nat} {m:Jl} {K U R:Value}
theorem HBn.hb (h:HBn w g m K U R lo):HB w g m K U R:=⟨h.k,h.r.imp fun _ k=>k.1⟩
theorem HBn.step (h:HBn w g m K U R lo) (hb:Below w.heap.size w w'):HBn w' g m K U R lo:=⟨h.k.step hb,h.r.imp fun _ k=>⟨Rp.house.below k.1 hb nle,k.2⟩⟩
theorem HBn.only (h:HBn w g m K U R lo) {q:Nat} (ho:Only [q] w w') (hg:q<g) (hq:q<lo):HBn w' g m K U R lo:=
 ⟨h.k.only ho (by simp;omega),h.r.imp fun f k=>⟨Rp.house.keep k.1 fun z hz=>ho.block z (Rp.house.lt k.1 z hz) (by have:=k.2 z hz;simp;omega),k.2⟩⟩
end
end Go.Proofs.YtobbdhgkcoeifaaGreatDoor
