/- Lemmas and walks, joined by program. -/
import Derived.Laws.OwnMore
import Derived.Test.YtobbdhgkcoeifaaGreatDoorZ7
import Derived.Test.YtobbdhgkcoeifaaGreatDoorZ4
import Derived.Test.YtobbdhgkcoeifaaGreatDoorZ8
import Derived.Test.YtobbdhgkcoeifaaGreatDoorZ2
import Derived.Test.YtobbdhgkcoeifaaGreatDoorZ5
namespace Go.Proofs.YtobbdhgkcoeifaaGreatDoor
open Go.RowKit
set_option maxHeartbeats 8000000
set_option maxRecDepth 100000
set_option linter.unusedSimpArgs false
set_option linter.unusedVariables false
def jbo (l:List Int):List Int:=l.map fun _=>0
theorem jei (l:List Int):(jbo l).length=l.length:=by simp[jbo]
def Yl (keys admins:List Int):Jl:=⟨keys,jbo keys,admins.map fun a=>⟨a,[],[]⟩⟩
def jb4 (keys admins:List Int):Jl:=if Ys (Yl keys admins)=true then Yl keys admins else⟨[],[],[]⟩
def V5 (q:Req) (E:Value):Array Value:= #[.int .i64 q.user,.int .i64 q.key,.int .i64 q.repo,.int .i64 q.kind,.string q.ref,.string q.path,.int .i64 q.old,.int .i64 q.back,E,.int .i64 q.rule.user,.string q.rule.ref,.string q.rule.path,.bool q.rule.write,.int .i64 q.frm,.string q.other]
structure jat (q:Req):Prop where
 ref:q.ref.size≤11
 path:q.path.size≤11
 Ez:Xi q.Ez
 len:q.Ez.length≤6
 rule:Vn q.rule
 other:q.other.size≤11
structure RQ (w0:World) (g P:Nat) (mc rc:Array Value) (Q:Nat) (q:Req) (E:Value) (w:World):Prop where
 rd:Rd w g P
 on:Only [g] w0 w
 km:Blk w w0.heap.size 26 mc
 kr:Blk w (w0.heap.size+1) 31 rc
 kq:Blk w Q 31 (V5 q E)
 own:w.ownsRow (w0.heap.size+2) 59 3 E q.Ez.length (q.Ez.flatMap Jp)
 sm:jat q
 gl:g<w0.heap.size
 ql:w0.heap.size+1<Q
def jjy (l:List Int):Array Value:=(l.map fun x=>Value.int .i64 x).toArray
theorem litI {w w1:World} {g H x:Nat} {t:TypeId} {l:List Int} (hb:Blk w H t (jjy l)) (ho:Only [g] w w1) (hg:H≠g) (hx:x<l.length): ∃z:Int,w1.cell? ⟨H,x,none⟩=some (.int .i64 z):=
 ⟨l[x],((hb.only ho (by simpa using hg)).cell x).trans (by simp[jjy,hx])⟩
def Wr (w:World) (Q:Nat) (q:Req) (E:Value):World:=((((((((((((((w.setCell ⟨Q,0,none⟩ (.int .i64 q.user)).setCell ⟨Q,1,none⟩ (.int .i64 q.key)).setCell ⟨Q,2,none⟩ (.int .i64 q.repo)).setCell ⟨Q,3,none⟩ (.int .i64 q.kind)).setCell ⟨Q,4,none⟩ (.string q.ref)).setCell ⟨Q,5,none⟩ (.string q.path)).setCell ⟨Q,6,none⟩ (.int .i64 q.old)).setCell ⟨Q,7,none⟩ (.int .i64 q.back)).setCell ⟨Q,8,none⟩ E).setCell ⟨Q,9,none⟩ (.int .i64 q.rule.user)).setCell ⟨Q,10,none⟩ (.string q.rule.ref)).setCell ⟨Q,11,none⟩ (.string q.rule.path)).setCell ⟨Q,12,none⟩ (.bool q.rule.write)).setCell ⟨Q,13,none⟩ (.int .i64 q.frm)).setCell ⟨Q,14,none⟩ (.string q.other)
theorem Only.trans_new {w0 w w':World} {g Q:Nat} (h:Only [g] w0 w) (k:Only [Q] w w') (hq:w0.heap.size≤Q):Only [g] w0 w':=
 h.step k.os k.tape k.output k.size fun i hi hn=>k.block i (Nat.lt_of_lt_of_le hi h.size) (by simp;omega)
theorem joj (w:World) (g i:Nat) (v:Value):Only [g] w (w.setCell ⟨g,i,none⟩ v):=(Only.refl [g] w).setCell (.inl (by simp)) v
theorem jho {w:World} {base size n b k:Nat} {e t:TypeId} {v:Value} {xs:List Value} {cs:Array Value} (h:w.ownsRow base e size v n xs) (hk:Blk w b t cs) (ht:t≠e) (hv:v.ownBlock=some k):k≠b:=fun hb=>by
 subst hb;rcases h.2 with ⟨h0,_⟩|⟨g,cap,cur,h0,_,hc,_⟩
 ·rw[h0] at hv;cases hv
 ·rw[h0] at hv;cases hv;have:=hc.symm.trans hk.out;simp at this;exact ht this.2.symm
theorem jl2 {w:World} {base size n b j:Nat} {e t:TypeId} {v u:Value} {xs:List Value} {cs:Array Value} (h:w.ownsRow base e size v n xs) (hk:Blk w b t cs) (ht:t≠e):(w.setCell ⟨b,j,none⟩ u).ownsRow base e size v n xs:=
 ⟨h.1,h.2.elim Or.inl (fun⟨k,cap,cur,hv,hb,hc,r⟩=>Or.inr ⟨k,cap,cur,hv,hb,((joj w b j u).block k (Array.getElem?_eq_some_iff.1 hc).1 (by simpa using jho h hk ht (by rw[hv];rfl))).trans hc,r⟩)⟩
section
variable {w0 w w':World} {g P P':Nat} {mc rc:Array Value} {Q:Nat} {q q':Req} {E E':Value}
theorem RQ.only (h:RQ w0 g P mc rc Q q E w) (ho:Only [g] w w') (hr:Rd w' g P'):RQ w0 g P' mc rc Q q E w':=
 have h1:=h.gl;have h2:=h.ql
 ⟨hr,h.on.trans ho,h.km.only ho (by simp;omega),h.kr.only ho (by simp;omega),h.kq.only ho (by simp;omega),Vj h.own ho (by omega),h.sm,h.gl,h.ql⟩
theorem RQ.low (h:RQ w0 g P mc rc Q q E w) (hb:Below w.heap.size w w'):RQ w0 g P mc rc Q q E w':=h.only (Only.of_below hb _) (h.rd.step hb)
theorem RQ.alloc (h:RQ w0 g P mc rc Q q E w) (o:Obj):RQ w0 g P mc rc Q q E (w.alloc o):=h.low ((Below.refl _ _).alloc nle o)
theorem RQ.drew (h:RQ w0 g P mc rc Q q E w):RQ w0 g P mc rc Q q E w.drew:=h.low (Below.refl _ _).drew
theorem RQ.mono (h:RQ w0 g P mc rc Q q E w) (hp:P≤P'):RQ w0 g P' mc rc Q q E w:=⟨h.rd.mono hp,h.on,h.km,h.kr,h.kq,h.own,h.sm,h.gl,h.ql⟩
theorem RQ.put (h:RQ w0 g P mc rc Q q E w) (j:Nat) (v:Value) (he:(V5 q E).setIfInBounds j v=V5 q' E') (ho:w.ownsRow (w0.heap.size+2) 59 3 E' q'.Ez.length (q'.Ez.flatMap Jp)) (hs:jat q'):RQ w0 g P mc rc Q q' E' (w.setCell ⟨Q,j,none⟩ v):=
 have h1:=h.gl;have h2:=h.ql
 ⟨h.rd.put (by omega) v,h.on.setCell (p:=⟨Q,j,none⟩) (.inr (by show w0.heap.size≤Q;omega)) v,h.km.far (by omega) v,h.kr.far (by omega) v,by rw[←he];exact Jd h.kq v,jl2 ho h.kq (by decide),hs,h.gl,h.ql⟩
theorem RQ.put15 (h:RQ w0 g P mc rc Q q E w) (ho:w.ownsRow (w0.heap.size+2) 59 3 E' q'.Ez.length (q'.Ez.flatMap Jp)) (hs:jat q'):RQ w0 g P mc rc Q q' E' (Wr w Q q' E'):=by
 have h1:=h.gl;have h2:=h.ql;have hk:=h.kq;have HO:Only [Q] w (Wr w Q q' E'):=by
  unfold Wr
  exact((((((((((((((((Only.refl [Q] w).setCell (p:=⟨Q,0,none⟩) (.inl (by simp)) _).setCell (p:=⟨Q,1,none⟩) (.inl (by simp)) _).setCell (p:=⟨Q,2,none⟩) (.inl (by simp)) _).setCell (p:=⟨Q,3,none⟩) (.inl (by simp)) _).setCell (p:=⟨Q,4,none⟩) (.inl (by simp)) _).setCell (p:=⟨Q,5,none⟩) (.inl (by simp)) _).setCell (p:=⟨Q,6,none⟩) (.inl (by simp)) _).setCell (p:=⟨Q,7,none⟩) (.inl (by simp)) _).setCell (p:=⟨Q,8,none⟩) (.inl (by simp)) _).setCell (p:=⟨Q,9,none⟩) (.inl (by simp)) _).setCell (p:=⟨Q,10,none⟩) (.inl (by simp)) _).setCell (p:=⟨Q,11,none⟩) (.inl (by simp)) _).setCell (p:=⟨Q,12,none⟩) (.inl (by simp)) _).setCell (p:=⟨Q,13,none⟩) (.inl (by simp)) _).setCell (p:=⟨Q,14,none⟩) (.inl (by simp)) _)
 have hlow: ∀b,b<w.heap.size→b≠Q→(Wr w Q q' E').heap[b]? =w.heap[b]? :=fun b hb hn=>HO.block b hb (by simpa using hn);have hq:Blk (Wr w Q q' E') Q 31 (V5 q' E'):=by
  unfold Wr;have k0:Blk _ Q 31 #[.int .i64 q'.user,.int .i64 q.key,.int .i64 q.repo,.int .i64 q.kind,.string q.ref,.string q.path,.int .i64 q.old,.int .i64 q.back,E,.int .i64 q.rule.user,.string q.rule.ref,.string q.rule.path,.bool q.rule.write,.int .i64 q.frm,.string q.other]:=Jd (i:=0) hk (.int .i64 q'.user)
  have k1:Blk _ Q 31 #[.int .i64 q'.user,.int .i64 q'.key,.int .i64 q.repo,.int .i64 q.kind,.string q.ref,.string q.path,.int .i64 q.old,.int .i64 q.back,E,.int .i64 q.rule.user,.string q.rule.ref,.string q.rule.path,.bool q.rule.write,.int .i64 q.frm,.string q.other]:=Jd (i:=1) k0 (.int .i64 q'.key)
  have k2:Blk _ Q 31 #[.int .i64 q'.user,.int .i64 q'.key,.int .i64 q'.repo,.int .i64 q.kind,.string q.ref,.string q.path,.int .i64 q.old,.int .i64 q.back,E,.int .i64 q.rule.user,.string q.rule.ref,.string q.rule.path,.bool q.rule.write,.int .i64 q.frm,.string q.other]:=Jd (i:=2) k1 (.int .i64 q'.repo)
  have k3:Blk _ Q 31 #[.int .i64 q'.user,.int .i64 q'.key,.int .i64 q'.repo,.int .i64 q'.kind,.string q.ref,.string q.path,.int .i64 q.old,.int .i64 q.back,E,.int .i64 q.rule.user,.string q.rule.ref,.string q.rule.path,.bool q.rule.write,.int .i64 q.frm,.string q.other]:=Jd (i:=3) k2 (.int .i64 q'.kind)
  have k4:Blk _ Q 31 #[.int .i64 q'.user,.int .i64 q'.key,.int .i64 q'.repo,.int .i64 q'.kind,.string q'.ref,.string q.path,.int .i64 q.old,.int .i64 q.back,E,.int .i64 q.rule.user,.string q.rule.ref,.string q.rule.path,.bool q.rule.write,.int .i64 q.frm,.string q.other]:=Jd (i:=4) k3 (.string q'.ref)
  have k5:Blk _ Q 31 #[.int .i64 q'.user,.int .i64 q'.key,.int .i64 q'.repo,.int .i64 q'.kind,.string q'.ref,.string q'.path,.int .i64 q.old,.int .i64 q.back,E,.int .i64 q.rule.user,.string q.rule.ref,.string q.rule.path,.bool q.rule.write,.int .i64 q.frm,.string q.other]:=Jd (i:=5) k4 (.string q'.path)
  have k6:Blk _ Q 31 #[.int .i64 q'.user,.int .i64 q'.key,.int .i64 q'.repo,.int .i64 q'.kind,.string q'.ref,.string q'.path,.int .i64 q'.old,.int .i64 q.back,E,.int .i64 q.rule.user,.string q.rule.ref,.string q.rule.path,.bool q.rule.write,.int .i64 q.frm,.string q.other]:=Jd (i:=6) k5 (.int .i64 q'.old)
  have k7:Blk _ Q 31 #[.int .i64 q'.user,.int .i64 q'.key,.int .i64 q'.repo,.int .i64 q'.kind,.string q'.ref,.string q'.path,.int .i64 q'.old,.int .i64 q'.back,E,.int .i64 q.rule.user,.string q.rule.ref,.string q.rule.path,.bool q.rule.write,.int .i64 q.frm,.string q.other]:=Jd (i:=7) k6 (.int .i64 q'.back)
  have k8:Blk _ Q 31 #[.int .i64 q'.user,.int .i64 q'.key,.int .i64 q'.repo,.int .i64 q'.kind,.string q'.ref,.string q'.path,.int .i64 q'.old,.int .i64 q'.back,E',.int .i64 q.rule.user,.string q.rule.ref,.string q.rule.path,.bool q.rule.write,.int .i64 q.frm,.string q.other]:=Jd (i:=8) k7 E'
  have k9:Blk _ Q 31 #[.int .i64 q'.user,.int .i64 q'.key,.int .i64 q'.repo,.int .i64 q'.kind,.string q'.ref,.string q'.path,.int .i64 q'.old,.int .i64 q'.back,E',.int .i64 q'.rule.user,.string q.rule.ref,.string q.rule.path,.bool q.rule.write,.int .i64 q.frm,.string q.other]:=Jd (i:=9) k8 (.int .i64 q'.rule.user)
  have k10:Blk _ Q 31 #[.int .i64 q'.user,.int .i64 q'.key,.int .i64 q'.repo,.int .i64 q'.kind,.string q'.ref,.string q'.path,.int .i64 q'.old,.int .i64 q'.back,E',.int .i64 q'.rule.user,.string q'.rule.ref,.string q.rule.path,.bool q.rule.write,.int .i64 q.frm,.string q.other]:=Jd (i:=10) k9 (.string q'.rule.ref)
  have k11:Blk _ Q 31 #[.int .i64 q'.user,.int .i64 q'.key,.int .i64 q'.repo,.int .i64 q'.kind,.string q'.ref,.string q'.path,.int .i64 q'.old,.int .i64 q'.back,E',.int .i64 q'.rule.user,.string q'.rule.ref,.string q'.rule.path,.bool q.rule.write,.int .i64 q.frm,.string q.other]:=Jd (i:=11) k10 (.string q'.rule.path)
  have k12:Blk _ Q 31 #[.int .i64 q'.user,.int .i64 q'.key,.int .i64 q'.repo,.int .i64 q'.kind,.string q'.ref,.string q'.path,.int .i64 q'.old,.int .i64 q'.back,E',.int .i64 q'.rule.user,.string q'.rule.ref,.string q'.rule.path,.bool q'.rule.write,.int .i64 q.frm,.string q.other]:=Jd (i:=12) k11 (.bool q'.rule.write)
  have k13:Blk _ Q 31 #[.int .i64 q'.user,.int .i64 q'.key,.int .i64 q'.repo,.int .i64 q'.kind,.string q'.ref,.string q'.path,.int .i64 q'.old,.int .i64 q'.back,E',.int .i64 q'.rule.user,.string q'.rule.ref,.string q'.rule.path,.bool q'.rule.write,.int .i64 q'.frm,.string q.other]:=Jd (i:=13) k12 (.int .i64 q'.frm)
  have k14:Blk _ Q 31 #[.int .i64 q'.user,.int .i64 q'.key,.int .i64 q'.repo,.int .i64 q'.kind,.string q'.ref,.string q'.path,.int .i64 q'.old,.int .i64 q'.back,E',.int .i64 q'.rule.user,.string q'.rule.ref,.string q'.rule.path,.bool q'.rule.write,.int .i64 q'.frm,.string q'.other]:=Jd (i:=14) k13 (.string q'.other);exact k14
 refine⟨?_, ?_, ?_, ?_,hq, ?_,hs,h1,h2⟩
 ·exact h.rd.only (f:=[Q]) HO (by simp;omega)
 ·exact h.on.trans_new HO (by omega)
 ·exact(hlow _ h.km.lt (by omega)).trans h.km
 ·exact(hlow _ h.kr.lt (by omega)).trans h.kr
 ·exact⟨ho.1,ho.2.elim Or.inl (fun⟨k,cap,cur,hv,hk,hc,r⟩=>Or.inr ⟨k,cap,cur,hv,hk,(hlow k (Array.getElem?_eq_some_iff.1 hc).1 (jho ho h.kq (by decide) (by rw[hv];rfl))).trans hc,r⟩)⟩
theorem RQ.cells (h:RQ w0 g P mc rc Q q E w) (j:Nat):w.cell? ⟨Q,j,none⟩=(V5 q E)[j]? :=h.kq.cell j
theorem RQ.putUser (h:RQ w0 g P mc rc Q q E w) (z:Int):RQ w0 g P mc rc Q { q with user:=z} E (w.setCell ⟨Q,0,none⟩ (.int .i64 z)):=h.put 0 _ rfl h.own ⟨h.sm.1,h.sm.2,h.sm.3,h.sm.4,h.sm.5,h.sm.6⟩
theorem RQ.putKey (h:RQ w0 g P mc rc Q q E w) (z:Int):RQ w0 g P mc rc Q { q with key:=z} E (w.setCell ⟨Q,1,none⟩ (.int .i64 z)):=h.put 1 _ rfl h.own ⟨h.sm.1,h.sm.2,h.sm.3,h.sm.4,h.sm.5,h.sm.6⟩
theorem RQ.putRepo (h:RQ w0 g P mc rc Q q E w) (z:Int):RQ w0 g P mc rc Q { q with repo:=z} E (w.setCell ⟨Q,2,none⟩ (.int .i64 z)):=h.put 2 _ rfl h.own ⟨h.sm.1,h.sm.2,h.sm.3,h.sm.4,h.sm.5,h.sm.6⟩
theorem RQ.putKind (h:RQ w0 g P mc rc Q q E w) (z:Int):RQ w0 g P mc rc Q { q with kind:=z} E (w.setCell ⟨Q,3,none⟩ (.int .i64 z)):=h.put 3 _ rfl h.own ⟨h.sm.1,h.sm.2,h.sm.3,h.sm.4,h.sm.5,h.sm.6⟩
theorem RQ.putRef (h:RQ w0 g P mc rc Q q E w) {s:ByteArray} (hs:s.size≤11):RQ w0 g P mc rc Q { q with ref:=s} E (w.setCell ⟨Q,4,none⟩ (.string s)):=h.put 4 _ rfl h.own ⟨hs,h.sm.2,h.sm.3,h.sm.4,h.sm.5,h.sm.6⟩
theorem RQ.putPath (h:RQ w0 g P mc rc Q q E w) {s:ByteArray} (hs:s.size≤11):RQ w0 g P mc rc Q { q with path:=s} E (w.setCell ⟨Q,5,none⟩ (.string s)):=h.put 5 _ rfl h.own ⟨h.sm.1,hs,h.sm.3,h.sm.4,h.sm.5,h.sm.6⟩
theorem RQ.putOld (h:RQ w0 g P mc rc Q q E w) (z:Int):RQ w0 g P mc rc Q { q with old:=z} E (w.setCell ⟨Q,6,none⟩ (.int .i64 z)):=h.put 6 _ rfl h.own ⟨h.sm.1,h.sm.2,h.sm.3,h.sm.4,h.sm.5,h.sm.6⟩
theorem RQ.putBack (h:RQ w0 g P mc rc Q q E w) (z:Int):RQ w0 g P mc rc Q { q with back:=z} E (w.setCell ⟨Q,7,none⟩ (.int .i64 z)):=h.put 7 _ rfl h.own ⟨h.sm.1,h.sm.2,h.sm.3,h.sm.4,h.sm.5,h.sm.6⟩
theorem RQ.putEdits (h:RQ w0 g P mc rc Q q E w) {l:List Wz} {v:Value} {B:Nat} (ho:w.ownsRow B 59 3 v l.length (l.flatMap Jp)) (hB:w0.heap.size+2≤B) (hl:Xi l) (hn:l.length≤6):RQ w0 g P mc rc Q { q with Ez:=l} v (w.setCell ⟨Q,8,none⟩ v):=h.put 8 _ rfl (Zy ho hB) ⟨h.sm.1,h.sm.2,hl,hn,h.sm.5,h.sm.6⟩
theorem RQ.putRule (h:RQ w0 g P mc rc Q q E w) {r:Yt} (hr:Vn r):RQ w0 g P mc rc Q { q with rule:=r} E ((((w.setCell ⟨Q,9,none⟩ (.int .i64 r.user)).setCell ⟨Q,10,none⟩ (.string r.ref)).setCell ⟨Q,11,none⟩ (.string r.path)).setCell ⟨Q,12,none⟩ (.bool r.write)):=
 have h0:RQ w0 g P mc rc Q { q with rule:=⟨r.user,q.rule.ref,q.rule.path,q.rule.write⟩} E (w.setCell ⟨Q,9,none⟩ (.int .i64 r.user)):=h.put 9 _ rfl h.own ⟨h.sm.1,h.sm.2,h.sm.3,h.sm.4,h.sm.5,h.sm.6⟩;have h1:RQ w0 g P mc rc Q { q with rule:=⟨r.user,r.ref,q.rule.path,q.rule.write⟩} E _:=h0.put 10 (.string r.ref) rfl h0.own ⟨h.sm.1,h.sm.2,h.sm.3,h.sm.4,⟨hr.1,h.sm.5.2⟩,h.sm.6⟩
 have h2:RQ w0 g P mc rc Q { q with rule:=⟨r.user,r.ref,r.path,q.rule.write⟩} E _:=h1.put 11 (.string r.path) rfl h1.own ⟨h.sm.1,h.sm.2,h.sm.3,h.sm.4,hr,h.sm.6⟩
 h2.put 12 (.bool r.write) rfl h2.own ⟨h.sm.1,h.sm.2,h.sm.3,h.sm.4,hr,h.sm.6⟩
theorem RQ.putFrm (h:RQ w0 g P mc rc Q q E w) (z:Int):RQ w0 g P mc rc Q { q with frm:=z} E (w.setCell ⟨Q,13,none⟩ (.int .i64 z)):=h.put 13 _ rfl h.own ⟨h.sm.1,h.sm.2,h.sm.3,h.sm.4,h.sm.5,h.sm.6⟩
theorem RQ.putOther (h:RQ w0 g P mc rc Q q E w) {s:ByteArray} (hs:s.size≤11):RQ w0 g P mc rc Q { q with other:=s} E (w.setCell ⟨Q,14,none⟩ (.string s)):=h.put 14 _ rfl h.own ⟨h.sm.1,h.sm.2,h.sm.3,h.sm.4,h.sm.5,hs⟩
theorem RQ.frz (h:RQ w0 g P mc rc Q q E w) (j:Nat):w.frozen? ⟨Q,j,none⟩=false:=by
 have:=h.kq;unfold Blk at this;simp[World.frozen?,this]
theorem RQ.size (h:RQ w0 g P mc rc Q q E w):w0.heap.size+1<Q∧Q<w.heap.size∧g<w0.heap.size:=⟨h.ql,h.kq.lt,h.gl⟩
theorem RQ.all (h:RQ w0 g P mc rc Q q E w):w.cell? ⟨Q,0,none⟩=some (.int .i64 q.user)∧w.cell? ⟨Q,1,none⟩=some (.int .i64 q.key)∧w.cell? ⟨Q,2,none⟩=some (.int .i64 q.repo)∧w.cell? ⟨Q,3,none⟩=some (.int .i64 q.kind)∧w.cell? ⟨Q,4,none⟩=some (.string q.ref)∧w.cell? ⟨Q,5,none⟩=some (.string q.path)∧w.cell? ⟨Q,6,none⟩=some (.int .i64 q.old)∧w.cell? ⟨Q,7,none⟩=some (.int .i64 q.back)∧w.cell? ⟨Q,8,none⟩=some E∧w.cell? ⟨Q,9,none⟩=some (.int .i64 q.rule.user)∧w.cell? ⟨Q,10,none⟩=some (.string q.rule.ref)∧w.cell? ⟨Q,11,none⟩=some (.string q.rule.path)∧w.cell? ⟨Q,12,none⟩=some (.bool q.rule.write)∧w.cell? ⟨Q,13,none⟩=some (.int .i64 q.frm)∧w.cell? ⟨Q,14,none⟩=some (.string q.other):=
 ⟨h.cells 0,h.cells 1,h.cells 2,h.cells 3,h.cells 4,h.cells 5,h.cells 6,h.cells 7,h.cells 8,h.cells 9,h.cells 10,h.cells 11,h.cells 12,h.cells 13,h.cells 14⟩
theorem RQ.req (h:RQ w0 g P mc rc Q q E w): ∃A c f,E= .slice A q.Ez.length c∧Rp.req.R w (V5 q (.slice A q.Ez.length c)).toList q f∧(∀z∈f,w0.heap.size≤z)∧f.Nodup∧Free w f:=by
 obtain⟨A,c,f,rfl,hs,hfb,hnd,hfr⟩:=Xw (k:=3) (enc:=Jp) (hk:=fun _=>rfl) (h1:=Yn) h.own;exact⟨A,c,f,rfl,⟨A,_,c,f,rfl,rfl,hs⟩,fun z hz=>by have:=hfb z hz;have:=h.ql;omega,hnd,hfr⟩
end
theorem Blk.box15 {w:World} {B:Nat} {q q':Req} {E E':Value} (hk:Blk w B 31 (V5 q E)):Blk (Wr w B q' E') B 31 (V5 q' E'):=by
 unfold Wr;have k0:Blk _ B 31 #[.int .i64 q'.user,.int .i64 q.key,.int .i64 q.repo,.int .i64 q.kind,.string q.ref,.string q.path,.int .i64 q.old,.int .i64 q.back,E,.int .i64 q.rule.user,.string q.rule.ref,.string q.rule.path,.bool q.rule.write,.int .i64 q.frm,.string q.other]:=Jd (i:=0) hk (.int .i64 q'.user)
 have k1:Blk _ B 31 #[.int .i64 q'.user,.int .i64 q'.key,.int .i64 q.repo,.int .i64 q.kind,.string q.ref,.string q.path,.int .i64 q.old,.int .i64 q.back,E,.int .i64 q.rule.user,.string q.rule.ref,.string q.rule.path,.bool q.rule.write,.int .i64 q.frm,.string q.other]:=Jd (i:=1) k0 (.int .i64 q'.key)
 have k2:Blk _ B 31 #[.int .i64 q'.user,.int .i64 q'.key,.int .i64 q'.repo,.int .i64 q.kind,.string q.ref,.string q.path,.int .i64 q.old,.int .i64 q.back,E,.int .i64 q.rule.user,.string q.rule.ref,.string q.rule.path,.bool q.rule.write,.int .i64 q.frm,.string q.other]:=Jd (i:=2) k1 (.int .i64 q'.repo)
 have k3:Blk _ B 31 #[.int .i64 q'.user,.int .i64 q'.key,.int .i64 q'.repo,.int .i64 q'.kind,.string q.ref,.string q.path,.int .i64 q.old,.int .i64 q.back,E,.int .i64 q.rule.user,.string q.rule.ref,.string q.rule.path,.bool q.rule.write,.int .i64 q.frm,.string q.other]:=Jd (i:=3) k2 (.int .i64 q'.kind)
 have k4:Blk _ B 31 #[.int .i64 q'.user,.int .i64 q'.key,.int .i64 q'.repo,.int .i64 q'.kind,.string q'.ref,.string q.path,.int .i64 q.old,.int .i64 q.back,E,.int .i64 q.rule.user,.string q.rule.ref,.string q.rule.path,.bool q.rule.write,.int .i64 q.frm,.string q.other]:=Jd (i:=4) k3 (.string q'.ref)
 have k5:Blk _ B 31 #[.int .i64 q'.user,.int .i64 q'.key,.int .i64 q'.repo,.int .i64 q'.kind,.string q'.ref,.string q'.path,.int .i64 q.old,.int .i64 q.back,E,.int .i64 q.rule.user,.string q.rule.ref,.string q.rule.path,.bool q.rule.write,.int .i64 q.frm,.string q.other]:=Jd (i:=5) k4 (.string q'.path)
 have k6:Blk _ B 31 #[.int .i64 q'.user,.int .i64 q'.key,.int .i64 q'.repo,.int .i64 q'.kind,.string q'.ref,.string q'.path,.int .i64 q'.old,.int .i64 q.back,E,.int .i64 q.rule.user,.string q.rule.ref,.string q.rule.path,.bool q.rule.write,.int .i64 q.frm,.string q.other]:=Jd (i:=6) k5 (.int .i64 q'.old)
 have k7:Blk _ B 31 #[.int .i64 q'.user,.int .i64 q'.key,.int .i64 q'.repo,.int .i64 q'.kind,.string q'.ref,.string q'.path,.int .i64 q'.old,.int .i64 q'.back,E,.int .i64 q.rule.user,.string q.rule.ref,.string q.rule.path,.bool q.rule.write,.int .i64 q.frm,.string q.other]:=Jd (i:=7) k6 (.int .i64 q'.back)
 have k8:Blk _ B 31 #[.int .i64 q'.user,.int .i64 q'.key,.int .i64 q'.repo,.int .i64 q'.kind,.string q'.ref,.string q'.path,.int .i64 q'.old,.int .i64 q'.back,E',.int .i64 q.rule.user,.string q.rule.ref,.string q.rule.path,.bool q.rule.write,.int .i64 q.frm,.string q.other]:=Jd (i:=8) k7 E'
 have k9:Blk _ B 31 #[.int .i64 q'.user,.int .i64 q'.key,.int .i64 q'.repo,.int .i64 q'.kind,.string q'.ref,.string q'.path,.int .i64 q'.old,.int .i64 q'.back,E',.int .i64 q'.rule.user,.string q.rule.ref,.string q.rule.path,.bool q.rule.write,.int .i64 q.frm,.string q.other]:=Jd (i:=9) k8 (.int .i64 q'.rule.user)
 have k10:Blk _ B 31 #[.int .i64 q'.user,.int .i64 q'.key,.int .i64 q'.repo,.int .i64 q'.kind,.string q'.ref,.string q'.path,.int .i64 q'.old,.int .i64 q'.back,E',.int .i64 q'.rule.user,.string q'.rule.ref,.string q.rule.path,.bool q.rule.write,.int .i64 q.frm,.string q.other]:=Jd (i:=10) k9 (.string q'.rule.ref)
 have k11:Blk _ B 31 #[.int .i64 q'.user,.int .i64 q'.key,.int .i64 q'.repo,.int .i64 q'.kind,.string q'.ref,.string q'.path,.int .i64 q'.old,.int .i64 q'.back,E',.int .i64 q'.rule.user,.string q'.rule.ref,.string q'.rule.path,.bool q.rule.write,.int .i64 q.frm,.string q.other]:=Jd (i:=11) k10 (.string q'.rule.path)
 have k12:Blk _ B 31 #[.int .i64 q'.user,.int .i64 q'.key,.int .i64 q'.repo,.int .i64 q'.kind,.string q'.ref,.string q'.path,.int .i64 q'.old,.int .i64 q'.back,E',.int .i64 q'.rule.user,.string q'.rule.ref,.string q'.rule.path,.bool q'.rule.write,.int .i64 q.frm,.string q.other]:=Jd (i:=12) k11 (.bool q'.rule.write)
 have k13:Blk _ B 31 #[.int .i64 q'.user,.int .i64 q'.key,.int .i64 q'.repo,.int .i64 q'.kind,.string q'.ref,.string q'.path,.int .i64 q'.old,.int .i64 q'.back,E',.int .i64 q'.rule.user,.string q'.rule.ref,.string q'.rule.path,.bool q'.rule.write,.int .i64 q'.frm,.string q.other]:=Jd (i:=13) k12 (.int .i64 q'.frm)
 have k14:Blk _ B 31 #[.int .i64 q'.user,.int .i64 q'.key,.int .i64 q'.repo,.int .i64 q'.kind,.string q'.ref,.string q'.path,.int .i64 q'.old,.int .i64 q'.back,E',.int .i64 q'.rule.user,.string q'.rule.ref,.string q'.rule.path,.bool q'.rule.write,.int .i64 q'.frm,.string q'.other]:=Jd (i:=14) k13 (.string q'.other);exact k14
theorem jl4 (w:World) (Q:Nat) (q':Req) (E':Value):Only [Q] w (Wr w Q q' E'):=by
 unfold Wr
 exact((((((((((((((((Only.refl [Q] w).setCell (p:=⟨Q,0,none⟩) (.inl (by simp)) _).setCell (p:=⟨Q,1,none⟩) (.inl (by simp)) _).setCell (p:=⟨Q,2,none⟩) (.inl (by simp)) _).setCell (p:=⟨Q,3,none⟩) (.inl (by simp)) _).setCell (p:=⟨Q,4,none⟩) (.inl (by simp)) _).setCell (p:=⟨Q,5,none⟩) (.inl (by simp)) _).setCell (p:=⟨Q,6,none⟩) (.inl (by simp)) _).setCell (p:=⟨Q,7,none⟩) (.inl (by simp)) _).setCell (p:=⟨Q,8,none⟩) (.inl (by simp)) _).setCell (p:=⟨Q,9,none⟩) (.inl (by simp)) _).setCell (p:=⟨Q,10,none⟩) (.inl (by simp)) _).setCell (p:=⟨Q,11,none⟩) (.inl (by simp)) _).setCell (p:=⟨Q,12,none⟩) (.inl (by simp)) _).setCell (p:=⟨Q,13,none⟩) (.inl (by simp)) _).setCell (p:=⟨Q,14,none⟩) (.inl (by simp)) _)
theorem RQ.fin {w0 w:World} {g P:Nat} {mc:Array Value} {Q:Nat} {q:Req} {E:Value} {z:Req} {Z:Value} (h:RQ w0 g P mc (V5 z Z) Q q E w): ∃A c f,E= .slice A q.Ez.length c∧Blk (Wr w (w0.heap.size+1) q E) (w0.heap.size+1) 31 (V5 q E)∧Rp.req.R (Wr w (w0.heap.size+1) q E) (V5 q (.slice A q.Ez.length c)).toList q f∧(Wr w (w0.heap.size+1) q E).ownsRow w0.heap.size 59 3 (.slice A q.Ez.length c) q.Ez.length (q.Ez.flatMap Jp)∧Rd (Wr w (w0.heap.size+1) q E) g P∧Only [g] w0 (Wr w (w0.heap.size+1) q E):=by
 have h1:=h.gl;have h2:=h.ql;have HO:=jl4 w (w0.heap.size+1) q E;have hlow: ∀b,b<w.heap.size→b≠w0.heap.size+1→(Wr w (w0.heap.size+1) q E).heap[b]? =w.heap[b]? :=fun b hb hn=>HO.block b hb (by simpa using hn);have ho:(Wr w (w0.heap.size+1) q E).ownsRow (w0.heap.size+2) 59 3 E q.Ez.length (q.Ez.flatMap Jp):=
  ⟨h.own.1,h.own.2.elim Or.inl (fun⟨k,cap,cur,hv,hk,hc,r⟩=>Or.inr ⟨k,cap,cur,hv,hk,(hlow k (Array.getElem?_eq_some_iff.1 hc).1 (by omega)).trans hc,r⟩)⟩
 obtain⟨A,c,f,hE,hs,hfb,hnd,hfr⟩:=Xw (k:=3) (enc:=Jp) (hk:=fun _=>rfl) (h1:=Yn) ho;have hb:=Blk.box15 (q':=q) (E':=E) h.kr;have hr:=h.rd.only (f:=[w0.heap.size+1]) HO (by simp;omega);have hon:=h.on.trans_new HO (by omega);refine⟨A,c,f,hE,hb,⟨A,_,c,f,rfl,rfl,hs⟩, ?_,hr,hon⟩;rw[←hE];exact Zy ho (by omega)
theorem jfh {x:Wz} {l:List Wz} (hx:Xu x) (h:Xi l):Xi (x::l):=fun i hi=>by
 cases i with
 |zero=>exact hx
 |succ i=>exact h i (by simpa using hi)
def DrReq (m g P:Nat) (w:World) (e:Ending) (w':World):Prop:=
 ∃q A c f,e= .returned (.agg (V5 q (.slice A q.Ez.length c)))∧Rp.req.R w' (V5 q (.slice A q.Ez.length c)).toList q f∧w'.ownsRow w.heap.size 59 3 (.slice A q.Ez.length c) q.Ez.length (q.Ez.flatMap Jp)∧jat q∧Rd w' g P∧Only [g] w w'∧q.Ez.length≤m
theorem Yp {w:World} {base:Nat} {v:Value} {l:List File} (h:w.ownsRow base 65 2 v l.length (l.flatMap Jj)): ∃A c f,v= .slice A l.length c∧SlR Rp.file w A l.length c l f∧(∀b∈f,base≤b)∧f.Nodup∧Free w f:=
 Xw (k:=2) (enc:=Jj) (hk:=fun _=>rfl) (h1:=Vz) h
end Go.Proofs.YtobbdhgkcoeifaaGreatDoor
