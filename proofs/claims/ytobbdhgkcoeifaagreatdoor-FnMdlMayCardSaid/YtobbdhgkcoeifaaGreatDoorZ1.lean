/- Lemmas and walks, joined by program. -/
import Derived.WalkKit
import Derived.WalkSpells
import Derived.WalkLawsBesides
import Derived.Deep.AppendLies
import Derived.Deep.Draws
import Derived.Deep.RegionHeld3
import Derived.Deep.DrawnRows
import Derived.Deep.MidRow
import Derived.Deep.QuietTactic
import Derived.BigQuiet
import Derived.Laws.AppendOwnNone
import Derived.Lib.Overlaps
import Derived.Lib.AppendZerosOnto
import Derived.Lib.SliceRun
import Derived.Laws.Externs
import Derived.Lib.SplitLaws
import Derived.Test.YtobbdhgkcoeifaaGreatDoorRows
namespace Go.Proofs.YtobbdhgkcoeifaaGreatDoor
open Go.RowKit
set_option maxHeartbeats 8000000
set_option maxRecDepth 100000
set_option linter.unusedSimpArgs false
set_option linter.unusedVariables false
theorem nle{n:Nat}:n≤n:=Nat.le_refl _
theorem Ja {p:Prop} (h:p):Hid p:=h
def Cells (w:World) (b o:Nat) (xs:List Value):Prop:=∀j u,xs[j]? =some u→w.cell? ⟨b,o+j,none⟩=some u
theorem Cells.left {w:World} {b o:Nat} {xs ys:List Value} (h:Cells w b o (xs++ys)):Cells w b o xs:=fun j u hu=>
 h j u (by rw[List.getElem?_append_left (List.getElem?_eq_some_iff.1 hu).1];exact hu)
theorem Cells.right {w:World} {b o:Nat} {xs ys:List Value} (h:Cells w b o (xs++ys)):Cells w b (o+xs.length) ys:=fun j u hu=>by
 have:=h (xs.length+j) u (by rw[List.getElem?_append_right (by omega)];simpa using hu);rwa [←Nat.add_assoc] at this
theorem Cells.append {w:World} {b o:Nat} {xs ys:List Value} (h:Cells w b o xs) (h':Cells w b (o+xs.length) ys):Cells w b o (xs++ys):=fun j u hu=>by
 by_cases hj:j<xs.length
 ·rw[List.getElem?_append_left hj] at hu;exact h j u hu
 ·rw[List.getElem?_append_right (by omega)] at hu;have:=h' (j - xs.length) u hu;rwa [Nat.add_assoc,Nat.add_sub_cancel' (by omega)] at this
theorem Cells.keep {w w':World} {b o:Nat} {xs:List Value} (h:Cells w b o xs) (hb:w'.heap[b]? =w.heap[b]?):Cells w' b o xs:=
 fun j u hu=>(World.cell?_of_block (a:=⟨b,o+j,none⟩) hb).trans (h j u hu)
theorem Cells.at0 {w:World} {b o:Nat} {x:Value} {xs:List Value} (h:Cells w b o (x::xs)):w.cell? ⟨b,o,none⟩=some x:=by simpa using h 0 x rfl
theorem Cells.tail {w:World} {b o:Nat} {x:Value} {xs:List Value} (h:Cells w b o (x::xs)):Cells w b (o+1) xs:=by
 have:=Cells.right (xs:=[x]) (ys:=xs) h;simpa using this
structure Rp (α:Type) where
 k:Nat
 R:World→List Value→α→List Nat→Prop
 len: ∀ {w cs x fp},R w cs x fp→cs.length=k
 keep: ∀ {w w':World} {cs x fp},R w cs x fp→(∀b∈fp,w'.heap[b]? =w.heap[b]?)→R w' cs x fp
 lt: ∀ {w cs x fp},R w cs x fp→∀b∈fp,b<w.heap.size
 one: ∀ {w cs x fp},R w cs x fp→∀u∈cs,u.oneCell'=true
theorem Rp.below {α:Type} (r:Rp α) {w w':World} {cs:List Value} {x:α} {fp:List Nat} (h:r.R w cs x fp) {B:Nat} (hb:Below B w w') (hB:w.heap.size≤B):r.R w' cs x fp:=
 r.keep h fun b hm=>hb.block b (Nat.lt_of_lt_of_le (r.lt h b hm) hB)
def Rp.flat {α:Type} (k:Nat) (enc:α→List Value) (hk: ∀x,(enc x).length=k) (h1: ∀x,∀u∈enc x,u.oneCell'=true):Rp α where
 k:=k
 R:=fun _ cs x fp=>cs=enc x∧fp= []
 len:=fun⟨h,_⟩=>h▸hk _
 keep:=fun h _=>h
 lt:=fun⟨_,h⟩ b hm=>by subst h;cases hm
 one:=fun⟨h,_⟩=>h▸h1 _
def Rp.int:Rp Int:=Rp.flat 1 (fun n=>[.int .i64 n]) (fun _=>rfl) (fun x u hu=>by simp at hu;subst hu;rfl)
def Rp.str:Rp ByteArray:=Rp.flat 1 (fun n=>[.string n]) (fun _=>rfl) (fun x u hu=>by simp at hu;subst hu;rfl)
def AllR {α:Type} (r:Rp α) (w:World):List Value→List α→List Nat→Prop
 |xs,[],fp=>xs= []∧fp= []
 |xs,x::l,fp=>∃c1 c2 f1 f2,xs=c1++c2∧fp=f1++f2∧r.R w c1 x f1∧AllR r w c2 l f2
section
variable {α:Type} {r:Rp α} {w w':World}
theorem AllR.len: ∀ {l:List α} {xs:List Value} {fp:List Nat},AllR r w xs l fp→xs.length=l.length*r.k
 | [],_,_,⟨h,_⟩=>by simp[h]
 |x::l,xs,fp,⟨c1,c2,f1,f2,h,_,h1,h2⟩=>by rw[h,List.length_append,r.len h1,AllR.len h2,List.length_cons,Nat.add_mul,Nat.one_mul,Nat.add_comm]
theorem AllR.keep: ∀ {l:List α} {xs:List Value} {fp:List Nat},AllR r w xs l fp→(∀b∈fp,w'.heap[b]? =w.heap[b]?)→AllR r w' xs l fp
 | [],_,_,h,_=>h
 |x::l,xs,fp,⟨c1,c2,f1,f2,h,hf,h1,h2⟩,hk=>by
  subst hf;exact⟨c1,c2,f1,f2,h,rfl,r.keep h1 fun b hb=>hk b (List.mem_append_left _ hb),AllR.keep h2 fun b hb=>hk b (List.mem_append_right _ hb)⟩
theorem AllR.lt: ∀ {l:List α} {xs:List Value} {fp:List Nat},AllR r w xs l fp→∀b∈fp,b<w.heap.size
 | [],_,_,⟨_,h⟩,b,hb=>by subst h;cases hb
 |x::l,xs,fp,⟨c1,c2,f1,f2,h,hf,h1,h2⟩,b,hb=>by
  subst hf;rcases List.mem_append.1 hb with hb|hb
  ·exact r.lt h1 b hb
  ·exact AllR.lt h2 b hb
theorem AllR.one: ∀ {l:List α} {xs:List Value} {fp:List Nat},AllR r w xs l fp→∀u∈xs,u.oneCell'=true
 | [],_,_,⟨h,_⟩,u,hu=>by subst h;cases hu
 |x::l,xs,fp,⟨c1,c2,f1,f2,h,hf,h1,h2⟩,u,hu=>by
  subst h;rcases List.mem_append.1 hu with hu|hu
  ·exact r.one h1 u hu
  ·exact AllR.one h2 u hu
theorem AllR.append: ∀ {l l':List α} {xs ys:List Value} {f g:List Nat},AllR r w xs l f→AllR r w ys l' g→AllR r w (xs++ys) (l++l') (f++g)
 | [],_,_,_,_,_,⟨h,h'⟩,k=>by subst h;subst h';exact k
 |x::l,_,_,_,_,_,⟨c1,c2,f1,f2,h,hf,h1,h2⟩,k=>by
  subst h;subst hf;exact⟨c1,c2++_,f1,f2++_,by rw[List.append_assoc],by rw[List.append_assoc],h1,AllR.append h2 k⟩
theorem AllR.single {x:α} {xs:List Value} {f:List Nat} (h:r.R w xs x f):AllR r w xs [x] f:=⟨xs,[],f,[],by simp,by simp,h,rfl,rfl⟩
theorem AllR.snoc {l:List α} {x:α} {xs ys:List Value} {f g:List Nat} (h:AllR r w xs l f) (h':r.R w ys x g):AllR r w (xs++ys) (l++ [x]) (f++g):=h.append (.single h')
theorem AllR.split: ∀ {l:List α} {xs:List Value} {fp:List Nat} {i:Nat} (h:AllR r w xs l fp) (hi:i<l.length),
  ∃c0 c c1 f0 f f1,xs=c0++(c++c1)∧fp=f0++(f++f1)∧c0.length=i*r.k∧AllR r w c0 (l.take i) f0∧r.R w c l[i] f∧AllR r w c1 (l.drop (i+1)) f1
 |x::l,xs,fp,0,⟨c1,c2,f1,f2,h,hf,h1,h2⟩,_=>⟨[],c1,c2,[],f1,f2,h,hf,by simp,⟨rfl,rfl⟩,h1,h2⟩
 |x::l,xs,fp,i+1,⟨c1,c2,f1,f2,h,hf,h1,h2⟩,hi=>by
  obtain⟨c0,c,c3,f0,f,f3,e1,e2,e3,e4,e5,e6⟩:=AllR.split (i:=i) h2 (by simpa using hi);refine⟨c1++c0,c,c3,f1++f0,f,f3,by rw[h,e1,List.append_assoc],by rw[hf,e2,List.append_assoc], ?_,⟨c1,c0,f1,f0,rfl,rfl,h1,e4⟩,e5,e6⟩;rw[List.length_append,r.len h1,e3,Nat.add_mul,Nat.one_mul,Nat.add_comm]
end
theorem AllR.flat {α:Type} {k:Nat} {enc:α→List Value} {hk: ∀x,(enc x).length=k} {h1: ∀x,∀u∈enc x,u.oneCell'=true} {w:World} :
  ∀ {l:List α} {xs:List Value} {fp:List Nat},AllR (Rp.flat k enc hk h1) w xs l fp↔xs=l.flatMap enc∧fp= []
 | [],xs,fp=>by simp[AllR]
 |x::l,xs,fp=>by
  simp only[AllR,List.flatMap_cons];constructor
  ·rintro⟨c1,c2,f1,f2,rfl,rfl,⟨rfl,rfl⟩,h⟩;obtain⟨rfl,rfl⟩:=AllR.flat.1 h;simp
  ·rintro⟨rfl,rfl⟩;exact⟨_,_,[],[],rfl,rfl,⟨rfl,rfl⟩,AllR.flat.2 ⟨rfl,rfl⟩⟩
def Sl (w:World) (k:Nat) (A:Option Addr) (n:Nat) (xs:List Value) (fp:List Nat):Prop:=
 xs.length=n*k∧((n=0∧fp= [])∨(0<n∧∃b o,A=some ⟨b,o,none⟩∧fp= [b]∧b<w.heap.size∧Cells w b o xs))
theorem Sl.keep {w w':World} {k:Nat} {A:Option Addr} {n:Nat} {xs:List Value} {fp:List Nat} (h:Sl w k A n xs fp) (hk: ∀b∈fp,w'.heap[b]? =w.heap[b]?):Sl w' k A n xs fp:=by
 refine⟨h.1, ?_⟩;rcases h.2 with h|⟨hn,b,o,hA,rfl,hb,hc⟩
 ·exact .inl h
 ·have e:=hk b (by simp);refine .inr ⟨hn,b,o,hA,rfl, ?_,hc.keep e⟩;rcases Nat.lt_or_ge b w'.heap.size with h|h
  ·exact h
  ·rw[Array.getElem?_eq_none h,Array.getElem?_eq_getElem hb] at e;cases e
theorem Sl.lt {w:World} {k:Nat} {A:Option Addr} {n:Nat} {xs:List Value} {fp:List Nat} (h:Sl w k A n xs fp): ∀b∈fp,b<w.heap.size:=by
 rcases h.2 with ⟨_,rfl⟩|⟨hn,b,o,hA,rfl,hb,hc⟩
 ·intro b hb;cases hb
 ·intro b' hb';simp at hb';subst hb';exact hb
def SlR {α:Type} (r:Rp α) (w:World) (A:Option Addr) (n c:Nat) (l:List α) (fp:List Nat):Prop:=
 n=l.length∧n≤c∧c≤maxLen∧∃xs f0 f1,Sl w r.k A n xs f0∧AllR r w xs l f1∧fp=f0++f1
def Rp.slice {α:Type} (r:Rp α):Rp (List α) where
 k:=1
 R:=fun w cs l fp=>∃A n c,cs= [.slice A n c]∧SlR r w A n c l fp
 len:=fun⟨_,_,_,h,_⟩=>by rw[h];rfl
 keep:=fun⟨A,n,c,h,hn,h1,h2,xs,f0,f1,hs,ha,hf⟩ hk=>by
  subst hf;exact⟨A,n,c,h,hn,h1,h2,xs,f0,f1,hs.keep fun b hb=>hk b (List.mem_append_left _ hb),ha.keep fun b hb=>hk b (List.mem_append_right _ hb),rfl⟩
 lt:=fun⟨A,n,c,h,hn,h1,h2,xs,f0,f1,hs,ha,hf⟩ b hb=>by
  subst hf;rcases List.mem_append.1 hb with hb|hb
  ·exact hs.lt b hb
  ·exact ha.lt b hb
 one:=fun⟨A,n,c,h,_⟩ u hu=>by subst h;simp at hu;subst hu;rfl
section
variable {α:Type} {r:Rp α} {w w':World} {A:Option Addr} {n c:Nat} {l:List α} {fp:List Nat}
theorem SlR.keep (h:SlR r w A n c l fp) (hk: ∀b∈fp,w'.heap[b]? =w.heap[b]?):SlR r w' A n c l fp:=by
 obtain⟨hn,h1,h2,xs,f0,f1,hs,ha,hf⟩:=h;subst hf;exact⟨hn,h1,h2,xs,f0,f1,hs.keep fun b hb=>hk b (List.mem_append_left _ hb),ha.keep fun b hb=>hk b (List.mem_append_right _ hb),rfl⟩
theorem SlR.lt (h:SlR r w A n c l fp): ∀b∈fp,b<w.heap.size:=(Rp.slice r).lt ⟨A,n,c,rfl,h⟩
theorem SlR.below (h:SlR r w A n c l fp) {B:Nat} (hb:Below B w w') (hB:w.heap.size≤B):SlR r w' A n c l fp:=
 h.keep fun b hm=>hb.block b (Nat.lt_of_lt_of_le (h.lt b hm) hB)
theorem SlR.nil:SlR r w none 0 0 [] []:=⟨rfl,Nat.le_refl _,by simp[maxLen],[],[],[],⟨by simp,.inl ⟨rfl,rfl⟩⟩,⟨rfl,rfl⟩,rfl⟩
theorem SlR.get (h:SlR r w A n c l fp) {i:Nat} (hi:i<l.length):
  ∃b o cs f,A=some ⟨b,o,none⟩∧b<w.heap.size∧b∈fp∧Cells w b (o+i*r.k) cs∧r.R w cs l[i] f∧∀x∈f,x∈fp:=by
 obtain⟨hn,h1,h2,xs,f0,f1,hs,ha,hf⟩:=h;obtain⟨c0,c,c1,g0,g,g1,e1,e2,e3,e4,e5,e6⟩:=ha.split hi;rcases hs.2 with ⟨h0,_⟩|⟨hn0,b,o,hA,hf0,hb,hc⟩
 ·omega
 ·refine⟨b,o,c,g,hA,hb,by rw[hf,hf0];simp, ?_,e5,fun x hx=>by rw[hf,e2];simp[hx]⟩;rw[e1] at hc;have:=hc.right.left;rwa [e3] at this
end
theorem SlR.getFlat {α:Type} {k:Nat} {enc:α→List Value} {hk: ∀x,(enc x).length=k} {h1: ∀x,∀u∈enc x,u.oneCell'=true} {w:World} {A:Option Addr} {n c:Nat} {l:List α} {fp:List Nat}
  (h:SlR (Rp.flat k enc hk h1) w A n c l fp) {i:Nat} (hi:i<l.length): ∃b o,A=some ⟨b,o,none⟩∧b<w.heap.size∧b∈fp∧Cells w b (o+i*k) (enc l[i]):=by
 obtain⟨b,o,cs,f,h1,h2,h3,h4,⟨rfl,_⟩,_⟩:=h.get hi;exact⟨b,o,h1,h2,h3,h4⟩
def Free (w:World) (fp:List Nat):Prop:=∀b∈fp,∃cur e,w.heap[b]? =some (.cells cur e (0,0))
theorem Free.keep {w w':World} {fp:List Nat} (h:Free w fp) (hk: ∀b∈fp,w'.heap[b]? =w.heap[b]?):Free w' fp:=fun b hb=>by rw[hk b hb];exact h b hb
theorem Free.nil (w:World):Free w []:=fun b hb=>by cases hb
theorem Free.append {w:World} {f g:List Nat} (h:Free w f) (h':Free w g):Free w (f++g):=fun b hb=>(List.mem_append.1 hb).elim (h b) (h' b)
theorem Free.right {w:World} {f g:List Nat} (h:Free w (f++g)):Free w g:=fun b hb=>h b (List.mem_append_right _ hb)
theorem Free.frozen {w:World} {fp:List Nat} (h:Free w fp) {b:Nat} (hb:b∈fp) (o:Nat):w.frozen? ⟨b,o,none⟩=false:=by
 obtain⟨cur,e,h⟩:=h b hb;simp[World.frozen?,h]
theorem SlR.of_owns {α:Type} {r:Rp α} {w:World} {base:Nat} {e:TypeId} {v:Value} {xs:List Value} {l:List α} {f1:List Nat} (h:w.ownsRow base e r.k v l.length xs) (ha:AllR r w xs l f1):
  ∃A c f0,v= .slice A l.length c∧SlR r w A l.length c l (f0++f1)∧(∀b∈f0,v.ownBlock=some b∧base≤b)∧f0.Nodup∧Free w f0:=by
 obtain⟨hl,h⟩:=h;rcases h with ⟨rfl,h0⟩|⟨g,cap,cur,rfl,hb,hg,hn,hc,hs,ht⟩
 ·have:l= []:=List.eq_nil_of_length_eq_zero h0;subst this;refine⟨none,0,[],rfl,⟨rfl,Nat.le_refl _,by simp[maxLen],xs,[],f1,⟨hl,.inl ⟨rfl,rfl⟩⟩,ha,rfl⟩,by simp,List.nodup_nil,Free.nil _⟩
 ·by_cases h0:l.length=0
  ·have:l= []:=List.eq_nil_of_length_eq_zero h0;subst this;exact⟨_,cap,[],rfl,⟨rfl,hn,hc,xs,[],f1,⟨hl,.inl ⟨rfl,rfl⟩⟩,ha,rfl⟩,by simp,List.nodup_nil,Free.nil _⟩
  ·have hlt:g<w.heap.size:=(Array.getElem?_eq_some_iff.1 hg).1;refine⟨_,cap,[g],rfl,⟨rfl,hn,hc,xs,[g],f1,⟨hl,.inr ⟨by omega,g,0,rfl,rfl,hlt,fun j u hu=> ?_⟩⟩,ha,rfl⟩, ?_,by simp, ?_⟩
   ·rw[cell_of_row w g (0+j) cur e (0,0) hg,Nat.zero_add];rw[←ht,List.getElem?_take] at hu;split at hu
    ·simpa using hu
    ·cases hu
   ·intro b hb';simp at hb';subst hb';exact⟨rfl,hb⟩
   ·intro b hb';simp at hb';subst hb';exact⟨cur,e,hg⟩
def FreshS {α:Type} (r:Rp α) (w:World) (l:List α) (e:Ending) (w':World):Prop:=
 ∃A n c fp,e= .returned (.slice A n c)∧SlR r w' A n c l fp∧fp.Nodup∧(∀b∈fp,w.heap.size≤b)∧Free w' fp∧Below w.heap.size w w'
theorem FreshS.of_owns {α:Type} {r:Rp α} {w w':World} {e:TypeId} {v:Value} {xs:List Value} {l:List α} {f1:List Nat} (h:w'.ownsRow w.heap.size e r.k v l.length xs) (ha:AllR r w' xs l f1)
  (hn:f1.Nodup) (hlo: ∀b∈f1,w.heap.size≤b) (hf:Free w' f1) (hne: ∀b∈f1,v.ownBlock≠some b) (hb:Below w.heap.size w w'):FreshS r w l (.returned v) w':=by
 obtain⟨A,c,f0,rfl,hs,h0,hn0,hf0⟩:=SlR.of_owns h ha;refine⟨A,_,c,_,rfl,hs, ?_,fun b hb=> ?_,hf0.append hf,hb⟩
 ·refine List.nodup_append.2 ⟨hn0,hn,fun a ha b hb e=> ?_⟩;subst e;exact hne a hb (h0 a ha).1
 ·rcases List.mem_append.1 hb with hb|hb
  ·exact(h0 b hb).2
  ·exact hlo b hb
theorem FreshS.of_owns_flat {α:Type} {k:Nat} {enc:α→List Value} {hk: ∀x,(enc x).length=k} {h1: ∀x,∀u∈enc x,u.oneCell'=true} {w w':World} {e:TypeId} {v:Value} {l:List α}
  (h:w'.ownsRow w.heap.size e k v l.length (l.flatMap enc)) (hb:Below w.heap.size w w'):FreshS (Rp.flat k enc hk h1) w l (.returned v) w':=
 FreshS.of_owns (r:=Rp.flat k enc hk h1) (f1:=[]) h (AllR.flat.2 ⟨rfl,rfl⟩) List.nodup_nil (by simp) (Free.nil _) (by simp) hb
theorem Jm (w:World) (cs:List Value) (t:TypeId): ∀j u,cs[j]? =some u→(w.alloc (.cells cs.toArray t)).cell? ((⟨w.heap.size,0,none⟩:Addr).add j)=some u:=
 fun j u hu=>World.news_of_block (heap_alloc_new w _) j u (by simpa using hu)
theorem jkl {w:World} {H:Nat} (hH:w.heap.size=H) (cs:List Value) (t:TypeId): ∀j u,cs[j]? =some u→(w.alloc (.cells cs.toArray t)).cell? ((⟨H,0,none⟩:Addr).add j)=some u:=by
 subst hH;exact Jm w cs t
structure Only (fp:List Nat) (w w':World):Prop where
 os:w'.os=w.os
 tape:w'.tape=w.tape
 output:w'.output=w.output
 size:w.heap.size≤w'.heap.size
 block: ∀k,k<w.heap.size→k∉fp→w'.heap[k]? =w.heap[k]?
section
variable {fp f g:List Nat} {w w' w1 w2:World} {B:Nat}
theorem Only.refl (fp:List Nat) (w:World):Only fp w w:=⟨rfl,rfl,rfl,Nat.le_refl _,fun _ _ _=>rfl⟩
theorem Only.trans (h:Only fp w w1) (k:Only fp w1 w2):Only fp w w2:=
 ⟨k.os.trans h.os,k.tape.trans h.tape,k.output.trans h.output,Nat.le_trans h.size k.size,fun i hi hn=>(k.block i (Nat.lt_of_lt_of_le hi h.size) hn).trans (h.block i hi hn)⟩
theorem Only.mono (h:Only f w w') (hs: ∀x∈f,x∈g∨w.heap.size≤x):Only g w w':=⟨h.os,h.tape,h.output,h.size,fun i hi hn=>h.block i hi fun hf=>by rcases hs i hf with h|h<;>first|exact hn h|omega⟩
theorem Only.below (h:Only fp w w') (hB: ∀b∈fp,B≤b) (hs:B≤w.heap.size):Below B w w':=
 ⟨h.os,h.tape,h.output,h.size,fun i hi=>h.block i (by omega) fun hf=>by have:=hB i hf;omega⟩
theorem Only.of_below (h:Below w.heap.size w w') (fp:List Nat):Only fp w w':=⟨h.os,h.tape,h.output,h.size,fun i hi _=>h.block i hi⟩
theorem Only.step (h:Only fp w w1) (k1:w2.os=w1.os) (k2:w2.tape=w1.tape) (k3:w2.output=w1.output) (k4:w1.heap.size≤w2.heap.size) (k5: ∀i,i<w.heap.size→i∉fp→w2.heap[i]? =w1.heap[i]?):Only fp w w2:=
 ⟨k1.trans h.os,k2.trans h.tape,k3.trans h.output,Nat.le_trans h.size k4,fun i hi hn=>(k5 i hi hn).trans (h.block i hi hn)⟩
theorem Only.setCell (h:Only fp w w1) {p:Addr} (hp:p.block∈fp∨w.heap.size≤p.block) (u:Value):Only fp w (w1.setCell p u):=
 h.step rfl rfl rfl (by simp[World.setCell]) fun i hi hn=>Below.heap_setCell _ _ _ _ (by rintro rfl;rcases hp with hp|hp<;>first|exact hn hp|omega)
theorem Only.drew (h:Only fp w w1):Only fp w w1.drew:=h.step rfl rfl rfl nle fun _ _ _=>rfl
theorem Only.alloc (h:Only fp w w1) (o:Obj):Only fp w (w1.alloc o):=h.step rfl rfl rfl (by simp) fun i hi _=>Below.heap_alloc _ _ _ (Nat.lt_of_lt_of_le hi h.size)
theorem Only.then_below (h:Only fp w w1) (k:Below w1.heap.size w1 w2):Only fp w w2:=h.step k.os k.tape k.output k.size fun i hi _=>k.block i (Nat.lt_of_lt_of_le hi h.size)
theorem Only.then_only (h:Only fp w w1) (k:Only f w1 w2) (hf: ∀x∈f,x∈fp∨w.heap.size≤x):Only fp w w2:=
 h.step k.os k.tape k.output k.size fun i hi hn=>k.block i (Nat.lt_of_lt_of_le hi h.size) fun hx=>by rcases hf i hx with h|h<;>first|exact hn h|omega
end
theorem Jd {w:World} {g i:Nat} {cur:Array Value} {e:TypeId} (h:w.heap[g]? =some (.cells cur e (0,0))) (v:Value):(w.setCell ⟨g,i,none⟩ v).heap[g]? =some (.cells (cur.setIfInBounds i v) e (0,0)):=by
 simp[World.setCell,Array.getElem?_modify,h]
theorem Free.setCell {w:World} {fp:List Nat} (h:Free w fp) (p:Addr) (hs:p.spot=none) (v:Value):Free (w.setCell p v) fp:=fun b hb=>by
 obtain⟨cur,e,hc⟩:=h b hb;by_cases hp:b=p.block
 ·subst hp;obtain⟨g,o,s⟩:=p;cases hs;exact⟨_,e,Jd hc v⟩
 ·exact⟨cur,e,(Below.heap_setCell _ _ _ _ hp).trans hc⟩
section
variable {α:Type} {r:Rp α} {w:World}
theorem AllR.set: ∀ {l:List α} {c0 c1:List Value} {f0 f f1:List Nat} {i:Nat} {w':World} {cs':List Value} {y:α} (_:i<l.length),AllR r w c0 (l.take i) f0→AllR r w c1 (l.drop (i+1)) f1→r.R w' cs' y f→
  (∀b∈f0++f1,w'.heap[b]? =w.heap[b]?)→AllR r w' (c0++(cs'++c1)) (l.set i y) (f0++(f++f1))
 |l,c0,c1,f0,f,f1,i,w',cs',y,hi,h0,h1,hr,hk=>by
  rw[List.set_eq_take_append_cons_drop,if_pos hi];exact(h0.keep fun b hb=>hk b (List.mem_append_left _ hb)).append ⟨cs',c1,f,f1,rfl,rfl,hr,h1.keep fun b hb=>hk b (List.mem_append_right _ hb)⟩
theorem SlR.upd {A:Option Addr} {n c:Nat} {l:List α} {fp:List Nat} (h:SlR r w A n c l fp) (hn:fp.Nodup) {i:Nat} (hi:i<l.length):
  ∃b o cs f,A=some ⟨b,o,none⟩∧b∈fp∧b∉f∧(∀x∈f,x∈fp)∧f.Nodup∧b<w.heap.size∧Cells w b (o+i*r.k) cs∧r.R w cs l[i] f∧
   ∀(w':World) (cs':List Value) (y:α),(∀j,j<o+i*r.k∨o+i*r.k+r.k≤j→w'.cell? ⟨b,j,none⟩=w.cell? ⟨b,j,none⟩)→b<w'.heap.size→Cells w' b (o+i*r.k) cs'→r.R w' cs' y f→
    (∀x∈fp,x≠b→x∉f→w'.heap[x]? =w.heap[x]?)→SlR r w' A n c (l.set i y) fp:=by
 obtain⟨hn',h1,h2,xs,f0,f1,hs,ha,hf⟩:=h;obtain⟨c0,cs,c1,g0,g,g1,e1,e2,e3,e4,e5,e6⟩:=ha.split hi;rcases hs.2 with ⟨h0,_⟩|⟨hn0,b,o,hA,hf0,hb,hc⟩
 ·omega
 ·subst hf;subst hf0;subst e2;subst e1;have hn2:(b::(g0++(g++g1))).Nodup:=hn;have hbn:b∉g0++(g++g1):=(List.nodup_cons.1 hn2).1;have hnd:(g0++(g++g1)).Nodup:=(List.nodup_cons.1 hn2).2;have hgn:g.Nodup:=(List.nodup_append.1 (List.nodup_append.1 hnd).2.1).1;have hd0: ∀x∈g0,x∉g:=fun x hx hg=>(List.nodup_append.1 hnd).2.2 x hx x (List.mem_append_left _ hg) rfl
  have hd1: ∀x∈g1,x∉g:=fun x hx hg=>(List.nodup_append.1 (List.nodup_append.1 hnd).2.1).2.2 x hg x hx rfl;have hcc:=hc.right.left;rw[e3] at hcc;refine⟨b,o,cs,g,hA,by simp,fun hm=>hbn (by simp[hm]),fun x hx=>by simp[hx],hgn,hb,hcc,e5,fun w' cs' y hother hb' hcs' hy hk=> ?_⟩;have hlen:=r.len hy;have hlen0:=r.len e5
  refine⟨by simpa using hn',h1,h2,c0++(cs'++c1),[b],g0++(g++g1),⟨?_,.inr ⟨hn0,b,o,hA,rfl,hb', ?_⟩⟩, ?_,rfl⟩
  ·have:=hs.1;simp only[List.length_append] at this ⊢;omega
  ·have hl0:Cells w' b o c0:=fun j u hu=>by
    have hj:=(List.getElem?_eq_some_iff.1 hu).1;rw[hother (o+j) (by omega)];exact hc.left j u hu
   have hl1:Cells w' b (o+(c0++cs').length) c1:=fun j u hu=>by
    have hr:=hc.right.right j u hu;rw[hother _ (by simp only[List.length_append];omega),←hr]
    congr 2
    simp only[List.length_append];omega
   rw[←List.append_assoc];refine Cells.append (Cells.append hl0 ?_) hl1;rw[e3];exact hcs'
  ·refine AllR.set hi e4 e6 hy fun x hx=> ?_;rcases List.mem_append.1 hx with hx|hx
   ·exact hk x (by simp[hx]) (fun e=>hbn (by rw[←e];simp[hx])) (hd0 x hx)
   ·exact hk x (by simp[hx]) (fun e=>hbn (by rw[←e];simp[hx])) (hd1 x hx)
end
structure Elem (w0 w:World) (fp f:List Nat) (b o:Nat) (cs:List Value):Prop where
 mem:b∈fp
 nmem:b∉f
 sub: ∀x∈f,x∈fp
 cells:Cells w b o cs
 other: ∀j,j<o∨o+cs.length≤j→w.cell? ⟨b,j,none⟩=w0.cell? ⟨b,j,none⟩
 same: ∀x∈fp,x≠b→x∉f→w.heap[x]? =w0.heap[x]?
 only:Only fp w0 w
 free:Free w fp
 old: ∀x∈fp,x<w0.heap.size
section
variable {w0 w w1:World} {fp f:List Nat} {b o:Nat} {cs:List Value}
theorem Elem.put (h:Elem w0 w fp f b o cs) {j:Nat} (hj:j<cs.length) (v:Value):Elem w0 (w.setCell ⟨b,o+j,none⟩ v) fp f b o (cs.set j v) where
 mem:=h.mem
 nmem:=h.nmem
 sub:=h.sub
 cells:=fun i u hu=>by
  by_cases e:j=i
  ·subst e;rw[List.getElem?_set_self hj] at hu;cases hu;exact World.cell?_setCell_same w _ _ (h.cells j cs[j] (List.getElem?_eq_getElem hj))
  ·rw[List.getElem?_set_ne e] at hu;rw[World.cell?_setCell_other _ _ _ _ (by simp only[ne_eq,Addr.mk.injEq];omega)];exact h.cells i u hu
 other:=fun i hi=>by
  rw[List.length_set] at hi;rw[World.cell?_setCell_other _ _ _ _ (by simp only[ne_eq,Addr.mk.injEq];omega)];exact h.other i hi
 same:=fun x hx hb hf=>(Below.heap_setCell _ _ _ _ hb).trans (h.same x hx hb hf)
 only:=h.only.setCell (.inl h.mem) v
 free:=h.free.setCell _ rfl v
 old:=h.old
theorem Elem.inner (h:Elem w0 w fp f b o cs) (hb:Only f w w1) (hf:Free w1 f):Elem w0 w1 fp f b o cs where
 mem:=h.mem
 nmem:=h.nmem
 sub:=h.sub
 cells:=h.cells.keep (hb.block b (Nat.lt_of_lt_of_le (h.old b h.mem) h.only.size) h.nmem)
 other:=fun j hj=>(World.cell?_of_block (a:=⟨b,j,none⟩) (hb.block b (Nat.lt_of_lt_of_le (h.old b h.mem) h.only.size) h.nmem)).trans (h.other j hj)
 same:=fun x hx hn hf=>(hb.block x (Nat.lt_of_lt_of_le (h.old x hx) h.only.size) hf).trans (h.same x hx hn hf)
 only:=h.only.then_only hb fun x hx=> .inl (h.sub x hx)
 free:=fun x hx=>by
  by_cases hxf:x∈f
  ·exact hf x hxf
  ·rw[hb.block x (Nat.lt_of_lt_of_le (h.old x hx) h.only.size) hxf];exact h.free x hx
 old:=h.old
theorem Elem.frozen (h:Elem w0 w fp f b o cs) (j:Nat):w.frozen? ⟨b,j,none⟩=false:=h.free.frozen h.mem j
end
theorem SlR.elem {α:Type} {r:Rp α} {w:World} {A:Option Addr} {n c:Nat} {l:List α} {fp:List Nat} (h:SlR r w A n c l fp) (hn:fp.Nodup) (hf:Free w fp) {i:Nat} (hi:i<l.length):
  ∃b o cs f,A=some ⟨b,o,none⟩∧f.Nodup∧r.R w cs l[i] f∧Elem w w fp f b (o+i*r.k) cs∧∀(w':World) (cs':List Value) (y:α),Elem w w' fp f b (o+i*r.k) cs'→r.R w' cs' y f→SlR r w' A n c (l.set i y) fp:=by
 obtain⟨b,o,cs,f,hA,hb,hbf,hsub,hfn,hlt,hc,hr,hcl⟩:=h.upd hn hi;refine⟨b,o,cs,f,hA,hfn,hr,⟨hb,hbf,hsub,hc,fun _ _=>rfl,fun _ _ _ _=>rfl,Only.refl _ _,hf,h.lt⟩,fun w' cs' y he hy=> ?_⟩;have hl:=r.len hy;exact hcl w' cs' y (fun j hj=>he.other j (by rw[hl];exact hj)) (Nat.lt_of_lt_of_le hlt he.only.size) he.cells hy he.same
section
variable {α:Type} {mk:α→Int→α} {ct:α→Nat} {l:List α} {k:Int} {i:Nat}
end
section
variable {α:Type} {r:Rp α} {w w1:World} {A:Option Addr} {n c:Nat} {l:List α} {g fp f:List Nat}
theorem SlR.putN (h:SlR r w A n c l g) {b j:Nat} (hb:b∉g) (v:Value):SlR r (w.setCell ⟨b,j,none⟩ v) A n c l g:=
 h.keep fun x hx=>Below.heap_setCell _ _ _ _ (by rintro rfl;exact hb hx)
theorem SlR.step (h:SlR r w A n c l g) (hb:Below w.heap.size w w1):SlR r w1 A n c l g:=h.below hb nle
theorem SlR.only (h:SlR r w A n c l g) (hb:Only f w w1) (hd: ∀x∈g,x∉f):SlR r w1 A n c l g:=h.keep fun x hx=>hb.block x (h.lt x hx) (hd x hx)
theorem Free.sub (h:Free w fp) (hs: ∀x∈g,x∈fp):Free w g:=fun b hb=>h b (hs b hb)
theorem Free.lt (h:Free w fp): ∀x∈fp,x<w.heap.size:=fun b hb=>by
 obtain⟨cur,e,h⟩:=h b hb;exact(Array.getElem?_eq_some_iff.1 h).1
end
section
variable {α:Type} {r:Rp α} {mk:α→Int→α} {ct:α→Nat} {w:World} {x:List α} {A:Option Addr} {c:Nat} {fp:List Nat} {k0:Int} {i:Nat} {m:Int} {wr:World}
end
section
variable {α:Type} {ct:α→Nat} {x:List α} {k0 m:Int} {i:Nat}
end
theorem jbn {α:Type} (n:Nat) (l:List α):(List.replicate (n+1) l).flatten=(List.replicate n l).flatten++l:=by
 rw[List.replicate_succ',List.flatten_append];simp
theorem jb5 (z:Array Value) (k:Nat) (hk:z.size=k): ∀n,(madeCells z (n*k)).toList=(List.replicate n z.toList).flatten
 | 0=>by simp[madeCells]
 |n+1=>by
  have ih:=jb5 z k hk n;rw[jbn,←ih];have e:(n+1)*k=n*k+k:=by rw[Nat.add_mul,Nat.one_mul]
  unfold madeCells;rw[e,Array.toList_map,Array.toList_map,Array.toList_range,Array.toList_range,List.range_add,List.map_append]
  congr 1
  rw[List.map_map];apply List.ext_getElem?;intro j;by_cases hj:j<k
  ·have h1:(List.range k)[j]? =some j:=by rw[List.getElem?_range hj]
   rw[List.getElem?_map,h1];have h2:(n*k+j) % z.size=j:=by rw[hk,Nat.add_comm,Nat.add_mul_mod_self_right,Nat.mod_eq_of_lt hj]
   simp only[Option.map_some,Function.comp];rw[h2,Array.getElem?_toList,Array.getElem?_eq_getElem (by omega),getElem!_pos z j (by omega)]
  ·rw[List.getElem?_eq_none (by simp;omega),List.getElem?_eq_none (by simp;omega)]
def puts (w:World) (b o:Nat):List Value→World
 | []=>w
 |v::vs=>puts (w.setCell ⟨b,o,none⟩ v) b (o+1) vs
theorem Elem.puts' {w0:World} {fp f:List Nat} {b o:Nat} : ∀ {vs pre cs:List Value} {w:World},Elem w0 w fp f b o (pre++cs)→vs.length=cs.length→Elem w0 (puts w b (o+pre.length) vs) fp f b o (pre++vs)
 | [],pre,cs,w,h,hl=>by
  have:cs= []:=List.eq_nil_of_length_eq_zero (by simpa using hl.symm);subst this;exact h
 |v::vs,pre,c::cs,w,h,hl=>by
  have h1:=h.put (j:=pre.length) (by simp) v;have e:(pre++c::cs).set pre.length v=(pre++ [v])++cs:=by
   rw[List.set_append_right _ _ nle,Nat.sub_self,List.set_cons_zero,List.append_assoc];rfl
  rw[e] at h1;have h2:=Elem.puts' (vs:=vs) h1 (by simpa using hl);rw[List.length_append,List.append_assoc] at h2;exact h2
theorem Elem.puts {w0 w:World} {fp f:List Nat} {b o:Nat} {vs cs:List Value} (h:Elem w0 w fp f b o cs) (hl:vs.length=cs.length):Elem w0 (puts w b o vs) fp f b o vs:=Elem.puts' (pre:=[]) h hl
theorem jir {b:Nat} : ∀ {vs:List Value} {o:Nat} {w:World},(puts w b o vs).heap.size=w.heap.size
 | [],_,_=>rfl
 |_::vs,_,_=>(jir (vs:=vs)).trans (by simp[World.setCell])
section
variable {α:Type} {r:Rp α} {w wr:World} {x:List α} {z:α} {A:Option Addr} {k:Nat}
end
def jo4 (b:UInt8):List Value:=[.int .u8 (b.toNat:Int)]
def Rp.byte:Rp UInt8:=Rp.flat 1 jo4 (fun _=>rfl) (fun x u hu=>by simp[jo4] at hu;subst hu;rfl)
theorem jef {w:World} {A:Option Addr} {n c:Nat} {l:List UInt8} {fp:List Nat} (h:SlR Rp.byte w A n c l fp) {i:Nat} (hi:i<l.length):
  ∃b o,A=some ⟨b,o,none⟩∧b<w.heap.size∧b∈fp∧w.cell? ⟨b,o+i,none⟩=some (.int .u8 (l[i].toNat:Int)):=by
 obtain⟨b,o,hA,hb,hm,hc⟩:=h.getFlat hi;rw[Nat.mul_one] at hc;exact⟨b,o,hA,hb,hm,hc.at0⟩
theorem Xl {k:IntKind} {a b:Int} (h:a=b):Ending.returned (.int k a)= .returned (.int k b):=by rw[h]
theorem Jc {a b:Bool} (h:a=b):Ending.returned (.bool a)= .returned (.bool b):=by rw[h]
def FreshR {α:Type} (r:Rp α) (w:World) (x:α) (e:Ending) (w':World):Prop:=
 ∃cs fp,e= .returned (.agg cs.toArray)∧r.R w' cs x fp∧fp.Nodup∧(∀b∈fp,w.heap.size≤b)∧Free w' fp∧Below w.heap.size w w'
theorem Xg {w:World} {A:Option Addr} {n c:Nat} {l:List Int} {fp:List Nat} (h:SlR Rp.int w A n c l fp) {i:Nat} (hi:i<l.length):
  ∃b o,A=some ⟨b,o,none⟩∧b<w.heap.size∧b∈fp∧w.cell? ⟨b,o+i,none⟩=some (.int .i64 l[i]):=by
 obtain⟨b,o,hA,hb,hm,hc⟩:=h.getFlat hi;rw[Nat.mul_one] at hc;exact⟨b,o,hA,hb,hm,hc.at0⟩
theorem ja0 {w:World} {A:Option Addr} {n c:Nat} {l:List ByteArray} {fp:List Nat} (h:SlR Rp.str w A n c l fp) {i:Nat} (hi:i<l.length):
  ∃b o,A=some ⟨b,o,none⟩∧b<w.heap.size∧b∈fp∧w.cell? ⟨b,o+i,none⟩=some (.string l[i]):=by
 obtain⟨b,o,hA,hb,hm,hc⟩:=h.getFlat hi;rw[Nat.mul_one] at hc;exact⟨b,o,hA,hb,hm,hc.at0⟩
theorem Vv {α:Type} {r:Rp α} {w:World} {A:Option Addr} {n c:Nat} {l:List (List α)} {fp:List Nat} (h:SlR (Rp.slice r) w A n c l fp) {i:Nat} (hi:i<l.length):
  ∃b o A' n' c' f,A=some ⟨b,o,none⟩∧b<w.heap.size∧b∈fp∧w.cell? ⟨b,o+i,none⟩=some (.slice A' n' c')∧SlR r w A' n' c' l[i] f∧∀x∈f,x∈fp:=by
 obtain⟨b,o,cs,f,hA,hb,hm,hc,⟨A',n',c',rfl,hs⟩,hf⟩:=h.get hi;have hk:(Rp.slice r).k=1:=rfl;rw[hk,Nat.mul_one] at hc;exact⟨b,o,A',n',c',f,hA,hb,hm,hc.at0,hs,hf⟩
structure Wz where
 path:ByteArray
 bytes:ByteArray
 gone:Bool
 deriving DecidableEq
def Jp (x:Wz):List Value:=[.string x.path,.string x.bytes,.bool x.gone]
theorem Yn (x:Wz): ∀u∈Jp x,u.oneCell'=true:=by intro u hu;simp only[Jp,List.mem_cons,List.not_mem_nil,or_false] at hu;rcases hu with rfl|rfl|rfl<;>rfl
def Rp.edit:Rp Wz:=Rp.flat 3 Jp (fun _=>rfl) Yn
theorem Zv {w:World} {A:Option Addr} {n c:Nat} {l:List Wz} {fp:List Nat} (h:SlR Rp.edit w A n c l fp) {i:Nat} (hi:i<l.length):
  ∃b o,A=some ⟨b,o,none⟩∧b<w.heap.size∧b∈fp∧w.cell? ⟨b,o+i*3,none⟩=some (.string l[i].path)∧w.cell? ⟨b,o+i*3+1,none⟩=some (.string l[i].bytes)∧w.cell? ⟨b,o+i*3+2,none⟩=some (.bool l[i].gone):=by
 obtain⟨b,o,hA,hb,hm,hc⟩:=h.getFlat hi;exact⟨b,o,hA,hb,hm,hc.at0,hc.tail.at0,hc.tail.tail.at0⟩
structure Yt where
 user:Int
 ref:ByteArray
 path:ByteArray
 write:Bool
 deriving DecidableEq
def jlp:Yt:=⟨0,ByteArray.empty,ByteArray.empty,false⟩
def Jh (x:Yt):List Value:=[.int .i64 x.user,.string x.ref,.string x.path,.bool x.write]
theorem Y9 (x:Yt): ∀u∈Jh x,u.oneCell'=true:=by intro u hu;simp only[Jh,List.mem_cons,List.not_mem_nil,or_false] at hu;rcases hu with rfl|rfl|rfl|rfl<;>rfl
def Rp.rule:Rp Yt:=Rp.flat 4 Jh (fun _=>rfl) Y9
theorem Yv {w:World} {A:Option Addr} {n c:Nat} {l:List Yt} {fp:List Nat} (h:SlR Rp.rule w A n c l fp) {i:Nat} (hi:i<l.length):
  ∃b o,A=some ⟨b,o,none⟩∧b<w.heap.size∧b∈fp∧w.cell? ⟨b,o+i*4,none⟩=some (.int .i64 l[i].user)∧w.cell? ⟨b,o+i*4+1,none⟩=some (.string l[i].ref)∧w.cell? ⟨b,o+i*4+2,none⟩=some (.string l[i].path)∧w.cell? ⟨b,o+i*4+3,none⟩=some (.bool l[i].write):=by
 obtain⟨b,o,hA,hb,hm,hc⟩:=h.getFlat hi;exact⟨b,o,hA,hb,hm,hc.at0,hc.tail.at0,hc.tail.tail.at0,hc.tail.tail.tail.at0⟩
structure File where
 path:ByteArray
 bytes:ByteArray
 deriving DecidableEq
def Jj (x:File):List Value:=[.string x.path,.string x.bytes]
theorem Vz (x:File): ∀u∈Jj x,u.oneCell'=true:=by intro u hu;simp only[Jj,List.mem_cons,List.not_mem_nil,or_false] at hu;rcases hu with rfl|rfl<;>rfl
def Rp.file:Rp File:=Rp.flat 2 Jj (fun _=>rfl) Vz
theorem Jx {w:World} {A:Option Addr} {n c:Nat} {l:List File} {fp:List Nat} (h:SlR Rp.file w A n c l fp) {i:Nat} (hi:i<l.length):
  ∃b o,A=some ⟨b,o,none⟩∧b<w.heap.size∧b∈fp∧w.cell? ⟨b,o+i*2,none⟩=some (.string l[i].path)∧w.cell? ⟨b,o+i*2+1,none⟩=some (.string l[i].bytes):=by
 obtain⟨b,o,hA,hb,hm,hc⟩:=h.getFlat hi;exact⟨b,o,hA,hb,hm,hc.at0,hc.tail.at0⟩
structure Req where
 user:Int
 key:Int
 repo:Int
 kind:Int
 ref:ByteArray
 path:ByteArray
 old:Int
 back:Int
 Ez:List (Wz)
 rule:Yt
 frm:Int
 other:ByteArray
 deriving DecidableEq
def Ws:Req:=⟨0,0,0,0,ByteArray.empty,ByteArray.empty,0,0,[],jlp,0,ByteArray.empty⟩
def Rp.req:Rp Req where
 k:=15
 R:=fun w cs x fp=>∃A0 n0 c0 f0,cs= [.int .i64 x.user,.int .i64 x.key,.int .i64 x.repo,.int .i64 x.kind,.string x.ref,.string x.path,.int .i64 x.old,.int .i64 x.back,.slice A0 n0 c0,.int .i64 x.rule.user,.string x.rule.ref,.string x.rule.path,.bool x.rule.write,.int .i64 x.frm,.string x.other]∧fp=f0∧SlR Rp.edit w A0 n0 c0 x.Ez f0
 len:=fun⟨A0,n0,c0,f0,h,_⟩=>by rw[h];rfl
 keep:=fun⟨A0,n0,c0,f0,h,hf,h0⟩ hk=>by
  rw[hf] at hk;exact⟨A0,n0,c0,f0,h,hf,h0.keep fun b hb=>hk b (hb)⟩
 lt:=fun⟨A0,n0,c0,f0,h,hf,h0⟩ b hb=>by
  rw[hf] at hb;exact h0.lt b hb
 one:=fun⟨A0,n0,c0,f0,h,_⟩ u hu=>by subst h;simp only[List.mem_cons,List.not_mem_nil,or_false] at hu;rcases hu with rfl|rfl|rfl|rfl|rfl|rfl|rfl|rfl|rfl|rfl|rfl|rfl|rfl|rfl|rfl<;>rfl
structure Ref where
 name:ByteArray
 guard:Bool
 count:Int
 Vz:List (List (File))
 deriving DecidableEq
def Y8:Ref:=⟨ByteArray.empty,false,0,[]⟩
def Rp.ref:Rp Ref where
 k:=4
 R:=fun w cs x fp=>∃A0 n0 c0 f0,cs= [.string x.name,.bool x.guard,.int .i64 x.count,.slice A0 n0 c0]∧fp=f0∧SlR (Rp.slice Rp.file) w A0 n0 c0 x.Vz f0
 len:=fun⟨A0,n0,c0,f0,h,_⟩=>by rw[h];rfl
 keep:=fun⟨A0,n0,c0,f0,h,hf,h0⟩ hk=>by
  rw[hf] at hk;exact⟨A0,n0,c0,f0,h,hf,h0.keep fun b hb=>hk b (hb)⟩
 lt:=fun⟨A0,n0,c0,f0,h,hf,h0⟩ b hb=>by
  rw[hf] at hb;exact h0.lt b hb
 one:=fun⟨A0,n0,c0,f0,h,_⟩ u hu=>by subst h;simp only[List.mem_cons,List.not_mem_nil,or_false] at hu;rcases hu with rfl|rfl|rfl|rfl<;>rfl
theorem J3 {w:World} {A:Option Addr} {n c:Nat} {l:List Ref} {fp:List Nat} (h:SlR Rp.ref w A n c l fp) {i:Nat} (hi:i<l.length):
  ∃b o A0 n0 c0 f0,A=some ⟨b,o,none⟩∧b<w.heap.size∧b∈fp∧w.cell? ⟨b,o+i*4,none⟩=some (.string l[i].name)∧w.cell? ⟨b,o+i*4+1,none⟩=some (.bool l[i].guard)∧w.cell? ⟨b,o+i*4+2,none⟩=some (.int .i64 l[i].count)∧w.cell? ⟨b,o+i*4+3,none⟩=some (.slice A0 n0 c0)∧SlR (Rp.slice Rp.file) w A0 n0 c0 l[i].Vz f0∧∀x∈f0,x∈fp:=by
 obtain⟨b,o,cs,f,hA,hb,hm,hc,⟨A0,n0,c0,f0,rfl,hf,h0⟩,hsub⟩:=h.get hi;rw[hf] at hsub;exact⟨b,o,A0,n0,c0,f0,hA,hb,hm,hc.at0,hc.tail.at0,hc.tail.tail.at0,hc.tail.tail.tail.at0,h0,hsub⟩
structure Xq where
 Az:Int
 Uz:List (Yt)
 Fz:List (Ref)
 deriving DecidableEq
def jqy:Xq:=⟨0,[],[]⟩
def Rp.repo:Rp Xq where
 k:=3
 R:=fun w cs x fp=>∃A0 n0 c0 f0 A1 n1 c1 f1,cs= [.int .i64 x.Az,.slice A0 n0 c0,.slice A1 n1 c1]∧fp=f0++f1∧SlR Rp.rule w A0 n0 c0 x.Uz f0∧SlR Rp.ref w A1 n1 c1 x.Fz f1
 len:=fun⟨A0,n0,c0,f0,A1,n1,c1,f1,h,_⟩=>by rw[h];rfl
 keep:=fun⟨A0,n0,c0,f0,A1,n1,c1,f1,h,hf,h0,h1⟩ hk=>by
  rw[hf] at hk;exact⟨A0,n0,c0,f0,A1,n1,c1,f1,h,hf,h0.keep fun b hb=>hk b (List.mem_append_left _ hb),h1.keep fun b hb=>hk b (List.mem_append_right _ hb)⟩
 lt:=fun⟨A0,n0,c0,f0,A1,n1,c1,f1,h,hf,h0,h1⟩ b hb=>by
  rw[hf] at hb;simp only[List.mem_append] at hb;rcases hb with hb|hb
  ·exact h0.lt b hb
  ·exact h1.lt b hb
 one:=fun⟨A0,n0,c0,f0,A1,n1,c1,f1,h,_⟩ u hu=>by subst h;simp only[List.mem_cons,List.not_mem_nil,or_false] at hu;rcases hu with rfl|rfl|rfl<;>rfl
theorem J7 {w:World} {A:Option Addr} {n c:Nat} {l:List Xq} {fp:List Nat} (h:SlR Rp.repo w A n c l fp) {i:Nat} (hi:i<l.length):
  ∃b o A0 n0 c0 f0 A1 n1 c1 f1,A=some ⟨b,o,none⟩∧b<w.heap.size∧b∈fp∧w.cell? ⟨b,o+i*3,none⟩=some (.int .i64 l[i].Az)∧w.cell? ⟨b,o+i*3+1,none⟩=some (.slice A0 n0 c0)∧w.cell? ⟨b,o+i*3+2,none⟩=some (.slice A1 n1 c1)∧SlR Rp.rule w A0 n0 c0 l[i].Uz f0∧SlR Rp.ref w A1 n1 c1 l[i].Fz f1∧∀x∈f0++f1,x∈fp:=by
 obtain⟨b,o,cs,f,hA,hb,hm,hc,⟨A0,n0,c0,f0,A1,n1,c1,f1,rfl,hf,h0,h1⟩,hsub⟩:=h.get hi;rw[hf] at hsub;exact⟨b,o,A0,n0,c0,f0,A1,n1,c1,f1,hA,hb,hm,hc.at0,hc.tail.at0,hc.tail.tail.at0,h0,h1,hsub⟩
structure Jl where
 keys:List (Int)
 used:List (Int)
 Rz:List (Xq)
 deriving DecidableEq
def Rp.house:Rp Jl where
 k:=3
 R:=fun w cs x fp=>∃A0 n0 c0 f0 A1 n1 c1 f1 A2 n2 c2 f2,cs= [.slice A0 n0 c0,.slice A1 n1 c1,.slice A2 n2 c2]∧fp=f0++(f1++(f2))∧SlR Rp.int w A0 n0 c0 x.keys f0∧SlR Rp.int w A1 n1 c1 x.used f1∧SlR Rp.repo w A2 n2 c2 x.Rz f2
 len:=fun⟨A0,n0,c0,f0,A1,n1,c1,f1,A2,n2,c2,f2,h,_⟩=>by rw[h];rfl
 keep:=fun⟨A0,n0,c0,f0,A1,n1,c1,f1,A2,n2,c2,f2,h,hf,h0,h1,h2⟩ hk=>by
  rw[hf] at hk;exact⟨A0,n0,c0,f0,A1,n1,c1,f1,A2,n2,c2,f2,h,hf,h0.keep fun b hb=>hk b (List.mem_append_left _ hb),h1.keep fun b hb=>hk b (List.mem_append_right _ (List.mem_append_left _ hb)),h2.keep fun b hb=>hk b (List.mem_append_right _ (List.mem_append_right _ hb))⟩
 lt:=fun⟨A0,n0,c0,f0,A1,n1,c1,f1,A2,n2,c2,f2,h,hf,h0,h1,h2⟩ b hb=>by
  rw[hf] at hb;simp only[List.mem_append] at hb;rcases hb with hb|hb|hb
  ·exact h0.lt b hb
  ·exact h1.lt b hb
  ·exact h2.lt b hb
 one:=fun⟨A0,n0,c0,f0,A1,n1,c1,f1,A2,n2,c2,f2,h,_⟩ u hu=>by subst h;simp only[List.mem_cons,List.not_mem_nil,or_false] at hu;rcases hu with rfl|rfl|rfl<;>rfl
structure Ans where
 code:Int
 files:List (File)
 names:List (ByteArray)
 n:Int
 deriving DecidableEq
def Rp.ans:Rp Ans where
 k:=4
 R:=fun w cs x fp=>∃A0 n0 c0 f0 A1 n1 c1 f1,cs= [.int .i64 x.code,.slice A0 n0 c0,.slice A1 n1 c1,.int .i64 x.n]∧fp=f0++f1∧SlR Rp.file w A0 n0 c0 x.files f0∧SlR Rp.str w A1 n1 c1 x.names f1
 len:=fun⟨A0,n0,c0,f0,A1,n1,c1,f1,h,_⟩=>by rw[h];rfl
 keep:=fun⟨A0,n0,c0,f0,A1,n1,c1,f1,h,hf,h0,h1⟩ hk=>by
  rw[hf] at hk;exact⟨A0,n0,c0,f0,A1,n1,c1,f1,h,hf,h0.keep fun b hb=>hk b (List.mem_append_left _ hb),h1.keep fun b hb=>hk b (List.mem_append_right _ hb)⟩
 lt:=fun⟨A0,n0,c0,f0,A1,n1,c1,f1,h,hf,h0,h1⟩ b hb=>by
  rw[hf] at hb;simp only[List.mem_append] at hb;rcases hb with hb|hb
  ·exact h0.lt b hb
  ·exact h1.lt b hb
 one:=fun⟨A0,n0,c0,f0,A1,n1,c1,f1,h,_⟩ u hu=>by subst h;simp only[List.mem_cons,List.not_mem_nil,or_false] at hu;rcases hu with rfl|rfl|rfl|rfl<;>rfl
abbrev RA(r:Req)(E:Value):Array Value:=#[.int .i64 r.user,.int .i64 r.key,.int .i64 r.repo,.int .i64 r.kind,.string r.ref,.string r.path,.int .i64 r.old,.int .i64 r.back,E,.int .i64 r.rule.user,.string r.rule.ref,.string r.rule.path,.bool r.rule.write,.int .i64 r.frm,.string r.other]
abbrev RZ:Array Value:=#[.int .i64 0,.int .i64 0,.int .i64 0,.int .i64 0,.string ⟨#[]⟩,.string ⟨#[]⟩,.int .i64 0,.int .i64 0,.slice none 0 0,.int .i64 0,.string ⟨#[]⟩,.string ⟨#[]⟩,.bool false,.int .i64 0,.string ⟨#[]⟩]
abbrev H0:Array Value:=#[.slice none 0 0,.slice none 0 0,.slice none 0 0]
abbrev N0:Array Value:=#[.int .i64 0,.slice none 0 0,.slice none 0 0,.int .i64 0]
theorem Jr (a b:ByteArray):(a.toList==b.toList)=decide (a=b):=by
 rw[ByteArray.toList_eq,ByteArray.toList_eq,Bool.eq_iff_iff,beq_iff_eq,decide_eq_true_iff];constructor
 ·intro h;obtain⟨⟨x⟩⟩:=a;obtain⟨⟨y⟩⟩:=b;cases h;rfl
 ·intro h;rw[h]
theorem Below.drewN' {B:Nat} {a w:World} (h:Below B a w) (n:Nat):Below B a (w.drewN n):=⟨h.os,h.tape,h.output,h.size,h.block⟩
def je6 {α:Type} (x y:List α) (k:Nat):Prop:=x.take k=y.take k
section
variable {α:Type} {x y:List α}
theorem Zw {k:Nat} (h:je6 x y k) (hx:k<x.length) (hy:k<y.length) (he:x[k]=y[k]):je6 x y (k+1):=by
 unfold je6 at*;rw[List.take_succ_eq_append_getElem hx,List.take_succ_eq_append_getElem hy,h,he]
theorem Ww {k:Nat} (hx:k<x.length) (hy:k<y.length) (he: ¬x[k]=y[k]): ¬x=y:=fun h=>by subst h;exact he rfl
theorem jaq (h:je6 x y x.length) (hl:x.length=y.length):x=y:=by
 unfold je6 at h;rwa [List.take_of_length_le nle,List.take_of_length_le (by omega)] at h
theorem Z4 (h: ¬x.length=y.length): ¬x=y:=fun e=>h (by rw[e])
end
theorem Je {w w1:World} {b o:Nat} {v:Value} (h:w.cell? ⟨b,o,none⟩=some v) (hb:Below w.heap.size w w1):w1.cell? ⟨b,o,none⟩=some v:=
 (hb.cell (p:=⟨b,o,none⟩) (World.block_lt_of_cell? w _ h)).trans h
theorem J6 {w:World} {b o:Nat} {v:Value} (h:w.cell? ⟨b,o,none⟩=some v) (x:Obj):(w.alloc x).cell? ⟨b,o,none⟩=some v:=
 Je h ((Below.refl _ _).alloc nle _)
theorem Below.t {w w1 w2:World} (h:Below w.heap.size w w1) (k:Below w1.heap.size w1 w2):Below w.heap.size w w2:=h.trans (k.mono h.size)
theorem Below.box1 {w w1:World} {o:Obj} (h:Below (w.alloc o).heap.size (w.alloc o) w1):Below w.heap.size w w1:=((Below.refl w.heap.size w).alloc nle o).trans (h.mono (by simp))
theorem Below.box2 {w w1:World} {o p:Obj} (h:Below ((w.alloc o).alloc p).heap.size ((w.alloc o).alloc p) w1):Below w.heap.size w w1:=Below.box1 (Below.box1 h)
theorem Below.box3 {w w1:World} {o p q:Obj} (h:Below (((w.alloc o).alloc p).alloc q).heap.size (((w.alloc o).alloc p).alloc q) w1):Below w.heap.size w w1:=Below.box1 (Below.box2 h)
theorem Free.step {w w1:World} {fp:List Nat} (h:Free w fp) (hb:Below w.heap.size w w1):Free w1 fp:=h.keep fun x hx=>hb.block x (h.lt x hx)
theorem Free.putN {w:World} {fp:List Nat} {b j:Nat} {v:Value} (h:Free w fp):Free (w.setCell ⟨b,j,none⟩ v) fp:=h.setCell _ rfl v
def Blk (w:World) (g:Nat) (t:TypeId) (cs:Array Value):Prop:=w.heap[g]? =some (.cells cs t (0,0))
section
variable {w w1:World} {g:Nat} {t:TypeId} {cs:Array Value}
theorem Blk.lt (h:Blk w g t cs):g<w.heap.size:=(Array.getElem?_eq_some_iff.1 h).1
theorem Blk.new (w:World) (t:TypeId) (cs:Array Value):Blk (w.alloc (.cells cs t)) w.heap.size t cs:=heap_alloc_new w _
theorem Blk.step (h:Blk w g t cs) (hb:Below w.heap.size w w1):Blk w1 g t cs:=(hb.block g h.lt).trans h
theorem Blk.alloc (h:Blk w g t cs) (o:Obj):Blk (w.alloc o) g t cs:=(Below.heap_alloc w o g h.lt).trans h
theorem Blk.drew (h:Blk w g t cs):Blk w.drew g t cs:=h
theorem Blk.only (h:Blk w g t cs) {f:List Nat} (hb:Only f w w1) (hn:g∉f):Blk w1 g t cs:=(hb.block g h.lt hn).trans h
theorem Blk.far (h:Blk w g t cs) {b j:Nat} (hn:g≠b) (v:Value):Blk (w.setCell ⟨b,j,none⟩ v) g t cs:=(Below.heap_setCell w _ v g hn).trans h
theorem Blk.cell (h:Blk w g t cs) (i:Nat):w.cell? ⟨g,i,none⟩=cs[i]? :=cell_of_row w g i cs t (0,0) h
theorem Blk.range (h:Blk w g t cs):w.rangeAt g 0 cs.toList:=fun j v hv=>by
 rw[Nat.zero_add,h.cell j];simpa using hv
theorem Blk.out (h:Blk w g t cs):w.heap[g]? =some (.cells cs t (0,0)):=h
end
theorem SlR.max {α:Type} {r:Rp α} {w:World} {A:Option Addr} {n c:Nat} {l:List α} {fp:List Nat} (h:SlR r w A n c l fp):n≤9223372036854775807:=by
 obtain⟨_,h1,h2,_⟩:=h;unfold maxLen at h2;omega
theorem SlR.drew {α:Type} {r:Rp α} {w:World} {A:Option Addr} {n c:Nat} {l:List α} {fp:List Nat} (h:SlR r w A n c l fp):SlR r w.drew A n c l fp:=h.keep fun _ _=>rfl
theorem SlR.allocN {α:Type} {r:Rp α} {w:World} {A:Option Addr} {n c:Nat} {l:List α} {fp:List Nat} (h:SlR r w A n c l fp) (o:Obj):SlR r (w.alloc o) A n c l fp:=
 h.keep fun b hb=>Below.heap_alloc _ _ _ (h.lt b hb)
section
variable {α:Type} {f:α→Nat} {x:List α} {left lk:Int} {k:Nat}
end
theorem Blk.c0 {w:World} {g:Nat} {t:TypeId} {a0:Value} {l:List Value} (h:Blk w g t (List.toArray (a0::l))):w.cell? ⟨g,0,none⟩=some a0:=h.cell 0
theorem Blk.c1 {w:World} {g:Nat} {t:TypeId} {a0 a1:Value} {l:List Value} (h:Blk w g t (List.toArray (a0::a1::l))):w.cell? ⟨g,1,none⟩=some a1:=h.cell 1
theorem Blk.c2 {w:World} {g:Nat} {t:TypeId} {a0 a1 a2:Value} {l:List Value} (h:Blk w g t (List.toArray (a0::a1::a2::l))):w.cell? ⟨g,2,none⟩=some a2:=h.cell 2
theorem Blk.c3 {w:World} {g:Nat} {t:TypeId} {a0 a1 a2 a3:Value} {l:List Value} (h:Blk w g t (List.toArray (a0::a1::a2::a3::l))):w.cell? ⟨g,3,none⟩=some a3:=h.cell 3
theorem Blk.c4 {w:World} {g:Nat} {t:TypeId} {a0 a1 a2 a3 a4:Value} {l:List Value} (h:Blk w g t (List.toArray (a0::a1::a2::a3::a4::l))):w.cell? ⟨g,4,none⟩=some a4:=h.cell 4
theorem Blk.c5 {w:World} {g:Nat} {t:TypeId} {a0 a1 a2 a3 a4 a5:Value} {l:List Value} (h:Blk w g t (List.toArray (a0::a1::a2::a3::a4::a5::l))):w.cell? ⟨g,5,none⟩=some a5:=h.cell 5
theorem Blk.c6 {w:World} {g:Nat} {t:TypeId} {a0 a1 a2 a3 a4 a5 a6:Value} {l:List Value} (h:Blk w g t (List.toArray (a0::a1::a2::a3::a4::a5::a6::l))):w.cell? ⟨g,6,none⟩=some a6:=h.cell 6
theorem Blk.c7 {w:World} {g:Nat} {t:TypeId} {a0 a1 a2 a3 a4 a5 a6 a7:Value} {l:List Value} (h:Blk w g t (List.toArray (a0::a1::a2::a3::a4::a5::a6::a7::l))):w.cell? ⟨g,7,none⟩=some a7:=h.cell 7
theorem Blk.c8 {w:World} {g:Nat} {t:TypeId} {a0 a1 a2 a3 a4 a5 a6 a7 a8:Value} {l:List Value} (h:Blk w g t (List.toArray (a0::a1::a2::a3::a4::a5::a6::a7::a8::l))):w.cell? ⟨g,8,none⟩=some a8:=h.cell 8
theorem Blk.c9 {w:World} {g:Nat} {t:TypeId} {a0 a1 a2 a3 a4 a5 a6 a7 a8 a9:Value} {l:List Value} (h:Blk w g t (List.toArray (a0::a1::a2::a3::a4::a5::a6::a7::a8::a9::l))):w.cell? ⟨g,9,none⟩=some a9:=h.cell 9
theorem Blk.c10 {w:World} {g:Nat} {t:TypeId} {a0 a1 a2 a3 a4 a5 a6 a7 a8 a9 a10:Value} {l:List Value} (h:Blk w g t (List.toArray (a0::a1::a2::a3::a4::a5::a6::a7::a8::a9::a10::l))):w.cell? ⟨g,10,none⟩=some a10:=h.cell 10
theorem Blk.c11 {w:World} {g:Nat} {t:TypeId} {a0 a1 a2 a3 a4 a5 a6 a7 a8 a9 a10 a11:Value} {l:List Value} (h:Blk w g t (List.toArray (a0::a1::a2::a3::a4::a5::a6::a7::a8::a9::a10::a11::l))):w.cell? ⟨g,11,none⟩=some a11:=h.cell 11
theorem Blk.c12 {w:World} {g:Nat} {t:TypeId} {a0 a1 a2 a3 a4 a5 a6 a7 a8 a9 a10 a11 a12:Value} {l:List Value} (h:Blk w g t (List.toArray (a0::a1::a2::a3::a4::a5::a6::a7::a8::a9::a10::a11::a12::l))):w.cell? ⟨g,12,none⟩=some a12:=h.cell 12
theorem Blk.c13 {w:World} {g:Nat} {t:TypeId} {a0 a1 a2 a3 a4 a5 a6 a7 a8 a9 a10 a11 a12 a13:Value} {l:List Value} (h:Blk w g t (List.toArray (a0::a1::a2::a3::a4::a5::a6::a7::a8::a9::a10::a11::a12::a13::l))):w.cell? ⟨g,13,none⟩=some a13:=h.cell 13
theorem Blk.c14 {w:World} {g:Nat} {t:TypeId} {a0 a1 a2 a3 a4 a5 a6 a7 a8 a9 a10 a11 a12 a13 a14:Value} {l:List Value} (h:Blk w g t (List.toArray (a0::a1::a2::a3::a4::a5::a6::a7::a8::a9::a10::a11::a12::a13::a14::l))):w.cell? ⟨g,14,none⟩=some a14:=h.cell 14
theorem Zb {P:Program} {w:World} (base:Nat) (t ty e:TypeId) (i:TypeInfo) (size:Nat) (ht:P.underlying t=some (.slice e)) (hi:P.info? e=some i)
  (v:Value) (n:Nat) (xs:List Value) (hown:w.ownsRow base e size v n xs) (c:Nat):
  (Builtin.append_ #[t,t] ty #[v,.slice none 0 c]).run P w= .ok v w:=by
 rcases hown.2 with ⟨rfl,rfl⟩|⟨g,cap,cur,rfl,_,_,hnc,_⟩
 ·simp[Builtin.append_,run_underlying ht,sizeOf,typeInfo,hi,Builtin.lenOf,Builtin.firstCells]
 ·simp[Builtin.append_,run_underlying ht,sizeOf,typeInfo,hi,Builtin.lenOf,Builtin.firstCells,hnc,storeCells]
theorem World.grownBy.same (w:World) (g:Option Nat):w.grownBy w g:=⟨rfl,rfl,rfl,Nat.le_refl _,fun _ _ _=>rfl⟩
theorem V2 {α:Type} {r:Rp α} {P:Program} {w:World} {ops:Array Oper} {rest:List Oper} {o:Oper} {a:Act} {Q:Exit→Act→World→Prop} (hgd:o.guard=none) (s x:Operand) (t:TypeId)
  (ho:o.op= .call { callee:= .builtin .append,args:= #[s,x],argTypes:= #[t,t]})
  (base:Nat) (e:TypeId) (i:TypeInfo) (z:Value) (bytes:Nat) (ht:P.underlying t=some (.slice e)) (hi:P.info? e=some i) (hz:i.zero=some z)
  (hsize:i.size=r.k) (hby:i.bytes=bytes) (hzs:z.cells.size=r.k) (hsz:0<r.k)
  (v:Value) (n:Nat) (xs:List Value) (hs:a.eval s=v) (hown:w.ownsRow base e r.k v n xs)
  {A:Option Addr} {m c:Nat} {l:List α} {fp:List Nat} (hx:a.eval x= .slice A m c) (hS:SlR r w A m c l fp)
  (h63:n+m≤maxLen) (hbytes:(n+m)*bytes≤140737488355328) (hbase:base≤w.heap.size)
  (h: ∀v' w' zs f1,AllR r w zs l f1→(∀b∈f1,b∈fp)→w'.ownsRow base e r.k v' (n+m) (xs++zs)→w.grownBy w' v.ownBlock→wpList P ops Q rest (a.put o.dst v') w'):wpList P ops Q (o::rest) a w:=by
 obtain⟨hm,hmc,hcx,zs,f0,f1,hsl,hal,hf⟩:=hS;have hsub: ∀b∈f1,b∈fp:=fun b hb=>by rw[hf];exact List.mem_append_right _ hb
 cases A with
 |none=>
  rcases hsl.2 with ⟨rfl,_⟩|⟨_,b,o',hA,_⟩
  ·have hz0:zs= []:=List.eq_nil_of_length_eq_zero (by simpa using hsl.1);refine wpList_plain hgd fun K hK=> ?_;have hrun:=Zb (P:=P) (w:=w) base t o.type e i r.k ht hi v n xs hown c;unfold Oper.wp;simp[execOp,ho,resolve,invoke,builtin,hs,hx,hrun,Result.andThen];refine hK _ _ (h v w zs f1 hal hsub ?_ (World.grownBy.same _ _));rw[hz0,List.append_nil];exact hown
  ·cases hA
 |some ad=>
  refine wpList_append_own w hgd s x t ho base e i z r.k bytes ht hi hz hsize hby hzs hsz v n xs hs hown ad m c zs hx hsl.1 (fun j u hu=> ?_) hal.one h63 hbytes hbase fun v' w' h1 h2 _=>h v' w' zs f1 hal hsub h1 h2;rcases hsl.2 with ⟨rfl,_⟩|⟨_,b,o',hA,_,_,hc⟩
  ·have hz0:zs= []:=List.eq_nil_of_length_eq_zero (by simpa using hsl.1);rw[hz0] at hu;cases hu
  ·cases hA;rw[Addr.add_lit];exact hc j u hu
theorem AllR.cut {α:Type} {r:Rp α} {w:World} : ∀ {l:List α} {xs:List Value} {fp:List Nat} (k:Nat),AllR r w xs l fp→k≤l.length→
  ∃c0 c1 f0 f1,xs=c0++c1∧fp=f0++f1∧c0.length=k*r.k∧AllR r w c0 (l.take k) f0∧AllR r w c1 (l.drop k) f1
 |l,xs,fp,0,h,_=>⟨[],xs,[],fp,rfl,rfl,by simp,⟨rfl,rfl⟩,h⟩
 | [],_,_,k+1,_,hk=>by simp at hk
 |x::l,xs,fp,k+1,⟨c1,c2,f1,f2,h,hf,h1,h2⟩,hk=>by
  obtain⟨d0,d1,g0,g1,e1,e2,e3,e4,e5⟩:=AllR.cut k h2 (by simpa using hk);refine⟨c1++d0,d1,f1++g0,g1,by rw[h,e1,List.append_assoc],by rw[hf,e2,List.append_assoc], ?_,⟨c1,d0,f1,g0,rfl,rfl,h1,e4⟩,e5⟩;rw[List.length_append,r.len h1,e3,Nat.add_mul,Nat.one_mul,Nat.add_comm]
theorem SlR.take {α:Type} {r:Rp α} {w:World} {A:Option Addr} {n c:Nat} {l:List α} {fp:List Nat} (h:SlR r w A n c l fp) {k:Nat} (hk:k≤l.length):
  ∃f,SlR r w A k c (l.take k) f∧∀b∈f,b∈fp:=by
 obtain⟨hn,h1,h2,xs,f0,f1,hs,ha,hf⟩:=h;obtain⟨c0,c1,g0,g1,e1,e2,e3,e4,e5⟩:=ha.cut k hk;have hl:k=(l.take k).length:=by simp;omega
 rcases hs.2 with ⟨h0,hf0⟩|⟨hn0,b,o,hA,hf0,hb,hc⟩
 ·have:k=0:=by omega
  subst this;exact⟨g0,⟨by simp,Nat.zero_le _,h2,c0,[],g0,⟨by simpa using e3,.inl ⟨rfl,rfl⟩⟩,e4,rfl⟩,fun b hb=>by rw[hf,e2];simp[hb]⟩
 ·by_cases h0:k=0
  ·subst h0;exact⟨g0,⟨by simp,Nat.zero_le _,h2,c0,[],g0,⟨by simpa using e3,.inl ⟨rfl,rfl⟩⟩,e4,rfl⟩,fun b hb=>by rw[hf,e2];simp[hb]⟩
  ·refine⟨[b]++g0,⟨hl,by omega,h2,c0,[b],g0,⟨e3,.inr ⟨by omega,b,o,hA,rfl,hb, ?_⟩⟩,e4,rfl⟩,fun x hx=> ?_⟩
   ·rw[e1] at hc;exact hc.left
   ·rw[hf,e2,hf0];simp at hx ⊢;rcases hx with rfl|hx
    ·simp
    ·simp[hx]
def OwnF {α:Type} (t:TypeId) (k:Nat) (enc:α→List Value) (w:World) (l:List α) (e:Ending) (w':World):Prop:=
 ∃v,e= .returned v∧w'.ownsRow w.heap.size t k v l.length (l.flatMap enc)∧Below w.heap.size w w'
theorem OwnF.fresh {α:Type} {t:TypeId} {k:Nat} {enc:α→List Value} {hk: ∀x,(enc x).length=k} {h1: ∀x,∀u∈enc x,u.oneCell'=true} {w:World} {l:List α} {e:Ending} {w':World}
  (h:OwnF t k enc w l e w'):FreshS (Rp.flat k enc hk h1) w l e w':=by
 obtain⟨v,rfl,ho,hb⟩:=h;exact FreshS.of_owns_flat ho hb
def Vm (v:Value):List Nat:=v.ownBlock.toList
section
variable {base:Nat} {e:TypeId} {size:Nat} {v:Value} {n:Nat} {xs:List Value} {w w':World}
theorem Jy (h:w.ownsRow base e size v n xs) (hk: ∀b∈Vm v,w'.heap[b]? =w.heap[b]?):w'.ownsRow base e size v n xs:=by
 refine⟨h.1, ?_⟩;rcases h.2 with hn|⟨g,cap,cur,rfl,hb,hg,rest⟩
 ·exact .inl hn
 ·exact .inr ⟨g,cap,cur,rfl,hb,(hk g (by simp[Vm,Value.ownBlock])).trans hg,rest⟩
theorem Jn (h:w.ownsRow base e size v n xs): ∀b∈Vm v,base≤b∧b<w.heap.size:=fun b hb=>h.lt b (by simpa [Vm] using hb)
theorem Y4 {base':Nat} (h:w.ownsRow base e size v n xs) (hb:base'≤base):w.ownsRow base' e size v n xs:=by
 refine⟨h.1, ?_⟩;rcases h.2 with hn|⟨g,cap,cur,rfl,hg,rest⟩
 ·exact .inl hn
 ·exact .inr ⟨g,cap,cur,rfl,Nat.le_trans hb hg,rest⟩
theorem jer (h:w.ownsRow base e size v n xs):Free w (Vm v):=fun b hb=>by
 rcases h.2 with ⟨rfl,_⟩|⟨g,cap,cur,rfl,_,hg,_⟩
 ·simp[Vm,Value.ownBlock] at hb
 ·simp[Vm,Value.ownBlock] at hb;subst hb;exact⟨cur,e,hg⟩
theorem jkk (h:w.ownsRow base e size v n xs):v.oneCell'=true:=by
 rcases h.2 with ⟨rfl,_⟩|⟨g,cap,cur,rfl,_⟩<;>rfl
end
def OwS {α:Type} (r:Rp α) (e:TypeId) (w:World) (v:Value) (l:List α) (fp:List Nat):Prop:=
 ∃xs f1,w.ownsRow 0 e r.k v l.length xs∧AllR r w xs l f1∧fp=Vm v++f1
def Rp.own {α:Type} (r:Rp α) (e:TypeId):Rp (List α) where
 k:=1
 R:=fun w cs l fp=>∃v,cs= [v]∧OwS r e w v l fp
 len:=fun⟨_,h,_⟩=>by rw[h];rfl
 keep:=fun⟨v,h,xs,f1,ho,ha,hf⟩ hk=>by
  subst hf;exact⟨v,h,xs,f1,Jy ho fun b hb=>hk b (List.mem_append_left _ hb),ha.keep fun b hb=>hk b (List.mem_append_right _ hb),rfl⟩
 lt:=fun⟨v,h,xs,f1,ho,ha,hf⟩ b hb=>by
  subst hf;rcases List.mem_append.1 hb with hb|hb
  ·exact(Jn ho b hb).2
  ·exact ha.lt b hb
 one:=fun⟨v,h,xs,f1,ho,_⟩ u hu=>by subst h;simp at hu;subst hu;exact jkk ho
section
variable {α:Type} {r:Rp α} {e:TypeId} {w w':World} {v:Value} {l:List α} {fp:List Nat}
theorem OwS.rp (h:OwS r e w v l fp):(Rp.own r e).R w [v] l fp:=⟨v,rfl,h⟩
theorem OwS.keep (h:OwS r e w v l fp) (hk: ∀b∈fp,w'.heap[b]? =w.heap[b]?):OwS r e w' v l fp:=by
 obtain⟨v',hv,h'⟩:=(Rp.own r e).keep h.rp hk;cases hv;exact h'
theorem OwS.lt (h:OwS r e w v l fp): ∀b∈fp,b<w.heap.size:=(Rp.own r e).lt h.rp
theorem OwS.step (h:OwS r e w v l fp) (hb:Below w.heap.size w w'):OwS r e w' v l fp:=h.keep fun b hm=>hb.block b (h.lt b hm)
theorem OwS.sl (h:OwS r e w v l fp): ∃A c f,v= .slice A l.length c∧SlR r w A l.length c l f∧f.Sublist fp∧l.length≤c∧c≤maxLen:=by
 obtain⟨xs,f1,ho,ha,rfl⟩:=h;have ho':=ho;obtain⟨hl,h⟩:=ho;rcases h with ⟨rfl,h0⟩|⟨g,cap,cur,rfl,hb,hg,hn,hc,hs,ht⟩
 ·have:l= []:=List.eq_nil_of_length_eq_zero h0;subst this;exact⟨none,0,f1,rfl,⟨rfl,Nat.le_refl _,by simp[maxLen],xs,[],f1,⟨hl,.inl ⟨rfl,rfl⟩⟩,ha,rfl⟩,by simp[Vm,Value.ownBlock],Nat.le_refl _,by simp[maxLen]⟩
 ·by_cases h0:l.length=0
  ·have:l= []:=List.eq_nil_of_length_eq_zero h0;subst this;exact⟨_,cap,f1,rfl,⟨rfl,hn,hc,xs,[],f1,⟨hl,.inl ⟨rfl,rfl⟩⟩,ha,rfl⟩,by simp[Vm,Value.ownBlock],hn,hc⟩
  ·have hlt:g<w.heap.size:=(Array.getElem?_eq_some_iff.1 hg).1;refine⟨_,cap,[g]++f1,rfl,⟨rfl,hn,hc,xs,[g],f1,⟨hl,.inr ⟨by omega,g,0,rfl,rfl,hlt,fun j u hu=> ?_⟩⟩,ha,rfl⟩,by simp[Vm,Value.ownBlock],hn,hc⟩;rw[cell_of_row w g (0+j) cur e (0,0) hg,Nat.zero_add];rw[←ht,List.getElem?_take] at hu;split at hu
   ·simpa using hu
   ·cases hu
theorem OwS.of_owns {base:Nat} {xs:List Value} {f1:List Nat} (h:w.ownsRow base e r.k v l.length xs) (ha:AllR r w xs l f1):OwS r e w v l (Vm v++f1):=
 ⟨xs,f1,Y4 h (Nat.zero_le _),ha,rfl⟩
theorem OwS.nil:OwS r e w (.slice none 0 0) [] []:=⟨[],[],World.ownsRow_nil _ _ _ _,⟨rfl,rfl⟩,rfl⟩
end
def Rp.Le {α:Type} (r s:Rp α):Prop:=r.k=s.k∧∀w cs x fp,r.R w cs x fp→∃f,s.R w cs x f∧f.Sublist fp
theorem AllR.le {α:Type} {r s:Rp α} (h:Rp.Le r s) {w:World} : ∀ {l:List α} {xs:List Value} {fp:List Nat},AllR r w xs l fp→∃f,AllR s w xs l f∧f.Sublist fp
 | [],_,_,⟨h1,h2⟩=>⟨[],⟨h1,rfl⟩,by simp⟩
 |x::l,xs,fp,⟨c1,c2,f1,f2,h1,h2,h3,h4⟩=>by
  obtain⟨g1,k1,s1⟩:=h.2 _ _ _ _ h3;obtain⟨g2,k2,s2⟩:=AllR.le h h4;subst h2;exact⟨g1++g2,⟨c1,c2,g1,g2,h1,rfl,k1,k2⟩,s1.append s2⟩
theorem SlR.le {α:Type} {r s:Rp α} (h:Rp.Le r s) {w:World} {A:Option Addr} {n c:Nat} {l:List α} {fp:List Nat} (hs:SlR r w A n c l fp): ∃f,SlR s w A n c l f∧f.Sublist fp:=by
 obtain⟨hn,h1,h2,xs,f0,f1,hs,ha,rfl⟩:=hs;obtain⟨g,hg,hsub⟩:=ha.le h;rw[h.1] at hs;exact⟨f0++g,⟨hn,h1,h2,xs,f0,g,hs,hg,rfl⟩,(List.Sublist.refl f0).append hsub⟩
theorem jii {f g:List Nat} (h:f.Sublist g) (hn:g.Nodup):f.Nodup:=hn.sublist h
theorem Free.sublist {w:World} {f g:List Nat} (h:Free w g) (hs:f.Sublist g):Free w f:=fun b hb=>h b (hs.subset hb)
def Rp.refO:Rp Ref where
 k:=4
 R:=fun w cs x fp=>∃v,cs= [.string x.name,.bool x.guard,.int .i64 x.count,v]∧OwS (Rp.slice Rp.file) 34 w v x.Vz fp
 len:=fun⟨_,h,_⟩=>by rw[h];rfl
 keep:=fun⟨v,h,h0⟩ hk=>⟨v,h,h0.keep hk⟩
 lt:=fun⟨v,h,h0⟩=>h0.lt
 one:=fun⟨v,h,h0⟩ u hu=>by
  subst h;simp only[List.mem_cons,List.not_mem_nil,or_false] at hu;rcases hu with rfl|rfl|rfl|rfl<;>first|rfl|exact(Rp.own _ _).one h0.rp _ (by simp)
def Rp.repoO:Rp Xq where
 k:=3
 R:=fun w cs x fp=>∃A0 n0 c0 f0 v f1,cs= [.int .i64 x.Az,.slice A0 n0 c0,v]∧fp=f0++f1∧SlR Rp.rule w A0 n0 c0 x.Uz f0∧OwS Rp.refO 52 w v x.Fz f1
 len:=fun⟨_,_,_,_,_,_,h,_⟩=>by rw[h];rfl
 keep:=fun⟨A0,n0,c0,f0,v,f1,h,hf,h0,h1⟩ hk=>by
  subst hf;exact⟨A0,n0,c0,f0,v,f1,h,rfl,h0.keep fun b hb=>hk b (List.mem_append_left _ hb),h1.keep fun b hb=>hk b (List.mem_append_right _ hb)⟩
 lt:=fun⟨A0,n0,c0,f0,v,f1,h,hf,h0,h1⟩ b hb=>by
  subst hf;rcases List.mem_append.1 hb with hb|hb
  ·exact h0.lt b hb
  ·exact h1.lt b hb
 one:=fun⟨A0,n0,c0,f0,v,f1,h,hf,h0,h1⟩ u hu=>by
  subst h;simp only[List.mem_cons,List.not_mem_nil,or_false] at hu;rcases hu with rfl|rfl|rfl<;>first|rfl|exact(Rp.own _ _).one h1.rp _ (by simp)
def Rp.houseO:Rp Jl where
 k:=3
 R:=fun w cs x fp=>∃A0 n0 c0 f0 A1 n1 c1 f1 v f2,cs= [.slice A0 n0 c0,.slice A1 n1 c1,v]∧fp=f0++(f1++f2)∧SlR Rp.int w A0 n0 c0 x.keys f0∧SlR Rp.int w A1 n1 c1 x.used f1∧OwS Rp.repoO 48 w v x.Rz f2
 len:=fun⟨_,_,_,_,_,_,_,_,_,_,h,_⟩=>by rw[h];rfl
 keep:=fun⟨A0,n0,c0,f0,A1,n1,c1,f1,v,f2,h,hf,h0,h1,h2⟩ hk=>by
  subst hf;exact⟨A0,n0,c0,f0,A1,n1,c1,f1,v,f2,h,rfl,h0.keep fun b hb=>hk b (by simp[hb]),h1.keep fun b hb=>hk b (by simp[hb]),h2.keep fun b hb=>hk b (by simp[hb])⟩
 lt:=fun⟨A0,n0,c0,f0,A1,n1,c1,f1,v,f2,h,hf,h0,h1,h2⟩ b hb=>by
  subst hf;simp only[List.mem_append] at hb;rcases hb with hb|hb|hb
  ·exact h0.lt b hb
  ·exact h1.lt b hb
  ·exact h2.lt b hb
 one:=fun⟨A0,n0,c0,f0,A1,n1,c1,f1,v,f2,h,hf,h0,h1,h2⟩ u hu=>by
  subst h;simp only[List.mem_cons,List.not_mem_nil,or_false] at hu;rcases hu with rfl|rfl|rfl<;>first|rfl|exact(Rp.own _ _).one h2.rp _ (by simp)
theorem jbl:Rp.Le Rp.refO Rp.ref:=⟨rfl,fun w cs x fp ⟨v,h,h0⟩=>by
 obtain⟨A,c,f,rfl,hs,hsub,_,_⟩:=h0.sl;exact⟨f,⟨A,_,c,f,h,rfl,hs⟩,hsub⟩⟩
theorem jc5:Rp.Le Rp.repoO Rp.repo:=⟨rfl,fun w cs x fp ⟨A0,n0,c0,f0,v,f1,h,hf,h0,h1⟩=>by
 obtain⟨A,c,f,rfl,hs,hsub,_,_⟩:=h1.sl;obtain⟨g,hg,hsub2⟩:=hs.le jbl;subst hf;exact⟨f0++g,⟨A0,n0,c0,f0,A,_,c,g,h,rfl,h0,hg⟩,(List.Sublist.refl f0).append (hsub2.trans hsub)⟩⟩
theorem V8:Rp.Le Rp.houseO Rp.house:=⟨rfl,fun w cs x fp ⟨A0,n0,c0,f0,A1,n1,c1,f1,v,f2,h,hf,h0,h1,h2⟩=>by
 obtain⟨A,c,f,rfl,hs,hsub,_,_⟩:=h2.sl;obtain⟨g,hg,hsub2⟩:=hs.le jc5;subst hf;exact⟨f0++(f1++g),⟨A0,n0,c0,f0,A1,n1,c1,f1,A,_,c,g,h,rfl,h0,h1,hg⟩,(List.Sublist.refl f0).append ((List.Sublist.refl f1).append (hsub2.trans hsub))⟩⟩
theorem SlR.put1 {α:Type} {r:Rp α} {w:World} {A:Option Addr} {n c:Nat} {l:List α} {fp:List Nat} (h:SlR r w A n c l fp) (hn:fp.Nodup) {i:Nat} (hi:i<l.length):
  ∃b o cs f,A=some ⟨b,o,none⟩∧b∈fp∧b∉f∧(∀x∈f,x∈fp)∧f.Nodup∧b<w.heap.size∧Cells w b (o+i*r.k) cs∧r.R w cs l[i] f∧
   ∀(s:Rp α) (w':World) (cs':List Value) (y:α) (f':List Nat),Rp.Le r s→(∀j,j<o+i*r.k∨o+i*r.k+r.k≤j→w'.cell? ⟨b,j,none⟩=w.cell? ⟨b,j,none⟩)→b<w'.heap.size→Cells w' b (o+i*r.k) cs'→s.R w' cs' y f'→
    (∀x∈fp,x≠b→x∉f→w'.heap[x]? =w.heap[x]?)→∃fp',SlR s w' A n c (l.set i y) fp'∧∀z∈fp',z∈fp∨z∈f':=by
 obtain⟨hn',h1,h2,xs,f0,f1,hs,ha,hf⟩:=h;obtain⟨c0,cs,c1,g0,g,g1,e1,e2,e3,e4,e5,e6⟩:=ha.split hi;rcases hs.2 with ⟨h0,_⟩|⟨hn0,b,o,hA,hf0,hb,hc⟩
 ·omega
 ·subst hf;subst hf0;subst e2;subst e1;have hn2:(b::(g0++(g++g1))).Nodup:=hn;have hbn:b∉g0++(g++g1):=(List.nodup_cons.1 hn2).1;have hnd:(g0++(g++g1)).Nodup:=(List.nodup_cons.1 hn2).2;have hgn:g.Nodup:=(List.nodup_append.1 (List.nodup_append.1 hnd).2.1).1;have hd0: ∀x∈g0,x∉g:=fun x hx hg=>(List.nodup_append.1 hnd).2.2 x hx x (List.mem_append_left _ hg) rfl
  have hd1: ∀x∈g1,x∉g:=fun x hx hg=>(List.nodup_append.1 (List.nodup_append.1 hnd).2.1).2.2 x hg x hx rfl;have hcc:=hc.right.left;rw[e3] at hcc;refine⟨b,o,cs,g,hA,by simp,fun hm=>hbn (by simp[hm]),fun x hx=>by simp[hx],hgn,hb,hcc,e5,fun s w' cs' y f' hle hother hb' hcs' hy hk=> ?_⟩;have hks:=hle.1;have hlen:cs'.length=r.k:=by rw[s.len hy,hks]
  have hlen0:=r.len e5;have e4':=e4.keep (w':=w') fun x hx=>hk x (by simp[hx]) (fun e=>hbn (by rw[←e];simp[hx])) (hd0 x hx);have e6':=e6.keep (w':=w') fun x hx=>hk x (by simp[hx]) (fun e=>hbn (by rw[←e];simp[hx])) (hd1 x hx);obtain⟨k0,q0,hs0⟩:=e4'.le hle;obtain⟨k1,q1,hs1⟩:=e6'.le hle;have hal:AllR s w' (c0++(cs'++c1)) (l.set i y) (k0++(f'++k1)):=AllR.set hi q0 q1 hy fun _ _=>rfl
  refine⟨[b]++(k0++(f'++k1)),⟨by simpa using hn',h1,h2,c0++(cs'++c1),[b],k0++(f'++k1),⟨?_,.inr ⟨hn0,b,o,hA,rfl,hb', ?_⟩⟩,hal,rfl⟩,fun z hz=> ?_⟩;rotate_left 2
  ·simp only[List.mem_append] at hz ⊢;rcases hz with hz|hz|hz|hz
   ·exact .inl (.inl hz)
   ·exact .inl (.inr (.inl (hs0.subset hz)))
   ·exact .inr hz
   ·exact .inl (.inr (.inr (.inr (hs1.subset hz))))
  ·have:=hs.1;rw[←hks];simp only[List.length_append] at this ⊢;omega
  ·have hl0:Cells w' b o c0:=fun j u hu=>by
    have hj:=(List.getElem?_eq_some_iff.1 hu).1;rw[hother (o+j) (by omega)];exact hc.left j u hu
   have hl1:Cells w' b (o+(c0++cs').length) c1:=fun j u hu=>by
    have hr:=hc.right.right j u hu;rw[hother _ (by simp only[List.length_append];omega),←hr]
    congr 2
    simp only[List.length_append];omega
   rw[←List.append_assoc];refine Cells.append (Cells.append hl0 ?_) hl1;rw[e3];exact hcs'
theorem OwS.put1 {α:Type} {r:Rp α} {e:TypeId} {w:World} {v:Value} {l:List α} {fp:List Nat} (h:OwS r e w v l fp) (hn:fp.Nodup) {k:Nat} (hk:k<l.length):
  ∃g cap cs f,v= .slice (some ⟨g,0,none⟩) l.length cap∧g∈fp∧g∉f∧(∀x∈f,x∈fp)∧f.Nodup∧g<w.heap.size∧Cells w g (k*r.k) cs∧r.R w cs l[k] f∧
   ∀(s:Rp α) (w':World) (cs':List Value) (y:α) (f':List Nat),Rp.Le r s→(∀j,j<k*r.k∨k*r.k+r.k≤j→w'.cell? ⟨g,j,none⟩=w.cell? ⟨g,j,none⟩)→g<w'.heap.size→Cells w' g (k*r.k) cs'→s.R w' cs' y f'→
    (∀x∈fp,x≠g→x∉f→w'.heap[x]? =w.heap[x]?)→∃fp',SlR s w' (some ⟨g,0,none⟩) l.length cap (l.set k y) fp'∧∀z∈fp',z∈fp∨z∈f':=by
 obtain⟨A,c,f0,rfl,hs,hsub,_,_⟩:=h.sl;obtain⟨b,o,cs,f,rfl,h1,h2,h3,h4,h5,h6,h7,h8⟩:=hs.put1 (jii hsub hn) hk;obtain⟨xs,f1,ho,_,_⟩:=h;have ho0:o=0:=by
  rcases ho.2 with ⟨h,_⟩|⟨g,cap,cur,h,_⟩
  ·cases h
  ·cases h;rfl
 subst ho0;rw[Nat.zero_add] at h6 h8;refine⟨b,c,cs,f,rfl,hsub.subset h1,h2,fun x hx=>hsub.subset (h3 x hx),h4,h5,h6,h7,fun s w' cs' y f' g1 g2 g3 g4 g5 g6=> ?_⟩;obtain⟨fp',k1,k2⟩:=h8 s w' cs' y f' g1 g2 g3 g4 g5 fun x hx=>g6 x (hsub.subset hx);exact⟨fp',k1,fun z hz=>(k2 z hz).imp (fun h=>hsub.subset h) id⟩
theorem jb9 {w:World} {cs:List Value} {x:Jl} {fp:List Nat} (h:Rp.houseO.R w cs x fp) (hn:fp.Nodup) {i:Nat} (hi:i<x.Rz.length):
  ∃A0 n0 c0 f0 A1 n1 c1 f1 b c2 cur cr f,cs= [.slice A0 n0 c0,.slice A1 n1 c1,.slice (some ⟨b,0,none⟩) x.Rz.length c2]∧
   SlR Rp.int w A0 n0 c0 x.keys f0∧SlR Rp.int w A1 n1 c1 x.used f1∧w.heap[b]? =some (.cells cur 48 (0,0))∧
   b∈fp∧b<w.heap.size∧b∉f∧f.Nodup∧(∀z∈f,z∈fp)∧f1.Nodup∧(∀z∈f1,z∈fp∧z≠b∧z∉f)∧(∀z∈f0,z∈fp∧z≠b∧z∉f∧z∉f1)∧
   Cells w b (i*3) cr∧Rp.repoO.R w cr x.Rz[i] f∧
   ∀(w':World) (cr':List Value) (y:Xq) (f':List Nat) (u':List Int) (fu:List Nat),(∀j,j<i*3∨i*3+3≤j→w'.cell? ⟨b,j,none⟩=w.cell? ⟨b,j,none⟩)→b<w'.heap.size→
    Cells w' b (i*3) cr'→Rp.repo.R w' cr' y f'→SlR Rp.int w' A1 n1 c1 u' fu→(∀z∈fp,z≠b→z∉f→z∉f1→w'.heap[z]? =w.heap[z]?)→∃fp',Rp.house.R w' cs ⟨x.keys,u',x.Rz.set i y⟩ fp'∧∀z∈fp',z∈fp∨z∈f'∨z∈fu:=by
 obtain⟨A0,n0,c0,f0,A1,n1,c1,f1,v,f2,rfl,hf,h0,h1,h2⟩:=h;subst hf;obtain⟨hn0,hn12,hd0⟩:=List.nodup_append.1 hn;obtain⟨hn1,hn2,hd1⟩:=List.nodup_append.1 hn12;have hty: ∀g n c,v= .slice (some ⟨g,0,none⟩) n c→∃cur,w.heap[g]? =some (.cells cur 48 (0,0)):=by
  intro g n c hv;obtain⟨xs,f1',ho,_,_⟩:=h2;rcases ho.2 with ⟨h,_⟩|⟨g',cap,cur,h,_,hg,_⟩
  ·rw[hv] at h;cases h
  ·rw[hv] at h;cases h;exact⟨cur,hg⟩
 obtain⟨b,c2,cr,f,rfl,hb,hbf,hsub,hfn,hbl,hc,hr,hcl⟩:=h2.put1 hn2 hi;obtain⟨cur,hcur⟩:=hty _ _ _ rfl;refine⟨A0,n0,c0,f0,A1,n1,c1,f1,b,c2,cur,cr,f,rfl,h0,h1,hcur,by simp[hb],hbl,hbf,hfn,fun z hz=>by simp[hsub z hz],hn1,fun z hz=>⟨by simp[hz],fun e=>hd1 z hz b hb e,fun hf=>hd1 z hz z (hsub z hf) rfl⟩,
  fun z hz=>⟨by simp[hz],fun e=>hd0 z hz b (by simp[hb]) e,fun hf=>hd0 z hz z (by simp[hsub z hf]) rfl,fun hf=>hd0 z hz z (by simp[hf]) rfl⟩,hc,hr, ?_⟩
 intro w' cr' y f' u' fu g1 g2 g3 g4 g5 g6;have k0:SlR Rp.int w' A0 n0 c0 x.keys f0:=h0.keep fun z hz=>g6 z (by simp[hz]) (fun e=>hd0 z hz b (by simp[hb]) e) (fun hf=>hd0 z hz z (by simp[hsub z hf]) rfl) (fun hf=>hd0 z hz z (by simp[hf]) rfl);obtain⟨fq,hq,hqm⟩:=hcl Rp.repo w' cr' y f' jc5 g1 g2 g3 g4 fun z hz hzb hzf=>g6 z (by simp[hz]) hzb hzf fun hf=>hd1 z hf z hz rfl
 refine⟨f0++(fu++fq),⟨A0,n0,c0,f0,A1,n1,c1,fu,_,_,c2,fq,rfl,rfl,k0,g5,hq⟩,fun z hz=> ?_⟩;simp only[List.mem_append] at hz ⊢;rcases hz with hz|hz|hz
 ·exact .inl (.inl hz)
 ·exact .inr (.inr hz)
 ·rcases hqm z hz with hz|hz
  ·exact .inl (.inr (.inr hz))
  ·exact .inr (.inl hz)
theorem jhl {w:World} {cr:List Value} {p:Xq} {f:List Nat} (h:Rp.repoO.R w cr p f) (hn:f.Nodup) {k:Nat} (hk:k<p.Fz.length):
  ∃B0 m0 d0 g0 g cap cf f3,cr= [.int .i64 p.Az,.slice B0 m0 d0,.slice (some ⟨g,0,none⟩) p.Fz.length cap]∧SlR Rp.rule w B0 m0 d0 p.Uz g0∧
   g∈f∧g<w.heap.size∧g∉f3∧f3.Nodup∧(∀z∈f3,z∈f)∧(∀z∈g0,z∈f∧z≠g∧z∉f3)∧
   Cells w g (k*4) cf∧Rp.refO.R w cf p.Fz[k] f3∧
   ∀(w':World) (cf':List Value) (y:Ref) (f':List Nat),(∀j,j<k*4∨k*4+4≤j→w'.cell? ⟨g,j,none⟩=w.cell? ⟨g,j,none⟩)→g<w'.heap.size→
    Cells w' g (k*4) cf'→Rp.ref.R w' cf' y f'→(∀z∈f,z≠g→z∉f3→w'.heap[z]? =w.heap[z]?)→∃f'',Rp.repo.R w' cr { p with Fz:=p.Fz.set k y} f''∧∀z∈f'',z∈f∨z∈f':=by
 obtain⟨B0,m0,d0,g0,v,g1,rfl,hf,h0,h1⟩:=h;subst hf;obtain⟨hn0,hn1,hd⟩:=List.nodup_append.1 hn;obtain⟨g,cap,cf,f3,rfl,q1,q2,q3,q4,q5,q6,q7,q8⟩:=h1.put1 hn1 hk;refine⟨B0,m0,d0,g0,g,cap,cf,f3,rfl,h0,by simp[q1],q5,q2,q4,fun z hz=>by simp[q3 z hz],fun z hz=>⟨by simp[hz],fun e=>hd z hz g q1 e,fun hf=>hd z hz z (q3 z hf) rfl⟩,q6,q7, ?_⟩;intro w' cf' y f' g2 g3 g4 g5 g6
 have k0:SlR Rp.rule w' B0 m0 d0 p.Uz g0:=h0.keep fun z hz=>g6 z (by simp[hz]) (fun e=>hd z hz g q1 e) (fun hf=>hd z hz z (q3 z hf) rfl);obtain⟨fq,hq,hqm⟩:=q8 Rp.ref w' cf' y f' jbl g2 g3 g4 g5 fun z hz hzg hzf=>g6 z (by simp[hz]) hzg hzf;refine⟨g0++fq,⟨B0,m0,d0,g0,_,_,cap,fq,rfl,rfl,k0,hq⟩,fun z hz=> ?_⟩;simp only[List.mem_append] at hz ⊢;rcases hz with hz|hz
 ·exact .inl (.inl hz)
 ·rcases hqm z hz with hz|hz
  ·exact .inl (.inr hz)
  ·exact .inr hz
theorem Vr {P:Program} (w:World) (dT sT ty elem:TypeId) (K g o dLen dCap:Nat) (a:Addr) (sLen sCap:Nat) (cur:Array Value) (t:TypeId) (cs:List Value)
  (hu:P.underlying dT=some (.slice elem)) (hs:(P.info? elem).map (·.size)=some K)
  (hg:w.heap[g]? =some (.cells cur t (0,0))) (m:Nat) (hm:Nat.min sLen dLen=m) (hn:cs.length=m*K)
  (hsrc: ∀j v,cs[j]? =some v→w.cell? (a.add j)=some v) (hfit:o+cs.length≤cur.size) (h1: ∀v∈cs,v.oneCell'=true):
  (Builtin.copy_ #[dT,sT] ty #[.slice (some ⟨g,o,none⟩) dLen dCap,.slice (some a) sLen sCap]).run P w=
   .ok (goInt m) (w.setRow g (cur.toList.take o++cs++cur.toList.drop (o+cs.length)).toArray):=by
 have hl:=run_loadCells_list (P:=P) w a cs hsrc;have hst:=run_storeCells_at P g o t cs 0 cur w hg (by simpa using hfit) h1;simp only[Nat.add_zero] at hst;cases hq:P.info? elem with
 |none=>simp[hq] at hs
 |some i=>
  have hi:i.size=K:=by simpa [hq] using hs
  simp[Builtin.copy_,run_underlying hu,Builtin.lenOf,Builtin.firstCells,sizeOf,typeInfo,hq,hi,hm,←hn,hl,hst]
theorem Wx {P:Program} {ops:Array Oper} {o:Oper} {a:Act} {w:World} {K:Act→World→Prop} {Q:Exit→Act→World→Prop} {E:Prop}
  (hg:o.guard=none) (d x:Operand) (dT sT:TypeId) (hop:o.op=Op.call { callee:=Callee.builtin Builtin.append,args:= #[d,x],argTypes:= #[dT,sT]})
  (v u:Value) (hd:a.eval d=v) (hx:a.eval x=u) {v':Value} {w':World} (hr:(Builtin.append_ #[dT,sT] o.type #[v,u]).run P w= .ok v' w') (hK:K (a.put o.dst v') w'):
  if Region.wanted o (yielded ops a.tmps)=true then Oper.wp P o a w K Q else E:=by
 have hw:Region.wanted o (yielded ops a.tmps)=true:=by simp[Region.wanted,hg]
 rw[if_pos hw];unfold Oper.wp;simp[execOp,hop,resolve,invoke,builtin,hd,hx,hr,Result.andThen];exact hK
theorem jg7 (z:Array Value) (k:Nat) (hk:z.size=k) (n:Nat):(Builtin.zeroCells z n).toList=(List.replicate n z.toList).flatten:=by
 rw[←jb5 z k hk n];simp[Builtin.zeroCells,madeCells,hk]
theorem jdg {P:Program} (w:World) (t e ty:TypeId) (z:Value) (K:Nat) (ht:P.underlying t=some (.slice e)) (hv: ∀w,(zeroValue e).run P w= .ok z w) (hz:z.cells.size=K) (h1: ∀v∈z.cells.toList,v.oneCell'=true)
  (g o n c:Nat) (cur:Array Value) (te:TypeId) (hg:w.heap[g]? =some (.cells cur te (0,0))) (hfit:o+n*K≤cur.size):
  (Builtin.clear_ #[t] ty #[.slice (some ⟨g,o,none⟩) n c]).run P w= .ok (.tuple #[]) (w.setRow g (cur.toList.take o++(List.replicate n z.cells.toList).flatten++cur.toList.drop (o+n*K)).toArray):=by
 have hl:(List.replicate n z.cells.toList).flatten.length=n*K:=by simp[hz]
 have hst:=run_storeCells_at P g o te (List.replicate n z.cells.toList).flatten 0 cur w hg (by rw[hl];simpa using hfit) (by
  intro v hv';obtain⟨l,hl',hm⟩:=List.mem_flatten.1 hv';rw[List.eq_of_mem_replicate hl'] at hm;exact h1 v hm)
 simp only[Nat.add_zero,hl] at hst;cases n with
 |zero=>
  have e:(cur.toList.take o++(List.replicate 0 z.cells.toList).flatten++cur.toList.drop (o+0*K)).toArray=cur:=by simp
  rw[e,setRow_self w g cur te (0,0) hg];simp[Builtin.clear_,run_underlying ht]
 |succ m=>
  have hzc:=jg7 z.cells K hz (m+1);simp[Builtin.clear_,run_underlying ht,hv,hzc,hst]
def jae (K i:Nat) (xs ys:List Value):List Value:=xs.take (i*K)++(ys++xs.drop (i*K))
def jdw (K i:Nat) (xs:List Value):List Value:=xs.take (i*K)++xs.drop ((i+1)*K)
section
variable {cur xs ys:List Value} {K i n cap:Nat}
theorem jfi (hx:cur.take (n*K)=xs) (hs:cur.length=cap*K) (hi:i<n) (hn:n+1≤cap):(cur.take ((i+1)*K)++xs.drop (i*K)++cur.drop ((i+1)*K+(xs.drop (i*K)).length)).length=cap*K:=by
 have h1:(n+1)*K≤cap*K:=Nat.mul_le_mul_right _ hn;have h2:(i+1)*K≤n*K:=Nat.mul_le_mul_right _ hi;have h3:(n+1)*K=n*K+K:=by rw[Nat.add_mul,Nat.one_mul]
 have h4:(i+1)*K=i*K+K:=by rw[Nat.add_mul,Nat.one_mul]
 subst hx;simp only[List.length_append,List.length_take,List.length_drop];omega
theorem jik (hx:cur.take (n*K)=xs) (hs:cur.length=cap*K) (hy:ys.length=K) (hi:i<n) (hn:n+1≤cap) {c1:List Value}
  (h1:c1=cur.take ((i+1)*K)++xs.drop (i*K)++cur.drop ((i+1)*K+(xs.drop (i*K)).length)):
  (c1.take (i*K)++ys++c1.drop (i*K+ys.length)).length=cap*K∧(c1.take (i*K)++ys++c1.drop (i*K+ys.length)).take ((n+1)*K)=jae K i xs ys:=by
 have h2:(n+1)*K≤cap*K:=Nat.mul_le_mul_right _ hn;have h3:(i+1)*K≤n*K:=Nat.mul_le_mul_right _ hi;have h4:(n+1)*K=n*K+K:=by rw[Nat.add_mul,Nat.one_mul]
 have h5:(i+1)*K=i*K+K:=by rw[Nat.add_mul,Nat.one_mul]
 have hl:=jfi hx hs hi hn;rw[←h1] at hl;have hlx:xs.length=n*K:=by subst hx;rw[List.length_take];omega
 have e1:c1.take (i*K)=xs.take (i*K):=by
  subst h1;rw[List.append_assoc,List.take_append_of_le_length (by rw[List.length_take];omega),List.take_take,Nat.min_eq_left (by omega),←hx,List.take_take,Nat.min_eq_left (by omega)]
 have e2:c1.drop (i*K+ys.length)=xs.drop (i*K)++cur.drop ((i+1)*K+(xs.drop (i*K)).length):=by
  subst h1;rw[hy,←h5,List.append_assoc,List.drop_append_of_le_length (by rw[List.length_take];omega),List.drop_eq_nil_of_le (by rw[List.length_take];omega),List.nil_append]
 refine⟨by simp only[List.length_append,List.length_take,List.length_drop];omega, ?_⟩;rw[e1,e2];unfold jae;have hlen:(xs.take (i*K)++ys++xs.drop (i*K)).length=(n+1)*K:=by simp only[List.length_append,List.length_take,List.length_drop];omega
 rw[←List.append_assoc,List.take_append_of_le_length (by omega),List.take_of_length_le (by omega),List.append_assoc]
theorem jl9 {G:Nat} {z1 z2:List Value} (hlx:xs.length=n*K) (hy:ys.length=K) (hi:i<n) (hG:n+1≤G) (hz1:z1.length=(n+1 - i)*K) (hz2:z2.length=(G - (n+1))*K) {r0 r1:List Value}
  (h0:r0=xs.take (i*K)++z1++z2) (h1:r1=r0.take (i*K)++ys++r0.drop (i*K+ys.length)):
  r0.length=G*K∧r1.length=G*K∧(r1.take ((i+1)*K)++xs.drop (i*K)++r1.drop ((i+1)*K+(xs.drop (i*K)).length)).length=G*K∧
   (r1.take ((i+1)*K)++xs.drop (i*K)++r1.drop ((i+1)*K+(xs.drop (i*K)).length)).take ((n+1)*K)=jae K i xs ys:=by
 have h3:(i+1)*K≤n*K:=Nat.mul_le_mul_right _ hi;have h4:(n+1)*K=n*K+K:=by rw[Nat.add_mul,Nat.one_mul]
 have h5:(i+1)*K=i*K+K:=by rw[Nat.add_mul,Nat.one_mul]
 have h6:(n+1 - i)*K=(n+1)*K - i*K:=by rw[Nat.sub_mul]
 have h7:(G - (n+1))*K=G*K - (n+1)*K:=by rw[Nat.sub_mul]
 have h8:(n+1)*K≤G*K:=Nat.mul_le_mul_right _ hG;have l0:r0.length=G*K:=by subst h0;simp only[List.length_append,List.length_take];omega
 have l1:r1.length=G*K:=by subst h1;simp only[List.length_append,List.length_take,List.length_drop];omega
 have e1:r1.take ((i+1)*K)=xs.take (i*K)++ys:=by
  subst h1;rw[List.take_append_of_le_length (by simp only[List.length_append,List.length_take];omega),List.take_of_length_le (by simp only[List.length_append,List.length_take];omega)]
  congr 1
  subst h0;rw[List.append_assoc,List.take_append_of_le_length (by rw[List.length_take];omega),List.take_take,Nat.min_self]
 refine⟨l0,l1,by simp only[List.length_append,List.length_take,List.length_drop];omega, ?_⟩;rw[e1];unfold jae;rw[List.take_append_of_le_length (by simp only[List.length_append,List.length_take,List.length_drop];omega),List.take_of_length_le (by simp only[List.length_append,List.length_take,List.length_drop];omega),List.append_assoc]
theorem jo8 (hx:cur.take (n*K)=xs) (hs:cur.length=cap*K) (hi:i<n) (hn:n≤cap) {z:List Value} (hz:z.length=K) {c1:List Value}
  (h1:c1=cur.take (i*K)++xs.drop ((i+1)*K)++cur.drop (i*K+(xs.drop ((i+1)*K)).length)):
  c1.length=cap*K∧(c1.take ((n - 1)*K)++z++c1.drop ((n - 1)*K+1*K)).length=cap*K∧(c1.take ((n - 1)*K)++z++c1.drop ((n - 1)*K+1*K)).take ((n - 1)*K)=jdw K i xs:=by
 have h3:(i+1)*K≤n*K:=Nat.mul_le_mul_right _ hi;have h5:(i+1)*K=i*K+K:=by rw[Nat.add_mul,Nat.one_mul]
 have h6:(n - 1)*K=n*K - K:=by rw[Nat.sub_mul,Nat.one_mul]
 have h8:n*K≤cap*K:=Nat.mul_le_mul_right _ hn;have hlx:xs.length=n*K:=by subst hx;rw[List.length_take];omega
 have l1:c1.length=cap*K:=by subst h1;simp only[List.length_append,List.length_take,List.length_drop];omega
 refine⟨l1,by simp only[List.length_append,List.length_take,List.length_drop];omega, ?_⟩;rw[List.append_assoc,List.take_append_of_le_length (by rw[List.length_take];omega),List.take_take,Nat.min_self];subst h1
 rw[List.take_append_of_le_length (by simp only[List.length_append,List.length_take,List.length_drop];omega),List.take_of_length_le (by simp only[List.length_append,List.length_take,List.length_drop];omega)];unfold jdw
 congr 1
 rw[←hx,List.take_take,Nat.min_eq_left (by omega)]
end
theorem V7 {w:World} {g:Nat} (cs:Array Value):w.grownBy (w.setRow g cs) (some g):=
 ⟨rfl,rfl,rfl,by simp,fun k _ hn=>setRow_other w g k cs (fun e=>hn (by rw[e]))⟩
theorem Vy {w w1 w2:World} {r:Option Nat} (h:w.grownBy w1 r) (k:w1.grownBy w2 r):w.grownBy w2 r:=
 ⟨k.os.trans h.os,k.tape.trans h.tape,k.output.trans h.output,Nat.le_trans h.size k.size,fun i hi hn=>(k.block i (Nat.lt_of_lt_of_le hi h.size) hn).trans (h.block i hi hn)⟩
theorem jao (w:World) (r:Option Nat):w.grownBy w.drew r:=⟨rfl,rfl,rfl,Nat.le_refl _,fun _ _ _=>rfl⟩
theorem Yr {w w':World} {v:Value} (h:w.grownBy w' v.ownBlock):Only (Vm v) w w':=
 ⟨h.os,h.tape,h.output,h.size,fun i hi hn=>h.block i hi fun e=>hn (by unfold Vm;rw[←e];simp)⟩
theorem jdi {w:World} {g:Nat} {t:TypeId} {cs:Array Value} (h:Blk w g t cs):w.shape? g=some (t,cs.size):=by
 unfold Blk at h;simp[World.shape?,h]
theorem jcg {w:World} {g:Nat} {t:TypeId} {cs:Array Value} (h:Blk w g t cs) (o:Nat):w.frozen? ⟨g,o,none⟩=false:=by
 unfold Blk at h;simp[World.frozen?,h]
theorem AllR.ins {α:Type} {r:Rp α} {w:World} {l:List α} {xs ys:List Value} {f g:List Nat} {y:α} {i:Nat} (h:AllR r w xs l f) (hi:i≤l.length) (hy:r.R w ys y g):
  ∃f',AllR r w (jae r.k i xs ys) (l.take i++y::l.drop i) f'∧f'.Perm (g++f):=by
 obtain⟨c0,c1,f0,f1,e1,e2,e3,e4,e5⟩:=h.cut i hi;subst e1;subst e2;refine⟨f0++(g++f1), ?_, ?_⟩
 ·have e:jae r.k i (c0++c1) ys=c0++(ys++c1):=by
   unfold jae;rw[←e3,List.take_left,List.drop_left]
  rw[e];exact e4.append ⟨ys,c1,g,f1,rfl,rfl,hy,e5⟩
 ·rw[←List.append_assoc,←List.append_assoc];exact(List.perm_append_comm).append_right f1
theorem AllR.del {α:Type} {r:Rp α} {w:World} {l:List α} {xs:List Value} {f:List Nat} {i:Nat} (h:AllR r w xs l f) (hi:i<l.length):
  ∃f',AllR r w (jdw r.k i xs) (l.eraseIdx i) f'∧f'.Sublist f:=by
 obtain⟨c0,c,c1,f0,g,f1,e1,e2,e3,e4,e5,e6⟩:=h.split hi;subst e1;subst e2;refine⟨f0++f1, ?_,(List.Sublist.refl f0).append (List.sublist_append_right g f1)⟩;have hl:=r.len e5;have e:jdw r.k i (c0++(c++c1))=c0++c1:=by
  unfold jdw;rw[←e3,List.take_left]
  congr 1
  rw[Nat.add_mul,Nat.one_mul,←e3,←List.append_assoc,show c0.length+r.k=(c0++c).length by rw[List.length_append,hl],List.drop_left]
 rw[e,List.eraseIdx_eq_take_drop_succ];exact e4.append e6
def inB (n lo hi:Int):Bool:=decide (lo≤n)&&decide (n≤hi)
def lowB (b:UInt8):Bool:=decide (97≤b.toNat)&&decide (b.toNat≤122)
def Y5 (s:ByteArray):Bool:=inB s.size 1 3&&s.data.toList.all lowB
def jcy (c:UInt8):List UInt8→List (List UInt8)
 | []=>[[]]
 |b::l=>if b=c then []::jcy c l else match jcy c l with
  | []=>[[b]]
  |x::xs=>(b::x)::xs
theorem jh3 (c:UInt8): ∀l,jcy c l≠ []
 | []=>by simp[jcy]
 |b::l=>by
  unfold jcy;split
  ·simp
  ·split<;>simp
theorem jjq (c b:UInt8): ∀(l:List UInt8) (o:List (List UInt8)) (x:List UInt8),jcy c l=o++ [x]→jcy c (l++ [b])=if b=c then o++ [x]++ [[]] else o++ [x++ [b]]
 | [],o,x,h=>by
  have:o= []∧x= []:=by
   cases o with
   |nil=>simpa [jcy,eq_comm] using h
   |cons a o=>simp[jcy] at h
  obtain⟨rfl,rfl⟩:=this;by_cases hb:b=c<;>simp[jcy,hb]
 |a::l,o,x,h=>by
  obtain⟨o',x',h'⟩: ∃o' x',jcy c l=o'++ [x']:=⟨_,_,(List.dropLast_concat_getLast (jh3 c l)).symm⟩;have ih:=jjq c b l o' x' h';rw[List.cons_append];unfold jcy at h ⊢;rw[ih];rw[h'] at h;by_cases ha:a=c
  ·rw[if_pos ha] at h ⊢;cases o with
   |nil=>simp at h
   |cons y o=>
    rw[List.cons_append,List.cons.injEq] at h;obtain⟨rfl,h2⟩:=h;obtain⟨rfl,h3⟩:=List.append_inj' h2 rfl;simp at h3;subst h3;split<;>simp
  ·rw[if_neg ha] at h ⊢;cases o' with
   |nil=>
    simp at h;obtain⟨rfl,rfl⟩:o= []∧x=a::x':=by
     cases o with
     |nil=>simpa [eq_comm] using h
     |cons y o=>simp at h
    by_cases hb:b=c<;>simp[hb]
   |cons y o'=>
    simp at h;cases o with
    |nil=>simp at h
    |cons z o=>
     rw[List.cons_append,List.cons.injEq] at h;obtain⟨rfl,h2⟩:=h;obtain⟨rfl,h3⟩:=List.append_inj' h2 rfl;simp at h3;subst h3;by_cases hb:b=c<;>simp[hb]
theorem jcd (c:UInt8): ∀l,((jcy c l).map List.length).sum+(jcy c l).length=l.length+1
 | []=>by simp[jcy]
 |b::l=>by
  have ih:=jcd c l;unfold jcy;split
  ·simp;omega
  ·split
   ·rename_i h;exact absurd h (jh3 c l)
   ·rename_i x xs h
    rw[h] at ih;simp at ih ⊢;omega
theorem ja3 (c b:UInt8) (l:List UInt8) (h:b≠c):Lib.index (b::l) [c]=if Lib.index l [c]== -1 then -1 else Lib.index l [c]+1:=by
 have hp:([c]:List UInt8).isPrefixOf (b::l)=false:=by simp[List.isPrefixOf,h.symm]
 rw[Lib.index,hp];simp
theorem jcx (c:UInt8): ∀l:List UInt8,l.count c≠0→∃j:Nat,Lib.index l [c]=j
 | [],h=>by simp at h
 |b::l,h=>by
  by_cases hb:b=c
  ·subst hb;exact⟨0,by rw[Lib.index];simp[List.isPrefixOf]⟩
  ·rw[List.count_cons_of_ne hb] at h;obtain⟨j,hj⟩:=jcx c l h;refine⟨j+1, ?_⟩;rw[ja3 c b l hb,hj,if_neg (by simp)];rfl
theorem jgp (c:UInt8): ∀(l:List UInt8),Lib.splitK [c] 0 (l.count c) l=jcy c l
 | []=>rfl
 |b::l=>by
  have ih:=jgp c l;by_cases hb:b=c
  ·subst hb;have hi:Lib.index (b::l) [b]=0:=by rw[Lib.index];simp[List.isPrefixOf]
   rw[List.count_cons_self,Lib.splitK,hi];simp[jcy,ih]
  ·rw[List.count_cons_of_ne hb];unfold jcy;rw[if_neg hb,←ih];cases hk:l.count c with
   |zero=>simp[Lib.splitK]
   |succ k=>
    obtain⟨j,hj⟩:=jcx c l (by omega);have hi:Lib.index (b::l) [c]=((j+1:Nat):Int):=by
     rw[ja3 c b l hb,hj,if_neg (by simp)];rfl
    have hn1: ¬(((j+1:Nat):Int)== -1)=true:=by simp;omega
    have hn2: ¬((j:Int)== -1)=true:=by simp
    rw[Lib.splitK,Lib.splitK,hi,hj,if_neg hn1,if_neg hn2];simp
def jf8 (c:UInt8) (s:ByteArray):List ByteArray:=(jcy c s.data.toList).map fun l=>⟨l.toArray⟩
theorem jnl (c:UInt8) (s:ByteArray):Lib.splitB ⟨#[c]⟩ 0 (Lib.countB s ⟨#[c]⟩) s=jf8 c s:=by
 have h:=Lib.splitB_data ⟨#[c]⟩ 0 (Lib.countB s ⟨#[c]⟩) s;have hc:Lib.countB s ⟨#[c]⟩=s.data.toList.count c:=Lib.count_one c _;rw[hc] at h ⊢;rw[show(⟨#[c]⟩:ByteArray).data.toList= [c] from rfl,jgp] at h;unfold jf8;rw[←h,List.map_map];exact(List.map_id' _).symm.trans (List.map_congr_left fun x _=>rfl)
theorem jlc (c:UInt8) (s:ByteArray):(jf8 c s).length≤s.size+1:=by
 have h:=jcd c s.data.toList;simp only[jf8,List.length_map];have:=Lib.size_eq s;omega
theorem jde: ∀ {l:List Nat} {x:Nat},x∈l→x≤l.sum
 | [],_,h=>by simp at h
 |y::l,x,h=>by
  rcases List.mem_cons.1 h with rfl|h
  ·simp
  ·have:=jde h;simp;omega
theorem jjr (c:UInt8) (s:ByteArray): ∀x∈jf8 c s,x.size≤s.size:=by
 intro x hx;simp only[jf8,List.mem_map] at hx;obtain⟨l,hl,rfl⟩:=hx;have h:=jcd c s.data.toList;have h2:l.length≤((jcy c s.data.toList).map List.length).sum:=jde (List.mem_map.2 ⟨l,hl,rfl⟩);have h3:0<(jcy c s.data.toList).length:=List.length_pos_of_mem hl;have h4:=Lib.size_eq s;have h5:(⟨l.toArray⟩:ByteArray).size=l.length:=Lib.size_eq _;omega
def Xm (s:ByteArray):Bool:=decide (s=ByteArray.empty)||((jf8 47 s).all Y5&&decide ((jf8 47 s).length≤3))
theorem jki:Xm ByteArray.empty=true:=by simp[Xm]
theorem jgo: ∀ {l:List Nat} {k:Nat},(∀x∈l,x≤k)→l.sum≤l.length*k
 | [],_,_=>by simp
 |y::l,k,h=>by
  have h1:=h y (by simp);have h2:=jgo (l:=l) (k:=k) (fun x hx=>h x (by simp[hx]));simp[Nat.add_mul];omega
theorem jd9 {s:ByteArray} (h:Y5 s=true):1≤s.size∧s.size≤3:=by
 simp[Y5,inB] at h;omega
theorem Zr {s:ByteArray} (h:Xm s=true):s.size≤11:=by
 unfold Xm at h;rcases Bool.or_eq_true_iff.1 h with h|h
 ·have:=of_decide_eq_true h;subst this;decide
 ·obtain⟨h1,h2⟩:=Bool.and_eq_true_iff.1 h;have h2:=of_decide_eq_true h2;have h3:((jcy 47 s.data.toList).map List.length).sum≤((jcy 47 s.data.toList).map List.length).length*3:=jgo fun x hx=>by
   obtain⟨l,hl,rfl⟩:=List.mem_map.1 hx;have h4:=jd9 (List.all_eq_true.1 h1 ⟨l.toArray⟩ (by unfold jf8;exact List.mem_map.2 ⟨l,hl,rfl⟩));have h5:(⟨l.toArray⟩:ByteArray).size=l.length:=Lib.size_eq _;omega
  have h6:=jcd 47 s.data.toList;have h7:=Lib.size_eq s;simp only[jf8,List.length_map] at h2 h3;omega
def jd4 {α:Type} (p:α→Bool) (l:List α):Int:=match l.findIdx? p with
 |some i=>i
 |none=> -1
def noneTo {α:Type} (p:α→Bool) (l:List α) (k:Nat):Prop:=∀i (h:i<l.length),i<k→p l[i]=false
section
variable {α:Type} {p:α→Bool} {l:List α} {k:Nat}
theorem Yh:noneTo p l 0:=fun i _ h=>by omega
theorem noneTo.next (h:noneTo p l k) (hk:k<l.length) (hp:p l[k]=false):noneTo p l (k+1):=fun i hi hlt=>by
 by_cases e:i=k
 ·subst e;exact hp
 ·exact h i hi (by omega)
theorem noneTo.hit (h:noneTo p l k) (hk:k<l.length) (hp:p l[k]=true):jd4 p l=k:=by
 unfold jd4;have:l.findIdx? p=some k:=List.findIdx?_eq_some_iff_getElem.2 ⟨hk,hp,fun j hj=>by simp[h j (by omega) hj]⟩;rw[this]
theorem noneTo.all_ (h:noneTo p l l.length):jd4 p l= -1:=by
 unfold jd4;have:l.findIdx? p=none:=List.findIdx?_eq_none_iff.2 fun x hx=>by
  obtain⟨i,hi,rfl⟩:=List.mem_iff_getElem.1 hx;exact h i hi hi
 rw[this]
theorem noneTo.any_ (h:noneTo p l l.length):l.any p=false:=by
 rw[List.any_eq_false];intro x hx;obtain⟨i,hi,rfl⟩:=List.mem_iff_getElem.1 hx;simp[h i hi hi]
theorem jda (hk:k<l.length) (hp:p l[k]=true):l.any p=true:=List.any_eq_true.2 ⟨_,List.getElem_mem hk,hp⟩
theorem jdq (p:α→Bool) (l:List α):decide (0≤jd4 p l)=l.any p:=by
 unfold jd4;cases h:l.findIdx? p with
 |none=>
  rw[List.findIdx?_eq_none_iff] at h;have:l.any p=false:=List.any_eq_false.2 fun x hx=>by simp[h x hx]
  rw[this];rfl
 |some i=>
  obtain⟨hi,hp,_⟩:=List.findIdx?_eq_some_iff_getElem.1 h;rw[jda hi hp];simp
end
def jd3 (n:Nat) (f:Nat→Bool):Bool:=(List.range n).all f
def oksTo (f:Nat→Bool) (k:Nat):Prop:=∀i,i<k→f i=true
section
variable {f:Nat→Bool} {k n:Nat}
theorem oksTo_zero:oksTo f 0:=fun i h=>by omega
theorem oksTo.next (h:oksTo f k) (hf:f k=true):oksTo f (k+1):=fun i hi=>by
 by_cases e:i=k
 ·subst e;exact hf
 ·exact h i (by omega)
theorem oksTo.not_ (hk:k<n) (hf:f k=false):jd3 n f=false:=by
 unfold jd3;rw[List.all_eq_false];exact⟨k,by simpa using hk,by simp[hf]⟩
theorem oksTo.all_ (h:oksTo f n):jd3 n f=true:=by
 unfold jd3;rw[List.all_eq_true];intro x hx;exact h x (by simpa using hx)
theorem Wq:jd3 n f=true↔oksTo f n:=⟨fun h i hi=>by
 unfold jd3 at h;rw[List.all_eq_true] at h;exact h i (by simpa using hi),oksTo.all_⟩
end
theorem jj9 {P:Program} {src dst e:TypeId} (hs:P.underlying src=some (.slice e)) (he:P.underlying e=some (.int .u8)) (hd:P.underlying dst=some .string) (n:Int) (w:World):
  (convert src dst (.slice (some ⟨w.heap.size,0,none⟩) 1 1)).run P (w.alloc (.cells #[.int .u8 n] e))= .ok (.string ⟨#[UInt8.ofNat n.toNat]⟩) (w.alloc (.cells #[.int .u8 n] e)):=by
 rw[run_convert_bytes_string _ src dst e _ _ _ hs he hd,run_bytesToString _ _ _ _ [n]]
 ·rfl
 ·exact run_loadCells_list (w:=w.alloc (.cells #[.int .u8 n] e)) ⟨w.heap.size,0,none⟩ [.int .u8 n] (fun j v hv=>by
   cases j with
   |zero=>exact(Blk.new w e #[.int .u8 n]).range 0 v hv
   |succ j=>simp at hv)
def BelowW (w:World):Type:= { w':World // Below w.heap.size w w'}
theorem BelowW.nonempty (w:World):Nonempty (BelowW w):=⟨⟨w,Below.refl _ _⟩⟩
theorem BelowW.ex {w:World} (n:BelowW w):(∃m:BelowW w,n.val=m.val)=True:=eq_true ⟨n,rfl⟩
theorem BelowW.cell {w:World} (n:BelowW w) {b o:Nat} {v:Value} (h:w.cell? ⟨b,o,none⟩=some v):n.val.cell? ⟨b,o,none⟩=some v:=
 (n.property.cell (p:=⟨b,o,none⟩) (World.block_lt_of_cell? w _ h)).trans h
theorem BelowW.sl {α:Type} {r:Rp α} {w:World} {A:Option Addr} {n c:Nat} {l:List α} {fp:List Nat} (m:BelowW w) (h:SlR r w A n c l fp):SlR r m.val A n c l fp:=h.step m.property
theorem BelowW.calls {P:Program} {f:FuncId} {args:Array Value} {w:World} {v:Value} (n:BelowW w)
  (h:Calls P f args n.val fun e w'=>e= .returned v∧Below n.val.heap.size n.val w'):Calls P f args n.val fun e w''=>e= .returned v∧∃m:BelowW w,w''=m.val:=
 h.mono fun _ w' ⟨he,hb⟩=>⟨he,⟨w',Below.t n.property hb⟩,rfl⟩
theorem Jf {P:Program} {id:Nat} {Q:Exit→Act→World→Prop} {a:Act} {w:World} {l:List Oper} (hm:P.follows .mixedOrders=true) (hB:Region.lexB .any l.toArray=true)
  (h:wpQuiet P l.toArray (fun w'=>∃n:BelowW w,w'=n.val) (fun a'=>∀w',(∃n:BelowW w,w'=n.val)→Q .normal a' w') l a):(Code.region id l.toArray true).wp P Q a w:=
 wp_region_quiet (C:=fun w'=>∃n:BelowW w,w'=n.val) hm hB ⟨⟨w.drew,(Below.refl _ _).drew⟩,rfl⟩ (by simpa using h)
theorem bwc{w:World}{b o:Nat}{v:Value}(h:w.cell? ⟨b,o,none⟩=some v):∀n:BelowW w,n.val.cell? ⟨b,o,none⟩=some v:=fun n=>n.cell h
theorem Xw {α:Type} {k:Nat} {enc:α→List Value} {hk: ∀x,(enc x).length=k} {h1: ∀x,∀u∈enc x,u.oneCell'=true} {w:World} {base:Nat} {e:TypeId} {v:Value} {l:List α} (h:w.ownsRow base e k v l.length (l.flatMap enc)):
  ∃A c f,v= .slice A l.length c∧SlR (Rp.flat k enc hk h1) w A l.length c l f∧(∀b∈f,base≤b)∧f.Nodup∧Free w f:=by
 obtain⟨A,c,f0,hv,hs,h0,hn,hf⟩:=SlR.of_owns (r:=Rp.flat k enc hk h1) (f1:=[]) h (AllR.flat.2 ⟨rfl,rfl⟩);rw[List.append_nil] at hs;exact⟨A,c,f0,hv,hs,fun b hb=>(h0 b hb).2,hn,hf⟩
theorem own_str {w:World} {base:Nat} {e:TypeId} {v:Value} {l:List ByteArray} (h:w.ownsRow base e 1 v l.length (l.flatMap fun s=>[.string s])): ∃A c f,v= .slice A l.length c∧SlR Rp.str w A l.length c l f:=by
 obtain⟨A,c,f,h1,h2,_⟩:=Xw (k:=1) (enc:=fun s=>[Value.string s]) (hk:=fun _=>rfl) (h1:=fun x u hu=>by simp at hu;subst hu;rfl) h;exact⟨A,c,f,h1,h2⟩
theorem Blk.grown {w w1:World} {g:Nat} {t:TypeId} {cs:Array Value} {row:Option Nat} (h:Blk w g t cs) (hg:w.grownBy w1 row) (hn: ∀k,row=some k→k≠g):Blk w1 g t cs:=
 (hg.block g h.lt fun e=>hn g e.symm rfl).trans h
end Go.Proofs.YtobbdhgkcoeifaaGreatDoor
