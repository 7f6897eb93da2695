/- FnMdlHidden: for every input the law answers true and leaves its arguments as they were. Conditions: the listed library tables read as the tie says. -/
import Derived.Laws.IdiomStrings
import Derived.ProofKit
import Derived.Deep.Slices
import Derived.Deep.Fields
import Derived.WalkKit
import Derived.OpenShut
import Derived.ChangeMaps5
import Derived.Deep.DeepHandedRow
import Derived.Lib.LaidTab
import Derived.SevenTiedAt
import Derived.Test.YtobbdhgkcoeifaaGreatDoorB1
import Derived.Test.YtobbdhgkcoeifaaGreatDoorB23
import Derived.Test.YtobbdhgkcoeifaaGreatDoorB21
import Derived.Test.YtobbdhgkcoeifaaGreatDoorB17
import Derived.Test.YtobbdhgkcoeifaaGreatDoorB3
import Derived.Test.YtobbdhgkcoeifaaGreatDoorB24
import Derived.Test.YtobbdhgkcoeifaaGreatDoorB5
import Derived.Test.YtobbdhgkcoeifaaGreatDoorB15
import Derived.Test.YtobbdhgkcoeifaaGreatDoorB4
import Derived.Test.YtobbdhgkcoeifaaGreatDoorB13
import Derived.Test.YtobbdhgkcoeifaaGreatDoorB6
import Derived.Test.YtobbdhgkcoeifaaGreatDoorB7
import Derived.Test.YtobbdhgkcoeifaaGreatDoorB20
import Derived.Test.YtobbdhgkcoeifaaGreatDoorCards
import Derived.Test.YtobbdhgkcoeifaaGreatDoorTie
namespace Go.Proofs.YtobbdhgkcoeifaaGreatDoor
open Go.RowKit
attribute [local go_sem ↓] Go.wp_at_zero Go.wp_at_succ
open Go Go.RowKit
open Go.ChangeShapes Go.WideShapes Go.ChangeAt Go.RowKit Go.Deep
set_option maxHeartbeats 8000000
set_option maxRecDepth 100000
set_option linter.unusedSimpArgs false
set_option linter.unusedVariables false
theorem vblk_nodup (v:Value):(Vm v).Nodup:=by
 unfold Vm;cases v.ownBlock<;>simp
section
variable {w w':World} {g:Nat} {m:Jl} {q:Req} {a:Ans} {K U R E F N:Value}
end
section
variable {P:Program} {s:Code} {Q:Exit→Act→World→Prop} {b:Act} {w:World} {m:Jl} {q:Req} {a:Ans} {K U R E F N:Value}
end
section
variable {w0 W W':World} {m:Jl} {q q':Req} {K U R E E':Value}
end
section
variable {w w':World} {g lo:Nat} {m:Jl} {K U R:Value}
end
theorem chFiles_same {w:World} {A B:Option Addr} {n c m d:Nat} {x:List File} {fx fy:List Nat} (hx:SlR Rp.file w A n c x fx) (hy:SlR Rp.file w B m d x fy):
  Calls Tryz.prog 21 #[.slice A n c,.slice B m d] w fun e w'=>e= .returned (.bool true)∧Below w.heap.size w w':=
 (jgb w hx hy).mono fun _ _ ⟨h1,h2⟩=>⟨by rw[h1];simp,h2⟩
theorem manage_same {p:Xq} {r:Req} (h:(manage p r).2≠1):(manage p r).1=p:=by
 have:(manage p r).1=p∨(manage p r).2=1:=by
  unfold manage
  repeat' split
  all_goals first|exact .inl rfl|exact .inr rfl
 exact this.resolve_right h
theorem write_same {m:Jl} {p:Xq} {r:Req} (h:(write m p r).2≠1):(write m p r).1=m:=by
 have:(write m p r).1=m∨(write m p r).2=1:=by
  unfold write
  repeat' split
  all_goals first|exact .inl rfl|exact .inr rfl
 exact this.resolve_right h
theorem set_self {α:Type} {l:List α} {i:Nat} {a:α} (h:l[i]? =some a):l.set i a=l:=by
 obtain⟨hi,rfl⟩:=List.getElem?_eq_some_iff.1 h;exact List.set_getElem_self hi
theorem refused {m:Jl} {r:Req} (h:(Zn m r).2.code≠1∨r.kind=2∨r.kind=3∨r.kind=11):(Zn m r).1=m:=by
 unfold Zn at h ⊢;split
 ·split
  ·rfl
  ·split
   ·rfl
   ·rename_i p hp
    split
    ·rfl
    ·split
     ·rfl
     ·rename_i n1 n2 n3
      split
      ·rename_i hw
       refine write_same ?_;rcases h with h|h|h|h
       ·simpa [*,code] using h
       all_goals simp_all
      ·split
       ·rfl
       ·rename_i hk
        have:(manage p r).1=p:=by
         refine manage_same ?_;rcases h with h|h|h|h
         ·simpa [*,code] using h
         all_goals simp_all
        rw[this];simp[set_self hp]
 ·rfl
structure Laid (m:Jl) (r:Req) (p:Xq) (k:Nat):Prop where
 knows:knows m.keys r.user r.key=true
 writes:Vs r=true
 repo:m.Rz[r.repo.toNat]? =some p
 ref:Y7 p.Fz r.ref=some k
 may:Yi m p r=true
 old:(p.Fz.getD k Y8).count=r.old
 more:(p.Fz.getD k Y8).count≠14
 new:(newest m (p.Fz.getD k Y8) r).2=1
 used:m.used.getD (r.user - 1).toNat 0+Yg r.Ez≤200
 eq:Zn m r=(jpm m p k r (newest m (p.Fz.getD k Y8) r).1,code 1)
structure Managed1 (m:Jl) (r:Req) (p:Xq):Prop where
 knows:knows m.keys r.user r.key=true
 writes:Vs r=false
 kind:r.kind≠2∧r.kind≠3∧r.kind≠11
 repo:m.Rz[r.repo.toNat]? =some p
 Az:r.user=p.Az
 done:(manage p r).2=1
 eq:Zn m r=({ m with Rz:=m.Rz.set r.repo.toNat (manage p r).1},code 1)
theorem write_ways (m:Jl) (p:Xq) (r:Req):((write m p r).1=m∧(write m p r).2≠1)∨∃k,Y7 p.Fz r.ref=some k∧Yi m p r=true∧(p.Fz.getD k Y8).count=r.old∧(p.Fz.getD k Y8).count≠14∧(newest m (p.Fz.getD k Y8) r).2=1∧m.used.getD (r.user - 1).toNat 0+Yg r.Ez≤200∧write m p r=(jpm m p k r (newest m (p.Fz.getD k Y8) r).1,1):=by
 unfold write;split
 ·rename_i hm
  split
  ·exact .inl ⟨rfl,by simp⟩
  ·rename_i k hk
   split
   ·exact .inl ⟨rfl,by simp⟩
   ·rename_i h1
    split
    ·exact .inl ⟨rfl,by simp⟩
    ·rename_i h2
     split
     ·rename_i h3
      exact .inl ⟨rfl,h3⟩
     ·rename_i h3
      split
      ·exact .inl ⟨rfl,by simp⟩
      ·rename_i h4
       exact .inr ⟨k,hk,hm,Classical.not_not.1 h1,h2,Classical.not_not.1 h3,by omega,rfl⟩
 ·exact .inl ⟨rfl,by simp⟩
theorem doIt_none {m:Jl} {r:Req} (hp:m.Rz[r.repo.toNat]? =none) (hk:knows m.keys r.user r.key=true) (h11:r.kind≠11):Zn m r=(m,code 3):=by
 unfold Zn;rw[if_pos hk,if_neg h11,hp]
theorem doIt_writes {m:Jl} {r:Req} {p:Xq} (hk:knows m.keys r.user r.key=true) (hp:m.Rz[r.repo.toNat]? =some p) (hw:Vs r=true):Zn m r=((write m p r).1,code (write m p r).2):=by
 have h:r.kind=1∨r.kind=9∨r.kind=10:=by simpa [Vs,or_assoc] using hw
 unfold Zn;rw[if_pos hk,if_neg (by omega),hp];simp only[hw];rw[if_neg (by omega),if_neg (by omega)];rfl
theorem doIt_rest {m:Jl} {r:Req} {p:Xq} (hk:knows m.keys r.user r.key=true) (hp:m.Rz[r.repo.toNat]? =some p) (hw:Vs r=false) (h:r.kind≠2∧r.kind≠3∧r.kind≠11):
  Zn m r=if r.user≠p.Az then(m,code 4) else({ m with Rz:=m.Rz.set r.repo.toNat (manage p r).1},code (manage p r).2):=by
 unfold Zn;rw[if_pos hk,if_neg h.2.2,hp];simp only[hw];rw[if_neg h.1,if_neg h.2.1];rfl
theorem doIt_ways (m:Jl) (r:Req):((Zn m r).1=m∧((Zn m r).2.code=1→r.kind=2∨r.kind=3∨r.kind=11))∨(∃p k,Laid m r p k)∨∃p,Managed1 m r p:=by
 by_cases ht:r.kind=2∨r.kind=3∨r.kind=11
 ·exact .inl ⟨refused (.inr ht),fun _=>ht⟩
 ·by_cases hk:knows m.keys r.user r.key=true
  ·cases hp:m.Rz[r.repo.toNat]? with
   |none=>left;rw[doIt_none hp hk (by omega)];exact⟨rfl,fun h=>by simp[code] at h⟩
   |some p=>
    cases hw:Vs r
    ·have he:=doIt_rest hk hp hw (by omega);by_cases ha:r.user=p.Az
     ·rw[if_neg (by simpa using ha)] at he;by_cases hd:(manage p r).2=1
      ·exact .inr (.inr ⟨p,hk,hw,by omega,hp,ha,hd,by rw[he,hd]⟩)
      ·left;rw[he,manage_same hd];exact⟨by simp[set_self hp],fun h=>absurd h hd⟩
     ·rw[if_pos (by simpa using ha)] at he;left;rw[he];exact⟨rfl,fun h=>by simp[code] at h⟩
    ·have he:=doIt_writes hk hp hw;rcases write_ways m p r with ⟨h,h'⟩|⟨k,a,b,c,d,e,f,g⟩
     ·left;rw[he];exact⟨h,fun h=>absurd h h'⟩
     ·exact .inr (.inl ⟨p,k,hk,hw,hp,a,b,c,d,e,f,by rw[he,g]⟩)
  ·left;unfold Zn;rw[if_neg hk];exact⟨rfl,fun h=>by simp[code] at h⟩
theorem repos_length (m:Jl) (r:Req):(Zn m r).1.Rz.length=m.Rz.length:=by
 rcases doIt_ways m r with ⟨h, -⟩|⟨p,k,h⟩|⟨p,h⟩
 ·rw[h]
 ·rw[h.eq];simp[jpm]
 ·rw[h.eq];simp
theorem may_under {Uz:List Yt} {user:Int} {ref path:ByteArray} {write:Bool} (hp:Xm path=true) (h:Yz Uz user ref ByteArray.empty write=true):Yz Uz user ref path write=true:=by
 unfold Yz at*;rw[List.any_eq_true] at*;obtain⟨r,hr,h⟩:=h;refine⟨r,hr, ?_⟩;unfold jm0 at*;simp only[Bool.and_eq_true] at h ⊢;obtain⟨⟨h1,h2⟩,h3⟩:=h;refine⟨⟨h1, ?_⟩,h3⟩;have hrp:Xm r.path=true:=by unfold Jq at h2;simp only[Bool.and_eq_true] at h2;exact h2.1.1
 rcases(jid hrp jki).1 h2 with h|h|⟨t,ht⟩
 ·exact(jid hrp hp).2 (.inl h)
 ·exact(jid hrp hp).2 (.inl h)
 ·have:=congrArg List.length ht;rw[List.length_append,List.length_cons] at this;have h0:ByteArray.empty.data.toList.length=0:=rfl;omega
theorem treOk_path {l:List File} (h:Y1 l=true) {f:File} (hf:f∈l):Xm f.path=true:=by
 have:=(Yo.1 h).2.1 f hf;simp only[Y3,Bool.and_eq_true] at this;exact this.1.1
theorem repo_of {m:Jl} (hm:Ys m=true) {i:Nat} {p:Xq} (hp:m.Rz[i]? =some p):repoOk m.keys.length p=true:=(Jo.1 hm).2.2 p (List.mem_of_getElem? hp)
def zeroB (n:Nat):ByteArray:=⟨Array.replicate n 0⟩
theorem zeroB_size (n:Nat):(zeroB n).size=n:=Array.size_replicate
theorem map_erase {α β:Type} (f:α→β): ∀(l:List α) (k:Nat),(l.eraseIdx k).map f=(l.map f).eraseIdx k
 | [],_=>rfl
 |_::_,0=>rfl
 |x::l,k+1=>by rw[List.eraseIdx_cons_succ,List.map_cons,List.map_cons,List.eraseIdx_cons_succ,map_erase f l k]
def hid (may:ByteArray→Bool) (f:File):File:=if may f.path then f else⟨f.path,zeroB f.bytes.size⟩
def hidL (may:ByteArray→Bool) (l:List File):List File:=l.map (hid may)
section
variable {may:ByteArray→Bool} {l l':List File}
theorem hid_path (f:File):(hid may f).path=f.path:=by unfold hid;split<;>rfl
theorem hid_size (f:File):(hid may f).bytes.size=f.bytes.size:=by
 unfold hid;split
 ·rfl
 ·exact zeroB_size _
theorem hid_yes {f:File} (h:may f.path=true):hid may f=f:=if_pos h
theorem hid_paths (h:hidL may l=hidL may l'):l.map File.path=l'.map File.path:=by
 have:=congrArg (List.map File.path) h;have e: ∀l,(hidL may l).map File.path=l.map File.path:=fun l=>by
  unfold hidL;rw[List.map_map];exact List.map_congr_left fun f _=>hid_path f
 rwa [e,e] at this
theorem fileIdx_hid (h:hidL may l=hidL may l') (p:ByteArray):jbj l p=jbj l' p:=by
 have e: ∀l:List File,jbj l p=(l.map File.path).findIdx? (fun x=>decide (x=p)):=fun l=>by
  unfold jbj;rw[List.findIdx?_map];rfl
 rw[e,e,hid_paths h]
theorem treOk_hidL (l:List File):Y1 (hidL may l)=Y1 l:=by
 have e:Y3∘hid may=Y3:=funext fun f=>by
  show Y3 (hid may f)=Y3 f;unfold Y3;rw[hid_path,hid_size]
 unfold Y1 hidL;rw[List.length_map,List.all_map,e]
 congr 1
 refine decide_eq_decide.2 ?_;rw[List.pairwise_map];simp only[jdv,hid_path]
theorem treOk_hid (h:hidL may l=hidL may l'):Y1 l=Y1 l':=by rw[←treOk_hidL (may:=may) l,h,treOk_hidL]
theorem insBy_hid {p:ByteArray} {x:File} (l:List File):hidL may (Zm (fun g=>bLt g.path p) x l)=Zm (fun g=>bLt g.path p) (hid may x) (hidL may l):=by
 have e:((fun g:File=>bLt g.path p)∘hid may)=fun g=>bLt g.path p:=funext fun g=>by
  show bLt (hid may g).path p=_;rw[hid_path]
 unfold Zm hidL;rw[List.takeWhile_map,List.dropWhile_map,e,List.map_append,List.map_cons]
theorem turn1_hid (h:hidL may l=hidL may l') (e:Wz):(Zf l e).map (hidL may)=(Zf l' e).map (hidL may):=by
 unfold Zf;rw[fileIdx_hid h];cases jbj l' e.path with
 |none=>
  simp only;split
  ·rfl
  ·rw[Option.map_some,Option.map_some,insBy_hid,insBy_hid,h]
 |some k=>
  simp only;split
  ·split
   ·have e: ∀l,hidL may (l.eraseIdx k)=(hidL may l).eraseIdx k:=fun l=>by unfold hidL;rw[map_erase]
    rw[Option.map_some,Option.map_some,e,e,h]
   ·rfl
  ·have e: ∀l x,hidL may (l.set k x)=(hidL may l).set k (hid may x):=fun l x=>by unfold hidL;rw[List.map_set]
   rw[Option.map_some,Option.map_some,e,e,h]
theorem turnAll_hid: ∀(es:List Wz) {l l':List File},hidL may l=hidL may l'→(Z9 l es).map (hidL may)=(Z9 l' es).map (hidL may)
 | [],l,l',h=>by
  unfold Z9;rw[Option.map_some,Option.map_some,h]
 |e::es,l,l',h=>by
  have h1:=turn1_hid h e;unfold Z9;cases e1:Zf l e<;>cases e2:Zf l' e<;>rw[e1,e2] at h1
  ·simp at h1
  ·simp at h1
  ·rw[Option.map_some,Option.map_some,Option.some.injEq] at h1;exact turnAll_hid es h1
theorem treTurn_hid (h:hidL may l=hidL may l') (es:List Wz):(Yu l es).map (hidL may)=(Yu l' es).map (hidL may):=by
 have h1:=turnAll_hid es h;unfold Yu;rw[treOk_hid h];split
 ·cases e1:Z9 l es<;>cases e2:Z9 l' es<;>rw[e1,e2] at h1
  ·simp at h1
  ·simp at h1
  ·rw[Option.map_some,Option.map_some,Option.some.injEq] at h1;simp only;rw[treOk_hid h1];split
   ·rw[Option.map_some,Option.map_some,h1]
   ·rfl
 ·rfl
theorem version_hid {vs vs':List (List File)} (h:vs.map (hidL may)=vs'.map (hidL may)) (b:Int):(version vs b).map (hidL may)=(version vs' b).map (hidL may):=by
 have hl:vs.length=vs'.length:=by have:=congrArg List.length h;simpa using this
 unfold version;rw[hl];split
 ·rw[←List.getElem?_map,←List.getElem?_map,h]
 ·rfl
end
def mayRead (Uz:List Yt) (user:Int) (ref path:ByteArray):Bool:=Yz Uz user ref path false
theorem readable_hid {Uz:List Yt} {user:Int} {ref:ByteArray} {l l':List File} (h:hidL (mayRead Uz user ref) l=hidL (mayRead Uz user ref) l'):readable Uz user ref l=readable Uz user ref l':=by
 have e: ∀l,readable Uz user ref (hidL (mayRead Uz user ref) l)=readable Uz user ref l:=fun l=>by
  induction l with
  |nil=>rfl
  |cons f l ih=>
   unfold readable hidL at ih ⊢;rw[List.map_cons,List.filter_cons,List.filter_cons,ih,hid_path];by_cases hm:Yz Uz user ref f.path false=true
   ·rw[if_pos hm,if_pos hm,hid_yes hm]
   ·rw[if_neg hm,if_neg hm]
 rw[←e l,h,e]
theorem under_hid {may:ByteArray→Bool} {l l':List File} (h:hidL may l=hidL may l') (p:ByteArray):hidL may (Yq l p)=hidL may (Yq l' p):=by
 have e: ∀l,hidL may (Yq l p)=Yq (hidL may l) p:=fun l=>by
  unfold hidL Yq;rw[List.filter_map]
  congr 1
  exact List.filter_congr fun f _=>by show _=Jq p (hid may f).path;rw[hid_path]
 rw[e,e,h]
def hidR (Uz:List Yt) (user:Int) (x:Ref):Ref:= { x with Vz:=x.Vz.map (hidL (mayRead Uz user x.name))}
def hidP (user:Int) (p:Xq):Xq:= { p with Fz:=p.Fz.map (hidR p.Uz user)}
structure RefSim (Uz:List Yt) (user:Int) (x x':Ref):Prop where
 name:x.name=x'.name
 guard:x.guard=x'.guard
 count:x.count=x'.count
 Vz:x.Vz.map (hidL (mayRead Uz user x.name))=x'.Vz.map (hidL (mayRead Uz user x.name))
theorem refSim_iff {Uz:List Yt} {user:Int} {x x':Ref} :hidR Uz user x=hidR Uz user x'↔RefSim Uz user x x':=by
 constructor
 ·intro h;obtain⟨a,b,c,d⟩:=x;obtain⟨a',b',c',d'⟩:=x';unfold hidR at h;simp only[Ref.mk.injEq] at h;obtain⟨rfl,rfl,rfl,h⟩:=h;exact⟨rfl,rfl,rfl,h⟩
 ·rintro⟨h1,h2,h3,h4⟩;obtain⟨a,b,c,d⟩:=x;obtain⟨a',b',c',d'⟩:=x';simp only at h1 h2 h3 h4;subst h1 h2 h3;unfold hidR;simp only[h4]
structure RepoSim (user:Int) (p p':Xq):Prop where
 Az:p.Az=p'.Az
 Uz:p.Uz=p'.Uz
 Fz:p.Fz.map (hidR p.Uz user)=p'.Fz.map (hidR p.Uz user)
theorem repoSim_iff {user:Int} {p p':Xq} :hidP user p=hidP user p'↔RepoSim user p p':=by
 constructor
 ·intro h;obtain⟨a,b,c⟩:=p;obtain⟨a',b',c'⟩:=p';unfold hidP at h;simp only[Xq.mk.injEq] at h;obtain⟨rfl,rfl,h⟩:=h;exact⟨rfl,rfl,h⟩
 ·rintro⟨h1,h2,h3⟩;obtain⟨a,b,c⟩:=p;obtain⟨a',b',c'⟩:=p';simp only at h1 h2 h3;subst h1 h2;unfold hidP;simp only[h3]
section
variable {user:Int} {p p':Xq}
theorem RepoSim.names (h:RepoSim user p p'):p.Fz.map Ref.name=p'.Fz.map Ref.name:=by
 have:=congrArg (List.map Ref.name) h.Fz;rw[List.map_map,List.map_map] at this;exact this
theorem RepoSim.idx (h:RepoSim user p p') (n:ByteArray):Y7 p.Fz n=Y7 p'.Fz n:=by
 have e: ∀l:List Ref,Y7 l n=(l.map Ref.name).findIdx? (fun x=>decide (x=n)):=fun l=>by
  unfold Y7;rw[List.findIdx?_map];rfl
 rw[e,e,h.names]
theorem RepoSim.len (h:RepoSim user p p'):p.Fz.length=p'.Fz.length:=by
 have:=congrArg List.length h.names;simpa using this
theorem RepoSim.at (h:RepoSim user p p') (k:Nat):RefSim p.Uz user (p.Fz.getD k Y8) (p'.Fz.getD k Y8):=by
 refine refSim_iff.1 ?_;have e: ∀l:List Ref,hidR p.Uz user (l.getD k Y8)=(l.map (hidR p.Uz user)).getD k (hidR p.Uz user Y8):=fun l=>by
  rw[List.getD_eq_getElem?_getD,List.getD_eq_getElem?_getD,List.getElem?_map,Option.getD_map]
 rw[e,e,h.Fz]
theorem RepoSim.with_refs (h:RepoSim user p p') {l l':List Ref} (hl:l.map (hidR p.Uz user)=l'.map (hidR p.Uz user)):RepoSim user { p with Fz:=l} { p' with Fz:=l'} :=⟨h.Az,h.Uz,hl⟩
theorem RefSim.ok {Uz:List Yt} {x x':Ref} (h:RefSim Uz user x x'):Xv x=Xv x':=by
 have hl:x.Vz.length=x'.Vz.length:=by have:=congrArg List.length h.Vz;simpa using this
 have e: ∀vs:List (List File),vs.all Y1=(vs.map (hidL (mayRead Uz user x.name))).all Y1:=fun vs=>by
  rw[List.all_map]
  congr 1
  exact funext fun l=>(treOk_hidL l).symm
 unfold Xv;rw[h.count,hl,e,h.Vz,←e]
theorem RepoSim.ok (h:RepoSim user p p') (u:Int):repoOk u p=repoOk u p':=by
 have e: ∀l:List Ref,l.all Xv=(l.map (hidR p.Uz user)).all Xv:=fun l=>by
  rw[List.all_map]
  congr 1
  refine funext fun x=>RefSim.ok (Uz:=p.Uz) (user:=user) (refSim_iff.1 ?_);show hidR p.Uz user x=hidR p.Uz user (hidR p.Uz user x);have hh: ∀(may:ByteArray→Bool) (f:File),hid may (hid may f)=hid may f:=fun may f=>by
   unfold hid;by_cases hm:may f.path=true
   ·rw[if_pos hm,if_pos hm]
   ·rw[if_neg hm,if_neg hm];simp only[zeroB_size]
  unfold hidR;simp only[Ref.mk.injEq,true_and];rw[List.map_map];refine List.map_congr_left fun l _=> ?_;show _=hidL _ (hidL _ l);unfold hidL;rw[List.map_map];exact List.map_congr_left fun f _=>(hh _ f).symm
 unfold repoOk;rw[h.names,h.Az,h.Uz.symm,h.len,e,h.Fz,←e]
end
structure HouseSim (user:Int) (m m':Jl):Prop where
 keys:m.keys=m'.keys
 used:m.used=m'.used
 Rz:m.Rz.map (hidP user)=m'.Rz.map (hidP user)
section
variable {user:Int} {m m':Jl}
theorem HouseSim.at (h:HouseSim user m m') (i:Nat):(m.Rz[i]? =none∧m'.Rz[i]? =none)∨∃p p',m.Rz[i]? =some p∧m'.Rz[i]? =some p'∧RepoSim user p p':=by
 have e:(m.Rz[i]?).map (hidP user)=(m'.Rz[i]?).map (hidP user):=by rw[←List.getElem?_map,←List.getElem?_map,h.Rz]
 cases e1:m.Rz[i]?<;>cases e2:m'.Rz[i]?<;>rw[e1,e2] at e
 ·exact .inl ⟨rfl,rfl⟩
 ·simp at e
 ·simp at e
 ·rw[Option.map_some,Option.map_some,Option.some.injEq] at e;exact .inr ⟨_,_,rfl,rfl,repoSim_iff.1 e⟩
theorem HouseSim.ok (h:HouseSim user m m') (hm:Ys m=true):Ys m'=true:=by
 obtain⟨h1,h2,h3⟩:=Jo.1 hm;have hl:m.Rz.length=m'.Rz.length:=by have:=congrArg List.length h.Rz;simpa using this
 refine Jo.2 ⟨by rw[←h.keys,←h.used];exact h1,by rw[←hl];exact h2,fun p' hp'=> ?_⟩;obtain⟨i,hi,rfl⟩:=List.mem_iff_getElem.1 hp';rcases h.at i with ⟨-,h0⟩|⟨p,q,hp,hq,hs⟩
 ·rw[List.getElem?_eq_getElem hi] at h0;cases h0
 ·rw[List.getElem?_eq_getElem hi,Option.some.injEq] at hq;subst hq;rw[←h.keys,←hs.ok];exact h3 p (List.mem_of_getElem? hp)
theorem look_sim {p p':Xq} {r:Req} (h:RepoSim r.user p p'):look p r=look p' r:=by
 unfold look;rw[←h.Uz,←h.idx];split
 ·cases hx:Y7 p.Fz r.ref with
  |none=>rfl
  |some k=>
   simp only;have hs:=h.at k;have hn:(p.Fz.getD k Y8).name=r.ref:=by
    obtain⟨hk,he⟩:=je8 (key:=Ref.name) hx;rw[J4 hk];exact he
   have hv:=version_hid hs.Vz r.back;rw[hn] at hv;cases e1:version (p.Fz.getD k Y8).Vz r.back<;>cases e2:version (p'.Fz.getD k Y8).Vz r.back<;>rw[e1,e2] at hv
   ·simp at hv
   ·simp at hv
   ·rw[Option.map_some,Option.map_some,Option.some.injEq] at hv;simp only;rw[readable_hid (under_hid hv r.path),hs.count]
 ·rfl
theorem may_sim {p p':Xq} {r:Req} (h:HouseSim r.user m m') (hp:RepoSim r.user p p'):Yi m p r=Yi m' p' r:=by
 unfold Yi;rw[←hp.Uz];rcases h.at r.frm.toNat with ⟨h1,h2⟩|⟨q,q',h1,h2,hs⟩
 ·rw[h1,h2]
 ·rw[h1,h2];simp only;rw[←hs.Uz]
theorem filesOf_sim {repo back:Int} {name:ByteArray} (h:HouseSim user m m') (hm:Ys m=true) {q:Xq} (hq:m.Rz[repo.toNat]? =some q) (hr:Yz q.Uz user name ByteArray.empty false=true):Xn m repo name back=Xn m' repo name back:=by
 have hm':=h.ok hm;have hid_all: ∀ {l:List File},Y1 l=true→hidL (mayRead q.Uz user name) l=l:=fun {l} hl=>by
  unfold hidL
  conv=>rhs;rw[←List.map_id l]
  exact List.map_congr_left fun f hf=>hid_yes (may_under (treOk_path hl hf) hr)
 have hv:(Xn m repo name back).map (hidL (mayRead q.Uz user name))=(Xn m' repo name back).map (hidL (mayRead q.Uz user name)):=by
  unfold Xn;split
  ·rcases h.at repo.toNat with ⟨h1,h2⟩|⟨p,p',h1,h2,hs⟩
   ·rw[h1] at hq;cases hq
   ·rw[h1,Option.some.injEq] at hq;subst hq;rw[h1,h2];simp only;rw[←hs.idx];cases hx:Y7 p.Fz name with
    |none=>rfl
    |some k=>
     simp only;have hk:=hs.at k;have hn:(p.Fz.getD k Y8).name=name:=by
      obtain⟨hk,he⟩:=je8 (key:=Ref.name) hx;rw[J4 hk];exact he
     have:=version_hid hk.Vz back;rwa [hn] at this
  ·rfl
 cases e1:Xn m repo name back<;>cases e2:Xn m' repo name back<;>rw[e1,e2] at hv
 ·simp at hv
 ·simp at hv
 ·rw[Option.map_some,Option.map_some,Option.some.injEq,hid_all (jg3 hm e1),hid_all (jg3 hm' e2)] at hv;rw[hv]
theorem newest_sim {p p':Xq} {x x':Ref} {r:Req} (h:HouseSim r.user m m') (hm:Ys m=true) (hp:RepoSim r.user p p') (hx:RefSim p.Uz r.user x x') (hmay:Yi m p r=true) (hk:r.kind=1∨r.kind=9∨r.kind=10):
  (newest m x r).2=(newest m' x' r).2∧hidL (mayRead p.Uz r.user x.name) (newest m x r).1=hidL (mayRead p.Uz r.user x.name) (newest m' x' r).1:=by
 unfold newest;split
 ·have hv:=version_hid hx.Vz 0;cases e1:version x.Vz 0<;>cases e2:version x'.Vz 0<;>rw[e1,e2] at hv
  ·exact⟨rfl,rfl⟩
  ·simp at hv
  ·simp at hv
  ·rw[Option.map_some,Option.map_some,Option.some.injEq] at hv;simp only;have ht:=treTurn_hid hv r.Ez
   rename_i l l'
   cases e3:Yu l r.Ez<;>cases e4:Yu l' r.Ez<;>rw[e3,e4] at ht
   ·exact⟨rfl,rfl⟩
   ·simp at ht
   ·simp at ht
   ·rw[Option.map_some,Option.map_some,Option.some.injEq] at ht;exact⟨rfl,ht⟩
 ·split
  ·rw[hx.guard];split
   ·exact⟨rfl,rfl⟩
   ·have hv:=version_hid hx.Vz r.back;cases e1:version x.Vz r.back<;>cases e2:version x'.Vz r.back<;>rw[e1,e2] at hv
    ·exact⟨rfl,rfl⟩
    ·simp at hv
    ·simp at hv
    ·rw[Option.map_some,Option.map_some,Option.some.injEq] at hv;exact⟨rfl,hv⟩
  ·rename_i h1 h9
   unfold Yi at hmay;rw[if_neg h1,Bool.and_eq_true] at hmay;obtain⟨-,h2⟩:=hmay;rw[decide_eq_false h9,Bool.false_or] at h2;cases hq:m.Rz[r.frm.toNat]? with
   |none=>rw[hq] at h2;cases h2
   |some q=>
    rw[hq] at h2;rw[filesOf_sim h hm hq h2];exact⟨rfl,rfl⟩
theorem write_sim {p p':Xq} {r:Req} (h:HouseSim r.user m m') (hm:Ys m=true) (hp:RepoSim r.user p p') (hk:r.kind=1∨r.kind=9∨r.kind=10):
  (write m p r).2=(write m' p' r).2∧HouseSim r.user (write m p r).1 (write m' p' r).1:=by
 unfold write;rw[←may_sim h hp,←hp.idx,←h.used];split
 ·rename_i hmay
  cases hx:Y7 p.Fz r.ref with
  |none=>exact⟨rfl,h⟩
  |some k=>
   simp only;have hs:=hp.at k;obtain⟨n1,n2⟩:=newest_sim h hm hp hs hmay hk;rw[←hs.count,←n1];split
   ·exact⟨rfl,h⟩
   ·split
    ·exact⟨rfl,h⟩
    ·split
     ·exact⟨rfl,h⟩
     ·split
      ·exact⟨rfl,h⟩
      ·refine⟨rfl,h.keys,by simp only[jpm];rw[h.used], ?_⟩;simp only[jpm];rw[List.map_set,List.map_set,h.Rz]
       congr 1
       refine repoSim_iff.2 (hp.with_refs ?_);rw[List.map_set,List.map_set,hp.Fz]
       congr 1
       refine refSim_iff.2 ⟨hs.name,hs.guard,by rw[hs.count], ?_⟩;simp only;have hl:(p.Fz.getD k Y8).Vz.length=(p'.Fz.getD k Y8).Vz.length:=by have:=congrArg List.length hs.Vz;simpa using this
       unfold jgu;rw[List.map_drop,List.map_drop,List.map_append,List.map_append,List.map_singleton,List.map_singleton,hs.Vz,n2,List.length_append,List.length_append,hl];rfl
 ·exact⟨rfl,h⟩
theorem manage_sim {p p':Xq} {r:Req} (h:RepoSim r.user p p'):(manage p r).2=(manage p' r).2∧(manage p r).1.Uz=(manage p' r).1.Uz∧((manage p r).1.Uz=p.Uz→RepoSim r.user (manage p r).1 (manage p' r).1):=by
 have hi: ∀k,(Zm (fun x=>bLt x.name r.ref) ⟨r.ref,false,0,[[]]⟩ p.Fz).map (hidR k r.user)=Zm (fun x=>bLt x.name r.ref) (hidR k r.user ⟨r.ref,false,0,[[]]⟩) (p.Fz.map (hidR k r.user)):=fun k=>by
  unfold Zm;rw[List.takeWhile_map,List.dropWhile_map,List.map_append,List.map_cons];rfl
 have hi': ∀k,(Zm (fun x=>bLt x.name r.ref) ⟨r.ref,false,0,[[]]⟩ p'.Fz).map (hidR k r.user)=Zm (fun x=>bLt x.name r.ref) (hidR k r.user ⟨r.ref,false,0,[[]]⟩) (p'.Fz.map (hidR k r.user)):=fun k=>by
  unfold Zm;rw[List.takeWhile_map,List.dropWhile_map,List.map_append,List.map_cons];rfl
 unfold manage;rw[←h.Uz,←h.idx,←h.len];split
 ·split
  ·exact⟨rfl,h.Uz,fun _=>h⟩
  ·split
   ·refine⟨rfl,rfl,fun e=>⟨h.Az,rfl, ?_⟩⟩;simp only at e ⊢;rw[e];exact h.Fz
   ·exact⟨rfl,h.Uz,fun _=>h⟩
 ·split
  ·split
   ·refine⟨rfl,rfl,fun e=>⟨h.Az,rfl, ?_⟩⟩;simp only at e ⊢;rw[e];exact h.Fz
   ·exact⟨rfl,h.Uz,fun _=>h⟩
  ·cases hx:Y7 p.Fz r.ref with
   |none=>
    simp only;split
    ·split
     ·exact⟨rfl,h.Uz,fun _=>h⟩
     ·split
      ·exact⟨rfl,h.Uz,fun _=>h⟩
      ·exact⟨rfl,rfl,fun _=>⟨h.Az,rfl,by simp only;rw[hi,hi',h.Fz]⟩⟩
    ·exact⟨rfl,h.Uz,fun _=>h⟩
   |some k=>
    simp only;have hs:=h.at k;rw[←hs.guard];split
    ·exact⟨rfl,h.Uz,fun _=>h⟩
    ·split
     ·refine⟨rfl,rfl,fun _=>⟨h.Az,rfl, ?_⟩⟩;simp only;rw[List.map_set,List.map_set,h.Fz]
      congr 1
      exact refSim_iff.2 ⟨hs.name,rfl,hs.count,hs.Vz⟩
     ·split
      ·exact⟨rfl,h.Uz,fun _=>h⟩
      ·refine⟨rfl,rfl,fun _=>⟨h.Az,rfl, ?_⟩⟩;simp only;rw[map_erase,map_erase,h.Fz]
theorem hidden {r:Req} (h:HouseSim r.user m m') (hm:Ys m=true):
  (Zn m r).2=(Zn m' r).2∧∀(i:Nat) (p q:Xq),m.Rz[i]? =some p→(Zn m r).1.Rz[i]? =some q→q.Uz=p.Uz→∃q',(Zn m' r).1.Rz[i]? =some q'∧RepoSim r.user q q':=by
 have key: ∀ {x y:Jl},HouseSim r.user x y→∀(i:Nat) (p q:Xq),m.Rz[i]? =some p→x.Rz[i]? =some q→q.Uz=p.Uz→∃q',y.Rz[i]? =some q'∧RepoSim r.user q q':=fun {x y} hs i p q _ hq _=>by
  rcases hs.at i with ⟨h1, -⟩|⟨a,b,h1,h2,h3⟩
  ·rw[h1] at hq;cases hq
  ·rw[h1] at hq;cases hq;exact⟨b,h2,h3⟩
 unfold Zn;rw[←h.keys,←h.used];split
 ·split
  ·exact⟨rfl,key h⟩
  ·rcases h.at r.repo.toNat with ⟨h1,h2⟩|⟨p,p',h1,h2,hp⟩
   ·rw[h1,h2];exact⟨rfl,key h⟩
   ·rw[h1,h2];simp only;split
    ·exact⟨look_sim hp,key h⟩
    ·split
     ·refine⟨?_,key h⟩;unfold jad;rw[hp.names,←hp.Uz]
     ·split
      ·rename_i hw
       have hk:r.kind=1∨r.kind=9∨r.kind=10:=by simpa [Vs,or_assoc] using hw
       obtain⟨w1,w2⟩:=write_sim h hm hp hk;exact⟨by rw[w1],key w2⟩
      ·rw[←hp.Az];split
       ·exact⟨rfl,key h⟩
       ·obtain⟨g1, -,g3⟩:=manage_sim hp;refine⟨by rw[g1],fun i q0 q hq0 hq hrl=> ?_⟩;simp only at hq ⊢;by_cases hi:r.repo.toNat=i
        ·subst hi;rw[h1] at hq0;cases hq0;rw[List.getElem?_set_self (List.getElem?_eq_some_iff.1 h1).1] at hq;cases hq;rw[List.getElem?_set_self (List.getElem?_eq_some_iff.1 h2).1];exact⟨_,rfl,g3 hrl⟩
        ·rw[List.getElem?_set_ne hi] at hq ⊢;exact key h i q0 q hq0 hq hrl
 ·exact⟨rfl,key h⟩
theorem sees_sim {i:Nat} {p p':Xq} {name:ByteArray} {back:Int} (hm:Ys m=true) (hm':Ys m'=true) (h1:m.Rz[i]? =some p) (h2:m'.Rz[i]? =some p') (h:RepoSim user p p'):jq1 m user i name back=jq1 m' user i name back:=by
 unfold jq1 jqz Xn;rw[if_pos hm,if_pos hm',if_pos (Int.natCast_nonneg i),if_pos (Int.natCast_nonneg i),Int.toNat_natCast,List.getD_eq_getElem?_getD,List.getD_eq_getElem?_getD,h1,h2];simp only[Option.getD_some];rw[←h.idx,←h.Uz];cases hx:Y7 p.Fz name with
 |none=>rfl
 |some k=>
  simp only;have hk:=h.at k;have hn:(p.Fz.getD k Y8).name=name:=by
   obtain⟨hk,he⟩:=je8 (key:=Ref.name) hx;rw[J4 hk];exact he
  have hv:=version_hid hk.Vz back;rw[hn] at hv;cases e1:version (p.Fz.getD k Y8).Vz back<;>cases e2:version (p'.Fz.getD k Y8).Vz back<;>rw[e1,e2] at hv
  ·simp at hv
  ·simp at hv
  ·rw[Option.map_some,Option.map_some,Option.some.injEq] at hv;exact readable_hid hv
end
section
variable {w0 w wz w1 w':World} {g:Nat} {v v' K U R:Value} {l:List Int} {x:Int}
end
def Row {α:Type} (r:Rp α) (S:Nat→Prop) (w:World) (lo:Nat) (v:Value) (l:List α):Prop:=
 ∃A c,v= .slice A l.length c∧l.length≤c∧c≤maxLen∧(l= []∨∃B xs f,A=some ⟨B,0,none⟩∧lo≤B∧Free w [B]∧Cells w B 0 xs∧AllR r w xs l f∧B∉f∧S B∧∀b∈f,S b)
section
variable {α:Type} {r:Rp α} {S:Nat→Prop} {w w':World} {lo:Nat} {v:Value} {l:List α}
theorem Row.sl (h:Row r S w lo v l): ∃A c f,v= .slice A l.length c∧SlR r w A l.length c l f∧∀b∈f,S b:=by
 obtain⟨A,c,rfl,h1,h2,rfl|⟨B,xs,f,rfl, -,h4,h5,h6, -,h8,h9⟩⟩:=h
 ·exact⟨A,c,[],rfl,⟨rfl,Nat.zero_le _,h2,[],[],[],⟨by simp,.inl ⟨rfl,rfl⟩⟩,⟨rfl,rfl⟩,rfl⟩,by simp⟩
 ·by_cases h0:l.length=0
  ·have:l= []:=List.eq_nil_of_length_eq_zero h0;subst this;exact⟨_,c,[],rfl,⟨rfl,Nat.zero_le _,h2,[],[],[],⟨by simp,.inl ⟨rfl,rfl⟩⟩,⟨rfl,rfl⟩,rfl⟩,by simp⟩
  ·exact⟨_,c,[B]++f,rfl,⟨rfl,h1,h2,xs,[B],f,⟨h6.len,.inr ⟨by omega,B,0,rfl,rfl,h4.lt B (by simp),h5⟩⟩,h6,rfl⟩,fun b hb=>(List.mem_append.1 hb).elim (fun e=>List.mem_singleton.1 e▸h8) (h9 b)⟩
theorem Row.below (h:Row r S w lo v l) (hb:Below w.heap.size w w'):Row r S w' lo v l:=by
 obtain⟨A,c,rfl,h1,h2,rfl|⟨B,xs,f,rfl,h3,h4,h5,h6,h7⟩⟩:=h
 ·exact⟨A,c,rfl,h1,h2,.inl rfl⟩
 ·exact⟨_,c,rfl,h1,h2,.inr ⟨B,xs,f,rfl,h3,h4.step hb,h5.keep (hb.block B (h4.lt B (by simp))),h6.keep fun b hb'=>hb.block b (h6.lt b hb'),h7⟩⟩
theorem Row.far (h:Row r S w lo v l) {g j:Nat} (u:Value) (hg: ¬S g):Row r S (w.setCell ⟨g,j,none⟩ u) lo v l:=by
 obtain⟨A,c,rfl,h1,h2,rfl|⟨B,xs,f,rfl,h3,h4,h5,h6,h7,h8,h9⟩⟩:=h
 ·exact⟨A,c,rfl,h1,h2,.inl rfl⟩
 ·refine⟨_,c,rfl,h1,h2,.inr ⟨B,xs,f,rfl,h3,h4.setCell _ rfl _,h5.keep (Below.heap_setCell _ _ _ _ fun e=>hg (by have e:B=g:=e;rw[←e];exact h8)),h6.keep fun b hb'=>Below.heap_setCell _ _ _ _ fun e=>hg (by have e:b=g:=e;rw[←e];exact h9 b hb'),h7,h8,h9⟩⟩
theorem Row.of_own {e:TypeId} {xs:List Value} {f:List Nat} (h:w.ownsRow lo e r.k v l.length xs) (ha:AllR r w xs l f) (hn: ∀b∈f,v.ownBlock≠some b) (hS: ∀b,lo≤b→S b) (hf: ∀b∈f,S b):Row r S w lo v l:=by
 obtain⟨hl,h⟩:=h;rcases h with ⟨rfl,h0⟩|⟨g,cap,cur,rfl,hb,hg,hn',hc,hs,ht⟩
 ·have:l= []:=List.eq_nil_of_length_eq_zero h0;subst this;exact⟨none,0,rfl,Nat.le_refl _,by simp[maxLen],.inl rfl⟩
 ·refine⟨_,cap,rfl,hn',hc,.inr ⟨g,xs,f,rfl,hb, ?_,fun j u hu=> ?_,ha,fun hm=>hn g hm rfl,hS g hb,hf⟩⟩
  ·intro b hb';obtain rfl:=List.mem_singleton.1 hb';exact⟨cur,e,hg⟩
  ·rw[cell_of_row w g (0+j) cur e (0,0) hg,Nat.zero_add];rw[←ht,List.getElem?_take] at hu;split at hu
   ·simpa using hu
   ·cases hu
theorem Row.set (h:Row r S w lo v l) {i:Nat} (hi:i<l.length):
  ∃B c cs fi,v= .slice (some ⟨B,0,none⟩) l.length c∧l.length≤c∧c≤maxLen∧lo≤B∧B<w.heap.size∧r.R w cs l[i] fi∧B∉fi∧(∀b∈fi,S b)∧Cells w B (i*r.k) cs∧(∀o,w.frozen? ⟨B,o,none⟩=false)∧
   ∀(j:Nat) (u:Value) (y:α) (f':List Nat),j<r.k→r.R (w.setCell ⟨B,i*r.k+j,none⟩ u) (cs.set j u) y f'→B∉f'→(∀b∈f',S b)→Row r S (w.setCell ⟨B,i*r.k+j,none⟩ u) lo v (l.set i y):=by
 obtain⟨A,c,rfl,h1,h2,rfl|⟨B,xs,f,rfl,h3,h4,h5,h6,h7,h8,h9⟩⟩:=h
 ·exact absurd hi (Nat.not_lt_zero _)
 ·obtain⟨c0,cs,c1,g0,g,g1,rfl,rfl,e3,e4,e5,e6⟩:=h6.split hi;have hB:=h4.lt B (by simp);have hcc:=h5.right.left;rw[Nat.zero_add,e3] at hcc;have hE:Elem w w [B] [] B (i*r.k) cs:=⟨by simp,by simp,by simp,hcc,fun _ _=>rfl,fun _ _ _ _=>rfl,Only.refl _ _,h4,fun x hx=>by obtain rfl:=List.mem_singleton.1 hx;exact hB⟩
  refine⟨B,c,cs,g,rfl,h1,h2,h3,hB,e5,fun hm=>h7 (by simp[hm]),fun b hb=>h9 b (by simp[hb]),hcc,fun o=>h4.frozen (by simp) o,fun j u y f' hj hy hf' hS'=> ?_⟩;have hl:=r.len e5;have he:=hE.put (j:=j) (by omega) u;have hlc:(cs.set j u).length=cs.length:=by simp
  refine⟨_,c,by simp,by simpa using h1,h2,.inr ⟨B,c0++(cs.set j u++c1),g0++(f'++g1),rfl,h3,he.free, ?_, ?_, ?_,h8,fun b hb=> ?_⟩⟩
  ·have hl0:Cells (w.setCell ⟨B,i*r.k+j,none⟩ u) B 0 c0:=fun k u' hu=>by
    have hk:=(List.getElem?_eq_some_iff.1 hu).1;rw[he.other (0+k) (by omega)];exact h5.left k u' hu
   have hl1:Cells (w.setCell ⟨B,i*r.k+j,none⟩ u) B (0+(c0++cs.set j u).length) c1:=fun k u' hu=>by
    have hr:=h5.right.right k u' hu;rw[he.other _ (by simp only[List.length_append,hlc];omega),←hr]
    congr 2
    simp only[List.length_append,hlc];omega
   rw[←List.append_assoc];refine Cells.append (Cells.append hl0 ?_) hl1;rw[Nat.zero_add,e3];exact he.cells
  ·refine AllR.set hi e4 e6 hy fun x hx=>Below.heap_setCell _ _ _ _ ?_;rintro rfl;exact h7 (by rcases List.mem_append.1 hx with hx|hx<;>simp[hx])
  ·intro hm;rcases List.mem_append.1 hm with hm|hm
   ·exact h7 (by simp[hm])
   ·rcases List.mem_append.1 hm with hm|hm
    ·exact hf' hm
    ·exact h7 (by simp[hm])
  ·rcases List.mem_append.1 hb with hb|hb
   ·exact h9 b (by simp[hb])
   ·rcases List.mem_append.1 hb with hb|hb
    ·exact hS' b hb
    ·exact h9 b (by simp[hb])
end
theorem cell_below {w w':World} {B b o:Nat} {v:Value} (h:w.cell? ⟨b,o,none⟩=some v) (hb:Below B w w') (hl:b<B):w'.cell? ⟨b,o,none⟩=some v:=(World.cell?_of_block (a:=⟨b,o,none⟩) (hb.block b hl)).trans h
theorem ver_cell {w:World} {A:Option Addr} {n c:Nat} {vs:List (List File)} {fp:List Nat} (h:SlR (Rp.slice Rp.file) w A n c vs fp) {u:Nat} (hu:u<vs.length):
  ∃b o,A=some ⟨b,o,none⟩∧∃AF cF fF,w.cell? ⟨b,o+u,none⟩=some (.slice AF vs[u].length cF)∧SlR Rp.file w AF vs[u].length cF vs[u] fF:=by
 obtain⟨b,o,cs,f,hA, -, -,hc,⟨A',n',c',rfl,hs⟩, -⟩:=h.get hu;obtain rfl:=hs.1;have:=hc.at0;rw[show o+u*(Rp.slice Rp.file).k=o+u by show o+u*1=o+u;omega] at this;exact⟨b,o,hA,A',c',f,this,hs⟩
def BI (w9:World) (n:Nat) (wz:World):Prop:=∃bs:List UInt8,bs.length=n∧(∀q (hq:q<bs.length),wz.cell? ⟨w9.heap.size,q,none⟩=some (.int .u8 (bs[q].toNat:Int)))∧(∀q,q<n→wz.frozen? ⟨w9.heap.size,q,none⟩=false)∧Below w9.heap.size w9 wz
theorem BI.start (w:World) (s:ByteArray) (cap:Nat) (t:TypeId):BI w s.size (w.alloc (.cells (bytesRow s cap) t ((bytesRow s cap).size,(bytesRow s cap).size+1))).drew:=by
 refine⟨s.data.toList,Array.length_toList,fun q hq=> ?_,fun q hq=> ?_,((Below.refl w.heap.size w).alloc nle _).drew⟩
 ·have hq':q<s.data.size:=by simpa using hq
  have h1:=World.cell?_alloc_mark w (bytesRow s cap) t ((bytesRow s cap).size,(bytesRow s cap).size+1) q;rw[bytesRow_at s cap q hq'] at h1;simpa using h1
 ·have hq':q<s.data.size:=hq;have h2:=(Array.getElem?_eq_some_iff.1 (bytesRow_at s cap q hq')).1;have h1:=World.frozen?_alloc_mark w (bytesRow s cap) t (bytesRow s cap).size ((bytesRow s cap).size+1) q;have e:decide ((bytesRow s cap).size≤q)=false:=decide_eq_false (by omega);rw[e,Bool.false_and] at h1;exact h1
theorem BI.put {w9 wz:World} {n:Nat} (h:BI w9 n wz) {q:Nat} (hq:q<n): ∃x:UInt8,wz.cell? ⟨w9.heap.size,q,none⟩=some (.int .u8 (x.toNat:Int))∧wz.frozen? ⟨w9.heap.size,q,none⟩=false∧∀b:UInt8,BI w9 n (wz.setCell ⟨w9.heap.size,q,none⟩ (.int .u8 (b.toNat:Int))):=by
 obtain⟨bs,rfl,hc,hz,hb⟩:=h;refine⟨bs[q],hc q hq,hz q hq,fun b=>⟨bs.set q b,by simp,fun q' hq'=> ?_,fun q' hq'=>by rw[World.frozen?_setCell];exact hz q' hq',hb.setCell nle _⟩⟩;have hq2:q'<bs.length:=by simpa using hq'
 by_cases e:q=q'
 ·subst e;rw[List.getElem_set_self];exact World.cell?_setCell_same wz _ _ (hc q hq)
 ·rw[List.getElem_set_ne e,World.cell?_setCell_other _ _ _ _ (by simp only[ne_eq,Addr.mk.injEq];omega)];exact hc q' hq2
theorem xor_u8 (x y:Int): ∃b:UInt8,Go.bits .xor .u8 x y=(b.toNat:Int):=by
 have h:0≤Go.bits .xor .u8 x y∧Go.bits .xor .u8 x y<256:=by
  unfold Go.bits;rw[IntKind.wrap_u8];omega
 refine⟨UInt8.ofNat (Go.bits .xor .u8 x y).toNat, ?_⟩;rw[show(UInt8.ofNat (Go.bits .xor .u8 x y).toNat).toNat=(Go.bits .xor .u8 x y).toNat % 256 from UInt8.toNat_ofNat'];omega
abbrev SB (n b:Nat):Prop:=b≠n+2∧b≠n+1
theorem three_boxes (w:World) (t u s:TypeId) (cs ds es:Array Value):Blk (((w.alloc (.cells cs t)).alloc (.cells ds u)).alloc (.cells es s)) w.heap.size t cs∧Blk (((w.alloc (.cells cs t)).alloc (.cells ds u)).alloc (.cells es s)) (w.heap.size+1) u ds∧Blk (((w.alloc (.cells cs t)).alloc (.cells ds u)).alloc (.cells es s)) (w.heap.size+2) s es∧(((w.alloc (.cells cs t)).alloc (.cells ds u)).alloc (.cells es s)).heap.size=w.heap.size+3∧Below w.heap.size w (((w.alloc (.cells cs t)).alloc (.cells ds u)).alloc (.cells es s)):=by
 obtain⟨h1,h2,h3⟩:=Blk.two w t u cs ds;have h4:=(Below.refl _ ((w.alloc (.cells cs t)).alloc (.cells ds u))).alloc nle (.cells es s);refine⟨h1.step h4,h2.step h4, ?_,by simp,Below.t h3 h4⟩;have:=Blk.new ((w.alloc (.cells cs t)).alloc (.cells ds u)) s es;rwa [show((w.alloc (.cells cs t)).alloc (.cells ds u)).heap.size=w.heap.size+2 by simp] at this
def Fl (w:World) (lo:Nat) (v:Value) (l:List File):Prop:=∃A c f,v= .slice A l.length c∧SlR Rp.file w A l.length c l f∧f.Nodup∧(∀b∈f,lo≤b)∧Free w f
theorem Fl.of_own {w:World} {lo:Nat} {e:TypeId} {v:Value} {l:List File} (h:w.ownsRow lo e 2 v l.length (l.flatMap Jj)):Fl w lo v l:=by
 obtain⟨A,c,f,rfl,hs,h1,h2,h3⟩:=Xw (k:=2) (enc:=Jj) (hk:=fun _=>rfl) (h1:=Vz) h;exact⟨A,c,f,rfl,hs,h2,h1,h3⟩
theorem Fl.below {w w':World} {lo:Nat} {v:Value} {l:List File} (h:Fl w lo v l) (hb:Below w.heap.size w w'):Fl w' lo v l:=by
 obtain⟨A,c,f,rfl,hs,h1,h2,h3⟩:=h;exact⟨A,c,f,rfl,hs.step hb,h1,h2,h3.step hb⟩
theorem Fl.put {w:World} {lo:Nat} {v:Value} {l:List File} (h:Fl w lo v l) {i:Nat} (hi:i<l.length):
  ∃B o c,v= .slice (some ⟨B,o,none⟩) l.length c∧l.length≤c∧c≤maxLen∧lo≤B∧B<w.heap.size∧w.cell? ⟨B,o+i*2,none⟩=some (.string l[i].path)∧w.cell? ⟨B,o+i*2+1,none⟩=some (.string l[i].bytes)∧w.frozen? ⟨B,o+i*2+1,none⟩=false∧
   ∀s,Fl (w.setCell ⟨B,o+i*2+1,none⟩ (.string s)) lo v (l.set i ⟨l[i].path,s⟩):=by
 obtain⟨A,c,f,rfl,hs,h1,h2,h3⟩:=h;obtain⟨B,o,cs,f',rfl, -,⟨rfl,rfl⟩,hE,hcl⟩:=hs.elem h1 h3 hi;have h0:=hE.cells 0 _ rfl;have h1':=hE.cells 1 _ rfl;refine⟨B,o,c,rfl,hs.2.1,hs.2.2.1,h2 B hE.mem,hs.lt B hE.mem,h0,h1',hE.frozen _,fun s=> ?_⟩;have hE':=hE.put (j:=1) (by simp[Jj]) (.string s);have:=hcl _ _ ⟨l[i].path,s⟩ hE' ⟨rfl,rfl⟩
 refine⟨some ⟨B,o,none⟩,c,f,by rw[List.length_set], ?_,h1,h2,hE'.free⟩;rw[List.length_set];exact this
theorem hidL_set {may:ByteArray→Bool} {l l0:List File} (h:hidL may l=hidL may l0) {i:Nat} (hi:i<l.length) {s:ByteArray} (hs:s.size=l[i].bytes.size) (hm:may l[i].path=false):hidL may (l.set i ⟨l[i].path,s⟩)=hidL may l0:=by
 rw[←h];unfold hidL;rw[List.map_set];have e:hid may ⟨l[i].path,s⟩=hid may l[i]:=by
  unfold hid;simp only[hm,Bool.false_eq_true,if_false,hs]
 rw[e,show hid may l[i]=(l.map (hid may))[i]'(by simpa using hi) by simp];exact List.set_getElem_self _
theorem Row.made {α:Type} {r:Rp α} {S:Nat→Prop} {w w2:World} {o:Obj} {e:TypeId} {v:Value} {zs:List Value} {l:List α} {f1 fp:List Nat} {A:Option Addr} {n c:Nat} (h:SlR r w A n c l fp) (hal:AllR r (w.alloc o) zs l f1) (hsub: ∀b∈f1,b∈fp)
  (hown:w2.ownsRow w.heap.size e r.k v n zs) (hgrow:(w.alloc o).grownBy w2 (Value.slice (some ⟨w.heap.size,0,none⟩) 0 0).ownBlock) (hS: ∀b,w.heap.size≤b→S b) (hf: ∀b∈fp,S b):Row r S w2 w.heap.size v l∧Below w.heap.size w w2:=by
 have hb:=((Below.refl w.heap.size w).alloc nle o).grown hgrow (by simp) (fun j hj=>by simp[Value.ownBlock] at hj;omega);rw[h.1] at hown;have hlt: ∀b∈f1,b<w.heap.size:=fun b hb'=>h.lt b (hsub b hb');have ha:AllR r w2 zs l f1:=hal.keep fun b hb'=>hgrow.block b (by have:=hlt b hb';simp;omega) fun e=>by have:=hlt b hb';simp[Value.ownBlock] at e;omega
 exact⟨Row.of_own hown ha (fun b hb' e=>by have:=(hown.lt b e).1;have:=hlt b hb';omega) hS fun b hb'=>hf b (hsub b hb'),hb⟩
theorem Fl.made {w w2:World} {o:Obj} {e:TypeId} {v:Value} {zs:List Value} {l:List File} {f1 fp:List Nat} {A:Option Addr} {n c:Nat} (h:SlR Rp.file w A n c l fp) (hal:AllR Rp.file (w.alloc o) zs l f1)
  (hown:w2.ownsRow w.heap.size e 2 v n zs) (hgrow:(w.alloc o).grownBy w2 (Value.slice (some ⟨w.heap.size,0,none⟩) 0 0).ownBlock):Fl w2 w.heap.size v l∧Below w.heap.size w w2:=by
 have hb:=((Below.refl w.heap.size w).alloc nle o).grown hgrow (by simp) (fun j hj=>by simp[Value.ownBlock] at hj;omega);obtain⟨rfl, -⟩:=AllR.flat.1 hal;rw[h.1] at hown;exact⟨Fl.of_own hown,hb⟩
theorem OwB.made {α:Type} {r:Rp α} {e:TypeId} (w:World):OwB r e w.heap.size (.slice (some ⟨w.heap.size,0,none⟩) 0 0) [] (w.alloc (.cells #[] e)):=by
 have ho:(w.alloc (.cells #[] e)).ownsRow w.heap.size e r.k (.slice (some ⟨w.heap.size,0,none⟩) 0 0) 0 []:=World.ownsRow_made w #[] 0 nle (by simp[maxLen]) (by simp);exact⟨_,⟨[],[],Y4 ho (Nat.zero_le _),⟨rfl,rfl⟩,rfl⟩,by rw[List.append_nil];exact vblk_nodup _,fun b hb=>(Jn ho b (by simpa using hb)).1,by rw[List.append_nil];exact jer ho⟩
theorem infoV_Ref:(Tryz.prog.info? 52).map (fun i=>(i.zero,i.size,i.bytes))=some (some (.agg #[.string ByteArray.empty,.bool false,.int .i64 0,.slice none 0 0]),4,56):=by kernel_rfl
theorem infoV_Repo:(Tryz.prog.info? 48).map (fun i=>(i.zero,i.size,i.bytes))=some (some (.agg #[.int .i64 0,.slice none 0 0,.slice none 0 0]),3,56):=by kernel_rfl
theorem infoV_FileS:(Tryz.prog.info? 34).map (fun i=>(i.zero,i.size,i.bytes))=some (some (.slice none 0 0),1,24):=by kernel_rfl
theorem chVeils_any {cs:List Value} {m:Jl} {fx:List Nat} (user:Int) (w:World) (hx:Rp.house.R w cs m fx) (hm:Ys m=true):
  Calls Tryz.prog 28 #[.agg cs.toArray,.int .i64 user,.int .u8 85] w fun e w'=>∃V K U R f,e= .returned (.agg #[K,U,R])∧Rp.house.R w' [K,U,R] V f∧HouseSim user m V∧Below w.heap.size w w':=by
 obtain⟨A0,n0,c0,f0,A1,n1,c1,f1,A2,n2,c2,f2,rfl, -,h0,h1,h2⟩:=hx;obtain⟨rfl,hcx,hmx, -⟩:=id h2;unfold maxLen at hmx;have HM:=Ja hm;clear hm;obtain⟨ir,hr0,hr1,hr2,hr3⟩:=info_parts infoV_Repo;obtain⟨ix,hx0,hx1,hx2,hx3⟩:=info_parts infoV_Ref;obtain⟨iv,hv0,hv1,hv2,hv3⟩:=info_parts infoV_FileS;obtain⟨il,hw0,hw1,hw2,hw3⟩:=info_parts Xj;go_enter Tryz.func28,Tryz.ntmps28
 go_upto_region 2 with fail
 have k1:=(Blk.new w 26 #[.slice A0 n0 c0,.slice A1 n1 c1,.slice A2 m.Rz.length c2]);obtain⟨w1,hw1⟩: ∃w1,w1=(((w.alloc (.cells #[.slice A0 n0 c0,.slice A1 n1 c1,.slice A2 m.Rz.length c2] 26)).alloc (.cells H0 26)).alloc (.cells #[.slice A0 n0 c0,.slice A1 n1 c1,.slice A2 m.Rz.length c2] 26)):=⟨_,rfl⟩
 obtain⟨kk0,kk1,kk2,hsz,hb1⟩:=three_boxes w 26 26 26 #[.slice A0 n0 c0,.slice A1 n1 c1,.slice A2 m.Rz.length c2] H0 #[.slice A0 n0 c0,.slice A1 n1 c1,.slice A2 m.Rz.length c2];rw[←hw1] at kk0 kk1 kk2 hsz hb1 ⊢;clear hw1 k1;have HS1:=Ja hsz;have HLT:=Ja h2.lt;have HR0:=Ja (And.intro h0 h1);have H2:=Ja (h2.step hb1);have HR:=Ja (And.intro (h0.step hb1) (h1.step hb1))
 have HB1:=Ja hb1;have ylen:m.Rz.length≤3:=by have:=(Jo.1 HM.out).2.1.2;omega
 have y2:=fun y:Obj=>J6 (kk0.cell 2) y
 try simp only[List.getElem?_toArray,List.getElem?_cons_zero,List.getElem?_cons_succ] at y2
 have K0:=Ja kk0;have K1:=Ja kk1;have K2:=Ja kk2;clear h0 h1 h2 kk0 kk1 kk2 hb1 hsz;go_wp2_with(at_builtin;refine V2 (r:=Rp.repo) rfl _ _ 24 rfl w1.heap.size 48 ir _ 56 Tryz.underlying24 hr0 hr1 hr2 hr3 rfl (by decide) _ 0 [] rfl (World.ownsRow_made w1 #[] 0 nle (by simp[maxLen]) rfl) rfl (H2.out.allocN _) (by unfold maxLen;omega) (by omega) (by simp) ?_)
 intro v w2 zs f1 hal hsub hown hgrow;obtain⟨hrow,hb2⟩:=Row.made (S:=SB w.heap.size) H2.out hal hsub hown hgrow (fun b hb=>by have:=HS1.out;exact⟨by omega,by omega⟩) (fun b hb=>by have:=HLT.out b hb;exact⟨by omega,by omega⟩);clear hal hsub hown hgrow y2;have q2:=(K2.out.step hb2).cell 2
 try simp only[List.getElem?_toArray,List.getElem?_cons_zero,List.getElem?_cons_succ] at q2
 have z2:=Jb (K2.out.step hb2) 2;obtain⟨A3,c3,rfl,hl3,hm3, -⟩:=id hrow;unfold maxLen at hm3;have hrow:=hrow.far (g:=w.heap.size+2) (j:=2) (.slice A3 m.Rz.length c3) (fun h=>h.1 rfl);have kk2:=(K2.out.step hb2).put 2 (.slice A3 m.Rz.length c3);have kk1:=Blk.far (K1.out.step hb2) (b:=w.heap.size+2) (j:=2) (by omega) (.slice A3 m.Rz.length c3)
 have hb3:=(Below.t HB1.out hb2).setCell (p:=⟨w.heap.size+2,2,none⟩) (by simp only;omega) (.slice A3 m.Rz.length c3);have hs3:w1.heap.size≤(w2.setCell ⟨w.heap.size+2,2,none⟩ (.slice A3 m.Rz.length c3)).heap.size:=by have:=hb2.size;simpa [World.setCell] using this
 clear hb2 H2 HLT;go_upto_region 3 with fail
 clear q2 z2;generalize w2.setCell ⟨w.heap.size+2,2,none⟩ (.slice A3 m.Rz.length c3)=w3 at hrow kk1 kk2 hb3 hs3 ⊢;have K1:=Ja kk1;have K2:=Ja (show Blk w3 (w.heap.size+2) 26 #[.slice A0 n0 c0,.slice A1 n1 c1,.slice A3 m.Rz.length c3] from kk2);have HB3:=Ja hb3;have HROW:=Ja hrow;clear kk1 kk2 hb3 hrow K0 HB1;go_wp2_with fail
 go_loopw [8] (fun iv wz=>∃(i:Nat) (l:List Xq),i≤m.Rz.length∧iv= .int .i64 i∧Row Rp.repo (SB w.heap.size) wz w1.heap.size (.slice A3 m.Rz.length c3) l∧l.map (hidP user)=m.Rz.map (hidP user)∧Below w1.heap.size w3 wz) (fun iv _=>m.Rz.length - (intOf iv).toNat)
 case atStart=>exact⟨0,m.Rz,Nat.zero_le _,rfl,HROW.out,rfl,Below.refl _ _⟩
 case round=>
  obtain⟨i,l,hi,rfl,hrow,hsim,hbl⟩:=hrel;obtain⟨wa,hwa⟩: ∃wa,wa=wr:=⟨_,rfl⟩;subst hwa;have hlen:l.length=m.Rz.length:=by have:=congrArg List.length hsim;simpa using this
  have hblk:=hbl.block (w.heap.size+2) (by have:=HS1.out;omega);have kn:Blk wa (w.heap.size+2) 26 #[.slice A0 n0 c0,.slice A1 n1 c1,.slice A3 m.Rz.length c3]:=hblk.trans K2.out;have n2:=kn.cell 2
  try simp only[List.getElem?_toArray,List.getElem?_cons_zero,List.getElem?_cons_succ] at n2
  have HKN:=Ja kn;have HBL:=Ja hbl;have HSZ:=Ja (show w1.heap.size≤wa.heap.size from Nat.le_trans hs3 hbl.size);clear hblk kn hbl;by_cases hlt:i<m.Rz.length
  ·have HSM:=Ja (show HouseSim user m { m with Rz:=l} from⟨rfl,rfl,hsim.symm⟩);have HOKL:=Ja (HSM.out.ok HM.out);have hil:i<l.length:=by omega
   obtain⟨B,c',cs,fi,he,hcl,hcm,hlo,hBs,hRr,hBf,hSf,hcells,hfz,hput⟩:=hrow.set hil;obtain⟨rfl,rfl⟩:A3=some ⟨B,0,none⟩∧c3=c':=by injection he with e1 e2 e3;exact⟨e1,e3⟩
   obtain⟨ra,rn,rc,rf,ra',rn',rc',rf',rfl,rfl,hru,hre⟩:=id hRr;have p1:wa.cell? ⟨B,i*3+1,none⟩=some (.slice ra rn rc):=hcells 1 _ rfl;have p2:wa.cell? ⟨B,i*3+2,none⟩=some (.slice ra' rn' rc'):=hcells 2 _ rfl;have HROWA:=Ja hrow;have HB0:=Ja (And.intro hlo hBs);have HRU:=Ja hru;have HRE:=Ja hre;have HSF:=Ja hSf;have HBF:=Ja hBf;have HFZ:=Ja (hfz (i*3+2))
   have HREP:=Ja ((Yj.1 (repo_of HOKL.out (show({ m with Rz:=l} :Jl).Rz[i]? =some l[i] from List.getElem?_eq_getElem hil))));have HRFIT:=Ja ((Jv HOKL.out) i hil).Uz;have HLL:=Ja (And.intro hil hsim);obtain rfl:rn'=l[i].Fz.length:=hre.1;have hrl:l[i].Fz.length≤3:=HREP.out.2.2.2.2.2;have hrc':=hre.2.1;have hrm':=hre.2.2.1;unfold maxLen at hrm' hcm
   have i0:(0:Int)≤(i:Int):=by omega
   have i1:(i:Int)<(m.Rz.length:Int):=by omega
   have y2:=fun y:Obj=>J6 n2 y;have yp2:=fun y:Obj=>J6 p2 y;clear hput hru hre hSf hBf hfz hRr hcells hrow hlo hsim he
   go_wp2_with(at_builtin;refine V2 (r:=Rp.ref) rfl _ _ 46 rfl wa.heap.size 52 ix _ 56 Tryz.underlying46 hx0 hx1 hx2 hx3 rfl (by decide) _ 0 [] rfl (World.ownsRow_made wa #[] 0 nle (by simp[maxLen]) rfl) rfl (HRE.out.allocN _) (by unfold maxLen;omega) (by omega) (by simp) ?_);intro v9 w4 zs f1 hal hsub hown hgrow
   obtain⟨hrow9,hb4⟩:=Row.made (S:=fun b=>b≠B∧SB w.heap.size b) HRE.out hal hsub hown hgrow (fun b hb=>by have:=HB0.out.2;have:=HSZ.out;have:=HS1.out;exact⟨by omega,by omega,by omega⟩) (fun b hb=>⟨fun e=>HBF.out (by rw[←e];simp[hb]),HSF.out b (by simp[hb])⟩);have HROW9:=Ja hrow9;have HB4:=Ja hb4;clear hal hsub hown hgrow y2 yp2 hrow9;replace n2:=Je n2 hb4;replace p1:=Je p1 hb4
   clear hb4;obtain⟨A9,c9,rfl,hl9,hm9, -⟩:=id HROW9.out;unfold maxLen at hm9;go_wp2_with fail
   go_loopw [10] (fun jv wz=>∃(k:Nat) (l9:List Ref),k≤l[i].Fz.length∧jv= .int .i64 k∧Row Rp.ref (fun b=>b≠B∧SB w.heap.size b) wz wa.heap.size (.slice A9 l[i].Fz.length c9) l9∧l9.map (hidR l[i].Uz user)=l[i].Fz.map (hidR l[i].Uz user)∧Below wa.heap.size w4 wz) (fun jv _=>l[i].Fz.length - (intOf jv).toNat)
   case atStart=>exact⟨0,l[i].Fz,Nat.zero_le _,rfl,HROW9.out,rfl,Below.refl _ _⟩
   case round=>
    obtain⟨k,l9,hk,rfl,hrow9,hsim9,hb9⟩:=hrel;obtain⟨wb,hwb⟩: ∃wb,wb=wr:=⟨_,rfl⟩;subst hwb;have hlen9:l9.length=l[i].Fz.length:=by have:=congrArg List.length hsim9;simpa using this
    have hbab:=HB4.out.trans hb9;have HBAB:=Ja hbab;have HB9W:=Ja hb9;have HROW9B:=Ja hrow9;have HSIM9:=Ja hsim9;have n2b:=cell_below n2 hb9 (by have:=HSZ.out;have:=HS1.out;omega);have p1b:=cell_below p1 hb9 (by have:=HB0.out.2;omega);by_cases hkl:k<l[i].Fz.length
    ·have hkl9:k<l9.length:=by omega
     have HSR:=Ja (refSim_iff.1 (show hidR l[i].Uz user l9[k]=hidR l[i].Uz user l[i].Fz[k] by
      have:=congrArg (fun x=>x[k]?) hsim9;simpa [List.getElem?_map,List.getElem?_eq_getElem hkl9,List.getElem?_eq_getElem hkl] using this))
     obtain⟨B9,c9',cs9,fi9,he9,hcl9,hcm9,hlo9,hBs9,hRx,hBf9,hSf9,hcells9,hfz9,hput9⟩:=hrow9.set hkl9;obtain⟨rfl,rfl⟩:A9=some ⟨B9,0,none⟩∧c9=c9':=by injection he9 with e1 e2 e3;exact⟨e1,e3⟩
     obtain⟨va,vn,vc,vf,rfl,rfl,hve⟩:=id hRx;have t0:wb.cell? ⟨B9,k*4,none⟩=some (.string l9[k].name):=hcells9 0 _ rfl;have t3:wb.cell? ⟨B9,k*4+3,none⟩=some (.slice va vn vc):=hcells9 3 _ rfl;have HR9:=Ja hrow9;have HB9:=Ja (And.intro hlo9 hBs9);have HVE:=Ja hve;have HSF9:=Ja hSf9;have HBF9:=Ja hBf9;have HFZ9:=Ja (hfz9 (k*4+3))
     have HREF:=Ja (show Xv l9[k]=true by rw[HSR.out.ok];exact HREP.out.1 _ (List.getElem_mem hkl));obtain rfl:vn=l9[k].Vz.length:=hve.1;have hvl:l9[k].Vz.length≤3:=by have:=(Z2.1 HREF.out).2.1.2;omega
     have hvc:=hve.2.1;have hvm:=hve.2.2.1;unfold maxLen at hvm;have k0:(0:Int)≤(k:Int):=by omega
     have k1:(k:Int)<(l[i].Fz.length:Int):=by omega
     have HLL9:=Ja (And.intro hkl9 hsim9);have HNM:=Ja (show l9[k].name=l[i].Fz[k].name from HSR.out.name);clear hput9 hve hSf9 hBf9 hfz9 hRx hcells9 hrow9 hlo9 hBs9 hsim9 he9;have hbW:=OwB.made (r:=Rp.slice Rp.file) (e:=34) wb;have hbA:=(Below.refl wb.heap.size wb).alloc nle (.cells #[] 34);have HOW:=Ja hbW;have HBA:=Ja hbA;clear hbW hbA;go_wp2_with fail
     go_loopw [11,12] (fun v jv wz=>∃(u:Nat) (vs:List (List File)),u≤l9[k].Vz.length∧jv= .int .i64 u∧OwB (Rp.slice Rp.file) 34 wb.heap.size v vs wz∧vs.length=u∧vs.map (hidL (mayRead l[i].Uz user l9[k].name))=(l9[k].Vz.take u).map (hidL (mayRead l[i].Uz user l9[k].name))∧Below wb.heap.size wb wz) (fun _ jv _=>l9[k].Vz.length - (intOf jv).toNat)
     case atStart=>exact⟨0,[],Nat.zero_le _,rfl,HOW.out,rfl,rfl,HBA.out⟩
     case round=>
      rename_i v11 _ _
      obtain⟨u,vs,hu,rfl,hown,hvs,hsimv,hbu⟩:=hrel;obtain⟨wd,hwd⟩: ∃wd,wd=wr:=⟨_,rfl⟩;subst hwd;have HOWN:=Ja hown;have HVS:=Ja (And.intro hvs hsimv);have n2c:=Je n2b hbu;have p1c:=Je p1b hbu;have t0c:=Je t0 hbu;have t3c:=Je t3 hbu;have HBU:=Ja hbu;clear hown hvs hsimv;by_cases hul:u<l9[k].Vz.length
      ·have hve2:=HVE.out.step hbu;obtain⟨bv,ov,rfl,AF,cF,fF,s3,sF⟩:=ver_cell hve2 hul;have HFF:=Ja sF;have HTO:=Ja ((Z2.1 HREF.out).2.2 _ (List.getElem_mem hul));have hfl:l9[k].Vz[u].length≤60:=(Yo.1 HTO.out).1;have hfc:=sF.2.1;have hfm:=sF.2.2.1;unfold maxLen at hfm;have u0:(0:Int)≤(u:Int):=by omega
       have u1:(u:Int)<(l9[k].Vz.length:Int):=by omega
       have yt3:=fun y:Obj=>J6 t3c y;have ys3:=fun y:Obj=>J6 s3 y;clear sF hve2 hbu;go_wp2_with(at_builtin;refine V2 (r:=Rp.file) rfl _ _ 34 rfl wd.heap.size 65 il _ 32 Tryz.underlying34 hw0 hw1 hw2 hw3 rfl (by decide) _ 0 [] rfl (World.ownsRow_made wd #[] 0 nle (by simp[maxLen]) rfl) rfl (HFF.out.allocN _) (by unfold maxLen;omega) (by omega) (by simp) ?_)
       intro v13 we zs f1 hal _ hown hgrow;obtain⟨hfl13,hbe⟩:=Fl.made HFF.out hal hown hgrow;have HFL:=Ja hfl13;have HBE:=Ja hbe;clear hal hown hgrow yt3 ys3 hfl13 hbe;obtain⟨AL,cL,fL0,rfl,sL0, -⟩:=id HFL.out;have hLc:=sL0.2.1;have hLm:=sL0.2.2.1;unfold maxLen at hLm;have n2d:=Je n2c HBE.out;have p1d:=Je p1c HBE.out;have t0d:=Je t0c HBE.out;clear sL0;go_wp2_with fail
       go_loopw [14] (fun jv wz=>∃(j:Nat) (fs:List File),j≤l9[k].Vz[u].length∧jv= .int .i64 j∧Fl wz wd.heap.size (.slice AL l9[k].Vz[u].length cL) fs∧hidL (mayRead l[i].Uz user l9[k].name) fs=hidL (mayRead l[i].Uz user l9[k].name) l9[k].Vz[u]∧Below wd.heap.size we wz) (fun jv _=>l9[k].Vz[u].length - (intOf jv).toNat)
       case atStart=>exact⟨0,_,Nat.zero_le _,rfl,HFL.out,rfl,Below.refl _ _⟩
       case round=>
        obtain⟨j,fs,hj,rfl,hfs,hsimf,hbj⟩:=hrel;obtain⟨wf,hwf⟩: ∃wf,wf=wr:=⟨_,rfl⟩;subst hwf;have hlf:fs.length=l9[k].Vz[u].length:=by have:=congrArg List.length hsimf;simpa [hidL] using this
        have hbdf:=HBE.out.trans hbj;have hbaf:=Below.t HBAB.out (Below.t HBU.out hbdf);have HBJ:=Ja hbj;have HFS:=Ja hfs;have HSF2:=Ja hsimf;by_cases hjl:j<l9[k].Vz[u].length
        ·have hjf:j<fs.length:=by omega
         obtain⟨BF,oF,cF',he, -, -,hloF,hltF,s0,s1,sz,hputF⟩:=hfs.put hjf;obtain⟨rfl,rfl⟩:AL=some ⟨BF,oF,none⟩∧cL=cF':=by injection he with e1 e2 e3;exact⟨e1,e3⟩
         have hsz1:=HSZ.out;have hsz2:=HS1.out;have hsz3:=HB0.out.2;have hsz4:=HB9.out.2;have hsz5:=HBU.out.size;have hsz6:=HBAB.out.size;have n2e:=cell_below n2d hbj (by omega);have p1e:=cell_below p1d hbj (by omega);have t0e:=cell_below t0d hbj (by omega);clear hsz1 hsz2 hsz3 hsz4 hsz5 hsz6 he;have HPF:=Ja hputF;have HLOF:=Ja (And.intro hloF hltF);have hru:=HRU.out.step hbaf
         have HPS:=Ja (jbw (show Y1 fs=true by rw[treOk_hid hsimf];exact HTO.out) j hjf);have j0:(0:Int)≤(j:Int):=by omega
         have j1:(j:Int)<(l9[k].Vz[u].length:Int):=by omega
         have C1:=fun n:BelowW wf=>Z0 user l9[k].name fs[j].path false n.val (BelowW.sl n hru) HRFIT.out HPS.out;clear hputF hru hbdf hbaf hbj hfs hsimf hloF hltF;go_upto_region 18 with fail
         cases hmay:Yz l[i].Uz user l9[k].name fs[j].path false
         ·simp only[hmay] at C1;have D1:=Ja C1;have HMAY:=Ja hmay;have S1:=Ja s1;have s1':=s1;have sz':=sz;have s0':=s0;clear C1 hmay;have n0:=BelowW.nonempty wf;have ex0:=BelowW.ex (w:=wf);have g0:=bwc n2e;have g1:=bwc p1e;have g2:=bwc t0e;have g3:=bwc s0;clear n2e p1e t0e s0 s1;refine Jf (by kernel_rfl) (by kernel_rfl) ?_
          repeat(go_big_quiet_step(first|(go_at_call 18;exact BelowW.calls _ (D1.out _))))
          refine wpQuiet_nil ?_;rintro w9 ⟨m9,hw9⟩;have hb9:=m9.property;rw[←hw9] at hb9;clear hw9 m9;have HB9':=Ja hb9;have x1:=Je s1' hb9;clear g0 g1 g2 g3 s1' sz' s0' hb9;have hcv:=fun(w:World) (s:ByteArray)=>run_bytes_of_string (P:=Tryz.prog) w 9 22 5 s Tryz.underlying9 Tryz.underlying22 Tryz.underlying5;go_upto_region 20 with fail
          have HBI:=Ja (BI.start w9 fs[j].bytes (grownCap w9 fs[j].bytes.size 0 5) 5);clear hcv x1;generalize(w9.alloc (.cells (bytesRow fs[j].bytes (grownCap w9 fs[j].bytes.size 0 5)) 5 ((bytesRow fs[j].bytes (grownCap w9 fs[j].bytes.size 0 5)).size,(bytesRow fs[j].bytes (grownCap w9 fs[j].bytes.size 0 5)).size+1))).drew=wg at HBI ⊢;generalize grownCap w9 fs[j].bytes.size 0 5=cB
          have HZF:=Ja (show fs[j].bytes.size≤6 by
           have h:=(Yo.1 (show Y1 fs=true by rw[treOk_hid HSF2.out];exact HTO.out)).2.1 _ (List.getElem_mem hjf);unfold Y3 at h;simp only[Bool.and_eq_true,decide_eq_true_eq] at h;exact h.2)
          go_wp2_with fail
          go_loopw [16] (fun jv wz=>∃q:Nat,q≤fs[j].bytes.size∧jv= .int .i64 q∧BI w9 fs[j].bytes.size wz) (fun jv _=>fs[j].bytes.size - (intOf jv).toNat)
          case atStart=>exact⟨0,Nat.zero_le _,rfl,HBI.out⟩
          case round=>
           obtain⟨q,hq,rfl,hbi⟩:=hrel;have hz6:=HZF.out;by_cases hql:q<fs[j].bytes.size
           ·obtain⟨xb,c0,zz,hput⟩:=hbi.put hql;have HPB:=Ja hput;have q0:(0:Int)≤(q:Int):=by omega
            have q1:(q:Int)<(fs[j].bytes.size:Int):=by omega
            clear hput hbi;obtain⟨xc,hxc⟩:=xor_u8 (xb.toNat:Int) 85;have HXC:=Ja hxc;clear hxc;go_wp2;exact⟨⟨q+1,by omega,by go_num,by rw[HXC.out];exact HPB.out xc⟩,by simp[intOf];omega⟩
           ·have hq':q=fs[j].bytes.size:=by omega
            subst hq';obtain⟨bs,hbl,hbc,hbz,hbw⟩:=hbi;have hcv:=run_convert_bytes_back (P:=Tryz.prog) wr 22 9 5 ⟨w9.heap.size,0,none⟩ cB bs Tryz.underlying22 Tryz.underlying5 Tryz.underlying9 (fun q' hq'=>by rw[Addr.add_lit,Nat.zero_add];exact hbc q' hq');rw[hbl] at hcv;have hsz:(⟨bs.toArray⟩:ByteArray).size=fs[j].bytes.size:=by rw[←hbl];exact List.size_toArray
            have hb9r:=Below.t HB9'.out hbw;obtain⟨B',o',c',he', -, -, -, -, -,t1,tz,hputN⟩:=(HFS.out.below hb9r).put hjf;obtain⟨rfl,rfl⟩:B'=BF∧o'=oF:=by injection he' with e1 e2 e3;injection e1 with e1;injection e1 with e1 e4;exact⟨e1.symm,e4.symm⟩
            have hlo1:=HBJ.out.size;have hlo2:=HBE.out.size;have hlo3:=HLOF.out.1;have HNF:=Ja (hputN ⟨bs.toArray⟩);have HHS:=Ja (hidL_set (s:=⟨bs.toArray⟩) HSF2.out hjf hsz HMAY.out);have HNB:=Ja ((HBJ.out.trans (hb9r.mono (by omega))).setCell (p:=⟨B',o'+j*2+1,none⟩) hlo3 (.string ⟨bs.toArray⟩));clear hbl hbc hbz hbw hsz hb9r he' hputN hlo1 hlo2 hlo3;go_wp2
            exact⟨⟨j+1,_,by omega,by go_num,HNF.out,HHS.out,HNB.out⟩,by simp[intOf];omega⟩
         ·simp only[hmay] at C1;have D1:=Ja C1;clear C1 hmay;have n0:=BelowW.nonempty wf;have ex0:=BelowW.ex (w:=wf);have g0:=bwc n2e;have g1:=bwc p1e;have g2:=bwc t0e;have g3:=bwc s0;clear n2e p1e t0e s0 s1;refine Jf (by kernel_rfl) (by kernel_rfl) ?_
          repeat(go_big_quiet_step(first|(go_at_call 18;exact BelowW.calls _ (D1.out _))))
          refine wpQuiet_nil ?_;rintro w9 ⟨m9,hw9⟩;have hb9:=m9.property;rw[←hw9] at hb9;clear hw9 m9 g0 g1 g2 g3;have hlo1:=HBJ.out.size;have hlo2:=HBE.out.size;have HNF:=Ja (HFS.out.below hb9);have HNB:=Ja (HBJ.out.trans (hb9.mono (by omega)));clear hb9 hlo1 hlo2 sz;go_wp2;exact⟨⟨j+1,_,by omega,by go_num,HNF.out,HSF2.out,HNB.out⟩,by simp[intOf];omega⟩
        ·have hj':j=l9[k].Vz[u].length:=by omega
         subst hj';obtain⟨xs, -,hgr0⟩:=HOWN.out.grow;have hbA:=hbdf.alloc hbdf.size (.cells #[.slice AL l9[k].Vz[u].length cL] 34);obtain⟨hoA,hgr1⟩:=hgr0 hbA;obtain⟨A',c',fF',he',sF',hfn,hfl',hff⟩:=HFS.out.below ((Below.refl wf.heap.size wf).alloc nle (.cells #[.slice AL l9[k].Vz[u].length cL] 34))
         have hszA:(wf.alloc (.cells #[.slice AL l9[k].Vz[u].length cL] 34)).heap.size=wf.heap.size+1:=by simp
         have HSZA:=Ja hszA;have hgrows:=hgr1 (ys:=[.slice AL l9[k].Vz[u].length cL]) (y:=fs) (g:=fF') ⟨A',_,c',congrArg (fun v=>[v]) he',sF'⟩ hfn hfl' (HBU.out.size) hff hszA;rw[HVS.out.1] at hgrows;have HGR:=Ja hgrows;have HV:=Ja HOWN.out.vlow;have HVB:=Ja (Below.t HBU.out hbA);rw[HVS.out.1] at hoA
         have HSV:=Ja (show(vs++ [fs]).map (hidL (mayRead l[i].Uz user l9[k].name))=(l9[k].Vz.take (u+1)).map (hidL (mayRead l[i].Uz user l9[k].name)) by rw[List.map_append,HVS.out.2,List.take_succ_eq_append_getElem hul,List.map_append,List.map_singleton,List.map_singleton,HSF2.out]);clear hgr0 hgr1 hgrows he' sF' hfn hfl' hff hszA hbA hbdf hbaf hbj hfs hsimf
         go_wp2_with(at_builtin;refine wpList_append_lies _ rfl _ _ 50 rfl 0 34 iv _ 1 24 Tryz.underlying50 hv0 hv1 hv2 hv3 rfl (by decide) _ _ _ rfl hoA ⟨wf.heap.size,0,none⟩ 1 1 [.slice AL l9[k].Vz[u].length cL] rfl rfl (Jm wf _ _) (by intro u hu;simp at hu;subst hu;rfl) (by decide) (by unfold maxLen;omega) (by omega) (Nat.zero_le _) (wf.heap.size+1) HSZA.out ?_)
         intro g cap w5 ho2 hgr hor hlt2;have HN:=Ja (HGR.out _ _ _ ho2 hgr hor);have HBB:=Ja (je3 HVB.out hgr HV.out);clear ho2 hgr hor hoA hlt2;go_wp2;exact⟨⟨u+1,vs++ [fs],by omega,by go_num,HN.out,by rw[List.length_append,HVS.out.1];rfl,HSV.out,HBB.out⟩,by simp[intOf];omega⟩
      ·have hu':u=l9[k].Vz.length:=by omega
       have hsv:=HVS.out.2;rw[hu',List.take_length] at hsv;obtain⟨fo,hos, -,hfo, -⟩:=HOWN.out;obtain⟨AV,cV,fv,rfl,hsl,hfv,hcv1,hcv2⟩:=hos.sl;have hfv2: ∀b∈fv,wb.heap.size≤b:=fun b hb=>hfo b (hfv.subset hb);obtain⟨Bn,cn,csn,fin,hen, -, -, -, -,hRn,hBfn,hSfn,hcn,hfzn,hputn⟩:=(HR9.out.below hbu).set HLL9.out.1
       obtain⟨rfl,rfl⟩:B9=Bn∧c9=cn:=by injection hen with e1 e2 e3;injection e1 with e1;injection e1 with e1 e4;exact⟨e1,e3⟩
       obtain⟨wa1,wn1,wc1,wf1,rfl,rfl,hvn⟩:=id hRn;have t3n:wd.cell? ⟨B9,k*4+3,none⟩=some (.slice wa1 wn1 wc1):=hcn 3 _ rfl;have z3n:=hfzn (k*4+3);have hz4:=HB9.out.2;have hz5:=HB0.out.2;have hz6:=HBAB.out.size;have hz7:=HSZ.out;have hz8:=HS1.out
       have HNR:=Ja (hputn 3 (.slice AV vs.length cV) { l9[k] with Vz:=vs} fv (by decide) ⟨AV,_,cV,fv,rfl,rfl,hsl.putN (fun h=>by have:=hfv2 _ h;omega) _⟩ (fun h=>by have:=hfv2 _ h;omega) (fun b hb=>by have:=hfv2 b hb;exact⟨by omega,by omega,by omega⟩));have HNS:=Ja (show(l9.set k { l9[k] with Vz:=vs}).map (hidR l[i].Uz user)=l[i].Fz.map (hidR l[i].Uz user) by
        rw[List.map_set,show hidR l[i].Uz user { l9[k] with Vz:=vs} =hidR l[i].Uz user l9[k] by unfold hidR;simp only[hsv],show hidR l[i].Uz user l9[k]=(l9.map (hidR l[i].Uz user))[k]'(by simpa using HLL9.out.1) by simp,List.set_getElem_self];exact HLL9.out.2)
       have HNB:=Ja ((HB9W.out.trans (hbu.mono hz6)).setCell (p:=⟨B9,k*4+3,none⟩) HB9.out.1 (.slice AV vs.length cV));have hvu:vs.length=u:=HVS.out.1;rw[hvu,hu'] at HNR HNB;have hcv3:=hcv2;unfold maxLen at hcv3;clear hsv hos hfo hsl hfv hfv2 hen hRn hBfn hSfn hcn hfzn hputn hvn hz4 hz5 hz6 hz7 hz8 hcv2;go_wp2;exact⟨⟨k+1,_,by omega,by go_num,HNR.out,HNS.out,HNB.out⟩,by simp[intOf];omega⟩
    ·have hk':k=l[i].Fz.length:=by omega
     subst hk';obtain⟨Aw,cw,f9,he9,hs9,hS9⟩:=HROW9B.out.sl;obtain⟨rfl,rfl⟩:A9=Aw∧c9=cw:=by injection he9 with e1 e2 e3;exact⟨e1,e3⟩
     obtain⟨Bn,cn,csn,fin,hen, -, -, -, -,hRn,hBfn,hSfn,hcn,hfzn,hputn⟩:=(HROWA.out.below HBAB.out).set HLL.out.1;obtain⟨rfl,rfl⟩:B=Bn∧c3=cn:=by injection hen with e1 e2 e3;injection e1 with e1;injection e1 with e1 e4;exact⟨e1,e3⟩
     obtain⟨wa1,wn1,wc1,wf1,wa2,wn2,wc2,wf2,rfl,rfl,hrun,hren⟩:=id hRn;have p2n:wb.cell? ⟨B,i*3+2,none⟩=some (.slice wa2 wn2 wc2):=hcn 2 _ rfl;have z2n:=hfzn (i*3+2);have hBw1:B∉wf1:=fun h=>hBfn (by simp[h]);have HNR:=Ja (hputn 2 (.slice A9 l9.length c9) { l[i] with Fz:=l9} (wf1++f9) (by decide) ⟨_,_,_,wf1,A9,_,c9,f9,rfl,rfl,hrun.putN hBw1 _,hs9.putN (fun h=>(hS9 _ h).1 rfl) _⟩
      (fun h=>(List.mem_append.1 h).elim hBw1 fun h=>(hS9 _ h).1 rfl) (fun b hb=>(List.mem_append.1 hb).elim (fun h=>hSfn b (by simp[h])) fun h=>(hS9 b h).2))
     have HNS:=Ja (show(l.set i { l[i] with Fz:=l9}).map (hidP user)=m.Rz.map (hidP user) by
      rw[List.map_set,show hidP user { l[i] with Fz:=l9} =hidP user l[i] by unfold hidP;simp only[HSIM9.out],show hidP user l[i]=(l.map (hidP user))[i]'(by simpa using HLL.out.1) by simp,List.set_getElem_self];exact HLL.out.2)
     have HNB:=Ja ((HBL.out.trans (HBAB.out.mono HSZ.out)).setCell (p:=⟨B,i*3+2,none⟩) HB0.out.1 (.slice A9 l9.length c9));rw[hlen9] at HNR HNB;clear he9 hs9 hS9 hen hRn hBfn hSfn hcn hfzn hputn hrun hren hBw1;go_wp2;exact⟨⟨i+1,_,by omega,by go_num,HNR.out,HNS.out,HNB.out⟩,by simp[intOf];omega⟩
  ·have hi':i=m.Rz.length:=by omega
   subst hi';obtain⟨Aw,cw,fr,he,hsr,hSr⟩:=hrow.sl;obtain⟨rfl,rfl⟩:A3=Aw∧c3=cw:=by injection he with e1 e2 e3;exact⟨e1,e3⟩
   clear he;rw[hlen] at hsr;have hblk1:=HBL.out.block (w.heap.size+1) (by have:=HS1.out;omega);have kr:Blk wa (w.heap.size+1) 26 H0:=hblk1.trans K1.out;have hbw:=HB3.out.trans (HBL.out.mono (by have:=HS1.out;omega));have n0':=HKN.out.cell 0;have n1':=HKN.out.cell 1;have r0:=kr.cell 0;have r1:=kr.cell 1;have r2:=kr.cell 2;have z:=Jb kr
   simp only[List.getElem?_toArray,List.getElem?_cons_zero,List.getElem?_cons_succ] at n0' n1' r0 r1 r2;have kW:=(((kr.put 0 (.slice A0 n0 c0)).put 1 (.slice A1 n1 c1)).put 2 (.slice A3 m.Rz.length c3))
   have hWb:=((hbw.setCell (p:=⟨w.heap.size+1,0,none⟩) (by simp only;omega) (.slice A0 n0 c0)).setCell (p:=⟨w.heap.size+1,1,none⟩) (by simp only;omega) (.slice A1 n1 c1)).setCell (p:=⟨w.heap.size+1,2,none⟩) (by simp only;omega) (.slice A3 m.Rz.length c3)
   have hsW:=((hsr.putN (b:=w.heap.size+1) (j:=0) (fun h=>(hSr _ h).2 rfl) (.slice A0 n0 c0)).putN (b:=w.heap.size+1) (j:=1) (fun h=>(hSr _ h).2 rfl) (.slice A1 n1 c1)).putN (b:=w.heap.size+1) (j:=2) (fun h=>(hSr _ h).2 rfl) (.slice A3 m.Rz.length c3);have hb1a:=hbw;have j0:=HR0.out.1.below hWb nle;have j1:=HR0.out.2.below hWb nle;clear hblk1 hbw hsr hrow;go_wp2
   generalize((wa.setCell ⟨w.heap.size+1,0,none⟩ (.slice A0 n0 c0)).setCell ⟨w.heap.size+1,1,none⟩ (.slice A1 n1 c1)).setCell ⟨w.heap.size+1,2,none⟩ (.slice A3 m.Rz.length c3)=W at kW hWb hsW j0 j1 ⊢;have e0:=Blk.c0 kW;have e1:=Blk.c1 kW;have e2:=Blk.c2 kW
   refine bodyPost_ret (v:= .agg #[.slice A0 n0 c0,.slice A1 n1 c1,.slice A3 m.Rz.length c3]) (by simp[results,Tryz.results28,go_sem,e0,e1,e2]) rfl ?_;exact⟨{ m with Rz:=l},_,_,_,_,rfl,⟨A0,n0,c0,_,A1,n1,c1,_,A3,_,c3,fr,rfl,rfl,j0,j1,hsW⟩,⟨rfl,rfl,hsim.symm⟩,hWb⟩
theorem blk_ne {w:World} {g b:Nat} {t u:TypeId} {cs ds:Array Value} (h:Blk w g t cs) (k:Blk w b u ds) (ht:t≠u):g≠b:=fun e=>by
 subst e;have:=h.out.symm.trans k.out;simp at this;exact ht this.2
theorem Blk.cells3 {w:World} {g:Nat} {t:TypeId} {a b c:Value} (h:Blk w g t #[a,b,c]):w.cell? ⟨g,0,none⟩=some a∧w.cell? ⟨g,1,none⟩=some b∧w.cell? ⟨g,2,none⟩=some c:=⟨h.cell 0,h.cell 1,h.cell 2⟩
theorem Blk.cells4 {w:World} {g:Nat} {t:TypeId} {a b c d:Value} (h:Blk w g t #[a,b,c,d]):w.cell? ⟨g,0,none⟩=some a∧w.cell? ⟨g,1,none⟩=some b∧w.cell? ⟨g,2,none⟩=some c∧w.cell? ⟨g,3,none⟩=some d:=⟨h.cell 0,h.cell 1,h.cell 2,h.cell 3⟩
theorem Blk.far3 {w:World} {g b:Nat} {t:TypeId} {cs:Array Value} (h:Blk w g t cs) (hn:g≠b) (u v y:Value):Blk (((w.setCell ⟨b,0,none⟩ u).setCell ⟨b,1,none⟩ v).setCell ⟨b,2,none⟩ y) g t cs:=((h.far hn u).far hn v).far hn y
def DoneAt (w:World) (o:Jl×Ans) (v6 v7:Value) (wx:World):Prop:=
 ∃b6 b7 ch av f g,v6= .pointer (some ⟨b6,0,none⟩)∧v7= .pointer (some ⟨b7,0,none⟩)∧Blk wx b6 26 ch.toArray∧Blk wx b7 37 av.toArray∧Rp.house.R wx ch o.1 f∧Rp.ans.R wx av o.2 g∧(f++g).Nodup∧(∀z∈f++g,w.heap.size≤z)∧Free wx (f++g)∧w.heap.size≤b6∧w.heap.size≤b7∧b6∉f++g∧b7∉f++g∧b6≠b7∧Below w.heap.size w wx
structure DoSt (B:Nat) (o:Jl×Ans) (x:Jl) (r:Req) (l1 l3 l4 l5 l6 l7 l8 l9 l10:Bool) (t29 t31 t32 t27 t33 t34 t6 t7:Value) (w:World):Prop where
 res:l4=true→∃ch av f g,t32= .tuple #[.agg ch.toArray,.agg av.toArray]∧Rp.house.R w ch o.1 f∧Rp.ans.R w av o.2 g∧(f++g).Nodup∧(∀z∈f++g,B≤z)∧Free w (f++g)∧(l8=true→∀b,t6= .pointer (some ⟨b,0,none⟩)→b∉f++g)∧(l9=true→∀b,t7= .pointer (some ⟨b,0,none⟩)→b∉f++g)
 mv:l5=true→t27=t32
 e6:l6=true→∀a b,t27= .tuple #[a,b]→t33=a
 e7:l7=true→∀a b,t27= .tuple #[a,b]→t34=b
 a8:l8=true→∃b cs,t6= .pointer (some ⟨b,0,none⟩)∧B≤b∧Blk w b 26 cs∧(l10=false→cs= H0)∧(l10=true→t33= .agg cs)
 a9:l9=true→∃b,t7= .pointer (some ⟨b,0,none⟩)∧B≤b∧Blk w b 37 N0
 ra:l1=true→l4=false→∃cs f,t29= .agg (List.toArray cs)∧Rp.house.R w cs x f
 rq:l3=true→l4=false→∃cs f,t31= .agg (List.toArray cs)∧Rp.req.R w cs r f
 d4:l4=true→l1=true∧l3=true
 d5:l5=true→l4=true
 d6:l6=true→l5=true
 d7:l7=true→l5=true
 d10:l10=true→l6=true∧l8=true∧l9=true
section
variable {B:Nat} {o:Jl×Ans} {x:Jl} {r:Req} {l1 l3 l4 l5 l6 l7 l8 l9 l10:Bool} {t29 t31 t32 t27 t33 t34 t6 t7:Value} {w w':World}
theorem DoSt.start:DoSt B o x r false false false false false false false false false t29 t31 t32 t27 t33 t34 t6 t7 w:=⟨by simp,by simp,by simp,by simp,by simp,by simp,by simp,by simp,by simp,by simp,by simp,by simp,by simp⟩
theorem off {a b:Bool} (h:a=true→b=true) (hb:b=false):a=false:=by
 cases a
 ·rfl
 ·rw[h rfl] at hb;cases hb
theorem DoSt.step (h:DoSt B o x r l1 l3 l4 l5 l6 l7 l8 l9 l10 t29 t31 t32 t27 t33 t34 t6 t7 w) (hb:Below w.heap.size w w'):DoSt B o x r l1 l3 l4 l5 l6 l7 l8 l9 l10 t29 t31 t32 t27 t33 t34 t6 t7 w':=by
 refine⟨fun h4=> ?_,h.mv,h.e6,h.e7,fun h8=> ?_,fun h9=> ?_,fun k1 k4=> ?_,fun k1 k4=> ?_,h.d4,h.d5,h.d6,h.d7,h.d10⟩
 ·obtain⟨ch,av,f,g,h1,h2,h3,h4,h5,h6,h7,h8⟩:=h.res h4;exact⟨ch,av,f,g,h1,Rp.house.below h2 hb nle,Rp.ans.below h3 hb nle,h4,h5,h6.step hb,h7,h8⟩
 ·obtain⟨b,cs,h1,h2,h3,h4⟩:=h.a8 h8;exact⟨b,cs,h1,h2,h3.step hb,h4⟩
 ·obtain⟨b,h1,h2,h3⟩:=h.a9 h9;exact⟨b,h1,h2,h3.step hb⟩
 ·obtain⟨cs,f,h1,h2⟩:=h.ra k1 k4;exact⟨cs,f,h1,Rp.house.below h2 hb nle⟩
 ·obtain⟨cs,f,h1,h2⟩:=h.rq k1 k4;exact⟨cs,f,h1,Rp.req.below h2 hb nle⟩
theorem DoSt.n4 (h:DoSt B o x r l1 l3 false l5 l6 l7 l8 l9 l10 t29 t31 t32 t27 t33 t34 t6 t7 w):l5=false∧l6=false∧l7=false∧l10=false:=by
 have n5:=off h.d5 rfl;have n6:=off h.d6 n5;exact⟨n5,n6,off h.d7 n5,off (fun k=>(h.d10 k).1) n6⟩
theorem DoSt.toH (h:DoSt B o x r false l3 l4 l5 l6 l7 l8 l9 l10 t29 t31 t32 t27 t33 t34 t6 t7 w) (hb:Below w.heap.size w w') {cs:List Value} {f:List Nat} (hR:Rp.house.R w' cs x f):DoSt B o x r true l3 l4 l5 l6 l7 l8 l9 l10 (.agg cs.toArray) t31 t32 t27 t33 t34 t6 t7 w':=by
 have n4:l4=false:=off (fun k=>(h.d4 k).1) rfl;subst n4;have h':=h.step hb;exact⟨by simp,h'.mv,h'.e6,h'.e7,h'.a8,h'.a9,fun _ _=>⟨cs,f,rfl,hR⟩,h'.rq,by simp,h'.d5,h'.d6,h'.d7,h'.d10⟩
theorem DoSt.toQ (h:DoSt B o x r l1 false l4 l5 l6 l7 l8 l9 l10 t29 t31 t32 t27 t33 t34 t6 t7 w) (hb:Below w.heap.size w w') {cs:List Value} {f:List Nat} (hR:Rp.req.R w' cs r f):DoSt B o x r l1 true l4 l5 l6 l7 l8 l9 l10 t29 (.agg cs.toArray) t32 t27 t33 t34 t6 t7 w':=by
 have n4:l4=false:=off (fun k=>(h.d4 k).2) rfl;subst n4;have h':=h.step hb;exact⟨by simp,h'.mv,h'.e6,h'.e7,h'.a8,h'.a9,h'.ra,fun _ _=>⟨cs,f,rfl,hR⟩,by simp,h'.d5,h'.d6,h'.d7,h'.d10⟩
theorem DoSt.call (h:DoSt B o x r true true false l5 l6 l7 l8 l9 l10 t29 t31 t32 t27 t33 t34 t6 t7 w) (hB:B≤w.heap.size) {e:Ending} (hd:Done w o e w'): ∃u,e= .returned u∧Below w.heap.size w w'∧DoSt B o x r true true true l5 l6 l7 l8 l9 l10 t29 t31 u t27 t33 t34 t6 t7 w':=by
 obtain⟨ch,av,f,g,rfl,h1,h2,h3,h4,h5,hb⟩:=hd;obtain⟨n5,n6,n7,n10⟩:=h.n4;subst n5 n6 n7 n10;refine⟨_,rfl,hb,⟨fun _=>⟨ch,av,f,g,rfl,h1,h2,h3,fun z hz=>Nat.le_trans hB (h4 z hz),h5,fun h8 b e hm=> ?_,fun h9 b e hm=> ?_⟩,by simp,by simp,by simp,(h.step hb).a8,(h.step hb).a9,by simp,by simp,by simp,by simp,by simp,by simp,by simp⟩⟩
 ·obtain⟨b',_,k1,_,k3,_⟩:=h.a8 h8;rw[k1] at e;cases e;have:=h4 _ hm;have:=k3.lt;omega
 ·obtain⟨b',k1,_,k3⟩:=h.a9 h9;rw[k1] at e;cases e;have:=h4 _ hm;have:=k3.lt;omega
theorem DoSt.move (h:DoSt B o x r l1 l3 true false l6 l7 l8 l9 l10 t29 t31 t32 t27 t33 t34 t6 t7 w):DoSt B o x r l1 l3 true true l6 l7 l8 l9 l10 t29 t31 t32 t32 t33 t34 t6 t7 w:=by
 have n6:=off h.d6 rfl;have n7:=off h.d7 rfl;have n10:=off (fun k=>(h.d10 k).1) n6;subst n6 n7 n10;exact⟨h.res,fun _=>rfl,by simp,by simp,h.a8,h.a9,h.ra,h.rq,h.d4,fun _=>rfl,by simp,by simp,by simp⟩
theorem DoSt.tup (h:DoSt B o x r l1 l3 l4 true l6 l7 l8 l9 l10 t29 t31 t32 t27 t33 t34 t6 t7 w): ∃a b:Value,t27= .tuple #[a,b]:=by
 obtain⟨ch,av,f,g,h1,_⟩:=h.res (h.d5 rfl);exact⟨_,_,(h.mv rfl).trans h1⟩
theorem DoSt.ext6 (h:DoSt B o x r l1 l3 l4 true false l7 l8 l9 l10 t29 t31 t32 t27 t33 t34 t6 t7 w) {a b:Value} (e:t27= .tuple #[a,b]):DoSt B o x r l1 l3 l4 true true l7 l8 l9 l10 t29 t31 t32 t27 a t34 t6 t7 w:=by
 have n10:=off (fun k=>(h.d10 k).1) rfl;subst n10;refine⟨h.res,h.mv,fun _ a' b' e'=>by rw[e] at e';cases e';rfl,h.e7,fun h8=> ?_,h.a9,h.ra,h.rq,h.d4,h.d5,fun _=>rfl,h.d7,by simp⟩;obtain⟨b,cs,k1,k2,k3,k4,_⟩:=h.a8 h8;exact⟨b,cs,k1,k2,k3,k4,by simp⟩
theorem DoSt.ext7 (h:DoSt B o x r l1 l3 l4 true l6 l7 l8 l9 l10 t29 t31 t32 t27 t33 t34 t6 t7 w) {a b:Value} (e:t27= .tuple #[a,b]):DoSt B o x r l1 l3 l4 true l6 true l8 l9 l10 t29 t31 t32 t27 t33 b t6 t7 w:=
 ⟨h.res,h.mv,h.e6,fun _ a' b' e'=>by rw[e] at e';cases e';rfl,h.a8,h.a9,h.ra,h.rq,h.d4,h.d5,h.d6,fun _=>rfl,h.d10⟩
theorem DoSt.al8 (h:DoSt B o x r l1 l3 l4 l5 l6 l7 false l9 l10 t29 t31 t32 t27 t33 t34 t6 t7 w) (hB:B≤w.heap.size):
  DoSt B o x r l1 l3 l4 l5 l6 l7 true l9 l10 t29 t31 t32 t27 t33 t34 (.pointer (some ⟨w.heap.size,0,none⟩)) t7 (w.alloc (.cells H0 26)):=by
 have n10:=off (fun k=>(h.d10 k).2.1) rfl;subst n10;have hb:=(Below.refl w.heap.size w).alloc nle (.cells H0 26);have h':=h.step hb;refine⟨fun h4=> ?_,h'.mv,h'.e6,h'.e7,fun _=>⟨_,_,rfl,hB,Blk.new _ _ _,fun _=>rfl,by simp⟩,h'.a9,h'.ra,h'.rq,h'.d4,h'.d5,h'.d6,h'.d7,by simp⟩;obtain⟨ch0,av0,f0,g0,i1,i2,i3,i4,i5,i6,_,i8⟩:=h.res h4
 refine⟨ch0,av0,f0,g0,i1,Rp.house.below i2 hb nle,Rp.ans.below i3 hb nle,i4,i5,i6.step hb,fun _ b eb hm=> ?_,i8⟩;cases eb;exact absurd (i6.lt _ hm) (Nat.lt_irrefl _)
theorem DoSt.al9 (h:DoSt B o x r l1 l3 l4 l5 l6 l7 l8 false l10 t29 t31 t32 t27 t33 t34 t6 t7 w) (hB:B≤w.heap.size):
  DoSt B o x r l1 l3 l4 l5 l6 l7 l8 true l10 t29 t31 t32 t27 t33 t34 t6 (.pointer (some ⟨w.heap.size,0,none⟩)) (w.alloc (.cells N0 37)):=by
 have n10:=off (fun k=>(h.d10 k).2.2) rfl;subst n10;have hb:=(Below.refl w.heap.size w).alloc nle (.cells N0 37);have h':=h.step hb;refine⟨fun h4=> ?_,h'.mv,h'.e6,h'.e7,h'.a8,fun _=>⟨_,rfl,hB,Blk.new _ _ _⟩,h'.ra,h'.rq,h'.d4,h'.d5,h'.d6,h'.d7,by simp⟩;obtain⟨ch0,av0,f0,g0,i1,i2,i3,i4,i5,i6,i7,_⟩:=h.res h4
 refine⟨ch0,av0,f0,g0,i1,Rp.house.below i2 hb nle,Rp.ans.below i3 hb nle,i4,i5,i6.step hb,i7,fun _ b eb hm=> ?_⟩;cases eb;exact absurd (i6.lt _ hm) (Nat.lt_irrefl _)
theorem DoSt.at10 (h:DoSt B o x r l1 l3 l4 l5 true l7 true true false t29 t31 t32 t27 t33 t34 t6 t7 w): ∃b P0 p0 q0 P1 p1 q1 P2 p2 q2,t6= .pointer (some ⟨b,0,none⟩)∧t33= .agg #[.slice P0 p0 q0,.slice P1 p1 q1,.slice P2 p2 q2]∧Blk w b 26 H0∧B≤b∧
  DoSt B o x r l1 l3 l4 l5 true l7 true true true t29 t31 t32 t27 t33 t34 t6 t7 (((w.setCell ⟨b,0,none⟩ (.slice P0 p0 q0)).setCell ⟨b,1,none⟩ (.slice P1 p1 q1)).setCell ⟨b,2,none⟩ (.slice P2 p2 q2)):=by
 obtain⟨b,cs,k1,k2,k3,k4,_⟩:=h.a8 rfl;have k4':=k4 rfl;subst k4';obtain⟨b7,h71,h72,k7⟩:=h.a9 rfl;have d5:=h.d6 rfl;have d4:=h.d5 d5;subst d5 d4;obtain⟨ch,av,f,g,h1,hR,hA,hn,hl,hf,n6,n7⟩:=h.res rfl;have e33:=h.e6 rfl _ _ ((h.mv rfl).trans h1);obtain⟨P0,p0,q0,f0,P1,p1,q1,f1,P2,p2,q2,f2,rfl,hff,c0,c1,c2⟩:=id hR;have hne:=blk_ne k3 k7 (by decide);have m6:=n6 rfl b k1
 have RO:=((((Only.refl [b] w).setCell (p:=⟨b,0,none⟩) (.inl (by simp)) (.slice P0 p0 q0)).setCell (p:=⟨b,1,none⟩) (.inl (by simp)) (.slice P1 p1 q1)).setCell (p:=⟨b,2,none⟩) (.inl (by simp)) (.slice P2 p2 q2))
 have hk: ∀z∈f++g,(((w.setCell ⟨b,0,none⟩ (.slice P0 p0 q0)).setCell ⟨b,1,none⟩ (.slice P1 p1 q1)).setCell ⟨b,2,none⟩ (.slice P2 p2 q2)).heap[z]? =w.heap[z]? :=fun z hz=>RO.block z (hf.lt z hz) (by
  simp;exact fun e=>m6 (e▸hz))
 have R:=((k3.put 0 (.slice P0 p0 q0)).put 1 (.slice P1 p1 q1)).put 2 (.slice P2 p2 q2)
 refine⟨b,P0,p0,q0,P1,p1,q1,P2,p2,q2,k1,e33,k3,k2,⟨fun _=>⟨_,_,f,g,h1,Rp.house.keep hR fun z hz=>hk z (List.mem_append_left _ hz),Rp.ans.keep hA fun z hz=>hk z (List.mem_append_right _ hz),hn,hl,hf.keep hk,n6,n7⟩,h.mv,h.e6,h.e7,fun _=>⟨b,_,k1,k2,by simpa using R,by simp,fun _=>e33⟩,fun _=>⟨b7,h71,h72,Blk.far3 k7 (Ne.symm hne) _ _ _⟩,by simp,by simp,h.d4,h.d5,h.d6,h.d7,fun _=>⟨rfl,rfl,rfl⟩⟩⟩
theorem DoSt.done {w0:World} (h:DoSt w0.heap.size o x r l1 l3 true true true true true true true t29 t31 t32 t27 t33 t34 t6 t7 w) (hb:Below w0.heap.size w0 w):
  ∃b7 V0 v0 u0 V1 v1 u1,t7= .pointer (some ⟨b7,0,none⟩)∧t34= .agg #[.int .i64 o.2.code,.slice V0 v0 u0,.slice V1 v1 u1,.int .i64 o.2.n]∧Blk w b7 37 N0∧
   DoneAt w0 o t6 t7 ((((w.setCell ⟨b7,0,none⟩ (.int .i64 o.2.code)).setCell ⟨b7,1,none⟩ (.slice V0 v0 u0)).setCell ⟨b7,2,none⟩ (.slice V1 v1 u1)).setCell ⟨b7,3,none⟩ (.int .i64 o.2.n)):=by
 obtain⟨b6,cs,h61,h62,k6,_,h63⟩:=h.a8 rfl;obtain⟨b7,h71,h72,k7⟩:=h.a9 rfl;obtain⟨ch,av,f,g,h1,hR,hA,hn,hl,hf,n6,n7⟩:=h.res rfl;have e27:=(h.mv rfl).trans h1;have e33:=(h.e6 rfl _ _ e27).symm.trans (h63 rfl);cases e33;have e34:=h.e7 rfl _ _ e27;obtain⟨V0,v0,u0,i0,V1,v1,u1,i1,rfl,hgg,a0,a1⟩:=id hA;have hne:=blk_ne k6 k7 (by decide)
 obtain⟨R2,RO⟩:=Xo k7 (.int .i64 o.2.code) (.slice V0 v0 u0) (.slice V1 v1 u1) (.int .i64 o.2.n);have m6:=n6 rfl b6 h61;have m7:=n7 rfl b7 h71;have hk: ∀z∈f++g,((((w.setCell ⟨b7,0,none⟩ (.int .i64 o.2.code)).setCell ⟨b7,1,none⟩ (.slice V0 v0 u0)).setCell ⟨b7,2,none⟩ (.slice V1 v1 u1)).setCell ⟨b7,3,none⟩ (.int .i64 o.2.n)).heap[z]? =w.heap[z]? :=fun z hz=>RO.block z (hf.lt z hz) (by
  simp;exact fun e=>m7 (e▸hz))
 refine⟨b7,V0,v0,u0,V1,v1,u1,h71,e34,k7,b6,b7,ch,_,f,g,h61,h71,k6.only RO (by simp[hne]),R2,Rp.house.keep hR fun z hz=>hk z (List.mem_append_left _ hz),Rp.ans.keep hA fun z hz=>hk z (List.mem_append_right _ hz),hn,hl,hf.keep hk,h62,h72,m6,m7,hne, ?_⟩;exact hb.trans (RO.below (fun z hz=>by simp at hz;omega) hb.size)
end
theorem setD_self {L:Array Bool} {i:Nat} (h:i<L.size):(L.setIfInBounds i true).getD i false=true:=by simp[h]
theorem HouseSim.refl (u:Int) (m:Jl):HouseSim u m m:=⟨rfl,rfl,rfl⟩
section
variable {B:Nat} {o o':Jl×Ans} {x x':Jl} {r:Req} {l3 l4 l5 l6 l7 l8 l9 l10:Bool} {t29 t31 t32 t27 t33 t34 t6 t7:Value} {w:World}
theorem DoSt.other (h:DoSt B o x r false l3 l4 l5 l6 l7 l8 l9 l10 t29 t31 t32 t27 t33 t34 t6 t7 w):DoSt B o' x' r false l3 l4 l5 l6 l7 l8 l9 l10 t29 t31 t32 t27 t33 t34 t6 t7 w:=by
 have n4:l4=false:=off (fun k=>(h.d4 k).1) rfl;subst n4;exact⟨by simp,h.mv,h.e6,h.e7,h.a8,h.a9,by simp,h.rq,h.d4,h.d5,h.d6,h.d7,h.d10⟩
end
def hG (b:Nat) (hc:Array Value) (u:Int):Xr:=fun t v _=>match t with
 | 3=>v= .pointer (some ⟨b,0,none⟩)
 | 4=>v= .pointer (some ⟨b+1,0,none⟩)
 | 60=>v= .agg hc
 | 61=>v= .pointer (some ⟨b+1,0,none⟩)
 | 62=>v= .int .i64 u
 |_=>True
theorem hG_stays (b:Nat) (hc:Array Value) (u:Int):Zx (fun _ _=>True) (hG b hc u):=fun t v w w' h _=>h
def hC (w0:World) (m:Jl) (r:Req) (L:Array Bool) (τ:Tmp→Value) (w:World):Prop:=
 Below w0.heap.size w0 w∧∃V,HouseSim r.user m V∧DoSt w0.heap.size (jai V r) V r (L.getD 3 false) (L.getD 4 false) (L.getD 5 false) (L.getD 6 false) (L.getD 7 false) (L.getD 8 false) (L.getD 9 false) (L.getD 10 false) (L.getD 11 false) (τ 63) (τ 64) (τ 65) (τ 59) (τ 66) (τ 67) (τ 9) (τ 10) w
section
variable {w0 w w':World} {m:Jl} {r:Req} {L:Array Bool} {τ:Tmp→Value} {u:Value}
theorem hC_q0 (h:hC w0 m r L τ w) (hL:L.size=13):hC w0 m r (L.setIfInBounds 0 true) (jaf τ (some 60) u) w:=by
 obtain⟨h1,V,hs,h2⟩:=h;refine⟨h1,V,hs, ?_⟩;simp (disch:=decide) only[getD_set_ne];exact h2
theorem hC_q1 (h:hC w0 m r L τ w) (hL:L.size=13):hC w0 m r (L.setIfInBounds 1 true) (jaf τ (some 61) u) w:=by
 obtain⟨h1,V,hs,h2⟩:=h;refine⟨h1,V,hs, ?_⟩;simp (disch:=decide) only[getD_set_ne];exact h2
theorem hC_q2 (h:hC w0 m r L τ w) (hL:L.size=13):hC w0 m r (L.setIfInBounds 2 true) (jaf τ (some 62) u) w:=by
 obtain⟨h1,V,hs,h2⟩:=h;refine⟨h1,V,hs, ?_⟩;simp (disch:=decide) only[getD_set_ne];exact h2
theorem hC_veil (h:hC w0 m r L τ w) (hL:L.size=13) (hl:L.getD 3 false=false) (hb:Below w.heap.size w w') {V':Jl} (hs':HouseSim r.user m V') {cs:List Value} {f:List Nat} (hR:Rp.house.R w' cs V' f):hC w0 m r (L.setIfInBounds 3 true) (jaf τ (some 63) (.agg cs.toArray)) w':=by
 obtain⟨h1,V,hs,h2⟩:=h;rw[hl] at h2;refine⟨Below.t h1 hb,V',hs', ?_⟩;simp (disch:=decide) only[getD_set_ne];rw[setD_self (by omega)];exact(DoSt.other h2).toH hb hR
theorem hC_req (h:hC w0 m r L τ w) (hL:L.size=13) (hl:L.getD 4 false=false) {cs:List Value} {f:List Nat} (hR:Rp.req.R w cs r f):hC w0 m r (L.setIfInBounds 4 true) (jaf τ (some 64) (.agg cs.toArray)) w:=by
 obtain⟨h1,V,hs,h2⟩:=h;rw[hl] at h2;refine⟨h1,V,hs, ?_⟩;simp (disch:=decide) only[getD_set_ne];rw[setD_self (by omega)];exact h2.toQ (Below.refl _ _) hR
theorem hC_call (h:hC w0 m r L τ w) (hL:L.size=13) (k1:L.getD 3 false=true) (k3:L.getD 4 false=true) (hl:L.getD 5 false=false):
  ∃V,HouseSim r.user m V∧(∃cs f,τ 63= .agg (List.toArray cs)∧Rp.house.R w cs V f)∧(∃cs f,τ 64= .agg (List.toArray cs)∧Rp.req.R w cs r f)∧
   ∀ {e:Ending} {w':World},Done w (jai V r) e w'→∃u,e= .returned u∧hC w0 m r (L.setIfInBounds 5 true) (jaf τ (some 65) u) w':=by
 obtain⟨h1,V,hs,h2⟩:=h;refine⟨V,hs,h2.ra k1 hl,h2.rq k3 hl,fun {e w'} hd=> ?_⟩;rw[hl,k1,k3] at h2;obtain⟨u,he,hb,h3⟩:=h2.call h1.size hd;refine⟨u,he,Below.t h1 hb,V,hs, ?_⟩;simp (disch:=decide) only[getD_set_ne];rw[setD_self (by omega),k1,k3];exact h3
theorem hC_move (h:hC w0 m r L τ w) (hL:L.size=13) (h5:L.getD 5 false=true) (hl:L.getD 6 false=false):hC w0 m r (L.setIfInBounds 6 true) (jaf τ (some 59) (τ 65)) w:=by
 obtain⟨h1,V,hs,h2⟩:=h;rw[hl,h5] at h2;refine⟨h1,V,hs, ?_⟩;simp (disch:=decide) only[getD_set_ne];rw[setD_self (by omega),h5];exact h2.move
theorem hC_tup (h:hC w0 m r L τ w) (h6:L.getD 6 false=true): ∃a b:Value,τ 59= .tuple #[a,b]:=by
 obtain⟨-,V,hs,h2⟩:=h;rw[h6] at h2;exact h2.tup
theorem hC_ext7 (h:hC w0 m r L τ w) (hL:L.size=13) (h6:L.getD 6 false=true) (hl:L.getD 7 false=false) {a b:Value} (e:τ 59= .tuple #[a,b]):hC w0 m r (L.setIfInBounds 7 true) (jaf τ (some 66) a) w:=by
 obtain⟨h1,V,hs,h2⟩:=h;rw[h6,hl] at h2;refine⟨h1,V,hs, ?_⟩;simp (disch:=decide) only[getD_set_ne];rw[setD_self (by omega),h6];exact h2.ext6 e
theorem hC_ext8 (h:hC w0 m r L τ w) (hL:L.size=13) (h6:L.getD 6 false=true) {a b:Value} (e:τ 59= .tuple #[a,b]):hC w0 m r (L.setIfInBounds 8 true) (jaf τ (some 67) b) w:=by
 obtain⟨h1,V,hs,h2⟩:=h;rw[h6] at h2;refine⟨h1,V,hs, ?_⟩;simp (disch:=decide) only[getD_set_ne];rw[setD_self (by omega),h6];exact h2.ext7 e
theorem hC_al9 (h:hC w0 m r L τ w) (hL:L.size=13) (hl:L.getD 9 false=false):hC w0 m r (L.setIfInBounds 9 true) (jaf τ (some 9) (.pointer (some ⟨w.heap.size,0,none⟩))) (w.alloc (.cells H0 26)):=by
 obtain⟨h1,V,hs,h2⟩:=h;rw[hl] at h2;refine⟨h1.alloc h1.size _,V,hs, ?_⟩;simp (disch:=decide) only[getD_set_ne];rw[setD_self (by omega)];exact h2.al8 h1.size
theorem hC_al10 (h:hC w0 m r L τ w) (hL:L.size=13) (hl:L.getD 10 false=false):hC w0 m r (L.setIfInBounds 10 true) (jaf τ (some 10) (.pointer (some ⟨w.heap.size,0,none⟩))) (w.alloc (.cells N0 37)):=by
 obtain⟨h1,V,hs,h2⟩:=h;rw[hl] at h2;refine⟨h1.alloc h1.size _,V,hs, ?_⟩;simp (disch:=decide) only[getD_set_ne];rw[setD_self (by omega)];exact h2.al9 h1.size
theorem hC_st (h:hC w0 m r L τ w) (hL:L.size=13) (h6:L.getD 7 false=true) (h8:L.getD 9 false=true) (h9:L.getD 10 false=true) (hl:L.getD 11 false=false):
  ∃b P0 p0 q0 P1 p1 q1 P2 p2 q2,τ 9= .pointer (some ⟨b,0,none⟩)∧τ 66= .agg #[.slice P0 p0 q0,.slice P1 p1 q1,.slice P2 p2 q2]∧Blk w b 26 H0∧
   hC w0 m r (L.setIfInBounds 11 true) (jaf τ none undef) (((w.setCell ⟨b,0,none⟩ (.slice P0 p0 q0)).setCell ⟨b,1,none⟩ (.slice P1 p1 q1)).setCell ⟨b,2,none⟩ (.slice P2 p2 q2)):=by
 obtain⟨h1,V,hs,h2⟩:=h;rw[h6,h8,h9,hl] at h2;obtain⟨b,P0,p0,q0,P1,p1,q1,P2,p2,q2,e1,e2,k,hB,h3⟩:=h2.at10;refine⟨b,P0,p0,q0,P1,p1,q1,P2,p2,q2,e1,e2,k,((h1.setCell hB _).setCell hB _).setCell hB _,V,hs, ?_⟩;simp (disch:=decide) only[getD_set_ne];rw[setD_self (by omega),h6,h8,h9];exact h3
end
theorem DoneAt.boxes {w wx:World} {o:Jl×Ans} {x:Jl} {a:Ans} {v6 v7:Value} (h:DoneAt w o v6 v7 wx) (ho:o=(x,a)): ∃g6 g7 A0 n0 c0 A1 n1 c1 A2 c2 B0 k0 d0 B1 k1 d1,v6= .pointer (some ⟨g6,0,none⟩)∧v7= .pointer (some ⟨g7,0,none⟩)∧
  HB wx g6 x (.slice A0 n0 c0) (.slice A1 n1 c1) (.slice A2 x.Rz.length c2)∧AB wx g7 a (.slice B0 k0 d0) (.slice B1 k1 d1)∧Below w.heap.size w wx:=by
 subst ho;obtain⟨b6,b7,ch,av,f,g,h1,h2,k6,k7,R,A, -, -, -, -, -, -, -, -,hb⟩:=h;obtain⟨A0,n0,c0,f0,A1,n1,c1,f1,A2,n2,c2,f2,rfl, -, -, -,hr⟩:=id R;obtain⟨B0,k0,d0,i0,B1,k1,d1,i1,rfl, -, -, -⟩:=id A;obtain rfl:=hr.1;exact⟨b6,b7,A0,n0,c0,A1,n1,c1,A2,c2,B0,k0,d0,B1,k1,d1,h1,h2,⟨k6,f,R⟩,⟨k7,g,A⟩,hb⟩
section
variable {P:Program} {C:World→Prop} {T:World→World→Prop} {V:Value→World→Prop} {o:Oper} {a:Act} {w:World}
theorem upT_row (ty:TypeId) (x:Operand) (ho:o.op= .load ty x) (g:Nat) (hx:a.eval x= .pointer (some ⟨g,0,none⟩)) (t:TypeId) (cs:Array Value) (fr:Nat×Nat) (d:TypeDesc) (hg:w.heap[g]? =some (.cells cs t fr))
  (hu:P.underlying ty=some d) (hd:(match d with| .struct _| .array _ _=>true|_=>false)=true) (hi:(P.info? ty).map (·.size)=some cs.size) (hc:C w) (ht:T w w) (hv:V (.agg cs) w):upT P C T w V ((execOp a.eval o).run P w):=by
 have hr:(execOp a.eval o).run P w= .ok (.value (.agg cs)) w:=by
  unfold execOp;simp only[ho,hx,Instr.loadAt,Instr.sureAddr,Sem.run_bind,Sem.run_pure,Result.andThen_ok,run_loadVar_row w g t ty cs fr d hg hu hd hi]
 rw[hr];exact⟨hc,ht,hv⟩
theorem upT_call (f:Nat) (he:Enters P f) {args:Array Operand} {ts:Array TypeId} (hop:o.op= .call { callee:= .value (.func f),args:=args,argTypes:=ts}) (vs:Array Value) (hv:args.map a.eval=vs)
  (hc:Calls P f vs w fun e w'=>∃u,e= .returned u∧C w'∧T w w'∧V u w'):upT P C T w V ((execOp a.eval o).run P w):=by
 subst hv;have hr:(execOp a.eval o).run P w= .ok (.enter f (args.map a.eval)) w:=by simp[execOp,hop,resolve,Act.eval,invoke,Deferred.ofValue,go_sem,he (args.map a.eval) w]
 rw[hr];exact hc
end
def hsΓ (gx gy gq:Nat) (xc yc:Array Value) (u i back:Int) (s:ByteArray) (l:List File):Xr:=fun t v w=>match t with
 | 4=>v= .pointer (some ⟨gq,0,none⟩)
 | 5=>v= .pointer (some ⟨gx,0,none⟩)
 | 9=>v= .pointer (some ⟨gy,0,none⟩)
 | 11=>v= .int .i64 i
 | 13=>v= .int .i64 back
 | 14=>v= .string s
 | 123=>v= .agg xc
 | 124=>v= .pointer (some ⟨gq,0,none⟩)
 | 125=>v= .int .i64 u
 | 126=>v= .int .i64 i
 | 127=>v= .string s
 | 128=>v= .int .i64 back
 | 129=>∃A c f,v= .slice A l.length c∧SlR Rp.file w A l.length c l f
 | 130=>v= .agg yc
 | 131=>v= .pointer (some ⟨gq,0,none⟩)
 | 132=>v= .int .i64 u
 | 133=>v= .int .i64 i
 | 134=>v= .string s
 | 135=>v= .int .i64 back
 | 136=>∃A c f,v= .slice A l.length c∧SlR Rp.file w A l.length c l f
 | 137=>v= .bool true
 | 138=>v= .bool false
 |_=>True
theorem rowF_below {v:Value} {w w':World} {l:List File} (h: ∃A c f,v= .slice A l.length c∧SlR Rp.file w A l.length c l f) (hb:Below w.heap.size w w'): ∃A c f,v= .slice A l.length c∧SlR Rp.file w' A l.length c l f:=by
 obtain⟨A,c,f,h1,h2⟩:=h;exact⟨A,c,f,h1,h2.step hb⟩
theorem hsΓ_stays (gx gy gq:Nat) (xc yc:Array Value) (u i back:Int) (s:ByteArray) (l:List File):Zx (fun w w'=>Below w.heap.size w w') (hsΓ gx gy gq xc yc u i back s l):=fun t v w w' h hb=>by
 unfold hsΓ at*;split at h<;>first|exact h|exact rowF_below h hb
theorem lawHidden (w:World) {A:Option Addr} {n c:Nat} {code:List UInt8} {fp:List Nat} (hx:SlR Rp.byte w A n c code fp):
  Calls Tryz.prog 6 #[.slice A n c] w fun e w'=>e= .returned (.bool true)∧Below w.heap.size w w':=by
 obtain⟨rfl,hcx,hmx, -⟩:=id hx;unfold maxLen at hmx;go_enter Tryz.func6,Tryz.ntmps6;by_cases hlen:(1048576:Int)<(code.length:Int)
 ·go_wp2;go_ret;exact⟨rfl,Below.refl _ _⟩
 go_wp2_with fail;refine(jp5 _ hx).mono ?_;rintro e w1 ⟨m,q,A0,n0,c0,A1,n1,c1,A2,n2,c2,A3,c3,f,fq,rfl,hR,hQ,hok,hsm, -, -,HB⟩;clear hx;obtain rfl:n2=m.Rz.length:=by
  obtain⟨_,_,_,_,_,_,_,_,_,_,_,_,he, -, -, -,h2⟩:=hR;cases he;exact h2.1
 go_upto_region 4 with fail
 refine wp_HQ ⟨_,hR⟩ ⟨_,hQ⟩ ?_;intro w2 hm hq hb3;replace HB:=Below.t HB hb3;have hf:=Ja (And.intro hok.1 (jo1 hsm));clear hR hQ hb3 hok;have HS:=Ja hsm;clear hsm;obtain⟨x,a,ho⟩: ∃x a,jai m q=(x,a):=⟨_,_,rfl⟩;have HO:=Ja ho;clear ho;obtain⟨x0,x1,x2⟩:=hm.cells;go_wp2_with((refine wpList_load_row rfl 31 (.tmp 4) rfl _ rfl _ _ _ _ hq.k.out Tryz.underlying31 rfl jb3 ?_))
 go_wp2_with fail;refine(implDo hm hq hf.out.1 hf.out.2).mono ?_;rintro e w3 hd;obtain⟨A4,na4,ca4,A5,na5,ca5,A6,ca6,B0,nb0,cb0,B1,nb1,cb1,rfl,hX,hA,hb3⟩:=hd.parts HO.out;replace hm:=hm.step hb3;replace hq:=hq.step hb3;replace HB:=Below.t HB hb3;clear hb3 hd x0 x1 x2;go_upto_region 5 with fail
 refine wp_HA hX hA ?_;intro w4 hx ha hb3;replace hm:=hm.step hb3;replace hq:=hq.step hb3;replace HB:=Below.t HB hb3;clear hb3 hX hA;obtain⟨x0,x1,x2⟩:=hm.cells;go_wp2_with((refine wpList_load_row rfl 31 (.tmp 4) rfl _ rfl _ _ _ _ hq.k.out Tryz.underlying31 rfl jb3 ?_));go_wp2_with fail;refine(specDo hm hq hf.out.1 hf.out.2).mono ?_;rintro e w5 hd
 obtain⟨A7,na7,ca7,A8,na8,ca8,A9,ca9,B2,nb2,cb2,B3,nb3,cb3,rfl,hX,hA,hb3⟩:=hd.parts HO.out;replace hm:=hm.step hb3;replace hq:=hq.step hb3;replace HB:=Below.t HB hb3;replace hx:=hx.step hb3;replace ha:=ha.step hb3;clear hb3 hd x0 x1 x2;go_upto_region 6 with fail
 refine wp_HA hX hA ?_;intro w6 hy hb hb3;replace hm:=hm.step hb3;replace hq:=hq.step hb3;replace HB:=Below.t HB hb3;replace hx:=hx.step hb3;replace ha:=ha.step hb3;clear hb3 hX hA;obtain⟨x0,x1,x2⟩:=hx.cells;obtain⟨y0,y1,y2⟩:=hy.cells;go_wp2_with fail;refine(jqp hx hy).mono ?_;rintro e w7 ⟨rfl,hb3⟩;replace hm:=hm.step hb3;replace hq:=hq.step hb3;replace HB:=Below.t HB hb3
 replace hx:=hx.step hb3;replace ha:=ha.step hb3;replace hy:=hy.step hb3;replace hb:=hb.step hb3;clear hb3 x0 x1 x2 y0 y1 y2;obtain⟨x0,x1,x2,x3⟩:=ha.cells;obtain⟨y0,y1,y2,y3⟩:=hb.cells;go_wp2_with fail;refine(jp8 ha hb).mono ?_;rintro e w8 ⟨rfl,hb3⟩;replace hm:=hm.step hb3;replace hq:=hq.step hb3;replace HB:=Below.t HB hb3;replace hx:=hx.step hb3;replace ha:=ha.step hb3
 clear hb3 x0 x1 x2 x3 y0 y1 y2 y3 hy hb;obtain⟨x0,x1,x2⟩:=hm.cells;go_wp2_with fail;refine(jhe _ hm.r.choose_spec hf.out.1).mono ?_;rintro e w9 ⟨rfl,hb3⟩;replace hm:=hm.step hb3;replace hq:=hq.step hb3;replace HB:=Below.t HB hb3;replace hx:=hx.step hb3;replace ha:=ha.step hb3;clear hb3 x0 x1 x2;have H0:=Ja (fun h=>code_zero h HO.out);cases hmo:Ys m
 ·have h0:=H0.out (by simp[hmo]);obtain⟨x0, -, -, -⟩:=ha.cells;rw[h0] at x0;go_wp2_with fail;refine(chOk_any _).mono ?_;rintro e w20 ⟨rfl,hb4⟩;go_wp2;go_ret;exact⟨rfl,Below.t HB hb4⟩
 obtain⟨q0,q1,q2,q3,q4,q5,q6,q7,q8,q9,q10,q11,q12,q13,q14⟩:=hq.cells;go_wp2_with fail;clear q0 q1 q2 q3 q4 q5 q6 q7 q8 q9 q10 q11 q12 q13 q14;refine(jhd _ hq.r.choose_spec hf.out.2).mono ?_;rintro e w10 ⟨rfl,hb3⟩;replace hm:=hm.step hb3;replace hq:=hq.step hb3;replace HB:=Below.t HB hb3;replace hx:=hx.step hb3;replace ha:=ha.step hb3;clear hb3;cases hro:Yw q
 ·have h0:=H0.out (by simp[hro]);obtain⟨x0, -, -, -⟩:=ha.cells;rw[h0] at x0;go_wp2_with fail;refine(chOk_any _).mono ?_;rintro e w20 ⟨rfl,hb4⟩;go_wp2;go_ret;exact⟨rfl,Below.t HB hb4⟩
 have HOK:=Ja (And.intro hmo hro);have HD:=Ja (show Zn m q=(x,a) by rw[←HO.out,jhr HOK.out]);clear hmo hro H0;go_upto_region 10 with fail
 obtain⟨W,hW⟩: ∃W,W=w10:=⟨_,rfl⟩;subst hW
 go_cut [9,10] from 59 to 67 (fun v9 v10 wx=>∃V,HouseSim q.user m V∧DoneAt W (jai V q) v9 v10 wx)
 case first=>
  obtain⟨fh,hR0⟩:=hm.r;obtain⟨fr,hQ0⟩:=hq.r;have RH:=Ja (fun(w':World) (hb:Below W.heap.size W w')=>Rp.house.below hR0 hb nle);have RQ:=Ja (fun(w':World) (hb:Below W.heap.size W w')=>Rp.req.below hQ0 hb nle);have KH:=Ja hm.k;have KQ:=Ja hq.k;clear hm hq hx ha HB hR0 hQ0 HD HS HO
  refine Jz 12 _ rfl (hC W m q) (fun _ _=>True) (hG w1.heap.size #[.slice A0 n0 c0,.slice A1 n1 c1,.slice A2 m.Rz.length c2] q.user) (by kernel_rfl) rfl (by kernel_rfl) rfl (hG_stays _ _ _) (fun _=>trivial) ⟨⟨(Below.refl _ _).drew,m,HouseSim.refl _ _,DoSt.start⟩,fun s hs=> ?_,by rfl⟩ ?_ ?_
  ·by_cases e3:s=3
   ·subst e3;rfl
   by_cases e4:s=4
   ·subst e4;rfl
   have hne:s∉ [60,61,62,63,64,65,59,66,67,9,10]:=fun hm=>by
    simp only[List.mem_cons,List.not_mem_nil,or_false] at hm;rcases hm with rfl|rfl|rfl|rfl|rfl|rfl|rfl|rfl|rfl|rfl|rfl<;>exact absurd hs (by decide)
   simp only[List.mem_cons,List.not_mem_nil,or_false,not_or] at hne;unfold hG;split<;>first|trivial|(exfalso;omega)
  ·intro i p hi hp;have hcases:i=0∨i=1∨i=2∨i=3∨i=4∨i=5∨i=6∨i=7∨i=8∨i=9∨i=10∨i=11:=by omega
   rcases hcases with rfl|rfl|rfl|rfl|rfl|rfl|rfl|rfl|rfl|rfl|rfl|rfl
   all_goals(obtain rfl:=Option.some.inj hp)
   ·intro L a w' hL hl hall hC hR;exact fits_load rfl 26 (.tmp 3) rfl w1.heap.size ((Wm a 3).trans (hR 3 (by decide))) _ _ _ _ (KH.out.step hC.1).out Tryz.underlying26 rfl jd6 trivial ⟨rfl,hC_q0 hC hL⟩
   ·intro L a w' hL hl hall hC hR;have r4:_=_:=hR 4 (by decide);simp[Region.wanted,Jg,go_sem,execOp,upT,r4];exact⟨rfl,hC_q1 hC hL⟩
   ·intro L a w' hL hl hall hC hR;have r61:_=_:=hR 61 (by decide);have q0:=(KQ.out.step hC.1).cell 0;simp only[V5,List.getElem?_toArray,List.getElem?_cons_zero] at q0;simp[Region.wanted,Jg,go_sem,execOp,upT,r61,q0];exact⟨rfl,hC_q2 hC hL⟩
   ·intro L a w' hL hl hall hC hR;have r60:_=_:=hR 60 (by decide);have r62:_=_:=hR 62 (by decide);refine jo0 rfl 28 (enters_of Tryz.func28 (by kernel_rfl) rfl) rfl #[.agg #[.slice A0 n0 c0,.slice A1 n1 c1,.slice A2 m.Rz.length c2],.int .i64 q.user,.int .u8 85] (by simp[Wm,Act.eval,r60,r62]) ((chVeils_any q.user _ (RH.out _ hC.1) HOK.out.1).mono ?_)
    rintro e wn ⟨V',K',U',R',f',rfl,hRV,hsV,hb⟩;exact⟨_,rfl,trivial,trivial,hC_veil hC hL hl hb hsV hRV⟩
   ·intro L a w' hL hl hall hC hR;exact fits_load rfl 31 (.tmp 4) rfl (w1.heap.size+1) ((Wm a 4).trans (hR 4 (by decide))) _ _ _ _ (KQ.out.step hC.1).out Tryz.underlying31 rfl jb3 trivial ⟨trivial,hC_req hC hL hl (RQ.out _ hC.1)⟩
   ·intro L a w' hL hl hall hC hR;have k3:=hall ⟨3,.data⟩ (by simp) (by decide);have k4:=hall ⟨4,.data⟩ (by simp) (by decide);obtain⟨V,hs,⟨csa,fa,r1',hRa⟩,⟨csq,fq,r2',hRq⟩,hcall⟩:=hC_call hC hL k3 k4 hl;have r1:a.tmps[63]?.getD undef= .agg csa.toArray:=r1';have r2:a.tmps[64]?.getD undef= .agg csq.toArray:=r2'
    refine jo0 rfl 8 (enters_of Tryz.func8 (by kernel_rfl) rfl) rfl #[.agg csa.toArray,.agg csq.toArray] (by simp[Wm,r1,r2]) ((jhz (x:=V) (r:=q) _ hRa hRq (Jv (hs.ok HOK.out.1)) hf.out.2).mono ?_);intro e wn hd;obtain⟨u,he,hc⟩:=hcall hd;exact⟨u,he,trivial,trivial,hc⟩
   ·intro L a w' hL hl hall hC hR;have h4:=hall ⟨5,.data⟩ (by simp) (by decide);simp[Region.wanted,Jg,go_sem,execOp,upT];exact⟨trivial,hC_move hC hL h4 hl⟩
   ·intro L a w' hL hl hall hC hR;have h5:=hall ⟨6,.data⟩ (by simp) (by decide);obtain⟨p,q,hpq⟩:=hC_tup hC h5;have r1:a.tmps[59]?.getD undef= .tuple #[p,q]:=hpq;simp[Region.wanted,Jg,go_sem,execOp,upT,r1];exact⟨trivial,hC_ext7 hC hL h5 hl hpq⟩
   ·intro L a w' hL hl hall hC hR;have h5:=hall ⟨6,.data⟩ (by simp) (by decide);obtain⟨p,q,hpq⟩:=hC_tup hC h5;have r1:a.tmps[59]?.getD undef= .tuple #[p,q]:=hpq;simp[Region.wanted,Jg,go_sem,execOp,upT,r1];exact⟨trivial,hC_ext8 hC hL h5 hpq⟩
   ·intro L a w' hL hl hall hC hR;simp[Region.wanted,Jg,go_sem,execOp,upT];exact⟨trivial,hC_al9 hC hL hl⟩
   ·intro L a w' hL hl hall hC hR;simp[Region.wanted,Jg,go_sem,execOp,upT];exact⟨trivial,hC_al10 hC hL hl⟩
   ·intro L a w' hL hl hall hC hR;obtain⟨b,P0,p0,q0',P1,p1,q1',P2,p2,q2',e1,e2,k6,h3⟩:=hC_st hC hL (hall ⟨7,.data⟩ (by simp) (by decide)) (hall ⟨9,.data⟩ (by simp) (by decide)) (hall ⟨10,.phase⟩ (by simp) (by decide)) hl;have r1:a.tmps[9]?.getD undef=_:=e1;have r2:a.tmps[66]?.getD undef=_:=e2;obtain⟨c0',c1',c2'⟩:=Blk.cells3 k6;have f0':=Jb k6 0;have f1':=Jb k6 1
    have f2':=Jb k6 2;simp[Region.wanted,Jg,go_sem,execOp,upT,r1,r2,c0',c1',c2',f0',f1',f2'];exact h3
  ·intro l w4 τ hall hC;simp only[List.take_succ_cons,List.take_zero,jdb];intro v60 _ v61 _ v62 _ v63 _ v64 _ v65 _ v59 _ v66 _ v67 _ v9 _ v10 _ hτ;obtain⟨hB,V,hs,hD⟩:=hC;rw[hall 5 (by decide),hall 6 (by decide),hall 7 (by decide),hall 8 (by decide),hall 9 (by decide),hall 10 (by decide),hall 11 (by decide)] at hD;obtain⟨b7,V0,y0,z0,V1,y1,z1,t7,t34,k7,hdone⟩:=hD.done hB
   have s6:τ 9=v9:=by rw[←hτ];simp[tau,Act.put]
   have s7:τ 10=v10:=by rw[←hτ];simp[tau,Act.put]
   have s34:τ 67=v67:=by rw[←hτ];simp[tau,Act.put]
   rw[s6,s7] at hdone;rw[s7] at t7;rw[s34] at t34;subst t7 t34;have HDN:=Ja hdone;have HVS:=Ja hs;obtain⟨c70,c71,c72,c73⟩:=Blk.cells4 k7;have f70:=Jb k7 0;have f71:=Jb k7 1;have f72:=Jb k7 2;have f73:=Jb k7 3;clear hdone hτ hD s6 s7 s34 k7 hs;go_wp2_with fail;go_meet
   case rel=>exact⟨V,HVS.out,HDN.out⟩
 case rest=>
  obtain⟨w20,hw20⟩: ∃w20,w20=wc:=⟨_,rfl⟩;subst hw20;obtain⟨V,hsv,hd⟩:=hcut;obtain⟨y,b',ho2⟩: ∃y b',jai V q=(y,b'):=⟨_,_,rfl⟩;have hd2:Zn V q=(y,b'):=by rw[←ho2,jhr ⟨hsv.ok HOK.out.1,HOK.out.2⟩]
  have hid:=hidden hsv HOK.out.1;obtain⟨hid1,hid2⟩:=hid;rw[HD.out,hd2] at hid1 hid2;obtain rfl:a=b':=hid1;obtain⟨g6,g7,D0,dn0,dc0,D1,dn1,dc1,D2,dc2,E0,en0,ec0,E1,en1,ec1,rfl,rfl,hy,hb,hb3⟩:=hd.boxes ho2;have HXO:=Ja (show Ys x=true by have h:=jh2 HOK.out.1 HOK.out.2;rw[HD.out] at h;exact h)
  have HYO:=Ja (show Ys y=true by have h:=jh2 (hsv.ok HOK.out.1) HOK.out.2;rw[hd2] at h;exact h);have HRL:=Ja (show x.Rz.length=m.Rz.length by have h:=repos_length m q;rw[HD.out] at h;exact h)
  have HSEE:=Ja (show ∀(i:Nat) (name:ByteArray) (back:Int) (h1:i<m.Rz.length) (h2:i<x.Rz.length),m.Rz[i].Uz=x.Rz[i].Uz→jq1 y q.user i name back=jq1 x q.user i name back from fun i name back h1 h2 hr=>by
   obtain⟨q',h3,h4⟩:=hid2 i _ _ (List.getElem?_eq_getElem h1) (List.getElem?_eq_getElem h2) hr.symm;exact(sees_sim HXO.out HYO.out (List.getElem?_eq_getElem h2) h3 h4).symm)
  clear hid2 hd hd2 ho2 hsv;replace hm:=hm.step hb3;replace hq:=hq.step hb3;replace HB:=Below.t HB hb3;replace hx:=hx.step hb3;replace ha:=ha.step hb3;clear hb3;obtain⟨x0,x1,x2,x3⟩:=ha.cells;obtain⟨y0,y1,y2,y3⟩:=hb.cells;go_wp2_with fail;refine(jp8 ha hb).mono ?_;rintro e w21 ⟨rfl,hb3⟩;replace hm:=hm.step hb3;replace hq:=hq.step hb3;replace HB:=Below.t HB hb3;replace hx:=hx.step hb3
  replace hy:=hy.step hb3;clear hb3 x0 x1 x2 x3 y0 y1 y2 y3 hb ha;obtain⟨y0,y1,y2⟩:=hy.cells;go_wp2_with fail;refine(jhy _ hy.r.choose_spec (Jv HYO.out)).mono ?_;rintro e w22 ⟨rfl,hb3⟩;rw[HYO.out];replace hm:=hm.step hb3;replace hq:=hq.step hb3;replace HB:=Below.t HB hb3;replace hx:=hx.step hb3;replace hy:=hy.step hb3;clear hb3 y0 y1 y2;obtain⟨w30,hw30⟩: ∃w30,w30=w22:=⟨_,rfl⟩
  subst hw30;have HX:=Ja hx;have HM:=Ja hm;have HQ:=Ja hq;have HY:=Ja hy;have HBB:=Ja HB;obtain⟨-, -,x2⟩:=hx.cells;have hxl:x.Rz.length≤3:=by have:=(Jo.1 HXO.out).2.1.2;omega
  clear hx hm hq hy HB HD HS HO;go_wp2_with fail
  go_loopw [11] (fun iv wz=>∃i:Nat,i≤x.Rz.length∧iv= .int .i64 i∧Below w30.heap.size w30 wz) (fun iv _=>x.Rz.length - (intOf iv).toNat)
  case atStart=>exact⟨0,Nat.zero_le _,rfl,Below.refl _ _⟩
  case round=>
   obtain⟨i,hi,rfl,hbi⟩:=hrel;obtain⟨wa,hwa⟩: ∃wa,wa=wr:=⟨_,rfl⟩;subst hwa;have hxa:=HX.out.step hbi;replace x2:=hxa.cells.2.2;have HBI:=Ja hbi;by_cases hlt:i<x.Rz.length;rotate_left
   ·have hi':i=x.Rz.length:=by omega
    subst hi';clear hxa hbi;go_wp2;go_ret;exact⟨rfl,Below.t HBB.out HBI.out⟩
   have HIM:=Ja (show i<m.Rz.length by have:=HRL.out;omega);have HRP:=Ja (RepoFit.of (repo_of HXO.out (List.getElem?_eq_getElem hlt)));obtain⟨fr,hr⟩:=hxa.Rz;obtain⟨-,hrc,hrm, -⟩:=id hr;unfold maxLen at hrm;obtain⟨b,o,E1,l1,d1,f1,E2,l2,d2,f2,rfl, -, -, -, -,p2, -,s2, -⟩:=J7 hr hlt;obtain rfl:=s2.1;have hrl:x.Rz[i].Fz.length≤3:=HRP.out.nrefs;have i0:(0:Int)≤(i:Int):=by omega
   have i1:(i:Int)<(x.Rz.length:Int):=by omega
   have hsc:=s2.2.1;have hsm:=s2.2.2.1;unfold maxLen at hsm;have HS2:=Ja s2;clear hxa hbi hr s2;go_wp2_with fail
   go_loopw [12] (fun kv wz=>∃k:Nat,k≤x.Rz[i].Fz.length∧kv= .int .i64 k∧Below wa.heap.size wa wz) (fun kv _=>x.Rz[i].Fz.length - (intOf kv).toNat)
   case atStart=>exact⟨0,Nat.zero_le _,rfl,Below.refl _ _⟩
   case round=>
    obtain⟨k,hk,rfl,hbk⟩:=hrel;obtain⟨wb,hwb⟩: ∃wb,wb=wr:=⟨_,rfl⟩;subst hwb;have HBK:=Ja (Below.t HBI.out hbk);have HBW:=Ja hbk;replace x2:=Je x2 hbk;replace p2:=Je p2 hbk;have hs2:=HS2.out.step hbk;by_cases hkl:k<x.Rz[i].Fz.length;rotate_left
    ·have hk':k=x.Rz[i].Fz.length:=by omega
     subst hk';clear hbk hs2;go_wp2;exact⟨⟨i+1,by omega,by go_num,HBK.out⟩,by simp[intOf];omega⟩
    obtain⟨bR,oR,B9,m9,d9,g9,rfl, -, -,t0, -, -, -, -, -⟩:=J3 hs2 hkl;have k0:(0:Int)≤(k:Int):=by omega
    have k1:(k:Int)<(x.Rz[i].Fz.length:Int):=by omega
    clear hbk hs2;go_wp2_with fail
    go_loopw [13] (fun jv wz=>∃j:Nat,j≤3∧jv= .int .i64 j∧Below wb.heap.size wb wz) (fun jv _=>3 - (intOf jv).toNat)
    case atStart=>exact⟨0,Nat.zero_le _,rfl,Below.refl _ _⟩
    case round=>
     obtain⟨j,hj,rfl,hbj⟩:=hrel;obtain⟨wd,hwd⟩: ∃wd,wd=wr:=⟨_,rfl⟩;subst hwd;have HBJ:=Ja (Below.t HBK.out hbj);have HBD:=Ja (Below.t HBW.out hbj);replace x2:=Je x2 hbj;replace p2:=Je p2 hbj;replace t0:=Je t0 hbj;have HBN:=Ja hbj;clear hbj;by_cases hj3:j<3;rotate_left
     ·have hj':j=3:=by omega
      subst hj';go_wp2;exact⟨⟨k+1,by omega,by go_num,HBD.out⟩,by simp[intOf];omega⟩
     have j1:(j:Int)<3:=by omega
     go_upto_region 23 with fail
     clear t0 p2;have hma:=HM.out.step HBJ.out;have hxa:=HX.out.step HBJ.out;obtain⟨fr,hr⟩:=hxa.Rz;obtain⟨fm,hrmm⟩:=hma.Rz;have hlm:=HIM.out;obtain⟨_,_,E1',l1',d1',f1',_,_,_,_,he, -, -, -,p1, -,s1, -, -⟩:=J7 hr hlt;cases he;obtain⟨bm,om,E3,l3,d3,f3,_,_,_,_,rfl,hmc,hmm, -,m1, -,s3, -, -⟩:=J7 hrmm hlm;obtain⟨-, -,m2⟩:=hma.cells;obtain⟨-,hrc3,hrm3, -⟩:=id hrmm
     unfold maxLen at hrm3;have i2:(i:Int)<(m.Rz.length:Int):=by omega
     have C1:=fun n:BelowW wd=>jld _ (BelowW.sl n s3) (BelowW.sl n s1);clear hr hrmm s1 s3 hma hxa;cases hd:decide (m.Rz[i].Uz=x.Rz[i].Uz)
     all_goals
      simp only[hd] at C1;have D1:=Ja C1;have HDD:=Ja hd;clear C1 hd hmc hmm hrc3 hrm3 hj3 hj hxl hrl hsc hsm hrc hrm;have n0:=BelowW.nonempty wd;have ex0:=BelowW.ex (w:=wd);have g0:=bwc x2;have g1:=bwc m2;have g2:=bwc p1;have g3:=bwc m1;clear x2 m2 p1 m1;refine Jf (by kernel_rfl) (by kernel_rfl) ?_
      repeat(go_big_quiet_step(first|(go_at_call 15;exact BelowW.calls _ (D1.out _))))
      refine wpQuiet_nil ?_;rintro w9 ⟨m9,hw9⟩;have hb9:=m9.property;rw[←hw9] at hb9;clear hw9 m9
     ·go_wp2;go_ret;exact⟨rfl,Below.t (Below.t HBB.out HBJ.out) hb9⟩
     ·have HRE:=Ja (of_decide_eq_true HDD.out);have HX9:=Ja (HX.out.step (Below.t HBJ.out hb9));have HY9:=Ja (HY.out.step (Below.t HBJ.out hb9));have HQ9:=Ja (HQ.out.step (Below.t HBJ.out hb9));have HB9:=Ja (And.intro (Below.t HBN.out hb9) (Below.t (Below.t HBB.out HBJ.out) hb9));have HSE:=Ja (HSEE.out i x.Rz[i].Fz[k].name (j:Int) HIM.out hlt HRE.out);clear hb9 D1
      go_upto_region 25 with fail
      have HQ0:=Ja HQ9.out.k;have HX0:=Ja HX9.out.k;have HY0:=Ja HY9.out.k;obtain⟨fxx,hRX⟩:=HX9.out.r;obtain⟨fyy,hRY⟩:=HY9.out.r;have RX:=Ja hRX;have RY:=Ja hRY;have HJ3:=Ja (show(j:Int)≤9223372036854775807 by omega);obtain⟨ll,hll⟩: ∃ll,ll=jq1 x q.user i x.Rz[i].Fz[k].name j:=⟨_,rfl⟩;rw[←hll] at HSE;have HL:=Ja hll;clear hll hRX hRY HX9 HY9 HQ9
      go_cut [138] from 123 to 138 (fun v wx=>v= .bool false∧Below w9.heap.size w9 wx)
      case first=>
       refine jq7 (fun _ w'=>Below w9.heap.size w9 w') (fun w w'=>Below w.heap.size w w') (hsΓ w3.heap.size g6 (w1.heap.size+1) #[.slice A4 na4 ca4,.slice A5 na5 ca5,.slice (some ⟨b,o,none⟩) x.Rz.length ca6] #[.slice D0 dn0 dc0,.slice D1 dn1 dc1,.slice D2 y.Rz.length dc2] q.user i j x.Rz[i].Fz[k].name ll) (by kernel_rfl) (by kernel_rfl) (hsΓ_stays _ _ _ _ _ _ _ _ _ _) (fun _=>Below.refl _ _) ⟨(Below.refl _ _).drew,fun s hs=> ?_,by rfl⟩ ?_ ?_
       ·by_cases e4:s=4
        ·subst e4;rfl
        by_cases e5:s=5
        ·subst e5;rfl
        by_cases e9:s=9
        ·subst e9;rfl
        by_cases e11:s=11
        ·subst e11;rfl
        by_cases e13:s=13
        ·subst e13;rfl
        by_cases e14:s=14
        ·subst e14;rfl
        have hne:s∉ [123,124,125,126,127,128,129,130,131,132,133,134,135,136,137,138]:=fun hm=>by
         simp only[List.mem_cons,List.not_mem_nil,or_false] at hm;rcases hm with rfl|rfl|rfl|rfl|rfl|rfl|rfl|rfl|rfl|rfl|rfl|rfl|rfl|rfl|rfl|rfl<;>exact absurd hs (by decide)
        simp only[List.mem_cons,List.not_mem_nil,or_false,not_or] at hne;unfold hsΓ;split<;>first|trivial|(exfalso;omega)
       ·intro p hp;simp only[List.mem_cons,List.not_mem_nil,or_false] at hp;rcases hp with rfl|rfl|rfl|rfl|rfl|rfl|rfl|rfl|rfl|rfl|rfl|rfl|rfl|rfl|rfl|rfl
        ·intro kk a w' hk hC hR;have r5:_=_:=hR 5 (by decide);rw[if_pos (show Region.wanted _ _=true by simp[Region.wanted])];exact upT_row 26 (.tmp 5) rfl w3.heap.size ((Wm a 5).trans r5) _ _ _ _ (HX0.out.step hC).out Tryz.underlying26 rfl jd6 hC (Below.refl _ _) rfl
        ·intro kk a w' hk hC hR;have r4:_=_:=hR 4 (by decide);simp[Region.wanted,Jg,go_sem,execOp,upT,r4];exact⟨hC,Below.refl _ _,rfl⟩
        ·intro kk a w' hk hC hR;have r124:_=_:=hR 124 (by decide);have q0:=(HQ0.out.step hC).cell 0;simp only[V5,List.getElem?_toArray,List.getElem?_cons_zero] at q0;simp[Region.wanted,Jg,go_sem,execOp,upT,r124,q0];exact⟨hC,Below.refl _ _,rfl⟩
        ·intro kk a w' hk hC hR;have r11:_=_:=hR 11 (by decide);simp[Region.wanted,Jg,go_sem,execOp,upT,r11];exact⟨hC,Below.refl _ _,rfl⟩
        ·intro kk a w' hk hC hR;have r14:_=_:=hR 14 (by decide);simp[Region.wanted,Jg,go_sem,execOp,upT,r14];exact⟨hC,Below.refl _ _,rfl⟩
        ·intro kk a w' hk hC hR;have r13:_=_:=hR 13 (by decide);simp[Region.wanted,Jg,go_sem,execOp,upT,r13];exact⟨hC,Below.refl _ _,rfl⟩
        ·intro kk a w' hk hC hR;have r123:_=_:=hR 123 (by decide);have r125:_=_:=hR 125 (by decide);have r126:_=_:=hR 126 (by decide);have r127:_=_:=hR 127 (by decide);have r128:_=_:=hR 128 (by decide);rw[if_pos (show Region.wanted _ _=true by simp[Region.wanted])]
         refine upT_call 23 (enters_of Tryz.func23 (by kernel_rfl) rfl) rfl #[.agg #[.slice A4 na4 ca4,.slice A5 na5 ca5,.slice (some ⟨b,o,none⟩) x.Rz.length ca6],.int .i64 q.user,.int .i64 i,.string x.Rz[i].Fz[k].name,.int .i64 j] (by simp[Wm,r123,r125,r126,r127,r128]) ((jq8 q.user i _ j HJ3.out _ (Rp.house.below RX.out hC nle) (Jv HXO.out)).mono ?_)
         rintro e wn ⟨vv,rfl,hown,hbb⟩;rw[←HL.out] at hown;obtain⟨A,c,f,rfl,hs, -⟩:=Xw (k:=2) (enc:=Jj) (hk:=fun _=>rfl) (h1:=Vz) hown;exact⟨_,rfl,Below.t hC hbb,hbb,A,c,f,rfl,hs⟩
        ·intro kk a w' hk hC hR;have r9:_=_:=hR 9 (by decide);rw[if_pos (show Region.wanted _ _=true by simp[Region.wanted])];exact upT_row 26 (.tmp 9) rfl g6 ((Wm a 9).trans r9) _ _ _ _ (HY0.out.step hC).out Tryz.underlying26 rfl jd6 hC (Below.refl _ _) rfl
        ·intro kk a w' hk hC hR;have r4:_=_:=hR 4 (by decide);simp[Region.wanted,Jg,go_sem,execOp,upT,r4];exact⟨hC,Below.refl _ _,rfl⟩
        ·intro kk a w' hk hC hR;have r131:_=_:=hR 131 (by decide);have q0:=(HQ0.out.step hC).cell 0;simp only[V5,List.getElem?_toArray,List.getElem?_cons_zero] at q0;simp[Region.wanted,Jg,go_sem,execOp,upT,r131,q0];exact⟨hC,Below.refl _ _,rfl⟩
        ·intro kk a w' hk hC hR;have r11:_=_:=hR 11 (by decide);simp[Region.wanted,Jg,go_sem,execOp,upT,r11];exact⟨hC,Below.refl _ _,rfl⟩
        ·intro kk a w' hk hC hR;have r14:_=_:=hR 14 (by decide);simp[Region.wanted,Jg,go_sem,execOp,upT,r14];exact⟨hC,Below.refl _ _,rfl⟩
        ·intro kk a w' hk hC hR;have r13:_=_:=hR 13 (by decide);simp[Region.wanted,Jg,go_sem,execOp,upT,r13];exact⟨hC,Below.refl _ _,rfl⟩
        ·intro kk a w' hk hC hR;have r130:_=_:=hR 130 (by decide);have r132:_=_:=hR 132 (by decide);have r133:_=_:=hR 133 (by decide);have r134:_=_:=hR 134 (by decide);have r135:_=_:=hR 135 (by decide);rw[if_pos (show Region.wanted _ _=true by simp[Region.wanted])]
         refine upT_call 23 (enters_of Tryz.func23 (by kernel_rfl) rfl) rfl #[.agg #[.slice D0 dn0 dc0,.slice D1 dn1 dc1,.slice D2 y.Rz.length dc2],.int .i64 q.user,.int .i64 i,.string x.Rz[i].Fz[k].name,.int .i64 j] (by simp[Wm,r130,r132,r133,r134,r135]) ((jq8 q.user i _ j HJ3.out _ (Rp.house.below RY.out hC nle) (Jv HYO.out)).mono ?_)
         rintro e wn ⟨vv,rfl,hown,hbb⟩;rw[HSE.out] at hown;obtain⟨A,c,f,rfl,hs, -⟩:=Xw (k:=2) (enc:=Jj) (hk:=fun _=>rfl) (h1:=Vz) hown;exact⟨_,rfl,Below.t hC hbb,hbb,A,c,f,rfl,hs⟩
        ·intro kk a w' hk hC hR;obtain⟨A,c,f,r129,hs⟩:=hR 129 (by decide);obtain⟨B,d,g,r136,ht⟩:=hR 136 (by decide);rw[if_pos (show Region.wanted _ _=true by simp[Region.wanted])];refine upT_call 21 (enters_of Tryz.func21 (by kernel_rfl) rfl) rfl #[.slice A ll.length c,.slice B ll.length d] (by simp[Wm,r129,r136]) ((chFiles_same hs ht).mono ?_);rintro e wn ⟨rfl,hbb⟩
         exact⟨_,rfl,Below.t hC hbb,hbb,rfl⟩
        ·intro kk a w' hk hC hR;have r137:_=_:=hR 137 (by decide);simp[Region.wanted,Jg,go_sem,execOp,upT,r137];exact⟨hC,Below.refl _ _,rfl⟩
       ·intro w' hC;simp only[jdb];intro v123 f123 v124 f124 v125 f125 v126 f126 v127 f127 v128 f128 v129 f129 v130 f130 v131 f131 v132 f132 v133 f133 v134 f134 v135 f135 v136 f136 v137 f137 v138 f138;subst f138;show Exit.then _ _ _ _ _;simp only[Act.put,List.setIfInBounds_toArray,List.set_cons_zero,List.set_cons_succ];go_wp2_with fail;go_meet
        case rel=>exact⟨rfl,hC⟩
      case rest=>
       obtain⟨rfl,hbc⟩:=hcut;have HBF:=Ja (Below.t HB9.out.1 hbc);clear hbc;go_wp2;exact⟨⟨j+1,by omega,by go_num,HBF.out⟩,by simp[intOf];omega⟩
def Opens {α H:Type} (enc:TypeId×Value→H) (P:Program) (t:TypeId) (r:Rp α) (ok:α→Prop):Prop:=
 ∀ {w:World} {base:Nat} {spare:Nat→Bool} {held:Bool} {fuel:Nat} {cs:List Value} {x:DataW H×List MemPlace},DataW.trod enc P w base spare held fuel t cs=some x→∃y fp,r.R w cs y fp∧ok y
section
variable {H:Type} {enc:TypeId×Value→H} {P:Program}
theorem opens_byte {t:TypeId} (ht:P.underlying t=some (.int .u8)):Opens enc P t Rp.byte (fun _=>True):=fun h=>by
 obtain⟨n,rfl,_,hw⟩:=DataW.trod_int ht h;simp[Lit.wf,IntKind.min,IntKind.max,IntKind.signed,IntKind.bits] at hw;refine⟨UInt8.ofNat n.toNat,[],⟨?_,rfl⟩,trivial⟩;have e:((UInt8.ofNat n.toNat).toNat:Int)=n:=by
  rw[UInt8.toNat_ofNat'];omega
 show [Value.int .u8 n]= [Value.int .u8 ((UInt8.ofNat n.toNat).toNat:Int)];rw[e]
theorem spot_none {w:World} {a:Addr} {v:Value} (h:w.cell? a=some v):a.spot=none:=by
 unfold World.cell? at h;split at h
 ·split at h
  ·cases h
  ·rename_i hs;simpa using hs
 ·cases h
theorem opens_rows {α:Type} {r:Rp α} {ok:α→Prop} {w:World} {base:Nat} {a:Addr} : ∀(len:Nat),(∀i,i<len→∃cs' y f,w.cells? base (a.add (i*r.k)) r.k=some cs'∧r.R w cs' y f∧ok y)→
  ∃xs l fp,l.length=len∧AllR r w xs l fp∧(∀y∈l,ok y)∧∀j u,xs[j]? =some u→w.cell? (a.add j)=some u
 | 0,_=>⟨[],[],[],rfl,⟨rfl,rfl⟩,by simp,by simp⟩
 |len+1,h=>by
  obtain⟨xs,l,fp,hl,ha,hok,hc⟩:=opens_rows len (fun i hi=>h i (by omega));obtain⟨cs',y,f,hcs,hr,hy⟩:=h len (by omega);obtain⟨_,hcl,hat⟩:=World.cells?_some hcs;have hxl:=ha.len;refine⟨xs++cs',l++ [y],fp++f,by simp[hl],ha.snoc hr,fun z hz=> ?_,fun j u hu=> ?_⟩
  ·rcases List.mem_append.1 hz with hz|hz
   ·exact hok z hz
   ·simp at hz;subst hz;exact hy
  ·by_cases hj:j<xs.length
   ·rw[List.getElem?_append_left hj] at hu;exact hc j u hu
   ·rw[List.getElem?_append_right (by omega)] at hu;have hlt:=(List.getElem?_eq_some_iff.1 hu).1;have:=hat (i:=j - xs.length) (by omega);rw[hu] at this;rw[Go.Deep.add_add,show len*r.k+(j - xs.length)=j from by rw[hl] at hxl;omega] at this;exact this
theorem opens_slice {α:Type} {r:Rp α} {ok:α→Prop} {t e:TypeId} (ht:P.underlying t=some (.slice e)) (hC:P.cellsOf e=r.k) (hk:0<r.k) (h:Opens enc P e r ok):Opens enc P t (Rp.slice r) (fun l=>∀y∈l,ok y):=fun {w base spare held fuel cs x} hr=>by
 rcases open_slice ht hr with ⟨rfl,_⟩|⟨a,len,cap,m,n,D,Pl,rfl,hb,hl,hm,hmm,_,hi⟩
 ·exact⟨[],[],⟨none,0,0,rfl,SlR.nil⟩,by simp⟩
 ·have hle:len≤m:=by rw[hmm];split<;>omega
  rw[hC] at hi;obtain⟨xs,l,fp,hlen,ha,hok,hc⟩:=opens_rows (r:=r) (ok:=ok) (w:=w) (base:=base) (a:=a) len (fun i hii=>by
   obtain⟨cs',hcs,htr⟩:=hi i (by omega);obtain⟨y,f,hR,hy⟩:=h htr;exact⟨cs',y,f,hcs,hR,hy⟩)
  have hxl:=ha.len;by_cases h0:len=0
  ·subst h0;have:l= []:=List.eq_nil_of_length_eq_zero hlen;subst this;obtain⟨rfl,rfl⟩:=ha;exact⟨[],[],⟨some a,0,cap,rfl,rfl,Nat.zero_le _,hm,[],[],[],⟨by simp,.inl ⟨rfl,rfl⟩⟩,⟨rfl,rfl⟩,rfl⟩,by simp⟩
  ·have hpos:0<xs.length:=by rw[hxl,hlen];exact Nat.mul_pos (by omega) hk
   have h00:=hc 0 xs[0] (List.getElem?_eq_getElem hpos);have ha0:a.add 0=a:=by simp[Addr.add]
   rw[ha0] at h00;obtain⟨b,o,s⟩:=a;have hs:s=none:=spot_none h00;subst hs;refine⟨l,[b]++fp,⟨_,len,cap,rfl,hlen.symm,hl,hm,xs,[b],fp,⟨by rw[hxl,hlen],.inr ⟨by omega,b,o,rfl,rfl,World.block_lt_of_cell? w _ h00,fun j u hu=> ?_⟩⟩,ha,rfl⟩,hok⟩;have:=hc j u hu;rwa [Addr.add_lit] at this
theorem post_of_below {f:Func} {s:ChangeSpec} {apart fresh handsOn again:Bool} {W W':World} {args:Array Value} {v:Value} {ds gs:List (DataW H)} {before pa pv:List MemPlace}
  (hW:DataW.Whole enc P f.params.toList s.vars apart W args.toList ds gs before)
  (hres: ∀(b:Nat) (sp:Nat→Bool) (hd:Bool),DataW.TrodAll enc P W' b sp hd f.resultTypes.toList (v.resultList f.resultTypes.size) (s.fn H (ds++gs)).results [])
  (hargs: ∀sp:Nat→Bool,(∀p∈before,sp p.block=true)→DataW.TrodAll enc P W' 0 sp true f.params.toList args.toList (s.fn H (ds++gs)).args pa)
  (hvars: ∀sp:Nat→Bool,(∀p∈before,sp p.block=true)→DataW.TrodVars enc P W' sp s.vars (s.fn H (ds++gs)).vars pv)
  (hps:before=pa++pv) (hb:Below W.heap.size W W')
  (hok: ∀(j:Nat) (t:TypeId) (r:Value),f.resultTypes[j]? =some t→(v.resultList f.resultTypes.size)[j]? =some r→Value.okWide P W' .any 0 t r):
  s.post enc P f apart fresh handsOn again W args v W':=by
 have hlt: ∀p∈before,p.block<W.heap.size:=fun p hp=>hW.lt p hp;have hold: ∀p∈before,(fun b=>decide (b<W.heap.size)) p.block=true:=fun p hp=>by simpa using hlt p hp
 refine⟨ds,gs,before,[],pa,pv,hW,hres _ _ _,hargs _ hold,hvars _ hold,World.keptBut_mono (fun p hp=>⟨hp, ?_⟩) (hb.frame (·∈before)),fun _=> ?_⟩
 ·rw[hps,List.mem_append] at hp;exact Or.inr hp
 ·obtain⟨_,_,_,_,_,hz,hn⟩:=hW;refine⟨hok,_,_,([]++pa)++pv,⟨[]++pa,pv,trodAll_append (hargs _ (fun _ _=>rfl)) (hres _ _ _),hvars _ (fun _ _=>rfl),rfl, ?_, ?_⟩, ?_⟩
  ·intro b off hp;have hin:MemPlace.cell b off∈before:=by rw[hps];simpa using hp
   rw[hb.frozen (hlt _ hin)];exact hz b off hin
  ·intro ha;have:=hn ha;rw[hps] at this;simpa using this
  ·intro p hp _;rw[hps];simpa using hp
end
theorem fnMdlHidden_own:ownKnob Tryz.prog.godebug=none:=by kernel_rfl
theorem fnMdlHidden_laidOut:laidOutB Tryz.prog=true:=by kernel_rfl
theorem fnMdlHidden_contract (H:Type) (enc:TypeId×Value→H) (W:World) (base:Nat) (args:Array Value) (ds gs:List (DataW H)) (before:List MemPlace)
  (hval0: ∀(j:Nat) t v,Tryz.f6.params[j]? =some t→args[j]? =some v→Value.okWide Tryz.prog W .any base t v)
  (hW:DataW.Whole enc Tryz.prog Tryz.f6.params.toList Rows.fnMdlHiddenSpec.vars false W args.toList ds gs before):
  Calls Tryz.prog 6 args W fun e W'=>∃v,e= .returned v∧Rows.fnMdlHiddenSpec.post enc Tryz.prog Tryz.f6 false true false false W args v W':=by
 have hval:=hval0;have hW':=hW;obtain⟨p,q,hA0,hV,rfl,hfz,hnd⟩:=hW;have hA:DataW.TrodAll enc Tryz.prog W 0 (fun _=>true) true Tryz.f6.params.toList args.toList ds p:=hA0;rw[Tryz.params6] at hA hval;obtain⟨v0,d0,rfl,rfl,h0⟩:=trodAll_one hA;obtain⟨rfl,rfl⟩:=trodVars_none hV;have h0k:=h0;obtain⟨a0,len0,cap0,rfl⟩:=okWide_slice Tryz.underlying22 (hval 0 22 v0 rfl rfl);obtain⟨fuel0,hf0⟩:=h0
 obtain⟨l0,fp0,⟨A0,n0,c0,hcs0,hs0⟩,hw0⟩:=opens_slice Tryz.underlying22 (by kernel_rfl) (by decide) (opens_byte Tryz.underlying5) hf0;have hc0:Value.slice a0 len0 cap0= .slice A0 n0 c0:=by simpa [Value.cells] using hcs0
 rw[hc0] at h0k hW' ⊢;clear hf0 hcs0 hc0;clear hA0 hval hval0;simp only[List.append_nil] at hW';refine(lawHidden W hs0).mono fun e W' ⟨he,hb⟩=> ?_;subst he;have hlt0: ∀y∈p,y.block<W.heap.size:=fun y hy=>hW'.lt y (by simp[hy])
 refine⟨_,rfl,post_of_below (pa:=p) (pv:=[]) hW' (fun _ _ _=>trodAll_mk1 (shut_bool Tryz.underlying4 _)) (fun sp hsp=> ?_) (fun _ _=>rfl) (by simp) hb (ok_one (by kernel_rfl) rfl (okWide_bool_mk Tryz.underlying4 _))⟩;exact trodAll_mk1 (WideElems.Trod_stays fnMdlHidden_laidOut (by kernel_rfl) (of_decide_eq_true (by kernel_rfl)) h0k (fun y hy=>hb.same (hlt0 y hy)) (fun y hy=>hsp y (by simp[hy])))
mutual
def fnMdlHidden_flat:DataW Unit→List Value
 | .lit l=>[l.value]
 | .agg ps=>fnMdlHidden_flats ps
 |_=>[]
def fnMdlHidden_flats:List (DataW Unit)→List Value
 | []=>[]
 |d::r=>fnMdlHidden_flat d++fnMdlHidden_flats r
end
noncomputable def fnMdlHidden_world (os:Os):World:=
 { World.holding Tryz.prog os ⟨#[],#[],[]⟩ with heap:=(((World.holding Tryz.prog os ⟨#[],#[],[]⟩).heap.modify 2 fun
   | .cells _ t frozen=> .cells (fnMdlHidden_flat Rows.laid_unicode_utf8_acceptRanges).toArray t frozen
   |o=>o).modify 1 fun
   | .cells _ t frozen=> .cells (fnMdlHidden_flat Rows.laid_unicode_utf8_first).toArray t frozen
   |o=>o)}
set_option maxRecDepth 100000 in
theorem fnMdlHidden_met (os:Os):laidMet Tryz.prog Rows.fnMdlHiddenRow.laid ((fnMdlHidden_world os).forCall (fun _ _=>0) ⟨#[],#[.slice none 0 0],[]⟩).memory:=
 laidMet_of_run' 8 (by kernel_rfl) (by kernel_rfl)
theorem fnMdlHidden_reads (os:Os) {H:Type} (enc:TypeId×Value→H): ∃x,DataW.whole enc Tryz.prog ((fnMdlHidden_world os).forCall (fun _ _=>0) ⟨#[],#[.slice none 0 0],[]⟩).memory Tryz.f6.params.toList Rows.fnMdlHiddenSpec.vars false (#[.slice none 0 0]:Array Value).toList 8=some x:=
 Option.isSome_iff_exists.1 (show(DataW.whole enc Tryz.prog ((fnMdlHidden_world os).forCall (fun _ _=>0) ⟨#[],#[.slice none 0 0],[]⟩).memory Tryz.f6.params.toList Rows.fnMdlHiddenSpec.vars false (#[.slice none 0 0]:Array Value).toList 8).isSome=true by kernel_rfl)
theorem fnMdlHidden_lifted (os:Os) (started:os.Started) (H:Type) (enc:TypeId×Value→H) (F:Stop.Interp):
  ReturnsInHanded {} Tryz.checked os 6 .any ((OpenSpec.ofChange Rows.fnMdlHiddenSpec).preRow enc Tryz.prog Tryz.f6 Rows.fnMdlHiddenRow.domain false Rows.fnMdlHiddenRow.laid) (((OpenSpec.ofChange Rows.fnMdlHiddenSpec).at F).post enc Tryz.prog Tryz.f6 false true false false):=by
 obtain⟨x0,hx⟩:=fnMdlHidden_reads os enc;refine returnsInHanded_of_row (C:=Tryz.checked) (s:=OpenSpec.ofChange Rows.fnMdlHiddenSpec) fnMdlHidden_own started (by kernel_rfl) Tryz.func6
  (witness_row_at (enc:=enc) (C:=Tryz.checked) false (fnMdlHidden_world os) #[.slice none 0 0] rfl (by kernel_rfl) (by kernel_rfl) (by kernel_rfl)
   (OpenSpec.preRow_of_cond 8 hx (by kernel_rfl) (fun k hk=>by cases hk) (by kernel_rfl) (fnMdlHidden_met os))) ?_
 intro W base args ds gs before hval hW _ _ _ _ _ _;exact fnMdlHidden_contract H enc W base args ds gs before hval hW
theorem fnMdlHidden_closed:joinedFacts Tryz.pinned.checked.prog 6 Tryz.f6 (OpenSpec.ofChange Rows.fnMdlHiddenSpec).bare Rows.fnMdlHiddenRow=true:=by
 unfold joinedFacts;simp only[Bool.and_eq_true]
 repeat' apply And.intro
 all_goals(as_aux_lemma=>kernel_rfl)
theorem fnMdlHidden_said:Rows.FnMdlHiddenSaid:=
 OpenClaim.holds_of_cond 6 Tryz.f6 rfl rfl rfl rfl rfl rfl rfl ⟨rfl,rfl,rfl,rfl,rfl⟩ rfl rfl rfl rfl rfl (by kernel_rfl) Tryz.func6 fnMdlHidden_closed
  (of_decide_eq_true (by kernel_rfl)) (by unfold Func.isWrapper;first|(rw[if_pos (by decide+kernel)];kernel_rfl)|(rw[if_neg (by decide+kernel)];exact⟨rfl,rfl⟩))
  (fun os started H enc _ F=>by rw[OpenClaim.pre_eq_preRow];exact fnMdlHidden_lifted os started H enc F)
theorem fnMdlHidden_plain (f:FuncId) (fn:Func) (hf:Tryz.pinned.checked.prog.funcNamed "loop.example/chartulary/laws.FnMdlHidden" =some f) (hfn:Tryz.pinned.checked.prog.funcs[f]? =some fn):
  false=Tryz.pinned.checked.prog.looks []∧∀(j:Nat) t,fn.params[j]? =some t→Tryz.pinned.checked.prog.wantsStandIn t=false:=by
 obtain rfl:f=6:=Option.some.inj ((show Tryz.prog.funcNamed "loop.example/chartulary/laws.FnMdlHidden" =some 6 by kernel_rfl).symm.trans hf) |>.symm;obtain rfl:fn=Tryz.f6:=(Option.some.inj (Tryz.func6.symm.trans hfn)).symm;refine⟨by kernel_rfl,fun j t ht=> ?_⟩;rw[Tryz.params6] at ht;have hm:=Array.mem_of_getElem? ht;simp only[List.mem_toArray,List.mem_cons,List.not_mem_nil,or_false] at hm
 rcases hm with rfl
 ·exact(show Tryz.prog.wantsStandIn 22=false by kernel_rfl)
theorem fnMdlHidden_holds:Rows.FnMdlHiddenCardSaid:=
 Claim7.holds_tied_plain_at .later [] _ _ _ _ fnMdlHidden_said (fun _ h=>by cases h) (by kernel_rfl) (fun _ h=>by cases h) fnMdlHidden_row_tie rfl ⟨rfl,rfl⟩ (by kernel_rfl) rfl fnMdlHidden_plain (by kernel_rfl)
#print axioms fnMdlHidden_holds
end Go.Proofs.YtobbdhgkcoeifaaGreatDoor
