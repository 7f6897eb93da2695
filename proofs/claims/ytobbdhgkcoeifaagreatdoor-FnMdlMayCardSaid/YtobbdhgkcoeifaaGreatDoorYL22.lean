/- FnMdlMay: for every input the law answers true and leaves its arguments as they were. Conditions: the listed library tables read as the tie says. -/
import Derived.Sort.OwnSorted
import Derived.Laws.IdiomStrings
import Derived.ProofKit
import Derived.Deep.Slices
import Derived.Deep.Fields
import Derived.WalkKit
import Derived.OpenShut
import Derived.ChangeMaps5
import Derived.Deep.DeepHandedRow
import Derived.Lib.LaidTab
import Derived.SevenTiedAt
import Derived.Test.YtobbdhgkcoeifaaGreatDoorZ27
import Derived.Test.YtobbdhgkcoeifaaGreatDoorZ24
import Derived.Test.YtobbdhgkcoeifaaGreatDoorZ20
import Derived.Test.YtobbdhgkcoeifaaGreatDoorZ5
import Derived.Test.YtobbdhgkcoeifaaGreatDoorZ4
import Derived.Test.YtobbdhgkcoeifaaGreatDoorShelfD
import Derived.Test.YtobbdhgkcoeifaaGreatDoorZ8
import Derived.Test.YtobbdhgkcoeifaaGreatDoorZ28
import Derived.Test.YtobbdhgkcoeifaaGreatDoorZ15
import Derived.Test.YtobbdhgkcoeifaaGreatDoorZ1
import Derived.Test.YtobbdhgkcoeifaaGreatDoorCards
import Derived.Test.YtobbdhgkcoeifaaGreatDoorTie
namespace Go.Proofs.YtobbdhgkcoeifaaGreatDoor
open Go.RowKit
open Go.RowKit Go.Sort
attribute [local go_sem ↓] Go.wp_at_zero Go.wp_at_succ
open Go.ChangeShapes Go.WideShapes Go.ChangeAt Go.RowKit Go.Deep
set_option maxHeartbeats 8000000
set_option maxRecDepth 100000
set_option linter.unusedSimpArgs false
set_option linter.unusedVariables false
section
variable {w w':World} {g:Nat} {m:Jl} {q:Req} {a:Ans} {K U R E F N:Value}
end
section
variable {P:Program} {s:Code} {Q:Exit→Act→World→Prop} {b:Act} {w:World} {m:Jl} {q:Req} {a:Ans} {K U R E F N:Value}
end
section
variable {w0 W W':World} {m:Jl} {q q':Req} {K U R E E':Value}
end
section
variable {w w':World} {g lo:Nat} {m:Jl} {K U R:Value}
end
theorem manage_same {p:Xq} {r:Req} (h:(manage p r).2≠1):(manage p r).1=p:=by
 have:(manage p r).1=p∨(manage p r).2=1:=by
  unfold manage
  repeat' split
  all_goals first|exact .inl rfl|exact .inr rfl
 exact this.resolve_right h
theorem write_same {m:Jl} {p:Xq} {r:Req} (h:(write m p r).2≠1):(write m p r).1=m:=by
 have:(write m p r).1=m∨(write m p r).2=1:=by
  unfold write
  repeat' split
  all_goals first|exact .inl rfl|exact .inr rfl
 exact this.resolve_right h
theorem set_self {α:Type} {l:List α} {i:Nat} {a:α} (h:l[i]? =some a):l.set i a=l:=by
 obtain⟨hi,rfl⟩:=List.getElem?_eq_some_iff.1 h;exact List.set_getElem_self hi
theorem refused {m:Jl} {r:Req} (h:(Zn m r).2.code≠1∨r.kind=2∨r.kind=3∨r.kind=11):(Zn m r).1=m:=by
 unfold Zn at h ⊢;split
 ·split
  ·rfl
  ·split
   ·rfl
   ·rename_i p hp
    split
    ·rfl
    ·split
     ·rfl
     ·rename_i n1 n2 n3
      split
      ·rename_i hw
       refine write_same ?_;rcases h with h|h|h|h
       ·simpa [*,code] using h
       all_goals simp_all
      ·split
       ·rfl
       ·rename_i hk
        have:(manage p r).1=p:=by
         refine manage_same ?_;rcases h with h|h|h|h
         ·simpa [*,code] using h
         all_goals simp_all
        rw[this];simp[set_self hp]
 ·rfl
structure Laid (m:Jl) (r:Req) (p:Xq) (k:Nat):Prop where
 knows:knows m.keys r.user r.key=true
 writes:Vs r=true
 repo:m.Rz[r.repo.toNat]? =some p
 ref:Y7 p.Fz r.ref=some k
 may:Yi m p r=true
 old:(p.Fz.getD k Y8).count=r.old
 more:(p.Fz.getD k Y8).count≠14
 new:(newest m (p.Fz.getD k Y8) r).2=1
 used:m.used.getD (r.user - 1).toNat 0+Yg r.Ez≤200
 eq:Zn m r=(jpm m p k r (newest m (p.Fz.getD k Y8) r).1,code 1)
structure Managed1 (m:Jl) (r:Req) (p:Xq):Prop where
 knows:knows m.keys r.user r.key=true
 writes:Vs r=false
 kind:r.kind≠2∧r.kind≠3∧r.kind≠11
 repo:m.Rz[r.repo.toNat]? =some p
 Az:r.user=p.Az
 done:(manage p r).2=1
 eq:Zn m r=({ m with Rz:=m.Rz.set r.repo.toNat (manage p r).1},code 1)
theorem write_ways (m:Jl) (p:Xq) (r:Req):((write m p r).1=m∧(write m p r).2≠1)∨∃k,Y7 p.Fz r.ref=some k∧Yi m p r=true∧(p.Fz.getD k Y8).count=r.old∧(p.Fz.getD k Y8).count≠14∧(newest m (p.Fz.getD k Y8) r).2=1∧m.used.getD (r.user - 1).toNat 0+Yg r.Ez≤200∧write m p r=(jpm m p k r (newest m (p.Fz.getD k Y8) r).1,1):=by
 unfold write;split
 ·rename_i hm
  split
  ·exact .inl ⟨rfl,by simp⟩
  ·rename_i k hk
   split
   ·exact .inl ⟨rfl,by simp⟩
   ·rename_i h1
    split
    ·exact .inl ⟨rfl,by simp⟩
    ·rename_i h2
     split
     ·rename_i h3
      exact .inl ⟨rfl,h3⟩
     ·rename_i h3
      split
      ·exact .inl ⟨rfl,by simp⟩
      ·rename_i h4
       exact .inr ⟨k,hk,hm,Classical.not_not.1 h1,h2,Classical.not_not.1 h3,by omega,rfl⟩
 ·exact .inl ⟨rfl,by simp⟩
theorem doIt_none {m:Jl} {r:Req} (hp:m.Rz[r.repo.toNat]? =none) (hk:knows m.keys r.user r.key=true) (h11:r.kind≠11):Zn m r=(m,code 3):=by
 unfold Zn;rw[if_pos hk,if_neg h11,hp]
theorem doIt_writes {m:Jl} {r:Req} {p:Xq} (hk:knows m.keys r.user r.key=true) (hp:m.Rz[r.repo.toNat]? =some p) (hw:Vs r=true):Zn m r=((write m p r).1,code (write m p r).2):=by
 have h:r.kind=1∨r.kind=9∨r.kind=10:=by simpa [Vs,or_assoc] using hw
 unfold Zn;rw[if_pos hk,if_neg (by omega),hp];simp only[hw];rw[if_neg (by omega),if_neg (by omega)];rfl
theorem doIt_rest {m:Jl} {r:Req} {p:Xq} (hk:knows m.keys r.user r.key=true) (hp:m.Rz[r.repo.toNat]? =some p) (hw:Vs r=false) (h:r.kind≠2∧r.kind≠3∧r.kind≠11):
  Zn m r=if r.user≠p.Az then(m,code 4) else({ m with Rz:=m.Rz.set r.repo.toNat (manage p r).1},code (manage p r).2):=by
 unfold Zn;rw[if_pos hk,if_neg h.2.2,hp];simp only[hw];rw[if_neg h.1,if_neg h.2.1];rfl
theorem doIt_ways (m:Jl) (r:Req):((Zn m r).1=m∧((Zn m r).2.code=1→r.kind=2∨r.kind=3∨r.kind=11))∨(∃p k,Laid m r p k)∨∃p,Managed1 m r p:=by
 by_cases ht:r.kind=2∨r.kind=3∨r.kind=11
 ·exact .inl ⟨refused (.inr ht),fun _=>ht⟩
 ·by_cases hk:knows m.keys r.user r.key=true
  ·cases hp:m.Rz[r.repo.toNat]? with
   |none=>left;rw[doIt_none hp hk (by omega)];exact⟨rfl,fun h=>by simp[code] at h⟩
   |some p=>
    cases hw:Vs r
    ·have he:=doIt_rest hk hp hw (by omega);by_cases ha:r.user=p.Az
     ·rw[if_neg (by simpa using ha)] at he;by_cases hd:(manage p r).2=1
      ·exact .inr (.inr ⟨p,hk,hw,by omega,hp,ha,hd,by rw[he,hd]⟩)
      ·left;rw[he,manage_same hd];exact⟨by simp[set_self hp],fun h=>absurd h hd⟩
     ·rw[if_pos (by simpa using ha)] at he;left;rw[he];exact⟨rfl,fun h=>by simp[code] at h⟩
    ·have he:=doIt_writes hk hp hw;rcases write_ways m p r with ⟨h,h'⟩|⟨k,a,b,c,d,e,f,g⟩
     ·left;rw[he];exact⟨h,fun h=>absurd h h'⟩
     ·exact .inr (.inl ⟨p,k,hk,hw,hp,a,b,c,d,e,f,by rw[he,g]⟩)
  ·left;unfold Zn;rw[if_neg hk];exact⟨rfl,fun h=>by simp[code] at h⟩
theorem repos_length (m:Jl) (r:Req):(Zn m r).1.Rz.length=m.Rz.length:=by
 rcases doIt_ways m r with ⟨h, -⟩|⟨p,k,h⟩|⟨p,h⟩
 ·rw[h]
 ·rw[h.eq];simp[jpm]
 ·rw[h.eq];simp
theorem apart {m:Jl} {r:Req} (hr:0≤r.repo) {i:Nat} (hi:(i:Int)≠r.repo):(Zn m r).1.Rz[i]? =m.Rz[i]? :=by
 have hn:r.repo.toNat≠i:=by omega
 rcases doIt_ways m r with ⟨h, -⟩|⟨p,k,h⟩|⟨p,h⟩
 ·rw[h]
 ·rw[h.eq];simp[jpm,hn]
 ·rw[h.eq];simp[hn]
theorem may_under {Uz:List Yt} {user:Int} {ref path:ByteArray} {write:Bool} (hp:Xm path=true) (h:Yz Uz user ref ByteArray.empty write=true):Yz Uz user ref path write=true:=by
 unfold Yz at*;rw[List.any_eq_true] at*;obtain⟨r,hr,h⟩:=h;refine⟨r,hr, ?_⟩;unfold jm0 at*;simp only[Bool.and_eq_true] at h ⊢;obtain⟨⟨h1,h2⟩,h3⟩:=h;refine⟨⟨h1, ?_⟩,h3⟩;have hrp:Xm r.path=true:=by unfold Jq at h2;simp only[Bool.and_eq_true] at h2;exact h2.1.1
 rcases(jid hrp jki).1 h2 with h|h|⟨t,ht⟩
 ·exact(jid hrp hp).2 (.inl h)
 ·exact(jid hrp hp).2 (.inl h)
 ·have:=congrArg List.length ht;rw[List.length_append,List.length_cons] at this;have h0:ByteArray.empty.data.toList.length=0:=rfl;omega
theorem treOk_path {l:List File} (h:Y1 l=true) {f:File} (hf:f∈l):Xm f.path=true:=by
 have:=(Yo.1 h).2.1 f hf;simp only[Y3,Bool.and_eq_true] at this;exact this.1.1
def lookup (l:List File) (s:ByteArray):Option ByteArray:=(l.find? fun f=>decide (f.path=s)).map (·.bytes)
def diffA (b:List File) (f:File):Bool:=decide (lookup b f.path≠some f.bytes)
def diffB (a:List File) (f:File):Bool:=decide (lookup a f.path=none)
def differs (a b:List File):List ByteArray:=(a.filter (diffA b)).map (·.path)++(b.filter (diffB a)).map (·.path)
theorem asc_inj {l:List File} (h:asc File.path l) {f g:File} (hf:f∈l) (hg:g∈l) (e:f.path=g.path):f=g:=by
 obtain⟨i,hi,rfl⟩:=List.mem_iff_getElem.1 hf;obtain⟨j,hj,rfl⟩:=List.mem_iff_getElem.1 hg;have hp:=List.pairwise_iff_getElem.1 h;rcases Nat.lt_trichotomy i j with c|c|c
 ·exact absurd e (bLt_ne (hp i j hi hj c))
 ·subst c;rfl
 ·exact absurd e.symm (bLt_ne (hp j i hj hi c))
theorem lookup_mem {l:List File} (h:asc File.path l) {f:File} (hf:f∈l):lookup l f.path=some f.bytes:=by
 unfold lookup;cases e:l.find? fun g=>decide (g.path=f.path) with
 |none=>exact absurd (List.find?_eq_none.1 e f hf) (by simp)
 |some g=>
  have h1:=List.mem_of_find?_eq_some e;have h2:g.path=f.path:=by have:=List.find?_some e;simpa using this
  rw[asc_inj h h1 hf h2];rfl
theorem differs_ne {a b:List File} (ha:asc File.path a) {s:ByteArray} (h:s∈differs a b):lookup a s≠lookup b s∧∃f,(f∈a∨f∈b)∧f.path=s:=by
 unfold differs at h;rcases List.mem_append.1 h with h|h
 ·obtain⟨f,hf,rfl⟩:=List.mem_map.1 h;obtain⟨h1,h2⟩:=List.mem_filter.1 hf;simp only[diffA,decide_eq_true_eq] at h2;rw[lookup_mem ha h1];exact⟨fun e=>h2 e.symm,f,.inl h1,rfl⟩
 ·obtain⟨f,hf,rfl⟩:=List.mem_map.1 h;obtain⟨h1,h2⟩:=List.mem_filter.1 hf;simp only[diffB,decide_eq_true_eq] at h2;refine⟨fun e=> ?_,f,.inr h1,rfl⟩;rw[h2] at e;unfold lookup at e;have:=(Option.map_eq_none_iff.1 e.symm);exact absurd (List.find?_eq_none.1 this f h1) (by simp)
theorem differs_self {l:List File} (h:Y1 l=true):differs l l= []:=by
 rw[List.eq_nil_iff_forall_not_mem];exact fun s hs=>(differs_ne (jn1 h) hs).1 rfl
theorem find_split {α:Type} {p:α→Bool} {l1 l2:List α} {x:α} (hx:p x=false):(l1++x::l2).find? p=(l1++l2).find? p:=by
 rw[List.find?_append,List.find?_append,List.find?_cons_of_neg (by simp[hx])]
theorem turn1_look {l o:List File} {e:Wz} (h:Zf l e=some o) {s:ByteArray} (hs:s≠e.path):lookup o s=lookup l s:=by
 unfold Zf at h;unfold lookup
 congr 1
 split at h
 ·split at h
  ·cases h
  ·cases h;unfold Zm;rw[find_split (by simpa using fun e=>hs e.symm),List.takeWhile_append_dropWhile]
 ·rename_i k hk
  obtain⟨hlt,hp⟩:=je8 (key:=File.path) hk;have hl:l=l.take k++l[k]::l.drop (k+1):=by rw[←List.drop_eq_getElem_cons hlt,List.take_append_drop]
  have hn:(fun f:File=>decide (f.path=s)) l[k]=false:=by simp only[hp];simpa using fun e=>hs e.symm
  split at h
  ·split at h
   ·cases h;rw[List.eraseIdx_eq_take_drop_succ]
    conv=>rhs;rw[hl]
    exact(find_split (p:=fun f:File=>decide (f.path=s)) hn).symm
   ·cases h
  ·cases h;rw[List.set_eq_take_append_cons_drop,if_pos hlt,find_split (by simpa using fun e=>hs e.symm)]
   conv=>rhs;rw[hl]
   exact(find_split (p:=fun f:File=>decide (f.path=s)) hn).symm
theorem turnAll_look: ∀ {es:List Wz} {l o:List File} (_:Z9 l es=some o) {s:ByteArray} (_: ∀e∈es,s≠e.path),lookup o s=lookup l s
 | [],l,o,h,s,_=>by cases h;rfl
 |e::es,l,o,h,s,hs=>by
  unfold Z9 at h;split at h
  ·cases h
  ·rename_i l' h1
   rw[turnAll_look h fun x hx=>hs x (List.mem_cons_of_mem _ hx),turn1_look h1 (hs e (List.mem_cons_self ..))]
theorem treTurn_look {l o:List File} {es:List Wz} (h:Yu l es=some o) {s:ByteArray} (hs: ∀e∈es,s≠e.path):lookup o s=lookup l s:=by
 unfold Yu at h;split at h
 ·split at h
  ·cases h
  ·rename_i o' h1
   split at h
   ·cases h;exact turnAll_look h1 hs
   ·cases h
 ·cases h
def latest (f:Ref):List File:=f.Vz.getLastD []
theorem version_first (vs:List (List File)):version vs 0=if vs= [] then none else some (vs.getLastD []):=by
 unfold version;cases vs with
 |nil=>simp
 |cons v l=>
  rw[if_pos (by simp),if_neg (by simp)];simp[List.getLastD_eq_getLast?,List.getLast?_eq_getElem?]
theorem lastOf_last (l:List (List File)) (x:List File):(jgu (l++ [x])).getLastD []=x:=by
 unfold jgu;rw[List.getLastD_eq_getLast?,List.getLast?_drop,if_neg (by simp;omega)];simp
theorem infoC_StrD:(Tryz.prog.info? 9).map (fun i=>(i.zero,i.size,i.bytes))=some (some (.string ByteArray.empty),1,16):=by kernel_rfl
theorem strs_enc (ss:List ByteArray):(ss.flatMap fun s=>[Value.string s])=(ss.map (·.data.toList)).map encStr:=by
 induction ss with
 |nil=>rfl
 |cons s ss ih=>rw[List.flatMap_cons,ih];rfl
theorem enc_strs (ls:List (List UInt8)):ls.map encStr=(ls.map fun l=>(⟨l.toArray⟩:ByteArray)).flatMap fun s=>[Value.string s]:=by
 induction ls with
 |nil=>rfl
 |cons s ss ih=>rw[List.map_cons,ih];rfl
theorem mem_compact {zs:List (List UInt8)} {x:List UInt8} (h:x∈Lib.compact zs):x∈zs:=by
 unfold Lib.compact Lib.compactUpTo at h;obtain⟨i,hi,rfl⟩:=List.mem_map.1 h;have hi':i<zs.length:=List.mem_range.1 (List.mem_filter.1 hi).1;simp[getElem!_pos,hi']
theorem compact_le (zs:List (List UInt8)):(Lib.compact zs).length≤zs.length:=by
 unfold Lib.compact Lib.compactUpTo;rw[List.length_map];exact Nat.le_trans (List.length_filter_le _ _) (by simp)
theorem owns_take {w:World} {base:Nat} {e:TypeId} {g n cap k:Nat} {xs:List Value} (h:w.ownsRow base e 1 (.slice (some ⟨g,0,none⟩) n cap) n xs) (hk:k≤n):w.ownsRow base e 1 (.slice (some ⟨g,0,none⟩) k cap) k (xs.take k):=by
 obtain⟨hl,⟨h1, -⟩|⟨g',cap',cur,he,h1,h2,h3,h4,h5,h6⟩⟩:=h
 ·cases h1
 ·cases he;refine⟨by rw[List.length_take,hl];omega,.inr ⟨g,cap,cur,rfl,h1,h2,by omega,h4,h5, ?_⟩⟩;rw[←h6,List.take_take,Nat.mul_one,Nat.mul_one,Nat.min_eq_left hk]
theorem sort_own {base:Nat} {e:TypeId} {g cap:Nat} {ls:List (List UInt8)} (w:World) (h:w.ownsRow base e 1 (.slice (some ⟨g,0,none⟩) ls.length cap) ls.length (ls.map encStr)) (hl:ls.length≤4194304):
  Calls Tryz.prog 112 #[.slice (some ⟨g,0,none⟩) ls.length cap] w fun e1 w'=>e1= .returned (.tuple #[])∧w'.ownsRow base e 1 (.slice (some ⟨g,0,none⟩) ls.length cap) ls.length ((ls.mergeSort fun x y=>decide (x≤y)).map encStr)∧Below base w w':=by
 obtain⟨hll,⟨h1, -⟩|⟨g',cap',cur,he,h1,h2,h3,h4,h5,h6⟩⟩:=h
 ·cases h1
 ·cases he;have hg:g<w.heap.size:=(Array.getElem?_eq_some_iff.1 h2).1;refine(Tryz.slices_Sort_string g 0 cap ls w (holds_of_block h2 (by simpa using h6)) hg (by omega)).mono ?_;rintro e1 w' ⟨rfl,n,os,rfl⟩;exact⟨rfl,ownsRow_sorted (by simp) h1 h2 h3 h4 (by simpa using h5),(Below.refl base w).grown (grownBy_sorted _) (by omega) (fun j hj=>by cases hj;exact h1)⟩
theorem compact_own {base:Nat} {e:TypeId} {g cap:Nat} {ls:List (List UInt8)} (w:World) (h:w.ownsRow base e 1 (.slice (some ⟨g,0,none⟩) ls.length cap) ls.length (ls.map encStr)) (hl:ls.length≤4194304):
  Calls Tryz.prog 113 #[.slice (some ⟨g,0,none⟩) ls.length cap] w fun e1 w'=>e1= .returned (.slice (some ⟨g,0,none⟩) (Lib.compact ls).length cap)∧w'.ownsRow base e 1 (.slice (some ⟨g,0,none⟩) (Lib.compact ls).length cap) (Lib.compact ls).length ((Lib.compact ls).map encStr)∧Below base w w':=by
 obtain⟨hll,⟨h1, -⟩|⟨g',cap',cur,he,h1,h2,h3,h4,h5,h6⟩⟩:=h
 ·cases h1
 ·cases he;have hg:g<w.heap.size:=(Array.getElem?_eq_some_iff.1 h2).1;have hcl:=compact_le ls;refine(Tryz.slices_Compact_string g 0 cap ls w (holds_of_block h2 (by simpa using h6)) (by omega) h3).mono ?_;rintro e1 w' ⟨rfl,q,rfl⟩;rw[←grow_empty (putRow _ _ _ _ _)]
  have ho:=ownsRow_sorted (base:=base) (n:=q) (os:= #[]) (ts:=Lib.compact ls++List.replicate (ls.length - (Lib.compact ls).length) []) (ss:=ls) (by rw[List.length_append,List.length_replicate];omega) h1 h2 h3 h4 (by simpa using h5);have ht:=owns_take ho (k:=(Lib.compact ls).length) hcl;rw[List.map_append,List.take_left' (by simp)] at ht
  exact⟨rfl,ht,(Below.refl base w).grown (grownBy_sorted _) (by omega) (fun j hj=>by cases hj;exact h1)⟩
theorem ordered_any {base:Nat} {v:Value} {ss:List ByteArray} (w:World) (hown:w.ownsRow base 9 1 v ss.length (ss.flatMap fun s=>[.string s])) (hl:ss.length≤4194304) (hbs:base≤w.heap.size):
  Calls Tryz.prog 57 #[v] w fun e w'=>∃A c f,∃ts:List ByteArray,e= .returned (.slice A ts.length c)∧SlR Rp.str w' A ts.length c ts f∧(∀t∈ts,t∈ss)∧ts.length≤ss.length∧Below base w w':=by
 obtain⟨ii,hi0,hz0,hz1,hz2⟩:=info_parts infoC_StrD;rw[strs_enc] at hown;rcases id hown.2 with ⟨rfl,hn⟩|⟨g,cap,cur,rfl, -⟩
 ·obtain rfl:=List.eq_nil_of_length_eq_zero hn;clear hown hn;have HZ:=Ja (show SlR Rp.str w none 0 0 [] [] from⟨rfl,Nat.le_refl _,by simp[maxLen],[],[],[],⟨rfl,.inl ⟨rfl,rfl⟩⟩,by simp[AllR],rfl⟩);go_enter Tryz.func57,Tryz.ntmps57;go_wp2_with fail;refine(Tryz.slices_Sort_string_none none 0 w).mono ?_;rintro e w1 ⟨rfl,rfl⟩;go_wp2_with fail;refine(Tryz.slices_Compact_string_empty none 0 _).mono ?_
  rintro e w2 ⟨rfl,rfl⟩;go_wp2_with(at_builtin;refine V2 (r:=Rp.str) rfl _ _ 35 rfl w2.heap.size 9 ii _ 16 Tryz.underlying35 hi0 hz0 hz1 hz2 rfl (by decide) (.slice none 0 0) 0 [] rfl (World.ownsRow_nil _ _ _ _) rfl HZ.out (by unfold maxLen;omega) (by omega) (by simp) ?_);intro v' w3 zs f1 hal _ hown hgrow;obtain⟨rfl,_⟩:=AllR.flat.1 hal;obtain⟨A,c,f,rfl,hs⟩:=own_str (l:=[]) hown
  go_wp2;go_ret;exact⟨A,c,f,[],rfl,hs,by simp,by simp,((Below.refl _ _).grown hgrow nle (fun j hj=>by cases hj)).mono hbs⟩
 ·have hlen:ss.length=(ss.map (·.data.toList)).length:=by simp
  rw[hlen] at hown hl ⊢;obtain⟨ls,hls⟩: ∃ls,ls=ss.map (·.data.toList):=⟨_,rfl⟩;rw[←hls] at hown hl ⊢;have HOW:=Ja hown;have HLS:=Ja hls;clear hown hls hlen;go_enter Tryz.func57,Tryz.ntmps57;go_wp2_with fail;refine(sort_own w HOW.out hl).mono ?_;rintro e w1 ⟨rfl,hown1,hb1⟩;have hml:(ls.mergeSort fun x y=>decide (x≤y)).length=ls.length:=by simp
  rw[←hml] at hown1;have HO1:=Ja hown1;have HB1:=Ja hb1;have hl2:(ls.mergeSort fun x y=>decide (x≤y)).length≤4194304:=by omega
  have HM:=Ja (fun(x:List UInt8) (hx:x∈Lib.compact (ls.mergeSort fun x y=>decide (x≤y)))=>(List.mergeSort_perm ls _).subset (mem_compact hx));have HCL:=Ja (show(Lib.compact (ls.mergeSort fun x y=>decide (x≤y))).length≤ls.length from by have:=compact_le (ls.mergeSort fun x y=>decide (x≤y));omega);rw[←hml];generalize(ls.mergeSort fun x y=>decide (x≤y))=ms at HO1 hl2 HM HCL ⊢;clear hown1 hb1 hml
  go_wp2_with fail;refine(compact_own _ HO1.out hl2).mono ?_;rintro e w2 ⟨rfl,hown2,hb2⟩;rw[enc_strs] at hown2;have hcl:(Lib.compact ms).length=((Lib.compact ms).map fun l=>(⟨l.toArray⟩:ByteArray)).length:=by simp
  rw[hcl] at hown2;obtain⟨A2,c2,f2,he2,hs2⟩:=own_str hown2;rw[←hcl] at he2 hs2;obtain⟨rfl,rfl⟩:A2=some ⟨g,0,none⟩∧c2=cap:=by injection he2 with e1 e2 e3;exact⟨e1.symm,e3.symm⟩
  have HS2:=Ja hs2;have HB2:=Ja (HB1.out.trans hb2);have hcb:(Lib.compact ms).length≤4194304:=by have:=HCL.out;omega
  have HHL:=Ja hcl;clear hown2 he2 hs2 hcl hb2;go_wp2_with(at_builtin;refine V2 (r:=Rp.str) rfl _ _ 35 rfl w2.heap.size 9 ii _ 16 Tryz.underlying35 hi0 hz0 hz1 hz2 rfl (by decide) (.slice none 0 0) 0 [] rfl (World.ownsRow_nil _ _ _ _) rfl HS2.out (by unfold maxLen;omega) (by omega) (by simp) ?_);intro v' w3 zs f1 hal _ hown hgrow;obtain⟨rfl,_⟩:=AllR.flat.1 hal;rw[HHL.out] at hown
  obtain⟨A,c,f,rfl,hs⟩:=own_str hown;have HS:=Ja hs;have HG:=Ja hgrow;clear hs hgrow hown;go_wp2;go_ret;refine⟨A,c,f,_,rfl,HS.out,fun t ht=> ?_,by rw[←HHL.out];exact HCL.out,HB2.out.trans (((Below.refl _ _).grown HG.out nle (fun j hj=>by cases hj)).mono (Nat.le_trans hbs HB2.out.size))⟩;obtain⟨l,hl,rfl⟩:=List.mem_map.1 ht;have:=HM.out l hl;rw[HLS.out] at this
  obtain⟨s,hs,rfl⟩:=List.mem_map.1 this;exact hs
theorem find_cases (l:List File) (p:ByteArray):(jd4 (Wv p) l= -1∧lookup l p=none)∨∃(k:Nat) (h:k<l.length),jd4 (Wv p) l=(k:Int)∧lookup l p=some l[k].bytes:=by
 unfold jd4 lookup;cases e:l.findIdx? (Wv p) with
 |none=>
  refine .inl ⟨rfl, ?_⟩;rw[List.findIdx?_eq_none_iff] at e;rw[List.find?_eq_none.2 fun x hx=>by have:=e x hx;unfold Wv at this;simpa using this];rfl
 |some k=>
  obtain⟨h,h1,h2⟩:=List.findIdx?_eq_some_iff_getElem.1 e;refine .inr ⟨k,h,rfl, ?_⟩;have:l.find? (fun f=>decide (f.path=p))=some l[k]:=List.find?_eq_some_iff_getElem.2 ⟨by simpa [Wv] using h1,k,h,rfl,fun j hj=>by have:=h2 j hj;unfold Wv at this;simpa using this⟩;rw[this];rfl
def dA (a b:List File) (k:Nat):List ByteArray:=((a.take k).filter (diffA b)).map (·.path)
def dB (a b:List File) (k:Nat):List ByteArray:=(a.filter (diffA b)).map (·.path)++((b.take k).filter (diffB a)).map (·.path)
theorem dA_all (a b:List File):dA a b a.length=dB a b 0:=by unfold dA dB;rw[List.take_of_length_le nle];simp
theorem dB_all (a b:List File):dB a b b.length=differs a b:=by unfold dB differs;rw[List.take_of_length_le nle]
theorem dA_yes {a b:List File} {k:Nat} (hk:k<a.length) (h:diffA b a[k]=true):dA a b (k+1)=dA a b k++ [a[k].path]:=by
 unfold dA;rw[List.take_succ_eq_append_getElem hk,List.filter_append,List.filter_cons_of_pos (by simpa using h),List.map_append];rfl
theorem dA_no {a b:List File} {k:Nat} (hk:k<a.length) (h:diffA b a[k]=false):dA a b (k+1)=dA a b k:=by
 unfold dA;rw[List.take_succ_eq_append_getElem hk,List.filter_append,List.filter_cons_of_neg (by simpa using h),List.filter_nil,List.append_nil]
theorem dB_yes {a b:List File} {k:Nat} (hk:k<b.length) (h:diffB a b[k]=true):dB a b (k+1)=dB a b k++ [b[k].path]:=by
 unfold dB;rw[List.take_succ_eq_append_getElem hk,List.filter_append,List.filter_cons_of_pos (by simpa using h),List.map_append,List.append_assoc];rfl
theorem dB_no {a b:List File} {k:Nat} (hk:k<b.length) (h:diffB a b[k]=false):dB a b (k+1)=dB a b k:=by
 unfold dB;rw[List.take_succ_eq_append_getElem hk,List.filter_append,List.filter_cons_of_neg (by simpa using h),List.filter_nil,List.append_nil]
theorem dA_le (a b:List File) (k:Nat):(dA a b k).length≤a.length:=by
 unfold dA;rw[List.length_map];exact Nat.le_trans (List.length_filter_le _ _) (by simp;omega)
theorem dB_le (a b:List File) (k:Nat):(dB a b k).length≤a.length+b.length:=by
 unfold dB;rw[List.length_append,List.length_map,List.length_map];have h1:=List.length_filter_le (diffA b) a;have h2:=List.length_filter_le (diffB a) (b.take k);simp at h2 ⊢;omega
theorem implTreDiffers_any {A B:Option Addr} {n c m d:Nat} {a b:List File} {fa fb:List Nat} (w:World) (ha:SlR Rp.file w A n c a fa) (hb:SlR Rp.file w B m d b fb) (hla:a.length≤60) (hlb:b.length≤60):
  Calls Tryz.prog 17 #[.slice A n c,.slice B m d] w fun e w'=>∃A' c' f,∃ts:List ByteArray,e= .returned (.slice A' ts.length c')∧SlR Rp.str w' A' ts.length c' ts f∧(∀t∈ts,t∈differs a b)∧ts.length≤(differs a b).length∧Below w.heap.size w w':=by
 obtain rfl:=ha.1;obtain rfl:=hb.1;obtain⟨ii,hi0,hz0,hz1,hz2⟩:=info_parts infoC_StrD;have HA:=Ja ha;have HB:=Ja hb;clear ha hb;go_enter Tryz.func17,Tryz.ntmps17;go_wp2
 go_loopw [5,13] (fun v i wr=>∃k:Nat,k≤a.length∧i= .int .i64 k∧wr.ownsRow w.heap.size 9 1 v (dA a b k).length ((dA a b k).flatMap fun s=>[.string s])∧Below w.heap.size w wr) (fun _ i _=>a.length - (intOf i).toNat)
 case atStart=>exact⟨0,Nat.zero_le _,rfl,World.ownsRow_nil _ _ _ _,Below.refl _ _⟩
 case round=>
  obtain⟨k,hk,rfl,hown,hbl⟩:=hrel;obtain⟨wa,hwa⟩: ∃wa,wa=wr:=⟨_,rfl⟩;subst hwa;by_cases hlt:k<a.length
  ·obtain⟨b1,o1,rfl, -,hm,q0,q1⟩:=Jx (HA.out.step hbl) hlt;have HY:=Ja (fun(h:diffA b a[k]=true)=>dA_yes hlt h);have HN:=Ja (fun(h:diffA b a[k]=false)=>dA_no hlt h);have HD:=Ja (show diffA b a[k]=decide (lookup b a[k].path≠some a[k].bytes) from rfl);generalize hg:a[k]=f at q0 q1 HY HN HD;clear hg;have kq:=Blk.new wa 65 #[.string f.path,.string f.bytes]
   have i1:(k:Int)<(a.length:Int):=by omega
   have hle:=dA_le a b k;have HW:=Ja hown;have HBA:=Ja (hbl.alloc hbl.size (.cells #[.string f.path,.string f.bytes] 65));clear hown hbl;go_wp2_with fail;refine(jp4 f.path _ (HB.out.step HBA.out)).mono ?_;rintro e w1 ⟨rfl,hb1⟩;have HO1:=Ja (Yx (HW.out.alloc _) hb1);replace kq:=kq.step hb1;have HB1:=Ja (HBA.out.trans (hb1.mono (by have:=HBA.out.size;simpa using this)))
   have u0:=Blk.c0 kq;have u1:=Blk.c1 kq;clear hb1 q0 q1 HW kq;rcases find_cases b f.path with ⟨hidx,hlk⟩|⟨j,hj,hidx,hlk⟩
   ·rw[hidx];have HLK:=Ja hlk;clear hidx hlk;go_wp2_with fail;go_quiet(fail);have HE:=Ja (HY.out (by rw[HD.out,HLK.out];simp))
    go_wp2_with(at_builtin;refine wpList_append_own _ rfl _ _ 35 rfl w.heap.size 9 ii _ 1 16 Tryz.underlying35 hi0 hz0 hz1 hz2 rfl (by decide) _ _ _ rfl ((Yx HO1.out (Below.drewN' (Below.refl _ _) _)).alloc _) ⟨w1.heap.size,0,none⟩ 1 1 [.string f.path] rfl rfl (Jm _ [.string f.path] _) (by intro u hu;simp at hu;subst hu;rfl) (by unfold maxLen;omega) (by omega) (by have:=HB1.out.size;simp[World.drewN];omega) ?_)
    intro v' w5 hown' hgrow _;have HO:=Ja hown';have HB7:=Ja (((Below.drewN' HB1.out _).alloc (by have:=HB1.out.size;simpa [World.drewN] using this) _).grown hgrow (by have:=HB1.out.size;simp[World.drewN];omega) (fun z hz=>(HO1.out.lt z hz).1));clear hown' hgrow;go_wp2_with fail;refine⟨⟨k+1,by omega,by go_num, ?_,HB7.out⟩,by simp[intOf];omega⟩
    rw[HE.out,List.length_append,List.flatMap_append,List.flatMap_singleton];exact HO.out
   ·rw[hidx];have HLK:=Ja hlk;obtain⟨b2,o2,rfl, -,hm2,g0,g1⟩:=Jx (HB.out.step HB1.out) hj;have j0:(0:Int)≤(j:Int):=by omega
    have j1:(j:Int)<(b.length:Int):=by omega
    have hq:=Jr b[j].bytes f.bytes;clear hidx hlk;cases hd:decide (b[j].bytes=f.bytes)
    ·rw[hd] at hq;have HDD:=Ja (of_decide_eq_false hd);clear hd;go_wp2_with fail;go_quiet(fail);clear hq g0 g1 j0 j1;have HE:=Ja (HY.out (by rw[HD.out,HLK.out];simpa using HDD.out))
     go_wp2_with(at_builtin;refine wpList_append_own _ rfl _ _ 35 rfl w.heap.size 9 ii _ 1 16 Tryz.underlying35 hi0 hz0 hz1 hz2 rfl (by decide) _ _ _ rfl ((Yx HO1.out (Below.drewN' (Below.refl _ _) _)).alloc _) ⟨w1.heap.size,0,none⟩ 1 1 [.string f.path] rfl rfl (Jm _ [.string f.path] _) (by intro u hu;simp at hu;subst hu;rfl) (by unfold maxLen;omega) (by omega) (by have:=HB1.out.size;simp[World.drewN];omega) ?_)
     intro v' w5 hown' hgrow _;have HO:=Ja hown';have HB7:=Ja (((Below.drewN' HB1.out _).alloc (by have:=HB1.out.size;simpa [World.drewN] using this) _).grown hgrow (by have:=HB1.out.size;simp[World.drewN];omega) (fun z hz=>(HO1.out.lt z hz).1));clear hown' hgrow;go_wp2_with fail;refine⟨⟨k+1,by omega,by go_num, ?_,HB7.out⟩,by simp[intOf];omega⟩
     rw[HE.out,List.length_append,List.flatMap_append,List.flatMap_singleton];exact HO.out
    ·rw[hd] at hq;have HDD:=Ja (of_decide_eq_true hd);clear hd;go_wp2_with fail;go_quiet(fail);clear hq g0 g1 j0 j1;have HE:=Ja (HN.out (by rw[HD.out,HLK.out,HDD.out];simp));go_wp2;refine⟨⟨k+1,by omega,by go_num, ?_,Below.drewN' HB1.out _⟩,by simp[intOf];omega⟩;rw[HE.out];exact Yx HO1.out (Below.drewN' (Below.refl _ _) _)
  ·have hk':k=a.length:=by omega
   subst hk';rw[dA_all] at hown;have HO9:=Ja hown;have HB9:=Ja hbl;clear hown hbl;go_wp2
   go_loopw [5,41] (fun v i wz=>∃k:Nat,k≤b.length∧i= .int .i64 k∧wz.ownsRow w.heap.size 9 1 v (dB a b k).length ((dB a b k).flatMap fun s=>[.string s])∧Below w.heap.size w wz) (fun _ i _=>b.length - (intOf i).toNat)
   case atStart=>exact⟨0,Nat.zero_le _,rfl,HO9.out,HB9.out⟩
   case round=>
    obtain⟨k,hk,rfl,hown,hbl⟩:=hrel;obtain⟨wb,hwb⟩: ∃wb,wb=wr:=⟨_,rfl⟩;subst hwb;by_cases hlt2:k<b.length
    ·obtain⟨b1,o1,rfl, -,hm,q0,q1⟩:=Jx (HB.out.step hbl) hlt2;have HY:=Ja (fun(h:diffB a b[k]=true)=>dB_yes hlt2 h);have HN:=Ja (fun(h:diffB a b[k]=false)=>dB_no hlt2 h);have HD:=Ja (show diffB a b[k]=decide (lookup a b[k].path=none) from rfl);generalize hg:b[k]=f at q0 q1 HY HN HD;clear hg;have kq:=Blk.new wb 65 #[.string f.path,.string f.bytes]
     have i1:(k:Int)<(b.length:Int):=by omega
     have hle:=dB_le a b k;have HW:=Ja hown;have HBA:=Ja (hbl.alloc hbl.size (.cells #[.string f.path,.string f.bytes] 65));clear hown hbl;go_wp2_with fail;refine(jp4 f.path _ (HA.out.step HBA.out)).mono ?_;rintro e w1 ⟨rfl,hb1⟩;have HO1:=Ja (Yx (HW.out.alloc _) hb1);replace kq:=kq.step hb1;have HB1:=Ja (HBA.out.trans (hb1.mono (by have:=HBA.out.size;simpa using this)))
     have u0:=Blk.c0 kq;have u1:=Blk.c1 kq;clear hb1 q0 q1 HW kq;rcases find_cases a f.path with ⟨hidx,hlk⟩|⟨j,hj,hidx,hlk⟩
     ·rw[hidx];have HLK:=Ja hlk;clear hidx hlk;have HE:=Ja (HY.out (by rw[HD.out,HLK.out];rfl))
      go_wp2_with(at_builtin;refine wpList_append_own _ rfl _ _ 35 rfl w.heap.size 9 ii _ 1 16 Tryz.underlying35 hi0 hz0 hz1 hz2 rfl (by decide) _ _ _ rfl ((HO1.out).alloc _) ⟨w1.heap.size,0,none⟩ 1 1 [.string f.path] rfl rfl (Jm _ [.string f.path] _) (by intro u hu;simp at hu;subst hu;rfl) (by unfold maxLen;omega) (by omega) (by have:=HB1.out.size;simp[World.drewN];omega) ?_)
      intro v' w5 hown' hgrow _;have HO:=Ja hown';have HB7:=Ja (((HB1.out).alloc (by have:=HB1.out.size;simpa [World.drewN] using this) _).grown hgrow (by have:=HB1.out.size;simp[World.drewN];omega) (fun z hz=>(HO1.out.lt z hz).1));clear hown' hgrow;go_wp2_with fail;refine⟨⟨k+1,by omega,by go_num, ?_,HB7.out⟩,by simp[intOf];omega⟩
      rw[HE.out,List.length_append,List.flatMap_append,List.flatMap_singleton];exact HO.out
     ·rw[hidx];have HLK:=Ja hlk;have j0:(0:Int)≤(j:Int):=by omega
      clear hidx hlk;have HE:=Ja (HN.out (by rw[HD.out,HLK.out];rfl));go_wp2;refine⟨⟨k+1,by omega,by go_num, ?_,HB1.out⟩,by simp[intOf];omega⟩;rw[HE.out];exact HO1.out
    ·have hk':k=b.length:=by omega
     subst hk';rw[dB_all] at hown;have hle:(differs a b).length≤4194304:=by have:=dB_le a b b.length;rw[dB_all] at this;omega
     have HOD:=Ja (fun w9 (hb:Below wb.heap.size wb w9)=>ordered_any w9 (Yx hown hb) hle (Nat.le_trans hbl.size hb.size));have HBZ:=Ja hbl;clear hown hbl;go_wp2_with fail;refine(HOD.out _ (Below.refl _ _)).mono ?_;rintro e w8 ⟨A',c',f',ts,rfl,hs,hin,hlen,hb⟩;have HT:=Ja (And.intro hs (And.intro hin (And.intro hlen (HBZ.out.trans hb))));clear hs hin hlen hb;go_wp2;go_ret
     exact⟨A',c',f',ts,rfl,HT.out.1,HT.out.2.1,HT.out.2.2.1,HT.out.2.2.2⟩
theorem latest_ok {x:Ref} (h:Xv x=true):latest x∈x.Vz∧Y1 (latest x)=true∧version x.Vz 0=some (latest x):=by
 obtain⟨-,h2,h3⟩:=Z2.1 h;have hn:x.Vz≠ []:=by intro e;rw[e] at h2;simp at h2
 have hv:version x.Vz 0=some (latest x):=by rw[version_first,if_neg hn];rfl
 exact⟨ja5 hv,h3 _ (ja5 hv),hv⟩
theorem repo_of {m:Jl} (hm:Ys m=true) {i:Nat} {p:Xq} (hp:m.Rz[i]? =some p):repoOk m.keys.length p=true:=(Jo.1 hm).2.2 p (List.mem_of_getElem? hp)
theorem newest_may {m:Jl} {p:Xq} {x:Ref} {r:Req} (hm:Ys m=true) (hx:Xv x=true) (hmay:Yi m p r=true) (hn:(newest m x r).2=1) {s:ByteArray} (hs:s∈differs (latest x) (newest m x r).1):Yz p.Uz r.user r.ref s true=true:=by
 obtain⟨-,l2,l3⟩:=latest_ok hx;have hok:=jiv hm hx hn;obtain⟨h1,f,hf,rfl⟩:=differs_ne (jn1 l2) hs;have hp:Xm f.path=true:=hf.elim (treOk_path l2) (treOk_path hok);by_cases hk:r.kind=1
 ·unfold Yi at hmay;rw[if_pos hk,Bool.and_eq_true,List.all_eq_true] at hmay;unfold newest at h1 hn;rw[if_pos hk,l3] at h1 hn;simp only at h1 hn;cases ht:Yu (latest x) r.Ez with
  |none=>rw[ht] at hn;simp at hn
  |some o=>
   rw[ht] at h1;apply Classical.byContradiction;intro hno;refine h1 (treTurn_look ht fun e he hpe=>hno ?_).symm;rw[hpe];exact hmay.2 e he
 ·unfold Yi at hmay;rw[if_neg hk,Bool.and_eq_true] at hmay;exact may_under hp hmay.1
def AllowedAt (r:Req) (i:Nat) (p q:Xq):Prop:=
 ((p.Uz≠q.Uz∨p.Fz.length≠q.Fz.length)→p.Az=r.user∧r.repo=i∧Vs r=false)∧
 (p.Fz.length=q.Fz.length→∀k (hk:k<p.Fz.length) (hk':k<q.Fz.length),(∀s∈differs (latest p.Fz[k]) (latest q.Fz[k]),r.repo=i∧r.ref=p.Fz[k].name∧Vs r=true∧Yz p.Uz r.user r.ref s true=true)∧
  (p.Fz[k].count≠q.Fz[k].count→q.Fz[k].count=p.Fz[k].count+1∧r.old=p.Fz[k].count∧r.ref=p.Fz[k].name))
theorem allowed_self {u:Int} {p:Xq} (hp:repoOk u p=true) {r:Req} {i:Nat} :AllowedAt r i p p:=by
 refine⟨by simp,fun _ k hk _=>⟨fun s hs=> ?_,by simp⟩⟩;rw[differs_self (latest_ok (Zq hp (List.getElem_mem hk)).1).2.1] at hs;cases hs
theorem allowed {m:Jl} {r:Req} (hm:Ys m=true) (hr:0≤r.repo) {i:Nat} {p:Xq} (hp:m.Rz[i]? =some p): ∃q,(Zn m r).1.Rz[i]? =some q∧AllowedAt r i p q:=by
 have hi:=(List.getElem?_eq_some_iff.1 hp).1;have hpo:=repo_of hm hp;by_cases hne:(i:Int)=r.repo
 ·have hi':r.repo.toNat=i:=by omega
  rcases doIt_ways m r with ⟨h, -⟩|⟨p1,k0,h⟩|⟨p1,h⟩
  ·rw[h];exact⟨p,hp,allowed_self hpo⟩
  ·have hpe:p1=p:=by have:=h.repo;rw[hi',hp] at this;exact(Option.some.inj this).symm
   subst hpe;obtain⟨hk,hname⟩:=je8 (key:=Ref.name) h.ref;have hx:=J4 (z:=Y8) hk;have hxo:=(Zq hpo (List.getElem_mem hk)).1;have hnw:=h.new;have hmay:=h.may;have hold:=h.old;rw[h.eq];simp only[jpm];rw[hi',List.getElem?_set_self hi];refine⟨_,rfl,by simp,fun _ k hk1 hk2=> ?_⟩;rw[hx] at hnw hold;simp only[hx,List.getElem_set];by_cases hkk:k0=k
   ·subst hkk;simp only[if_true];refine⟨fun s hs=>⟨hne.symm,hname.symm,h.writes, ?_⟩,fun _=>⟨by simp,hold.symm,hname.symm⟩⟩;unfold latest at hs;simp only[lastOf_last] at hs;exact newest_may hm hxo hmay hnw hs
   ·rw[if_neg hkk];refine⟨fun s hs=> ?_,by simp⟩;rw[differs_self (latest_ok (Zq hpo (List.getElem_mem hk1)).1).2.1] at hs;cases hs
  ·have hpe:p1=p:=by have:=h.repo;rw[hi',hp] at this;exact(Option.some.inj this).symm
   subst hpe;rw[h.eq];simp only;rw[hi',List.getElem?_set_self hi];refine⟨_,rfl,fun _=>⟨h.Az.symm,hne.symm,h.writes⟩,fun hl k hk1 hk2=> ?_⟩;have hs:(manage p1 r).1.Fz=p1.Fz∨(∃j,(manage p1 r).1.Fz=p1.Fz.set j { p1.Fz.getD j Y8 with guard:= !(p1.Fz.getD j Y8).guard}∧j<p1.Fz.length)∨(manage p1 r).1.Fz.length≠p1.Fz.length:=by
    unfold manage
    repeat' split
    all_goals first|exact .inl rfl|skip
    ·right;right;simp only;rw[jaw];omega
    ·rename_i j hj _ _
     exact .inr (.inl ⟨j,rfl,(je8 (key:=Ref.name) hj).1⟩)
    ·rename_i j hj _ _ _
     have:=(je8 (key:=Ref.name) hj).1;right;right;simp only;rw[List.length_eraseIdx,if_pos this];omega
   rcases hs with hs|⟨j,hs,hj⟩|hs
   ·simp only[hs];exact((allowed_self hpo (r:=r) (i:=i)).2 rfl k hk1 hk1)
   ·simp only[hs,List.getElem_set];split
    ·rename_i e
     subst e;rw[J4 hj];refine⟨fun s hs=> ?_,by simp⟩;have:=differs_self (latest_ok (Zq hpo (List.getElem_mem hk1)).1).2.1;unfold latest at hs this;rw[this] at hs;cases hs
    ·exact((allowed_self hpo (r:=r) (i:=i)).2 rfl k hk1 hk1)
   ·exact absurd hl.symm hs
 ·rw[apart hr hne];exact⟨p,hp,allowed_self hpo⟩
section
variable {may:ByteArray→Bool} {l l':List File}
end
section
variable {user:Int} {p p':Xq}
end
section
variable {user:Int} {m m':Jl}
end
section
variable {w0 w wz w1 w':World} {g:Nat} {v v' K U R:Value} {l:List Int} {x:Int}
end
section
variable {α:Type} {r:Rp α} {S:Nat→Prop} {w w':World} {lo:Nat} {v:Value} {l:List α}
end
theorem ver_cell {w:World} {A:Option Addr} {n c:Nat} {vs:List (List File)} {fp:List Nat} (h:SlR (Rp.slice Rp.file) w A n c vs fp) {u:Nat} (hu:u<vs.length):
  ∃b o,A=some ⟨b,o,none⟩∧∃AF cF fF,w.cell? ⟨b,o+u,none⟩=some (.slice AF vs[u].length cF)∧SlR Rp.file w AF vs[u].length cF vs[u] fF:=by
 obtain⟨b,o,cs,f,hA, -, -,hc,⟨A',n',c',rfl,hs⟩, -⟩:=h.get hu;obtain rfl:=hs.1;have:=hc.at0;rw[show o+u*(Rp.slice Rp.file).k=o+u by show o+u*1=o+u;omega] at this;exact⟨b,o,hA,A',c',f,this,hs⟩
theorem Blk.twoD (w:World) (t u:TypeId) (cs ds:Array Value):Blk ((w.alloc (.cells cs t)).alloc (.cells ds u)).drew w.heap.size t cs∧Blk ((w.alloc (.cells cs t)).alloc (.cells ds u)).drew (w.heap.size+1) u ds∧Below w.heap.size w ((w.alloc (.cells cs t)).alloc (.cells ds u)).drew:=by
 obtain⟨h1,h2,h3⟩:=Blk.two w t u cs ds;exact⟨h1,h2,h3.drew⟩
theorem latest_n {x:Ref} {n:Nat} (h:x.Vz.length=n+1) (h':n<x.Vz.length):x.Vz[n]=latest x:=by
 unfold latest;rw[List.getLastD_eq_getLast?,List.getLast?_eq_getElem?,h,Nat.add_sub_cancel,List.getElem?_eq_getElem h'];rfl
theorem differs_small {a b:List File} (ha:Y1 a=true) (hb:Y1 b=true) {s:ByteArray} (h:s∈differs a b):s.size≤4194304:=by
 obtain⟨-,f,hf,rfl⟩:=differs_ne (jn1 ha) h;rcases hf with hf|hf
 ·obtain⟨i,hi,rfl⟩:=List.mem_iff_getElem.1 hf;exact jbw ha i hi
 ·obtain⟨i,hi,rfl⟩:=List.mem_iff_getElem.1 hf;exact jbw hb i hi
theorem lawMay (w:World) {A:Option Addr} {n c:Nat} {code:List UInt8} {fp:List Nat} (hx:SlR Rp.byte w A n c code fp):
  Calls Tryz.prog 3 #[.slice A n c] w fun e w'=>e= .returned (.bool true)∧Below w.heap.size w w':=by
 obtain⟨rfl,hcx,hmx, -⟩:=id hx;unfold maxLen at hmx;go_enter Tryz.func3,Tryz.ntmps3;by_cases hlen:(1048576:Int)<(code.length:Int)
 ·go_wp2;go_ret;exact⟨rfl,Below.refl _ _⟩
 go_wp2_with fail;refine(jp5 _ hx).mono ?_;rintro e w1 ⟨m,q,A0,n0,c0,A1,n1,c1,A2,n2,c2,A3,c3,f,fq,rfl,hR,hQ,hok,hsm, -, -,HB⟩;clear hx;obtain rfl:n2=m.Rz.length:=by
  obtain⟨_,_,_,_,_,_,_,_,_,_,_,_,he, -, -, -,h2⟩:=hR;cases he;exact h2.1
 go_upto_region 4 with fail
 refine wp_HQ ⟨_,hR⟩ ⟨_,hQ⟩ ?_;intro w2 hm hq hb3;replace HB:=Below.t HB hb3;have hf:=Ja (And.intro hok.1 (jo1 hsm));clear hR hQ hb3 hok;have HS:=Ja hsm;clear hsm;obtain⟨x,a,ho⟩: ∃x a,jai m q=(x,a):=⟨_,_,rfl⟩;have HO:=Ja ho;clear ho;obtain⟨x0,x1,x2⟩:=hm.cells;go_wp2_with((refine wpList_load_row rfl 31 (.tmp 4) rfl _ rfl _ _ _ _ hq.k.out Tryz.underlying31 rfl jb3 ?_))
 go_wp2_with fail;refine(implDo hm hq hf.out.1 hf.out.2).mono ?_;rintro e w3 hd;obtain⟨A4,na4,ca4,A5,na5,ca5,A6,ca6,B0,nb0,cb0,B1,nb1,cb1,rfl,hX,hA,hb3⟩:=hd.parts HO.out;replace hm:=hm.step hb3;replace hq:=hq.step hb3;replace HB:=Below.t HB hb3;clear hb3 hd x0 x1 x2;go_upto_region 5 with fail
 refine wp_HA hX hA ?_;intro w4 hx ha hb3;replace hm:=hm.step hb3;replace hq:=hq.step hb3;replace HB:=Below.t HB hb3;clear hb3 hX hA;obtain⟨x0,x1,x2⟩:=hm.cells;go_wp2_with((refine wpList_load_row rfl 31 (.tmp 4) rfl _ rfl _ _ _ _ hq.k.out Tryz.underlying31 rfl jb3 ?_));go_wp2_with fail;refine(specDo hm hq hf.out.1 hf.out.2).mono ?_;rintro e w5 hd
 obtain⟨A7,na7,ca7,A8,na8,ca8,A9,ca9,B2,nb2,cb2,B3,nb3,cb3,rfl,hX,hA,hb3⟩:=hd.parts HO.out;replace hm:=hm.step hb3;replace hq:=hq.step hb3;replace HB:=Below.t HB hb3;replace hx:=hx.step hb3;replace ha:=ha.step hb3;clear hb3 hd x0 x1 x2;go_upto_region 6 with fail
 refine wp_HA hX hA ?_;intro w6 hy hb hb3;replace hm:=hm.step hb3;replace hq:=hq.step hb3;replace HB:=Below.t HB hb3;replace hx:=hx.step hb3;replace ha:=ha.step hb3;clear hb3 hX hA;obtain⟨x0,x1,x2⟩:=hx.cells;obtain⟨y0,y1,y2⟩:=hy.cells;go_wp2_with fail;refine(jqp hx hy).mono ?_;rintro e w7 ⟨rfl,hb3⟩;replace hm:=hm.step hb3;replace hq:=hq.step hb3;replace HB:=Below.t HB hb3
 replace hx:=hx.step hb3;replace ha:=ha.step hb3;replace hy:=hy.step hb3;replace hb:=hb.step hb3;clear hb3 x0 x1 x2 y0 y1 y2;obtain⟨x0,x1,x2,x3⟩:=ha.cells;obtain⟨y0,y1,y2,y3⟩:=hb.cells;go_wp2_with fail;refine(jp8 ha hb).mono ?_;rintro e w8 ⟨rfl,hb3⟩;replace hm:=hm.step hb3;replace hq:=hq.step hb3;replace HB:=Below.t HB hb3;replace hx:=hx.step hb3;replace ha:=ha.step hb3
 clear hb3 x0 x1 x2 x3 y0 y1 y2 y3 hy hb;obtain⟨x0,x1,x2⟩:=hm.cells;go_wp2_with fail;refine(jhe _ hm.r.choose_spec hf.out.1).mono ?_;rintro e w9 ⟨rfl,hb3⟩;replace hm:=hm.step hb3;replace hq:=hq.step hb3;replace HB:=Below.t HB hb3;replace hx:=hx.step hb3;replace ha:=ha.step hb3;clear hb3 x0 x1 x2;have H0:=Ja (fun h=>code_zero h HO.out);cases hmo:Ys m
 ·have h0:=H0.out (by simp[hmo]);obtain⟨x0, -, -, -⟩:=ha.cells;rw[h0] at x0;go_wp2_with fail;refine(chOk_any _).mono ?_;rintro e w20 ⟨rfl,hb4⟩;go_wp2;go_ret;exact⟨rfl,Below.t HB hb4⟩
 obtain⟨q0,q1,q2,q3,q4,q5,q6,q7,q8,q9,q10,q11,q12,q13,q14⟩:=hq.cells;go_wp2_with fail;clear q0 q1 q2 q3 q4 q5 q6 q7 q8 q9 q10 q11 q12 q13 q14;refine(jhd _ hq.r.choose_spec hf.out.2).mono ?_;rintro e w10 ⟨rfl,hb3⟩;replace hm:=hm.step hb3;replace hq:=hq.step hb3;replace HB:=Below.t HB hb3;replace hx:=hx.step hb3;replace ha:=ha.step hb3;clear hb3;cases hro:Yw q
 ·have h0:=H0.out (by simp[hro]);obtain⟨x0, -, -, -⟩:=ha.cells;rw[h0] at x0;go_wp2_with fail;refine(chOk_any _).mono ?_;rintro e w20 ⟨rfl,hb4⟩;go_wp2;go_ret;exact⟨rfl,Below.t HB hb4⟩
 have HOK:=Ja (And.intro hmo hro);have HD:=Ja (show Zn m q=(x,a) by rw[←HO.out,jhr HOK.out]);clear hmo hro H0;go_upto_region 10 with fail
 obtain⟨w30,hw30⟩: ∃w30,w30=w10:=⟨_,rfl⟩;subst hw30;have HX:=Ja hx;have HM:=Ja hm;have HQ:=Ja hq;have HBB:=Ja HB;have HXO:=Ja (show Ys x=true by have h:=jh2 HOK.out.1 HOK.out.2;rw[HD.out] at h;exact h);have HRL:=Ja (show x.Rz.length=m.Rz.length by have h:=repos_length m q;rw[HD.out] at h;exact h)
 have HAL:=Ja (show ∀(i:Nat) (h1:i<m.Rz.length) (h2:i<x.Rz.length),AllowedAt q i m.Rz[i] x.Rz[i] from fun i h1 h2=>by
  obtain⟨q',h3,h4⟩:=allowed HOK.out.1 (jmn HOK.out.2).2.1.1 (List.getElem?_eq_getElem h1);rw[HD.out,List.getElem?_eq_getElem h2] at h3;obtain rfl:=Option.some.inj h3;exact h4)
 have ylen:m.Rz.length≤3:=by have:=(Jo.1 HOK.out.1).2.1.2;omega
 obtain⟨-, -,m2⟩:=hm.cells;clear hx hm hq HB HD HS HO ha;go_wp2_with fail
 go_loopw [9] (fun iv wz=>∃i:Nat,i≤m.Rz.length∧iv= .int .i64 i∧Below w30.heap.size w30 wz) (fun iv _=>m.Rz.length - (intOf iv).toNat)
 case atStart=>exact⟨0,Nat.zero_le _,rfl,Below.refl _ _⟩
 case round=>
  obtain⟨i,hi,rfl,hbi⟩:=hrel;obtain⟨wa,hwa⟩: ∃wa,wa=wr:=⟨_,rfl⟩;subst hwa;have HBI:=Ja hbi;replace m2:=Je m2 hbi;by_cases hlt:i<m.Rz.length;rotate_left
  ·have hi':i=m.Rz.length:=by omega
   subst hi';clear hbi;go_wp2;go_ret;exact⟨rfl,Below.t HBB.out HBI.out⟩
  have hix:i<x.Rz.length:=by have:=HRL.out;omega
  have HA:=Ja (HAL.out i hlt hix);have HRM:=Ja (RepoFit.of (repo_of HOK.out.1 (List.getElem?_eq_getElem hlt)));have HRX:=Ja (RepoFit.of (repo_of HXO.out (List.getElem?_eq_getElem hix)));obtain⟨fr,hr⟩:=(HM.out.step hbi).Rz;obtain⟨fx,hrx⟩:=(HX.out.step hbi).Rz;have x2:=(HX.out.step hbi).cells.2.2;obtain⟨-,hrc,hrm, -⟩:=id hr;obtain⟨-,hrcx,hrmx, -⟩:=id hrx;unfold maxLen at hrm hrmx
  obtain⟨b,o,D1,l1,d1,f1,D2,l2,d2,f2,rfl, -, -,p0,p1,p2,s1,s2, -⟩:=J7 hr hlt;obtain⟨bx,ox,E1,k1,e1,g1,E2,k2,e2,g2,rfl, -, -,y0,y1,y2,t1,t2, -⟩:=J7 hrx hix;obtain rfl:=s1.1;obtain rfl:=s2.1;obtain rfl:=t1.1;obtain rfl:=t2.1;have i0:(0:Int)≤(i:Int):=by omega
  have i1:(i:Int)<(m.Rz.length:Int):=by omega
  have i2:(i:Int)<(x.Rz.length:Int):=by omega
  have HLX:=HRL.out;have S1:=Ja s1;have S2:=Ja s2;have T1:=Ja t1;have T2:=Ja t2;clear hbi hr hrx s1 s2 t1 t2 hrc hrcx;go_upto_region 13 with fail
  go_cut [10,11] from 68 to 77 (fun v10 v11 wx=>∃g h,v10= .pointer (some ⟨g,0,none⟩)∧v11= .pointer (some ⟨h,0,none⟩)∧Blk wx g 48 #[.int .i64 m.Rz[i].Az,.slice D1 m.Rz[i].Uz.length d1,.slice D2 m.Rz[i].Fz.length d2]∧Blk wx h 48 #[.int .i64 x.Rz[i].Az,.slice E1 x.Rz[i].Uz.length e1,.slice E2 x.Rz[i].Fz.length e2]∧Below wa.heap.size wa wx)
  case first=>
   clear HLX hrm hrmx ylen hi;have a_m2:=fun y:Obj=>J6 m2 y;have b_m2:=fun y z:Obj=>J6 (J6 m2 y) z;have a_x2:=fun y:Obj=>J6 x2 y;have b_x2:=fun y z:Obj=>J6 (J6 x2 y) z;have a_p0:=fun y:Obj=>J6 p0 y;have b_p0:=fun y z:Obj=>J6 (J6 p0 y) z;have a_p1:=fun y:Obj=>J6 p1 y
   have b_p1:=fun y z:Obj=>J6 (J6 p1 y) z;have a_p2:=fun y:Obj=>J6 p2 y;have b_p2:=fun y z:Obj=>J6 (J6 p2 y) z;have a_y0:=fun y:Obj=>J6 y0 y;have b_y0:=fun y z:Obj=>J6 (J6 y0 y) z;have a_y1:=fun y:Obj=>J6 y1 y;have b_y1:=fun y z:Obj=>J6 (J6 y1 y) z;have a_y2:=fun y:Obj=>J6 y2 y
   have b_y2:=fun y z:Obj=>J6 (J6 y2 y) z
   as_aux_lemma=>
   go_region
   all_goals
    clear a_m2 b_m2 a_x2 b_x2 a_p0 b_p0 a_p1 b_p1 a_p2 b_p2 a_y0 b_y0 a_y1 b_y1 a_y2 b_y2;have DD1:=Ja (Blk.twoD wa 48 48 #[.int .i64 m.Rz[i].Az,.slice D1 m.Rz[i].Uz.length d1,.slice D2 m.Rz[i].Fz.length d2] #[.int .i64 x.Rz[i].Az,.slice E1 x.Rz[i].Uz.length e1,.slice E2 x.Rz[i].Fz.length e2])
    have DD2:=Ja (Blk.twoD wa 48 48 #[.int .i64 x.Rz[i].Az,.slice E1 x.Rz[i].Uz.length e1,.slice E2 x.Rz[i].Fz.length e2] #[.int .i64 m.Rz[i].Az,.slice D1 m.Rz[i].Uz.length d1,.slice D2 m.Rz[i].Fz.length d2]);go_wp2_with fail;go_meet
    case rel=>first|exact⟨_,_,rfl,rfl,DD1.out.1,DD1.out.2.1,DD1.out.2.2⟩|exact⟨_,_,rfl,rfl,DD2.out.2.1,DD2.out.1,DD2.out.2.2⟩
  case rest=>
   obtain⟨wb,hwb⟩: ∃wb,wb=wc:=⟨_,rfl⟩;subst hwb;obtain⟨gp,gx,rfl,rfl,kp,kx,hb3⟩:=hcut;have HBB1:=Ja (Below.t HBI.out hb3);replace m2:=Je m2 hb3;have KP:=Ja kp;have KX:=Ja kx;have hq1:=HQ.out.step HBB1.out;have SP1:=Ja (S1.out.step hb3);have SP2:=Ja (S2.out.step hb3);have SX1:=Ja (T1.out.step hb3);have SX2:=Ja (T2.out.step hb3);clear hb3 x2 p0 p1 p2 y0 y1 y2 HLX
   have hml:m.Rz[i].Fz.length≤3:=HRM.out.nrefs;have hxl:x.Rz[i].Fz.length≤3:=HRX.out.nrefs;go_upto_region 14 with fail
   go_cut [109] from 78 to 109 (fun v wx=>v= .bool false∧Below wb.heap.size wb wx)
   case first=>
    have p0:=kp.cell 0;have p1:=kp.cell 1;have p2:=kp.cell 2;have y1:=kx.cell 1;have y2:=kx.cell 2;simp only[List.getElem?_toArray,List.getElem?_cons_zero,List.getElem?_cons_succ] at p0 p1 p2 y1 y2;clear kp kx KP KX S1 S2 T1 T2 HQ HX HM HAL SP2 SX2 m2
    as_aux_lemma=>
    go_wp2_with fail;refine(jld _ SP1.out SX1.out).mono ?_;rintro e wd ⟨rfl,hb4⟩;have HQ4:=Ja (hq1.step hb4);have HB4:=Ja hb4;replace p0:=Je p0 hb4;replace p2:=Je p2 hb4;replace y2:=Je y2 hb4;clear hb4 hq1
    have hyes: ∀(_:m.Rz[i].Uz≠x.Rz[i].Uz∨m.Rz[i].Fz.length≠x.Rz[i].Fz.length),m.Rz[i].Az=q.user∧q.repo=(i:Int)∧Vs q=false:=HA.out.1;have HYES:=Ja hyes;clear hyes;by_cases hrl:m.Rz[i].Uz=x.Rz[i].Uz
    ·rw[decide_eq_true hrl];clear hrl;by_cases hll:m.Rz[i].Fz.length=x.Rz[i].Fz.length
     ·have hll':((m.Rz[i].Fz.length:Int) !=(x.Rz[i].Fz.length:Int))=false:=by simp[hll]
      have hll2:(m.Rz[i].Fz.length !=x.Rz[i].Fz.length)=false:=by simp[hll]
      clear hll;go_wp2_with fail;go_meet
      case rel=>exact⟨rfl,HB4.out⟩
     ·have HNE:=Ja (HYES.out (.inr hll));have hll':((m.Rz[i].Fz.length:Int) !=(x.Rz[i].Fz.length:Int))=true:=by simp;omega
      have hll2:(m.Rz[i].Fz.length !=x.Rz[i].Fz.length)=true:=by simp[hll]
      clear hll;obtain⟨q0,q1,q2,q3,q4,q5,q6,q7,q8,q9,q10,q11,q12,q13,q14⟩:=HQ4.out.cells;have hu1:(m.Rz[i].Az !=q.user)=false:=by have:=HNE.out.1;simp[this]
      have hu2:(q.repo !=(i:Int))=false:=by have:=HNE.out.2.1;simp[this]
      go_wp2_with fail;refine(jec _ HQ4.out.r.choose_spec).mono ?_;rintro e wf ⟨rfl,hb6⟩;rw[HNE.out.2.2];have HB6:=Ja (Below.t HB4.out hb6);clear q0 q1 q2 q3 q4 q5 q6 q7 q8 q9 q10 q11 q12 q13 q14 hb6;go_wp2_with fail;go_meet
      case rel=>exact⟨rfl,HB6.out⟩
    ·rw[decide_eq_false hrl];have HNE:=Ja (HYES.out (.inl hrl));clear hrl;obtain⟨q0,q1,q2,q3,q4,q5,q6,q7,q8,q9,q10,q11,q12,q13,q14⟩:=HQ4.out.cells;have hu1:(m.Rz[i].Az !=q.user)=false:=by have:=HNE.out.1;simp[this]
     have hu2:(q.repo !=(i:Int))=false:=by have:=HNE.out.2.1;simp[this]
     go_wp2_with fail;refine(jec _ HQ4.out.r.choose_spec).mono ?_;rintro e wf ⟨rfl,hb6⟩;rw[HNE.out.2.2];have HB6:=Ja (Below.t HB4.out hb6);clear q0 q1 q2 q3 q4 q5 q6 q7 q8 q9 q10 q11 q12 q13 q14 hb6;go_wp2_with fail;go_meet
     case rel=>exact⟨rfl,HB6.out⟩
   case rest=>
    obtain⟨we,hwe⟩: ∃we,we=wc:=⟨_,rfl⟩;subst hwe;obtain⟨rfl,hb5⟩:=hcut;have HBE:=Ja (Below.t HBB1.out hb5);have KPE:=Ja (KP.out.step hb5);have KXE:=Ja (KX.out.step hb5);have SP1E:=Ja (SP1.out.step hb5);have SP2E:=Ja (SP2.out.step hb5);have SX2E:=Ja (SX2.out.step hb5);have HQE:=Ja (HQ.out.step HBE.out);clear kp kx hb5 hq1 m2 KP KX S1 S2 T1 T2 SP1 SP2 SX1 SX2 HM HX HAL
    as_aux_lemma=>
    go_upto_if 109 with fail
    go_wp2_with fail
    go_loopw [12] (fun kv wz=>∃k:Nat,k≤m.Rz[i].Fz.length∧kv= .int .i64 k∧Below we.heap.size we wz) (fun kv _=>m.Rz[i].Fz.length - (intOf kv).toNat)
    case atStart=>exact⟨0,Nat.zero_le _,rfl,Below.refl _ _⟩
    case round=>
     as_aux_lemma=>
     obtain⟨k,hk,rfl,hbk⟩:=hrel;obtain⟨wf,hwf⟩: ∃wf,wf=wr:=⟨_,rfl⟩;subst hwf;have HBF:=Ja (Below.t HBE.out hbk);have HKB:=Ja hbk;have p2:=(KPE.out.step hbk).cell 2;have y2:=(KXE.out.step hbk).cell 2;simp only[List.getElem?_toArray,List.getElem?_cons_zero,List.getElem?_cons_succ] at p2 y2;by_cases hkl:k<m.Rz[i].Fz.length;rotate_left
     ·have hk':k=m.Rz[i].Fz.length:=by omega
      subst hk';clear hbk;go_wp2;exact⟨⟨i+1,by omega,by go_num,HBF.out⟩,by simp[intOf];omega⟩
     by_cases hll:m.Rz[i].Fz.length=x.Rz[i].Fz.length;rotate_left
     ·have hl1:((m.Rz[i].Fz.length:Int)==(x.Rz[i].Fz.length:Int))=false:=by simp;omega
      have hl2:(m.Rz[i].Fz.length==x.Rz[i].Fz.length)=false:=by simp[hll]
      clear hbk hll;go_wp2;exact⟨⟨i+1,by omega,by go_num,HBF.out⟩,by simp[intOf];omega⟩
     have hkx:k<x.Rz[i].Fz.length:=by omega
     have hl1:((m.Rz[i].Fz.length:Int)==(x.Rz[i].Fz.length:Int))=true:=by simp;omega
     have hl2:(m.Rz[i].Fz.length==x.Rz[i].Fz.length)=true:=by simp[hll]
     have HAK:=Ja (HA.out.2 hll k hkl hkx);have hom:=(Zq (repo_of HOK.out.1 (List.getElem?_eq_getElem hlt)) (List.getElem_mem hkl)).1;have hox:=(Zq (repo_of HXO.out (List.getElem?_eq_getElem hix)) (List.getElem_mem hkx)).1;have HCM:=Ja (Z2.1 hom).1;have HTM:=Ja (latest_ok hom).2.1;have HTX:=Ja (latest_ok hox).2.1
     obtain⟨u1,hu1⟩: ∃u1,m.Rz[i].Fz[k].Vz.length=u1+1:=⟨m.Rz[i].Fz[k].Vz.length - 1,by have:=(Z2.1 hom).2.1;omega⟩;obtain⟨u2,hu2⟩: ∃u2,x.Rz[i].Fz[k].Vz.length=u2+1:=⟨x.Rz[i].Fz[k].Vz.length - 1,by have:=(Z2.1 hox).2.1;omega⟩;have b1:u1≤3:=by have:=(Z2.1 hom).2.1;omega
     have b2:u2≤3:=by have:=(Z2.1 hox).2.1;omega
     obtain⟨bR,oR,V1,v1,d9,g9,rfl, -, -,t0, -,t2,t3,s9, -⟩:=J3 (SP2E.out.step hbk) hkl;obtain⟨bS,oS,V2,v2,e9,h9,rfl, -, -, -, -,r2,r3,s8, -⟩:=J3 (SX2E.out.step hbk) hkx;obtain rfl:v1=u1+1:=by have:=s9.1;omega
     obtain rfl:v2=u2+1:=by have:=s8.1;omega
     obtain⟨bV,oV,rfl,AF,cF,fF,z1,sf1⟩:=ver_cell s9 (u:=u1) (by omega);obtain⟨bU,oU,rfl,AG,cG,fG,z2,sf2⟩:=ver_cell s8 (u:=u2) (by omega);simp only[latest_n hu1] at z1 sf1;simp only[latest_n hu2] at z2 sf2;have P2:=Ja p2;have Y2:=Ja y2;have T0:=Ja t0;have T2:=Ja t2;have R2:=Ja r2;have R3:=Ja r3;have Z2:=Ja z2;have SF1:=Ja sf1;have SF2:=Ja sf2;have j0:(0:Int)≤(k:Int):=by omega
     have j1:(k:Int)<(m.Rz[i].Fz.length:Int):=by omega
     have j2:(k:Int)<(x.Rz[i].Fz.length:Int):=by omega
     have n1:(0:Int)≤(u1:Int):=by omega
     have n2:(0:Int)≤(u2:Int):=by omega
     have wr1:IntKind.i64.wrap (((u1+1:Nat):Int) - 1)=(u1:Int):=by rw[show((u1+1:Nat):Int) - 1=(u1:Int) by omega];exact IntWalk.i64_in _ (by omega)
     have wr2:IntKind.i64.wrap (((u2+1:Nat):Int) - 1)=(u2:Int):=by rw[show((u2+1:Nat):Int) - 1=(u2:Int) by omega];exact IntWalk.i64_in _ (by omega)
     have wr3:IntKind.i64.wrap ((u1:Int)+1 - 1)=(u1:Int):=by rw[show(u1:Int)+1 - 1=(u1:Int) by omega];exact IntWalk.i64_in _ (by omega)
     have wr4:IntKind.i64.wrap ((u2:Int)+1 - 1)=(u2:Int):=by rw[show(u2:Int)+1 - 1=(u2:Int) by omega];exact IntWalk.i64_in _ (by omega)
     have HU:=Ja (And.intro hu1 hu2);clear hbk s9 s8 sf1 sf2 hom hox hu1 hu2 hll r2 t2 t0;go_upto_region 19 with fail
     clear hl1 hl2
     go_cut [13] from 126 to 141 (fun v wx=>v= .slice AF (latest m.Rz[i].Fz[k]).length cF∧Below wf.heap.size wf wx)
     case first=>
      clear y2 r3 z2
      as_aux_lemma=>
      have n0:=BelowW.nonempty wf;have ex0:=BelowW.ex (w:=wf);have g0:=bwc p2;have g1:=bwc t3;have g2:=bwc z1;clear p2 t3 z1;refine Jf (by kernel_rfl) (by kernel_rfl) ?_
      repeat(go_big_quiet_step(fail))
      refine wpQuiet_nil ?_;rintro wq ⟨m9,hw9⟩;have hbq:=m9.property;rw[←hw9] at hbq;clear hw9 m9;go_wp2_with fail;go_meet
      case rel=>exact⟨rfl,hbq⟩
     case rest=>
      obtain⟨wg,hwwg⟩: ∃wg,wg=wc:=⟨_,rfl⟩;subst hwwg;obtain⟨rfl,hbq⟩:=hcut;replace y2:=Je y2 hbq;replace r3:=Je r3 hbq;replace z2:=Je z2 hbq;have HG:=Ja hbq;clear hbq p2 t3 z1;go_upto_region 20 with fail
      go_cut [14] from 142 to 157 (fun v wx=>v= .slice AG (latest x.Rz[i].Fz[k]).length cG∧Below wg.heap.size wg wx)
      case first=>
       skip
       as_aux_lemma=>
       have n0:=BelowW.nonempty wg;have ex0:=BelowW.ex (w:=wg);have g0:=bwc y2;have g1:=bwc r3;have g2:=bwc z2;clear y2 r3 z2;refine Jf (by kernel_rfl) (by kernel_rfl) ?_
       repeat(go_big_quiet_step(fail))
       refine wpQuiet_nil ?_;rintro wq ⟨m9,hw9⟩;have hbq:=m9.property;rw[←hw9] at hbq;clear hw9 m9;go_wp2_with fail;go_meet
       case rel=>exact⟨rfl,hbq⟩
      case rest=>
       obtain⟨wh,hwwh⟩: ∃wh,wh=wc:=⟨_,rfl⟩;subst hwwh;obtain⟨rfl,hbq⟩:=hcut;have HH:=Ja (Below.t HG.out hbq);clear hbq y2 r3 z2 wr1 wr2 wr3 wr4 n1 n2;go_wp2_with fail;refine(implTreDiffers_any _ (SF1.out.step HH.out) (SF2.out.step HH.out) (Yo.1 HTM.out).1 (Yo.1 HTX.out).1).mono ?_;rintro e wi ⟨AT,cT,fT,ts,rfl,st,hin,hlt0,hbt⟩;have hts:ts.length≤4194304:=by
        have h1:=dB_le (latest m.Rz[i].Fz[k]) (latest x.Rz[i].Fz[k]) (latest x.Rz[i].Fz[k]).length;rw[dB_all] at h1;have h2:=(Yo.1 HTM.out).1;have h3:=(Yo.1 HTX.out).1;omega
       have HI:=Ja (Below.t HH.out hbt);have ST:=Ja st;have HIN:=Ja hin;have HBI2:=Ja (Below.t HKB.out HI.out);obtain⟨-,hstc,hstm, -⟩:=id st;unfold maxLen at hstm;clear st hin hlt0 hbt;go_wp2_with fail
       go_loopw [16] (fun jv wz=>∃j:Nat,j≤ts.length∧jv= .int .i64 j∧Below wi.heap.size wi wz) (fun jv _=>ts.length - (intOf jv).toNat)
       case atStart=>exact⟨0,Nat.zero_le _,rfl,Below.refl _ _⟩
       case round=>
        as_aux_lemma=>
        obtain⟨j,hj,rfl,hbj⟩:=hrel;obtain⟨wj,hwj⟩: ∃wj,wj=wr:=⟨_,rfl⟩;subst hwj;have HJ:=Ja hbj;have HFJ:=Ja (Below.t HI.out hbj);by_cases hjl:j<ts.length
        ·obtain⟨hr1,hr2,hr3,hr4⟩:=HAK.out.1 ts[j] (HIN.out _ (List.getElem_mem hjl));obtain⟨bT,oT,rfl, -, -,l0⟩:=ja0 (ST.out.step hbj) hjl;have hqj:=HQE.out.step (Below.t HKB.out HFJ.out);have sp1:=SP1E.out.step (Below.t HKB.out HFJ.out);obtain⟨q0,q1,q2,q3,q4,q5,q6,q7,q8,q9,q10,q11,q12,q13,q14⟩:=hqj.cells;have C1:=fun n:BelowW wj=>jec n.val (hqj.step n.property).r.choose_spec
         have C2:=fun n:BelowW wj=>Z0 q.user q.ref ts[j] true _ (BelowW.sl n sp1) (HRM.out.fit.Uz) (differs_small HTM.out HTX.out (HIN.out _ (List.getElem_mem hjl)));rw[hr3] at C1;rw[hr4] at C2;have D1:=Ja C1;have D2:=Ja C2;have hu2:(q.repo !=(i:Int))=false:=by simp[hr1]
         have hqn:=Jr q.ref m.Rz[i].Fz[k].name;rw[decide_eq_true hr2] at hqn;have p1:=(KPE.out.step (Below.t HKB.out HFJ.out)).cell 1;have p2:=(KPE.out.step (Below.t HKB.out HFJ.out)).cell 2;simp only[List.getElem?_toArray,List.getElem?_cons_zero,List.getElem?_cons_succ] at p1 p2;have t0:=Je T0.out HFJ.out;have l1:(0:Int)≤(j:Int):=by omega
         have l2:(j:Int)<(ts.length:Int):=by omega
         clear hr1 hr2 hr3 hr4 C1 C2 hbj hqj sp1;go_upto_region 25 with fail
         go_cut [200] from 167 to 200 (fun v wx=>v= .bool false∧Below wj.heap.size wj wx)
         case first=>
          skip
          as_aux_lemma=>
          have n0:=BelowW.nonempty wj;have ex0:=BelowW.ex (w:=wj);have g0:=bwc q0;have g1:=bwc q1;have g2:=bwc q2;have g3:=bwc q3;have g4:=bwc q4;have g5:=bwc q5;have g6:=bwc q6;have g7:=bwc q7;have g8:=bwc q8;have g9:=bwc q9;have g10:=bwc q10;have g11:=bwc q11;have g12:=bwc q12;have g13:=bwc q13;have g14:=bwc q14;have g15:=bwc p1;have g16:=bwc p2;have g17:=bwc t0;have g18:=bwc l0
          clear q0 q1 q2 q3 q4 q5 q6 q7 q8 q9 q10 q11 q12 q13 q14 p1 p2 t0 l0;refine Jf (by kernel_rfl) (by kernel_rfl) ?_
          repeat(go_big_quiet_step(first|(go_at_call 16;exact BelowW.calls _ (D1.out _))|(go_at_call 18;exact BelowW.calls _ (D2.out _))))
          refine wpQuiet_nil ?_;rintro wq ⟨m9,hw9⟩;have hbq:=m9.property;rw[←hw9] at hbq;clear hw9 m9;go_wp2_with fail;go_meet
          case rel=>exact⟨rfl,hbq⟩
         case rest=>
          obtain⟨wk,hwwk⟩: ∃wk,wk=wc:=⟨_,rfl⟩;subst hwwk;obtain⟨rfl,hbq⟩:=hcut;have HK5:=Ja (Below.t HJ.out hbq);clear hbq hu2 hqn p1 p2 t0 l0 l1 l2 D1 D2 q0 q1 q2 q3 q4 q5 q6 q7 q8 q9 q10 q11 q12 q13 q14;go_wp2;exact⟨⟨j+1,by omega,by go_num,HK5.out⟩,by simp[intOf];omega⟩
        ·have hj':j=ts.length:=by omega
         subst hj';have hcnt:=HAK.out.2;have HCN:=Ja hcnt;have hqj:=HQE.out.step (Below.t HKB.out HFJ.out);obtain⟨-, -, -, -,q4, -,q6, -⟩:=hqj.cells;have p2:=(KPE.out.step (Below.t HKB.out HFJ.out)).cell 2;have y2:=(KXE.out.step (Below.t HKB.out HFJ.out)).cell 2;simp only[List.getElem?_toArray,List.getElem?_cons_zero,List.getElem?_cons_succ] at p2 y2;have t0:=Je T0.out HFJ.out
         have t2:=Je T2.out HFJ.out;have r2:=Je R2.out HFJ.out;clear hcnt hbj hqj;go_upto_region 27 with fail
         go_cut [251] from 201 to 251 (fun v wx=>v= .bool false∧Below wj.heap.size wj wx)
         case first=>
          clear HQ HQE SP1E SP2E SX2E KPE KXE;by_cases hc:m.Rz[i].Fz[k].count=x.Rz[i].Fz[k].count
          ·have hc1:(m.Rz[i].Fz[k].count !=x.Rz[i].Fz[k].count)=false:=by simp[hc]
           clear hc
           as_aux_lemma=>
           have n0:=BelowW.nonempty wj;have ex0:=BelowW.ex (w:=wj);have g0:=bwc p2;have g1:=bwc y2;have g2:=bwc t2;have g3:=bwc r2;have g4:=bwc t0;have g5:=bwc q4;have g6:=bwc q6;clear p2 y2 t2 r2 t0 q4 q6;refine Jf (by kernel_rfl) (by kernel_rfl) ?_
           repeat(go_big_quiet_step(fail))
           refine wpQuiet_nil ?_;rintro wq ⟨m9,hw9⟩;have hbq:=m9.property;rw[←hw9] at hbq;clear hw9 m9;go_wp2_with fail;go_meet
           case rel=>exact⟨rfl,hbq⟩
          ·obtain⟨e1,e2,e3⟩:=HCN.out hc;have hc1:(m.Rz[i].Fz[k].count !=x.Rz[i].Fz[k].count)=true:=by simp[hc]
           have hcw:IntKind.i64.wrap (m.Rz[i].Fz[k].count+1)=m.Rz[i].Fz[k].count+1:=IntWalk.i64_in _ (by have:=HCM.out;omega);have hc2:(x.Rz[i].Fz[k].count !=m.Rz[i].Fz[k].count+1)=false:=by simp[e1]
           have hc3:(q.old !=m.Rz[i].Fz[k].count)=false:=by simp[e2]
           have hqn:=Jr q.ref m.Rz[i].Fz[k].name;rw[decide_eq_true e3] at hqn;clear e1 e2 e3 hc
           as_aux_lemma=>
           have n0:=BelowW.nonempty wj;have ex0:=BelowW.ex (w:=wj);have g0:=bwc p2;have g1:=bwc y2;have g2:=bwc t2;have g3:=bwc r2;have g4:=bwc t0;have g5:=bwc q4;have g6:=bwc q6;clear p2 y2 t2 r2 t0 q4 q6;refine Jf (by kernel_rfl) (by kernel_rfl) ?_
           repeat(go_big_quiet_step(fail))
           refine wpQuiet_nil ?_;rintro wq ⟨m9,hw9⟩;have hbq:=m9.property;rw[←hw9] at hbq;clear hw9 m9;go_wp2_with fail;go_meet
           case rel=>exact⟨rfl,hbq⟩
         case rest=>
          obtain⟨rfl,hbq⟩:=hcut;have HK6:=Ja (Below.t HKB.out (Below.t HFJ.out hbq));clear hbq p2 y2 t0 t2 r2 q4 q6;go_wp2;exact⟨⟨k+1,by omega,by go_num,HK6.out⟩,by simp[intOf];omega⟩
def Opens {α H:Type} (enc:TypeId×Value→H) (P:Program) (t:TypeId) (r:Rp α) (ok:α→Prop):Prop:=
 ∀ {w:World} {base:Nat} {spare:Nat→Bool} {held:Bool} {fuel:Nat} {cs:List Value} {x:DataW H×List MemPlace},DataW.trod enc P w base spare held fuel t cs=some x→∃y fp,r.R w cs y fp∧ok y
section
variable {H:Type} {enc:TypeId×Value→H} {P:Program}
theorem opens_byte {t:TypeId} (ht:P.underlying t=some (.int .u8)):Opens enc P t Rp.byte (fun _=>True):=fun h=>by
 obtain⟨n,rfl,_,hw⟩:=DataW.trod_int ht h;simp[Lit.wf,IntKind.min,IntKind.max,IntKind.signed,IntKind.bits] at hw;refine⟨UInt8.ofNat n.toNat,[],⟨?_,rfl⟩,trivial⟩;have e:((UInt8.ofNat n.toNat).toNat:Int)=n:=by
  rw[UInt8.toNat_ofNat'];omega
 show [Value.int .u8 n]= [Value.int .u8 ((UInt8.ofNat n.toNat).toNat:Int)];rw[e]
theorem spot_none {w:World} {a:Addr} {v:Value} (h:w.cell? a=some v):a.spot=none:=by
 unfold World.cell? at h;split at h
 ·split at h
  ·cases h
  ·rename_i hs;simpa using hs
 ·cases h
theorem opens_rows {α:Type} {r:Rp α} {ok:α→Prop} {w:World} {base:Nat} {a:Addr} : ∀(len:Nat),(∀i,i<len→∃cs' y f,w.cells? base (a.add (i*r.k)) r.k=some cs'∧r.R w cs' y f∧ok y)→
  ∃xs l fp,l.length=len∧AllR r w xs l fp∧(∀y∈l,ok y)∧∀j u,xs[j]? =some u→w.cell? (a.add j)=some u
 | 0,_=>⟨[],[],[],rfl,⟨rfl,rfl⟩,by simp,by simp⟩
 |len+1,h=>by
  obtain⟨xs,l,fp,hl,ha,hok,hc⟩:=opens_rows len (fun i hi=>h i (by omega));obtain⟨cs',y,f,hcs,hr,hy⟩:=h len (by omega);obtain⟨_,hcl,hat⟩:=World.cells?_some hcs;have hxl:=ha.len;refine⟨xs++cs',l++ [y],fp++f,by simp[hl],ha.snoc hr,fun z hz=> ?_,fun j u hu=> ?_⟩
  ·rcases List.mem_append.1 hz with hz|hz
   ·exact hok z hz
   ·simp at hz;subst hz;exact hy
  ·by_cases hj:j<xs.length
   ·rw[List.getElem?_append_left hj] at hu;exact hc j u hu
   ·rw[List.getElem?_append_right (by omega)] at hu;have hlt:=(List.getElem?_eq_some_iff.1 hu).1;have:=hat (i:=j - xs.length) (by omega);rw[hu] at this;rw[Go.Deep.add_add,show len*r.k+(j - xs.length)=j from by rw[hl] at hxl;omega] at this;exact this
theorem opens_slice {α:Type} {r:Rp α} {ok:α→Prop} {t e:TypeId} (ht:P.underlying t=some (.slice e)) (hC:P.cellsOf e=r.k) (hk:0<r.k) (h:Opens enc P e r ok):Opens enc P t (Rp.slice r) (fun l=>∀y∈l,ok y):=fun {w base spare held fuel cs x} hr=>by
 rcases open_slice ht hr with ⟨rfl,_⟩|⟨a,len,cap,m,n,D,Pl,rfl,hb,hl,hm,hmm,_,hi⟩
 ·exact⟨[],[],⟨none,0,0,rfl,SlR.nil⟩,by simp⟩
 ·have hle:len≤m:=by rw[hmm];split<;>omega
  rw[hC] at hi;obtain⟨xs,l,fp,hlen,ha,hok,hc⟩:=opens_rows (r:=r) (ok:=ok) (w:=w) (base:=base) (a:=a) len (fun i hii=>by
   obtain⟨cs',hcs,htr⟩:=hi i (by omega);obtain⟨y,f,hR,hy⟩:=h htr;exact⟨cs',y,f,hcs,hR,hy⟩)
  have hxl:=ha.len;by_cases h0:len=0
  ·subst h0;have:l= []:=List.eq_nil_of_length_eq_zero hlen;subst this;obtain⟨rfl,rfl⟩:=ha;exact⟨[],[],⟨some a,0,cap,rfl,rfl,Nat.zero_le _,hm,[],[],[],⟨by simp,.inl ⟨rfl,rfl⟩⟩,⟨rfl,rfl⟩,rfl⟩,by simp⟩
  ·have hpos:0<xs.length:=by rw[hxl,hlen];exact Nat.mul_pos (by omega) hk
   have h00:=hc 0 xs[0] (List.getElem?_eq_getElem hpos);have ha0:a.add 0=a:=by simp[Addr.add]
   rw[ha0] at h00;obtain⟨b,o,s⟩:=a;have hs:s=none:=spot_none h00;subst hs;refine⟨l,[b]++fp,⟨_,len,cap,rfl,hlen.symm,hl,hm,xs,[b],fp,⟨by rw[hxl,hlen],.inr ⟨by omega,b,o,rfl,rfl,World.block_lt_of_cell? w _ h00,fun j u hu=> ?_⟩⟩,ha,rfl⟩,hok⟩;have:=hc j u hu;rwa [Addr.add_lit] at this
theorem post_of_below {f:Func} {s:ChangeSpec} {apart fresh handsOn again:Bool} {W W':World} {args:Array Value} {v:Value} {ds gs:List (DataW H)} {before pa pv:List MemPlace}
  (hW:DataW.Whole enc P f.params.toList s.vars apart W args.toList ds gs before)
  (hres: ∀(b:Nat) (sp:Nat→Bool) (hd:Bool),DataW.TrodAll enc P W' b sp hd f.resultTypes.toList (v.resultList f.resultTypes.size) (s.fn H (ds++gs)).results [])
  (hargs: ∀sp:Nat→Bool,(∀p∈before,sp p.block=true)→DataW.TrodAll enc P W' 0 sp true f.params.toList args.toList (s.fn H (ds++gs)).args pa)
  (hvars: ∀sp:Nat→Bool,(∀p∈before,sp p.block=true)→DataW.TrodVars enc P W' sp s.vars (s.fn H (ds++gs)).vars pv)
  (hps:before=pa++pv) (hb:Below W.heap.size W W')
  (hok: ∀(j:Nat) (t:TypeId) (r:Value),f.resultTypes[j]? =some t→(v.resultList f.resultTypes.size)[j]? =some r→Value.okWide P W' .any 0 t r):
  s.post enc P f apart fresh handsOn again W args v W':=by
 have hlt: ∀p∈before,p.block<W.heap.size:=fun p hp=>hW.lt p hp;have hold: ∀p∈before,(fun b=>decide (b<W.heap.size)) p.block=true:=fun p hp=>by simpa using hlt p hp
 refine⟨ds,gs,before,[],pa,pv,hW,hres _ _ _,hargs _ hold,hvars _ hold,World.keptBut_mono (fun p hp=>⟨hp, ?_⟩) (hb.frame (·∈before)),fun _=> ?_⟩
 ·rw[hps,List.mem_append] at hp;exact Or.inr hp
 ·obtain⟨_,_,_,_,_,hz,hn⟩:=hW;refine⟨hok,_,_,([]++pa)++pv,⟨[]++pa,pv,trodAll_append (hargs _ (fun _ _=>rfl)) (hres _ _ _),hvars _ (fun _ _=>rfl),rfl, ?_, ?_⟩, ?_⟩
  ·intro b off hp;have hin:MemPlace.cell b off∈before:=by rw[hps];simpa using hp
   rw[hb.frozen (hlt _ hin)];exact hz b off hin
  ·intro ha;have:=hn ha;rw[hps] at this;simpa using this
  ·intro p hp _;rw[hps];simpa using hp
end
theorem fnMdlMay_own:ownKnob Tryz.prog.godebug=none:=by kernel_rfl
theorem fnMdlMay_laidOut:laidOutB Tryz.prog=true:=by kernel_rfl
theorem fnMdlMay_contract (H:Type) (enc:TypeId×Value→H) (W:World) (base:Nat) (args:Array Value) (ds gs:List (DataW H)) (before:List MemPlace)
  (hval0: ∀(j:Nat) t v,Tryz.f3.params[j]? =some t→args[j]? =some v→Value.okWide Tryz.prog W .any base t v)
  (hW:DataW.Whole enc Tryz.prog Tryz.f3.params.toList Rows.fnMdlMaySpec.vars false W args.toList ds gs before):
  Calls Tryz.prog 3 args W fun e W'=>∃v,e= .returned v∧Rows.fnMdlMaySpec.post enc Tryz.prog Tryz.f3 false true false false W args v W':=by
 have hval:=hval0;have hW':=hW;obtain⟨p,q,hA0,hV,rfl,hfz,hnd⟩:=hW;have hA:DataW.TrodAll enc Tryz.prog W 0 (fun _=>true) true Tryz.f3.params.toList args.toList ds p:=hA0;rw[Tryz.params3] at hA hval;obtain⟨v0,d0,rfl,rfl,h0⟩:=trodAll_one hA;obtain⟨rfl,rfl⟩:=trodVars_none hV;have h0k:=h0;obtain⟨a0,len0,cap0,rfl⟩:=okWide_slice Tryz.underlying22 (hval 0 22 v0 rfl rfl);obtain⟨fuel0,hf0⟩:=h0
 obtain⟨l0,fp0,⟨A0,n0,c0,hcs0,hs0⟩,hw0⟩:=opens_slice Tryz.underlying22 (by kernel_rfl) (by decide) (opens_byte Tryz.underlying5) hf0;have hc0:Value.slice a0 len0 cap0= .slice A0 n0 c0:=by simpa [Value.cells] using hcs0
 rw[hc0] at h0k hW' ⊢;clear hf0 hcs0 hc0;clear hA0 hval hval0;simp only[List.append_nil] at hW';refine(lawMay W hs0).mono fun e W' ⟨he,hb⟩=> ?_;subst he;have hlt0: ∀y∈p,y.block<W.heap.size:=fun y hy=>hW'.lt y (by simp[hy])
 refine⟨_,rfl,post_of_below (pa:=p) (pv:=[]) hW' (fun _ _ _=>trodAll_mk1 (shut_bool Tryz.underlying4 _)) (fun sp hsp=> ?_) (fun _ _=>rfl) (by simp) hb (ok_one (by kernel_rfl) rfl (okWide_bool_mk Tryz.underlying4 _))⟩;exact trodAll_mk1 (WideElems.Trod_stays fnMdlMay_laidOut (by kernel_rfl) (of_decide_eq_true (by kernel_rfl)) h0k (fun y hy=>hb.same (hlt0 y hy)) (fun y hy=>hsp y (by simp[hy])))
mutual
def fnMdlMay_flat:DataW Unit→List Value
 | .lit l=>[l.value]
 | .agg ps=>fnMdlMay_flats ps
 |_=>[]
def fnMdlMay_flats:List (DataW Unit)→List Value
 | []=>[]
 |d::r=>fnMdlMay_flat d++fnMdlMay_flats r
end
noncomputable def fnMdlMay_world (os:Os):World:=
 { World.holding Tryz.prog os ⟨#[],#[],[]⟩ with heap:=(((World.holding Tryz.prog os ⟨#[],#[],[]⟩).heap.modify 2 fun
   | .cells _ t frozen=> .cells (fnMdlMay_flat Rows.laid_unicode_utf8_acceptRanges).toArray t frozen
   |o=>o).modify 1 fun
   | .cells _ t frozen=> .cells (fnMdlMay_flat Rows.laid_unicode_utf8_first).toArray t frozen
   |o=>o)}
set_option maxRecDepth 100000 in
theorem fnMdlMay_met (os:Os):laidMet Tryz.prog Rows.fnMdlMayRow.laid ((fnMdlMay_world os).forCall (fun _ _=>0) ⟨#[],#[.slice none 0 0],[]⟩).memory:=
 laidMet_of_run' 8 (by kernel_rfl) (by kernel_rfl)
theorem fnMdlMay_reads (os:Os) {H:Type} (enc:TypeId×Value→H): ∃x,DataW.whole enc Tryz.prog ((fnMdlMay_world os).forCall (fun _ _=>0) ⟨#[],#[.slice none 0 0],[]⟩).memory Tryz.f3.params.toList Rows.fnMdlMaySpec.vars false (#[.slice none 0 0]:Array Value).toList 8=some x:=
 Option.isSome_iff_exists.1 (show(DataW.whole enc Tryz.prog ((fnMdlMay_world os).forCall (fun _ _=>0) ⟨#[],#[.slice none 0 0],[]⟩).memory Tryz.f3.params.toList Rows.fnMdlMaySpec.vars false (#[.slice none 0 0]:Array Value).toList 8).isSome=true by kernel_rfl)
theorem fnMdlMay_lifted (os:Os) (started:os.Started) (H:Type) (enc:TypeId×Value→H) (F:Stop.Interp):
  ReturnsInHanded {} Tryz.checked os 3 .any ((OpenSpec.ofChange Rows.fnMdlMaySpec).preRow enc Tryz.prog Tryz.f3 Rows.fnMdlMayRow.domain false Rows.fnMdlMayRow.laid) (((OpenSpec.ofChange Rows.fnMdlMaySpec).at F).post enc Tryz.prog Tryz.f3 false true false false):=by
 obtain⟨x0,hx⟩:=fnMdlMay_reads os enc;refine returnsInHanded_of_row (C:=Tryz.checked) (s:=OpenSpec.ofChange Rows.fnMdlMaySpec) fnMdlMay_own started (by kernel_rfl) Tryz.func3
  (witness_row_at (enc:=enc) (C:=Tryz.checked) false (fnMdlMay_world os) #[.slice none 0 0] rfl (by kernel_rfl) (by kernel_rfl) (by kernel_rfl)
   (OpenSpec.preRow_of_cond 8 hx (by kernel_rfl) (fun k hk=>by cases hk) (by kernel_rfl) (fnMdlMay_met os))) ?_
 intro W base args ds gs before hval hW _ _ _ _ _ _;exact fnMdlMay_contract H enc W base args ds gs before hval hW
theorem fnMdlMay_closed:joinedFacts Tryz.pinned.checked.prog 3 Tryz.f3 (OpenSpec.ofChange Rows.fnMdlMaySpec).bare Rows.fnMdlMayRow=true:=by
 unfold joinedFacts;simp only[Bool.and_eq_true]
 repeat' apply And.intro
 all_goals(as_aux_lemma=>kernel_rfl)
theorem fnMdlMay_said:Rows.FnMdlMaySaid:=
 OpenClaim.holds_of_cond 3 Tryz.f3 rfl rfl rfl rfl rfl rfl rfl ⟨rfl,rfl,rfl,rfl,rfl⟩ rfl rfl rfl rfl rfl (by kernel_rfl) Tryz.func3 fnMdlMay_closed
  (of_decide_eq_true (by kernel_rfl)) (by unfold Func.isWrapper;first|(rw[if_pos (by decide+kernel)];kernel_rfl)|(rw[if_neg (by decide+kernel)];exact⟨rfl,rfl⟩))
  (fun os started H enc _ F=>by rw[OpenClaim.pre_eq_preRow];exact fnMdlMay_lifted os started H enc F)
theorem fnMdlMay_plain (f:FuncId) (fn:Func) (hf:Tryz.pinned.checked.prog.funcNamed "loop.example/chartulary/laws.FnMdlMay" =some f) (hfn:Tryz.pinned.checked.prog.funcs[f]? =some fn):
  false=Tryz.pinned.checked.prog.looks []∧∀(j:Nat) t,fn.params[j]? =some t→Tryz.pinned.checked.prog.wantsStandIn t=false:=by
 obtain rfl:f=3:=Option.some.inj ((show Tryz.prog.funcNamed "loop.example/chartulary/laws.FnMdlMay" =some 3 by kernel_rfl).symm.trans hf) |>.symm;obtain rfl:fn=Tryz.f3:=(Option.some.inj (Tryz.func3.symm.trans hfn)).symm;refine⟨by kernel_rfl,fun j t ht=> ?_⟩;rw[Tryz.params3] at ht;have hm:=Array.mem_of_getElem? ht;simp only[List.mem_toArray,List.mem_cons,List.not_mem_nil,or_false] at hm
 rcases hm with rfl
 ·exact(show Tryz.prog.wantsStandIn 22=false by kernel_rfl)
theorem fnMdlMay_holds:Rows.FnMdlMayCardSaid:=
 Claim7.holds_tied_plain_at .later [] _ _ _ _ fnMdlMay_said (fun _ h=>by cases h) (by kernel_rfl) (fun _ h=>by cases h) fnMdlMay_row_tie rfl ⟨rfl,rfl⟩ (by kernel_rfl) rfl fnMdlMay_plain (by kernel_rfl)
#print axioms fnMdlMay_holds
end Go.Proofs.YtobbdhgkcoeifaaGreatDoor
