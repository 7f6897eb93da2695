/- FnMdlBack: for every input the law answers true and leaves its arguments as they were. Conditions: the listed library tables read as the tie says. -/
import Derived.ProofKit
import Derived.Deep.Slices
import Derived.Deep.Fields
import Derived.WalkKit
import Derived.OpenShut
import Derived.ChangeMaps5
import Derived.Deep.DeepHandedRow
import Derived.Lib.LaidTab
import Derived.SevenTiedAt
import Derived.Test.YtlkoaobaoffpaaaGreatDoorZ2
import Derived.Test.YtlkoaobaoffpaaaGreatDoorZ3
import Derived.Test.YtlkoaobaoffpaaaGreatDoorZ6
import Derived.Test.YtlkoaobaoffpaaaGreatDoorZ7
import Derived.Test.YtlkoaobaoffpaaaGreatDoorZ34
import Derived.Test.YtlkoaobaoffpaaaGreatDoorZ29
import Derived.Test.YtlkoaobaoffpaaaGreatDoorZ23
import Derived.Test.YtlkoaobaoffpaaaGreatDoorZ8
import Derived.Test.YtlkoaobaoffpaaaGreatDoorZ35
import Derived.Test.YtlkoaobaoffpaaaGreatDoorZ19
import Derived.Test.YtlkoaobaoffpaaaGreatDoorZ1
import Derived.Test.YtlkoaobaoffpaaaGreatDoorCards
import Derived.Test.YtlkoaobaoffpaaaGreatDoorTie
namespace Go.Proofs.YtlkoaobaoffpaaaGreatDoor
open Go.RowKit
attribute [local go_sem ↓] Go.wp_at_zero Go.wp_at_succ
open Go.ChangeShapes Go.WideShapes Go.ChangeAt Go.RowKit Go.Deep
set_option maxHeartbeats 8000000
set_option maxRecDepth 100000
set_option linter.unusedSimpArgs false
set_option linter.unusedVariables false
def mdlFiles (m:Jl) (repo:Int) (name:ByteArray) (back:Int):Option (List File):=if Ys m then Xn m repo name back else none
def FilesOwn (w:World) (o:Option (List File)) (e:Ending) (w':World):Prop:=
 ∃v,e= .returned (.tuple #[v,.bool o.isSome])∧w'.ownsRow w.heap.size 98 2 v (o.getD []).length ((o.getD []).flatMap Jj)∧Below w.heap.size w w'
theorem mdlFiles_ok {m:Jl} {repo back:Int} {name:ByteArray} (hm:Ys m=true):mdlFiles m repo name back=Xn m repo name back:=if_pos hm
theorem mdlFiles_no {m:Jl} {repo back:Int} {name:ByteArray} (hm:Ys m=false):mdlFiles m repo name back=none:=if_neg (by simp[hm])
theorem implMdlFiles_any {cs:List Value} {x:Jl} {fx:List Nat} (repo:Int) (name:ByteArray) (back:Int) (hb1:back≤9223372036854775807) (w:World) (hx:Rp.house.R w cs x fx) (hf:V9 x):
  Calls Tryz.prog 27 #[.agg cs.toArray,.int .i64 repo,.string name,.int .i64 back] w (FilesOwn w (mdlFiles x repo name back)):=by
 have hx0:=hx;obtain⟨A0,n0,c0,f0,A1,n1,c1,f1,A2,n2,c2,f2,rfl,hff,h0,h1,h2⟩:=hx;have RH:=Ja (fun(W:World) (hb:Below w.heap.size w W)=>Rp.house.below hx0 hb nle);have HF:=Ja hf;clear hx0 h0 h1 h2 hff hf;have kb:=Blk.new w 26 #[.slice A0 n0 c0,.slice A1 n1 c1,.slice A2 n2 c2];have HB:=(Below.refl w.heap.size w).alloc nle (.cells #[.slice A0 n0 c0,.slice A1 n1 c1,.slice A2 n2 c2] 26)
 go_enter Tryz.func27,Tryz.ntmps27;go_wp2_with fail;refine(jhy (x:=x) _ (RH.out _ HB) HF.out).mono ?_;rintro e w1 ⟨rfl,hb⟩;replace kb:=kb.step hb;replace HB:=Below.t HB hb;clear hb;cases hd:Ys x
 ·have HV:=Ja (mdlFiles_no (repo:=repo) (name:=name) (back:=back) hd);clear hd;go_wp2
  go_ret2
  rw[HV.out];exact⟨_,rfl,World.ownsRow_nil _ _ _ _,HB⟩
 ·have HV:=Ja (mdlFiles_ok (repo:=repo) (name:=name) (back:=back) hd);have HL:=Ja (jk5 (repo:=repo) (name:=name) (back:=back) hd);clear hd;have u0:=Blk.c0 kb;have u1:=Blk.c1 kb;have u2:=Blk.c2 kb;go_wp2_with fail;refine(jo3 (x:=x) repo name back hb1 _ (RH.out _ HB)).mono ?_;rintro e w2 ⟨A4,n4,c4,f4,rfl,hs4,_,hb⟩;replace HB:=Below.t HB hb;clear hb u0 u1 u2 kb;go_wp2_with fail
  refine(Xk _ hs4 (Nat.le_trans HL.out (by decide))).mono ?_;rintro e w3 ⟨v,rfl,hown,hb⟩;have HO:=Ja (Zy hown HB.size);replace HB:=Below.t HB hb;clear hown hb hs4;go_wp2
  go_ret2
  rw[HV.out];exact⟨_,rfl,HO.out,HB⟩
section
variable {w w':World} {g:Nat} {m:Jl} {q:Req} {a:Ans} {K U R E F N:Value}
end
theorem QB.Ez {w:World} {g:Nat} {q:Req} {A:Option Addr} {n c:Nat} (h:QB w g q (.slice A n c)): ∃f,SlR Rp.edit w A n c q.Ez f:=by
 obtain⟨f,A0,n0,c0,f0,e, -,h1⟩:=h.r;have:(Value.slice A n c)= .slice A0 n0 c0:=by
  have:=congrArg (fun l=>l[8]?) e;simpa [V5] using this
 cases this;exact⟨f0,h1⟩
section
variable {P:Program} {s:Code} {Q:Exit→Act→World→Prop} {b:Act} {w:World} {m:Jl} {q:Req} {a:Ans} {K U R E F N:Value}
end
section
variable {w0 W W':World} {m:Jl} {q q':Req} {K U R E E':Value}
end
section
variable {w w':World} {g lo:Nat} {m:Jl} {K U R:Value}
end
theorem implFiles_some {w:World} {g:Nat} {m:Jl} {K U R:Value} {l:List File} (h:HB w g m K U R) (hf:V9 m) (repo:Int) (name:ByteArray) (back:Int) (hb:back≤9223372036854775807) (ho:mdlFiles m repo name back=some l):
  Calls Tryz.prog 27 #[.agg #[K,U,R],.int .i64 repo,.string name,.int .i64 back] w fun e w'=>∃A c f,e= .returned (.tuple #[.slice A l.length c,.bool true])∧SlR Rp.file w' A l.length c l f∧Below w.heap.size w w':=
 (implMdlFiles_any repo name back hb w h.r.choose_spec hf).mono fun e w' ⟨v,h1,h2,h3⟩=>by
  rw[ho] at h1 h2;simp only[Option.getD_some,Option.isSome_some] at h1 h2;obtain⟨A,c,f,rfl,hs, -⟩:=Xw (k:=2) (enc:=Jj) (hk:=fun _=>rfl) (h1:=Vz) h2;exact⟨A,c,f,h1,hs,h3⟩
theorem implTurn_some {w:World} {A A':Option Addr} {n n' c c':Nat} {l o:List File} {es:List Wz} {fp fe:List Nat} (hx:SlR Rp.file w A n c l fp) (he:SlR Rp.edit w A' n' c' es fe) (hff:Vk l) (hfe:jbi es) (ho:Yu l es=some o):
  Calls Tryz.prog 29 #[.slice A n c,.slice A' n' c'] w fun e w'=>∃A c f,e= .returned (.tuple #[.slice A o.length c,.bool true])∧SlR Rp.file w' A o.length c o f∧Below w.heap.size w w':=
 (jfz w hx he hff hfe).mono fun e w' ⟨v,h1,h2,h3⟩=>by
  rw[ho] at h1 h2;simp only[Option.getD_some,Option.isSome_some] at h1 h2;obtain⟨A,c,f,rfl,hs, -⟩:=Xw (k:=2) (enc:=Jj) (hk:=fun _=>rfl) (h1:=Vz) h2;exact⟨A,c,f,h1,hs,h3⟩
theorem chFiles_same {w:World} {A B:Option Addr} {n c m d:Nat} {x:List File} {fx fy:List Nat} (hx:SlR Rp.file w A n c x fx) (hy:SlR Rp.file w B m d x fy):
  Calls Tryz.prog 28 #[.slice A n c,.slice B m d] w fun e w'=>e= .returned (.bool true)∧Below w.heap.size w w':=
 (jgb w hx hy).mono fun _ _ ⟨h1,h2⟩=>⟨by rw[h1];simp,h2⟩
theorem files_ok {m:Jl} {repo:Int} {name:ByteArray} {back:Int} {l:List File} (h:mdlFiles m repo name back=some l):Y1 l=true:=by
 unfold mdlFiles at h;split at h
 ·rename_i hm;exact jg3 hm h
 ·cases h
theorem manage_same {p:Xq} {r:Req} (h:(manage p r).2≠1):(manage p r).1=p:=by
 have:(manage p r).1=p∨(manage p r).2=1:=by
  unfold manage
  repeat' split
  all_goals first|exact .inl rfl|exact .inr rfl
 exact this.resolve_right h
theorem write_same {m:Jl} {p:Xq} {r:Req} (h:(write m p r).2≠1):(write m p r).1=m:=by
 have:(write m p r).1=m∨(write m p r).2=1:=by
  unfold write
  repeat' split
  all_goals first|exact .inl rfl|exact .inr rfl
 exact this.resolve_right h
theorem set_self {α:Type} {l:List α} {i:Nat} {a:α} (h:l[i]? =some a):l.set i a=l:=by
 obtain⟨hi,rfl⟩:=List.getElem?_eq_some_iff.1 h;exact List.set_getElem_self hi
theorem refused {m:Jl} {r:Req} (h:(Zn m r).2.code≠1∨r.kind=2∨r.kind=3∨r.kind=11):(Zn m r).1=m:=by
 unfold Zn at h ⊢;split
 ·split
  ·rfl
  ·split
   ·rfl
   ·rename_i p hp
    split
    ·rfl
    ·split
     ·rfl
     ·rename_i n1 n2 n3
      split
      ·rename_i hw
       refine write_same ?_;rcases h with h|h|h|h
       ·simpa [*,code] using h
       all_goals simp_all
      ·split
       ·rfl
       ·rename_i hk
        have:(manage p r).1=p:=by
         refine manage_same ?_;rcases h with h|h|h|h
         ·simpa [*,code] using h
         all_goals simp_all
        rw[this];simp[set_self hp]
 ·rfl
structure Laid (m:Jl) (r:Req) (p:Xq) (k:Nat):Prop where
 knows:knows m.keys r.user r.key=true
 writes:Vs r=true
 repo:m.Rz[r.repo.toNat]? =some p
 ref:Y7 p.Fz r.ref=some k
 may:Yi m p r=true
 old:(p.Fz.getD k Y8).count=r.old
 more:(p.Fz.getD k Y8).count≠14
 new:(newest m (p.Fz.getD k Y8) r).2=1
 used:m.used.getD (r.user - 1).toNat 0+Yg r.Ez≤200
 eq:Zn m r=(jpm m p k r (newest m (p.Fz.getD k Y8) r).1,code 1)
structure Managed1 (m:Jl) (r:Req) (p:Xq):Prop where
 knows:knows m.keys r.user r.key=true
 writes:Vs r=false
 kind:r.kind≠2∧r.kind≠3∧r.kind≠11
 repo:m.Rz[r.repo.toNat]? =some p
 Az:r.user=p.Az
 done:(manage p r).2=1
 eq:Zn m r=({ m with Rz:=m.Rz.set r.repo.toNat (manage p r).1},code 1)
theorem write_ways (m:Jl) (p:Xq) (r:Req):((write m p r).1=m∧(write m p r).2≠1)∨∃k,Y7 p.Fz r.ref=some k∧Yi m p r=true∧(p.Fz.getD k Y8).count=r.old∧(p.Fz.getD k Y8).count≠14∧(newest m (p.Fz.getD k Y8) r).2=1∧m.used.getD (r.user - 1).toNat 0+Yg r.Ez≤200∧write m p r=(jpm m p k r (newest m (p.Fz.getD k Y8) r).1,1):=by
 unfold write;split
 ·rename_i hm
  split
  ·exact .inl ⟨rfl,by simp⟩
  ·rename_i k hk
   split
   ·exact .inl ⟨rfl,by simp⟩
   ·rename_i h1
    split
    ·exact .inl ⟨rfl,by simp⟩
    ·rename_i h2
     split
     ·rename_i h3
      exact .inl ⟨rfl,h3⟩
     ·rename_i h3
      split
      ·exact .inl ⟨rfl,by simp⟩
      ·rename_i h4
       exact .inr ⟨k,hk,hm,Classical.not_not.1 h1,h2,Classical.not_not.1 h3,by omega,rfl⟩
 ·exact .inl ⟨rfl,by simp⟩
theorem doIt_none {m:Jl} {r:Req} (hp:m.Rz[r.repo.toNat]? =none) (hk:knows m.keys r.user r.key=true) (h11:r.kind≠11):Zn m r=(m,code 3):=by
 unfold Zn;rw[if_pos hk,if_neg h11,hp]
theorem doIt_writes {m:Jl} {r:Req} {p:Xq} (hk:knows m.keys r.user r.key=true) (hp:m.Rz[r.repo.toNat]? =some p) (hw:Vs r=true):Zn m r=((write m p r).1,code (write m p r).2):=by
 have h:r.kind=1∨r.kind=9∨r.kind=10:=by simpa [Vs,or_assoc] using hw
 unfold Zn;rw[if_pos hk,if_neg (by omega),hp];simp only[hw];rw[if_neg (by omega),if_neg (by omega)];rfl
theorem doIt_rest {m:Jl} {r:Req} {p:Xq} (hk:knows m.keys r.user r.key=true) (hp:m.Rz[r.repo.toNat]? =some p) (hw:Vs r=false) (h:r.kind≠2∧r.kind≠3∧r.kind≠11):
  Zn m r=if r.user≠p.Az then(m,code 4) else({ m with Rz:=m.Rz.set r.repo.toNat (manage p r).1},code (manage p r).2):=by
 unfold Zn;rw[if_pos hk,if_neg h.2.2,hp];simp only[hw];rw[if_neg h.1,if_neg h.2.1];rfl
theorem doIt_ways (m:Jl) (r:Req):((Zn m r).1=m∧((Zn m r).2.code=1→r.kind=2∨r.kind=3∨r.kind=11))∨(∃p k,Laid m r p k)∨∃p,Managed1 m r p:=by
 by_cases ht:r.kind=2∨r.kind=3∨r.kind=11
 ·exact .inl ⟨refused (.inr ht),fun _=>ht⟩
 ·by_cases hk:knows m.keys r.user r.key=true
  ·cases hp:m.Rz[r.repo.toNat]? with
   |none=>left;rw[doIt_none hp hk (by omega)];exact⟨rfl,fun h=>by simp[code] at h⟩
   |some p=>
    cases hw:Vs r
    ·have he:=doIt_rest hk hp hw (by omega);by_cases ha:r.user=p.Az
     ·rw[if_neg (by simpa using ha)] at he;by_cases hd:(manage p r).2=1
      ·exact .inr (.inr ⟨p,hk,hw,by omega,hp,ha,hd,by rw[he,hd]⟩)
      ·left;rw[he,manage_same hd];exact⟨by simp[set_self hp],fun h=>absurd h hd⟩
     ·rw[if_pos (by simpa using ha)] at he;left;rw[he];exact⟨rfl,fun h=>by simp[code] at h⟩
    ·have he:=doIt_writes hk hp hw;rcases write_ways m p r with ⟨h,h'⟩|⟨k,a,b,c,d,e,f,g⟩
     ·left;rw[he];exact⟨h,fun h=>absurd h h'⟩
     ·exact .inr (.inl ⟨p,k,hk,hw,hp,a,b,c,d,e,f,by rw[he,g]⟩)
  ·left;unfold Zn;rw[if_neg hk];exact⟨rfl,fun h=>by simp[code] at h⟩
def latest (f:Ref):List File:=f.Vz.getLastD []
theorem version_first (vs:List (List File)):version vs 0=if vs= [] then none else some (vs.getLastD []):=by
 unfold version;cases vs with
 |nil=>simp
 |cons v l=>
  rw[if_pos (by simp),if_neg (by simp)];simp[List.getLastD_eq_getLast?,List.getLast?_eq_getElem?]
theorem lastOf_last (l:List (List File)) (x:List File):(jgu (l++ [x])).getLastD []=x:=by
 unfold jgu;rw[List.getLastD_eq_getLast?,List.getLast?_drop,if_neg (by simp;omega)];simp
theorem latest_ok {x:Ref} (h:Xv x=true):latest x∈x.Vz∧Y1 (latest x)=true∧version x.Vz 0=some (latest x):=by
 obtain⟨-,h2,h3⟩:=Z2.1 h;have hn:x.Vz≠ []:=by intro e;rw[e] at h2;simp at h2
 have hv:version x.Vz 0=some (latest x):=by rw[version_first,if_neg hn];rfl
 exact⟨ja5 hv,h3 _ (ja5 hv),hv⟩
theorem repo_of {m:Jl} (hm:Ys m=true) {i:Nat} {p:Xq} (hp:m.Rz[i]? =some p):repoOk m.keys.length p=true:=(Jo.1 hm).2.2 p (List.mem_of_getElem? hp)
theorem refIdx_map (l:List Ref) (n:ByteArray):Y7 l n=(l.map (·.name)).findIdx? (fun s=>decide (s=n)):=by
 unfold Y7;rw[List.findIdx?_map];rfl
theorem refIdx_set {l:List Ref} {k:Nat} {y:Ref} (hk:k<l.length) (h:y.name=l[k].name) (n:ByteArray):Y7 (l.set k y) n=Y7 l n:=by
 have:(l.set k y).map (·.name)=l.map (·.name):=by
  rw[List.map_set];exact set_self (by rw[List.getElem?_map,List.getElem?_eq_getElem hk,h];rfl)
 rw[refIdx_map,refIdx_map,this]
theorem laid_repo {m:Jl} {r:Req} {p:Xq} {k:Nat} (h:Laid m r p k):(Zn m r).1.Rz[r.repo.toNat]? =some { p with Fz:=p.Fz.set k { p.Fz.getD k Y8 with count:=(p.Fz.getD k Y8).count+1,Vz:=jgu ((p.Fz.getD k Y8).Vz++ [(newest m (p.Fz.getD k Y8) r).1])}} :=by
 have hi:=(List.getElem?_eq_some_iff.1 h.repo).1;rw[h.eq];simp only[jpm];rw[List.getElem?_set_self hi]
theorem laid_at {m:Jl} {r:Req} {p:Xq} {k:Nat} (h:Laid m r p k) (hr:0≤r.repo) (back:Int):Xn (Zn m r).1 r.repo r.ref back=version (jgu ((p.Fz.getD k Y8).Vz++ [(newest m (p.Fz.getD k Y8) r).1])) back:=by
 obtain⟨hk,hname⟩:=je8 (key:=Ref.name) h.ref;have hx:=J4 (z:=Y8) hk;unfold Xn;rw[if_pos hr,laid_repo h];simp only[hx];rw[refIdx_set hk (by rfl),h.ref];simp only;rw[J4 (by simpa using hk),List.getElem_set_self]
theorem version_last (l:List (List File)) (x:List File):version (jgu (l++ [x])) 0=some x:=by
 rw[version_first,lastOf_last,if_neg];unfold jgu;intro e;have:=congrArg List.length e;simp at this;omega
theorem version_second {vs:List (List File)} (h:vs≠ []) (f:List File):version (jgu (vs++ [f])) 1=some (vs.getLastD []):=by
 have hn:0<vs.length:=List.length_pos_iff.2 h;unfold version;have hl:(jgu (vs++ [f])).length=min (vs.length+1) 3:=by rw[jht];simp
 rw[if_pos ⟨by decide,by rw[hl];omega⟩,hl];unfold jgu;rw[List.getElem?_drop,List.getElem?_append_left (by simp;omega),List.getLastD_eq_getLast?,List.getLast?_eq_getElem?];have e:(vs++ [f]).length - 3+(min (vs.length+1) 3 - 1 - (1:Int).toNat)=vs.length - 1:=by simp;omega
 rw[e,List.getElem?_eq_getElem (by omega)];rfl
theorem files_at {m:Jl} {r:Req} {p:Xq} {k:Nat} (hp:m.Rz[r.repo.toNat]? =some p) (hx:Y7 p.Fz r.ref=some k) (hr:0≤r.repo) (back:Int):Xn m r.repo r.ref back=version (p.Fz.getD k Y8).Vz back:=by
 unfold Xn;rw[if_pos hr,hp];simp only[hx]
theorem back_there {m:Jl} {r:Req} (hm:Ys m=true) (hr:Yw r=true) (hw:Vs r=true) (hc:(Zn m r).2.code=1):
  ∃was is,mdlFiles m r.repo r.ref 0=some was∧mdlFiles (Zn m r).1 r.repo r.ref 0=some is∧mdlFiles (Zn m r).1 r.repo r.ref 1=some was∧
   (r.kind=1→Yu was r.Ez=some is)∧(r.kind=9→mdlFiles m r.repo r.ref r.back=some is)∧(r.kind≠1→r.kind≠9→mdlFiles m r.frm r.other 0=some is):=by
 have hr0:=(jmn hr).2.1.1;have hx:=jh2 hm hr;have hf: ∀ {x:Jl} {i b:Int} {n:ByteArray},Ys x=true→mdlFiles x i n b=Xn x i n b:=fun hx=>by unfold mdlFiles;rw[if_pos hx]
 rcases doIt_ways m r with ⟨-,h⟩|⟨p,k,h⟩|⟨p,h⟩
 ·have:=h hc;simp only[Vs,Bool.or_eq_true,beq_iff_eq] at hw;omega
 ·have hkk:=(je8 (key:=Ref.name) h.ref).1;have hxo:=(Zq (repo_of hm h.repo) (jp3 (z:=Y8) hkk)).1;have hne:(p.Fz.getD k Y8).Vz≠ []:=by intro e;have:=(Z2.1 hxo).2.1;rw[e] at this;simp at this
  have hl:=(latest_ok hxo).2.2;have hn:=h.new;refine⟨latest (p.Fz.getD k Y8),(newest m (p.Fz.getD k Y8) r).1, ?_, ?_, ?_,fun h1=> ?_,fun h9=> ?_,fun h1 h9=> ?_⟩
  ·rw[hf hm,files_at h.repo h.ref hr0,hl]
  ·rw[hf hx,laid_at h hr0,version_last]
  ·rw[hf hx,laid_at h hr0,version_second hne];rfl
  ·unfold newest at hn ⊢;rw[if_pos h1,hl] at hn ⊢;simp only at hn ⊢;cases ht:Yu (latest (p.Fz.getD k Y8)) r.Ez with
   |none=>rw[ht] at hn;simp at hn
   |some o=>rfl
  ·rw[hf hm,files_at h.repo h.ref hr0];unfold newest at hn ⊢;rw[if_neg (by omega),if_pos h9] at hn ⊢;split at hn
   ·simp at hn
   ·rename_i hg
    rw[if_neg hg];cases hv:version (p.Fz.getD k Y8).Vz r.back with
    |none=>rw[hv] at hn;simp at hn
    |some l=>rfl
  ·rw[hf hm];unfold newest at hn ⊢;rw[if_neg h1,if_neg h9] at hn ⊢;cases hv:Xn m r.frm r.other 0 with
   |none=>rw[hv] at hn;simp at hn
   |some l=>rfl
 ·have:=h.writes;rw[hw] at this;cases this
theorem lawBack (w:World) {A:Option Addr} {n c:Nat} {code:List UInt8} {fp:List Nat} (hx:SlR Rp.byte w A n c code fp):
  Calls Tryz.prog 11 #[.slice A n c] w fun e w'=>e= .returned (.bool true)∧Below w.heap.size w w':=by
 obtain⟨rfl,hcx,hmx, -⟩:=id hx;unfold maxLen at hmx;go_enter Tryz.func11,Tryz.ntmps11;by_cases hlen:(1048576:Int)<(code.length:Int)
 ·go_wp2;go_ret;exact⟨rfl,Below.refl _ _⟩
 go_wp2_with fail;refine(jp5 _ hx).mono ?_;rintro e w1 ⟨m,q,A0,n0,c0,A1,n1,c1,A2,n2,c2,A3,c3,f,fq,rfl,hR,hQ,hok,hsm, -, -,HB⟩;clear hx;obtain rfl:n2=m.Rz.length:=by
  obtain⟨_,_,_,_,_,_,_,_,_,_,_,_,he, -, -, -,h2⟩:=hR;cases he;exact h2.1
 go_upto_region 4 with fail
 refine wp_HQ ⟨_,hR⟩ ⟨_,hQ⟩ ?_;intro w2 hm hq hb3;replace HB:=Below.t HB hb3;have hf:=Ja (And.intro hok.1 (jo1 hsm));clear hR hQ hb3 hok;have HS:=Ja hsm;clear hsm;obtain⟨x,a,ho⟩: ∃x a,jai m q=(x,a):=⟨_,_,rfl⟩;have HO:=Ja ho;clear ho;obtain⟨x0,x1,x2⟩:=hm.cells;go_wp2_with((refine wpList_load_row rfl 31 (.tmp 4) rfl _ rfl _ _ _ _ hq.k.out Tryz.underlying31 rfl jb3 ?_))
 go_wp2_with fail;refine(implDo hm hq hf.out.1 hf.out.2).mono ?_;rintro e w3 hd;obtain⟨A4,na4,ca4,A5,na5,ca5,A6,ca6,B0,nb0,cb0,B1,nb1,cb1,rfl,hX,hA,hb3⟩:=hd.parts HO.out;replace hm:=hm.step hb3;replace hq:=hq.step hb3;replace HB:=Below.t HB hb3;clear hb3 hd x0 x1 x2;go_upto_region 5 with fail
 refine wp_HA hX hA ?_;intro w4 hx ha hb3;replace hm:=hm.step hb3;replace hq:=hq.step hb3;replace HB:=Below.t HB hb3;clear hb3 hX hA;obtain⟨x0,x1,x2⟩:=hm.cells;go_wp2_with((refine wpList_load_row rfl 31 (.tmp 4) rfl _ rfl _ _ _ _ hq.k.out Tryz.underlying31 rfl jb3 ?_));go_wp2_with fail;refine(specDo hm hq hf.out.1 hf.out.2).mono ?_;rintro e w5 hd
 obtain⟨A7,na7,ca7,A8,na8,ca8,A9,ca9,B2,nb2,cb2,B3,nb3,cb3,rfl,hX,hA,hb3⟩:=hd.parts HO.out;replace hm:=hm.step hb3;replace hq:=hq.step hb3;replace HB:=Below.t HB hb3;replace hx:=hx.step hb3;replace ha:=ha.step hb3;clear hb3 hd x0 x1 x2;go_upto_region 6 with fail
 refine wp_HA hX hA ?_;intro w6 hy hb hb3;replace hm:=hm.step hb3;replace hq:=hq.step hb3;replace HB:=Below.t HB hb3;replace hx:=hx.step hb3;replace ha:=ha.step hb3;clear hb3 hX hA;obtain⟨x0,x1,x2⟩:=hx.cells;obtain⟨y0,y1,y2⟩:=hy.cells;go_wp2_with fail;refine(jqp hx hy).mono ?_;rintro e w7 ⟨rfl,hb3⟩;replace hm:=hm.step hb3;replace hq:=hq.step hb3;replace HB:=Below.t HB hb3
 replace hx:=hx.step hb3;replace ha:=ha.step hb3;replace hy:=hy.step hb3;replace hb:=hb.step hb3;clear hb3 x0 x1 x2 y0 y1 y2;obtain⟨x0,x1,x2,x3⟩:=ha.cells;obtain⟨y0,y1,y2,y3⟩:=hb.cells;go_wp2_with fail;refine(jp8 ha hb).mono ?_;rintro e w8 ⟨rfl,hb3⟩;replace hm:=hm.step hb3;replace hq:=hq.step hb3;replace HB:=Below.t HB hb3;replace hx:=hx.step hb3;replace ha:=ha.step hb3
 clear hb3 x0 x1 x2 x3 y0 y1 y2 y3 hy hb;obtain⟨x0,x1,x2⟩:=hm.cells;go_wp2_with fail;refine(jhe _ hm.r.choose_spec hf.out.1).mono ?_;rintro e w9 ⟨rfl,hb3⟩;replace hm:=hm.step hb3;replace hq:=hq.step hb3;replace HB:=Below.t HB hb3;replace hx:=hx.step hb3;replace ha:=ha.step hb3;clear hb3 x0 x1 x2;cases hmo:Ys m
 ·skip;obtain⟨x0,x1,x2⟩:=hm.cells;have C1:=fun n:BelowW w9=>jhy n.val (hm.step n.property).r.choose_spec hf.out.1;have C2:=fun n:BelowW w9=>jhe n.val (hm.step n.property).r.choose_spec hf.out.1;have C3:=fun n:BelowW w9=>chOk_any n.val;go_upto_region 9 with fail
  cases hmo:Ys m
  all_goals
   simp only[hmo] at C1 C2;have D1:=Ja C1;have D2:=Ja C2;have D3:=Ja C3;clear C1 C2 C3 hmo;have n0:=BelowW.nonempty w9;have ex0:=BelowW.ex (w:=w9);have g0:=fun n:BelowW w9=>n.cell x0;have g1:=fun n:BelowW w9=>n.cell x1;have g2:=fun n:BelowW w9=>n.cell x2;clear x0 x1 x2;refine Jf (by kernel_rfl) (by kernel_rfl) ?_
   repeat(go_big_quiet_step(first|(go_at_call 23;exact BelowW.calls _ (D1.out _))|(go_at_call 16;exact BelowW.calls _ (D2.out _))|(go_at_call 22;exact BelowW.calls _ (D3.out _))))
   refine wpQuiet_nil ?_;rintro w9 ⟨m9,hw9⟩;have hb9:=m9.property;rw[←hw9] at hb9;clear hw9 m9;go_wp2;go_ret;exact⟨rfl,Below.t HB hb9⟩
 obtain⟨q0,q1,q2,q3,q4,q5,q6,q7,q8,q9,q10,q11,q12,q13,q14⟩:=hq.cells;go_wp2_with fail;clear q0 q1 q2 q3 q4 q5 q6 q7 q8 q9 q10 q11 q12 q13 q14;refine(jhd _ hq.r.choose_spec hf.out.2).mono ?_;rintro e w10 ⟨rfl,hb3⟩;replace hm:=hm.step hb3;replace hq:=hq.step hb3;replace HB:=Below.t HB hb3;replace hx:=hx.step hb3;replace ha:=ha.step hb3;clear hb3;cases hro:Yw q
 ·skip;obtain⟨x0,x1,x2⟩:=hm.cells;have C1:=fun n:BelowW w10=>jhy n.val (hm.step n.property).r.choose_spec hf.out.1;have C2:=fun n:BelowW w10=>jhe n.val (hm.step n.property).r.choose_spec hf.out.1;have C3:=fun n:BelowW w10=>chOk_any n.val;go_upto_region 9 with fail
  cases hmo:Ys m
  all_goals
   simp only[hmo] at C1 C2;have D1:=Ja C1;have D2:=Ja C2;have D3:=Ja C3;clear C1 C2 C3 hmo;have n0:=BelowW.nonempty w10;have ex0:=BelowW.ex (w:=w10);have g0:=fun n:BelowW w10=>n.cell x0;have g1:=fun n:BelowW w10=>n.cell x1;have g2:=fun n:BelowW w10=>n.cell x2;clear x0 x1 x2;refine Jf (by kernel_rfl) (by kernel_rfl) ?_
   repeat(go_big_quiet_step(first|(go_at_call 23;exact BelowW.calls _ (D1.out _))|(go_at_call 16;exact BelowW.calls _ (D2.out _))|(go_at_call 22;exact BelowW.calls _ (D3.out _))))
   refine wpQuiet_nil ?_;rintro w9 ⟨m9,hw9⟩;have hb9:=m9.property;rw[←hw9] at hb9;clear hw9 m9;go_wp2;go_ret;exact⟨rfl,Below.t HB hb9⟩
 obtain⟨a0, -, -, -⟩:=ha.cells;cases e1:(a.code !=1);rotate_left
 ·skip;obtain⟨x0,x1,x2⟩:=hm.cells;have C1:=fun n:BelowW w10=>jhy n.val (hm.step n.property).r.choose_spec hf.out.1;have C2:=fun n:BelowW w10=>jhe n.val (hm.step n.property).r.choose_spec hf.out.1;have C3:=fun n:BelowW w10=>chOk_any n.val;go_upto_region 9 with fail
  cases hmo:Ys m
  all_goals
   simp only[hmo] at C1 C2;have D1:=Ja C1;have D2:=Ja C2;have D3:=Ja C3;clear C1 C2 C3 hmo;have n0:=BelowW.nonempty w10;have ex0:=BelowW.ex (w:=w10);have g0:=fun n:BelowW w10=>n.cell x0;have g1:=fun n:BelowW w10=>n.cell x1;have g2:=fun n:BelowW w10=>n.cell x2;clear x0 x1 x2;refine Jf (by kernel_rfl) (by kernel_rfl) ?_
   repeat(go_big_quiet_step(first|(go_at_call 23;exact BelowW.calls _ (D1.out _))|(go_at_call 16;exact BelowW.calls _ (D2.out _))|(go_at_call 22;exact BelowW.calls _ (D3.out _))))
   refine wpQuiet_nil ?_;rintro w9 ⟨m9,hw9⟩;have hb9:=m9.property;rw[←hw9] at hb9;clear hw9 m9;go_wp2;go_ret;exact⟨rfl,Below.t HB hb9⟩
 obtain⟨q0,q1,q2,q3,q4,q5,q6,q7,q8,q9,q10,q11,q12,q13,q14⟩:=hq.cells;go_wp2_with fail;clear q0 q1 q2 q3 q4 q5 q6 q7 q8 q9 q10 q11 q12 q13 q14;refine(jec _ hq.r.choose_spec).mono ?_;rintro e w11 ⟨rfl,hb3⟩;replace hm:=hm.step hb3;replace hq:=hq.step hb3;replace HB:=Below.t HB hb3;replace hx:=hx.step hb3;replace ha:=ha.step hb3;clear hb3;cases hw:Vs q
 ·skip;obtain⟨x0,x1,x2⟩:=hm.cells;have C1:=fun n:BelowW w11=>jhy n.val (hm.step n.property).r.choose_spec hf.out.1;have C2:=fun n:BelowW w11=>jhe n.val (hm.step n.property).r.choose_spec hf.out.1;have C3:=fun n:BelowW w11=>chOk_any n.val;go_upto_region 9 with fail
  cases hmo:Ys m
  all_goals
   simp only[hmo] at C1 C2;have D1:=Ja C1;have D2:=Ja C2;have D3:=Ja C3;clear C1 C2 C3 hmo;have n0:=BelowW.nonempty w11;have ex0:=BelowW.ex (w:=w11);have g0:=fun n:BelowW w11=>n.cell x0;have g1:=fun n:BelowW w11=>n.cell x1;have g2:=fun n:BelowW w11=>n.cell x2;clear x0 x1 x2;refine Jf (by kernel_rfl) (by kernel_rfl) ?_
   repeat(go_big_quiet_step(first|(go_at_call 23;exact BelowW.calls _ (D1.out _))|(go_at_call 16;exact BelowW.calls _ (D2.out _))|(go_at_call 22;exact BelowW.calls _ (D3.out _))))
   refine wpQuiet_nil ?_;rintro w9 ⟨m9,hw9⟩;have hb9:=m9.property;rw[←hw9] at hb9;clear hw9 m9;go_wp2;go_ret;exact⟨rfl,Below.t HB hb9⟩
 clear a0;have HOK:=Ja (And.intro hmo hro);have HD:=Ja (show Zn m q=(x,a) by rw[←HO.out,jhr HOK.out]);have HXO:=Ja (show Ys x=true by have h:=jh2 HOK.out.1 HOK.out.2;rw[HD.out] at h;exact h);obtain⟨was,is,h1,h2,h3,h4,h5,h6⟩:=back_there (m:=m) HOK.out.1 HOK.out.2 hw (by rw[HD.out];simpa using e1);rw[HD.out] at h2 h3
 have hkk:q.kind=1∨q.kind=9∨q.kind=10:=by simpa [Vs,or_assoc] using hw
 have H1:=Ja h1;have H2:=Ja h2;have H3:=Ja h3;have H4:=Ja h4;have H5:=Ja h5;have H6:=Ja h6;have HK:=Ja hkk;have HFX:=Ja (Jv HXO.out);have HBK:=Ja (jmn HOK.out.2).2.2.2.1.2;clear h1 h2 h3 h4 h5 h6 hkk hmo hro hw e1;obtain⟨x0,x1,x2⟩:=hx.cells;obtain⟨-, -,q2, -,q4, -, -, -, -, -, -, -, -, -, -⟩:=hq.cells;go_wp2_with fail
 refine(implFiles_some hx HFX.out _ _ _ (by decide) H2.out).mono ?_;rintro e w12 ⟨B4,d4,g4,rfl,s4,hb3⟩;replace hm:=hm.step hb3;replace hq:=hq.step hb3;replace HB:=Below.t HB hb3;replace hx:=hx.step hb3;replace ha:=ha.step hb3;clear hb3 x0 x1 x2 q2 q4;obtain⟨x0,x1,x2⟩:=hm.cells;obtain⟨-, -,q2, -,q4, -, -, -, -, -, -, -, -, -, -⟩:=hq.cells;go_wp2_with fail
 refine(implFiles_some hm hf.out.1 _ _ _ (by decide) H1.out).mono ?_;rintro e w13 ⟨B5,d5,g5,rfl,s5,hb3⟩;replace hm:=hm.step hb3;replace hq:=hq.step hb3;replace HB:=Below.t HB hb3;replace hx:=hx.step hb3;replace ha:=ha.step hb3;replace s4:=s4.step hb3;clear hb3 x0 x1 x2 q2 q4;obtain⟨x0,x1,x2⟩:=hx.cells;obtain⟨-, -,q2, -,q4, -, -, -, -, -, -, -, -, -, -⟩:=hq.cells;go_wp2_with fail
 refine(implFiles_some hx HFX.out _ _ _ (by decide) H3.out).mono ?_;rintro e w14 ⟨B6,d6,g6,rfl,s6,hb3⟩;replace hm:=hm.step hb3;replace hq:=hq.step hb3;replace HB:=Below.t HB hb3;replace hx:=hx.step hb3;replace ha:=ha.step hb3;replace s4:=s4.step hb3;replace s5:=s5.step hb3;clear hb3 x0 x1 x2 q2 q4;go_wp2_with fail;refine(chFiles_same s5 s6).mono ?_;rintro e w15 ⟨rfl,hb3⟩;replace hm:=hm.step hb3
 replace hq:=hq.step hb3;replace HB:=Below.t HB hb3;replace hx:=hx.step hb3;replace ha:=ha.step hb3;replace s4:=s4.step hb3;replace s5:=s5.step hb3;replace s6:=s6.step hb3;clear hb3;clear s6;obtain⟨-, -, -,q3, -⟩:=hq.cells;rcases HK.out with hk|hk|hk
 ·rw[hk] at q3;have HT:=Ja (H4.out hk);clear hk;obtain⟨fe,he⟩:=hq.Ez;obtain⟨-, -, -, -, -, -, -, -,q8, -⟩:=hq.cells;go_wp2_with fail;refine(implTurn_some s5 he (jbw (files_ok H1.out)) (ReqFit.of HOK.out.2).Ez HT.out).mono ?_;rintro e w16 ⟨B7,d7,g7,rfl,s7,hb3⟩;replace hm:=hm.step hb3;replace hq:=hq.step hb3;replace HB:=Below.t HB hb3;replace hx:=hx.step hb3;replace ha:=ha.step hb3
  replace s4:=s4.step hb3;replace s5:=s5.step hb3;clear hb3 q3 q8;go_wp2_with fail;refine(chFiles_same s7 s4).mono ?_;rintro e w17 ⟨rfl,hb3⟩;replace hm:=hm.step hb3;replace hq:=hq.step hb3;replace HB:=Below.t HB hb3;replace hx:=hx.step hb3;replace ha:=ha.step hb3;replace s4:=s4.step hb3;replace s5:=s5.step hb3;replace s7:=s7.step hb3;clear hb3;go_wp2;go_ret;exact⟨rfl,HB⟩
 ·rw[hk] at q3;have HT:=Ja (H5.out hk);clear hk;obtain⟨x0,x1,x2⟩:=hm.cells;obtain⟨-, -,q2, -,q4, -, -,q7, -, -, -, -, -, -, -⟩:=hq.cells;go_wp2_with fail;refine(implFiles_some hm hf.out.1 _ _ _ (by have:=HBK.out;omega) HT.out).mono ?_;rintro e w16 ⟨B7,d7,g7,rfl,s7,hb3⟩;replace hm:=hm.step hb3;replace hq:=hq.step hb3;replace HB:=Below.t HB hb3;replace hx:=hx.step hb3;replace ha:=ha.step hb3
  replace s4:=s4.step hb3;replace s5:=s5.step hb3;clear hb3 x0 x1 x2 q2 q4 q7;clear q3;go_wp2_with fail;refine(chFiles_same s7 s4).mono ?_;rintro e w17 ⟨rfl,hb3⟩;replace hm:=hm.step hb3;replace hq:=hq.step hb3;replace HB:=Below.t HB hb3;replace hx:=hx.step hb3;replace ha:=ha.step hb3;replace s4:=s4.step hb3;replace s5:=s5.step hb3;replace s7:=s7.step hb3;clear hb3;go_wp2;go_ret;exact⟨rfl,HB⟩
 ·rw[hk] at q3;have HT:=Ja (H6.out (by omega) (by omega));clear hk;obtain⟨x0,x1,x2⟩:=hm.cells;obtain⟨-, -, -, -, -, -, -, -, -, -, -, -, -,q13,q14⟩:=hq.cells;go_wp2_with fail;refine(implFiles_some hm hf.out.1 _ _ _ (by decide) HT.out).mono ?_;rintro e w16 ⟨B7,d7,g7,rfl,s7,hb3⟩;replace hm:=hm.step hb3;replace hq:=hq.step hb3;replace HB:=Below.t HB hb3;replace hx:=hx.step hb3
  replace ha:=ha.step hb3;replace s4:=s4.step hb3;replace s5:=s5.step hb3;clear hb3 x0 x1 x2 q13 q14;clear q3;go_wp2_with fail;refine(chFiles_same s7 s4).mono ?_;rintro e w17 ⟨rfl,hb3⟩;replace hm:=hm.step hb3;replace hq:=hq.step hb3;replace HB:=Below.t HB hb3;replace hx:=hx.step hb3;replace ha:=ha.step hb3;replace s4:=s4.step hb3;replace s5:=s5.step hb3;replace s7:=s7.step hb3;clear hb3;go_wp2
  go_ret;exact⟨rfl,HB⟩
def Opens {α H:Type} (enc:TypeId×Value→H) (P:Program) (t:TypeId) (r:Rp α) (ok:α→Prop):Prop:=
 ∀ {w:World} {base:Nat} {spare:Nat→Bool} {held:Bool} {fuel:Nat} {cs:List Value} {x:DataW H×List MemPlace},DataW.trod enc P w base spare held fuel t cs=some x→∃y fp,r.R w cs y fp∧ok y
section
variable {H:Type} {enc:TypeId×Value→H} {P:Program}
theorem opens_byte {t:TypeId} (ht:P.underlying t=some (.int .u8)):Opens enc P t Rp.byte (fun _=>True):=fun h=>by
 obtain⟨n,rfl,_,hw⟩:=DataW.trod_int ht h;simp[Lit.wf,IntKind.min,IntKind.max,IntKind.signed,IntKind.bits] at hw;refine⟨UInt8.ofNat n.toNat,[],⟨?_,rfl⟩,trivial⟩;have e:((UInt8.ofNat n.toNat).toNat:Int)=n:=by
  rw[UInt8.toNat_ofNat'];omega
 show [Value.int .u8 n]= [Value.int .u8 ((UInt8.ofNat n.toNat).toNat:Int)];rw[e]
theorem spot_none {w:World} {a:Addr} {v:Value} (h:w.cell? a=some v):a.spot=none:=by
 unfold World.cell? at h;split at h
 ·split at h
  ·cases h
  ·rename_i hs;simpa using hs
 ·cases h
theorem opens_rows {α:Type} {r:Rp α} {ok:α→Prop} {w:World} {base:Nat} {a:Addr} : ∀(len:Nat),(∀i,i<len→∃cs' y f,w.cells? base (a.add (i*r.k)) r.k=some cs'∧r.R w cs' y f∧ok y)→
  ∃xs l fp,l.length=len∧AllR r w xs l fp∧(∀y∈l,ok y)∧∀j u,xs[j]? =some u→w.cell? (a.add j)=some u
 | 0,_=>⟨[],[],[],rfl,⟨rfl,rfl⟩,by simp,by simp⟩
 |len+1,h=>by
  obtain⟨xs,l,fp,hl,ha,hok,hc⟩:=opens_rows len (fun i hi=>h i (by omega));obtain⟨cs',y,f,hcs,hr,hy⟩:=h len (by omega);obtain⟨_,hcl,hat⟩:=World.cells?_some hcs;have hxl:=ha.len;refine⟨xs++cs',l++ [y],fp++f,by simp[hl],ha.snoc hr,fun z hz=> ?_,fun j u hu=> ?_⟩
  ·rcases List.mem_append.1 hz with hz|hz
   ·exact hok z hz
   ·simp at hz;subst hz;exact hy
  ·by_cases hj:j<xs.length
   ·rw[List.getElem?_append_left hj] at hu;exact hc j u hu
   ·rw[List.getElem?_append_right (by omega)] at hu;have hlt:=(List.getElem?_eq_some_iff.1 hu).1;have:=hat (i:=j - xs.length) (by omega);rw[hu] at this;rw[Go.Deep.add_add,show len*r.k+(j - xs.length)=j from by rw[hl] at hxl;omega] at this;exact this
theorem opens_slice {α:Type} {r:Rp α} {ok:α→Prop} {t e:TypeId} (ht:P.underlying t=some (.slice e)) (hC:P.cellsOf e=r.k) (hk:0<r.k) (h:Opens enc P e r ok):Opens enc P t (Rp.slice r) (fun l=>∀y∈l,ok y):=fun {w base spare held fuel cs x} hr=>by
 rcases open_slice ht hr with ⟨rfl,_⟩|⟨a,len,cap,m,n,D,Pl,rfl,hb,hl,hm,hmm,_,hi⟩
 ·exact⟨[],[],⟨none,0,0,rfl,SlR.nil⟩,by simp⟩
 ·have hle:len≤m:=by rw[hmm];split<;>omega
  rw[hC] at hi;obtain⟨xs,l,fp,hlen,ha,hok,hc⟩:=opens_rows (r:=r) (ok:=ok) (w:=w) (base:=base) (a:=a) len (fun i hii=>by
   obtain⟨cs',hcs,htr⟩:=hi i (by omega);obtain⟨y,f,hR,hy⟩:=h htr;exact⟨cs',y,f,hcs,hR,hy⟩)
  have hxl:=ha.len;by_cases h0:len=0
  ·subst h0;have:l= []:=List.eq_nil_of_length_eq_zero hlen;subst this;obtain⟨rfl,rfl⟩:=ha;exact⟨[],[],⟨some a,0,cap,rfl,rfl,Nat.zero_le _,hm,[],[],[],⟨by simp,.inl ⟨rfl,rfl⟩⟩,⟨rfl,rfl⟩,rfl⟩,by simp⟩
  ·have hpos:0<xs.length:=by rw[hxl,hlen];exact Nat.mul_pos (by omega) hk
   have h00:=hc 0 xs[0] (List.getElem?_eq_getElem hpos);have ha0:a.add 0=a:=by simp[Addr.add]
   rw[ha0] at h00;obtain⟨b,o,s⟩:=a;have hs:s=none:=spot_none h00;subst hs;refine⟨l,[b]++fp,⟨_,len,cap,rfl,hlen.symm,hl,hm,xs,[b],fp,⟨by rw[hxl,hlen],.inr ⟨by omega,b,o,rfl,rfl,World.block_lt_of_cell? w _ h00,fun j u hu=> ?_⟩⟩,ha,rfl⟩,hok⟩;have:=hc j u hu;rwa [Addr.add_lit] at this
theorem post_of_below {f:Func} {s:ChangeSpec} {apart fresh handsOn again:Bool} {W W':World} {args:Array Value} {v:Value} {ds gs:List (DataW H)} {before pa pv:List MemPlace}
  (hW:DataW.Whole enc P f.params.toList s.vars apart W args.toList ds gs before)
  (hres: ∀(b:Nat) (sp:Nat→Bool) (hd:Bool),DataW.TrodAll enc P W' b sp hd f.resultTypes.toList (v.resultList f.resultTypes.size) (s.fn H (ds++gs)).results [])
  (hargs: ∀sp:Nat→Bool,(∀p∈before,sp p.block=true)→DataW.TrodAll enc P W' 0 sp true f.params.toList args.toList (s.fn H (ds++gs)).args pa)
  (hvars: ∀sp:Nat→Bool,(∀p∈before,sp p.block=true)→DataW.TrodVars enc P W' sp s.vars (s.fn H (ds++gs)).vars pv)
  (hps:before=pa++pv) (hb:Below W.heap.size W W')
  (hok: ∀(j:Nat) (t:TypeId) (r:Value),f.resultTypes[j]? =some t→(v.resultList f.resultTypes.size)[j]? =some r→Value.okWide P W' .any 0 t r):
  s.post enc P f apart fresh handsOn again W args v W':=by
 have hlt: ∀p∈before,p.block<W.heap.size:=fun p hp=>hW.lt p hp;have hold: ∀p∈before,(fun b=>decide (b<W.heap.size)) p.block=true:=fun p hp=>by simpa using hlt p hp
 refine⟨ds,gs,before,[],pa,pv,hW,hres _ _ _,hargs _ hold,hvars _ hold,World.keptBut_mono (fun p hp=>⟨hp, ?_⟩) (hb.frame (·∈before)),fun _=> ?_⟩
 ·rw[hps,List.mem_append] at hp;exact Or.inr hp
 ·obtain⟨_,_,_,_,_,hz,hn⟩:=hW;refine⟨hok,_,_,([]++pa)++pv,⟨[]++pa,pv,trodAll_append (hargs _ (fun _ _=>rfl)) (hres _ _ _),hvars _ (fun _ _=>rfl),rfl, ?_, ?_⟩, ?_⟩
  ·intro b off hp;have hin:MemPlace.cell b off∈before:=by rw[hps];simpa using hp
   rw[hb.frozen (hlt _ hin)];exact hz b off hin
  ·intro ha;have:=hn ha;rw[hps] at this;simpa using this
  ·intro p hp _;rw[hps];simpa using hp
end
theorem fnMdlBack_own:ownKnob Tryz.prog.godebug=none:=by kernel_rfl
theorem fnMdlBack_laidOut:laidOutB Tryz.prog=true:=by kernel_rfl
theorem fnMdlBack_contract (H:Type) (enc:TypeId×Value→H) (W:World) (base:Nat) (args:Array Value) (ds gs:List (DataW H)) (before:List MemPlace)
  (hval0: ∀(j:Nat) t v,Tryz.f11.params[j]? =some t→args[j]? =some v→Value.okWide Tryz.prog W .any base t v)
  (hW:DataW.Whole enc Tryz.prog Tryz.f11.params.toList Rows.fnMdlBackSpec.vars false W args.toList ds gs before):
  Calls Tryz.prog 11 args W fun e W'=>∃v,e= .returned v∧Rows.fnMdlBackSpec.post enc Tryz.prog Tryz.f11 false true false false W args v W':=by
 have hval:=hval0;have hW':=hW;obtain⟨p,q,hA0,hV,rfl,hfz,hnd⟩:=hW;have hA:DataW.TrodAll enc Tryz.prog W 0 (fun _=>true) true Tryz.f11.params.toList args.toList ds p:=hA0;rw[Tryz.params11] at hA hval;obtain⟨v0,d0,rfl,rfl,h0⟩:=trodAll_one hA;obtain⟨rfl,rfl⟩:=trodVars_none hV;have h0k:=h0;obtain⟨a0,len0,cap0,rfl⟩:=okWide_slice Tryz.underlying22 (hval 0 22 v0 rfl rfl);obtain⟨fuel0,hf0⟩:=h0
 obtain⟨l0,fp0,⟨A0,n0,c0,hcs0,hs0⟩,hw0⟩:=opens_slice Tryz.underlying22 (by kernel_rfl) (by decide) (opens_byte Tryz.underlying5) hf0;have hc0:Value.slice a0 len0 cap0= .slice A0 n0 c0:=by simpa [Value.cells] using hcs0
 rw[hc0] at h0k hW' ⊢;clear hf0 hcs0 hc0;clear hA0 hval hval0;simp only[List.append_nil] at hW';refine(lawBack W hs0).mono fun e W' ⟨he,hb⟩=> ?_;subst he;have hlt0: ∀y∈p,y.block<W.heap.size:=fun y hy=>hW'.lt y (by simp[hy])
 refine⟨_,rfl,post_of_below (pa:=p) (pv:=[]) hW' (fun _ _ _=>trodAll_mk1 (shut_bool Tryz.underlying4 _)) (fun sp hsp=> ?_) (fun _ _=>rfl) (by simp) hb (ok_one (by kernel_rfl) rfl (okWide_bool_mk Tryz.underlying4 _))⟩;exact trodAll_mk1 (WideElems.Trod_stays fnMdlBack_laidOut (by kernel_rfl) (of_decide_eq_true (by kernel_rfl)) h0k (fun y hy=>hb.same (hlt0 y hy)) (fun y hy=>hsp y (by simp[hy])))
mutual
def fnMdlBack_flat:DataW Unit→List Value
 | .lit l=>[l.value]
 | .agg ps=>fnMdlBack_flats ps
 |_=>[]
def fnMdlBack_flats:List (DataW Unit)→List Value
 | []=>[]
 |d::r=>fnMdlBack_flat d++fnMdlBack_flats r
end
noncomputable def fnMdlBack_world (os:Os):World:=
 { World.holding Tryz.prog os ⟨#[],#[],[]⟩ with heap:=(((World.holding Tryz.prog os ⟨#[],#[],[]⟩).heap.modify 2 fun
   | .cells _ t frozen=> .cells (fnMdlBack_flat Rows.laid_unicode_utf8_acceptRanges).toArray t frozen
   |o=>o).modify 1 fun
   | .cells _ t frozen=> .cells (fnMdlBack_flat Rows.laid_unicode_utf8_first).toArray t frozen
   |o=>o)}
set_option maxRecDepth 100000 in
theorem fnMdlBack_met (os:Os):laidMet Tryz.prog Rows.fnMdlBackRow.laid ((fnMdlBack_world os).forCall (fun _ _=>0) ⟨#[],#[.slice none 0 0],[]⟩).memory:=
 laidMet_of_run' 8 (by kernel_rfl) (by kernel_rfl)
theorem fnMdlBack_reads (os:Os) {H:Type} (enc:TypeId×Value→H): ∃x,DataW.whole enc Tryz.prog ((fnMdlBack_world os).forCall (fun _ _=>0) ⟨#[],#[.slice none 0 0],[]⟩).memory Tryz.f11.params.toList Rows.fnMdlBackSpec.vars false (#[.slice none 0 0]:Array Value).toList 8=some x:=
 Option.isSome_iff_exists.1 (show(DataW.whole enc Tryz.prog ((fnMdlBack_world os).forCall (fun _ _=>0) ⟨#[],#[.slice none 0 0],[]⟩).memory Tryz.f11.params.toList Rows.fnMdlBackSpec.vars false (#[.slice none 0 0]:Array Value).toList 8).isSome=true by kernel_rfl)
theorem fnMdlBack_lifted (os:Os) (started:os.Started) (H:Type) (enc:TypeId×Value→H) (F:Stop.Interp):
  ReturnsInHanded {} Tryz.checked os 11 .any ((OpenSpec.ofChange Rows.fnMdlBackSpec).preRow enc Tryz.prog Tryz.f11 Rows.fnMdlBackRow.domain false Rows.fnMdlBackRow.laid) (((OpenSpec.ofChange Rows.fnMdlBackSpec).at F).post enc Tryz.prog Tryz.f11 false true false false):=by
 obtain⟨x0,hx⟩:=fnMdlBack_reads os enc;refine returnsInHanded_of_row (C:=Tryz.checked) (s:=OpenSpec.ofChange Rows.fnMdlBackSpec) fnMdlBack_own started (by kernel_rfl) Tryz.func11
  (witness_row_at (enc:=enc) (C:=Tryz.checked) false (fnMdlBack_world os) #[.slice none 0 0] rfl (by kernel_rfl) (by kernel_rfl) (by kernel_rfl)
   (OpenSpec.preRow_of_cond 8 hx (by kernel_rfl) (fun k hk=>by cases hk) (by kernel_rfl) (fnMdlBack_met os))) ?_
 intro W base args ds gs before hval hW _ _ _ _ _ _;exact fnMdlBack_contract H enc W base args ds gs before hval hW
theorem fnMdlBack_closed:joinedFacts Tryz.pinned.checked.prog 11 Tryz.f11 (OpenSpec.ofChange Rows.fnMdlBackSpec).bare Rows.fnMdlBackRow=true:=by
 unfold joinedFacts;simp only[Bool.and_eq_true]
 repeat' apply And.intro
 all_goals(as_aux_lemma=>kernel_rfl)
theorem fnMdlBack_said:Rows.FnMdlBackSaid:=
 OpenClaim.holds_of_cond 11 Tryz.f11 rfl rfl rfl rfl rfl rfl rfl ⟨rfl,rfl,rfl,rfl,rfl⟩ rfl rfl rfl rfl rfl (by kernel_rfl) Tryz.func11 fnMdlBack_closed
  (of_decide_eq_true (by kernel_rfl)) (by unfold Func.isWrapper;first|(rw[if_pos (by decide+kernel)];kernel_rfl)|(rw[if_neg (by decide+kernel)];exact⟨rfl,rfl⟩))
  (fun os started H enc _ F=>by rw[OpenClaim.pre_eq_preRow];exact fnMdlBack_lifted os started H enc F)
theorem fnMdlBack_plain (f:FuncId) (fn:Func) (hf:Tryz.pinned.checked.prog.funcNamed "loop.example/chartulary/laws.FnMdlBack" =some f) (hfn:Tryz.pinned.checked.prog.funcs[f]? =some fn):
  false=Tryz.pinned.checked.prog.looks []∧∀(j:Nat) t,fn.params[j]? =some t→Tryz.pinned.checked.prog.wantsStandIn t=false:=by
 obtain rfl:f=11:=Option.some.inj ((show Tryz.prog.funcNamed "loop.example/chartulary/laws.FnMdlBack" =some 11 by kernel_rfl).symm.trans hf) |>.symm;obtain rfl:fn=Tryz.f11:=(Option.some.inj (Tryz.func11.symm.trans hfn)).symm;refine⟨by kernel_rfl,fun j t ht=> ?_⟩;rw[Tryz.params11] at ht;have hm:=Array.mem_of_getElem? ht;simp only[List.mem_toArray,List.mem_cons,List.not_mem_nil,or_false] at hm
 rcases hm with rfl
 ·exact(show Tryz.prog.wantsStandIn 22=false by kernel_rfl)
theorem fnMdlBack_holds:Rows.FnMdlBackCardSaid:=
 Claim7.holds_tied_plain_at .later [] _ _ _ _ fnMdlBack_said (fun _ h=>by cases h) (by kernel_rfl) (fun _ h=>by cases h) fnMdlBack_row_tie rfl ⟨rfl,rfl⟩ (by kernel_rfl) rfl fnMdlBack_plain (by kernel_rfl)
#print axioms fnMdlBack_holds
end Go.Proofs.YtlkoaobaoffpaaaGreatDoor
