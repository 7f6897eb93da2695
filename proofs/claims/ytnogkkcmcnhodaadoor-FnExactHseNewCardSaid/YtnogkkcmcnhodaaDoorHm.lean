/- Plain: trees, refs, houses, and what a request does to them. No program in sight. -/
import Derived.Test.YtnogkkcmcnhodaaDoorRk
import Derived.Test.YtnogkkcmcnhodaaDoorRg
import Derived.Test.YtnogkkcmcnhodaaDoorRb
import Derived.Test.YtnogkkcmcnhodaaDoorRi
import Derived.Test.YtnogkkcmcnhodaaDoorRw
namespace Go.Proofs.YtnogkkcmcnhodaaDoor
open Go.RowKit

def bLt (a b : ByteArray) : Bool := Op.bytesLess a.toList b.toList
/-- x among l, behind those of which lt. -/
def insBy {α : Type} (lt : α → Bool) (x : α) (l : List α) : List α := l.takeWhile lt ++ x :: l.dropWhile lt
def fileOk (f : File) : Bool := pthOk f.path && !decide (f.path = ByteArray.empty) && decide (f.bytes.size ≤ 6)
/-- b may stand behind a in a tree -/
def fileLt (a b : File) : Bool := bLt a.path b.path && !pthUnder a.path b.path
def treOk (l : List File) : Bool := decide (l.length ≤ 60) && l.all fileOk && decide (l.Pairwise fun a b => fileLt a b = true)
def fileIdx (l : List File) (path : ByteArray) : Option Nat := l.findIdx? fun f => decide (f.path = path)
def turn1 (l : List File) (e : Edit) : Option (List File) := match fileIdx l e.path with
  | none => if e.gone then none else some (insBy (fun g => bLt g.path e.path) ⟨e.path, e.bytes⟩ l)
  | some k => if e.gone then (if e.bytes = ByteArray.empty then some (l.eraseIdx k) else none) else some (l.set k ⟨e.path, e.bytes⟩)
def turnAll : List File → List Edit → Option (List File)
  | l, [] => some l
  | l, e :: es => match turn1 l e with
    | none => none
    | some l' => turnAll l' es
def treTurn (l : List File) (es : List Edit) : Option (List File) := if treOk l = true ∧ es.length ≤ 4 then
    match turnAll l es with
    | none => none
    | some o => if treOk o then some o else none
  else none
def treUnder (l : List File) (path : ByteArray) : List File := l.filter fun f => pthUnder path f.path
def treSize (es : List Edit) : Nat := (es.map fun e => e.path.size + e.bytes.size).sum
def readable (rules : List Rule) (user : Int) (ref : ByteArray) (l : List File) : List File := l.filter fun f => rulMay rules user ref f.path false

def usersOk (keys used : List Int) : Bool := inB keys.length 1 4 && decide (used.length = keys.length) && keys.all (fun n => inB n 1 9999) && used.all (fun n => inB n 0 200)
def refOk (r : Ref) : Bool := inB r.count 0 14 && inB r.versions.length 1 3 && r.versions.all treOk
def namesOk (l : List ByteArray) : Bool := l.all namOk && decide (l.Pairwise fun a b => bLt a b = true)
def repoOk (users : Int) (p : Repo) : Bool := p.refs.all refOk && namesOk (p.refs.map (·.name)) && inB p.admin 1 users && rulListOk p.rules && decide (p.refs.length ≤ 3)
def mdlOk (m : House) : Bool := usersOk m.keys m.used && inB m.repos.length 1 3 && m.repos.all (repoOk m.keys.length)

def refIdx (l : List Ref) (name : ByteArray) : Option Nat := l.findIdx? fun x => decide (x.name = name)
def version (vs : List (List File)) (back : Int) : Option (List File) := if 0 ≤ back ∧ back < vs.length then vs[vs.length - 1 - back.toNat]? else none
def filesOf (m : House) (repo : Int) (name : ByteArray) (back : Int) : Option (List File) := if 0 ≤ repo then
    match m.repos[repo.toNat]? with
    | none => none
    | some p => match refIdx p.refs name with
      | none => none
      | some k => version (p.refs.getD k zeroRef).versions back
  else none
def mdlFiles (m : House) (repo : Int) (name : ByteArray) (back : Int) : Option (List File) := if mdlOk m then filesOf m repo name back else none
def mdlSees (m : House) (user repo : Int) (name : ByteArray) (back : Int) : List File := match mdlFiles m repo name back with
  | none => []
  | some l => readable (m.repos.getD repo.toNat zeroRepo).rules user name l
def knows (keys : List Int) (user key : Int) : Bool := inB user 1 keys.length && decide (keys[(user - 1).toNat]? = some key)
end Go.Proofs.YtnogkkcmcnhodaaDoor
