/- Plain: what a request does to a house. No program in sight. -/
import Derived.Test.YtnogkkcmcnhodaaGreatDoorHm
namespace Go.Proofs.YtnogkkcmcnhodaaGreatDoor
open Go.RowKit

def code (n : Int) : Ans := ⟨n, [], [], 0⟩
def look (p : Repo) (r : Req) : Ans := if rulSees p.rules r.user r.ref then
    match refIdx p.refs r.ref with
    | none => code 5
    | some k => match version (p.refs.getD k zeroRef).versions r.back with
      | none => code 7
      | some l => ⟨1, readable p.rules r.user r.ref (treUnder l r.path), [], (p.refs.getD k zeroRef).count⟩
  else code 4
def refsAns (p : Repo) (r : Req) : Ans := ⟨1, [], (p.refs.map (·.name)).filter fun n => rulSees p.rules r.user n, 0⟩

/-- What who may turn the rules turns, and the code. -/
def manage (p : Repo) (r : Req) : Repo × Int :=
  if r.kind = 4 then (if p.rules.length = 6 then (p, 9) else if putOk p.rules r.rule then ({ p with rules := rulPut p.rules r.rule }, 1) else (p, 7))
  else if r.kind = 5 then (if (rulOut p.rules r.rule).length < p.rules.length then ({ p with rules := rulOut p.rules r.rule }, 1) else (p, 7))
  else match refIdx p.refs r.ref with
    | none =>
      if r.kind = 6 then (if r.ref = ByteArray.empty then (p, 7) else if p.refs.length = 3 then (p, 9) else ({ p with refs := insBy (fun x => bLt x.name r.ref) ⟨r.ref, false, 0, [[]]⟩ p.refs }, 1))
      else (p, 5)
    | some k =>
      if r.kind = 6 then (p, 7)
      else if r.kind = 8 then ({ p with refs := p.refs.set k { p.refs.getD k zeroRef with guard := !(p.refs.getD k zeroRef).guard } }, 1)
      else if (p.refs.getD k zeroRef).guard then (p, 8)
      else ({ p with refs := p.refs.eraseIdx k }, 1)

def mayWrite (m : House) (p : Repo) (r : Req) : Bool :=
  if r.kind = 1 then decide (0 < r.edits.length) && r.edits.all fun e => rulMay p.rules r.user r.ref e.path true
  else rulMay p.rules r.user r.ref ByteArray.empty true && (decide (r.kind = 9) || (match m.repos[r.frm.toNat]? with
    | none => false
    | some q => rulMay q.rules r.user r.other ByteArray.empty false))
/-- The version that a request lays down, or a code. -/
def newest (m : House) (x : Ref) (r : Req) : List File × Int :=
  if r.kind = 1 then (match version x.versions 0 with
    | none => ([], 7)
    | some l => match treTurn l r.edits with
      | none => ([], 7)
      | some o => (o, 1))
  else if r.kind = 9 then (if x.guard then ([], 8) else match version x.versions r.back with
    | none => ([], 7)
    | some l => (l, 1))
  else match filesOf m r.frm r.other 0 with
    | none => ([], 7)
    | some l => (l, 1)
def lastOf (l : List (List File)) : List (List File) := l.drop (l.length - 3)
/-- The house with a version more. -/
def laid (m : House) (p : Repo) (k : Nat) (r : Req) (files : List File) : House :=
  let x := p.refs.getD k zeroRef
  { m with
    used := m.used.set (r.user - 1).toNat (m.used.getD (r.user - 1).toNat 0 + treSize r.edits)
    repos := m.repos.set r.repo.toNat { p with refs := p.refs.set k { x with count := x.count + 1, versions := lastOf (x.versions ++ [files]) } } }
def write (m : House) (p : Repo) (r : Req) : House × Int :=
  if mayWrite m p r then
    match refIdx p.refs r.ref with
    | none => (m, 5)
    | some k =>
      if (p.refs.getD k zeroRef).count ≠ r.old then (m, 6)
      else if (p.refs.getD k zeroRef).count = 14 then (m, 9)
      else if (newest m (p.refs.getD k zeroRef) r).2 ≠ 1 then (m, (newest m (p.refs.getD k zeroRef) r).2)
      else if m.used.getD (r.user - 1).toNat 0 + treSize r.edits > 200 then (m, 10)
      else (laid m p k r (newest m (p.refs.getD k zeroRef) r).1, 1)
  else (m, 4)

/-- What a request does to a house that is ok, if it is ok itself. -/
def doIt (m : House) (r : Req) : House × Ans :=
  if knows m.keys r.user r.key then
    if r.kind = 11 then (m, ⟨1, [], [], m.used.getD (r.user - 1).toNat 0⟩)
    else match m.repos[r.repo.toNat]? with
      | none => (m, code 3)
      | some p =>
        if r.kind = 2 then (m, look p r)
        else if r.kind = 3 then (m, refsAns p r)
        else if reqWrites r then ((write m p r).1, code (write m p r).2)
        else if r.user ≠ p.admin then (m, code 4)
        else ({ m with repos := m.repos.set r.repo.toNat (manage p r).1 }, code (manage p r).2)
  else (m, code 2)
def mdlDo (m : House) (r : Req) : House × Ans := if mdlOk m = true ∧ reqOk r = true then doIt m r else (⟨[], [], []⟩, ⟨0, [], [], 0⟩)
end Go.Proofs.YtnogkkcmcnhodaaGreatDoor
