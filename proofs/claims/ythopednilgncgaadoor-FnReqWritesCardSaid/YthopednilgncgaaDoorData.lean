/- The plain data of the laws: structures, how each reads in cells, sizes, marks. By program (wip/gen/gen_data.py). -/
import Derived.Test.YthopednilgncgaaDoorMem
namespace Go.Proofs.YthopednilgncgaaDoor
open Go.RowKit

/-- The decimals of k, behind what is there. -/
def digitsOn : Nat → Nat → List UInt8 → List UInt8
  | 0, _, acc => acc
  | f + 1, k, acc => if k = 0 then acc else digitsOn f (k / 10) (UInt8.ofNat (48 + k % 10) :: acc)
/-- The text that marks place k. -/
def markTx (k : Int) : ByteArray := if k ≤ 0 then ⟨#[109, 48]⟩ else ⟨(109 :: digitsOn (k.toNat + 1) k.toNat []).toArray⟩

def lessLen (left : Int) (n : Nat) : Int := if left - n < 0 then -1 else left - n
theorem lessLen_no {left : Int} {n : Nat} (h : left - n < 0) : lessLen left n = -1 := if_pos h
theorem lessLen_yes {left : Int} {n : Nat} (h : ¬ left - n < 0) : lessLen left n = left - n := if_neg h

theorem ret_int {k : IntKind} {a b : Int} (h : a = b) : Ending.returned (.int k a) = .returned (.int k b) := by rw [h]
theorem ret_bool {a b : Bool} (h : a = b) : Ending.returned (.bool a) = .returned (.bool b) := by rw [h]

def sumOf {α : Type} (f : α → Nat) (l : List α) : Nat := (l.map f).sum
def szL {α : Type} (f : α → Nat) (l : List α) : Nat := l.length + sumOf f l

/-- What a call hands back that makes a struct anew. -/
def FreshR {α : Type} (r : Rp α) (w : World) (x : α) (e : Ending) (w' : World) : Prop :=
  ∃ cs fp, e = .returned (.agg cs.toArray) ∧ r.R w' cs x fp ∧ fp.Nodup ∧ (∀ b ∈ fp, w.heap.size ≤ b) ∧ Free w' fp ∧ Below w.heap.size w w'

theorem int_cells {w : World} {A : Option Addr} {n c : Nat} {l : List Int} {fp : List Nat} (h : SlR Rp.int w A n c l fp) {i : Nat} (hi : i < l.length) :
    ∃ b o, A = some ⟨b, o, none⟩ ∧ b < w.heap.size ∧ b ∈ fp ∧ w.cell? ⟨b, o + i, none⟩ = some (.int .i64 l[i]) := by
  obtain ⟨b, o, hA, hb, hm, hc⟩ := h.getFlat hi
  rw [Nat.mul_one] at hc
  exact ⟨b, o, hA, hb, hm, hc.at0⟩
theorem str_cells {w : World} {A : Option Addr} {n c : Nat} {l : List ByteArray} {fp : List Nat} (h : SlR Rp.str w A n c l fp) {i : Nat} (hi : i < l.length) :
    ∃ b o, A = some ⟨b, o, none⟩ ∧ b < w.heap.size ∧ b ∈ fp ∧ w.cell? ⟨b, o + i, none⟩ = some (.string l[i]) := by
  obtain ⟨b, o, hA, hb, hm, hc⟩ := h.getFlat hi
  rw [Nat.mul_one] at hc
  exact ⟨b, o, hA, hb, hm, hc.at0⟩
theorem slice_cells {α : Type} {r : Rp α} {w : World} {A : Option Addr} {n c : Nat} {l : List (List α)} {fp : List Nat} (h : SlR (Rp.slice r) w A n c l fp) {i : Nat} (hi : i < l.length) :
    ∃ b o A' n' c' f, A = some ⟨b, o, none⟩ ∧ b < w.heap.size ∧ b ∈ fp ∧ w.cell? ⟨b, o + i, none⟩ = some (.slice A' n' c') ∧ SlR r w A' n' c' l[i] f ∧ ∀ x ∈ f, x ∈ fp := by
  obtain ⟨b, o, cs, f, hA, hb, hm, hc, ⟨A', n', c', rfl, hs⟩, hf⟩ := h.get hi
  have hk : (Rp.slice r).k = 1 := rfl
  rw [hk, Nat.mul_one] at hc
  exact ⟨b, o, A', n', c', f, hA, hb, hm, hc.at0, hs, hf⟩

structure Edit where
  path : ByteArray
  bytes : ByteArray
  gone : Bool
  deriving DecidableEq
def zeroEdit : Edit := ⟨ByteArray.empty, ByteArray.empty, false⟩
def wideEdit (x : Edit) : Prop := x.path.size ≤ 9223372036854775807 ∧ x.bytes.size ≤ 9223372036854775807
def szEdit (x : Edit) : Nat := x.path.size + x.bytes.size
def ctEdit (_x : Edit) : Nat := 3
def mkEdit (_x : Edit) (k : Int) : Edit := ⟨markTx (k), markTx (k + 1), ((k + 1 + 1) % 3 == 0)⟩
def encEdit (x : Edit) : List Value := [.string x.path, .string x.bytes, .bool x.gone]
theorem encEdit_one (x : Edit) : ∀ u ∈ encEdit x, u.oneCell' = true := by intro u hu; simp only [encEdit, List.mem_cons, List.not_mem_nil, or_false] at hu; rcases hu with rfl | rfl | rfl <;> rfl
def Rp.edit : Rp Edit := Rp.flat 3 encEdit (fun _ => rfl) encEdit_one
theorem edit_cells {w : World} {A : Option Addr} {n c : Nat} {l : List Edit} {fp : List Nat} (h : SlR Rp.edit w A n c l fp) {i : Nat} (hi : i < l.length) :
    ∃ b o, A = some ⟨b, o, none⟩ ∧ b < w.heap.size ∧ b ∈ fp ∧ w.cell? ⟨b, o + i * 3, none⟩ = some (.string l[i].path) ∧ w.cell? ⟨b, o + i * 3 + 1, none⟩ = some (.string l[i].bytes) ∧ w.cell? ⟨b, o + i * 3 + 2, none⟩ = some (.bool l[i].gone) := by
  obtain ⟨b, o, hA, hb, hm, hc⟩ := h.getFlat hi
  exact ⟨b, o, hA, hb, hm, hc.at0, hc.tail.at0, hc.tail.tail.at0⟩

structure Rule where
  user : Int
  ref : ByteArray
  path : ByteArray
  write : Bool
  deriving DecidableEq
def zeroRule : Rule := ⟨0, ByteArray.empty, ByteArray.empty, false⟩
def wideRule (x : Rule) : Prop := x.ref.size ≤ 9223372036854775807 ∧ x.path.size ≤ 9223372036854775807
def szRule (x : Rule) : Nat := x.ref.size + x.path.size
def ctRule (_x : Rule) : Nat := 4
def mkRule (_x : Rule) (k : Int) : Rule := ⟨k, markTx (k + 1), markTx (k + 1 + 1), ((k + 1 + 1 + 1) % 3 == 0)⟩
def encRule (x : Rule) : List Value := [.int .i64 x.user, .string x.ref, .string x.path, .bool x.write]
theorem encRule_one (x : Rule) : ∀ u ∈ encRule x, u.oneCell' = true := by intro u hu; simp only [encRule, List.mem_cons, List.not_mem_nil, or_false] at hu; rcases hu with rfl | rfl | rfl | rfl <;> rfl
def Rp.rule : Rp Rule := Rp.flat 4 encRule (fun _ => rfl) encRule_one
theorem rule_cells {w : World} {A : Option Addr} {n c : Nat} {l : List Rule} {fp : List Nat} (h : SlR Rp.rule w A n c l fp) {i : Nat} (hi : i < l.length) :
    ∃ b o, A = some ⟨b, o, none⟩ ∧ b < w.heap.size ∧ b ∈ fp ∧ w.cell? ⟨b, o + i * 4, none⟩ = some (.int .i64 l[i].user) ∧ w.cell? ⟨b, o + i * 4 + 1, none⟩ = some (.string l[i].ref) ∧ w.cell? ⟨b, o + i * 4 + 2, none⟩ = some (.string l[i].path) ∧ w.cell? ⟨b, o + i * 4 + 3, none⟩ = some (.bool l[i].write) := by
  obtain ⟨b, o, hA, hb, hm, hc⟩ := h.getFlat hi
  exact ⟨b, o, hA, hb, hm, hc.at0, hc.tail.at0, hc.tail.tail.at0, hc.tail.tail.tail.at0⟩

structure Req where
  user : Int
  key : Int
  repo : Int
  kind : Int
  ref : ByteArray
  path : ByteArray
  old : Int
  back : Int
  edits : List (Edit)
  rule : Rule
  frm : Int
  other : ByteArray
  deriving DecidableEq
def zeroReq : Req := ⟨0, 0, 0, 0, ByteArray.empty, ByteArray.empty, 0, 0, [], zeroRule, 0, ByteArray.empty⟩
def wideReq (x : Req) : Prop := x.ref.size ≤ 9223372036854775807 ∧ x.path.size ≤ 9223372036854775807 ∧ (∀ y ∈ x.edits, wideEdit y) ∧ wideRule x.rule ∧ x.other.size ≤ 9223372036854775807
def szReq (x : Req) : Nat := x.ref.size + x.path.size + szL szEdit x.edits + szRule x.rule + x.other.size
def ctReq (x : Req) : Nat := 1 + 1 + 1 + 1 + 1 + 1 + 1 + 1 + countL ctEdit x.edits + ctRule x.rule + 1 + 1
def mkReq (x : Req) (k : Int) : Req := ⟨k, k + 1, k + 1 + 1, k + 1 + 1 + 1, markTx (k + 1 + 1 + 1 + 1), markTx (k + 1 + 1 + 1 + 1 + 1), k + 1 + 1 + 1 + 1 + 1 + 1, k + 1 + 1 + 1 + 1 + 1 + 1 + 1, markL mkEdit ctEdit x.edits (k + 1 + 1 + 1 + 1 + 1 + 1 + 1 + 1), mkRule x.rule (k + 1 + 1 + 1 + 1 + 1 + 1 + 1 + 1 + ((countL ctEdit x.edits : Nat) : Int)), k + 1 + 1 + 1 + 1 + 1 + 1 + 1 + 1 + ((countL ctEdit x.edits : Nat) : Int) + ((ctRule x.rule : Nat) : Int), markTx (k + 1 + 1 + 1 + 1 + 1 + 1 + 1 + 1 + ((countL ctEdit x.edits : Nat) : Int) + ((ctRule x.rule : Nat) : Int) + 1)⟩
def Rp.req : Rp Req where
  k := 15
  R := fun w cs x fp => ∃ A0 n0 c0 f0, cs = [.int .i64 x.user, .int .i64 x.key, .int .i64 x.repo, .int .i64 x.kind, .string x.ref, .string x.path, .int .i64 x.old, .int .i64 x.back, .slice A0 n0 c0, .int .i64 x.rule.user, .string x.rule.ref, .string x.rule.path, .bool x.rule.write, .int .i64 x.frm, .string x.other] ∧ fp = f0 ∧ SlR Rp.edit w A0 n0 c0 x.edits f0
  len := fun ⟨A0, n0, c0, f0, h, _⟩ => by rw [h]; rfl
  keep := fun ⟨A0, n0, c0, f0, h, hf, h0⟩ hk => by
    rw [hf] at hk
    exact ⟨A0, n0, c0, f0, h, hf, h0.keep fun b hb => hk b (hb)⟩
  lt := fun ⟨A0, n0, c0, f0, h, hf, h0⟩ b hb => by
    rw [hf] at hb
    exact h0.lt b hb
  one := fun ⟨A0, n0, c0, f0, h, _⟩ u hu => by subst h; simp only [List.mem_cons, List.not_mem_nil, or_false] at hu; rcases hu with rfl | rfl | rfl | rfl | rfl | rfl | rfl | rfl | rfl | rfl | rfl | rfl | rfl | rfl | rfl <;> rfl
theorem req_cells {w : World} {A : Option Addr} {n c : Nat} {l : List Req} {fp : List Nat} (h : SlR Rp.req w A n c l fp) {i : Nat} (hi : i < l.length) :
    ∃ b o A0 n0 c0 f0, A = some ⟨b, o, none⟩ ∧ b < w.heap.size ∧ b ∈ fp ∧ w.cell? ⟨b, o + i * 15, none⟩ = some (.int .i64 l[i].user) ∧ w.cell? ⟨b, o + i * 15 + 1, none⟩ = some (.int .i64 l[i].key) ∧ w.cell? ⟨b, o + i * 15 + 2, none⟩ = some (.int .i64 l[i].repo) ∧ w.cell? ⟨b, o + i * 15 + 3, none⟩ = some (.int .i64 l[i].kind) ∧ w.cell? ⟨b, o + i * 15 + 4, none⟩ = some (.string l[i].ref) ∧ w.cell? ⟨b, o + i * 15 + 5, none⟩ = some (.string l[i].path) ∧ w.cell? ⟨b, o + i * 15 + 6, none⟩ = some (.int .i64 l[i].old) ∧ w.cell? ⟨b, o + i * 15 + 7, none⟩ = some (.int .i64 l[i].back) ∧ w.cell? ⟨b, o + i * 15 + 8, none⟩ = some (.slice A0 n0 c0) ∧ w.cell? ⟨b, o + i * 15 + 9, none⟩ = some (.int .i64 l[i].rule.user) ∧ w.cell? ⟨b, o + i * 15 + 10, none⟩ = some (.string l[i].rule.ref) ∧ w.cell? ⟨b, o + i * 15 + 11, none⟩ = some (.string l[i].rule.path) ∧ w.cell? ⟨b, o + i * 15 + 12, none⟩ = some (.bool l[i].rule.write) ∧ w.cell? ⟨b, o + i * 15 + 13, none⟩ = some (.int .i64 l[i].frm) ∧ w.cell? ⟨b, o + i * 15 + 14, none⟩ = some (.string l[i].other) ∧ SlR Rp.edit w A0 n0 c0 l[i].edits f0 ∧ ∀ x ∈ f0, x ∈ fp := by
  obtain ⟨b, o, cs, f, hA, hb, hm, hc, ⟨A0, n0, c0, f0, rfl, hf, h0⟩, hsub⟩ := h.get hi
  rw [hf] at hsub
  exact ⟨b, o, A0, n0, c0, f0, hA, hb, hm, hc.at0, hc.tail.at0, hc.tail.tail.at0, hc.tail.tail.tail.at0, hc.tail.tail.tail.tail.at0, hc.tail.tail.tail.tail.tail.at0, hc.tail.tail.tail.tail.tail.tail.at0, hc.tail.tail.tail.tail.tail.tail.tail.at0, hc.tail.tail.tail.tail.tail.tail.tail.tail.at0, hc.tail.tail.tail.tail.tail.tail.tail.tail.tail.at0, hc.tail.tail.tail.tail.tail.tail.tail.tail.tail.tail.at0, hc.tail.tail.tail.tail.tail.tail.tail.tail.tail.tail.tail.at0, hc.tail.tail.tail.tail.tail.tail.tail.tail.tail.tail.tail.tail.at0, hc.tail.tail.tail.tail.tail.tail.tail.tail.tail.tail.tail.tail.tail.at0, hc.tail.tail.tail.tail.tail.tail.tail.tail.tail.tail.tail.tail.tail.tail.at0, h0, hsub⟩

end Go.Proofs.YthopednilgncgaaDoor
