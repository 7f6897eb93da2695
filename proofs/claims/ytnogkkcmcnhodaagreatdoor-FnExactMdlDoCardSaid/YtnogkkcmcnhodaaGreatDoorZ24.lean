/- The law FnExactMdlDo, walked. By program (wip/gen/gen_lawdo.py). -/
import Derived.Test.YtnogkkcmcnhodaaGreatDoorZ22
import Derived.Test.YtnogkkcmcnhodaaGreatDoorZ5
import Derived.Test.YtnogkkcmcnhodaaGreatDoorZ23
import Derived.Test.YtnogkkcmcnhodaaGreatDoorZ19
import Derived.Test.YtnogkkcmcnhodaaGreatDoorZ8
namespace Go.Proofs.YtnogkkcmcnhodaaGreatDoor
open Go.RowKit
attribute [local go_sem ↓] Go.wp_at_zero Go.wp_at_succ
attribute [local go_sem] stayQ_normal

theorem szL_has {α : Type} {f : α → Nat} {l : List α} {x : α} (h : x ∈ l) : f x ≤ szL f l := by
 obtain ⟨k, hk, rfl⟩ := List.mem_iff_getElem.1 h
 have := szL_get (f := f) hk
 omega
theorem fitReq_size {x : Req} (h : szReq x ≤ 1048576) : fitReq x := by
 unfold szReq szRule at h
 have h1 : ∀ e ∈ x.edits, szEdit e ≤ 1048576 := fun e he => by
  have := szL_has (f := szEdit) he
  omega
 unfold szEdit at h1
 exact ⟨by omega, by omega, by omega, ⟨by omega, by omega⟩, fun i hi => by have := h1 _ (List.getElem_mem hi); show _ ≤ _; omega⟩
theorem size_lawsHouse : (Tryz.prog.info? 25).map (·.size) = some 3 := by kernel_rfl
theorem size_lawsReq : (Tryz.prog.info? 30).map (·.size) = some 15 := by kernel_rfl

theorem setD_self {L : Array Bool} {i : Nat} (h : i < L.size) : (L.setIfInBounds i true).getD i false = true := by simp [h]
def dG8 (b : Nat) (hc qc : Array Value) : Facts := fun t v _ => match t with
 | 2 => v = .pointer (some ⟨b, 0, none⟩)
 | 3 => v = .pointer (some ⟨b + 1, 0, none⟩)
 | 28 => v = .agg hc
 | 30 => v = .agg qc
 | _ => True
theorem dG8_stays (b : Nat) (hc qc : Array Value) : Stays (fun _ _ => True) (dG8 b hc qc) := fun t v w w' h _ => h
def dC8 (w0 : World) (o : House × Ans) (x : House) (r : Req) (L : Array Bool) (τ : Tmp → Value) (w : World) : Prop :=
 Below w0.heap.size w0 w ∧ DoSt w0.heap.size o x r (L.getD 1 false) (L.getD 3 false) (L.getD 4 false) (L.getD 5 false) (L.getD 6 false) (L.getD 7 false) (L.getD 8 false) (L.getD 9 false) (L.getD 10 false) (τ 29) (τ 31) (τ 32) (τ 27) (τ 33) (τ 34) (τ 6) (τ 7) w
section
variable {w0 w w' : World} {o : House × Ans} {x : House} {r : Req} {L : Array Bool} {τ : Tmp → Value} {u : Value}
theorem dC8_load0 (h : dC8 w0 o x r L τ w) : dC8 w0 o x r (L.setIfInBounds 0 true) (updT τ (some 28) u) w := by
 obtain ⟨h1, h2⟩ := h
 refine ⟨h1, ?_⟩
 rw [getD_set_ne (i := 0) (j := 1) false (by decide), getD_set_ne (i := 0) (j := 3) false (by decide), getD_set_ne (i := 0) (j := 4) false (by decide), getD_set_ne (i := 0) (j := 5) false (by decide), getD_set_ne (i := 0) (j := 6) false (by decide), getD_set_ne (i := 0) (j := 7) false (by decide), getD_set_ne (i := 0) (j := 8) false (by decide), getD_set_ne (i := 0) (j := 9) false (by decide), getD_set_ne (i := 0) (j := 10) false (by decide)]
 exact h2
theorem dC8_load2 (h : dC8 w0 o x r L τ w) : dC8 w0 o x r (L.setIfInBounds 2 true) (updT τ (some 30) u) w := by
 obtain ⟨h1, h2⟩ := h
 refine ⟨h1, ?_⟩
 rw [getD_set_ne (i := 2) (j := 1) false (by decide), getD_set_ne (i := 2) (j := 3) false (by decide), getD_set_ne (i := 2) (j := 4) false (by decide), getD_set_ne (i := 2) (j := 5) false (by decide), getD_set_ne (i := 2) (j := 6) false (by decide), getD_set_ne (i := 2) (j := 7) false (by decide), getD_set_ne (i := 2) (j := 8) false (by decide), getD_set_ne (i := 2) (j := 9) false (by decide), getD_set_ne (i := 2) (j := 10) false (by decide)]
 exact h2
theorem dC8_toH (h : dC8 w0 o x r L τ w) (hL : L.size = 12) (hl : L.getD 1 false = false) (hb : Below w.heap.size w w') {cs : List Value} {f : List Nat} (hR : Rp.house.R w' cs x f) : dC8 w0 o x r (L.setIfInBounds 1 true) (updT τ (some 29) (.agg cs.toArray)) w' := by
 obtain ⟨h1, h2⟩ := h
 rw [hl] at h2
 refine ⟨Below.t h1 hb, ?_⟩
 rw [setD_self (i := 1) (by omega), getD_set_ne (i := 1) (j := 3) false (by decide), getD_set_ne (i := 1) (j := 4) false (by decide), getD_set_ne (i := 1) (j := 5) false (by decide), getD_set_ne (i := 1) (j := 6) false (by decide), getD_set_ne (i := 1) (j := 7) false (by decide), getD_set_ne (i := 1) (j := 8) false (by decide), getD_set_ne (i := 1) (j := 9) false (by decide), getD_set_ne (i := 1) (j := 10) false (by decide)]
 exact h2.toH hb hR
theorem dC8_toQ (h : dC8 w0 o x r L τ w) (hL : L.size = 12) (hl : L.getD 3 false = false) (hb : Below w.heap.size w w') {cs : List Value} {f : List Nat} (hR : Rp.req.R w' cs r f) : dC8 w0 o x r (L.setIfInBounds 3 true) (updT τ (some 31) (.agg cs.toArray)) w' := by
 obtain ⟨h1, h2⟩ := h
 rw [hl] at h2
 refine ⟨Below.t h1 hb, ?_⟩
 rw [getD_set_ne (i := 3) (j := 1) false (by decide), setD_self (i := 3) (by omega), getD_set_ne (i := 3) (j := 4) false (by decide), getD_set_ne (i := 3) (j := 5) false (by decide), getD_set_ne (i := 3) (j := 6) false (by decide), getD_set_ne (i := 3) (j := 7) false (by decide), getD_set_ne (i := 3) (j := 8) false (by decide), getD_set_ne (i := 3) (j := 9) false (by decide), getD_set_ne (i := 3) (j := 10) false (by decide)]
 exact h2.toQ hb hR
theorem dC8_args (h : dC8 w0 o x r L τ w) (h1 : L.getD 1 false = true) (h3 : L.getD 3 false = true) (hl : L.getD 4 false = false) : (∃ cs f, τ 29 = .agg (List.toArray cs) ∧ Rp.house.R w cs x f) ∧ ∃ cs f, τ 31 = .agg (List.toArray cs) ∧ Rp.req.R w cs r f :=
 ⟨h.2.ra h1 hl, h.2.rq h3 hl⟩
theorem dC8_call (h : dC8 w0 o x r L τ w) (hL : L.size = 12) (k1 : L.getD 1 false = true) (k3 : L.getD 3 false = true) (hl : L.getD 4 false = false) {e : Ending} (hd : Done w o e w') : ∃ u, e = .returned u ∧ Below w.heap.size w w' ∧ dC8 w0 o x r (L.setIfInBounds 4 true) (updT τ (some 32) u) w' := by
 obtain ⟨h1, h2⟩ := h
 rw [hl, k1, k3] at h2
 obtain ⟨u, he, hb, h3⟩ := h2.call h1.size hd
 refine ⟨u, he, hb, Below.t h1 hb, ?_⟩
 rw [getD_set_ne (i := 4) (j := 1) false (by decide), getD_set_ne (i := 4) (j := 3) false (by decide), setD_self (i := 4) (by omega), getD_set_ne (i := 4) (j := 5) false (by decide), getD_set_ne (i := 4) (j := 6) false (by decide), getD_set_ne (i := 4) (j := 7) false (by decide), getD_set_ne (i := 4) (j := 8) false (by decide), getD_set_ne (i := 4) (j := 9) false (by decide), getD_set_ne (i := 4) (j := 10) false (by decide), k1, k3]
 exact h3
theorem dC8_move (h : dC8 w0 o x r L τ w) (hL : L.size = 12) (h4 : L.getD 4 false = true) (hl : L.getD 5 false = false) : dC8 w0 o x r (L.setIfInBounds 5 true) (updT τ (some 27) (τ 32)) w := by
 obtain ⟨h1, h2⟩ := h
 rw [hl, h4] at h2
 refine ⟨h1, ?_⟩
 rw [getD_set_ne (i := 5) (j := 1) false (by decide), getD_set_ne (i := 5) (j := 3) false (by decide), getD_set_ne (i := 5) (j := 4) false (by decide), setD_self (i := 5) (by omega), getD_set_ne (i := 5) (j := 6) false (by decide), getD_set_ne (i := 5) (j := 7) false (by decide), getD_set_ne (i := 5) (j := 8) false (by decide), getD_set_ne (i := 5) (j := 9) false (by decide), getD_set_ne (i := 5) (j := 10) false (by decide), h4]
 exact h2.move
theorem dC8_tup (h : dC8 w0 o x r L τ w) (h5 : L.getD 5 false = true) : ∃ a b : Value, τ 27 = .tuple #[a, b] := by
 obtain ⟨h1, h2⟩ := h
 rw [h5] at h2
 exact h2.tup
theorem dC8_ext6 (h : dC8 w0 o x r L τ w) (hL : L.size = 12) (h5 : L.getD 5 false = true) (hl : L.getD 6 false = false) {a b : Value} (e : τ 27 = .tuple #[a, b]) : dC8 w0 o x r (L.setIfInBounds 6 true) (updT τ (some 33) a) w := by
 obtain ⟨h1, h2⟩ := h
 rw [h5, hl] at h2
 refine ⟨h1, ?_⟩
 rw [getD_set_ne (i := 6) (j := 1) false (by decide), getD_set_ne (i := 6) (j := 3) false (by decide), getD_set_ne (i := 6) (j := 4) false (by decide), getD_set_ne (i := 6) (j := 5) false (by decide), setD_self (i := 6) (by omega), getD_set_ne (i := 6) (j := 7) false (by decide), getD_set_ne (i := 6) (j := 8) false (by decide), getD_set_ne (i := 6) (j := 9) false (by decide), getD_set_ne (i := 6) (j := 10) false (by decide), h5]
 exact h2.ext6 e
theorem dC8_ext7 (h : dC8 w0 o x r L τ w) (hL : L.size = 12) (h5 : L.getD 5 false = true) {a b : Value} (e : τ 27 = .tuple #[a, b]) : dC8 w0 o x r (L.setIfInBounds 7 true) (updT τ (some 34) b) w := by
 obtain ⟨h1, h2⟩ := h
 rw [h5] at h2
 refine ⟨h1, ?_⟩
 rw [getD_set_ne (i := 7) (j := 1) false (by decide), getD_set_ne (i := 7) (j := 3) false (by decide), getD_set_ne (i := 7) (j := 4) false (by decide), getD_set_ne (i := 7) (j := 5) false (by decide), getD_set_ne (i := 7) (j := 6) false (by decide), setD_self (i := 7) (by omega), getD_set_ne (i := 7) (j := 8) false (by decide), getD_set_ne (i := 7) (j := 9) false (by decide), getD_set_ne (i := 7) (j := 10) false (by decide), h5]
 exact h2.ext7 e
theorem dC8_al8 (h : dC8 w0 o x r L τ w) (hL : L.size = 12) (hl : L.getD 8 false = false) : dC8 w0 o x r (L.setIfInBounds 8 true) (updT τ (some 6) (.pointer (some ⟨w.heap.size, 0, none⟩))) (w.alloc (.cells #[.slice none 0 0, .slice none 0 0, .slice none 0 0] 35)) := by
 obtain ⟨h1, h2⟩ := h
 rw [hl] at h2
 refine ⟨h1.alloc h1.size _, ?_⟩
 rw [getD_set_ne (i := 8) (j := 1) false (by decide), getD_set_ne (i := 8) (j := 3) false (by decide), getD_set_ne (i := 8) (j := 4) false (by decide), getD_set_ne (i := 8) (j := 5) false (by decide), getD_set_ne (i := 8) (j := 6) false (by decide), getD_set_ne (i := 8) (j := 7) false (by decide), setD_self (i := 8) (by omega), getD_set_ne (i := 8) (j := 9) false (by decide), getD_set_ne (i := 8) (j := 10) false (by decide)]
 exact h2.al8 h1.size
theorem dC8_al9 (h : dC8 w0 o x r L τ w) (hL : L.size = 12) (hl : L.getD 9 false = false) : dC8 w0 o x r (L.setIfInBounds 9 true) (updT τ (some 7) (.pointer (some ⟨w.heap.size, 0, none⟩))) (w.alloc (.cells #[.int .i64 0, .slice none 0 0, .slice none 0 0, .int .i64 0] 39)) := by
 obtain ⟨h1, h2⟩ := h
 rw [hl] at h2
 refine ⟨h1.alloc h1.size _, ?_⟩
 rw [getD_set_ne (i := 9) (j := 1) false (by decide), getD_set_ne (i := 9) (j := 3) false (by decide), getD_set_ne (i := 9) (j := 4) false (by decide), getD_set_ne (i := 9) (j := 5) false (by decide), getD_set_ne (i := 9) (j := 6) false (by decide), getD_set_ne (i := 9) (j := 7) false (by decide), getD_set_ne (i := 9) (j := 8) false (by decide), setD_self (i := 9) (by omega), getD_set_ne (i := 9) (j := 10) false (by decide)]
 exact h2.al9 h1.size
theorem dC8_st (h : dC8 w0 o x r L τ w) (hL : L.size = 12) (h6 : L.getD 6 false = true) (h8 : L.getD 8 false = true) (h9 : L.getD 9 false = true) (hl : L.getD 10 false = false) :
  ∃ b P0 p0 q0 P1 p1 q1 P2 p2 q2, τ 6 = .pointer (some ⟨b, 0, none⟩) ∧ τ 33 = .agg #[.slice P0 p0 q0, .slice P1 p1 q1, .slice P2 p2 q2] ∧ Blk w b 35 #[.slice none 0 0, .slice none 0 0, .slice none 0 0] ∧
   dC8 w0 o x r (L.setIfInBounds 10 true) (updT τ none undef) (((w.setCell ⟨b, 0, none⟩ (.slice P0 p0 q0)).setCell ⟨b, 1, none⟩ (.slice P1 p1 q1)).setCell ⟨b, 2, none⟩ (.slice P2 p2 q2)) := by
 obtain ⟨h1, h2⟩ := h
 rw [h6, h8, h9, hl] at h2
 obtain ⟨b, P0, p0, q0, P1, p1, q1, P2, p2, q2, e1, e2, k, hB, h3⟩ := h2.at10
 refine ⟨b, P0, p0, q0, P1, p1, q1, P2, p2, q2, e1, e2, k, ((h1.setCell hB _).setCell hB _).setCell hB _, ?_⟩
 rw [getD_set_ne (i := 10) (j := 1) false (by decide), getD_set_ne (i := 10) (j := 3) false (by decide), getD_set_ne (i := 10) (j := 4) false (by decide), getD_set_ne (i := 10) (j := 5) false (by decide), getD_set_ne (i := 10) (j := 6) false (by decide), getD_set_ne (i := 10) (j := 7) false (by decide), getD_set_ne (i := 10) (j := 8) false (by decide), getD_set_ne (i := 10) (j := 9) false (by decide), setD_self (i := 10) (by omega), h6, h8, h9]
 exact h3
end
def dG35 (b : Nat) (hc qc : Array Value) : Facts := fun t v _ => match t with
 | 2 => v = .pointer (some ⟨b, 0, none⟩)
 | 3 => v = .pointer (some ⟨b + 1, 0, none⟩)
 | 105 => v = .agg hc
 | 107 => v = .agg qc
 | _ => True
theorem dG35_stays (b : Nat) (hc qc : Array Value) : Stays (fun _ _ => True) (dG35 b hc qc) := fun t v w w' h _ => h
def dC35 (w0 : World) (o : House × Ans) (x : House) (r : Req) (L : Array Bool) (τ : Tmp → Value) (w : World) : Prop :=
 Below w0.heap.size w0 w ∧ DoSt w0.heap.size o x r (L.getD 1 false) (L.getD 3 false) (L.getD 4 false) (L.getD 5 false) (L.getD 6 false) (L.getD 7 false) (L.getD 8 false) (L.getD 9 false) (L.getD 10 false) (τ 106) (τ 108) (τ 109) (τ 104) (τ 110) (τ 111) (τ 15) (τ 16) w
section
variable {w0 w w' : World} {o : House × Ans} {x : House} {r : Req} {L : Array Bool} {τ : Tmp → Value} {u : Value}
theorem dC35_load0 (h : dC35 w0 o x r L τ w) : dC35 w0 o x r (L.setIfInBounds 0 true) (updT τ (some 105) u) w := by
 obtain ⟨h1, h2⟩ := h
 refine ⟨h1, ?_⟩
 rw [getD_set_ne (i := 0) (j := 1) false (by decide), getD_set_ne (i := 0) (j := 3) false (by decide), getD_set_ne (i := 0) (j := 4) false (by decide), getD_set_ne (i := 0) (j := 5) false (by decide), getD_set_ne (i := 0) (j := 6) false (by decide), getD_set_ne (i := 0) (j := 7) false (by decide), getD_set_ne (i := 0) (j := 8) false (by decide), getD_set_ne (i := 0) (j := 9) false (by decide), getD_set_ne (i := 0) (j := 10) false (by decide)]
 exact h2
theorem dC35_load2 (h : dC35 w0 o x r L τ w) : dC35 w0 o x r (L.setIfInBounds 2 true) (updT τ (some 107) u) w := by
 obtain ⟨h1, h2⟩ := h
 refine ⟨h1, ?_⟩
 rw [getD_set_ne (i := 2) (j := 1) false (by decide), getD_set_ne (i := 2) (j := 3) false (by decide), getD_set_ne (i := 2) (j := 4) false (by decide), getD_set_ne (i := 2) (j := 5) false (by decide), getD_set_ne (i := 2) (j := 6) false (by decide), getD_set_ne (i := 2) (j := 7) false (by decide), getD_set_ne (i := 2) (j := 8) false (by decide), getD_set_ne (i := 2) (j := 9) false (by decide), getD_set_ne (i := 2) (j := 10) false (by decide)]
 exact h2
theorem dC35_toH (h : dC35 w0 o x r L τ w) (hL : L.size = 12) (hl : L.getD 1 false = false) (hb : Below w.heap.size w w') {cs : List Value} {f : List Nat} (hR : Rp.house.R w' cs x f) : dC35 w0 o x r (L.setIfInBounds 1 true) (updT τ (some 106) (.agg cs.toArray)) w' := by
 obtain ⟨h1, h2⟩ := h
 rw [hl] at h2
 refine ⟨Below.t h1 hb, ?_⟩
 rw [setD_self (i := 1) (by omega), getD_set_ne (i := 1) (j := 3) false (by decide), getD_set_ne (i := 1) (j := 4) false (by decide), getD_set_ne (i := 1) (j := 5) false (by decide), getD_set_ne (i := 1) (j := 6) false (by decide), getD_set_ne (i := 1) (j := 7) false (by decide), getD_set_ne (i := 1) (j := 8) false (by decide), getD_set_ne (i := 1) (j := 9) false (by decide), getD_set_ne (i := 1) (j := 10) false (by decide)]
 exact h2.toH hb hR
theorem dC35_toQ (h : dC35 w0 o x r L τ w) (hL : L.size = 12) (hl : L.getD 3 false = false) (hb : Below w.heap.size w w') {cs : List Value} {f : List Nat} (hR : Rp.req.R w' cs r f) : dC35 w0 o x r (L.setIfInBounds 3 true) (updT τ (some 108) (.agg cs.toArray)) w' := by
 obtain ⟨h1, h2⟩ := h
 rw [hl] at h2
 refine ⟨Below.t h1 hb, ?_⟩
 rw [getD_set_ne (i := 3) (j := 1) false (by decide), setD_self (i := 3) (by omega), getD_set_ne (i := 3) (j := 4) false (by decide), getD_set_ne (i := 3) (j := 5) false (by decide), getD_set_ne (i := 3) (j := 6) false (by decide), getD_set_ne (i := 3) (j := 7) false (by decide), getD_set_ne (i := 3) (j := 8) false (by decide), getD_set_ne (i := 3) (j := 9) false (by decide), getD_set_ne (i := 3) (j := 10) false (by decide)]
 exact h2.toQ hb hR
theorem dC35_args (h : dC35 w0 o x r L τ w) (h1 : L.getD 1 false = true) (h3 : L.getD 3 false = true) (hl : L.getD 4 false = false) : (∃ cs f, τ 106 = .agg (List.toArray cs) ∧ Rp.house.R w cs x f) ∧ ∃ cs f, τ 108 = .agg (List.toArray cs) ∧ Rp.req.R w cs r f :=
 ⟨h.2.ra h1 hl, h.2.rq h3 hl⟩
theorem dC35_call (h : dC35 w0 o x r L τ w) (hL : L.size = 12) (k1 : L.getD 1 false = true) (k3 : L.getD 3 false = true) (hl : L.getD 4 false = false) {e : Ending} (hd : Done w o e w') : ∃ u, e = .returned u ∧ Below w.heap.size w w' ∧ dC35 w0 o x r (L.setIfInBounds 4 true) (updT τ (some 109) u) w' := by
 obtain ⟨h1, h2⟩ := h
 rw [hl, k1, k3] at h2
 obtain ⟨u, he, hb, h3⟩ := h2.call h1.size hd
 refine ⟨u, he, hb, Below.t h1 hb, ?_⟩
 rw [getD_set_ne (i := 4) (j := 1) false (by decide), getD_set_ne (i := 4) (j := 3) false (by decide), setD_self (i := 4) (by omega), getD_set_ne (i := 4) (j := 5) false (by decide), getD_set_ne (i := 4) (j := 6) false (by decide), getD_set_ne (i := 4) (j := 7) false (by decide), getD_set_ne (i := 4) (j := 8) false (by decide), getD_set_ne (i := 4) (j := 9) false (by decide), getD_set_ne (i := 4) (j := 10) false (by decide), k1, k3]
 exact h3
theorem dC35_move (h : dC35 w0 o x r L τ w) (hL : L.size = 12) (h4 : L.getD 4 false = true) (hl : L.getD 5 false = false) : dC35 w0 o x r (L.setIfInBounds 5 true) (updT τ (some 104) (τ 109)) w := by
 obtain ⟨h1, h2⟩ := h
 rw [hl, h4] at h2
 refine ⟨h1, ?_⟩
 rw [getD_set_ne (i := 5) (j := 1) false (by decide), getD_set_ne (i := 5) (j := 3) false (by decide), getD_set_ne (i := 5) (j := 4) false (by decide), setD_self (i := 5) (by omega), getD_set_ne (i := 5) (j := 6) false (by decide), getD_set_ne (i := 5) (j := 7) false (by decide), getD_set_ne (i := 5) (j := 8) false (by decide), getD_set_ne (i := 5) (j := 9) false (by decide), getD_set_ne (i := 5) (j := 10) false (by decide), h4]
 exact h2.move
theorem dC35_tup (h : dC35 w0 o x r L τ w) (h5 : L.getD 5 false = true) : ∃ a b : Value, τ 104 = .tuple #[a, b] := by
 obtain ⟨h1, h2⟩ := h
 rw [h5] at h2
 exact h2.tup
theorem dC35_ext6 (h : dC35 w0 o x r L τ w) (hL : L.size = 12) (h5 : L.getD 5 false = true) (hl : L.getD 6 false = false) {a b : Value} (e : τ 104 = .tuple #[a, b]) : dC35 w0 o x r (L.setIfInBounds 6 true) (updT τ (some 110) a) w := by
 obtain ⟨h1, h2⟩ := h
 rw [h5, hl] at h2
 refine ⟨h1, ?_⟩
 rw [getD_set_ne (i := 6) (j := 1) false (by decide), getD_set_ne (i := 6) (j := 3) false (by decide), getD_set_ne (i := 6) (j := 4) false (by decide), getD_set_ne (i := 6) (j := 5) false (by decide), setD_self (i := 6) (by omega), getD_set_ne (i := 6) (j := 7) false (by decide), getD_set_ne (i := 6) (j := 8) false (by decide), getD_set_ne (i := 6) (j := 9) false (by decide), getD_set_ne (i := 6) (j := 10) false (by decide), h5]
 exact h2.ext6 e
theorem dC35_ext7 (h : dC35 w0 o x r L τ w) (hL : L.size = 12) (h5 : L.getD 5 false = true) {a b : Value} (e : τ 104 = .tuple #[a, b]) : dC35 w0 o x r (L.setIfInBounds 7 true) (updT τ (some 111) b) w := by
 obtain ⟨h1, h2⟩ := h
 rw [h5] at h2
 refine ⟨h1, ?_⟩
 rw [getD_set_ne (i := 7) (j := 1) false (by decide), getD_set_ne (i := 7) (j := 3) false (by decide), getD_set_ne (i := 7) (j := 4) false (by decide), getD_set_ne (i := 7) (j := 5) false (by decide), getD_set_ne (i := 7) (j := 6) false (by decide), setD_self (i := 7) (by omega), getD_set_ne (i := 7) (j := 8) false (by decide), getD_set_ne (i := 7) (j := 9) false (by decide), getD_set_ne (i := 7) (j := 10) false (by decide), h5]
 exact h2.ext7 e
theorem dC35_al8 (h : dC35 w0 o x r L τ w) (hL : L.size = 12) (hl : L.getD 8 false = false) : dC35 w0 o x r (L.setIfInBounds 8 true) (updT τ (some 15) (.pointer (some ⟨w.heap.size, 0, none⟩))) (w.alloc (.cells #[.slice none 0 0, .slice none 0 0, .slice none 0 0] 35)) := by
 obtain ⟨h1, h2⟩ := h
 rw [hl] at h2
 refine ⟨h1.alloc h1.size _, ?_⟩
 rw [getD_set_ne (i := 8) (j := 1) false (by decide), getD_set_ne (i := 8) (j := 3) false (by decide), getD_set_ne (i := 8) (j := 4) false (by decide), getD_set_ne (i := 8) (j := 5) false (by decide), getD_set_ne (i := 8) (j := 6) false (by decide), getD_set_ne (i := 8) (j := 7) false (by decide), setD_self (i := 8) (by omega), getD_set_ne (i := 8) (j := 9) false (by decide), getD_set_ne (i := 8) (j := 10) false (by decide)]
 exact h2.al8 h1.size
theorem dC35_al9 (h : dC35 w0 o x r L τ w) (hL : L.size = 12) (hl : L.getD 9 false = false) : dC35 w0 o x r (L.setIfInBounds 9 true) (updT τ (some 16) (.pointer (some ⟨w.heap.size, 0, none⟩))) (w.alloc (.cells #[.int .i64 0, .slice none 0 0, .slice none 0 0, .int .i64 0] 39)) := by
 obtain ⟨h1, h2⟩ := h
 rw [hl] at h2
 refine ⟨h1.alloc h1.size _, ?_⟩
 rw [getD_set_ne (i := 9) (j := 1) false (by decide), getD_set_ne (i := 9) (j := 3) false (by decide), getD_set_ne (i := 9) (j := 4) false (by decide), getD_set_ne (i := 9) (j := 5) false (by decide), getD_set_ne (i := 9) (j := 6) false (by decide), getD_set_ne (i := 9) (j := 7) false (by decide), getD_set_ne (i := 9) (j := 8) false (by decide), setD_self (i := 9) (by omega), getD_set_ne (i := 9) (j := 10) false (by decide)]
 exact h2.al9 h1.size
theorem dC35_st (h : dC35 w0 o x r L τ w) (hL : L.size = 12) (h6 : L.getD 6 false = true) (h8 : L.getD 8 false = true) (h9 : L.getD 9 false = true) (hl : L.getD 10 false = false) :
  ∃ b P0 p0 q0 P1 p1 q1 P2 p2 q2, τ 15 = .pointer (some ⟨b, 0, none⟩) ∧ τ 110 = .agg #[.slice P0 p0 q0, .slice P1 p1 q1, .slice P2 p2 q2] ∧ Blk w b 35 #[.slice none 0 0, .slice none 0 0, .slice none 0 0] ∧
   dC35 w0 o x r (L.setIfInBounds 10 true) (updT τ none undef) (((w.setCell ⟨b, 0, none⟩ (.slice P0 p0 q0)).setCell ⟨b, 1, none⟩ (.slice P1 p1 q1)).setCell ⟨b, 2, none⟩ (.slice P2 p2 q2)) := by
 obtain ⟨h1, h2⟩ := h
 rw [h6, h8, h9, hl] at h2
 obtain ⟨b, P0, p0, q0, P1, p1, q1, P2, p2, q2, e1, e2, k, hB, h3⟩ := h2.at10
 refine ⟨b, P0, p0, q0, P1, p1, q1, P2, p2, q2, e1, e2, k, ((h1.setCell hB _).setCell hB _).setCell hB _, ?_⟩
 rw [getD_set_ne (i := 10) (j := 1) false (by decide), getD_set_ne (i := 10) (j := 3) false (by decide), getD_set_ne (i := 10) (j := 4) false (by decide), getD_set_ne (i := 10) (j := 5) false (by decide), getD_set_ne (i := 10) (j := 6) false (by decide), getD_set_ne (i := 10) (j := 7) false (by decide), getD_set_ne (i := 10) (j := 8) false (by decide), getD_set_ne (i := 10) (j := 9) false (by decide), setD_self (i := 10) (by omega), h6, h8, h9]
 exact h3
end

set_option maxHeartbeats 16000000 in
set_option maxRecDepth 100000 in
theorem lawExactMdlDo {cs qs : List Value} {x : House} {r : Req} {fx fr : List Nat} (w : World) (hx : Rp.house.R w cs x fx) (hw : wideHouse x) (hr : Rp.req.R w qs r fr) (hwr : wideReq r) :
  Calls Tryz.prog 3 #[.agg cs.toArray, .agg qs.toArray] w fun e w' => e = .returned (.bool true) ∧ Below w.heap.size w w' := by
 have hx0 := hx
 have hr0 := hr
 obtain ⟨A0, n0, c0, f0, A1, n1, c1, f1, A2, n2, c2, f2, rfl, hff, h0, h1, h2⟩ := hx
 obtain ⟨E0, m0, d0, e0, rfl, hfe, hq⟩ := hr
 have RH := hide (fun (W : World) (hb : Below w.heap.size w W) => Rp.house.below hx0 hb nle)
 have RQ := hide (fun (W : World) (hb : Below w.heap.size w W) => Rp.req.below hr0 hb nle)
 clear hx0 hr0 h0 h1 h2 hff hq hfe
 have k1 := (Blk.new w 25 #[.slice A0 n0 c0, .slice A1 n1 c1, .slice A2 n2 c2]).alloc (.cells #[.int .i64 r.user, .int .i64 r.key, .int .i64 r.repo, .int .i64 r.kind, .string r.ref, .string r.path, .int .i64 r.old, .int .i64 r.back, .slice E0 m0 d0, .int .i64 r.rule.user, .string r.rule.ref, .string r.rule.path, .bool r.rule.write, .int .i64 r.frm, .string r.other] 30)
 have k2 := Blk.new' (w := w.alloc (.cells #[.slice A0 n0 c0, .slice A1 n1 c1, .slice A2 n2 c2] 25)) (H := w.heap.size + 1) (by simp) 30 #[.int .i64 r.user, .int .i64 r.key, .int .i64 r.repo, .int .i64 r.kind, .string r.ref, .string r.path, .int .i64 r.old, .int .i64 r.back, .slice E0 m0 d0, .int .i64 r.rule.user, .string r.rule.ref, .string r.rule.path, .bool r.rule.write, .int .i64 r.frm, .string r.other]
 have HB := ((Below.refl w.heap.size w).alloc nle (.cells #[.slice A0 n0 c0, .slice A1 n1 c1, .slice A2 n2 c2] 25)).alloc (by simp) (.cells #[.int .i64 r.user, .int .i64 r.key, .int .i64 r.repo, .int .i64 r.kind, .string r.ref, .string r.path, .int .i64 r.old, .int .i64 r.back, .slice E0 m0 d0, .int .i64 r.rule.user, .string r.rule.ref, .string r.rule.path, .bool r.rule.write, .int .i64 r.frm, .string r.other] 30)
 go_enter Tryz.func3, Tryz.ntmps3
 go_upto_region 2 with fail
 generalize hW0 : ((w.alloc (.cells #[.slice A0 n0 c0, .slice A1 n1 c1, .slice A2 n2 c2] 25)).alloc (.cells #[.int .i64 r.user, .int .i64 r.key, .int .i64 r.repo, .int .i64 r.kind, .string r.ref, .string r.path, .int .i64 r.old, .int .i64 r.back, .slice E0 m0 d0, .int .i64 r.rule.user, .string r.rule.ref, .string r.rule.path, .bool r.rule.write, .int .i64 r.frm, .string r.other] 30)) = w0 at HB k1 k2 ⊢
 clear hW0
 have u0 := Blk.c0 k1
 have u1 := Blk.c1 k1
 have u2 := Blk.c2 k1
 go_wp2_with fail
 refine (szHouse_any (x := x) _ hw (by omega) (by omega) _ (RH.out _ HB)).mono ?_
 rintro e w1 ⟨rfl, hb⟩
 replace k1 := k1.step hb
 replace k2 := k2.step hb
 replace HB := Below.t HB hb
 clear hb u0 u1 u2
 by_cases hqq : (1048576 : Int) - ((szHouse x : Nat) : Int) < 0
 ·rw [lessLen_no hqq]
  go_wp2
  go_ret
  exact ⟨rfl, HB⟩
 rw [lessLen_yes hqq]
 have hq2 : (0 : Int) ≤ 1048576 - ((szHouse x : Nat) : Int) := by omega
 go_wp2_with ((refine wpList_load_row rfl 30 (.tmp 3) rfl _ rfl _ _ _ _ k2.out Tryz.underlying30 rfl size_lawsReq ?_))
 refine (szReq_any (x := r) _ hwr (by omega) (by omega) _ (RQ.out _ HB)).mono ?_
 rintro e w2 ⟨rfl, hb⟩
 replace k1 := k1.step hb
 replace k2 := k2.step hb
 replace HB := Below.t HB hb
 clear hb
 by_cases hq3 : (1048576 - ((szHouse x : Nat) : Int)) - ((szReq r : Nat) : Int) < 0
 ·rw [lessLen_no hq3]
  go_wp2
  go_ret
  exact ⟨rfl, HB⟩
 rw [lessLen_yes hq3]
 have hs : szHouse x ≤ 1048576 := by omega
 have hsr : szReq r ≤ 1048576 := by omega
 have HS := hide hs
 have HSR := hide hsr
 have HFit := hide (fitHouse_of_size hs)
 have HFitR := hide (fitReq_size hsr)
 have HCH := hide (show (1 : Int) + ((ctHouse x : Nat) : Int) ≤ 1152921504606846976 by have := ctHouse_le x; omega)
 have hq4 : ¬ (1048576 - ((szHouse x : Nat) : Int)) - ((szReq r : Nat) : Int) < 0 := hq3
 obtain ⟨o, ho⟩ : ∃ o, o = mdlDo x r := ⟨_, rfl⟩
 have HOO := hide ho
 have HBH := hide HB
 have K1 := hide k1
 have K2 := hide k2
 clear hs hsr ho hqq hq2 hw hwr
 go_upto_region 8 with fail
 clear hq3 hq4
 have HD := hide (Below.refl w2.heap.size w2)
 go_cut [6, 7] (fun v6 v7 wx => DoneAt w2 o v6 v7 wx)
 case first =>
  refine wp_region_state_last 11 _ rfl (dC8 w2 o x r) (fun _ _ => True) (dG8 w.heap.size #[.slice A0 n0 c0, .slice A1 n1 c1, .slice A2 n2 c2] #[.int .i64 r.user, .int .i64 r.key, .int .i64 r.repo, .int .i64 r.kind, .string r.ref, .string r.path, .int .i64 r.old, .int .i64 r.back, .slice E0 m0 d0, .int .i64 r.rule.user, .string r.rule.ref, .string r.rule.path, .bool r.rule.write, .int .i64 r.frm, .string r.other]) (by kernel_rfl) rfl (by kernel_rfl) rfl (dG8_stays _ _ _) (fun _ => trivial) ⟨⟨(Below.refl _ _).drew, DoSt.start⟩, fun s hs => ?_, by rfl⟩ ?_ ?_
  ·by_cases e2 : s = 2
   ·subst e2; rfl
   by_cases e3 : s = 3
   ·subst e3; rfl
   have hne : s ∉ [28, 29, 30, 31, 32, 27, 33, 34, 6, 7] := fun hm => by
    simp only [List.mem_cons, List.not_mem_nil, or_false] at hm
    rcases hm with rfl | rfl | rfl | rfl | rfl | rfl | rfl | rfl | rfl | rfl <;> exact absurd hs (by decide)
   simp only [List.mem_cons, List.not_mem_nil, or_false, not_or] at hne
   unfold dG8
   split <;> first | trivial | (exfalso; omega)
  ·intro i p hi hp
   have hcases : i = 0 ∨ i = 1 ∨ i = 2 ∨ i = 3 ∨ i = 4 ∨ i = 5 ∨ i = 6 ∨ i = 7 ∨ i = 8 ∨ i = 9 ∨ i = 10 := by omega
   rcases hcases with rfl | rfl | rfl | rfl | rfl | rfl | rfl | rfl | rfl | rfl | rfl
   all_goals (obtain rfl := Option.some.inj hp)
   ·intro L a w' hL hl hall hC hR
    exact fits_load rfl 25 (.tmp 2) rfl w.heap.size ((eval_tmp a 2).trans (hR 2 (by decide))) _ _ _ _ (K1.out.step (Below.t HD.out hC.1)).out Tryz.underlying25 rfl size_lawsHouse trivial ⟨rfl, dC8_load0 hC⟩
   ·intro L a w' hL hl hall hC hR
    have r1 : a.tmps[28]?.getD undef = _ := hR 28 (by decide)
    refine fits_call rfl 9 (enters_of Tryz.func9 (by kernel_rfl) rfl) rfl #[.agg #[.slice A0 n0 c0, .slice A1 n1 c1, .slice A2 n2 c2]] (by simp [eval_tmp, r1]) ((toHouse_any (x := x) _ (RH.out _ (Below.t HBH.out hC.1)) HS.out).mono ?_)
    rintro e wn ⟨csa, fa, rfl, hRa, _, _, _, hb⟩
    exact ⟨_, rfl, trivial, trivial, dC8_toH hC hL hl hb hRa⟩
   ·intro L a w' hL hl hall hC hR
    exact fits_load rfl 30 (.tmp 3) rfl (w.heap.size + 1) ((eval_tmp a 3).trans (hR 3 (by decide))) _ _ _ _ (K2.out.step (Below.t HD.out hC.1)).out Tryz.underlying30 rfl size_lawsReq trivial ⟨rfl, dC8_load2 hC⟩
   ·intro L a w' hL hl hall hC hR
    have r1 : a.tmps[30]?.getD undef = _ := hR 30 (by decide)
    refine fits_call rfl 10 (enters_of Tryz.func10 (by kernel_rfl) rfl) rfl #[.agg #[.int .i64 r.user, .int .i64 r.key, .int .i64 r.repo, .int .i64 r.kind, .string r.ref, .string r.path, .int .i64 r.old, .int .i64 r.back, .slice E0 m0 d0, .int .i64 r.rule.user, .string r.rule.ref, .string r.rule.path, .bool r.rule.write, .int .i64 r.frm, .string r.other]] (by simp [eval_tmp, r1]) ((toReq_any (x := r) _ (RQ.out _ (Below.t HBH.out hC.1)) HSR.out).mono ?_)
    rintro e wn ⟨csa, fa, rfl, hRa, _, _, _, hb⟩
    exact ⟨_, rfl, trivial, trivial, dC8_toQ hC hL hl hb hRa⟩
   ·intro L a w' hL hl hall hC hR
    have k1 := hall ⟨1, .data⟩ (by simp) (by decide)
    have k3 := hall ⟨3, .data⟩ (by simp) (by decide)
    obtain ⟨⟨csa, fa, r1', hRa⟩, csq, fq, r2', hRq⟩ := dC8_args hC k1 k3 hl
    have r1 : a.tmps[29]?.getD undef = .agg csa.toArray := r1'
    have r2 : a.tmps[31]?.getD undef = .agg csq.toArray := r2'
    refine fits_call rfl 8 (enters_of Tryz.func8 (by kernel_rfl) rfl) rfl #[.agg csa.toArray, .agg csq.toArray] (by simp [eval_tmp, r1, r2]) ((specMdlDo_any (x := x) (r := r) _ hRa hRq HFit.out HFitR.out).mono ?_)
    intro e wn hd
    rw [← HOO.out] at hd
    obtain ⟨u, he, hb, hc⟩ := dC8_call hC hL k1 k3 hl hd
    exact ⟨u, he, trivial, trivial, hc⟩
   ·intro L a w' hL hl hall hC hR
    have h4 := hall ⟨4, .data⟩ (by simp) (by decide)
    simp [Region.wanted, outOf, go_sem, execOp, upT]
    exact ⟨trivial, dC8_move hC hL h4 hl⟩
   ·intro L a w' hL hl hall hC hR
    have h5 := hall ⟨5, .data⟩ (by simp) (by decide)
    obtain ⟨p, q, hpq⟩ := dC8_tup hC h5
    have r1 : a.tmps[27]?.getD undef = .tuple #[p, q] := hpq
    simp [Region.wanted, outOf, go_sem, execOp, upT, r1]
    exact ⟨trivial, dC8_ext6 hC hL h5 hl hpq⟩
   ·intro L a w' hL hl hall hC hR
    have h5 := hall ⟨5, .data⟩ (by simp) (by decide)
    obtain ⟨p, q, hpq⟩ := dC8_tup hC h5
    have r1 : a.tmps[27]?.getD undef = .tuple #[p, q] := hpq
    simp [Region.wanted, outOf, go_sem, execOp, upT, r1]
    exact ⟨trivial, dC8_ext7 hC hL h5 hpq⟩
   ·intro L a w' hL hl hall hC hR
    simp [Region.wanted, outOf, go_sem, execOp, upT]
    exact ⟨trivial, dC8_al8 hC hL hl⟩
   ·intro L a w' hL hl hall hC hR
    simp [Region.wanted, outOf, go_sem, execOp, upT]
    exact ⟨trivial, dC8_al9 hC hL hl⟩
   ·intro L a w' hL hl hall hC hR
    obtain ⟨b, P0, p0, q0', P1, p1, q1', P2, p2, q2', e1, e2, k6, h3⟩ := dC8_st hC hL (hall ⟨6, .data⟩ (by simp) (by decide)) (hall ⟨8, .data⟩ (by simp) (by decide)) (hall ⟨9, .phase⟩ (by simp) (by decide)) hl
    have r1 : a.tmps[6]?.getD undef = _ := e1
    have r2 : a.tmps[33]?.getD undef = _ := e2
    obtain ⟨c0', c1', c2'⟩ := Blk.cells3 k6
    have f0' := blk_frozen k6 0
    have f1' := blk_frozen k6 1
    have f2' := blk_frozen k6 2
    simp [Region.wanted, outOf, go_sem, execOp, upT, r1, r2, c0', c1', c2', f0', f1', f2']
    exact h3
  ·intro l w4 τ hall hC
   simp only [List.take_succ_cons, List.take_zero, finT]
   intro v28 _ v29 _ v30 _ v31 _ v32 _ v27 _ v33 _ v34 _ v6 _ v7 _ hτ
   obtain ⟨hB, hD⟩ := hC
   rw [hall 4 (by decide), hall 5 (by decide), hall 6 (by decide), hall 7 (by decide), hall 8 (by decide), hall 9 (by decide), hall 10 (by decide)] at hD
   obtain ⟨b7, V0, y0, z0, V1, y1, z1, t7, t34, k7, hdone⟩ := hD.done hB
   have s6 : τ 6 = v6 := by rw [← hτ]; simp [tau, Act.put]
   have s7 : τ 7 = v7 := by rw [← hτ]; simp [tau, Act.put]
   have s34 : τ 34 = v34 := by rw [← hτ]; simp [tau, Act.put]
   rw [s6, s7] at hdone
   rw [s7] at t7
   rw [s34] at t34
   subst t7 t34
   have HDN := hide hdone
   obtain ⟨c70, c71, c72, c73⟩ := Blk.cells4 k7
   have f70 := blk_frozen k7 0
   have f71 := blk_frozen k7 1
   have f72 := blk_frozen k7 2
   have f73 := blk_frozen k7 3
   clear hdone hτ hD s6 s7 s34 k7
   go_wp2_with fail
   go_meet
   case rel => exact HDN.out
 case rest =>
  obtain ⟨w8, hw8⟩ : ∃ w8, w8 = wc := ⟨_, rfl⟩
  subst hw8
  obtain ⟨b6, b7, ch8, av8, f8, g8, rfl, rfl, k6, k7, R8, A8, _, lo8, _, hb6, hb7, _, _, _, hb⟩ := hcut
  obtain ⟨P0, p0l, p0c, j0, P1, p1l, p1c, j1, P2, p2l, p2c, j2, hch, _, _, _, _⟩ := id R8
  subst hch
  obtain ⟨V0, v0l, v0c, i0, V1, v1l, v1c, i1, hav, _, _, _⟩ := id A8
  subst hav
  have lt8 := hide (show (∀ z ∈ f8, z < w8.heap.size) ∧ (∀ z ∈ g8, z < w8.heap.size) ∧ b6 < w8.heap.size ∧ b7 < w8.heap.size ∧ w.heap.size + 1 < w8.heap.size from ⟨Rp.house.lt R8, Rp.ans.lt A8, k6.lt, k7.lt, by have := k2.lt; have := hb.size; omega⟩)
  clear lo8 hb6 hb7
  replace HB := Below.t HB hb
  replace k1 := k1.step hb
  replace k2 := k2.step hb
  have hsz := hb.size
  clear hb
  have u0 := Blk.c0 k1
  have u1 := Blk.c1 k1
  have u2 := Blk.c2 k1
  go_wp2_with fail
  refine (toHouse_any (x := x) _ (RH.out _ HB) HS.out).mono ?_
  rintro e w9 ⟨csx, fx, rfl, RX, nx, lx, FX, hb⟩
  obtain ⟨X0, x0l, x0c, y0, X1, x1l, x1c, y1, X2, x2l, x2c, y2, hcs, _, _, _, _⟩ := id RX
  subst hcs
  clear u0 u1 u2
  replace HB := Below.t HB hb
  replace k1 := k1.step hb
  replace k2 := k2.step hb
  replace k6 := k6.step hb
  replace k7 := k7.step hb
  replace R8 := Rp.house.below R8 hb nle
  replace A8 := Rp.ans.below A8 hb nle
  have hsz := hb.size
  clear hb
  have L9 := hide hsz
  have IX := hide (show ∀ z ∈ fx, w8.heap.size ≤ z ∧ z < w9.heap.size from fun z hz => ⟨lx z hz, FX.lt z hz⟩)
  clear lx
  go_upto_region 10 with fail
  obtain ⟨w9', hbx⟩ : ∃ w9', w9' = w9.alloc (.cells #[.slice X0 x0l x0c, .slice X1 x1l x1c, .slice X2 x2l x2c] 35) := ⟨_, rfl⟩
  rw [← hbx]
  have hb : Below w9.heap.size w9 w9' := hbx ▸ (Below.refl _ _).alloc nle _
  have k8 : Blk w9' w9.heap.size 35 #[.slice X0 x0l x0c, .slice X1 x1l x1c, .slice X2 x2l x2c] := hbx ▸ Blk.new _ _ _
  clear hbx
  replace HB := Below.t HB hb
  replace k1 := k1.step hb
  replace k2 := k2.step hb
  replace k6 := k6.step hb
  replace k7 := k7.step hb
  replace R8 := Rp.house.below R8 hb nle
  replace A8 := Rp.ans.below A8 hb nle
  replace RX := Rp.house.below RX hb nle
  replace FX := FX.step hb
  have hsz := hb.size
  clear hb
  have H9 := hide k8.lt
  go_wp2_with ((refine wpList_load_row rfl 30 (.tmp 3) rfl _ rfl _ _ _ _ k2.out Tryz.underlying30 rfl size_lawsReq ?_))
  refine (toReq_any (x := r) _ (RQ.out _ HB) HSR.out).mono ?_
  rintro e w10 ⟨csq, fq, rfl, RR, nq, lq, FR, hb⟩
  obtain ⟨Y0, y0l, y0c, z0, hcs, _, _⟩ := id RR
  subst hcs
  replace HB := Below.t HB hb
  replace k1 := k1.step hb
  replace k2 := k2.step hb
  replace k6 := k6.step hb
  replace k7 := k7.step hb
  replace R8 := Rp.house.below R8 hb nle
  replace A8 := Rp.ans.below A8 hb nle
  replace RX := Rp.house.below RX hb nle
  replace FX := FX.step hb
  replace k8 := k8.step hb
  have hsz := hb.size
  clear hb
  have L10 := hide hsz
  have IQ := hide (show ∀ z ∈ fq, w9'.heap.size ≤ z ∧ z < w10.heap.size from fun z hz => ⟨lq z hz, FR.lt z hz⟩)
  have I8 := hide (show w9.heap.size < w10.heap.size from k8.lt)
  clear lq
  go_upto_region 11 with fail
  obtain ⟨w10', hbx⟩ : ∃ w10', w10' = w10.alloc (.cells #[.int .i64 r.user, .int .i64 r.key, .int .i64 r.repo, .int .i64 r.kind, .string r.ref, .string r.path, .int .i64 r.old, .int .i64 r.back, .slice Y0 y0l y0c, .int .i64 r.rule.user, .string r.rule.ref, .string r.rule.path, .bool r.rule.write, .int .i64 r.frm, .string r.other] 46) := ⟨_, rfl⟩
  rw [← hbx]
  have hb : Below w10.heap.size w10 w10' := hbx ▸ (Below.refl _ _).alloc nle _
  have k9 : Blk w10' w10.heap.size 46 #[.int .i64 r.user, .int .i64 r.key, .int .i64 r.repo, .int .i64 r.kind, .string r.ref, .string r.path, .int .i64 r.old, .int .i64 r.back, .slice Y0 y0l y0c, .int .i64 r.rule.user, .string r.rule.ref, .string r.rule.path, .bool r.rule.write, .int .i64 r.frm, .string r.other] := hbx ▸ Blk.new _ _ _
  clear hbx
  replace HB := Below.t HB hb
  replace k1 := k1.step hb
  replace k2 := k2.step hb
  replace k6 := k6.step hb
  replace k7 := k7.step hb
  replace R8 := Rp.house.below R8 hb nle
  replace A8 := Rp.ans.below A8 hb nle
  replace RX := Rp.house.below RX hb nle
  replace FX := FX.step hb
  replace k8 := k8.step hb
  replace RR := Rp.req.below RR hb nle
  replace FR := FR.step hb
  have hsz := hb.size
  clear hb
  have H10 := hide k9.lt
  have u0 := Blk.c0 k8
  have u1 := Blk.c1 k8
  have u2 := Blk.c2 k8
  go_wp2_with ((refine wpList_load_row rfl 46 (.tmp 9) rfl _ rfl _ _ _ _ k9.out Tryz.underlying46 rfl size_Req ?_))
  refine (implMdlDo_any (x := x) (r := r) _ RX RR HFit.out HFitR.out).mono ?_
  intro e w11 hd
  rw [← HOO.out] at hd
  obtain ⟨chg, avg, fg, ga, rfl, RG, AG, ng, lg, fg2, hb⟩ := hd
  obtain ⟨G0, g0l, g0c, j0', G1, g1l, g1c, j1', G2, g2l, g2c, j2', hcs, _, _, _, _⟩ := id RG
  subst hcs
  obtain ⟨S0, s0l, s0c, i0', S1, s1l, s1c, i1', hcs, _, _, _⟩ := id AG
  subst hcs
  have FG := fg2.left
  have FA := fg2.right
  clear u0 u1 u2 fg2
  replace HB := Below.t HB hb
  replace k1 := k1.step hb
  replace k2 := k2.step hb
  replace k6 := k6.step hb
  replace k7 := k7.step hb
  replace R8 := Rp.house.below R8 hb nle
  replace A8 := Rp.ans.below A8 hb nle
  replace RX := Rp.house.below RX hb nle
  replace FX := FX.step hb
  replace k8 := k8.step hb
  replace RR := Rp.req.below RR hb nle
  replace FR := FR.step hb
  replace k9 := k9.step hb
  have hsz := hb.size
  clear hb
  have L11 := hide hsz
  have IG := hide (show (∀ z ∈ fg, w10'.heap.size ≤ z ∧ z < w11.heap.size) ∧ (∀ z ∈ ga, w10'.heap.size ≤ z ∧ z < w11.heap.size) from ⟨fun z hz => ⟨lg z (List.mem_append_left _ hz), FG.lt z hz⟩, fun z hz => ⟨lg z (List.mem_append_right _ hz), FA.lt z hz⟩⟩)
  have I10 := hide (show w10.heap.size < w11.heap.size from k9.lt)
  skip
  have NG := hide ng
  clear lg ng
  go_upto_region 12 with fail
  obtain ⟨w12, hbx⟩ : ∃ w12, w12 = (w11.alloc (.cells #[.slice G0 g0l g0c, .slice G1 g1l g1c, .slice G2 g2l g2c] 35)).alloc (.cells #[.int .i64 o.2.code, .slice S0 s0l s0c, .slice S1 s1l s1c, .int .i64 o.2.n] 39) := ⟨_, rfl⟩
  rw [← hbx]
  have hb : Below w11.heap.size w11 w12 := hbx ▸ ((Below.refl _ _).alloc nle _).alloc (by simp) _
  have k10 : Blk w12 w11.heap.size 35 #[.slice G0 g0l g0c, .slice G1 g1l g1c, .slice G2 g2l g2c] := hbx ▸ (Blk.new _ _ _).alloc _
  have k11 : Blk w12 (w11.heap.size + 1) 39 #[.int .i64 o.2.code, .slice S0 s0l s0c, .slice S1 s1l s1c, .int .i64 o.2.n] := hbx ▸ Blk.new' (by simp) _ _
  clear hbx
  replace HB := Below.t HB hb
  replace k1 := k1.step hb
  replace k2 := k2.step hb
  replace k6 := k6.step hb
  replace k7 := k7.step hb
  replace R8 := Rp.house.below R8 hb nle
  replace A8 := Rp.ans.below A8 hb nle
  replace RX := Rp.house.below RX hb nle
  replace FX := FX.step hb
  replace k8 := k8.step hb
  replace RR := Rp.req.below RR hb nle
  replace FR := FR.step hb
  replace k9 := k9.step hb
  replace RG := Rp.house.below RG hb nle
  replace AG := Rp.ans.below AG hb nle
  replace FG := FG.step hb
  replace FA := FA.step hb
  have hsz := hb.size
  clear hb
  have a0 := Blk.c0 k10
  have a1 := Blk.c1 k10
  have a2 := Blk.c2 k10
  have b0 := Blk.c0 k6
  have b1 := Blk.c1 k6
  have b2 := Blk.c2 k6
  have c0 := Blk.c0 k11
  have c1 := Blk.c1 k11
  have c2 := Blk.c2 k11
  have c3 := Blk.c3 k11
  have d0 := Blk.c0 k7
  have d1 := Blk.c1 k7
  have d2 := Blk.c2 k7
  have d3 := Blk.c3 k7
  go_wp2_with fail
  refine (eqHouse_any (x := o.1) (y := o.1) _ RG R8).mono ?_
  rintro e w13 ⟨rfl, hb⟩
  rw [decide_eq_true (rfl : o.1 = o.1)]
  clear a0 a1 a2 b0 b1 b2 c0 c1 c2 c3 d0 d1 d2 d3
  replace HB := Below.t HB hb
  replace k1 := k1.step hb
  replace k2 := k2.step hb
  replace k6 := k6.step hb
  replace k7 := k7.step hb
  replace R8 := Rp.house.below R8 hb nle
  replace A8 := Rp.ans.below A8 hb nle
  replace RX := Rp.house.below RX hb nle
  replace FX := FX.step hb
  replace k8 := k8.step hb
  replace RR := Rp.req.below RR hb nle
  replace FR := FR.step hb
  replace k9 := k9.step hb
  replace RG := Rp.house.below RG hb nle
  replace AG := Rp.ans.below AG hb nle
  replace FG := FG.step hb
  replace FA := FA.step hb
  replace k10 := k10.step hb
  replace k11 := k11.step hb
  have hsz := hb.size
  clear hb
  have a0 := Blk.c0 k10
  have a1 := Blk.c1 k10
  have a2 := Blk.c2 k10
  have b0 := Blk.c0 k6
  have b1 := Blk.c1 k6
  have b2 := Blk.c2 k6
  have c0 := Blk.c0 k11
  have c1 := Blk.c1 k11
  have c2 := Blk.c2 k11
  have c3 := Blk.c3 k11
  have d0 := Blk.c0 k7
  have d1 := Blk.c1 k7
  have d2 := Blk.c2 k7
  have d3 := Blk.c3 k7
  clear a0 a1 a2 b0 b1 b2
  go_wp2_with fail
  refine (eqAns_any (x := o.2) (y := o.2) _ AG A8).mono ?_
  rintro e w14 ⟨rfl, hb⟩
  rw [decide_eq_true (rfl : o.2 = o.2)]
  clear c0 c1 c2 c3 d0 d1 d2 d3
  replace HB := Below.t HB hb
  replace k1 := k1.step hb
  replace k2 := k2.step hb
  replace k6 := k6.step hb
  replace k7 := k7.step hb
  replace R8 := Rp.house.below R8 hb nle
  replace A8 := Rp.ans.below A8 hb nle
  replace RX := Rp.house.below RX hb nle
  replace FX := FX.step hb
  replace k8 := k8.step hb
  replace RR := Rp.req.below RR hb nle
  replace FR := FR.step hb
  replace k9 := k9.step hb
  replace RG := Rp.house.below RG hb nle
  replace AG := Rp.ans.below AG hb nle
  replace FG := FG.step hb
  replace FA := FA.step hb
  replace k10 := k10.step hb
  replace k11 := k11.step hb
  have hsz := hb.size
  clear hb
  go_upto_region 14 with fail
  have HSB := hide (show ∀ W : World, Below w14.heap.size w14 W → W.cell? ⟨w9.heap.size, 0, none⟩ = some (.slice X0 x0l x0c) ∧ W.cell? ⟨w9.heap.size, 1, none⟩ = some (.slice X1 x1l x1c) ∧ W.cell? ⟨w9.heap.size, 2, none⟩ = some (.slice X2 x2l x2c) ∧ W.cell? ⟨w.heap.size, 0, none⟩ = some (.slice A0 n0 c0) ∧ W.cell? ⟨w.heap.size, 1, none⟩ = some (.slice A1 n1 c1) ∧ W.cell? ⟨w.heap.size, 2, none⟩ = some (.slice A2 n2 c2) from fun W hb => ⟨(k8.step hb).cell 0, (k8.step hb).cell 1, (k8.step hb).cell 2, (k1.step hb).cell 0, (k1.step hb).cell 1, (k1.step hb).cell 2⟩)
  have HBn := HB
  have GS0 := HSB.out _ (Below.refl _ _)
  have HBd := (Below.refl w14.heap.size w14).drew
  go_cut [59] (fun v wx => v = .bool false ∧ Below w14.heap.size w14 wx)
  case first =>
   go_region_held3 (fun w' => w'.cell? ⟨w9.heap.size, 0, none⟩ = some (.slice X0 x0l x0c) ∧ w'.cell? ⟨w9.heap.size, 1, none⟩ = some (.slice X1 x1l x1c) ∧ w'.cell? ⟨w9.heap.size, 2, none⟩ = some (.slice X2 x2l x2c) ∧ w'.cell? ⟨w.heap.size, 0, none⟩ = some (.slice A0 n0 c0) ∧ w'.cell? ⟨w.heap.size, 1, none⟩ = some (.slice A1 n1 c1) ∧ w'.cell? ⟨w.heap.size, 2, none⟩ = some (.slice A2 n2 c2))
    ((repeat (first | with_reducible exact GS0 | (with_reducible refine HSB.out _ ?_) | with_reducible exact HBd | with_reducible exact HBa | with_reducible exact HBe)))
    ((first | (go_at_call 9; refine (toHouse_any (x := x) _ (RH.out _ (Below.t HBn HBd)) HS.out).mono ?_; rintro e wa ⟨csn, fn, rfl, RNn, _, _, _, hba⟩; obtain ⟨N0, n0l, n0c, m0', N1, n1l, n1c, m1', N2, n2l, n2c, m2', hcsn, _, _, _, _⟩ := id RNn; subst hcsn; have HBa := Below.past hba; clear hba) | (go_at_call 12; refine (eqHouse_any (x := x) (y := x) _ (Rp.house.below RX HBa nle) RNn).mono ?_; rintro e we ⟨rfl, hbe⟩; have HBe := Below.t HBa hbe; rw [decide_eq_true (rfl : x = x)]; clear hbe) | fail))
   all_goals
    go_wp2_with fail
    go_meet
    case rel => exact ⟨rfl, HBe⟩
  case rest =>
   clear HSB GS0 HBd HBn
   obtain ⟨w15, hw15⟩ : ∃ w15, w15 = wc := ⟨_, rfl⟩
   subst hw15
   obtain ⟨rfl, hb⟩ := hcut
   replace HB := Below.t HB hb
   replace k1 := k1.step hb
   replace k2 := k2.step hb
   replace k6 := k6.step hb
   replace k7 := k7.step hb
   replace R8 := Rp.house.below R8 hb nle
   replace A8 := Rp.ans.below A8 hb nle
   replace RX := Rp.house.below RX hb nle
   replace FX := FX.step hb
   replace k8 := k8.step hb
   replace RR := Rp.req.below RR hb nle
   replace FR := FR.step hb
   replace k9 := k9.step hb
   replace RG := Rp.house.below RG hb nle
   replace AG := Rp.ans.below AG hb nle
   replace FG := FG.step hb
   replace FA := FA.step hb
   replace k10 := k10.step hb
   replace k11 := k11.step hb
   have hsz := hb.size
   clear hb
   go_upto_region 16 with fail
   have HSB := hide (show ∀ W : World, Below w15.heap.size w15 W → W.cell? ⟨w10.heap.size, 0, none⟩ = some (.int .i64 r.user) ∧ W.cell? ⟨w10.heap.size, 1, none⟩ = some (.int .i64 r.key) ∧ W.cell? ⟨w10.heap.size, 2, none⟩ = some (.int .i64 r.repo) ∧ W.cell? ⟨w10.heap.size, 3, none⟩ = some (.int .i64 r.kind) ∧ W.cell? ⟨w10.heap.size, 4, none⟩ = some (.string r.ref) ∧ W.cell? ⟨w10.heap.size, 5, none⟩ = some (.string r.path) ∧ W.cell? ⟨w10.heap.size, 6, none⟩ = some (.int .i64 r.old) ∧ W.cell? ⟨w10.heap.size, 7, none⟩ = some (.int .i64 r.back) ∧ W.cell? ⟨w10.heap.size, 8, none⟩ = some (.slice Y0 y0l y0c) ∧ W.cell? ⟨w10.heap.size, 9, none⟩ = some (.int .i64 r.rule.user) ∧ W.cell? ⟨w10.heap.size, 10, none⟩ = some (.string r.rule.ref) ∧ W.cell? ⟨w10.heap.size, 11, none⟩ = some (.string r.rule.path) ∧ W.cell? ⟨w10.heap.size, 12, none⟩ = some (.bool r.rule.write) ∧ W.cell? ⟨w10.heap.size, 13, none⟩ = some (.int .i64 r.frm) ∧ W.cell? ⟨w10.heap.size, 14, none⟩ = some (.string r.other) ∧ W.cell? ⟨w.heap.size + 1, 0, none⟩ = some (.int .i64 r.user) ∧ W.cell? ⟨w.heap.size + 1, 1, none⟩ = some (.int .i64 r.key) ∧ W.cell? ⟨w.heap.size + 1, 2, none⟩ = some (.int .i64 r.repo) ∧ W.cell? ⟨w.heap.size + 1, 3, none⟩ = some (.int .i64 r.kind) ∧ W.cell? ⟨w.heap.size + 1, 4, none⟩ = some (.string r.ref) ∧ W.cell? ⟨w.heap.size + 1, 5, none⟩ = some (.string r.path) ∧ W.cell? ⟨w.heap.size + 1, 6, none⟩ = some (.int .i64 r.old) ∧ W.cell? ⟨w.heap.size + 1, 7, none⟩ = some (.int .i64 r.back) ∧ W.cell? ⟨w.heap.size + 1, 8, none⟩ = some (.slice E0 m0 d0) ∧ W.cell? ⟨w.heap.size + 1, 9, none⟩ = some (.int .i64 r.rule.user) ∧ W.cell? ⟨w.heap.size + 1, 10, none⟩ = some (.string r.rule.ref) ∧ W.cell? ⟨w.heap.size + 1, 11, none⟩ = some (.string r.rule.path) ∧ W.cell? ⟨w.heap.size + 1, 12, none⟩ = some (.bool r.rule.write) ∧ W.cell? ⟨w.heap.size + 1, 13, none⟩ = some (.int .i64 r.frm) ∧ W.cell? ⟨w.heap.size + 1, 14, none⟩ = some (.string r.other) from fun W hb => ⟨(k9.step hb).cell 0, (k9.step hb).cell 1, (k9.step hb).cell 2, (k9.step hb).cell 3, (k9.step hb).cell 4, (k9.step hb).cell 5, (k9.step hb).cell 6, (k9.step hb).cell 7, (k9.step hb).cell 8, (k9.step hb).cell 9, (k9.step hb).cell 10, (k9.step hb).cell 11, (k9.step hb).cell 12, (k9.step hb).cell 13, (k9.step hb).cell 14, (k2.step hb).cell 0, (k2.step hb).cell 1, (k2.step hb).cell 2, (k2.step hb).cell 3, (k2.step hb).cell 4, (k2.step hb).cell 5, (k2.step hb).cell 6, (k2.step hb).cell 7, (k2.step hb).cell 8, (k2.step hb).cell 9, (k2.step hb).cell 10, (k2.step hb).cell 11, (k2.step hb).cell 12, (k2.step hb).cell 13, (k2.step hb).cell 14⟩)
   have HBn := HB
   have GS0 := HSB.out _ (Below.refl _ _)
   have HBd := (Below.refl w15.heap.size w15).drew
   go_cut [64] (fun v wx => v = .bool false ∧ Below w15.heap.size w15 wx)
   case first =>
    go_region_held3 (fun w' => w'.cell? ⟨w10.heap.size, 0, none⟩ = some (.int .i64 r.user) ∧ w'.cell? ⟨w10.heap.size, 1, none⟩ = some (.int .i64 r.key) ∧ w'.cell? ⟨w10.heap.size, 2, none⟩ = some (.int .i64 r.repo) ∧ w'.cell? ⟨w10.heap.size, 3, none⟩ = some (.int .i64 r.kind) ∧ w'.cell? ⟨w10.heap.size, 4, none⟩ = some (.string r.ref) ∧ w'.cell? ⟨w10.heap.size, 5, none⟩ = some (.string r.path) ∧ w'.cell? ⟨w10.heap.size, 6, none⟩ = some (.int .i64 r.old) ∧ w'.cell? ⟨w10.heap.size, 7, none⟩ = some (.int .i64 r.back) ∧ w'.cell? ⟨w10.heap.size, 8, none⟩ = some (.slice Y0 y0l y0c) ∧ w'.cell? ⟨w10.heap.size, 9, none⟩ = some (.int .i64 r.rule.user) ∧ w'.cell? ⟨w10.heap.size, 10, none⟩ = some (.string r.rule.ref) ∧ w'.cell? ⟨w10.heap.size, 11, none⟩ = some (.string r.rule.path) ∧ w'.cell? ⟨w10.heap.size, 12, none⟩ = some (.bool r.rule.write) ∧ w'.cell? ⟨w10.heap.size, 13, none⟩ = some (.int .i64 r.frm) ∧ w'.cell? ⟨w10.heap.size, 14, none⟩ = some (.string r.other) ∧ w'.cell? ⟨w.heap.size + 1, 0, none⟩ = some (.int .i64 r.user) ∧ w'.cell? ⟨w.heap.size + 1, 1, none⟩ = some (.int .i64 r.key) ∧ w'.cell? ⟨w.heap.size + 1, 2, none⟩ = some (.int .i64 r.repo) ∧ w'.cell? ⟨w.heap.size + 1, 3, none⟩ = some (.int .i64 r.kind) ∧ w'.cell? ⟨w.heap.size + 1, 4, none⟩ = some (.string r.ref) ∧ w'.cell? ⟨w.heap.size + 1, 5, none⟩ = some (.string r.path) ∧ w'.cell? ⟨w.heap.size + 1, 6, none⟩ = some (.int .i64 r.old) ∧ w'.cell? ⟨w.heap.size + 1, 7, none⟩ = some (.int .i64 r.back) ∧ w'.cell? ⟨w.heap.size + 1, 8, none⟩ = some (.slice E0 m0 d0) ∧ w'.cell? ⟨w.heap.size + 1, 9, none⟩ = some (.int .i64 r.rule.user) ∧ w'.cell? ⟨w.heap.size + 1, 10, none⟩ = some (.string r.rule.ref) ∧ w'.cell? ⟨w.heap.size + 1, 11, none⟩ = some (.string r.rule.path) ∧ w'.cell? ⟨w.heap.size + 1, 12, none⟩ = some (.bool r.rule.write) ∧ w'.cell? ⟨w.heap.size + 1, 13, none⟩ = some (.int .i64 r.frm) ∧ w'.cell? ⟨w.heap.size + 1, 14, none⟩ = some (.string r.other))
     ((repeat (first | with_reducible exact GS0 | (with_reducible refine HSB.out _ ?_) | with_reducible exact HBd | with_reducible exact HBa | with_reducible exact HBe)))
     ((first | (go_at_call 10; refine (toReq_any (x := r) _ (RQ.out _ (Below.t HBn HBd)) HSR.out).mono ?_; rintro e wa ⟨csn, fn, rfl, RNn, _, _, _, hba⟩; obtain ⟨N0, n0l, n0c, m0', hcsn, _, _⟩ := id RNn; subst hcsn; have HBa := Below.past hba; clear hba) | (go_at_call 14; refine (eqReq_any (x := r) (y := r) _ (Rp.req.below RR HBa nle) RNn).mono ?_; rintro e we ⟨rfl, hbe⟩; have HBe := Below.t HBa hbe; rw [decide_eq_true (rfl : r = r)]; clear hbe) | fail))
    all_goals
     go_wp2_with fail
     go_meet
     case rel => exact ⟨rfl, HBe⟩
   case rest =>
    clear HSB GS0 HBd HBn
    obtain ⟨w16, hw16⟩ : ∃ w16, w16 = wc := ⟨_, rfl⟩
    subst hw16
    obtain ⟨rfl, hb⟩ := hcut
    replace HB := Below.t HB hb
    replace k1 := k1.step hb
    replace k2 := k2.step hb
    replace k6 := k6.step hb
    replace k7 := k7.step hb
    replace R8 := Rp.house.below R8 hb nle
    replace A8 := Rp.ans.below A8 hb nle
    replace RX := Rp.house.below RX hb nle
    replace FX := FX.step hb
    replace k8 := k8.step hb
    replace RR := Rp.req.below RR hb nle
    replace FR := FR.step hb
    replace k9 := k9.step hb
    replace RG := Rp.house.below RG hb nle
    replace AG := Rp.ans.below AG hb nle
    replace FG := FG.step hb
    replace FA := FA.step hb
    replace k10 := k10.step hb
    replace k11 := k11.step hb
    have hsz := hb.size
    clear hb
    have HE3 := hide (ctEdits_le HSR.out)
    have HCO := hide (show ctHouse o.1 ≤ 4000 ∧ ctAnsM o.2 ≤ 130 from HOO.out ▸ mdlDo_ct x r)
    have H99 := hide (show w8.heap.size ≤ w9.heap.size ∧ w9.heap.size < w9'.heap.size ∧ w9'.heap.size ≤ w10.heap.size ∧ w10.heap.size < w10'.heap.size ∧ w10'.heap.size ≤ w11.heap.size from ⟨L9.out, H9.out, L10.out, H10.out, L11.out⟩)
    have u0 := Blk.c0 k8
    have u1 := Blk.c1 k8
    have u2 := Blk.c2 k8
    go_wp2_with fail
    refine (markHouse_any (x := x) 1 _ RX nx FX (by omega) HCH.out).mono ?_
    rintro e w17 ⟨rfl, _, ho, hf⟩
    have HI := (fun z hz => IX.out z hz : ∀ z ∈ fx, w8.heap.size ≤ z ∧ z < w9.heap.size)
    replace k1 := k1.only ho (fun hm => by have h1 := HI _ hm; have h2 := lt8.out; have h3 := H99.out; omega)
    replace k2 := k2.only ho (fun hm => by have h1 := HI _ hm; have h2 := lt8.out; have h3 := H99.out; omega)
    replace k6 := k6.only ho (fun hm => by have h1 := HI _ hm; have h2 := lt8.out; have h3 := H99.out; omega)
    replace k7 := k7.only ho (fun hm => by have h1 := HI _ hm; have h2 := lt8.out; have h3 := H99.out; omega)
    replace R8 := Rp.house.keep R8 (fun z hz => ho.block z (Rp.house.lt R8 z hz) (fun hm => by have h1 := HI z hm; have h2 := lt8.out; have h3 := H99.out; have h4 := lt8.out.1 z hz; omega))
    replace A8 := Rp.ans.keep A8 (fun z hz => ho.block z (Rp.ans.lt A8 z hz) (fun hm => by have h1 := HI z hm; have h2 := lt8.out; have h3 := H99.out; have h4 := lt8.out.2.1 z hz; omega))
    replace k8 := k8.only ho (fun hm => by have h1 := HI _ hm; have h2 := lt8.out; have h3 := H99.out; omega)
    replace RR := Rp.req.keep RR (fun z hz => ho.block z (Rp.req.lt RR z hz) (fun hm => by have h1 := HI z hm; have h2 := lt8.out; have h3 := H99.out; have h4 := IQ.out z hz; omega))
    replace FR := FR.other ho hf (fun z hz => FR.lt z hz)
    replace k9 := k9.only ho (fun hm => by have h1 := HI _ hm; have h2 := lt8.out; have h3 := H99.out; omega)
    replace RG := Rp.house.keep RG (fun z hz => ho.block z (Rp.house.lt RG z hz) (fun hm => by have h1 := HI z hm; have h2 := lt8.out; have h3 := H99.out; have h4 := IG.out.1 z hz; omega))
    replace AG := Rp.ans.keep AG (fun z hz => ho.block z (Rp.ans.lt AG z hz) (fun hm => by have h1 := HI z hm; have h2 := lt8.out; have h3 := H99.out; have h4 := IG.out.2 z hz; omega))
    replace FG := FG.other ho hf (fun z hz => FG.lt z hz)
    replace FA := FA.other ho hf (fun z hz => FA.lt z hz)
    replace k10 := k10.only ho (fun hm => by have h1 := HI _ hm; have h2 := lt8.out; have h3 := H99.out; omega)
    replace k11 := k11.only ho (fun hm => by have h1 := HI _ hm; have h2 := lt8.out; have h3 := H99.out; omega)
    replace HB := HB.trans (ho.below (fun z hz => by have h1 := HI z hz; have h2 := lt8.out; have h3 := H99.out; omega) HB.size)
    clear ho hf HI
    clear u0 u1 u2
    go_wp2_with ((refine wpList_load_row rfl 46 (.tmp 9) rfl _ rfl _ _ _ _ k9.out Tryz.underlying46 rfl size_Req ?_))
    refine (markReq_any (x := r) _ _ RR nq FR (by omega) (by have := ctHouse_le x; have := HS.out; have := HE3.out; omega)).mono ?_
    rintro e w18 ⟨rfl, ho, hf⟩
    have HI := (fun z hz => IQ.out z hz : ∀ z ∈ fq, w9'.heap.size ≤ z ∧ z < w10.heap.size)
    replace k1 := k1.only ho (fun hm => by have h1 := HI _ hm; have h2 := lt8.out; have h3 := H99.out; omega)
    replace k2 := k2.only ho (fun hm => by have h1 := HI _ hm; have h2 := lt8.out; have h3 := H99.out; omega)
    replace k6 := k6.only ho (fun hm => by have h1 := HI _ hm; have h2 := lt8.out; have h3 := H99.out; omega)
    replace k7 := k7.only ho (fun hm => by have h1 := HI _ hm; have h2 := lt8.out; have h3 := H99.out; omega)
    replace R8 := Rp.house.keep R8 (fun z hz => ho.block z (Rp.house.lt R8 z hz) (fun hm => by have h1 := HI z hm; have h2 := lt8.out; have h3 := H99.out; have h4 := lt8.out.1 z hz; omega))
    replace A8 := Rp.ans.keep A8 (fun z hz => ho.block z (Rp.ans.lt A8 z hz) (fun hm => by have h1 := HI z hm; have h2 := lt8.out; have h3 := H99.out; have h4 := lt8.out.2.1 z hz; omega))
    replace k8 := k8.only ho (fun hm => by have h1 := HI _ hm; have h2 := lt8.out; have h3 := H99.out; omega)
    replace k9 := k9.only ho (fun hm => by have h1 := HI _ hm; have h2 := lt8.out; have h3 := H99.out; omega)
    replace RG := Rp.house.keep RG (fun z hz => ho.block z (Rp.house.lt RG z hz) (fun hm => by have h1 := HI z hm; have h2 := lt8.out; have h3 := H99.out; have h4 := IG.out.1 z hz; omega))
    replace AG := Rp.ans.keep AG (fun z hz => ho.block z (Rp.ans.lt AG z hz) (fun hm => by have h1 := HI z hm; have h2 := lt8.out; have h3 := H99.out; have h4 := IG.out.2 z hz; omega))
    replace FG := FG.other ho hf (fun z hz => FG.lt z hz)
    replace FA := FA.other ho hf (fun z hz => FA.lt z hz)
    replace k10 := k10.only ho (fun hm => by have h1 := HI _ hm; have h2 := lt8.out; have h3 := H99.out; omega)
    replace k11 := k11.only ho (fun hm => by have h1 := HI _ hm; have h2 := lt8.out; have h3 := H99.out; omega)
    replace HB := HB.trans (ho.below (fun z hz => by have h1 := HI z hz; have h2 := lt8.out; have h3 := H99.out; omega) HB.size)
    clear ho hf HI
    have hk1 : ¬ (1 + ((ctHouse x : Nat) : Int) + ((countL ctEdit r.edits : Nat) : Int)) < 0 := by omega
    have a0 := Blk.c0 k10
    have a1 := Blk.c1 k10
    have a2 := Blk.c2 k10
    have b0 := Blk.c0 k6
    have b1 := Blk.c1 k6
    have b2 := Blk.c2 k6
    have c0 := Blk.c0 k11
    have c1 := Blk.c1 k11
    have c2 := Blk.c2 k11
    have c3 := Blk.c3 k11
    have d0 := Blk.c0 k7
    have d1 := Blk.c1 k7
    have d2 := Blk.c2 k7
    have d3 := Blk.c3 k7
    go_wp2_with fail
    refine (eqHouse_any (x := o.1) (y := o.1) _ RG R8).mono ?_
    rintro e w19 ⟨rfl, hb⟩
    rw [decide_eq_true (rfl : o.1 = o.1)]
    clear a0 a1 a2 b0 b1 b2 c0 c1 c2 c3 d0 d1 d2 d3
    replace HB := Below.t HB hb
    replace k1 := k1.step hb
    replace k2 := k2.step hb
    replace k6 := k6.step hb
    replace k7 := k7.step hb
    replace R8 := Rp.house.below R8 hb nle
    replace A8 := Rp.ans.below A8 hb nle
    replace k8 := k8.step hb
    replace k9 := k9.step hb
    replace RG := Rp.house.below RG hb nle
    replace AG := Rp.ans.below AG hb nle
    replace FG := FG.step hb
    replace FA := FA.step hb
    replace k10 := k10.step hb
    replace k11 := k11.step hb
    have hsz := hb.size
    clear hb
    have a0 := Blk.c0 k10
    have a1 := Blk.c1 k10
    have a2 := Blk.c2 k10
    have b0 := Blk.c0 k6
    have b1 := Blk.c1 k6
    have b2 := Blk.c2 k6
    have c0 := Blk.c0 k11
    have c1 := Blk.c1 k11
    have c2 := Blk.c2 k11
    have c3 := Blk.c3 k11
    have d0 := Blk.c0 k7
    have d1 := Blk.c1 k7
    have d2 := Blk.c2 k7
    have d3 := Blk.c3 k7
    clear a0 a1 a2 b0 b1 b2
    go_wp2_with fail
    refine (eqAns_any (x := o.2) (y := o.2) _ AG A8).mono ?_
    rintro e w20 ⟨rfl, hb⟩
    rw [decide_eq_true (rfl : o.2 = o.2)]
    clear c0 c1 c2 c3 d0 d1 d2 d3
    replace HB := Below.t HB hb
    replace k1 := k1.step hb
    replace k2 := k2.step hb
    replace k6 := k6.step hb
    replace k7 := k7.step hb
    replace R8 := Rp.house.below R8 hb nle
    replace A8 := Rp.ans.below A8 hb nle
    replace k8 := k8.step hb
    replace k9 := k9.step hb
    replace RG := Rp.house.below RG hb nle
    replace AG := Rp.ans.below AG hb nle
    replace FG := FG.step hb
    replace FA := FA.step hb
    replace k10 := k10.step hb
    replace k11 := k11.step hb
    have hsz := hb.size
    clear hb
    clear hk1
    have u0 := Blk.c0 k10
    have u1 := Blk.c1 k10
    have u2 := Blk.c2 k10
    go_wp2_with fail
    refine (markHouse_any (x := o.1) 1 _ RG (List.nodup_append.1 NG.out).1 FG (by omega) (by have := HCO.out.1; omega)).mono ?_
    rintro e w21 ⟨rfl, RGm, ho, hf⟩
    have HI := (fun z hz => IG.out.1 z hz : ∀ z ∈ fg, w10'.heap.size ≤ z ∧ z < w11.heap.size)
    replace k1 := k1.only ho (fun hm => by have h1 := HI _ hm; have h2 := lt8.out; have h3 := H99.out; omega)
    replace k2 := k2.only ho (fun hm => by have h1 := HI _ hm; have h2 := lt8.out; have h3 := H99.out; omega)
    replace k6 := k6.only ho (fun hm => by have h1 := HI _ hm; have h2 := lt8.out; have h3 := H99.out; omega)
    replace k7 := k7.only ho (fun hm => by have h1 := HI _ hm; have h2 := lt8.out; have h3 := H99.out; omega)
    replace R8 := Rp.house.keep R8 (fun z hz => ho.block z (Rp.house.lt R8 z hz) (fun hm => by have h1 := HI z hm; have h2 := lt8.out; have h3 := H99.out; have h4 := lt8.out.1 z hz; omega))
    replace A8 := Rp.ans.keep A8 (fun z hz => ho.block z (Rp.ans.lt A8 z hz) (fun hm => by have h1 := HI z hm; have h2 := lt8.out; have h3 := H99.out; have h4 := lt8.out.2.1 z hz; omega))
    replace k8 := k8.only ho (fun hm => by have h1 := HI _ hm; have h2 := lt8.out; have h3 := H99.out; omega)
    replace k9 := k9.only ho (fun hm => by have h1 := HI _ hm; have h2 := lt8.out; have h3 := H99.out; omega)
    replace AG := Rp.ans.keep AG (fun z hz => ho.block z (Rp.ans.lt AG z hz) (fun hm => (List.nodup_append.1 NG.out).2.2 z hm z hz rfl))
    replace FA := FA.other ho hf (fun z hz => FA.lt z hz)
    replace k10 := k10.only ho (fun hm => by have h1 := HI _ hm; have h2 := lt8.out; have h3 := H99.out; omega)
    replace k11 := k11.only ho (fun hm => by have h1 := HI _ hm; have h2 := lt8.out; have h3 := H99.out; omega)
    replace HB := HB.trans (ho.below (fun z hz => by have h1 := HI z hz; have h2 := lt8.out; have h3 := H99.out; omega) HB.size)
    clear ho hf HI
    clear u0 u1 u2
    have u0 := Blk.c0 k11
    have u1 := Blk.c1 k11
    have u2 := Blk.c2 k11
    have u3 := Blk.c3 k11
    go_wp2_with fail
    refine (markAns_any (x := o.2) _ _ AG (List.nodup_append.1 NG.out).2.1 FA (by omega) (by have := HCO.out; omega)).mono ?_
    rintro e w22 ⟨rfl, AGm, ho, hf⟩
    have HI := (fun z hz => IG.out.2 z hz : ∀ z ∈ ga, w10'.heap.size ≤ z ∧ z < w11.heap.size)
    replace k1 := k1.only ho (fun hm => by have h1 := HI _ hm; have h2 := lt8.out; have h3 := H99.out; omega)
    replace k2 := k2.only ho (fun hm => by have h1 := HI _ hm; have h2 := lt8.out; have h3 := H99.out; omega)
    replace k6 := k6.only ho (fun hm => by have h1 := HI _ hm; have h2 := lt8.out; have h3 := H99.out; omega)
    replace k7 := k7.only ho (fun hm => by have h1 := HI _ hm; have h2 := lt8.out; have h3 := H99.out; omega)
    replace R8 := Rp.house.keep R8 (fun z hz => ho.block z (Rp.house.lt R8 z hz) (fun hm => by have h1 := HI z hm; have h2 := lt8.out; have h3 := H99.out; have h4 := lt8.out.1 z hz; omega))
    replace A8 := Rp.ans.keep A8 (fun z hz => ho.block z (Rp.ans.lt A8 z hz) (fun hm => by have h1 := HI z hm; have h2 := lt8.out; have h3 := H99.out; have h4 := lt8.out.2.1 z hz; omega))
    replace k8 := k8.only ho (fun hm => by have h1 := HI _ hm; have h2 := lt8.out; have h3 := H99.out; omega)
    replace k9 := k9.only ho (fun hm => by have h1 := HI _ hm; have h2 := lt8.out; have h3 := H99.out; omega)
    replace k10 := k10.only ho (fun hm => by have h1 := HI _ hm; have h2 := lt8.out; have h3 := H99.out; omega)
    replace k11 := k11.only ho (fun hm => by have h1 := HI _ hm; have h2 := lt8.out; have h3 := H99.out; omega)
    replace RGm := Rp.house.keep RGm (fun z hz => ho.block z (Rp.house.lt RGm z hz) (fun hm => (List.nodup_append.1 NG.out).2.2 z hz z hm rfl))
    replace HB := HB.trans (ho.below (fun z hz => by have h1 := HI z hz; have h2 := lt8.out; have h3 := H99.out; omega) HB.size)
    clear ho hf HI
    clear u0 u1 u2 u3
    have HX2 := hide (show ((1 + ((ctHouse o.1 : Nat) : Int) + ((ctAnsM o.2 : Nat) : Int)) != (1 + ((ctHouse o.1 : Nat) : Int) + ((ctAnsM o.2 : Nat) : Int))) = false by simp)
    have HX3 := hide (show ¬ (1 + ((ctHouse o.1 : Nat) : Int)) < 0 ∧ ¬ (1 + ((ctHouse o.1 : Nat) : Int) + ((ctAnsM o.2 : Nat) : Int)) < 0 from ⟨by omega, by omega⟩)
    have u0 := Blk.c0 k10
    have u1 := Blk.c1 k10
    have u2 := Blk.c2 k10
    go_wp2_with fail
    refine (heldHouse_any (x := o.1) 1 _ RGm (by omega) (by have := HCO.out.1; omega)).mono ?_
    rintro e w23 ⟨rfl, hb⟩
    clear u0 u1 u2
    replace HB := Below.t HB hb
    replace k1 := k1.step hb
    replace k2 := k2.step hb
    replace k6 := k6.step hb
    replace k7 := k7.step hb
    replace R8 := Rp.house.below R8 hb nle
    replace A8 := Rp.ans.below A8 hb nle
    replace k8 := k8.step hb
    replace k9 := k9.step hb
    replace k10 := k10.step hb
    replace k11 := k11.step hb
    replace RGm := Rp.house.below RGm hb nle
    replace AGm := Rp.ans.below AGm hb nle
    have hsz := hb.size
    clear hb
    have hn1 := HX3.out.1
    have u0 := Blk.c0 k11
    have u1 := Blk.c1 k11
    have u2 := Blk.c2 k11
    have u3 := Blk.c3 k11
    go_wp2_with fail
    refine (heldAns_any (x := o.2) _ _ AGm (by omega) (by have := HCO.out; omega)).mono ?_
    rintro e w24 ⟨rfl, hb⟩
    clear u0 u1 u2 u3
    clear hn1
    replace HB := Below.t HB hb
    replace k1 := k1.step hb
    replace k2 := k2.step hb
    replace k6 := k6.step hb
    replace k7 := k7.step hb
    replace R8 := Rp.house.below R8 hb nle
    replace A8 := Rp.ans.below A8 hb nle
    replace k8 := k8.step hb
    replace k9 := k9.step hb
    replace k10 := k10.step hb
    replace k11 := k11.step hb
    replace RGm := Rp.house.below RGm hb nle
    replace AGm := Rp.ans.below AGm hb nle
    have hsz := hb.size
    clear hb
    have hn2 := HX3.out.2
    have hne2 := HX2.out
    go_upto_region 35 with fail
    clear hn2 hne2
    have HBH := hide HB
    have K1 := hide k1
    have K2 := hide k2
    have HD := hide (Below.refl w24.heap.size w24)
    go_cut [15, 16] (fun v6 v7 wx => DoneAt w24 o v6 v7 wx)
    case first =>
     refine wp_region_state_last 11 _ rfl (dC35 w24 o x r) (fun _ _ => True) (dG35 w.heap.size #[.slice A0 n0 c0, .slice A1 n1 c1, .slice A2 n2 c2] #[.int .i64 r.user, .int .i64 r.key, .int .i64 r.repo, .int .i64 r.kind, .string r.ref, .string r.path, .int .i64 r.old, .int .i64 r.back, .slice E0 m0 d0, .int .i64 r.rule.user, .string r.rule.ref, .string r.rule.path, .bool r.rule.write, .int .i64 r.frm, .string r.other]) (by kernel_rfl) rfl (by kernel_rfl) rfl (dG35_stays _ _ _) (fun _ => trivial) ⟨⟨(Below.refl _ _).drew, DoSt.start⟩, fun s hs => ?_, by rfl⟩ ?_ ?_
     ·by_cases e2 : s = 2
      ·subst e2; rfl
      by_cases e3 : s = 3
      ·subst e3; rfl
      have hne : s ∉ [105, 106, 107, 108, 109, 104, 110, 111, 15, 16] := fun hm => by
       simp only [List.mem_cons, List.not_mem_nil, or_false] at hm
       rcases hm with rfl | rfl | rfl | rfl | rfl | rfl | rfl | rfl | rfl | rfl <;> exact absurd hs (by decide)
      simp only [List.mem_cons, List.not_mem_nil, or_false, not_or] at hne
      unfold dG35
      split <;> first | trivial | (exfalso; omega)
     ·intro i p hi hp
      have hcases : i = 0 ∨ i = 1 ∨ i = 2 ∨ i = 3 ∨ i = 4 ∨ i = 5 ∨ i = 6 ∨ i = 7 ∨ i = 8 ∨ i = 9 ∨ i = 10 := by omega
      rcases hcases with rfl | rfl | rfl | rfl | rfl | rfl | rfl | rfl | rfl | rfl | rfl
      all_goals (obtain rfl := Option.some.inj hp)
      ·intro L a w' hL hl hall hC hR
       exact fits_load rfl 25 (.tmp 2) rfl w.heap.size ((eval_tmp a 2).trans (hR 2 (by decide))) _ _ _ _ (K1.out.step (Below.t HD.out hC.1)).out Tryz.underlying25 rfl size_lawsHouse trivial ⟨rfl, dC35_load0 hC⟩
      ·intro L a w' hL hl hall hC hR
       have r1 : a.tmps[105]?.getD undef = _ := hR 105 (by decide)
       refine fits_call rfl 9 (enters_of Tryz.func9 (by kernel_rfl) rfl) rfl #[.agg #[.slice A0 n0 c0, .slice A1 n1 c1, .slice A2 n2 c2]] (by simp [eval_tmp, r1]) ((toHouse_any (x := x) _ (RH.out _ (Below.t HBH.out hC.1)) HS.out).mono ?_)
       rintro e wn ⟨csa, fa, rfl, hRa, _, _, _, hb⟩
       exact ⟨_, rfl, trivial, trivial, dC35_toH hC hL hl hb hRa⟩
      ·intro L a w' hL hl hall hC hR
       exact fits_load rfl 30 (.tmp 3) rfl (w.heap.size + 1) ((eval_tmp a 3).trans (hR 3 (by decide))) _ _ _ _ (K2.out.step (Below.t HD.out hC.1)).out Tryz.underlying30 rfl size_lawsReq trivial ⟨rfl, dC35_load2 hC⟩
      ·intro L a w' hL hl hall hC hR
       have r1 : a.tmps[107]?.getD undef = _ := hR 107 (by decide)
       refine fits_call rfl 10 (enters_of Tryz.func10 (by kernel_rfl) rfl) rfl #[.agg #[.int .i64 r.user, .int .i64 r.key, .int .i64 r.repo, .int .i64 r.kind, .string r.ref, .string r.path, .int .i64 r.old, .int .i64 r.back, .slice E0 m0 d0, .int .i64 r.rule.user, .string r.rule.ref, .string r.rule.path, .bool r.rule.write, .int .i64 r.frm, .string r.other]] (by simp [eval_tmp, r1]) ((toReq_any (x := r) _ (RQ.out _ (Below.t HBH.out hC.1)) HSR.out).mono ?_)
       rintro e wn ⟨csa, fa, rfl, hRa, _, _, _, hb⟩
       exact ⟨_, rfl, trivial, trivial, dC35_toQ hC hL hl hb hRa⟩
      ·intro L a w' hL hl hall hC hR
       have k1 := hall ⟨1, .data⟩ (by simp) (by decide)
       have k3 := hall ⟨3, .data⟩ (by simp) (by decide)
       obtain ⟨⟨csa, fa, r1', hRa⟩, csq, fq, r2', hRq⟩ := dC35_args hC k1 k3 hl
       have r1 : a.tmps[106]?.getD undef = .agg csa.toArray := r1'
       have r2 : a.tmps[108]?.getD undef = .agg csq.toArray := r2'
       refine fits_call rfl 11 (enters_of Tryz.func11 (by kernel_rfl) rfl) rfl #[.agg csa.toArray, .agg csq.toArray] (by simp [eval_tmp, r1, r2]) ((implMdlDo_any (x := x) (r := r) _ hRa hRq HFit.out HFitR.out).mono ?_)
       intro e wn hd
       rw [← HOO.out] at hd
       obtain ⟨u, he, hb, hc⟩ := dC35_call hC hL k1 k3 hl hd
       exact ⟨u, he, trivial, trivial, hc⟩
      ·intro L a w' hL hl hall hC hR
       have h4 := hall ⟨4, .data⟩ (by simp) (by decide)
       simp [Region.wanted, outOf, go_sem, execOp, upT]
       exact ⟨trivial, dC35_move hC hL h4 hl⟩
      ·intro L a w' hL hl hall hC hR
       have h5 := hall ⟨5, .data⟩ (by simp) (by decide)
       obtain ⟨p, q, hpq⟩ := dC35_tup hC h5
       have r1 : a.tmps[104]?.getD undef = .tuple #[p, q] := hpq
       simp [Region.wanted, outOf, go_sem, execOp, upT, r1]
       exact ⟨trivial, dC35_ext6 hC hL h5 hl hpq⟩
      ·intro L a w' hL hl hall hC hR
       have h5 := hall ⟨5, .data⟩ (by simp) (by decide)
       obtain ⟨p, q, hpq⟩ := dC35_tup hC h5
       have r1 : a.tmps[104]?.getD undef = .tuple #[p, q] := hpq
       simp [Region.wanted, outOf, go_sem, execOp, upT, r1]
       exact ⟨trivial, dC35_ext7 hC hL h5 hpq⟩
      ·intro L a w' hL hl hall hC hR
       simp [Region.wanted, outOf, go_sem, execOp, upT]
       exact ⟨trivial, dC35_al8 hC hL hl⟩
      ·intro L a w' hL hl hall hC hR
       simp [Region.wanted, outOf, go_sem, execOp, upT]
       exact ⟨trivial, dC35_al9 hC hL hl⟩
      ·intro L a w' hL hl hall hC hR
       obtain ⟨b, P0, p0, q0', P1, p1, q1', P2, p2, q2', e1, e2, k6, h3⟩ := dC35_st hC hL (hall ⟨6, .data⟩ (by simp) (by decide)) (hall ⟨8, .data⟩ (by simp) (by decide)) (hall ⟨9, .phase⟩ (by simp) (by decide)) hl
       have r1 : a.tmps[15]?.getD undef = _ := e1
       have r2 : a.tmps[110]?.getD undef = _ := e2
       obtain ⟨c0', c1', c2'⟩ := Blk.cells3 k6
       have f0' := blk_frozen k6 0
       have f1' := blk_frozen k6 1
       have f2' := blk_frozen k6 2
       simp [Region.wanted, outOf, go_sem, execOp, upT, r1, r2, c0', c1', c2', f0', f1', f2']
       exact h3
     ·intro l w4 τ hall hC
      simp only [List.take_succ_cons, List.take_zero, finT]
      intro v105 _ v106 _ v107 _ v108 _ v109 _ v104 _ v110 _ v111 _ v15 _ v16 _ hτ
      obtain ⟨hB, hD⟩ := hC
      rw [hall 4 (by decide), hall 5 (by decide), hall 6 (by decide), hall 7 (by decide), hall 8 (by decide), hall 9 (by decide), hall 10 (by decide)] at hD
      obtain ⟨b7, V0, y0, z0, V1, y1, z1, t7, t34, k7, hdone⟩ := hD.done hB
      have s6 : τ 15 = v15 := by rw [← hτ]; simp [tau, Act.put]
      have s7 : τ 16 = v16 := by rw [← hτ]; simp [tau, Act.put]
      have s34 : τ 111 = v111 := by rw [← hτ]; simp [tau, Act.put]
      rw [s6, s7] at hdone
      rw [s7] at t7
      rw [s34] at t34
      subst t7 t34
      have HDN := hide hdone
      obtain ⟨c70, c71, c72, c73⟩ := Blk.cells4 k7
      have f70 := blk_frozen k7 0
      have f71 := blk_frozen k7 1
      have f72 := blk_frozen k7 2
      have f73 := blk_frozen k7 3
      clear hdone hτ hD s6 s7 s34 k7
      go_wp2_with fail
      go_meet
      case rel => exact HDN.out
    case rest =>
     obtain ⟨w35, hw35⟩ : ∃ w35, w35 = wc := ⟨_, rfl⟩
     subst hw35
     obtain ⟨b15, b16, ch9, av9, f9, g9, rfl, rfl, k15, k16, RT, AT, _, _, _, _, _, _, _, _, hb⟩ := hcut
     obtain ⟨T0, t0l, t0c, j0'', T1, t1l, t1c, j1'', T2, t2l, t2c, j2'', hch, _, _, _, _⟩ := id RT
     subst hch
     obtain ⟨U0, u0l, u0c, i0'', U1, u1l, u1c, i1'', hav, _, _, _⟩ := id AT
     subst hav
     replace HB := Below.t HB hb
     replace k1 := k1.step hb
     replace k2 := k2.step hb
     replace k6 := k6.step hb
     replace k7 := k7.step hb
     replace R8 := Rp.house.below R8 hb nle
     replace A8 := Rp.ans.below A8 hb nle
     replace k8 := k8.step hb
     replace k9 := k9.step hb
     replace k10 := k10.step hb
     replace k11 := k11.step hb
     replace RGm := Rp.house.below RGm hb nle
     replace AGm := Rp.ans.below AGm hb nle
     have hsz := hb.size
     clear hb
     have a0 := Blk.c0 k15
     have a1 := Blk.c1 k15
     have a2 := Blk.c2 k15
     have b0 := Blk.c0 k6
     have b1 := Blk.c1 k6
     have b2 := Blk.c2 k6
     have c0 := Blk.c0 k16
     have c1 := Blk.c1 k16
     have c2 := Blk.c2 k16
     have c3 := Blk.c3 k16
     have d0 := Blk.c0 k7
     have d1 := Blk.c1 k7
     have d2 := Blk.c2 k7
     have d3 := Blk.c3 k7
     go_wp2_with fail
     refine (eqHouse_any (x := o.1) (y := o.1) _ RT R8).mono ?_
     rintro e w36 ⟨rfl, hb⟩
     rw [decide_eq_true (rfl : o.1 = o.1)]
     clear a0 a1 a2 b0 b1 b2 c0 c1 c2 c3 d0 d1 d2 d3
     replace HB := Below.t HB hb
     replace k1 := k1.step hb
     replace k2 := k2.step hb
     replace k6 := k6.step hb
     replace k7 := k7.step hb
     replace R8 := Rp.house.below R8 hb nle
     replace A8 := Rp.ans.below A8 hb nle
     replace k8 := k8.step hb
     replace k9 := k9.step hb
     replace k10 := k10.step hb
     replace k11 := k11.step hb
     replace RGm := Rp.house.below RGm hb nle
     replace AGm := Rp.ans.below AGm hb nle
     replace k15 := k15.step hb
     replace k16 := k16.step hb
     replace RT := Rp.house.below RT hb nle
     replace AT := Rp.ans.below AT hb nle
     have hsz := hb.size
     clear hb
     have a0 := Blk.c0 k15
     have a1 := Blk.c1 k15
     have a2 := Blk.c2 k15
     have b0 := Blk.c0 k6
     have b1 := Blk.c1 k6
     have b2 := Blk.c2 k6
     have c0 := Blk.c0 k16
     have c1 := Blk.c1 k16
     have c2 := Blk.c2 k16
     have c3 := Blk.c3 k16
     have d0 := Blk.c0 k7
     have d1 := Blk.c1 k7
     have d2 := Blk.c2 k7
     have d3 := Blk.c3 k7
     clear a0 a1 a2 b0 b1 b2
     go_wp2_with fail
     refine (eqAns_any (x := o.2) (y := o.2) _ AT A8).mono ?_
     rintro e w37 ⟨rfl, hb⟩
     rw [decide_eq_true (rfl : o.2 = o.2)]
     clear c0 c1 c2 c3 d0 d1 d2 d3
     replace HB := Below.t HB hb
     replace k1 := k1.step hb
     replace k2 := k2.step hb
     replace k6 := k6.step hb
     replace k7 := k7.step hb
     replace R8 := Rp.house.below R8 hb nle
     replace A8 := Rp.ans.below A8 hb nle
     replace k8 := k8.step hb
     replace k9 := k9.step hb
     replace k10 := k10.step hb
     replace k11 := k11.step hb
     replace RGm := Rp.house.below RGm hb nle
     replace AGm := Rp.ans.below AGm hb nle
     replace k15 := k15.step hb
     replace k16 := k16.step hb
     replace RT := Rp.house.below RT hb nle
     replace AT := Rp.ans.below AT hb nle
     have hsz := hb.size
     clear hb
     have u0 := Blk.c0 k10
     have u1 := Blk.c1 k10
     have u2 := Blk.c2 k10
     go_wp2_with fail
     refine (heldHouse_any (x := o.1) 1 _ RGm (by omega) (by have := HCO.out.1; omega)).mono ?_
     rintro e w38 ⟨rfl, hb⟩
     clear u0 u1 u2
     replace HB := Below.t HB hb
     replace k1 := k1.step hb
     replace k2 := k2.step hb
     replace k6 := k6.step hb
     replace k7 := k7.step hb
     replace R8 := Rp.house.below R8 hb nle
     replace A8 := Rp.ans.below A8 hb nle
     replace k8 := k8.step hb
     replace k9 := k9.step hb
     replace k10 := k10.step hb
     replace k11 := k11.step hb
     replace RGm := Rp.house.below RGm hb nle
     replace AGm := Rp.ans.below AGm hb nle
     replace k15 := k15.step hb
     replace k16 := k16.step hb
     replace RT := Rp.house.below RT hb nle
     replace AT := Rp.ans.below AT hb nle
     have hsz := hb.size
     clear hb
     have hn1 := HX3.out.1
     have u0 := Blk.c0 k11
     have u1 := Blk.c1 k11
     have u2 := Blk.c2 k11
     have u3 := Blk.c3 k11
     go_wp2_with fail
     refine (heldAns_any (x := o.2) _ _ AGm (by omega) (by have := HCO.out; omega)).mono ?_
     rintro e w39 ⟨rfl, hb⟩
     clear u0 u1 u2 u3
     clear hn1
     replace HB := Below.t HB hb
     replace k1 := k1.step hb
     replace k2 := k2.step hb
     replace k6 := k6.step hb
     replace k7 := k7.step hb
     replace R8 := Rp.house.below R8 hb nle
     replace A8 := Rp.ans.below A8 hb nle
     replace k8 := k8.step hb
     replace k9 := k9.step hb
     replace k10 := k10.step hb
     replace k11 := k11.step hb
     replace RGm := Rp.house.below RGm hb nle
     replace AGm := Rp.ans.below AGm hb nle
     replace k15 := k15.step hb
     replace k16 := k16.step hb
     replace RT := Rp.house.below RT hb nle
     replace AT := Rp.ans.below AT hb nle
     have hsz := hb.size
     clear hb
     have hn2 := HX3.out.2
     have hne2 := HX2.out
     go_wp2
     go_ret
     exact ⟨rfl, HB⟩
end Go.Proofs.YtnogkkcmcnhodaaGreatDoor
