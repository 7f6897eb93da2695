/- append of a whole slice onto one that the call owns; what a clone hands back. -/
import Derived.Test.YthopednilgncgaaDoorBase
import Derived.Laws.AppendOwnNone
namespace Go.Proofs.YthopednilgncgaaDoor
open Go.RowKit

theorem run_append_none_any {P : Program} {w : World} (base : Nat) (t ty e : TypeId) (i : TypeInfo) (size : Nat) (ht : P.underlying t = some (.slice e)) (hi : P.info? e = some i)
    (v : Value) (n : Nat) (xs : List Value) (hown : w.ownsRow base e size v n xs) (c : Nat) :
    (Builtin.append_ #[t, t] ty #[v, .slice none 0 c]).run P w = .ok v w := by
  rcases hown.2 with ⟨rfl, rfl⟩ | ⟨g, cap, cur, rfl, _, _, hnc, _⟩
  · simp [Builtin.append_, run_underlying ht, sizeOf, typeInfo, hi, Builtin.lenOf, Builtin.firstCells]
  · simp [Builtin.append_, run_underlying ht, sizeOf, typeInfo, hi, Builtin.lenOf, Builtin.firstCells, hnc, storeCells]

theorem World.grownBy.same (w : World) (g : Option Nat) : w.grownBy w g := ⟨rfl, rfl, rfl, Nat.le_refl _, fun _ _ _ => rfl⟩

theorem wpList_append_all {α : Type} {r : Rp α} {P : Program} {w : World} {ops : Array Oper} {rest : List Oper} {o : Oper} {a : Act} {Q : Exit → Act → World → Prop} (hgd : o.guard = none) (s x : Operand) (t : TypeId)
    (ho : o.op = .call { callee := .builtin .append, args := #[s, x], argTypes := #[t, t] })
    (base : Nat) (e : TypeId) (i : TypeInfo) (z : Value) (bytes : Nat) (ht : P.underlying t = some (.slice e)) (hi : P.info? e = some i) (hz : i.zero = some z)
    (hsize : i.size = r.k) (hby : i.bytes = bytes) (hzs : z.cells.size = r.k) (hsz : 0 < r.k)
    (v : Value) (n : Nat) (xs : List Value) (hs : a.eval s = v) (hown : w.ownsRow base e r.k v n xs)
    {A : Option Addr} {m c : Nat} {l : List α} {fp : List Nat} (hx : a.eval x = .slice A m c) (hS : SlR r w A m c l fp)
    (h63 : n + m ≤ maxLen) (hbytes : (n + m) * bytes ≤ 140737488355328) (hbase : base ≤ w.heap.size)
    (h : ∀ v' w' zs f1, AllR r w zs l f1 → (∀ b ∈ f1, b ∈ fp) → w'.ownsRow base e r.k v' (n + m) (xs ++ zs) → w.grownBy w' v.ownBlock → wpList P ops Q rest (a.put o.dst v') w') : wpList P ops Q (o :: rest) a w := by
  obtain ⟨hm, hmc, hcx, zs, f0, f1, hsl, hal, hf⟩ := hS
  have hsub : ∀ b ∈ f1, b ∈ fp := fun b hb => by rw [hf]; exact List.mem_append_right _ hb
  cases A with
  | none =>
    rcases hsl.2 with ⟨rfl, _⟩ | ⟨_, b, o', hA, _⟩
    · have hz0 : zs = [] := List.eq_nil_of_length_eq_zero (by simpa using hsl.1)
      refine wpList_plain hgd fun K hK => ?_
      have hrun := run_append_none_any (P := P) (w := w) base t o.type e i r.k ht hi v n xs hown c
      unfold Oper.wp
      simp [execOp, ho, resolve, invoke, builtin, hs, hx, hrun, Result.andThen]
      refine hK _ _ (h v w zs f1 hal hsub ?_ (World.grownBy.same _ _))
      rw [hz0, List.append_nil]
      exact hown
    · cases hA
  | some ad =>
    refine wpList_append_own w hgd s x t ho base e i z r.k bytes ht hi hz hsize hby hzs hsz v n xs hs hown ad m c zs hx hsl.1 (fun j u hu => ?_) hal.one h63 hbytes hbase fun v' w' h1 h2 _ => h v' w' zs f1 hal hsub h1 h2
    rcases hsl.2 with ⟨rfl, _⟩ | ⟨_, b, o', hA, _, _, hc⟩
    · have hz0 : zs = [] := List.eq_nil_of_length_eq_zero (by simpa using hsl.1)
      rw [hz0] at hu; cases hu
    · cases hA
      rw [Addr.add_lit]
      exact hc j u hu

theorem AllR.cut {α : Type} {r : Rp α} {w : World} : ∀ {l : List α} {xs : List Value} {fp : List Nat} (k : Nat), AllR r w xs l fp → k ≤ l.length →
    ∃ c0 c1 f0 f1, xs = c0 ++ c1 ∧ fp = f0 ++ f1 ∧ c0.length = k * r.k ∧ AllR r w c0 (l.take k) f0 ∧ AllR r w c1 (l.drop k) f1
  | l, xs, fp, 0, h, _ => ⟨[], xs, [], fp, rfl, rfl, by simp, ⟨rfl, rfl⟩, h⟩
  | [], _, _, k + 1, _, hk => by simp at hk
  | x :: l, xs, fp, k + 1, ⟨c1, c2, f1, f2, h, hf, h1, h2⟩, hk => by
    obtain ⟨d0, d1, g0, g1, e1, e2, e3, e4, e5⟩ := AllR.cut k h2 (by simpa using hk)
    refine ⟨c1 ++ d0, d1, f1 ++ g0, g1, by rw [h, e1, List.append_assoc], by rw [hf, e2, List.append_assoc], ?_, ⟨c1, d0, f1, g0, rfl, rfl, h1, e4⟩, e5⟩
    rw [List.length_append, r.len h1, e3, Nat.add_mul, Nat.one_mul, Nat.add_comm]

theorem SlR.take {α : Type} {r : Rp α} {w : World} {A : Option Addr} {n c : Nat} {l : List α} {fp : List Nat} (h : SlR r w A n c l fp) {k : Nat} (hk : k ≤ l.length) :
    ∃ f, SlR r w A k c (l.take k) f ∧ ∀ b ∈ f, b ∈ fp := by
  obtain ⟨hn, h1, h2, xs, f0, f1, hs, ha, hf⟩ := h
  obtain ⟨c0, c1, g0, g1, e1, e2, e3, e4, e5⟩ := ha.cut k hk
  have hl : k = (l.take k).length := by simp; omega
  rcases hs.2 with ⟨h0, hf0⟩ | ⟨hn0, b, o, hA, hf0, hb, hc⟩
  · have : k = 0 := by omega
    subst this
    exact ⟨g0, ⟨by simp, Nat.zero_le _, h2, c0, [], g0, ⟨by simpa using e3, .inl ⟨rfl, rfl⟩⟩, e4, rfl⟩, fun b hb => by rw [hf, e2]; simp [hb]⟩
  · by_cases h0 : k = 0
    · subst h0
      exact ⟨g0, ⟨by simp, Nat.zero_le _, h2, c0, [], g0, ⟨by simpa using e3, .inl ⟨rfl, rfl⟩⟩, e4, rfl⟩, fun b hb => by rw [hf, e2]; simp [hb]⟩
    · refine ⟨[b] ++ g0, ⟨hl, by omega, h2, c0, [b], g0, ⟨e3, .inr ⟨by omega, b, o, hA, rfl, hb, ?_⟩⟩, e4, rfl⟩, fun x hx => ?_⟩
      · rw [e1] at hc
        exact hc.left
      · rw [hf, e2, hf0]
        simp at hx ⊢
        rcases hx with rfl | hx
        · simp
        · simp [hx]

/-- What a call hands back that makes a slice of flat things anew by append: it owns its row. -/
def OwnF {α : Type} (t : TypeId) (k : Nat) (enc : α → List Value) (w : World) (l : List α) (e : Ending) (w' : World) : Prop :=
  ∃ v, e = .returned v ∧ w'.ownsRow w.heap.size t k v l.length (l.flatMap enc) ∧ Below w.heap.size w w'
theorem OwnF.fresh {α : Type} {t : TypeId} {k : Nat} {enc : α → List Value} {hk : ∀ x, (enc x).length = k} {h1 : ∀ x, ∀ u ∈ enc x, u.oneCell' = true} {w : World} {l : List α} {e : Ending} {w' : World}
    (h : OwnF t k enc w l e w') : FreshS (Rp.flat k enc hk h1) w l e w' := by
  obtain ⟨v, rfl, ho, hb⟩ := h
  exact FreshS.of_owns_flat ho hb
end Go.Proofs.YthopednilgncgaaDoor
