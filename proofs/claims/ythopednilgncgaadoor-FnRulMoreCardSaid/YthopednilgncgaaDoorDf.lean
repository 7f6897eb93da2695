/- Walks: slices.DeleteFunc at rules; a rule is taken away, of the program. -/
import Derived.Test.YthopednilgncgaaDoorRi
import Derived.Lib.SliceRun
namespace Go.Proofs.YthopednilgncgaaDoor
open Go.RowKit
attribute [local go_sem ↓] Go.wp_at_zero Go.wp_at_succ

theorem setCells_puts (b : Nat) : ∀ (vs : List Value) (o : Nat) (w : World), w.setCells b o vs = puts w b o vs
  | [], _, _ => rfl
  | v :: vs, o, w => setCells_puts b vs (o + 1) (w.setCell ⟨b, o, none⟩ v)
theorem zeroCells_eq (z : Array Value) (k : Nat) (hk : z.size = k) (n : Nat) : (Builtin.zeroCells z n).toList = (List.replicate n z.toList).flatten := by
  rw [← made_flatten z k hk n]
  simp [Builtin.zeroCells, madeCells, hk]

/-- clear of a slice of elements of several cells. -/
theorem run_clear {P : Program} (w : World) (t e ty : TypeId) (z : Value) (k : Nat) (ht : P.underlying t = some (.slice e)) (hv : ∀ w, (zeroValue e).run P w = .ok z w) (hz : z.cells.size = k) (h1 : ∀ v ∈ z.cells.toList, v.oneCell' = true) (b o n c : Nat)
    (hc : ∀ j, j < n * k → (w.cell? ⟨b, o + j, none⟩).isSome = true) (hf : ∀ j, j < n * k → w.frozen? ⟨b, o + j, none⟩ = false) :
    (Builtin.clear_ #[t] ty #[.slice (some ⟨b, o, none⟩) n c]).run P w = .ok (.tuple #[]) (puts w b o (List.replicate n z.cells.toList).flatten) := by
  have hl : (List.replicate n z.cells.toList).flatten.length = n * k := by simp [hz]
  have hst := run_storeCells_cells (P := P) b o (List.replicate n z.cells.toList).flatten 0 w (by rw [hl]; simpa using hc) (by rw [hl]; simpa using hf) (by
    intro v hv'
    obtain ⟨l, hl', hm⟩ := List.mem_flatten.1 hv'
    rw [List.eq_of_mem_replicate hl'] at hm
    exact h1 v hm)
  simp only [Nat.add_zero] at hst
  rw [setCells_puts] at hst
  cases n with
  | zero => simp [Builtin.clear_, run_underlying ht, puts]
  | succ m =>
    have hzc := zeroCells_eq z.cells k hz (m + 1)
    simp [Builtin.clear_, run_underlying ht, hv, hzc, hst]
theorem puts_cell_lt {b : Nat} : ∀ {vs : List Value} {o : Nat} {w : World} {x : Nat}, x < o → (puts w b o vs).cell? ⟨b, x, none⟩ = w.cell? ⟨b, x, none⟩
  | [], _, _, _, _ => rfl
  | v :: vs, o, w, x, h => (puts_cell_lt (vs := vs) (by omega)).trans (World.cell?_setCell_other _ _ _ _ (by simp only [ne_eq, Addr.mk.injEq]; omega))
theorem puts_only {b : Nat} {fp : List Nat} (hb : b ∈ fp) : ∀ {vs : List Value} {o : Nat} {w : World}, Only fp w (puts w b o vs)
  | [], _, _ => Only.refl _ _
  | v :: vs, o, w => ((Only.refl fp w).setCell (p := ⟨b, o, none⟩) (.inl hb) v).trans (puts_only hb)
section
variable {α : Type} {k : Nat} {enc : α → List Value} {hk : ∀ x, (enc x).length = k} {h1 : ∀ x, ∀ u ∈ enc x, u.oneCell' = true} {w : World} {A : Option Addr} {n c b o : Nat} {l : List α} {fp : List Nat}
theorem SlR.cell_some {α : Type} {r : Rp α} {l : List α} (h : SlR r w A n c l fp) (hA : A = some ⟨b, o, none⟩) {j : Nat} (hj : j < l.length * r.k) : ∃ u, w.cell? ⟨b, o + j, none⟩ = some u := by
  obtain ⟨hn, h1, h2, xs, f0, f1, hs, ha, hf⟩ := h
  have hl := hs.1
  rcases hs.2 with ⟨h0, _⟩ | ⟨hn0, b', o', hA', hf0, hb, hc⟩
  · rw [← hn, h0] at hj; omega
  · rw [hA] at hA'
    cases hA'
    have hjx : j < xs.length := by rw [hl, hn]; exact hj
    exact ⟨xs[j], hc j _ (List.getElem?_eq_getElem hjx)⟩
theorem SlR.cut_puts (h : SlR (Rp.flat k enc hk h1) w A n c l fp) (hA : A = some ⟨b, o, none⟩) {i : Nat} (hi : i ≤ l.length) (vs : List Value) : ∃ f, SlR (Rp.flat k enc hk h1) (puts w b (o + i * k) vs) A i c (l.take i) f ∧ ∀ x ∈ f, x ∈ fp := by
  obtain ⟨f, hs, hsub⟩ := h.take hi
  refine ⟨f, ?_, hsub⟩
  obtain ⟨hn, g1, g2, xs, f0, f1, hsl, ha, hf⟩ := hs
  obtain ⟨e1, e2⟩ := AllR.flat.1 ha
  have hl := hsl.1
  refine ⟨hn, g1, g2, xs, f0, f1, ⟨hl, ?_⟩, AllR.flat.2 ⟨e1, e2⟩, hf⟩
  rcases hsl.2 with h0 | ⟨hn0, b', o', hA', hf0, hb, hc⟩
  · exact .inl h0
  · rw [hA] at hA'
    cases hA'
    refine .inr ⟨hn0, b, o, hA, hf0, by rw [puts_size]; exact hb, fun j u hu => ?_⟩
    have hj := (List.getElem?_eq_some_iff.1 hu).1
    rw [hl] at hj
    rw [puts_cell_lt (by have : (Rp.flat k enc hk h1).k = k := rfl; rw [this] at hj; omega)]
    exact hc j u hu
end

/-- Where the deletion stands: i kept, j looked at. -/
structure DelRel (p : Rule → Bool) (l : List Rule) (w : World) (A : Option Addr) (c : Nat) (fp : List Nat) (i j : Nat) (dk : List Rule) (wr : World) : Prop where
  lt : i < j
  le : j ≤ l.length
  sl : SlR Rp.rule wr A l.length c dk fp
  kept : dk.take i = (l.take j).filter fun x => !p x
  rest : ∀ t, j ≤ t → dk[t]? = l[t]?
  only : Only fp w wr
  free : Free wr fp
section
variable {p : Rule → Bool} {l : List Rule} {w : World} {A : Option Addr} {c : Nat} {fp : List Nat} {i j : Nat} {dk : List Rule} {wr w1 : World}
theorem DelRel.len (h : DelRel p l w A c fp i j dk wr) : dk.length = l.length := h.sl.1.symm
theorem DelRel.step (h : DelRel p l w A c fp i j dk wr) (hb : Below wr.heap.size wr w1) : DelRel p l w A c fp i j dk w1 :=
  ⟨h.lt, h.le, h.sl.step hb, h.kept, h.rest, h.only.then_below hb, h.free.step hb⟩
theorem DelRel.skip (h : DelRel p l w A c fp i j dk wr) (hj : j < l.length) (hp : p l[j] = true) : DelRel p l w A c fp i (j + 1) dk wr :=
  ⟨by have := h.lt; omega, hj, h.sl, by rw [h.kept, List.take_succ_eq_append_getElem hj, List.filter_append]; simp [hp], fun t ht => h.rest t (by omega), h.only, h.free⟩
theorem DelRel.at_ (h : DelRel p l w A c fp i j dk wr) (hj : j < l.length) (hd : j < dk.length) : dk[j] = l[j] := by
  have := h.rest j (Nat.le_refl _)
  rw [List.getElem?_eq_getElem hj, List.getElem?_eq_getElem hd] at this
  exact Option.some.inj this
theorem DelRel.keep (h : DelRel p l w A c fp i j dk wr) (hj : j < l.length) (hp : p l[j] = false) {w' : World} (hs : SlR Rp.rule w' A l.length c (dk.set i l[j]) fp) (ho : Only fp w w') (hf : Free w' fp) : DelRel p l w A c fp (i + 1) (j + 1) (dk.set i l[j]) w' := by
  have hl := h.len
  have hi := h.lt
  refine ⟨by omega, hj, hs, ?_, fun t ht => ?_, ho, hf⟩
  · have hlt : i < (dk.set i l[j]).length := by simp; omega
    rw [List.take_succ_eq_append_getElem hlt, List.take_set_of_le (Nat.le_refl _), h.kept, List.take_succ_eq_append_getElem hj, List.filter_append]
    simp [hp]
  · rw [List.getElem?_set_ne (by omega)]
    exact h.rest t (by omega)
end

set_option maxHeartbeats 4000000 in
set_option maxRecDepth 20000 in
theorem delRule_any {A : Option Addr} {n c : Nat} {l : List Rule} {fp : List Nat} (p : Rule → Bool) (g : Nat) (lb : Array Value) (eg : ∀ args w, (callFunc g args).run Tryd.prog w = .ok (.enter g args) w) (w : World) (hx : SlR Rp.rule w A n c l fp) (hn : fp.Nodup) (hf : Free w fp)
    (hp : ∀ (x : Rule) (w1 : World), Only fp w w1 → Calls Tryd.prog g (#[.agg (encRule x).toArray] ++ lb) w1 fun e w2 => e = .returned (.bool (p x)) ∧ Below w1.heap.size w1 w2) :
    Calls Tryd.prog 44 #[.slice A n c, .func (.func g) #[] lb] w fun e w' =>
      ∃ m fp', e = .returned (.slice A m c) ∧ SlR Rp.rule w' A m c (l.filter fun x => !p x) fp' ∧ (∀ b ∈ fp', b ∈ fp) ∧ Only fp w w' := by
  obtain ⟨rfl, hcx, hmx, _⟩ := id hx
  unfold maxLen at hmx
  have HP := hide hp
  have HX := hide hx
  have HN := hide hn
  have HF := hide hf
  have HI := hide (idxRule_any p g lb eg w hx fun i hi cs fq w1 hB hR => by
    obtain ⟨rfl, rfl⟩ := hR
    exact HP.out l[i] w1 (Only.of_below hB fp))
  clear hp hx hn hf
  go_enter Tryd.func44, Tryd.ntmps44
  cases hd : l.findIdx? p with
  | none =>
    have e1 : idxP p l = -1 := by unfold idxP; rw [hd]
    have HK := hide (show (l.filter fun x => !p x) = l from List.filter_eq_self.2 fun x hx => by simpa using List.findIdx?_eq_none_iff.1 hd x hx)
    rw [e1] at HI
    clear hd e1
    go_wp2_with fail
    refine HI.out.mono ?_
    rintro e w1 ⟨rfl, hb1⟩
    go_wp2
    go_ret
    refine ⟨l.length, fp, rfl, ?_, fun b hb => hb, Only.of_below hb1 fp⟩
    rw [HK.out]
    exact HX.out.step hb1
  | some k0 =>
    obtain ⟨hk0, hpk, hbef⟩ := List.findIdx?_eq_some_iff_getElem.1 hd
    have e1 : idxP p l = k0 := by unfold idxP; rw [hd]
    have HS := hide (show l.take k0 = (l.take (k0 + 1)).filter fun x => !p x by
      rw [List.take_succ_eq_append_getElem hk0, List.filter_append]
      simp only [List.filter_cons, hpk, Bool.not_true, List.filter_nil]
      rw [List.filter_eq_self.2 fun x hx => by
        obtain ⟨i, hi, rfl⟩ := List.mem_take_iff_getElem.1 hx
        simpa using hbef i (by omega)]
      simp)
    rw [e1] at HI
    clear hd e1 hpk hbef
    go_wp2_with fail
    refine HI.out.mono ?_
    rintro e w1 ⟨rfl, hb1⟩
    have HR := hide (show DelRel p l w A c fp k0 (k0 + 1) l w1 from ⟨by omega, by omega, HX.out.step hb1, HS.out, fun _ _ => rfl, Only.of_below hb1 fp, HF.out.step hb1⟩)
    have hk1 : ((k0 : Int) == -1) = false := by simp
    clear hb1 HI HS HF
    go_wp2
    go_loopw [5, 6] (fun iv jv wr => ∃ (i j : Nat) (dk : List Rule), iv = .int .i64 (i : Int) ∧ jv = .int .i64 (j : Int) ∧ DelRel p l w A c fp i j dk wr) (fun _ jv _ => l.length - (intOf jv).toNat)
    case atStart => exact ⟨k0, k0 + 1, l, rfl, by go_num, HR.out⟩
    case round =>
      obtain ⟨i, j, dk, rfl, rfl, hrel⟩ := hrel
      have hij := hrel.lt
      have hjl := hrel.le
      have hdl := hrel.len
      have HD := hide hrel
      clear hrel HR hk1
      by_cases hlt : j < l.length
      · have hlt' : j < dk.length := by omega
        obtain ⟨b, o, rfl, hb, hm, h0, h1, h2, h3⟩ := rule_cells HD.out.sl (by omega : j < dk.length)
        rw [HD.out.at_ hlt hlt'] at h0 h1 h2 h3
        have hcall := HP.out l[j] (wr.alloc (.cells (encRule l[j]).toArray 25)) (HD.out.only.alloc _)
        unfold encRule at hcall
        have HC := hide hcall
        clear hcall
        have kb := Blk.new wr 25 (encRule l[j]).toArray
        have hbA := (Below.refl wr.heap.size wr).alloc (Nat.le_refl _) (.cells (encRule l[j]).toArray 25)
        go_wp2_with fail
        refine HC.out.mono ?_
        rintro e w2 ⟨rfl, hb2⟩
        replace kb := kb.step hb2
        have HD2 := hide ((HD.out.step hbA).step hb2)
        have q0 : w2.cell? ⟨wr.heap.size, 0, none⟩ = some (.int .i64 l[j].user) := kb.cell 0
        have q1 : w2.cell? ⟨wr.heap.size, 1, none⟩ = some (.string l[j].ref) := kb.cell 1
        have q2 : w2.cell? ⟨wr.heap.size, 2, none⟩ = some (.string l[j].path) := kb.cell 2
        have q3 : w2.cell? ⟨wr.heap.size, 3, none⟩ = some (.bool l[j].write) := kb.cell 3
        clear hb2 hbA kb h0 h1 h2 h3 HC HD
        cases hd : p l[j]
        · obtain ⟨b', o', cs, f, hA, hfn, ⟨rfl, rfl⟩, hE, hcl⟩ := HD2.out.sl.elem HN.out HD2.out.free (i := i) (by omega)
          cases hA
          have c0 := hE.cells.at0
          have c1 := hE.cells.tail.at0
          have c2 := hE.cells.tail.tail.at0
          have c3 := hE.cells.tail.tail.tail.at0
          have z0 := hE.frozen (o + i * 4)
          have z1 := hE.frozen (o + i * 4 + 1)
          have z2 := hE.frozen (o + i * 4 + 1 + 1)
          have z3 := hE.frozen (o + i * 4 + 1 + 1 + 1)
          have i0 : (i : Int) < (l.length : Int) := by omega
          simp only [show Rp.rule.k = 4 from rfl] at c0 c1 c2 c3
          have HE := hide hE
          have HCL := hide hcl
          have HQ := hide hd
          clear hE hcl hd
          have HS := hide (HCL.out _ (encRule l[j]) l[j] (HE.out.puts (vs := encRule l[j]) rfl) ⟨rfl, rfl⟩)
          have HO := hide (HD2.out.only.then_only (HE.out.puts (vs := encRule l[j]) rfl).only fun _ hx => .inl hx)
          have HM := hide (HD2.out.keep hlt HQ.out HS.out HO.out (HE.out.puts (vs := encRule l[j]) rfl).free)
          clear HS HO HCL
          go_wp2
          exact ⟨⟨i + 1, j + 1, dk.set i l[j], by go_num, by go_num, HM.out⟩, by simp [intOf]; omega⟩
        · have HM := hide (HD2.out.skip hlt hd)
          clear hd q0 q1 q2 q3
          go_wp2
          exact ⟨⟨i, j + 1, dk, rfl, by go_num, HM.out⟩, by simp [intOf]; omega⟩
      · have hj : j = l.length := by omega
        subst hj
        have hil : i < dk.length := by omega
        obtain ⟨b, o, rfl, hb, hm, _⟩ := rule_cells HD.out.sl hil
        have hcl : ∀ ty, (Builtin.clear_ #[23] ty #[.slice (some ⟨b, o + i * 4, none⟩) (l.length - i) (c - i)]).run Tryd.prog wr = .ok (.tuple #[]) (puts wr b (o + i * 4) (List.replicate (l.length - i) [.int .i64 0, .string ByteArray.empty, .string ByteArray.empty, .bool false]).flatten) := fun ty =>
          run_clear (P := Tryd.prog) wr 23 25 ty (.agg #[.int .i64 0, .string ByteArray.empty, .string ByteArray.empty, .bool false]) 4 Tryd.underlying23 (fun w => by kernel_rfl) rfl (by intro v hv; simp [Value.cells] at hv; rcases hv with rfl | rfl | rfl | rfl <;> rfl) b (o + i * 4) _ _
            (fun t ht => by
              obtain ⟨u, hu⟩ := HD.out.sl.cell_some rfl (j := i * 4 + t) (by simp only [show Rp.rule.k = 4 from rfl]; omega)
              rw [show o + i * 4 + t = o + (i * 4 + t) by omega, hu]; rfl)
            (fun t _ => HD.out.free.frozen hm _)
        have i1 : (i : Int) ≤ (l.length : Int) := by omega
        have i2 : (i : Int) ≤ (c : Int) := by omega
        go_wp2
        go_ret
        obtain ⟨fp', h1, h2⟩ := HD.out.sl.cut_puts rfl (i := i) (by omega) (List.replicate (l.length - i) [.int .i64 0, .string ByteArray.empty, .string ByteArray.empty, .bool false]).flatten
        refine ⟨i, fp', rfl, ?_, h2, HD.out.only.then_only (puts_only hm) fun _ hx => .inl hx⟩
        have hk := HD.out.kept
        rw [List.take_length] at hk
        rw [← hk]
        exact h1
end Go.Proofs.YthopednilgncgaaDoor
