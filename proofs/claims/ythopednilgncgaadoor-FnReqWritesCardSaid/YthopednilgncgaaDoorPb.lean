/- Walks: paths; of the reference and of the program. -/
import Derived.Test.YthopednilgncgaaDoorPa
namespace Go.Proofs.YthopednilgncgaaDoor
open Go.RowKit
attribute [local go_sem ↓] Go.wp_at_zero Go.wp_at_succ

theorem isEmpty_eq (s : ByteArray) : s.toList.isEmpty = decide (s = ByteArray.empty) := by
  rw [← beq_toListBytes', ByteArray.toList_eq, ByteArray.toList_eq]
  cases s.data.toList <;> rfl

theorem names_any (s : ByteArray) (hs : s.size ≤ 4194304) (w : World) :
    Calls Tryd.prog 89 #[.string s] w (FreshS Rp.str w (if s = ByteArray.empty then [] else cutB 47 s)) := by
  go_enter Tryd.func89, Tryd.ntmps89
  by_cases h0 : s = ByteArray.empty
  · subst h0
    go_wp2
    go_ret
    exact ⟨none, 0, 0, [], rfl, SlR.nil, by simp, by simp, Free.nil _, Below.refl _ _⟩
  · have hd : s.toList.isEmpty = false := by rw [isEmpty_eq]; exact decide_eq_false h0
    have H0 := hide h0
    clear h0
    go_wp2_with fail
    refine (split_any 47 s hs _).mono ?_
    rintro e w1 ⟨A, n, cc, f, rfl, hS, hR⟩
    go_wp2
    go_ret
    exact ⟨A, n, cc, f, rfl, hS, hR⟩

/-- The first k names are fine. -/
def namTo (l : List ByteArray) (k : Nat) : Prop := (l.take k).all namOk = true
theorem namTo_succ {l : List ByteArray} {k : Nat} (h : namTo l k) (hk : k < l.length) (h1 : namOk l[k] = true) : namTo l (k + 1) := by
  unfold namTo at *
  rw [List.take_succ_eq_append_getElem hk, List.all_append, h]
  simp [h1]
theorem namTo_not {l : List ByteArray} {k : Nat} (hk : k < l.length) (h1 : namOk l[k] = false) : l.all namOk = false := by
  rw [List.all_eq_false]
  exact ⟨l[k], List.getElem_mem hk, by simp [h1]⟩
theorem namTo_all {l : List ByteArray} (h : namTo l l.length) : l.all namOk = true := by
  unfold namTo at h
  rwa [List.take_of_length_le (Nat.le_refl _)] at h
theorem pthOk_eq (s : ByteArray) : pthOk s = ((if s = ByteArray.empty then [] else cutB 47 s).all namOk && decide ((if s = ByteArray.empty then [] else cutB 47 s).length ≤ 3)) := by
  by_cases h : s = ByteArray.empty
  · simp [pthOk, h]
  · simp [pthOk, h]

set_option maxHeartbeats 1000000 in
theorem implPthOk_any (s : ByteArray) (hs : s.size ≤ 4194304) (w : World) :
    Calls Tryd.prog 60 #[.string s] w fun e w' => e = .returned (.bool (pthOk s)) ∧ Below w.heap.size w w' := by
  have HE := hide (pthOk_eq s)
  have hpart : ∀ x ∈ (if s = ByteArray.empty then [] else cutB 47 s), x.size ≤ 4194304 := fun x hx => by
    split at hx
    · simp at hx
    · exact Nat.le_trans (cutB_part 47 s x hx) hs
  go_enter Tryd.func60, Tryd.ntmps60
  go_wp2_with fail
  refine (names_any s hs _).mono ?_
  generalize (if s = ByteArray.empty then [] else cutB 47 s) = l at HE hpart ⊢
  rintro e w1 ⟨A, n, cc, f, rfl, hS, _, _, _, hb1⟩
  obtain ⟨rfl, hcx, hmx, _⟩ := id hS
  unfold maxLen at hmx
  go_wp2
  go_loopw [10] (fun i wr => ∃ k : Nat, k ≤ l.length ∧ i = .int .i64 k ∧ namTo l k ∧ Below w1.heap.size w1 wr) (fun i _ => l.length - (intOf i).toNat)
  case atStart => exact ⟨0, Nat.zero_le _, rfl, rfl, Below.refl _ _⟩
  case round =>
    obtain ⟨k, hk, rfl, hag, hbl⟩ := hrel
    have HA := hide hag
    clear hag
    by_cases hlt : k < l.length
    · obtain ⟨b, o, rfl, hb, _, h0⟩ := str_cells (hS.step hbl) hlt
      go_wp2_with fail
      refine (implNamOk_any l[k] (hpart _ (List.getElem_mem hlt)) _).mono ?_
      rintro e w2 ⟨rfl, hb2⟩
      have HB := hide (Below.then_ hbl hb2)
      clear hb2
      cases hd : namOk l[k]
      · have HN := hide (namTo_not hlt hd)
        clear hd
        go_wp2
        go_ret
        exact ⟨ret_bool (by rw [HE.out, HN.out]; rfl), Below.then_ hb1 HB.out⟩
      · have HN := hide (namTo_succ HA.out hlt hd)
        clear hd
        go_wp2
        refine ⟨⟨k + 1, by omega, by go_num, HN.out, HB.out⟩, by simp [intOf]; omega⟩
    · have hk' : k = l.length := by omega
      subst hk'
      go_wp2
      go_ret
      exact ⟨ret_bool (by rw [HE.out, namTo_all HA.out, Bool.true_and]; exact decide_eq_decide.2 (by omega)), Below.then_ hb1 hbl⟩

/-! The reference's cut. -/
def CutRel (s : ByteArray) (w : World) (k : Nat) (v word : Value) (wr : World) : Prop :=
  ∃ (o : List (List UInt8)) (x : List UInt8), word = .string ⟨x.toArray⟩ ∧ cutL 47 (s.data.toList.take k) = o ++ [x] ∧ wr.ownsRow w.heap.size 9 1 v o.length (o.flatMap fun l => [.string ⟨l.toArray⟩]) ∧ Below w.heap.size w wr
theorem Tryd.infoStr : (Tryd.prog.info? 9).map (fun i => (i.zero, i.size, i.bytes)) = some (some (.string ByteArray.empty), 1, 16) := by kernel_rfl

theorem cut_bound {s : ByteArray} {k : Nat} {o : List (List UInt8)} {x : List UInt8} (h : cutL 47 (s.data.toList.take k) = o ++ [x]) : o.length ≤ s.size ∧ x.length ≤ s.size := by
  have h1 := cutL_size 47 (s.data.toList.take k)
  rw [h] at h1
  have h2 := Lib.size_eq s
  simp at h1
  omega
theorem cut_next {s : ByteArray} {k : Nat} {o : List (List UInt8)} {x : List UInt8} (h : cutL 47 (s.data.toList.take k) = o ++ [x]) (hk : k < s.size) :
    cutL 47 (s.data.toList.take (k + 1)) = if s[k] = 47 then o ++ [x] ++ [[]] else o ++ [x ++ [s[k]]] := by
  have hk' : k < s.data.toList.length := by rw [← Lib.size_eq]; exact hk
  rw [List.take_succ_eq_append_getElem hk', byte_at hk hk']
  exact cutL_snoc 47 _ _ _ _ h
theorem cut_end {s : ByteArray} {o : List (List UInt8)} {x : List UInt8} (h : cutL 47 (s.data.toList.take s.size) = o ++ [x]) : cutB 47 s = (o ++ [x]).map fun l => ⟨l.toArray⟩ := by
  rw [List.take_of_length_le (by rw [Lib.size_eq]; exact Nat.le_refl _)] at h
  unfold cutB
  rw [h]

set_option maxHeartbeats 1000000 in
set_option maxRecDepth 20000 in
theorem l1Cut_any (s : ByteArray) (hs : s.size ≤ 4194304) (w : World) :
    Calls Tryd.prog 91 #[.string s] w (FreshS Rp.str w (cutB 47 s)) := by
  have hcv := run_oneByte (P := Tryd.prog) (dst := 9) Tryd.underlying22 Tryd.underlying5 Tryd.underlying9
  obtain ⟨i0, hi, hz0, hz1, hz2⟩ := info_parts Tryd.infoStr
  go_enter Tryd.func91, Tryd.ntmps91
  go_wp2
  go_loopw [3, 4, 5] (fun v word i wr => ∃ k : Nat, k ≤ s.size ∧ i = .int .i64 k ∧ CutRel s w k v word wr) (fun _ _ i _ => s.size - (intOf i).toNat)
  case atStart => exact ⟨0, Nat.zero_le _, rfl, [], [], rfl, by simp [cutL], World.ownsRow_made w #[] 0 (Nat.le_refl _) (by simp [maxLen]) rfl, (Below.refl _ _).alloc (Nat.le_refl _) _⟩
  case round =>
    obtain ⟨k, hk, rfl, o, x, rfl, hc, hown, hbl⟩ := hrel
    have HC := hide hc
    clear hc
    have hob := (cut_bound HC.out).1
    have hxb := (cut_bound HC.out).2
    by_cases hlt : k < s.size
    · have HN := hide (cut_next HC.out hlt)
      cases hd : ((s[k].toNat : Int) == 47)
      · have HD : s[k] ≠ 47 := fun h => by rw [h] at hd; simp at hd
        have HM := hide (HN.out.trans (if_neg HD))
        go_wp2
        refine ⟨⟨k + 1, by omega, by go_num, o, x ++ [s[k]], ?_, HM.out, hown.alloc _, hbl.alloc hbl.size _⟩, by simp [intOf]; omega⟩
        show Value.string (_ ++ _) = _
        congr 1
      · have HD : s[k] = 47 := by
          have := beq_iff_eq.1 hd
          exact UInt8.toNat_inj.1 (by simp; omega)
        have HM := hide (HN.out.trans (if_pos HD))
        clear HD
        go_wp2_with (at_builtin; refine wpList_append_own _ rfl _ _ 70 rfl w.heap.size 9 i0 _ 1 16 Tryd.underlying70 hi hz0 hz1 hz2 rfl (by decide) _ _ _ rfl (hown.alloc _) ⟨wr.heap.size, 0, none⟩ 1 1 [.string ⟨x.toArray⟩] rfl rfl (news_alloc wr [.string ⟨x.toArray⟩] _) (by simp; rfl) (by unfold maxLen; omega) (by omega) (by have := hbl.size; simp; omega) ?_)
        intro v' w1 hown' hgrow _
        go_wp2
        exact ⟨⟨k + 1, by omega, by go_num, o ++ [x], [], rfl, HM.out, by simpa using hown', (hbl.alloc hbl.size _).grown hgrow (by have := hbl.size; simp; omega) (fun j hj => (hown.lt j hj).1)⟩, by simp [intOf]; omega⟩
    · have hk' : k = s.size := by omega
      subst hk'
      have HN := hide (cut_end HC.out)
      go_wp2_with (at_builtin; refine wpList_append_own _ rfl _ _ 70 rfl w.heap.size 9 i0 _ 1 16 Tryd.underlying70 hi hz0 hz1 hz2 rfl (by decide) _ _ _ rfl (hown.alloc _) ⟨wr.heap.size, 0, none⟩ 1 1 [.string ⟨x.toArray⟩] rfl rfl (news_alloc wr [.string ⟨x.toArray⟩] _) (by simp; rfl) (by unfold maxLen; omega) (by omega) (by have := hbl.size; simp; omega) ?_)
      intro v' w1 hown' hgrow _
      go_wp2
      go_ret
      rw [HN.out]
      exact FreshS.of_owns_flat (by simpa [List.flatMap_map] using hown') ((hbl.alloc hbl.size _).grown hgrow (by have := hbl.size; simp; omega) (fun j hj => (hown.lt j hj).1))

set_option maxHeartbeats 1000000 in
theorem specPthOk_any (s : ByteArray) (hs : s.size ≤ 4194304) (w : World) :
    Calls Tryd.prog 67 #[.string s] w fun e w' => e = .returned (.bool (pthOk s)) ∧ Below w.heap.size w w' := by
  have HE := hide (pthOk_eq s)
  have HZ := hide (pthOk_size (s := s))
  go_enter Tryd.func67, Tryd.ntmps67
  by_cases h0 : s = ByteArray.empty
  · subst h0
    go_wp2
    go_ret
    exact ⟨ret_bool (by rw [pthOk_empty]), Below.refl _ _⟩
  · have hd : s.toList.isEmpty = false := by rw [isEmpty_eq]; exact decide_eq_false h0
    have hpart := cutB_part 47 s
    rw [if_neg h0] at HE
    clear h0
    by_cases h12 : s.size ≤ 12
    · go_wp2_with fail
      refine (l1Cut_any s hs _).mono ?_
      generalize cutB 47 s = l at HE hpart ⊢
      rintro e w1 ⟨A, n, cc, f, rfl, hS, _, _, _, hb1⟩
      obtain ⟨rfl, hcx, hmx, _⟩ := id hS
      unfold maxLen at hmx
      go_wp2
      go_loopw [4] (fun i wr => ∃ k : Nat, k ≤ l.length ∧ i = .int .i64 k ∧ namTo l k ∧ Below w1.heap.size w1 wr) (fun i _ => l.length - (intOf i).toNat)
      case atStart => exact ⟨0, Nat.zero_le _, rfl, rfl, Below.refl _ _⟩
      case round =>
        obtain ⟨k, hk, rfl, hag, hbl⟩ := hrel
        have HA := hide hag
        clear hag
        by_cases hlt : k < l.length
        · obtain ⟨b, o, rfl, hb, _, h0⟩ := str_cells (hS.step hbl) hlt
          have hsz := Nat.le_trans (hpart _ (List.getElem_mem hlt)) hs
          go_wp2_with fail
          refine (specNamOk_any l[k] hsz _).mono ?_
          rintro e w2 ⟨rfl, hb2⟩
          have HB := hide (Below.then_ hbl hb2)
          clear hb2 h0
          cases hd : namOk l[k]
          · have HN := hide (namTo_not hlt hd)
            clear hd
            go_wp2
            go_ret
            exact ⟨ret_bool (by rw [HE.out, HN.out]; rfl), Below.then_ hb1 HB.out⟩
          · have HN := hide (namTo_succ HA.out hlt hd)
            clear hd
            go_wp2
            refine ⟨⟨k + 1, by omega, by go_num, HN.out, HB.out⟩, by simp [intOf]; omega⟩
        · have hk' : k = l.length := by omega
          subst hk'
          go_wp2
          go_ret
          exact ⟨ret_bool (by rw [HE.out, namTo_all HA.out, Bool.true_and]; exact decide_eq_decide.2 (by omega)), Below.then_ hb1 hbl⟩
    · have HF := hide (show pthOk s = false by
        cases hp : pthOk s
        · rfl
        · have := HZ.out hp; omega)
      go_wp2
      go_ret
      exact ⟨ret_bool (by rw [HF.out]), Below.refl _ _⟩

/-! One path under another. -/
def isPre (p s : ByteArray) : Bool := p.data.toList.isPrefixOf s.data.toList
def pthUnder (a b : ByteArray) : Bool := pthOk a && pthOk b && (decide (a = ByteArray.empty) || decide (a = b) || isPre (a ++ ⟨#[47]⟩) b)

theorem isPre_yes {p s : ByteArray} (_h : p.size ≤ s.size) : isPre p s = ((s.extract 0 p.size).toList == p.toList) := by
  unfold isPre
  rw [ByteArray.toList_eq, ByteArray.toList_eq, Lib.extract_from_zero, Lib.size_eq p, Bool.eq_iff_iff, List.isPrefixOf_iff_prefix, beq_iff_eq, List.prefix_iff_eq_take]
  exact eq_comm
theorem isPre_no {p s : ByteArray} (h : ¬ p.size ≤ s.size) : isPre p s = false := by
  unfold isPre
  rw [Bool.eq_false_iff]
  intro e
  have := (List.isPrefixOf_iff_prefix.1 e).length_le
  rw [← Lib.size_eq, ← Lib.size_eq] at this
  omega
theorem liteHasPrefix_any (s p : ByteArray) (w : World) :
    Calls Tryd.prog 101 #[.string s, .string p] w fun e w' => e = .returned (.bool (isPre p s)) ∧ Below w.heap.size w w' := by
  go_enter Tryd.func101, Tryd.ntmps101
  go_wp2
  · go_ret
    exact ⟨ret_bool (by rw [isPre_yes (by assumption)]), Below.refl _ _⟩
  · go_ret
    exact ⟨ret_bool (by rw [isPre_no (by assumption)]), Below.refl _ _⟩
theorem hasPrefix_any (s p : ByteArray) (w : World) :
    Calls Tryd.prog 86 #[.string s, .string p] w fun e w' => e = .returned (.bool (isPre p s)) ∧ Below w.heap.size w w' := by
  go_enter Tryd.func86, Tryd.ntmps86
  go_wp2_with fail
  refine (liteHasPrefix_any s p _).mono ?_
  rintro e w1 ⟨rfl, hb1⟩
  go_wp2
  go_ret
  exact ⟨rfl, hb1⟩

theorem toList_inj {a b : ByteArray} (h : a.toList = b.toList) : a = b := by
  have := beq_toListBytes' a b
  rw [h] at this
  simpa using this
theorem toList_nil {a : ByteArray} (h : a.toList = []) : a = ByteArray.empty := toList_inj (by rw [h, ByteArray.toList_eq]; rfl)
theorem pthUnder_both {a b : ByteArray} (h : pthOk a = true) (h' : pthOk b = true) : pthUnder a b = (decide (a = ByteArray.empty) || decide (a = b) || isPre (a ++ ⟨#[47]⟩) b) := by
  unfold pthUnder
  rw [h, h']
  rfl

set_option maxHeartbeats 1000000 in
theorem implPthUnder_any (a b : ByteArray) (ha : a.size ≤ 4194304) (hb : b.size ≤ 4194304) (w : World) :
    Calls Tryd.prog 55 #[.string a, .string b] w fun e w' => e = .returned (.bool (pthUnder a b)) ∧ Below w.heap.size w w' := by
  go_enter Tryd.func55, Tryd.ntmps55
  go_wp2_with fail
  refine (implPthOk_any a ha _).mono ?_
  rintro e w1 ⟨rfl, hb1⟩
  cases ha1 : pthOk a
  · go_wp2
    go_ret
    exact ⟨ret_bool (by simp [pthUnder, ha1]), hb1⟩
  · have HA := hide ha1
    clear ha1
    go_wp2_with fail
    refine (implPthOk_any b hb _).mono ?_
    rintro e w2 ⟨rfl, hb2⟩
    have HB := hide (Below.then_ hb1 hb2)
    clear hb1 hb2
    cases hb1 : pthOk b
    · go_wp2
      go_ret
      exact ⟨ret_bool (by simp [pthUnder, hb1]), HB.out⟩
    · have HC := hide hb1
      clear hb1
      have hss : (a ++ ⟨#[47]⟩ : ByteArray).size = a.size + 1 := by simp [ByteArray.size_append]; rfl
      have HS := hide hss
      clear hss
      go_wp2
      · go_ret
        refine ⟨ret_bool ?_, HB.out⟩
        rw [pthUnder_both HA.out HC.out, toList_nil ‹a.toList = []›]; simp
      · go_ret
        refine ⟨ret_bool ?_, HB.out⟩
        rw [pthUnder_both HA.out HC.out, toList_inj ‹a.toList = b.toList›]; simp
      · go_ret
        refine ⟨ret_bool ?_, HB.out⟩
        rw [pthUnder_both HA.out HC.out, isEmpty_eq, beq_toListBytes' a b, isPre_yes (by rw [HS.out]; omega), HS.out]
      · go_ret
        refine ⟨ret_bool ?_, HB.out⟩
        rw [pthUnder_both HA.out HC.out, isEmpty_eq, beq_toListBytes' a b, isPre_no (by rw [HS.out]; omega), Bool.or_false]

theorem isPre_stroke {a b : ByteArray} (h : a.size < b.size) : isPre (a ++ ⟨#[47]⟩) b = ((b.extract 0 a.size).toList == a.toList && ((b[a.size].toNat : Int) == 47)) := by
  have hk' : a.data.toList.length < b.data.toList.length := by rw [← Lib.size_eq, ← Lib.size_eq]; exact h
  have e1 : (a ++ ⟨#[47]⟩ : ByteArray).data.toList = a.data.toList ++ [47] := by simp
  have e2 : b.data.toList[a.data.toList.length] = b[a.size] := rfl
  unfold isPre
  rw [e1, ByteArray.toList_eq, ByteArray.toList_eq, Lib.extract_from_zero, Bool.eq_iff_iff, List.isPrefixOf_iff_prefix, List.prefix_iff_eq_take, List.length_append, List.length_singleton, List.take_succ_eq_append_getElem hk', e2, Bool.and_eq_true, beq_iff_eq, beq_iff_eq, ← Lib.size_eq]
  constructor
  · intro e
    obtain ⟨x, y⟩ := List.append_inj' e rfl
    refine ⟨x.symm, ?_⟩
    simp at y
    rw [← y]; rfl
  · rintro ⟨x, y⟩
    rw [x]
    congr 1
    have : b[a.size] = 47 := UInt8.toNat_inj.1 (by simp; omega)
    rw [this]
theorem isPre_stroke_no {a b : ByteArray} (h : ¬ a.size < b.size) : isPre (a ++ ⟨#[47]⟩) b = false := isPre_no (by have : (a ++ ⟨#[47]⟩ : ByteArray).size = a.size + 1 := (by simp [ByteArray.size_append]; rfl); omega)

end Go.Proofs.YthopednilgncgaaDoor
