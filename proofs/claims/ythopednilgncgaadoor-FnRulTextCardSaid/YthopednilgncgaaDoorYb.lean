/- Walks: words, numbers and dashes are read; of the reference. -/
import Derived.Test.YthopednilgncgaaDoorYa
namespace Go.Proofs.YthopednilgncgaaDoor
open Go.RowKit
attribute [local go_sem ↓] Go.wp_at_zero Go.wp_at_succ

theorem beq_lit (s : ByteArray) (l : List UInt8) : (s.toList == l) = decide (s = ⟨l.toArray⟩) := by
  rw [← beq_toListBytes' s ⟨l.toArray⟩]
  congr 1
  rw [ByteArray.toList_eq]

/-! The reference's words. -/
def WordRel (s : ByteArray) (w : World) (k : Nat) (v word : Value) (wr : World) : Prop :=
  ∃ (o : List (List UInt8)) (x : List UInt8), word = .string ⟨x.toArray⟩ ∧ cutL 32 (s.data.toList.take k) = o ++ [x] ∧ wr.ownsRow w.heap.size 9 1 v o.length (o.flatMap fun l => [.string ⟨l.toArray⟩]) ∧ Below w.heap.size w wr
theorem word_bound {s : ByteArray} {k : Nat} {o : List (List UInt8)} {x : List UInt8} (h : cutL 32 (s.data.toList.take k) = o ++ [x]) : o.length ≤ s.size ∧ x.length ≤ s.size := by
  have h1 := cutL_size 32 (s.data.toList.take k)
  rw [h] at h1
  have h2 := Lib.size_eq s
  simp at h1
  omega
theorem word_next {s : ByteArray} {k : Nat} {o : List (List UInt8)} {x : List UInt8} (h : cutL 32 (s.data.toList.take k) = o ++ [x]) (hk : k < s.size) :
    cutL 32 (s.data.toList.take (k + 1)) = if s[k] = 32 then o ++ [x] ++ [[]] else o ++ [x ++ [s[k]]] := by
  have hk' : k < s.data.toList.length := by rw [← Lib.size_eq]; exact hk
  rw [List.take_succ_eq_append_getElem hk', byte_at hk hk']
  exact cutL_snoc 32 _ _ _ _ h
theorem word_end {s : ByteArray} {o : List (List UInt8)} {x : List UInt8} (h : cutL 32 (s.data.toList.take s.size) = o ++ [x]) : cutB 32 s = (o ++ [x]).map fun l => ⟨l.toArray⟩ := by
  rw [List.take_of_length_le (by rw [Lib.size_eq]; exact Nat.le_refl _)] at h
  unfold cutB
  rw [h]

set_option maxHeartbeats 1000000 in
set_option maxRecDepth 20000 in
theorem l5Words_any (s : ByteArray) (hs : s.size ≤ 4194304) (w : World) :
    Calls Tryd.prog 76 #[.string s] w (FreshS Rp.str w (if 200 < s.size then [] else cutB 32 s)) := by
  have hcv := run_oneByte (P := Tryd.prog) (dst := 9) Tryd.underlying22 Tryd.underlying5 Tryd.underlying9
  obtain ⟨i0, hi, hz0, hz1, hz2⟩ := info_parts Tryd.infoStr
  go_enter Tryd.func76, Tryd.ntmps76
  by_cases hlong : 200 < s.size
  · go_wp2
    go_ret
    exact FreshS.of_owns_flat (k := 1) (enc := fun l => [.string l]) (l := []) (World.ownsRow_made w #[] 0 (Nat.le_refl _) (by simp [maxLen]) rfl) ((Below.refl _ _).alloc (Nat.le_refl _) _)
  · rw [if_neg hlong]
    go_wp2
    go_loopw [3, 4, 5] (fun v word i wr => ∃ k : Nat, k ≤ s.size ∧ i = .int .i64 k ∧ WordRel s w k v word wr) (fun _ _ i _ => s.size - (intOf i).toNat)
    case atStart => exact ⟨0, Nat.zero_le _, rfl, [], [], rfl, by simp [cutL], World.ownsRow_made w #[] 0 (Nat.le_refl _) (by simp [maxLen]) rfl, (Below.refl _ _).alloc (Nat.le_refl _) _⟩
    case round =>
      obtain ⟨k, hk, rfl, o, x, rfl, hc, hown, hbl⟩ := hrel
      have HC := hide hc
      clear hc
      have hob := (word_bound HC.out).1
      have hxb := (word_bound HC.out).2
      by_cases hlt : k < s.size
      · have HN := hide (word_next HC.out hlt)
        cases hd : ((s[k].toNat : Int) == 32)
        · have HD : s[k] ≠ 32 := fun h => by rw [h] at hd; simp at hd
          have HM := hide (HN.out.trans (if_neg HD))
          go_wp2
          refine ⟨⟨k + 1, by omega, by go_num, o, x ++ [s[k]], ?_, HM.out, hown.alloc _, hbl.alloc hbl.size _⟩, by simp [intOf]; omega⟩
          show Value.string (_ ++ _) = _
          congr 1
        · have HD : s[k] = 32 := by
            have := beq_iff_eq.1 hd
            exact UInt8.toNat_inj.1 (by simp; omega)
          have HM := hide (HN.out.trans (if_pos HD))
          clear HD
          go_wp2_with (at_builtin; refine wpList_append_own _ rfl _ _ 70 rfl w.heap.size 9 i0 _ 1 16 Tryd.underlying70 hi hz0 hz1 hz2 rfl (by decide) _ _ _ rfl (hown.alloc _) ⟨wr.heap.size, 0, none⟩ 1 1 [.string ⟨x.toArray⟩] rfl rfl (news_alloc wr [.string ⟨x.toArray⟩] _) (by simp; rfl) (by unfold maxLen; omega) (by omega) (by have := hbl.size; simp; omega) ?_)
          intro v' w1 hown' hgrow _
          go_wp2
          exact ⟨⟨k + 1, by omega, by go_num, o ++ [x], [], rfl, HM.out, by simpa using hown', (hbl.alloc hbl.size _).grown hgrow (by have := hbl.size; simp; omega) (fun j hj => (hown.lt j hj).1)⟩, by simp [intOf]; omega⟩
      · have hk' : k = s.size := by omega
        subst hk'
        have HN := hide (word_end HC.out)
        go_wp2_with (at_builtin; refine wpList_append_own _ rfl _ _ 70 rfl w.heap.size 9 i0 _ 1 16 Tryd.underlying70 hi hz0 hz1 hz2 rfl (by decide) _ _ _ rfl (hown.alloc _) ⟨wr.heap.size, 0, none⟩ 1 1 [.string ⟨x.toArray⟩] rfl rfl (news_alloc wr [.string ⟨x.toArray⟩] _) (by simp; rfl) (by unfold maxLen; omega) (by omega) (by have := hbl.size; simp; omega) ?_)
        intro v' w1 hown' hgrow _
        go_wp2
        go_ret
        rw [HN.out]
        exact FreshS.of_owns_flat (by simpa [List.flatMap_map] using hown') ((hbl.alloc hbl.size _).grown hgrow (by have := hbl.size; simp; omega) (fun j hj => (hown.lt j hj).1))

set_option maxHeartbeats 1000000 in
theorem l5None_any (s : ByteArray) (w : World) :
    Calls Tryd.prog 78 #[.string s] w fun e w' => e = .returned (.string (undashB s)) ∧ Below w.heap.size w w' := by
  have hq := beq_lit s [45]
  go_enter Tryd.func78, Tryd.ntmps78
  cases hd : decide (s = ⟨#[45]⟩)
  · rw [hd] at hq
    have HN := hide (of_decide_eq_false hd)
    clear hd
    go_wp2
    go_ret
    exact ⟨by unfold undashB; rw [if_neg HN.out]; rfl, Below.refl _ _⟩
  · rw [hd] at hq
    have HN := hide (of_decide_eq_true hd)
    clear hd
    go_wp2
    go_ret
    exact ⟨by unfold undashB; rw [if_pos HN.out]; rfl, Below.refl _ _⟩

/-- A number that is read: whatever it be, of a digit up to four it is that. -/
def NumRead (s : ByteArray) (w : World) (e : Ending) (w' : World) : Prop := ∃ x : Int, e = .returned (.int .i64 x) ∧ (∀ u : Nat, u ≤ 4 → s = digB u → x = u) ∧ Below w.heap.size w w'
theorem dig_at {s : ByteArray} {u k : Nat} (hu : u ≤ 4) (h : s = digB u) (hk : k < s.size) : k = 0 ∧ s[k].toNat = 48 + u := by
  subst h
  have h1 : k = 0 := by have := dig_size (u := u) (by omega); omega
  subst h1
  refine ⟨rfl, ?_⟩
  have e : (digB u)[0] = UInt8.ofNat (48 + u) := by
    have := digB_one (u := u) (by omega)
    simp only [this]
    rfl
  rw [e]
  rcases (show u = 0 ∨ u = 1 ∨ u = 2 ∨ u = 3 ∨ u = 4 by omega) with rfl | rfl | rfl | rfl | rfl <;> rfl
def NumTo (s : ByteArray) (k m : Nat) : Prop := ((k = 0 ∧ m = 0) ∨ (k = 1 ∧ m ≤ 9) ∨ (k = 2 ∧ m ≤ 99) ∨ (k = 3 ∧ m ≤ 999) ∨ (k = 4 ∧ m ≤ 9999)) ∧ ∀ u : Nat, u ≤ 4 → s = digB u → k = 1 → m = u
theorem NumTo.next {s : ByteArray} {k m : Nat} (h : NumTo s k m) (hk : k < s.size) (h4 : s.size ≤ 4) (h0 : 48 ≤ s[k].toNat) (h9 : s[k].toNat ≤ 57) : NumTo s (k + 1) (m * 10 + (s[k].toNat - 48)) := by
  refine ⟨by have := h.1; omega, fun u hu he h1 => ?_⟩
  have := dig_at hu he hk
  have := h.1
  omega
theorem NumTo.end_ {s : ByteArray} {m : Nat} (h : NumTo s s.size m) : ∀ u : Nat, u ≤ 4 → s = digB u → ((m : Nat) : Int) = u := fun u hu he => by
  have h1 : s.size = 1 := by rw [he]; exact dig_size (by omega)
  rw [h.2 u hu he h1]

set_option maxHeartbeats 1000000 in
set_option maxRecDepth 20000 in
theorem l5Number_any (s : ByteArray) (hs : s.size ≤ 4194304) (w : World) :
    Calls Tryd.prog 77 #[.string s] w (NumRead s w) := by
  have HD := hide (fun (u : Nat) (hu : u ≤ 4) (he : s = digB u) => show s.size = 1 by rw [he]; exact dig_size (by omega))
  go_enter Tryd.func77, Tryd.ntmps77
  by_cases h1 : s.size = 0
  · go_wp2
    go_ret
    exact ⟨-1, rfl, fun u hu he => by have := HD.out u hu he; omega, Below.refl _ _⟩
  · by_cases h2 : 4 < s.size
    · go_wp2
      go_ret
      exact ⟨-1, rfl, fun u hu he => by have := HD.out u hu he; omega, Below.refl _ _⟩
    · have b0 : (((s.size : Nat) : Int) == 0) = false := beq_eq_false_iff_ne.2 (by omega)
      have b4 : decide ((4 : Int) < ((s.size : Nat) : Int)) = false := decide_eq_false (by omega)
      by_cases h3 : 1 < s.size
      · have b1 : decide ((1 : Int) < ((s.size : Nat) : Int)) = true := decide_eq_true (by omega)
        have hz : 0 < s.size := by omega
        cases hd : ((s[0].toNat : Int) == 48)
        · go_wp2
          go_loopw [3, 4] (fun nv i wr => ∃ k m : Nat, k ≤ s.size ∧ i = .int .i64 k ∧ nv = .int .i64 m ∧ NumTo s k m ∧ Below w.heap.size w wr) (fun _ i _ => s.size - (intOf i).toNat)
          case atStart => exact ⟨0, 0, Nat.zero_le _, rfl, rfl, ⟨.inl ⟨rfl, rfl⟩, fun u hu he hh => by omega⟩, Below.refl _ _⟩
          case round =>
            obtain ⟨k, m, hk, rfl, rfl, hn, hbl⟩ := hrel
            have HN := hide hn
            have hm : m ≤ 9999 := by have := hn.1; omega
            clear hn
            by_cases hlt : k < s.size
            · have HA := hide (fun (u : Nat) (hu : u ≤ 4) (he : s = digB u) => dig_at hu he hlt)
              by_cases l0 : s[k].toNat < 48
              · go_wp2
                go_ret
                exact ⟨-1, rfl, fun u hu he => by have := HA.out u hu he; omega, hbl⟩
              · by_cases l9 : 57 < s[k].toNat
                · go_wp2
                  go_ret
                  exact ⟨-1, rfl, fun u hu he => by have := HA.out u hu he; omega, hbl⟩
                · have HNX := hide (HN.out.next hlt (by omega) (by omega) (by omega))
                  go_wp2
                  exact ⟨⟨k + 1, m * 10 + (s[k].toNat - 48), by omega, by go_num, by congr 1; omega, HNX.out, hbl⟩, by simp [intOf]; omega⟩
            · have hk' : k = s.size := by omega
              subst hk'
              go_wp2
              go_ret
              exact ⟨_, rfl, HN.out.end_, hbl⟩
        · go_wp2
          go_ret
          exact ⟨-1, rfl, fun u hu he => by have := HD.out u hu he; omega, Below.refl _ _⟩
      · have b1 : decide ((1 : Int) < ((s.size : Nat) : Int)) = false := decide_eq_false (by omega)
        go_wp2
        go_loopw [3, 4] (fun nv i wr => ∃ k m : Nat, k ≤ s.size ∧ i = .int .i64 k ∧ nv = .int .i64 m ∧ NumTo s k m ∧ Below w.heap.size w wr) (fun _ i _ => s.size - (intOf i).toNat)
        case atStart => exact ⟨0, 0, Nat.zero_le _, rfl, rfl, ⟨.inl ⟨rfl, rfl⟩, fun u hu he hh => by omega⟩, Below.refl _ _⟩
        case round =>
          obtain ⟨k, m, hk, rfl, rfl, hn, hbl⟩ := hrel
          have HN := hide hn
          have hm : m ≤ 9999 := by have := hn.1; omega
          clear hn
          by_cases hlt : k < s.size
          · have HA := hide (fun (u : Nat) (hu : u ≤ 4) (he : s = digB u) => dig_at hu he hlt)
            by_cases l0 : s[k].toNat < 48
            · go_wp2
              go_ret
              exact ⟨-1, rfl, fun u hu he => by have := HA.out u hu he; omega, hbl⟩
            · by_cases l9 : 57 < s[k].toNat
              · go_wp2
                go_ret
                exact ⟨-1, rfl, fun u hu he => by have := HA.out u hu he; omega, hbl⟩
              · have HNX := hide (HN.out.next hlt (by omega) (by omega) (by omega))
                go_wp2
                exact ⟨⟨k + 1, m * 10 + (s[k].toNat - 48), by omega, by go_num, by congr 1; omega, HNX.out, hbl⟩, by simp [intOf]; omega⟩
          · have hk' : k = s.size := by omega
            subst hk'
            go_wp2
            go_ret
            exact ⟨_, rfl, HN.out.end_, hbl⟩
end Go.Proofs.YthopednilgncgaaDoor
