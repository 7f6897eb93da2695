/- Walks: a rule's text; of the reference and of the program. By program (wip/gen/gen_text.py). -/
import Derived.Test.YthopednilgncgaaDoorTx
import Derived.Test.YthopednilgncgaaDoorShelfN
import Derived.Test.YthopednilgncgaaDoorTy
namespace Go.Proofs.YthopednilgncgaaDoor
open Go.RowKit
attribute [local go_sem ↓] Go.wp_at_zero Go.wp_at_succ

def blankB : ByteArray := ⟨#[32]⟩
def wordB (b : Bool) : ByteArray := if b then ⟨#[119, 114, 105, 116, 101]⟩ else ⟨#[114, 101, 97, 100]⟩
def rulTextB (u : Nat) (r : Rule) : ByteArray := digB u ++ blankB ++ dashB r.ref ++ blankB ++ dashB r.path ++ blankB ++ wordB r.write
def rulText (r : Rule) : ByteArray := if rulOk r then rulTextB r.user.toNat r else ByteArray.empty
theorem dash_size {s : ByteArray} {k : Nat} (h : s.size ≤ k) : (dashB s).size ≤ k + 1 := by
  unfold dashB
  split
  · exact Nat.le_trans (by decide : (⟨#[45]⟩ : ByteArray).size ≤ 1) (by omega)
  · omega
theorem word_size (b : Bool) : (wordB b).size ≤ 5 := by cases b <;> decide
theorem dig_size {u : Nat} (h : u < 10) : (digB u).size = 1 := by unfold digB; rw [decDigits_small h]; rfl
theorem rulOk_parts {r : Rule} (h : rulOk r = true) : ∃ u : Nat, r.user = (u : Int) ∧ u ≤ 4 ∧ r.ref.size ≤ 3 ∧ r.path.size ≤ 11 := by
  simp only [rulOk, Bool.and_eq_true, inB, decide_eq_true_eq] at h
  refine ⟨r.user.toNat, by omega, by omega, ?_, pthOk_size h.2⟩
  have h2 := h.1.2
  unfold refFits at h2
  rcases Bool.or_eq_true_iff.1 h2 with h3 | h3
  · rw [of_decide_eq_true h3]; decide
  · exact (namOk_size h3).2
theorem bytes_join (a b c d : ByteArray) : (⟨(Lib.join ([a, b, c, d].map (·.data.toList)) blankB.data.toList).toArray⟩ : ByteArray) = a ++ blankB ++ b ++ blankB ++ c ++ blankB ++ d := by
  refine ByteArray.ext ?_
  simp [Lib.join, List.intercalate, List.intersperse, blankB]
theorem size_join (a b c d : ByteArray) : (Lib.join ([a, b, c, d].map (·.data.toList)) blankB.data.toList).length = a.size + b.size + c.size + d.size + 3 := by
  have h := congrArg ByteArray.size (bytes_join a b c d)
  simp only [ByteArray.size_append] at h
  have e : (⟨(Lib.join ([a, b, c, d].map (·.data.toList)) blankB.data.toList).toArray⟩ : ByteArray).size = (Lib.join ([a, b, c, d].map (·.data.toList)) blankB.data.toList).length := by simp [ByteArray.size]
  rw [e] at h
  have e2 : blankB.size = 1 := rfl
  omega

theorem run_addStr {P : Program} (a b : ByteArray) (w : World) (h : ¬ IntKind.i64.max < ((a.size + b.size : Nat) : Int)) : (Op.stringOp .add a b).run P w = .ok (.string (a ++ b)) w := by
  unfold Op.stringOp
  simp only
  rw [if_neg h]
  rfl
def implTextΓ (B u : Nat) (r : Rule) : Facts := fun t v w => match t with
  | 1 => v = .pointer (some ⟨B, 0, none⟩)
  | 3 => v = .string (wordB r.write)
  | 9 => v = .pointer (some ⟨B, 0, none⟩)
  | 10 => v = .int .i64 u
  | 11 => v = .string (digB u)
  | 12 => v = .pointer (some ⟨B, 1, none⟩)
  | 13 => v = .string r.ref
  | 14 => v = .string (dashB r.ref)
  | 15 => v = .pointer (some ⟨B, 2, none⟩)
  | 16 => v = .string r.path
  | 17 => v = .string (dashB r.path)
  | 18 => v = .string (wordB r.write)
  | 19 => ∃ b, v = .slice (some ⟨b, 0, none⟩) 4 4 ∧ Blk w b 9 #[.string (digB u), .string (dashB r.ref), .string (dashB r.path), .string (wordB r.write)]
  | 20 => v = .string (rulTextB u r)
  | 2 => v = .string (rulTextB u r)
  | _ => True
theorem implTextΓ_stays (B u : Nat) (r : Rule) : Stays (fun w w' => Below w.heap.size w w') (implTextΓ B u r) := fun t v w w' h ho => by
  unfold implTextΓ at *
  split at h <;> first | exact h | (obtain ⟨b, h1, h2⟩ := h; exact ⟨b, h1, h2.step ho⟩)

set_option maxHeartbeats 4000000 in
set_option maxRecDepth 20000 in
theorem implRulText_any (r : Rule) (hr : fitRule r) (w : World) :
    Calls Tryd.prog 33 #[.agg (encRule r).toArray] w fun e w' => e = .returned (.string (rulText r)) ∧ Below w.heap.size w w' := by
  have D1 := hide (fun W => implRulOk_any r hr W)
  rw [show (encRule r).toArray = #[.int .i64 r.user, .string r.ref, .string r.path, .bool r.write] from rfl] at *
  have kb := Blk.new w 25 #[.int .i64 r.user, .string r.ref, .string r.path, .bool r.write]
  have HB := (Below.refl w.heap.size w).alloc (Nat.le_refl _) (.cells #[.int .i64 r.user, .string r.ref, .string r.path, .bool r.write] 25)
  go_enter Tryd.func33, Tryd.ntmps33
  go_wp2_with fail
  refine (D1.out _).mono ?_
  rintro e w1 ⟨rfl, hb⟩
  replace kb := kb.step hb
  replace HB := Below.then_ HB hb
  clear hb
  cases hd : rulOk r
  · have HV := hide (show rulText r = ByteArray.empty by unfold rulText; rw [hd]; rfl)
    clear hd
    go_wp2
    go_ret
    rw [HV.out]
    exact ⟨rfl, HB⟩
  · obtain ⟨u, hu, hu4, hrf, hpt⟩ := rulOk_parts hd
    have HV := hide (show rulText r = rulTextB u r by unfold rulText; rw [hd, hu]; rfl)
    rw [hu] at kb
    clear hd hu
    have u3 : w1.cell? ⟨w.heap.size, 3, none⟩ = some (.bool r.write) := kb.cell 3
    have hz1 := dig_size (u := u) (by omega)
    have hz2 := dash_size hrf
    have hz3 := dash_size hpt
    have hz4 := word_size r.write
    have HZ := hide hz1
    have HZ2 := hide hz2
    have HZ3 := hide hz3
    have HZ4 := hide hz4
    clear hz1 hz2 hz3 hz4
    cases hw : r.write
    all_goals
      rw [hw] at u3
      have HW := hide hw
      clear hw
      go_wp2_with fail
      clear u3
      refine wp_region_typed (fun _ w' => Below w1.heap.size w1 w') (fun w w' => Below w.heap.size w w') (implTextΓ w.heap.size u r) (by kernel_rfl) (by kernel_rfl) (implTextΓ_stays _ _ _) (fun w => Below.refl _ w) ⟨(Below.refl _ _).drew, fun s hs => ?_, by rfl⟩ ?_ ?_
      · by_cases e4 : s = 1
        · subst e4; rfl
        · by_cases e5 : s = 3
          · subst e5
            show _ = Value.string (wordB r.write)
            rw [HW.out]
            rfl
          · have hne : s ∉ [9, 10, 11, 12, 13, 14, 15, 16, 17, 18, 19, 20, 2] := fun hm => by
              simp only [List.mem_cons, List.not_mem_nil, or_false] at hm
              rcases hm with rfl | rfl | rfl | rfl | rfl | rfl | rfl | rfl | rfl | rfl | rfl | rfl | rfl <;> exact absurd hs (by decide)
            simp only [List.mem_cons, List.not_mem_nil, or_false, not_or] at hne
            unfold implTextΓ
            split <;> first | trivial | (exfalso; omega)
      · intro p hp
        simp only [List.mem_cons, List.not_mem_nil, or_false] at hp
        rcases hp with rfl | rfl | rfl | rfl | rfl | rfl | rfl | rfl | rfl | rfl | rfl | rfl | rfl
        · intro k a w' hk hC hR
          have r1 : a.tmps[1]?.getD undef = _ := hR 1 (by decide)
          simp [Region.wanted, outOf, go_sem, execOp, r1, upT]
          exact ⟨hC, Below.refl _ _, rfl⟩
        · intro k a w' hk hC hR
          have r9 : a.tmps[9]?.getD undef = _ := hR 9 (by decide)
          have hc : w'.cell? ⟨w.heap.size, 0, none⟩ = some (.int .i64 u) := (kb.step hC).cell 0
          simp [Region.wanted, outOf, go_sem, execOp, r9, hc, upT]
          exact ⟨hC, Below.refl _ _, rfl⟩
        · intro k a w' hk hC hR
          have r10 : a.tmps[10]?.getD undef = _ := hR 10 (by decide)
          simp [Region.wanted, outOf, go_sem, execOp, r10, upT]
          refine (Tryd.strconv_Itoa_small u (by omega) _).mono ?_
          rintro e w4 ⟨rfl, rfl⟩
          exact ⟨_, rfl, hC, Below.refl _ _, rfl⟩
        · intro k a w' hk hC hR
          have r1 : a.tmps[1]?.getD undef = _ := hR 1 (by decide)
          simp [Region.wanted, outOf, go_sem, execOp, r1, upT]
          exact ⟨hC, Below.refl _ _, rfl⟩
        · intro k a w' hk hC hR
          have r12 : a.tmps[12]?.getD undef = _ := hR 12 (by decide)
          have hc : w'.cell? ⟨w.heap.size, 1, none⟩ = some (.string r.ref) := (kb.step hC).cell 1
          simp [Region.wanted, outOf, go_sem, execOp, r12, hc, upT]
          exact ⟨hC, Below.refl _ _, rfl⟩
        · intro k a w' hk hC hR
          have r13 : a.tmps[13]?.getD undef = _ := hR 13 (by decide)
          simp [Region.wanted, outOf, go_sem, execOp, r13, upT]
          refine (implDash_any r.ref _).mono ?_
          rintro e w4 ⟨rfl, hb⟩
          exact ⟨_, rfl, Below.then_ hC hb, hb, rfl⟩
        · intro k a w' hk hC hR
          have r1 : a.tmps[1]?.getD undef = _ := hR 1 (by decide)
          simp [Region.wanted, outOf, go_sem, execOp, r1, upT]
          exact ⟨hC, Below.refl _ _, rfl⟩
        · intro k a w' hk hC hR
          have r15 : a.tmps[15]?.getD undef = _ := hR 15 (by decide)
          have hc : w'.cell? ⟨w.heap.size, 2, none⟩ = some (.string r.path) := (kb.step hC).cell 2
          simp [Region.wanted, outOf, go_sem, execOp, r15, hc, upT]
          exact ⟨hC, Below.refl _ _, rfl⟩
        · intro k a w' hk hC hR
          have r16 : a.tmps[16]?.getD undef = _ := hR 16 (by decide)
          simp [Region.wanted, outOf, go_sem, execOp, r16, upT]
          refine (implDash_any r.path _).mono ?_
          rintro e w4 ⟨rfl, hb⟩
          exact ⟨_, rfl, Below.then_ hC hb, hb, rfl⟩
        · intro k a w' hk hC hR
          have r3 : a.tmps[3]?.getD undef = _ := hR 3 (by decide)
          simp [Region.wanted, outOf, go_sem, execOp, r3, upT]
          exact ⟨hC, Below.refl _ _, rfl⟩
        · intro k a w' hk hC hR
          have r11 : a.tmps[11]?.getD undef = _ := hR 11 (by decide)
          have r14 : a.tmps[14]?.getD undef = _ := hR 14 (by decide)
          have r17 : a.tmps[17]?.getD undef = _ := hR 17 (by decide)
          have r18 : a.tmps[18]?.getD undef = _ := hR 18 (by decide)
          simp [Region.wanted, outOf, go_sem, execOp, r11, r14, r17, r18, upT]
          have hal := (Below.refl w'.heap.size w').alloc (Nat.le_refl _) (.cells #[.string (digB u), .string (dashB r.ref), .string (dashB r.path), .string (wordB r.write)] 9)
          exact ⟨Below.then_ hC hal, hal, ⟨_, rfl, Blk.new _ _ _⟩⟩
        · intro k a w' hk hC hR
          obtain ⟨b, r19, hB⟩ : ∃ b, a.tmps[19]?.getD undef = .slice (some ⟨b, 0, none⟩) 4 4 ∧ Blk w' b 9 #[.string (digB u), .string (dashB r.ref), .string (dashB r.path), .string (wordB r.write)] := hR 19 (by decide)
          simp [Region.wanted, outOf, go_sem, execOp, r19, upT]
          refine (Tryd.strings_Join b 0 4 [digB u, dashB r.ref, dashB r.path, wordB r.write] ⟨#[32]⟩ w' (fun j x hx => ?_) hB.lt (by simp) (Nat.le_refl _) ?_).mono ?_
          · rw [Nat.zero_add, hB.cell j]
            match j, hx with
            | 0, hx => cases hx; rfl
            | 1, hx => cases hx; rfl
            | 2, hx => cases hx; rfl
            | 3, hx => cases hx; rfl
          · rw [show (⟨#[32]⟩ : ByteArray) = blankB from rfl, size_join]
            have := HZ.out
            have := HZ2.out
            have := HZ3.out
            have := HZ4.out
            omega
          · rintro e w4 ⟨rfl, hb⟩
            exact ⟨_, rfl, Below.then_ hC hb, hb, by rw [show (⟨#[32]⟩ : ByteArray) = blankB from rfl, bytes_join]; rfl⟩
        · intro k a w' hk hC hR
          have r20 : a.tmps[20]?.getD undef = _ := hR 20 (by decide)
          simp [Region.wanted, outOf, go_sem, execOp, r20, upT]
          exact ⟨hC, Below.refl _ _, rfl⟩
      · intro w4 hb4
        simp only [finT]
        intro v9 _ v10 _ v11 _ v12 _ v13 _ v14 _ v15 _ v16 _ v17 _ v18 _ v19 _ v20 _ v2 h2
        obtain rfl : v2 = .string (rulTextB u r) := h2
        generalize rulTextB u r = tt at HV ⊢
        have HBB := hide (Below.then_ HB hb4)
        clear hb4
        go_wp2
        exact bodyPost_ret (v := .string tt) (by simp [results, Tryd.results33, go_sem]) rfl ⟨by rw [HV.out], HBB.out⟩

def specTextΓ (B u : Nat) (r : Rule) : Facts := fun t v w => match t with
  | 1 => v = .pointer (some ⟨B, 0, none⟩)
  | 3 => v = .string (wordB r.write)
  | 9 => v = .pointer (some ⟨B, 0, none⟩)
  | 10 => v = .int .i64 u
  | 11 => v = .string (digB u)
  | 12 => v = .string (digB u ++ blankB)
  | 13 => v = .pointer (some ⟨B, 1, none⟩)
  | 14 => v = .string r.ref
  | 15 => v = .string (dashB r.ref)
  | 16 => v = .string (digB u ++ blankB ++ dashB r.ref)
  | 17 => v = .string (digB u ++ blankB ++ dashB r.ref ++ blankB)
  | 18 => v = .pointer (some ⟨B, 2, none⟩)
  | 19 => v = .string r.path
  | 20 => v = .string (dashB r.path)
  | 21 => v = .string (digB u ++ blankB ++ dashB r.ref ++ blankB ++ dashB r.path)
  | 22 => v = .string (digB u ++ blankB ++ dashB r.ref ++ blankB ++ dashB r.path ++ blankB)
  | 23 => v = .string (wordB r.write)
  | 24 => v = .string (rulTextB u r)
  | 2 => v = .string (rulTextB u r)
  | _ => True
theorem specTextΓ_stays (B u : Nat) (r : Rule) : Stays (fun w w' => Below w.heap.size w w') (specTextΓ B u r) := fun t v w w' h ho => by
  unfold specTextΓ at *
  split at h <;> exact h

set_option maxHeartbeats 4000000 in
set_option maxRecDepth 20000 in
theorem specRulText_any (r : Rule) (hr : fitRule r) (w : World) :
    Calls Tryd.prog 31 #[.agg (encRule r).toArray] w fun e w' => e = .returned (.string (rulText r)) ∧ Below w.heap.size w w' := by
  have D1 := hide (fun W => specRulOk_any r hr W)
  rw [show (encRule r).toArray = #[.int .i64 r.user, .string r.ref, .string r.path, .bool r.write] from rfl] at *
  have kb := Blk.new w 25 #[.int .i64 r.user, .string r.ref, .string r.path, .bool r.write]
  have HB := (Below.refl w.heap.size w).alloc (Nat.le_refl _) (.cells #[.int .i64 r.user, .string r.ref, .string r.path, .bool r.write] 25)
  go_enter Tryd.func31, Tryd.ntmps31
  go_wp2_with fail
  refine (D1.out _).mono ?_
  rintro e w1 ⟨rfl, hb⟩
  replace kb := kb.step hb
  replace HB := Below.then_ HB hb
  clear hb
  cases hd : rulOk r
  · have HV := hide (show rulText r = ByteArray.empty by unfold rulText; rw [hd]; rfl)
    clear hd
    go_wp2
    go_ret
    rw [HV.out]
    exact ⟨rfl, HB⟩
  · obtain ⟨u, hu, hu4, hrf, hpt⟩ := rulOk_parts hd
    have HV := hide (show rulText r = rulTextB u r by unfold rulText; rw [hd, hu]; rfl)
    rw [hu] at kb
    clear hd hu
    have u3 : w1.cell? ⟨w.heap.size, 3, none⟩ = some (.bool r.write) := kb.cell 3
    have hz1 := dig_size (u := u) (by omega)
    have hz2 := dash_size hrf
    have hz3 := dash_size hpt
    have hz4 := word_size r.write
    have HZ := hide hz1
    have HZ2 := hide hz2
    have HZ3 := hide hz3
    have HZ4 := hide hz4
    clear hz1 hz2 hz3 hz4
    cases hw : r.write
    all_goals
      rw [hw] at u3
      have HW := hide hw
      clear hw
      go_wp2_with fail
      clear u3
      refine wp_region_typed (fun _ w' => Below w1.heap.size w1 w') (fun w w' => Below w.heap.size w w') (specTextΓ w.heap.size u r) (by kernel_rfl) (by kernel_rfl) (specTextΓ_stays _ _ _) (fun w => Below.refl _ w) ⟨(Below.refl _ _).drew, fun s hs => ?_, by rfl⟩ ?_ ?_
      · by_cases e4 : s = 1
        · subst e4; rfl
        · by_cases e5 : s = 3
          · subst e5
            show _ = Value.string (wordB r.write)
            rw [HW.out]
            rfl
          · have hne : s ∉ [9, 10, 11, 12, 13, 14, 15, 16, 17, 18, 19, 20, 21, 22, 23, 24, 2] := fun hm => by
              simp only [List.mem_cons, List.not_mem_nil, or_false] at hm
              rcases hm with rfl | rfl | rfl | rfl | rfl | rfl | rfl | rfl | rfl | rfl | rfl | rfl | rfl | rfl | rfl | rfl | rfl <;> exact absurd hs (by decide)
            simp only [List.mem_cons, List.not_mem_nil, or_false, not_or] at hne
            unfold specTextΓ
            split <;> first | trivial | (exfalso; omega)
      · intro p hp
        simp only [List.mem_cons, List.not_mem_nil, or_false] at hp
        rcases hp with rfl | rfl | rfl | rfl | rfl | rfl | rfl | rfl | rfl | rfl | rfl | rfl | rfl | rfl | rfl | rfl | rfl
        · intro k a w' hk hC hR
          have r1 : a.tmps[1]?.getD undef = _ := hR 1 (by decide)
          simp [Region.wanted, outOf, go_sem, execOp, r1, upT]
          exact ⟨hC, Below.refl _ _, rfl⟩
        · intro k a w' hk hC hR
          have r9 : a.tmps[9]?.getD undef = _ := hR 9 (by decide)
          have hc : w'.cell? ⟨w.heap.size, 0, none⟩ = some (.int .i64 u) := (kb.step hC).cell 0
          simp [Region.wanted, outOf, go_sem, execOp, r9, hc, upT]
          exact ⟨hC, Below.refl _ _, rfl⟩
        · intro k a w' hk hC hR
          have r10 : a.tmps[10]?.getD undef = _ := hR 10 (by decide)
          simp [Region.wanted, outOf, go_sem, execOp, r10, upT]
          refine (l5Digits_any u (by omega) _).mono ?_
          rintro e w4 ⟨rfl, hb⟩
          exact ⟨_, rfl, Below.then_ hC hb, hb, rfl⟩
        · intro k a w' hk hC hR
          have r11 : a.tmps[11]?.getD undef = _ := hR 11 (by decide)
          have hle : ¬ IntKind.i64.max < (((digB u).size + (blankB).size : Nat) : Int) := by
            have h1 := HZ.out
            have h2 := HZ2.out
            have h3 := HZ3.out
            have h4 := HZ4.out
            have h5 : blankB.size = 1 := rfl
            simp only [ByteArray.size_append, IntKind.max, IntKind.signed, IntKind.bits] at *
            omega
          have hadd := run_addStr (P := Tryd.prog) (digB u) (blankB) w' hle
          simp [Region.wanted, outOf, execOp, r11, upT, eval_tmp, Act.eval, hadd, go_sem]
          rw [if_neg (by have h1 := HZ.out; have h2 := HZ2.out; have h3 := HZ3.out; have h4 := HZ4.out; have h5 : blankB.size = 1 := rfl; omega)]
          exact ⟨hC, Below.refl _ _, rfl⟩
        · intro k a w' hk hC hR
          have r1 : a.tmps[1]?.getD undef = _ := hR 1 (by decide)
          simp [Region.wanted, outOf, go_sem, execOp, r1, upT]
          exact ⟨hC, Below.refl _ _, rfl⟩
        · intro k a w' hk hC hR
          have r13 : a.tmps[13]?.getD undef = _ := hR 13 (by decide)
          have hc : w'.cell? ⟨w.heap.size, 1, none⟩ = some (.string r.ref) := (kb.step hC).cell 1
          simp [Region.wanted, outOf, go_sem, execOp, r13, hc, upT]
          exact ⟨hC, Below.refl _ _, rfl⟩
        · intro k a w' hk hC hR
          have r14 : a.tmps[14]?.getD undef = _ := hR 14 (by decide)
          simp [Region.wanted, outOf, go_sem, execOp, r14, upT]
          refine (l5Dash_any r.ref _).mono ?_
          rintro e w4 ⟨rfl, hb⟩
          exact ⟨_, rfl, Below.then_ hC hb, hb, rfl⟩
        · intro k a w' hk hC hR
          have r12 : a.tmps[12]?.getD undef = _ := hR 12 (by decide)
          have r15 : a.tmps[15]?.getD undef = _ := hR 15 (by decide)
          have hle : ¬ IntKind.i64.max < (((digB u ++ blankB).size + (dashB r.ref).size : Nat) : Int) := by
            have h1 := HZ.out
            have h2 := HZ2.out
            have h3 := HZ3.out
            have h4 := HZ4.out
            have h5 : blankB.size = 1 := rfl
            simp only [ByteArray.size_append, IntKind.max, IntKind.signed, IntKind.bits] at *
            omega
          have hadd := run_addStr (P := Tryd.prog) (digB u ++ blankB) (dashB r.ref) w' hle
          simp [Region.wanted, outOf, execOp, r12, r15, upT, eval_tmp, Act.eval, hadd, go_sem]
          exact ⟨hC, Below.refl _ _, rfl⟩
        · intro k a w' hk hC hR
          have r16 : a.tmps[16]?.getD undef = _ := hR 16 (by decide)
          have hle : ¬ IntKind.i64.max < (((digB u ++ blankB ++ dashB r.ref).size + (blankB).size : Nat) : Int) := by
            have h1 := HZ.out
            have h2 := HZ2.out
            have h3 := HZ3.out
            have h4 := HZ4.out
            have h5 : blankB.size = 1 := rfl
            simp only [ByteArray.size_append, IntKind.max, IntKind.signed, IntKind.bits] at *
            omega
          have hadd := run_addStr (P := Tryd.prog) (digB u ++ blankB ++ dashB r.ref) (blankB) w' hle
          simp [Region.wanted, outOf, execOp, r16, upT, eval_tmp, Act.eval, hadd, go_sem]
          rw [if_neg (by have h1 := HZ.out; have h2 := HZ2.out; have h3 := HZ3.out; have h4 := HZ4.out; have h5 : blankB.size = 1 := rfl; omega)]
          exact ⟨hC, Below.refl _ _, rfl⟩
        · intro k a w' hk hC hR
          have r1 : a.tmps[1]?.getD undef = _ := hR 1 (by decide)
          simp [Region.wanted, outOf, go_sem, execOp, r1, upT]
          exact ⟨hC, Below.refl _ _, rfl⟩
        · intro k a w' hk hC hR
          have r18 : a.tmps[18]?.getD undef = _ := hR 18 (by decide)
          have hc : w'.cell? ⟨w.heap.size, 2, none⟩ = some (.string r.path) := (kb.step hC).cell 2
          simp [Region.wanted, outOf, go_sem, execOp, r18, hc, upT]
          exact ⟨hC, Below.refl _ _, rfl⟩
        · intro k a w' hk hC hR
          have r19 : a.tmps[19]?.getD undef = _ := hR 19 (by decide)
          simp [Region.wanted, outOf, go_sem, execOp, r19, upT]
          refine (l5Dash_any r.path _).mono ?_
          rintro e w4 ⟨rfl, hb⟩
          exact ⟨_, rfl, Below.then_ hC hb, hb, rfl⟩
        · intro k a w' hk hC hR
          have r17 : a.tmps[17]?.getD undef = _ := hR 17 (by decide)
          have r20 : a.tmps[20]?.getD undef = _ := hR 20 (by decide)
          have hle : ¬ IntKind.i64.max < (((digB u ++ blankB ++ dashB r.ref ++ blankB).size + (dashB r.path).size : Nat) : Int) := by
            have h1 := HZ.out
            have h2 := HZ2.out
            have h3 := HZ3.out
            have h4 := HZ4.out
            have h5 : blankB.size = 1 := rfl
            simp only [ByteArray.size_append, IntKind.max, IntKind.signed, IntKind.bits] at *
            omega
          have hadd := run_addStr (P := Tryd.prog) (digB u ++ blankB ++ dashB r.ref ++ blankB) (dashB r.path) w' hle
          simp [Region.wanted, outOf, execOp, r17, r20, upT, eval_tmp, Act.eval, hadd, go_sem]
          exact ⟨hC, Below.refl _ _, rfl⟩
        · intro k a w' hk hC hR
          have r21 : a.tmps[21]?.getD undef = _ := hR 21 (by decide)
          have hle : ¬ IntKind.i64.max < (((digB u ++ blankB ++ dashB r.ref ++ blankB ++ dashB r.path).size + (blankB).size : Nat) : Int) := by
            have h1 := HZ.out
            have h2 := HZ2.out
            have h3 := HZ3.out
            have h4 := HZ4.out
            have h5 : blankB.size = 1 := rfl
            simp only [ByteArray.size_append, IntKind.max, IntKind.signed, IntKind.bits] at *
            omega
          have hadd := run_addStr (P := Tryd.prog) (digB u ++ blankB ++ dashB r.ref ++ blankB ++ dashB r.path) (blankB) w' hle
          simp [Region.wanted, outOf, execOp, r21, upT, eval_tmp, Act.eval, hadd, go_sem]
          rw [if_neg (by have h1 := HZ.out; have h2 := HZ2.out; have h3 := HZ3.out; have h4 := HZ4.out; have h5 : blankB.size = 1 := rfl; omega)]
          exact ⟨hC, Below.refl _ _, rfl⟩
        · intro k a w' hk hC hR
          have r3 : a.tmps[3]?.getD undef = _ := hR 3 (by decide)
          simp [Region.wanted, outOf, go_sem, execOp, r3, upT]
          exact ⟨hC, Below.refl _ _, rfl⟩
        · intro k a w' hk hC hR
          have r22 : a.tmps[22]?.getD undef = _ := hR 22 (by decide)
          have r23 : a.tmps[23]?.getD undef = _ := hR 23 (by decide)
          have hle : ¬ IntKind.i64.max < (((digB u ++ blankB ++ dashB r.ref ++ blankB ++ dashB r.path ++ blankB).size + (wordB r.write).size : Nat) : Int) := by
            have h1 := HZ.out
            have h2 := HZ2.out
            have h3 := HZ3.out
            have h4 := HZ4.out
            have h5 : blankB.size = 1 := rfl
            simp only [ByteArray.size_append, IntKind.max, IntKind.signed, IntKind.bits] at *
            omega
          have hadd := run_addStr (P := Tryd.prog) (digB u ++ blankB ++ dashB r.ref ++ blankB ++ dashB r.path ++ blankB) (wordB r.write) w' hle
          simp [Region.wanted, outOf, execOp, r22, r23, upT, eval_tmp, Act.eval, hadd, go_sem]
          exact ⟨hC, Below.refl _ _, rfl⟩
        · intro k a w' hk hC hR
          have r24 : a.tmps[24]?.getD undef = _ := hR 24 (by decide)
          simp [Region.wanted, outOf, go_sem, execOp, r24, upT]
          exact ⟨hC, Below.refl _ _, rfl⟩
      · intro w4 hb4
        simp only [finT]
        intro v9 _ v10 _ v11 _ v12 _ v13 _ v14 _ v15 _ v16 _ v17 _ v18 _ v19 _ v20 _ v21 _ v22 _ v23 _ v24 _ v2 h2
        obtain rfl : v2 = .string (rulTextB u r) := h2
        generalize rulTextB u r = tt at HV ⊢
        have HBB := hide (Below.then_ HB hb4)
        clear hb4
        go_wp2
        exact bodyPost_ret (v := .string tt) (by simp [results, Tryd.results31, go_sem]) rfl ⟨by rw [HV.out], HBB.out⟩

end Go.Proofs.YthopednilgncgaaDoor
