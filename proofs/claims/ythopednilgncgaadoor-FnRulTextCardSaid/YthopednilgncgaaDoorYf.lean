/- The law FnExactRulRead, walked; what the listed variables hold. -/
import Derived.Test.YthopednilgncgaaDoorYc
import Derived.Test.YthopednilgncgaaDoorWE
import Derived.Test.YthopednilgncgaaDoorRows
import Derived.Stop.LaidErr
namespace Go.Proofs.YthopednilgncgaaDoor
open Go.RowKit
attribute [local go_sem ↓] Go.wp_at_zero Go.wp_at_succ

theorem gES : Tryd.prog.globalNamed "strconv.ErrSyntax" = some 2 := by kernel_rfl
theorem gESType : (Tryd.prog.globals[2]?).map (·.type) = some 113 := by kernel_rfl
theorem gER : Tryd.prog.globalNamed "strconv.ErrRange" = some 3 := by kernel_rfl
theorem gERType : (Tryd.prog.globals[3]?).map (·.type) = some 113 := by kernel_rfl
theorem cells_err : Tryd.prog.cellsOf 171 = 1 := by kernel_rfl
theorem cells_str : Tryd.prog.cellsOf 9 = 1 := by kernel_rfl
theorem star_err : "*" ++ "errors.errorString" = "*errors.errorString" := by decide
theorem row_err (u : TypeId) (h : Tryd.prog.typeName? 3 u = some "*errors.errorString") : u = 169 :=
  typeName_ptr_named (nm := "errors.errorString") (by rw [star_err]; kernel_rfl) (by kernel_rfl) (by decide) u (by rw [star_err]; exact h)
theorem errs_of {W : World} {r : List (String × DataW Unit)} (h : laidMet Tryd.prog (("strconv.ErrRange", Rows.laid_strconv_ErrRange) :: ("strconv.ErrSyntax", Rows.laid_strconv_ErrSyntax) :: r) W) : Errs W := by
  obtain ⟨a1, s1, hv1, -, -, -⟩ := laid_sentinel (show laidMet Tryd.prog (("strconv.ErrRange", .iface "*errors.errorString" (.ptr (.agg [.lit (.string [118, 97, 108, 117, 101, 32, 111, 117, 116, 32, 111, 102, 32, 114, 97, 110, 103, 101])]))) :: _) W from h) gER gERType Tryd.underlying113 row_err Tryd.underlying169 Tryd.underlying171 rfl rfl Tryd.underlying9 cells_err cells_str
  obtain ⟨a0, s0, hv0, -, -, -⟩ := laid_sentinel (show laidMet Tryd.prog (("strconv.ErrSyntax", .iface "*errors.errorString" (.ptr (.agg [.lit (.string [105, 110, 118, 97, 108, 105, 100, 32, 115, 121, 110, 116, 97, 120])]))) :: _) W from h.tail) gES gESType Tryd.underlying113 row_err Tryd.underlying169 Tryd.underlying171 rfl rfl Tryd.underlying9 cells_err cells_str
  exact ⟨⟨_, _, by have h0 := World.var?_cell gES hv0 0; simpa using h0⟩, _, _, by have h0 := World.var?_cell gER hv1 0; simpa using h0⟩
theorem fit_read (s : ByteArray) : fitRule (rulRead s).1 := by
  unfold rulRead
  split
  · exact ⟨Nat.zero_le _, Nat.zero_le _⟩
  · rename_i hl
    split
    · rename_i a b c d hc
      have h1 := cut_sizes hc
      have h2 := undash_size b
      have h3 := undash_size c
      split
      · exact ⟨by show (undashB b).size ≤ _; omega, by show (undashB c).size ≤ _; omega⟩
      · exact ⟨Nat.zero_le _, Nat.zero_le _⟩
    · exact ⟨Nat.zero_le _, Nat.zero_le _⟩

set_option maxHeartbeats 2000000 in
theorem lawExactRulRead (w : World) (s : ByteArray) (hs : s.size ≤ 9223372036854775807) (hv : Errs w) :
    Calls Tryd.prog 8 #[.string s] w fun e w' => e = .returned (.bool true) ∧ Below w.heap.size w w' := by
  go_enter Tryd.func8, Tryd.ntmps8
  by_cases hq : 1048576 < s.size
  · go_wp2
    go_ret
    exact ⟨rfl, Below.refl _ _⟩
  · have HV := hide hv
    clear hv
    go_wp2_with fail
    refine (specRulRead_any s (by omega) _).mono ?_
    rintro e w1 ⟨rfl, HB⟩
    have HV1 := hide (HV.out.step HB)
    clear HV
    generalize hr : (rulRead s).1 = r
    generalize hk : (rulRead s).2 = k
    have HR := hide hr
    have HK := hide hk
    clear hr hk
    rw [show (encRule r).toArray = #[.int .i64 r.user, .string r.ref, .string r.path, .bool r.write] from rfl]
    have k3 := Blk.new w1 25 #[.int .i64 r.user, .string r.ref, .string r.path, .bool r.write]
    have hal := (Below.refl w1.heap.size w1).alloc (Nat.le_refl _) (.cells #[.int .i64 r.user, .string r.ref, .string r.path, .bool r.write] 25)
    have HV2 := hide (HV1.out.step hal)
    replace HB := Below.then_ HB hal
    clear HV1 hal
    go_wp2_with fail
    refine (implRulRead_any s (by omega) _ HV2.out).mono ?_
    rw [HR.out, HK.out]
    rw [show (encRule r).toArray = #[.int .i64 r.user, .string r.ref, .string r.path, .bool r.write] from rfl]
    rintro e w2 ⟨rfl, hb⟩
    replace k3 := k3.step hb
    replace HB := Below.then_ HB hb
    have k5 := Blk.new w2 25 #[.int .i64 r.user, .string r.ref, .string r.path, .bool r.write]
    have hal := (Below.refl w2.heap.size w2).alloc (Nat.le_refl _) (.cells #[.int .i64 r.user, .string r.ref, .string r.path, .bool r.write] 25)
    replace k3 := k3.step hal
    replace HB := Below.then_ HB hal
    clear HV2 hal hb
    have u0 := k3.cell 0
    have u1 := k3.cell 1
    have u2 := k3.cell 2
    have u3 := k3.cell 3
    have v0 := k5.cell 0
    have v1 := k5.cell 1
    have v2 := k5.cell 2
    have v3 := k5.cell 3
    simp only [List.getElem?_toArray, List.getElem?_cons_zero, List.getElem?_cons_succ] at u0 u1 u2 u3 v0 v1 v2 v3
    have hne : (k != k) = false := by simp
    have D := hide (fun W => eqRule_any r r W)
    rw [show (encRule r).toArray = #[.int .i64 r.user, .string r.ref, .string r.path, .bool r.write] from rfl] at D
    clear k3 k5
    go_wp2_with fail
    refine (D.out _).mono ?_
    rintro e w3 ⟨rfl, hb⟩
    have heq : decide (r = r) = true := by simp
    try rw [heq]
    replace HB := Below.then_ HB hb
    clear hb
    go_wp2
    go_ret
    exact ⟨rfl, HB⟩
end Go.Proofs.YthopednilgncgaaDoor
