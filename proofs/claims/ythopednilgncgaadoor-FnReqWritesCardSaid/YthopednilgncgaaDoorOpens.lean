/- The laws' arguments read by 'Rp'. By program (wip/gen/gen_open.py). -/
import Derived.Test.YthopednilgncgaaDoorRows
import Derived.Test.YthopednilgncgaaDoorData
import Derived.Test.YthopednilgncgaaDoorOpen
namespace Go.Proofs.YthopednilgncgaaDoor
open Go.ChangeShapes Go.WideShapes Go.ChangeAt Go.RowKit Go.Deep
set_option maxHeartbeats 1000000 in
set_option maxRecDepth 100000 in
theorem opensEdit {H : Type} {enc : TypeId × Value → H} : Opens enc Tryd.prog 105 Rp.edit (fun x => wideEdit x) := fun {w base spare held fuel cs x} h => by
  obtain ⟨xs, n, _, _, hl, hxl, hf⟩ := DataW.trod_struct Tryd.underlying105 h
  have hl0 : cs.length = 3 := hl.trans (by kernel_rfl)
  clear hl
  match cs, hl0 with
  | [v0, v1, v2], _ =>
  obtain ⟨y0, g0, hr0, ok0⟩ := opens_field hf hxl 0 _ rfl 1 (by kernel_rfl) (opens_str Tryd.underlying9)
  obtain ⟨e0, _⟩ := hr0
  have q0 : v0 = .string y0 := by simpa using e0
  subst q0; clear e0
  obtain ⟨y1, g1, hr1, ok1⟩ := opens_field hf hxl 1 _ rfl 1 (by kernel_rfl) (opens_str Tryd.underlying9)
  obtain ⟨e1, _⟩ := hr1
  have q1 : v1 = .string y1 := by simpa using e1
  subst q1; clear e1
  obtain ⟨y2, g2, hr2, ok2⟩ := opens_field hf hxl 2 _ rfl 1 (by kernel_rfl) (opens_bool Tryd.underlying4)
  obtain ⟨e2, _⟩ := hr2
  have q2 : v2 = .bool y2 := by simpa using e2
  subst q2; clear e2
  exact ⟨⟨y0, y1, y2⟩, [], ⟨rfl, rfl⟩, ⟨ok0, ok1⟩⟩
set_option maxHeartbeats 1000000 in
set_option maxRecDepth 100000 in
theorem opensRule {H : Type} {enc : TypeId × Value → H} : Opens enc Tryd.prog 44 Rp.rule (fun x => wideRule x) := fun {w base spare held fuel cs x} h => by
  obtain ⟨xs, n, _, _, hl, hxl, hf⟩ := DataW.trod_struct Tryd.underlying44 h
  have hl0 : cs.length = 4 := hl.trans (by kernel_rfl)
  clear hl
  match cs, hl0 with
  | [v0, v1, v2, v3], _ =>
  obtain ⟨y0, g0, hr0, ok0⟩ := opens_field hf hxl 0 _ rfl 1 (by kernel_rfl) (opens_int Tryd.underlying3)
  obtain ⟨e0, _⟩ := hr0
  have q0 : v0 = .int .i64 y0 := by simpa using e0
  subst q0; clear e0
  obtain ⟨y1, g1, hr1, ok1⟩ := opens_field hf hxl 1 _ rfl 1 (by kernel_rfl) (opens_str Tryd.underlying9)
  obtain ⟨e1, _⟩ := hr1
  have q1 : v1 = .string y1 := by simpa using e1
  subst q1; clear e1
  obtain ⟨y2, g2, hr2, ok2⟩ := opens_field hf hxl 2 _ rfl 1 (by kernel_rfl) (opens_str Tryd.underlying9)
  obtain ⟨e2, _⟩ := hr2
  have q2 : v2 = .string y2 := by simpa using e2
  subst q2; clear e2
  obtain ⟨y3, g3, hr3, ok3⟩ := opens_field hf hxl 3 _ rfl 1 (by kernel_rfl) (opens_bool Tryd.underlying4)
  obtain ⟨e3, _⟩ := hr3
  have q3 : v3 = .bool y3 := by simpa using e3
  subst q3; clear e3
  exact ⟨⟨y0, y1, y2, y3⟩, [], ⟨rfl, rfl⟩, ⟨ok1, ok2⟩⟩
set_option maxHeartbeats 1000000 in
set_option maxRecDepth 100000 in
theorem opensReq {H : Type} {enc : TypeId × Value → H} : Opens enc Tryd.prog 46 Rp.req (fun x => wideReq x) := fun {w base spare held fuel cs x} h => by
  obtain ⟨xs, n, _, _, hl, hxl, hf⟩ := DataW.trod_struct Tryd.underlying46 h
  have hl0 : cs.length = 15 := hl.trans (by kernel_rfl)
  clear hl
  match cs, hl0 with
  | [v0, v1, v2, v3, v4, v5, v6, v7, v8, v9, v10, v11, v12, v13, v14], _ =>
  obtain ⟨y0, g0, hr0, ok0⟩ := opens_field hf hxl 0 _ rfl 1 (by kernel_rfl) (opens_int Tryd.underlying3)
  obtain ⟨e0, _⟩ := hr0
  have q0 : v0 = .int .i64 y0 := by simpa using e0
  subst q0; clear e0
  obtain ⟨y1, g1, hr1, ok1⟩ := opens_field hf hxl 1 _ rfl 1 (by kernel_rfl) (opens_int Tryd.underlying3)
  obtain ⟨e1, _⟩ := hr1
  have q1 : v1 = .int .i64 y1 := by simpa using e1
  subst q1; clear e1
  obtain ⟨y2, g2, hr2, ok2⟩ := opens_field hf hxl 2 _ rfl 1 (by kernel_rfl) (opens_int Tryd.underlying3)
  obtain ⟨e2, _⟩ := hr2
  have q2 : v2 = .int .i64 y2 := by simpa using e2
  subst q2; clear e2
  obtain ⟨y3, g3, hr3, ok3⟩ := opens_field hf hxl 3 _ rfl 1 (by kernel_rfl) (opens_int Tryd.underlying3)
  obtain ⟨e3, _⟩ := hr3
  have q3 : v3 = .int .i64 y3 := by simpa using e3
  subst q3; clear e3
  obtain ⟨y4, g4, hr4, ok4⟩ := opens_field hf hxl 4 _ rfl 1 (by kernel_rfl) (opens_str Tryd.underlying9)
  obtain ⟨e4, _⟩ := hr4
  have q4 : v4 = .string y4 := by simpa using e4
  subst q4; clear e4
  obtain ⟨y5, g5, hr5, ok5⟩ := opens_field hf hxl 5 _ rfl 1 (by kernel_rfl) (opens_str Tryd.underlying9)
  obtain ⟨e5, _⟩ := hr5
  have q5 : v5 = .string y5 := by simpa using e5
  subst q5; clear e5
  obtain ⟨y6, g6, hr6, ok6⟩ := opens_field hf hxl 6 _ rfl 1 (by kernel_rfl) (opens_int Tryd.underlying3)
  obtain ⟨e6, _⟩ := hr6
  have q6 : v6 = .int .i64 y6 := by simpa using e6
  subst q6; clear e6
  obtain ⟨y7, g7, hr7, ok7⟩ := opens_field hf hxl 7 _ rfl 1 (by kernel_rfl) (opens_int Tryd.underlying3)
  obtain ⟨e7, _⟩ := hr7
  have q7 : v7 = .int .i64 y7 := by simpa using e7
  subst q7; clear e7
  obtain ⟨y8, g8, hr8, ok8⟩ := opens_field hf hxl 8 _ rfl 1 (by kernel_rfl) (opens_slice Tryd.underlying43 (by kernel_rfl) (by decide) opensEdit)
  obtain ⟨A0, n0, c0, e8, hs0⟩ := hr8
  have q8 : v8 = .slice A0 n0 c0 := by simpa using e8
  subst q8; clear e8
  obtain ⟨y9, g9, hr9, ok9⟩ := opens_field hf hxl 9 _ rfl 4 (by kernel_rfl) opensRule
  obtain ⟨e9, _⟩ := hr9
  have q9 : [v9, v10, v11, v12] = encRule y9 := by simpa using e9
  simp only [encRule, List.cons.injEq, and_true] at q9
  obtain ⟨rfl, rfl, rfl, rfl⟩ := q9
  clear e9
  obtain ⟨y10, g10, hr10, ok10⟩ := opens_field hf hxl 10 _ rfl 1 (by kernel_rfl) (opens_int Tryd.underlying3)
  obtain ⟨e10, _⟩ := hr10
  have q13 : v13 = .int .i64 y10 := by simpa using e10
  subst q13; clear e10
  obtain ⟨y11, g11, hr11, ok11⟩ := opens_field hf hxl 11 _ rfl 1 (by kernel_rfl) (opens_str Tryd.underlying9)
  obtain ⟨e11, _⟩ := hr11
  have q14 : v14 = .string y11 := by simpa using e11
  subst q14; clear e11
  exact ⟨⟨y0, y1, y2, y3, y4, y5, y6, y7, y8, y9, y10, y11⟩, _, ⟨A0, n0, c0, g8, rfl, rfl, hs0⟩, ⟨ok4, ok5, ok8, ok9, ok11⟩⟩
end Go.Proofs.YthopednilgncgaaDoor
