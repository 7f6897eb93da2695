/- The laws' arguments read by 'Rp'. By program (wip/gen/gen_open.py). -/
import Derived.Test.YtnogkkcmcnhodaaDoorRows
import Derived.Test.YtnogkkcmcnhodaaDoorData
import Derived.Test.YtnogkkcmcnhodaaDoorOpen
namespace Go.Proofs.YtnogkkcmcnhodaaDoor
open Go.ChangeShapes Go.WideShapes Go.ChangeAt Go.RowKit Go.Deep
set_option maxHeartbeats 1000000 in
set_option maxRecDepth 100000 in
theorem opensRule {H : Type} {enc : TypeId × Value → H} : Opens enc Tryd.prog 137 Rp.rule (fun x => wideRule x) := fun {w base spare held fuel cs x} h => by
  obtain ⟨xs, n, _, _, hl, hxl, hf⟩ := DataW.trod_struct Tryd.underlying137 h
  have hl0 : cs.length = 4 := hl.trans (by kernel_rfl)
  clear hl
  match cs, hl0 with
  | [v0, v1, v2, v3], _ =>
  obtain ⟨y0, g0, hr0, ok0⟩ := opens_field hf hxl 0 _ rfl 1 (by kernel_rfl) (opens_int Tryd.underlying3)
  obtain ⟨e0, _⟩ := hr0
  have q0 : v0 = .int .i64 y0 := by simpa using e0
  subst q0; clear e0
  obtain ⟨y1, g1, hr1, ok1⟩ := opens_field hf hxl 1 _ rfl 1 (by kernel_rfl) (opens_str Tryd.underlying9)
  obtain ⟨e1, _⟩ := hr1
  have q1 : v1 = .string y1 := by simpa using e1
  subst q1; clear e1
  obtain ⟨y2, g2, hr2, ok2⟩ := opens_field hf hxl 2 _ rfl 1 (by kernel_rfl) (opens_str Tryd.underlying9)
  obtain ⟨e2, _⟩ := hr2
  have q2 : v2 = .string y2 := by simpa using e2
  subst q2; clear e2
  obtain ⟨y3, g3, hr3, ok3⟩ := opens_field hf hxl 3 _ rfl 1 (by kernel_rfl) (opens_bool Tryd.underlying4)
  obtain ⟨e3, _⟩ := hr3
  have q3 : v3 = .bool y3 := by simpa using e3
  subst q3; clear e3
  exact ⟨⟨y0, y1, y2, y3⟩, [], ⟨rfl, rfl⟩, ⟨ok1, ok2⟩⟩
set_option maxHeartbeats 1000000 in
set_option maxRecDepth 100000 in
theorem opensFile {H : Type} {enc : TypeId × Value → H} : Opens enc Tryd.prog 161 Rp.file (fun x => wideFile x) := fun {w base spare held fuel cs x} h => by
  obtain ⟨xs, n, _, _, hl, hxl, hf⟩ := DataW.trod_struct Tryd.underlying161 h
  have hl0 : cs.length = 2 := hl.trans (by kernel_rfl)
  clear hl
  match cs, hl0 with
  | [v0, v1], _ =>
  obtain ⟨y0, g0, hr0, ok0⟩ := opens_field hf hxl 0 _ rfl 1 (by kernel_rfl) (opens_str Tryd.underlying9)
  obtain ⟨e0, _⟩ := hr0
  have q0 : v0 = .string y0 := by simpa using e0
  subst q0; clear e0
  obtain ⟨y1, g1, hr1, ok1⟩ := opens_field hf hxl 1 _ rfl 1 (by kernel_rfl) (opens_str Tryd.underlying9)
  obtain ⟨e1, _⟩ := hr1
  have q1 : v1 = .string y1 := by simpa using e1
  subst q1; clear e1
  exact ⟨⟨y0, y1⟩, [], ⟨rfl, rfl⟩, ⟨ok0, ok1⟩⟩
set_option maxHeartbeats 1000000 in
set_option maxRecDepth 100000 in
theorem opensRef {H : Type} {enc : TypeId × Value → H} : Opens enc Tryd.prog 141 Rp.ref (fun x => wideRef x) := fun {w base spare held fuel cs x} h => by
  obtain ⟨xs, n, _, _, hl, hxl, hf⟩ := DataW.trod_struct Tryd.underlying141 h
  have hl0 : cs.length = 4 := hl.trans (by kernel_rfl)
  clear hl
  match cs, hl0 with
  | [v0, v1, v2, v3], _ =>
  obtain ⟨y0, g0, hr0, ok0⟩ := opens_field hf hxl 0 _ rfl 1 (by kernel_rfl) (opens_str Tryd.underlying9)
  obtain ⟨e0, _⟩ := hr0
  have q0 : v0 = .string y0 := by simpa using e0
  subst q0; clear e0
  obtain ⟨y1, g1, hr1, ok1⟩ := opens_field hf hxl 1 _ rfl 1 (by kernel_rfl) (opens_bool Tryd.underlying4)
  obtain ⟨e1, _⟩ := hr1
  have q1 : v1 = .bool y1 := by simpa using e1
  subst q1; clear e1
  obtain ⟨y2, g2, hr2, ok2⟩ := opens_field hf hxl 2 _ rfl 1 (by kernel_rfl) (opens_int Tryd.underlying3)
  obtain ⟨e2, _⟩ := hr2
  have q2 : v2 = .int .i64 y2 := by simpa using e2
  subst q2; clear e2
  obtain ⟨y3, g3, hr3, ok3⟩ := opens_field hf hxl 3 _ rfl 1 (by kernel_rfl) (opens_slice Tryd.underlying139 (by kernel_rfl) (by decide) (opens_slice Tryd.underlying155 (by kernel_rfl) (by decide) opensFile))
  obtain ⟨A0, n0, c0, e3, hs0⟩ := hr3
  have q3 : v3 = .slice A0 n0 c0 := by simpa using e3
  subst q3; clear e3
  exact ⟨⟨y0, y1, y2, y3⟩, _, ⟨A0, n0, c0, g3, rfl, rfl, hs0⟩, ⟨ok0, ok3⟩⟩
set_option maxHeartbeats 1000000 in
set_option maxRecDepth 100000 in
theorem opensRepo {H : Type} {enc : TypeId × Value → H} : Opens enc Tryd.prog 84 Rp.repo (fun x => wideRepo x) := fun {w base spare held fuel cs x} h => by
  obtain ⟨xs, n, _, _, hl, hxl, hf⟩ := DataW.trod_struct Tryd.underlying84 h
  have hl0 : cs.length = 3 := hl.trans (by kernel_rfl)
  clear hl
  match cs, hl0 with
  | [v0, v1, v2], _ =>
  obtain ⟨y0, g0, hr0, ok0⟩ := opens_field hf hxl 0 _ rfl 1 (by kernel_rfl) (opens_int Tryd.underlying3)
  obtain ⟨e0, _⟩ := hr0
  have q0 : v0 = .int .i64 y0 := by simpa using e0
  subst q0; clear e0
  obtain ⟨y1, g1, hr1, ok1⟩ := opens_field hf hxl 1 _ rfl 1 (by kernel_rfl) (opens_slice Tryd.underlying81 (by kernel_rfl) (by decide) opensRule)
  obtain ⟨A0, n0, c0, e1, hs0⟩ := hr1
  have q1 : v1 = .slice A0 n0 c0 := by simpa using e1
  subst q1; clear e1
  obtain ⟨y2, g2, hr2, ok2⟩ := opens_field hf hxl 2 _ rfl 1 (by kernel_rfl) (opens_slice Tryd.underlying82 (by kernel_rfl) (by decide) opensRef)
  obtain ⟨A1, n1, c1, e2, hs1⟩ := hr2
  have q2 : v2 = .slice A1 n1 c1 := by simpa using e2
  subst q2; clear e2
  exact ⟨⟨y0, y1, y2⟩, _, ⟨A0, n0, c0, g1, A1, n1, c1, g2, rfl, rfl, hs0, hs1⟩, ⟨ok1, ok2⟩⟩
set_option maxHeartbeats 1000000 in
set_option maxRecDepth 100000 in
theorem opensHouse {H : Type} {enc : TypeId × Value → H} : Opens enc Tryd.prog 34 Rp.house (fun x => wideHouse x) := fun {w base spare held fuel cs x} h => by
  obtain ⟨xs, n, _, _, hl, hxl, hf⟩ := DataW.trod_struct Tryd.underlying34 h
  have hl0 : cs.length = 3 := hl.trans (by kernel_rfl)
  clear hl
  match cs, hl0 with
  | [v0, v1, v2], _ =>
  obtain ⟨y0, g0, hr0, ok0⟩ := opens_field hf hxl 0 _ rfl 1 (by kernel_rfl) (opens_slice Tryd.underlying22 (by kernel_rfl) (by decide) (opens_int Tryd.underlying3))
  obtain ⟨A0, n0, c0, e0, hs0⟩ := hr0
  have q0 : v0 = .slice A0 n0 c0 := by simpa using e0
  subst q0; clear e0
  obtain ⟨y1, g1, hr1, ok1⟩ := opens_field hf hxl 1 _ rfl 1 (by kernel_rfl) (opens_slice Tryd.underlying22 (by kernel_rfl) (by decide) (opens_int Tryd.underlying3))
  obtain ⟨A1, n1, c1, e1, hs1⟩ := hr1
  have q1 : v1 = .slice A1 n1 c1 := by simpa using e1
  subst q1; clear e1
  obtain ⟨y2, g2, hr2, ok2⟩ := opens_field hf hxl 2 _ rfl 1 (by kernel_rfl) (opens_slice Tryd.underlying32 (by kernel_rfl) (by decide) opensRepo)
  obtain ⟨A2, n2, c2, e2, hs2⟩ := hr2
  have q2 : v2 = .slice A2 n2 c2 := by simpa using e2
  subst q2; clear e2
  exact ⟨⟨y0, y1, y2⟩, _, ⟨A0, n0, c0, g0, A1, n1, c1, g1, A2, n2, c2, g2, rfl, rfl, hs0, hs1, hs2⟩, ok2⟩
end Go.Proofs.YtnogkkcmcnhodaaDoor
