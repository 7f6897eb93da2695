/- Lemmas and walks, joined by program (wip/gen/merge.py). -/
import Derived.ProofKit
import Derived.Deep.Slices
import Derived.Deep.Fields
import Derived.Test.YtnogkkcmcnhodaaGreatDoorZ1
import Derived.Test.YtnogkkcmcnhodaaGreatDoorRows
namespace Go.Proofs.YtnogkkcmcnhodaaGreatDoor
open Go.ChangeShapes Go.WideShapes Go.ChangeAt Go.RowKit Go.Deep

def Opens {α H : Type} (enc : TypeId × Value → H) (P : Program) (t : TypeId) (r : Rp α) (ok : α → Prop) : Prop :=
 ∀ {w : World} {base : Nat} {spare : Nat → Bool} {held : Bool} {fuel : Nat} {cs : List Value} {x : DataW H × List MemPlace}, DataW.trod enc P w base spare held fuel t cs = some x → ∃ y fp, r.R w cs y fp ∧ ok y

section
variable {H : Type} {enc : TypeId × Value → H} {P : Program}
theorem opens_int {t : TypeId} (ht : P.underlying t = some (.int .i64)) : Opens enc P t Rp.int (fun x => -9223372036854775808 ≤ x ∧ x ≤ 9223372036854775807) := fun h => by
 obtain ⟨n, rfl, _, hw⟩ := DataW.trod_int ht h
 refine ⟨n, [], ⟨rfl, rfl⟩, ?_⟩
 simp [Lit.wf, IntKind.min, IntKind.max, IntKind.signed, IntKind.bits] at hw
 omega
theorem opens_bool {t : TypeId} (ht : P.underlying t = some .bool) : Opens enc P t Rp.bool (fun _ => True) := fun h => by
 obtain ⟨n, rfl, _⟩ := DataW.trod_bool ht h
 exact ⟨n, [], ⟨rfl, rfl⟩, trivial⟩
theorem opens_str {t : TypeId} (ht : P.underlying t = some .string) : Opens enc P t Rp.str (fun s => s.size ≤ 9223372036854775807) := fun h => by
 obtain ⟨n, rfl, _, hs⟩ := DataW.trod_string ht h
 refine ⟨n, [], ⟨rfl, rfl⟩, ?_⟩
 unfold maxLen at hs
 omega

theorem spot_none {w : World} {a : Addr} {v : Value} (h : w.cell? a = some v) : a.spot = none := by
 unfold World.cell? at h
 split at h
 ·split at h
  ·cases h
  ·rename_i hs; simpa using hs
 ·cases h

theorem opens_rows {α : Type} {r : Rp α} {ok : α → Prop} {w : World} {base : Nat} {a : Addr} : ∀ (len : Nat), (∀ i, i < len → ∃ cs' y f, w.cells? base (a.add (i * r.k)) r.k = some cs' ∧ r.R w cs' y f ∧ ok y) →
  ∃ xs l fp, l.length = len ∧ AllR r w xs l fp ∧ (∀ y ∈ l, ok y) ∧ ∀ j u, xs[j]? = some u → w.cell? (a.add j) = some u
 | 0, _ => ⟨[], [], [], rfl, ⟨rfl, rfl⟩, by simp, by simp⟩
 | len + 1, h => by
  obtain ⟨xs, l, fp, hl, ha, hok, hc⟩ := opens_rows len (fun i hi => h i (by omega))
  obtain ⟨cs', y, f, hcs, hr, hy⟩ := h len (by omega)
  obtain ⟨_, hcl, hat⟩ := World.cells?_some hcs
  have hxl := ha.len
  refine ⟨xs ++ cs', l ++ [y], fp ++ f, by simp [hl], ha.snoc hr, fun z hz => ?_, fun j u hu => ?_⟩
  ·rcases List.mem_append.1 hz with hz | hz
   ·exact hok z hz
   ·simp at hz; subst hz; exact hy
  ·by_cases hj : j < xs.length
   ·rw [List.getElem?_append_left hj] at hu; exact hc j u hu
   ·rw [List.getElem?_append_right (by omega)] at hu
    have hlt := (List.getElem?_eq_some_iff.1 hu).1
    have := hat (i := j - xs.length) (by omega)
    rw [hu] at this
    rw [Go.Deep.add_add, show len * r.k + (j - xs.length) = j from by rw [hl] at hxl; omega] at this
    exact this

theorem opens_slice {α : Type} {r : Rp α} {ok : α → Prop} {t e : TypeId} (ht : P.underlying t = some (.slice e)) (hC : P.cellsOf e = r.k) (hk : 0 < r.k) (h : Opens enc P e r ok) : Opens enc P t (Rp.slice r) (fun l => ∀ y ∈ l, ok y) := fun {w base spare held fuel cs x} hr => by
 rcases open_slice ht hr with ⟨rfl, _⟩ | ⟨a, len, cap, m, n, D, Pl, rfl, hb, hl, hm, hmm, _, hi⟩
 ·exact ⟨[], [], ⟨none, 0, 0, rfl, SlR.nil⟩, by simp⟩
 ·have hle : len ≤ m := by rw [hmm]; split <;> omega
  rw [hC] at hi
  obtain ⟨xs, l, fp, hlen, ha, hok, hc⟩ := opens_rows (r := r) (ok := ok) (w := w) (base := base) (a := a) len (fun i hii => by
   obtain ⟨cs', hcs, htr⟩ := hi i (by omega)
   obtain ⟨y, f, hR, hy⟩ := h htr
   exact ⟨cs', y, f, hcs, hR, hy⟩)
  have hxl := ha.len
  by_cases h0 : len = 0
  ·subst h0
   have : l = [] := List.eq_nil_of_length_eq_zero hlen
   subst this
   obtain ⟨rfl, rfl⟩ := ha
   exact ⟨[], [], ⟨some a, 0, cap, rfl, rfl, Nat.zero_le _, hm, [], [], [], ⟨by simp, .inl ⟨rfl, rfl⟩⟩, ⟨rfl, rfl⟩, rfl⟩, by simp⟩
  ·have hpos : 0 < xs.length := by rw [hxl, hlen]; exact Nat.mul_pos (by omega) hk
   have h00 := hc 0 xs[0] (List.getElem?_eq_getElem hpos)
   have ha0 : a.add 0 = a := by simp [Addr.add]
   rw [ha0] at h00
   obtain ⟨b, o, s⟩ := a
   have hs : s = none := spot_none h00
   subst hs
   refine ⟨l, [b] ++ fp, ⟨_, len, cap, rfl, hlen.symm, hl, hm, xs, [b], fp, ⟨by rw [hxl, hlen], .inr ⟨by omega, b, o, rfl, rfl, World.block_lt_of_cell? w _ h00, fun j u hu => ?_⟩⟩, ha, rfl⟩, hok⟩
   have := hc j u hu
   rwa [Addr.add_lit] at this

theorem opens_field {α : Type} {r : Rp α} {ok : α → Prop} {w : World} {base : Nat} {spare : Nat → Bool} {held : Bool} {n : Nat} {cs : List Value} {xs : List (DataW H × List MemPlace)} {fs : Array Field}
  (hf : ∀ (i : Nat) (f : Field), fs[i]? = some f → DataW.trod enc P w base spare held n f.type ((cs.drop f.offset).take (P.cellsOf f.type)) = xs[i]?) (hxl : xs.length = fs.size)
  (i : Nat) (f : Field) (hi : fs[i]? = some f) (k : Nat) (hk : P.cellsOf f.type = k) (ho : Opens enc P f.type r ok) : ∃ y fp, r.R w ((cs.drop f.offset).take k) y fp ∧ ok y := by
 have h := hf i f hi
 have hlt : i < xs.length := by rw [hxl]; exact (Array.getElem?_eq_some_iff.1 hi).1
 rw [List.getElem?_eq_getElem hlt, hk] at h
 exact ho h

theorem post_of_below {f : Func} {s : ChangeSpec} {apart fresh handsOn again : Bool} {W W' : World} {args : Array Value} {v : Value} {ds gs : List (DataW H)} {before pa pv : List MemPlace}
  (hW : DataW.Whole enc P f.params.toList s.vars apart W args.toList ds gs before)
  (hres : ∀ (b : Nat) (sp : Nat → Bool) (hd : Bool), DataW.TrodAll enc P W' b sp hd f.resultTypes.toList (v.resultList f.resultTypes.size) (s.fn H (ds ++ gs)).results [])
  (hargs : ∀ sp : Nat → Bool, (∀ p ∈ before, sp p.block = true) → DataW.TrodAll enc P W' 0 sp true f.params.toList args.toList (s.fn H (ds ++ gs)).args pa)
  (hvars : ∀ sp : Nat → Bool, (∀ p ∈ before, sp p.block = true) → DataW.TrodVars enc P W' sp s.vars (s.fn H (ds ++ gs)).vars pv)
  (hps : before = pa ++ pv) (hb : Below W.heap.size W W')
  (hok : ∀ (j : Nat) (t : TypeId) (r : Value), f.resultTypes[j]? = some t → (v.resultList f.resultTypes.size)[j]? = some r → Value.okWide P W' .any 0 t r) :
  s.post enc P f apart fresh handsOn again W args v W' := by
 have hlt : ∀ p ∈ before, p.block < W.heap.size := fun p hp => hW.lt p hp
 have hold : ∀ p ∈ before, (fun b => decide (b < W.heap.size)) p.block = true := fun p hp => by simpa using hlt p hp
 refine ⟨ds, gs, before, [], pa, pv, hW, hres _ _ _, hargs _ hold, hvars _ hold, World.keptBut_mono (fun p hp => ⟨hp, ?_⟩) (hb.frame (· ∈ before)), fun _ => ?_⟩
 ·rw [hps, List.mem_append] at hp
  exact Or.inr hp
 ·obtain ⟨_, _, _, _, _, hz, hn⟩ := hW
  refine ⟨hok, _, _, ([] ++ pa) ++ pv, ⟨[] ++ pa, pv, trodAll_append (hargs _ (fun _ _ => rfl)) (hres _ _ _), hvars _ (fun _ _ => rfl), rfl, ?_, ?_⟩, ?_⟩
  ·intro b off hp
   have hin : MemPlace.cell b off ∈ before := by rw [hps]; simpa using hp
   rw [hb.frozen (hlt _ hin)]
   exact hz b off hin
  ·intro ha
   have := hn ha
   rw [hps] at this
   simpa using this
  ·intro p hp _
   rw [hps]
   simpa using hp
end

set_option maxHeartbeats 1000000 in
set_option maxRecDepth 100000 in
theorem opensEdit {H : Type} {enc : TypeId × Value → H} : Opens enc Tryz.prog 115 Rp.edit (fun x => wideEdit x) := fun {w base spare held fuel cs x} h => by
 obtain ⟨xs, n, _, _, hl, hxl, hf⟩ := DataW.trod_struct Tryz.underlying115 h
 have hl0 : cs.length = 3 := hl.trans (by kernel_rfl)
 clear hl
 match cs, hl0 with
 | [v0, v1, v2], _ =>
 obtain ⟨y0, g0, hr0, ok0⟩ := opens_field hf hxl 0 _ rfl 1 (by kernel_rfl) (opens_str Tryz.underlying9)
 obtain ⟨e0, _⟩ := hr0
 have q0 : v0 = .string y0 := by simpa using e0
 subst q0; clear e0
 obtain ⟨y1, g1, hr1, ok1⟩ := opens_field hf hxl 1 _ rfl 1 (by kernel_rfl) (opens_str Tryz.underlying9)
 obtain ⟨e1, _⟩ := hr1
 have q1 : v1 = .string y1 := by simpa using e1
 subst q1; clear e1
 obtain ⟨y2, g2, hr2, ok2⟩ := opens_field hf hxl 2 _ rfl 1 (by kernel_rfl) (opens_bool Tryz.underlying4)
 obtain ⟨e2, _⟩ := hr2
 have q2 : v2 = .bool y2 := by simpa using e2
 subst q2; clear e2
 exact ⟨⟨y0, y1, y2⟩, [], ⟨rfl, rfl⟩, ⟨ok0, ok1⟩⟩
set_option maxHeartbeats 1000000 in
set_option maxRecDepth 100000 in
theorem opensRule {H : Type} {enc : TypeId × Value → H} : Opens enc Tryz.prog 28 Rp.rule (fun x => wideRule x) := fun {w base spare held fuel cs x} h => by
 obtain ⟨xs, n, _, _, hl, hxl, hf⟩ := DataW.trod_struct Tryz.underlying28 h
 have hl0 : cs.length = 4 := hl.trans (by kernel_rfl)
 clear hl
 match cs, hl0 with
 | [v0, v1, v2, v3], _ =>
 obtain ⟨y0, g0, hr0, ok0⟩ := opens_field hf hxl 0 _ rfl 1 (by kernel_rfl) (opens_int Tryz.underlying3)
 obtain ⟨e0, _⟩ := hr0
 have q0 : v0 = .int .i64 y0 := by simpa using e0
 subst q0; clear e0
 obtain ⟨y1, g1, hr1, ok1⟩ := opens_field hf hxl 1 _ rfl 1 (by kernel_rfl) (opens_str Tryz.underlying9)
 obtain ⟨e1, _⟩ := hr1
 have q1 : v1 = .string y1 := by simpa using e1
 subst q1; clear e1
 obtain ⟨y2, g2, hr2, ok2⟩ := opens_field hf hxl 2 _ rfl 1 (by kernel_rfl) (opens_str Tryz.underlying9)
 obtain ⟨e2, _⟩ := hr2
 have q2 : v2 = .string y2 := by simpa using e2
 subst q2; clear e2
 obtain ⟨y3, g3, hr3, ok3⟩ := opens_field hf hxl 3 _ rfl 1 (by kernel_rfl) (opens_bool Tryz.underlying4)
 obtain ⟨e3, _⟩ := hr3
 have q3 : v3 = .bool y3 := by simpa using e3
 subst q3; clear e3
 exact ⟨⟨y0, y1, y2, y3⟩, [], ⟨rfl, rfl⟩, ⟨ok1, ok2⟩⟩
set_option maxHeartbeats 1000000 in
set_option maxRecDepth 100000 in
theorem opensFile {H : Type} {enc : TypeId × Value → H} : Opens enc Tryz.prog 207 Rp.file (fun x => wideFile x) := fun {w base spare held fuel cs x} h => by
 obtain ⟨xs, n, _, _, hl, hxl, hf⟩ := DataW.trod_struct Tryz.underlying207 h
 have hl0 : cs.length = 2 := hl.trans (by kernel_rfl)
 clear hl
 match cs, hl0 with
 | [v0, v1], _ =>
 obtain ⟨y0, g0, hr0, ok0⟩ := opens_field hf hxl 0 _ rfl 1 (by kernel_rfl) (opens_str Tryz.underlying9)
 obtain ⟨e0, _⟩ := hr0
 have q0 : v0 = .string y0 := by simpa using e0
 subst q0; clear e0
 obtain ⟨y1, g1, hr1, ok1⟩ := opens_field hf hxl 1 _ rfl 1 (by kernel_rfl) (opens_str Tryz.underlying9)
 obtain ⟨e1, _⟩ := hr1
 have q1 : v1 = .string y1 := by simpa using e1
 subst q1; clear e1
 exact ⟨⟨y0, y1⟩, [], ⟨rfl, rfl⟩, ⟨ok0, ok1⟩⟩
set_option maxHeartbeats 1000000 in
set_option maxRecDepth 100000 in
theorem opensReq {H : Type} {enc : TypeId × Value → H} : Opens enc Tryz.prog 30 Rp.req (fun x => wideReq x) := fun {w base spare held fuel cs x} h => by
 obtain ⟨xs, n, _, _, hl, hxl, hf⟩ := DataW.trod_struct Tryz.underlying30 h
 have hl0 : cs.length = 15 := hl.trans (by kernel_rfl)
 clear hl
 match cs, hl0 with
 | [v0, v1, v2, v3, v4, v5, v6, v7, v8, v9, v10, v11, v12, v13, v14], _ =>
 obtain ⟨y0, g0, hr0, ok0⟩ := opens_field hf hxl 0 _ rfl 1 (by kernel_rfl) (opens_int Tryz.underlying3)
 obtain ⟨e0, _⟩ := hr0
 have q0 : v0 = .int .i64 y0 := by simpa using e0
 subst q0; clear e0
 obtain ⟨y1, g1, hr1, ok1⟩ := opens_field hf hxl 1 _ rfl 1 (by kernel_rfl) (opens_int Tryz.underlying3)
 obtain ⟨e1, _⟩ := hr1
 have q1 : v1 = .int .i64 y1 := by simpa using e1
 subst q1; clear e1
 obtain ⟨y2, g2, hr2, ok2⟩ := opens_field hf hxl 2 _ rfl 1 (by kernel_rfl) (opens_int Tryz.underlying3)
 obtain ⟨e2, _⟩ := hr2
 have q2 : v2 = .int .i64 y2 := by simpa using e2
 subst q2; clear e2
 obtain ⟨y3, g3, hr3, ok3⟩ := opens_field hf hxl 3 _ rfl 1 (by kernel_rfl) (opens_int Tryz.underlying3)
 obtain ⟨e3, _⟩ := hr3
 have q3 : v3 = .int .i64 y3 := by simpa using e3
 subst q3; clear e3
 obtain ⟨y4, g4, hr4, ok4⟩ := opens_field hf hxl 4 _ rfl 1 (by kernel_rfl) (opens_str Tryz.underlying9)
 obtain ⟨e4, _⟩ := hr4
 have q4 : v4 = .string y4 := by simpa using e4
 subst q4; clear e4
 obtain ⟨y5, g5, hr5, ok5⟩ := opens_field hf hxl 5 _ rfl 1 (by kernel_rfl) (opens_str Tryz.underlying9)
 obtain ⟨e5, _⟩ := hr5
 have q5 : v5 = .string y5 := by simpa using e5
 subst q5; clear e5
 obtain ⟨y6, g6, hr6, ok6⟩ := opens_field hf hxl 6 _ rfl 1 (by kernel_rfl) (opens_int Tryz.underlying3)
 obtain ⟨e6, _⟩ := hr6
 have q6 : v6 = .int .i64 y6 := by simpa using e6
 subst q6; clear e6
 obtain ⟨y7, g7, hr7, ok7⟩ := opens_field hf hxl 7 _ rfl 1 (by kernel_rfl) (opens_int Tryz.underlying3)
 obtain ⟨e7, _⟩ := hr7
 have q7 : v7 = .int .i64 y7 := by simpa using e7
 subst q7; clear e7
 obtain ⟨y8, g8, hr8, ok8⟩ := opens_field hf hxl 8 _ rfl 1 (by kernel_rfl) (opens_slice Tryz.underlying26 (by kernel_rfl) (by decide) opensEdit)
 obtain ⟨A0, n0, c0, e8, hs0⟩ := hr8
 have q8 : v8 = .slice A0 n0 c0 := by simpa using e8
 subst q8; clear e8
 obtain ⟨y9, g9, hr9, ok9⟩ := opens_field hf hxl 9 _ rfl 4 (by kernel_rfl) opensRule
 obtain ⟨e9, _⟩ := hr9
 have q9 : [v9, v10, v11, v12] = encRule y9 := by simpa using e9
 simp only [encRule, List.cons.injEq, and_true] at q9
 obtain ⟨rfl, rfl, rfl, rfl⟩ := q9
 clear e9
 obtain ⟨y10, g10, hr10, ok10⟩ := opens_field hf hxl 10 _ rfl 1 (by kernel_rfl) (opens_int Tryz.underlying3)
 obtain ⟨e10, _⟩ := hr10
 have q13 : v13 = .int .i64 y10 := by simpa using e10
 subst q13; clear e10
 obtain ⟨y11, g11, hr11, ok11⟩ := opens_field hf hxl 11 _ rfl 1 (by kernel_rfl) (opens_str Tryz.underlying9)
 obtain ⟨e11, _⟩ := hr11
 have q14 : v14 = .string y11 := by simpa using e11
 subst q14; clear e11
 exact ⟨⟨y0, y1, y2, y3, y4, y5, y6, y7, y8, y9, y10, y11⟩, _, ⟨A0, n0, c0, g8, rfl, rfl, hs0⟩, ⟨ok4, ok5, ok8, ok9, ok11⟩⟩
set_option maxHeartbeats 1000000 in
set_option maxRecDepth 100000 in
theorem opensRef {H : Type} {enc : TypeId × Value → H} : Opens enc Tryz.prog 179 Rp.ref (fun x => wideRef x) := fun {w base spare held fuel cs x} h => by
 obtain ⟨xs, n, _, _, hl, hxl, hf⟩ := DataW.trod_struct Tryz.underlying179 h
 have hl0 : cs.length = 4 := hl.trans (by kernel_rfl)
 clear hl
 match cs, hl0 with
 | [v0, v1, v2, v3], _ =>
 obtain ⟨y0, g0, hr0, ok0⟩ := opens_field hf hxl 0 _ rfl 1 (by kernel_rfl) (opens_str Tryz.underlying9)
 obtain ⟨e0, _⟩ := hr0
 have q0 : v0 = .string y0 := by simpa using e0
 subst q0; clear e0
 obtain ⟨y1, g1, hr1, ok1⟩ := opens_field hf hxl 1 _ rfl 1 (by kernel_rfl) (opens_bool Tryz.underlying4)
 obtain ⟨e1, _⟩ := hr1
 have q1 : v1 = .bool y1 := by simpa using e1
 subst q1; clear e1
 obtain ⟨y2, g2, hr2, ok2⟩ := opens_field hf hxl 2 _ rfl 1 (by kernel_rfl) (opens_int Tryz.underlying3)
 obtain ⟨e2, _⟩ := hr2
 have q2 : v2 = .int .i64 y2 := by simpa using e2
 subst q2; clear e2
 obtain ⟨y3, g3, hr3, ok3⟩ := opens_field hf hxl 3 _ rfl 1 (by kernel_rfl) (opens_slice Tryz.underlying177 (by kernel_rfl) (by decide) (opens_slice Tryz.underlying198 (by kernel_rfl) (by decide) opensFile))
 obtain ⟨A0, n0, c0, e3, hs0⟩ := hr3
 have q3 : v3 = .slice A0 n0 c0 := by simpa using e3
 subst q3; clear e3
 exact ⟨⟨y0, y1, y2, y3⟩, _, ⟨A0, n0, c0, g3, rfl, rfl, hs0⟩, ⟨ok0, ok3⟩⟩
set_option maxHeartbeats 1000000 in
set_option maxRecDepth 100000 in
theorem opensRepo {H : Type} {enc : TypeId × Value → H} : Opens enc Tryz.prog 112 Rp.repo (fun x => wideRepo x) := fun {w base spare held fuel cs x} h => by
 obtain ⟨xs, n, _, _, hl, hxl, hf⟩ := DataW.trod_struct Tryz.underlying112 h
 have hl0 : cs.length = 3 := hl.trans (by kernel_rfl)
 clear hl
 match cs, hl0 with
 | [v0, v1, v2], _ =>
 obtain ⟨y0, g0, hr0, ok0⟩ := opens_field hf hxl 0 _ rfl 1 (by kernel_rfl) (opens_int Tryz.underlying3)
 obtain ⟨e0, _⟩ := hr0
 have q0 : v0 = .int .i64 y0 := by simpa using e0
 subst q0; clear e0
 obtain ⟨y1, g1, hr1, ok1⟩ := opens_field hf hxl 1 _ rfl 1 (by kernel_rfl) (opens_slice Tryz.underlying109 (by kernel_rfl) (by decide) opensRule)
 obtain ⟨A0, n0, c0, e1, hs0⟩ := hr1
 have q1 : v1 = .slice A0 n0 c0 := by simpa using e1
 subst q1; clear e1
 obtain ⟨y2, g2, hr2, ok2⟩ := opens_field hf hxl 2 _ rfl 1 (by kernel_rfl) (opens_slice Tryz.underlying110 (by kernel_rfl) (by decide) opensRef)
 obtain ⟨A1, n1, c1, e2, hs1⟩ := hr2
 have q2 : v2 = .slice A1 n1 c1 := by simpa using e2
 subst q2; clear e2
 exact ⟨⟨y0, y1, y2⟩, _, ⟨A0, n0, c0, g1, A1, n1, c1, g2, rfl, rfl, hs0, hs1⟩, ⟨ok1, ok2⟩⟩
set_option maxHeartbeats 1000000 in
set_option maxRecDepth 100000 in
theorem opensHouse {H : Type} {enc : TypeId × Value → H} : Opens enc Tryz.prog 25 Rp.house (fun x => wideHouse x) := fun {w base spare held fuel cs x} h => by
 obtain ⟨xs, n, _, _, hl, hxl, hf⟩ := DataW.trod_struct Tryz.underlying25 h
 have hl0 : cs.length = 3 := hl.trans (by kernel_rfl)
 clear hl
 match cs, hl0 with
 | [v0, v1, v2], _ =>
 obtain ⟨y0, g0, hr0, ok0⟩ := opens_field hf hxl 0 _ rfl 1 (by kernel_rfl) (opens_slice Tryz.underlying22 (by kernel_rfl) (by decide) (opens_int Tryz.underlying3))
 obtain ⟨A0, n0, c0, e0, hs0⟩ := hr0
 have q0 : v0 = .slice A0 n0 c0 := by simpa using e0
 subst q0; clear e0
 obtain ⟨y1, g1, hr1, ok1⟩ := opens_field hf hxl 1 _ rfl 1 (by kernel_rfl) (opens_slice Tryz.underlying22 (by kernel_rfl) (by decide) (opens_int Tryz.underlying3))
 obtain ⟨A1, n1, c1, e1, hs1⟩ := hr1
 have q1 : v1 = .slice A1 n1 c1 := by simpa using e1
 subst q1; clear e1
 obtain ⟨y2, g2, hr2, ok2⟩ := opens_field hf hxl 2 _ rfl 1 (by kernel_rfl) (opens_slice Tryz.underlying23 (by kernel_rfl) (by decide) opensRepo)
 obtain ⟨A2, n2, c2, e2, hs2⟩ := hr2
 have q2 : v2 = .slice A2 n2 c2 := by simpa using e2
 subst q2; clear e2
 exact ⟨⟨y0, y1, y2⟩, _, ⟨A0, n0, c0, g0, A1, n1, c1, g1, A2, n2, c2, g2, rfl, rfl, hs0, hs1, hs2⟩, ok2⟩
end Go.Proofs.YtnogkkcmcnhodaaGreatDoor
