/- Walks: houses at their beginning, of the program. By program (wip/gen/gen_nw.py). -/
import Derived.Test.YtnogkkcmcnhodaaDoorOg
import Derived.Test.YtnogkkcmcnhodaaDoorTv
import Derived.Test.YtnogkkcmcnhodaaDoorMp
import Derived.Deep.CutRange
namespace Go.Proofs.YtnogkkcmcnhodaaDoor
open Go.RowKit
attribute [local go_sem ↓] Go.wp_at_zero Go.wp_at_succ

def zeros (l : List Int) : List Int := l.map fun _ => 0
def rawHouse (keys admins : List Int) : House := ⟨keys, zeros keys, admins.map fun a => ⟨a, [], []⟩⟩
def mdlNew (keys admins : List Int) : House := if mdlOk (rawHouse keys admins) = true then rawHouse keys admins else ⟨[], [], []⟩
theorem zeros_length (l : List Int) : (zeros l).length = l.length := by simp [zeros]
theorem fit_raw (keys admins : List Int) : fitHouse (rawHouse keys admins) := fun i h => by
  have e : (rawHouse keys admins).repos[i] = ⟨admins[i]'(by simpa [rawHouse] using h), [], []⟩ := by simp [rawHouse]
  rw [e]
  exact ⟨fun i h => by simp at h, by simp, fun i h => by simp at h⟩

theorem grown_only {w w' : World} {v : Value} (h : w.grownBy w' v.ownBlock) : Only (vblk v) w w' :=
  ⟨h.os, h.tape, h.output, h.size, fun i hi hn => h.block i hi fun e => hn (by unfold vblk; rw [← e]; simp)⟩

theorem infoC_Repo : (Tryd.prog.info? 52).map (fun i => (i.zero, i.size, i.bytes)) = some (some (.agg #[.int .i64 0, .slice none 0 0, .slice none 0 0]), 3, 56) := by kernel_rfl
theorem setCell3 {B g i j k : Nat} {u v y : Value} {a w : World} (h : Below B a w) (hg : B ≤ g) : Below B a (((w.setCell ⟨g, i, none⟩ u).setCell ⟨g, j, none⟩ v).setCell ⟨g, k, none⟩ y) := ((h.setCell hg u).setCell hg v).setCell hg y
theorem int_one (x : Int) : ∀ u ∈ [Value.int .i64 x], u.oneCell' = true := by intro u hu; simp at hu; subst hu; rfl

theorem getD_keep {L : Array Bool} {i j : Nat} (h : L.getD j false = true) : (L.setIfInBounds i true).getD j false = true := by
  by_cases e : i = j
  · subst e
    have : i < L.size := by
      rcases Nat.lt_or_ge i L.size with h' | h'
      · exact h'
      · simp [Array.getD, Nat.not_lt.2 h'] at h
    simp [this]
  · rw [getD_set_ne false e]; exact h

/-- A row of flat things of the call's own. -/
def RowOf {α : Type} (r : Rp α) (l : List α) (v : Value) (w : World) : Prop := ∃ A c f, v = .slice A l.length c ∧ SlR r w A l.length c l f ∧ f.Nodup ∧ Free w f ∧ ∀ z ∈ f, z ∈ vbk v
theorem RowOf.step {α : Type} {r : Rp α} {l : List α} {v : Value} {w w' : World} (h : RowOf r l v w) (hb : Below w.heap.size w w') : RowOf r l v w' := by
  obtain ⟨A, c, f, e, h1, h2, h3, h4⟩ := h
  exact ⟨A, c, f, e, h1.step hb, h2, h3.step hb, h4⟩
theorem RowOf.of_owns {α : Type} {k : Nat} {enc : α → List Value} {hk : ∀ x, (enc x).length = k} {h1 : ∀ x, ∀ u ∈ enc x, u.oneCell' = true} {w w0 : World} {e : TypeId} {v : Value} {l : List α} {zs : List Value} {f1 : List Nat}
    (h : w.ownsRow 0 e k v l.length zs) (ha : AllR (Rp.flat k enc hk h1) w0 zs l f1) : RowOf (Rp.flat k enc hk h1) l v w := by
  obtain ⟨rfl, rfl⟩ := AllR.flat.1 ha
  obtain ⟨A, c, f0, rfl, hs, h0, hn, hf⟩ := SlR.of_owns (r := Rp.flat k enc hk h1) (f1 := []) h (AllR.flat.2 ⟨rfl, rfl⟩)
  refine ⟨A, c, f0, rfl, by simpa using hs, hn, hf, fun z hz => ?_⟩
  have := (h0 z hz).1
  cases A with
  | none => simp [Value.ownBlock] at this
  | some a => simp [Value.ownBlock] at this; simp [vbk, this]
theorem vbk_of_own {v : Value} {A : Option Addr} {n c : Nat} (h : v = .slice A n c) {z : Nat} (hz : z ∈ vbk v) : v.ownBlock = some z := by
  subst h
  cases A with
  | none => simp [vbk] at hz
  | some a => simp [vbk] at hz; simp [Value.ownBlock, hz]
def BelowT (w w' : World) : Prop := Below w.heap.size w w'
theorem BelowT.refl (w : World) : BelowT w w := Below.refl _ _


/-- A house that is being built: its keys and what was used are there. -/
def Half (x : House) (H : Nat) (w0 : World) (p : Value) (wx : World) : Prop :=
  ∃ b AK cK fK AU cU fU, p = .pointer (some ⟨b, 0, none⟩) ∧ Blk wx b 25 #[.slice AK x.keys.length cK, .slice AU x.used.length cU, .slice none 0 0] ∧
    SlR Rp.int wx AK x.keys.length cK x.keys fK ∧ SlR Rp.int wx AU x.used.length cU x.used fU ∧ fK.Nodup ∧ fU.Nodup ∧ (∀ z ∈ fK, H ≤ z ∧ z ≠ b ∧ z ∉ fU) ∧ (∀ z ∈ fU, H ≤ z ∧ z ≠ b) ∧ H ≤ b ∧ Free wx fK ∧ Free wx fU ∧ Below H w0 wx


/-! The region in which the keys are copied, and what is used is laid out (program). -/
def nwΓ (keys : List Int) (A0 : Option Addr) (c0 : Nat) : Facts := fun t v w => match t with
  | 0 => v = .slice A0 keys.length c0
  | 8 => v = .slice A0 keys.length c0
  | 9 => RowOf Rp.int keys v w
  | 10 => v = .slice A0 keys.length c0
  | 11 => v = .int .i64 (keys.length : Int)
  | 12 => RowOf Rp.int (zeros keys) v w
  | 5 => ∃ b, v = .pointer (some ⟨b, 0, none⟩) ∧ Blk w b 25 #[.slice none 0 0, .slice none 0 0, .slice none 0 0]
  | _ => True
theorem nwΓ_stays (keys : List Int) (A0 : Option Addr) (c0 : Nat) : Stays BelowT (nwΓ keys A0 c0) := fun t v w w' h ho => by
  unfold BelowT at ho
  unfold nwΓ at *
  split at h <;> first | exact h | exact h.step ho | (obtain ⟨g, e, h⟩ := h; exact ⟨g, e, h.step ho⟩)
def nwGr : Tmp → Option (Nat × Nat) := fun t => match t with
  | 9 => some (0, 1)
  | 12 => some (1, 4)
  | 5 => some (2, 6)
  | _ => none
def nwC (w0 : World) (L : Array Bool) (τ : Tmp → Value) (w : World) : Prop :=
  Below w0.heap.size w0 w ∧ Apart nwGr w0.heap.size L τ w ∧ (L.getD 5 false = true → L.getD 1 false = true ∧ L.getD 4 false = true ∧ τ 13 = .agg #[τ 9, τ 12, .slice none 0 0])
theorem nw_one {i : Nat} : ∀ (s g : Nat), nwGr s = some (g, i) → (s = 9 ∧ i = 1) ∨ (s = 12 ∧ i = 4) ∨ (s = 5 ∧ i = 6) := fun s g h => by
  unfold nwGr at h
  split at h <;> cases h <;> simp
theorem nwC_quiet {w0 w : World} {L : Array Bool} {τ : Tmp → Value} {i d : Nat} {u : Value} (h : nwC w0 L τ w) (hi : i = 0 ∨ i = 2 ∨ i = 3) (hd : d ≠ 9 ∧ d ≠ 12 ∧ d ≠ 5 ∧ d ≠ 13) : nwC w0 (L.setIfInBounds i true) (updT τ (some d) u) w := by
  obtain ⟨h1, h2, h3⟩ := h
  refine ⟨h1, h2.same (fun s hs => by cases hs; unfold nwGr; split <;> first | rfl | omega) (fun s g hg => by have := nw_one s g hg; omega) (Nat.le_refl _), fun h8 => ?_⟩
  rw [getD_set_ne false (by omega)] at h8
  obtain ⟨k1, k2, k3⟩ := h3 h8
  refine ⟨getD_keep k1, getD_keep k2, ?_⟩
  have e : ∀ (s : Nat), s ≠ d → updT τ (some d) u s = τ s := fun s hs => by simp [updT, hs]
  rw [e 13 (by omega), e 9 (by omega), e 12 (by omega)]
  exact k3
theorem nwC_next {w0 w w' : World} {L : Array Bool} {τ : Tmp → Value} {i d g : Nat} {u : Value} (h : nwC w0 L τ w) (hd : nwGr d = some (g, i)) (hl : L.getD i false = false) (hi : i ≠ 5) (hb : Below w.heap.size w w')
    (hu : ∀ z ∈ vbk u, w.heap.size ≤ z ∧ z < w'.heap.size) : nwC w0 (L.setIfInBounds i true) (updT τ (some d) u) w' := by
  obtain ⟨h1, h2, h3⟩ := h
  have hone : ∀ (s k : Nat), nwGr s = some (k, i) → s = d := fun s k hs => by have := nw_one s k hs; have := nw_one d g hd; omega
  refine ⟨Below.then_ h1 hb, h2.next hd hone hb.size h1.size (fun z hz => .inl (hu z hz)), fun h8 => ?_⟩
  rw [getD_set_ne false hi] at h8
  obtain ⟨k1, k2, k3⟩ := h3 h8
  have e : ∀ (s : Nat), s ≠ d → updT τ (some d) u s = τ s := fun s hs => by simp [updT, hs]
  have hd' := nw_one d g hd
  have n9 : d ≠ 9 := fun e => by
    have hi3 : i = 1 := by omega
    rw [hi3, k1] at hl; cases hl
  have n12 : d ≠ 12 := fun e => by
    have hi7 : i = 4 := by omega
    rw [hi7, k2] at hl; cases hl
  refine ⟨getD_keep k1, getD_keep k2, ?_⟩
  rw [e 13 (by omega), e 9 (Ne.symm n9), e 12 (Ne.symm n12)]
  exact k3
/-- A row of zeros that was made. -/
theorem zeros_cells : ∀ l : List Int, (madeCells (Value.int .i64 0).cells (l.length * 1)).toList = (zeros l).flatMap fun n => [.int .i64 n] := fun l => by
  rw [show (Value.int .i64 0).cells = #[.int .i64 0] from rfl, toList_madeCells_one, Nat.mul_one]
  unfold zeros
  induction l with
  | nil => rfl
  | cons a l ih => simp [List.replicate_succ, ih]
theorem zeros_row {w : World} {base : Nat} {v : Value} {l : List Int} (h : w.ownsRow base 3 1 v l.length (madeCells (Value.int .i64 0).cells (l.length * 1)).toList) : RowOf Rp.int (zeros l) v w := by
  rw [zeros_cells, ← zeros_length] at h
  exact RowOf.of_owns (k := 1) (enc := fun n => [.int .i64 n]) (hk := fun _ => rfl) (h1 := int_one) (ownsRow_low h (Nat.zero_le _)) (AllR.flat (w := w).2 ⟨rfl, rfl⟩)

/-- The first k repos are there. -/
def NewTo (keys admins : List Int) (wc : World) (b : Nat) (AK : Option Addr) (cK : Nat) (AU : Option Addr) (cU : Nat) (k : Nat) (wr : World) : Prop :=
  ∃ v, Blk wr b 25 #[.slice AK keys.length cK, .slice AU (zeros keys).length cU, v] ∧ OwB Rp.repo 52 wc.heap.size v ((rawHouse keys admins).repos.take k) wr ∧ Only [b] wc wr

set_option maxHeartbeats 4000000 in
set_option maxRecDepth 100000 in
theorem implMdlNew_any {A0 A1 : Option Addr} {c0 c1 : Nat} {keys admins : List Int} {f0 f1 : List Nat} (w : World) (h0 : SlR Rp.int w A0 keys.length c0 keys f0) (h1 : SlR Rp.int w A1 admins.length c1 admins f1) (hk : keys.length ≤ 1048576) (ha : admins.length ≤ 1048576) :
    Calls Tryd.prog 8 #[.slice A0 keys.length c0, .slice A1 admins.length c1] w (FreshR Rp.house w (mdlNew keys admins)) := by
  obtain ⟨x, hx⟩ : ∃ x, x = rawHouse keys admins := ⟨_, rfl⟩
  have hxk : x.keys = keys := by rw [hx]; rfl
  have hxu : x.used = zeros keys := by rw [hx]; rfl
  have k1 := Blk.new w 25 #[.slice none 0 0, .slice none 0 0, .slice none 0 0]
  have HB0 := hide ((Below.refl w.heap.size w).alloc (Nat.le_refl _) (.cells #[.slice none 0 0, .slice none 0 0, .slice none 0 0] 25))
  replace h0 := h0.allocN (.cells #[.slice none 0 0, .slice none 0 0, .slice none 0 0] 25)
  replace h1 := h1.allocN (.cells #[.slice none 0 0, .slice none 0 0, .slice none 0 0] 25)
  have HSZ0 := hide (show (w.alloc (.cells #[.slice none 0 0, .slice none 0 0, .slice none 0 0] 25)).heap.size = w.heap.size + 1 by simp)
  have HX := hide hx
  have HK := hide hk
  have HA := hide ha
  have HXK := hide hxk
  have HXU := hide hxu
  clear hx hk ha hxk hxu
  go_enter Tryd.func8, Tryd.ntmps8
  go_upto_region 1 with fail
  generalize hW0 : w.alloc (.cells #[.slice none 0 0, .slice none 0 0, .slice none 0 0] 25) = w0 at k1 HB0 HSZ0 h0 h1 ⊢
  clear hW0
  go_cut [5] from 8 to 13 (fun p wx => Half x w0.heap.size w0 p wx)
  case first =>
    obtain ⟨i01, hi1, hz1, hzs1, hby1⟩ := info_parts infoC_Int
    refine wp_region_state_last 7 _ rfl (nwC w0) BelowT (nwΓ keys A0 c0) (by kernel_rfl) rfl (by kernel_rfl) rfl (nwΓ_stays _ _ _) BelowT.refl ⟨⟨(Below.refl _ _).drew, Apart.start _ _ _ _ _, fun h => by simp [Array.getD] at h⟩, fun s hs => ?_, by rfl⟩ ?_ ?_
    · by_cases e0 : s = 0
      · subst e0; rfl
      · have hne : s ∉ [8, 9, 10, 11, 12, 13, 5] := fun hm => by
          simp only [List.mem_cons, List.not_mem_nil, or_false] at hm
          rcases hm with rfl | rfl | rfl | rfl | rfl | rfl | rfl <;> exact absurd hs (by decide)
        simp only [List.mem_cons, List.not_mem_nil, or_false, not_or] at hne
        unfold nwΓ
        split <;> first | trivial | (exfalso; omega)
    · intro i p hi hp
      have hcases : i = 0 ∨ i = 1 ∨ i = 2 ∨ i = 3 ∨ i = 4 ∨ i = 5 ∨ i = 6 := by omega
      rcases hcases with rfl | rfl | rfl | rfl | rfl | rfl | rfl
      all_goals (obtain rfl := Option.some.inj hp)
      · intro L a w' hL hl hall hC hR
        have r0 : a.tmps[0]?.getD undef = _ := hR 0 (by decide)
        simp [Region.wanted, outOf, go_sem, execOp, r0, upT]
        exact ⟨BelowT.refl _, rfl, nwC_quiet hC (by decide) (by decide)⟩
      · intro L a w' hL hl hall hC hR
        have r8 : a.tmps[8]?.getD undef = _ := hR 8 (by decide)
        simp [Region.wanted, outOf, go_sem, execOp, r8, upT]
        refine (cloneInts_any _ (h0.step hC.1) (by have := HK.out; omega)).mono ?_
        rintro e w4 ⟨vv, rfl, hvv, hb4⟩
        have hrow := RowOf.of_owns (k := 1) (enc := fun n => [.int .i64 n]) (hk := fun _ => rfl) (h1 := int_one) (ownsRow_low hvv (Nat.zero_le _)) (AllR.flat (w := w4).2 ⟨rfl, rfl⟩)
        obtain ⟨A', c', f', hv', _⟩ := id hrow
        exact ⟨_, rfl, hb4, hrow, nwC_next hC rfl hl (by decide) hb4 fun z hz => hvv.lt z (vbk_of_own hv' hz)⟩
      · intro L a w' hL hl hall hC hR
        have r0 : a.tmps[0]?.getD undef = _ := hR 0 (by decide)
        simp [Region.wanted, outOf, go_sem, execOp, r0, upT]
        exact ⟨BelowT.refl _, rfl, nwC_quiet hC (by decide) (by decide)⟩
      · intro L a w' hL hl hall hC hR
        have r10 : a.tmps[10]?.getD undef = _ := hR 10 (by decide)
        simp [Region.wanted, outOf, go_sem, execOp, r10, upT]
        exact ⟨BelowT.refl _, rfl, nwC_quiet hC (by decide) (by decide)⟩
      · intro L a w' hL hl hall hC hR
        have r11 : a.tmps[11]?.getD undef = _ := hR 11 (by decide)
        obtain ⟨w4, hr, hown, hgr⟩ := run_make_full (P := Tryd.prog) (w := w') w'.heap.size 22 3 i01 _ 1 Tryd.underlying22 hi1 hz1 hzs1 .i64 .i64 keys.length (by rw [hby1]; have := HK.out; omega) (by have := HK.out; unfold maxLen; omega) (Nat.le_refl _)
        rw [if_pos (show Region.wanted _ _ = true from rfl)]
        simp only [execOp, Sem.run_bind, Sem.run_pure, Result.andThen_ok, eval_tmp, r11, hr, upT]
        have hb4 : Below w'.heap.size w' w4 := (Below.refl _ _).grown hgr (Nat.le_refl _) (fun k h => by cases h)
        have hrow := zeros_row hown
        refine ⟨trivial, hb4, hrow, nwC_next hC rfl hl (by decide) hb4 fun z hz => ?_⟩
        exact hown.lt z (vbk_of_own rfl hz)
      · intro L a w' hL hl hall hC hR
        obtain ⟨AK, cK, fK, r9, _⟩ : RowOf _ _ _ _ := hR 9 (by decide)
        obtain ⟨AU, cU, fU, r12, _⟩ : RowOf _ _ _ _ := hR 12 (by decide)
        simp [Region.wanted, outOf, go_sem, execOp, r9, r12, upT]
        refine ⟨BelowT.refl _, trivial, hC.1, hC.2.1.same (fun s hs => by cases hs; rfl) (fun s g hg => by have := nw_one s g hg; omega) (Nat.le_refl _), fun _ => ⟨getD_keep (hall ⟨1, .data⟩ (by simp) (by decide)), getD_keep (hall ⟨4, .data⟩ (by simp) (by decide)), ?_⟩⟩
        simp [updT, tau, r9, r12]
      · intro L a w' hL hl hall hC hR
        simp [Region.wanted, outOf, go_sem, execOp, upT]
        exact ⟨(Below.refl _ _).alloc (Nat.le_refl _) _, ⟨_, rfl, Blk.new _ _ _⟩, nwC_next hC rfl hl (by decide) ((Below.refl _ _).alloc (Nat.le_refl _) _) fun z hz => by simp [vbk] at hz; subst hz; exact ⟨Nat.le_refl _, by simp⟩⟩
    · intro l w4 τ hall hC
      simp only [List.take_succ_cons, List.take_zero, finT]
      intro v8 _ v9 h9 v10 _ v11 _ v12 h12 v13 _ v5 h5 hτ
      obtain ⟨AK, cK, fK, rfl, hK, nK, frK, vK⟩ : RowOf _ _ _ _ := h9
      obtain ⟨AU, cU, fU, rfl, hU, nU, frU, vU⟩ : RowOf _ _ _ _ := h12
      obtain ⟨b, rfl, hb⟩ : ∃ b, _ = Value.pointer (some ⟨b, 0, none⟩) ∧ Blk _ b _ _ := h5
      obtain ⟨hB, hA, h8⟩ := hC
      obtain ⟨_, _, e16⟩ := h8 (hall 5 (by decide))
      have t9 : τ 9 = .slice AK keys.length cK := by rw [← hτ]; simp [tau, Act.put]
      have t12 : τ 12 = .slice AU (zeros keys).length cU := by rw [← hτ]; simp [tau, Act.put]
      have t5 : τ 5 = .pointer (some ⟨b, 0, none⟩) := by rw [← hτ]; simp [tau, Act.put]
      have t13 : τ 13 = v13 := by rw [← hτ]; simp [tau, Act.put]
      rw [t13, t9, t12] at e16
      subst e16
      have l1 := hall 1 (by decide)
      have l4 := hall 4 (by decide)
      have l6 := hall 6 (by decide)
      have dKU : ∀ z ∈ fK, z ∉ fU := fun z hz hm => hA.dj 9 12 0 1 1 4 rfl rfl (by decide) l1 l4 z (by rw [t9]; exact vK z hz) (by rw [t12]; exact vU z hm)
      have dKb : ∀ z ∈ fK, z ≠ b := fun z hz e => hA.dj 9 5 0 1 2 6 rfl rfl (by decide) l1 l6 z (by rw [t9]; exact vK z hz) (by rw [t5]; simp [vbk, e])
      have dUb : ∀ z ∈ fU, z ≠ b := fun z hz e => hA.dj 12 5 1 4 2 6 rfl rfl (by decide) l4 l6 z (by rw [t12]; exact vU z hz) (by rw [t5]; simp [vbk, e])
      have lK : ∀ z ∈ fK, w0.heap.size ≤ z := fun z hz => (hA.lo 9 0 1 rfl l1 z (by rw [t9]; exact vK z hz)).1
      have lU : ∀ z ∈ fU, w0.heap.size ≤ z := fun z hz => (hA.lo 12 1 4 rfl l4 z (by rw [t12]; exact vU z hz)).1
      have lb : w0.heap.size ≤ b := (hA.lo 5 2 6 rfl l6 b (by rw [t5]; simp [vbk])).1
      have y0 := hb.cell 0
      have y1 := hb.cell 1
      have y2 := hb.cell 2
      have x0 := blk_frozen hb 0
      have x1 := blk_frozen hb 1
      have x2 := blk_frozen hb 2
      simp at y0 y1 y2
      have HH := hide (show Half x w0.heap.size w0 (.pointer (some ⟨b, 0, none⟩)) (((w4.setCell ⟨b, 0, none⟩ (.slice AK keys.length cK)).setCell ⟨b, 1, none⟩ (.slice AU (zeros keys).length cU)).setCell ⟨b, 2, none⟩ (.slice none 0 0)) from by
        unfold Half
        rw [HXK.out, HXU.out]
        exact ⟨b, AK, cK, fK, AU, cU, fU, rfl, ((hb.put 0 _).put 1 _).put 2 _, ((hK.putN (fun hm => dKb _ hm rfl) _).putN (fun hm => dKb _ hm rfl) _).putN (fun hm => dKb _ hm rfl) _, ((hU.putN (fun hm => dUb _ hm rfl) _).putN (fun hm => dUb _ hm rfl) _).putN (fun hm => dUb _ hm rfl) _, nK, nU, fun z hz => ⟨lK z hz, dKb z hz, dKU z hz⟩, fun z hz => ⟨lU z hz, dUb z hz⟩, lb, (frK.putN.putN).putN, (frU.putN.putN).putN, setCell3 hB lb⟩)
      clear hA t9 t12 t13 t5 hτ hb
      go_wp2_with fail
      go_meet
      case rel => exact HH.out
  case rest =>
    obtain ⟨wh, hwh⟩ : ∃ wh, wh = wc := ⟨_, rfl⟩
    subst hwh
    obtain ⟨b, AK, cK, fK, AU, cU, fU, rfl, kb, hsK, hsU, nK, nU, dK, dU, hb0, frK, frU, hbw⟩ := hcut
    rw [HXK.out] at kb hsK
    rw [HXU.out] at kb hsU
    have HB1 := hide hbw
    have HB0L := hide hb0
    have KB := hide kb
    have K1 := hide k1
    have h1m := h1.max
    have hbl := kb.lt
    have HKU := hide (And.intro hsK (And.intro hsU (And.intro nK (And.intro nU (And.intro dK (And.intro dU (And.intro frK frU)))))))
    obtain ⟨i0, hi0, hz0, hz1, hz2⟩ := info_parts infoC_Repo
    clear h0 hsK hsU nK nU dK dU frK frU hbw hb0 kb k1
    go_wp2_with fail
    go_loopw [16] (fun i wr => ∃ k : Nat, k ≤ admins.length ∧ i = .int .i64 k ∧ NewTo keys admins wh b AK cK AU cU k wr) (fun i _ => admins.length - (intOf i).toNat)
    case atStart => exact ⟨0, Nat.zero_le _, rfl, .slice none 0 0, KB.out, OwB.nil, Only.refl _ _⟩
    case round =>
      obtain ⟨wo, hwo⟩ : ∃ wo, wo = wr := ⟨_, rfl⟩
      subst hwo
      obtain ⟨k, hk, rfl, v, kbr, hown, ho⟩ := hrel
      have HBR := hide (HB1.out.trans (ho.below (B := w0.heap.size) (fun z hz => by simp at hz; rw [hz]; exact HB0L.out) HB1.out.size))
      have KBR := hide kbr
      have HOW := hide hown
      have HON := hide ho
      clear kbr hown ho
      by_cases hlt : k < admins.length
      · obtain ⟨bp, op, rfl, hbp, hmp, q0⟩ := int_cells (h1.step HBR.out) hlt
        have i1 : (k : Int) < (admins.length : Int) := by omega
        have HTk := hide (show (rawHouse keys admins).repos.take (k + 1) = (rawHouse keys admins).repos.take k ++ [⟨admins[k], [], []⟩] by
          have hl : k < (rawHouse keys admins).repos.length := by simpa [rawHouse] using hlt
          rw [List.take_succ_eq_append_getElem hl]
          simp [rawHouse])
        have HLk := hide (show ((rawHouse keys admins).repos.take k).length = k by simp [rawHouse]; omega)
        obtain ⟨xs, hoo, hgrow⟩ := HOW.out.grow
        have HGR := hide (show ∀ (z : Value) , True from fun _ => trivial)
        have HSZ := hide (show (wo.alloc (.cells #[.int .i64 admins[k], .slice none 0 0, .slice none 0 0] 52)).heap.size = wo.heap.size + 1 by simp)
        obtain ⟨hoA, hsn⟩ := hgrow ((Below.refl wo.heap.size wo).alloc (Nat.le_refl _) (.cells #[.int .i64 admins[k], .slice none 0 0, .slice none 0 0] 52))
        have hs9 := hsn (ys := [.int .i64 admins[k], .slice none 0 0, .slice none 0 0]) (y := ⟨admins[k], [], []⟩) (g := []) ⟨none, 0, 0, [], none, 0, 0, [], rfl, rfl, SlR.nil, SlR.nil⟩ List.nodup_nil (by simp) HON.out.size (Free.nil _) HSZ.out
        rw [HLk.out] at hs9 hoA
        have HS9 := hide hs9
        have HV := hide HOW.out.vlow
        have kB := KBR.out
        have cb2 : wo.cell? ⟨b, 2, none⟩ = some v := kB.cell 2
        have zb2 := blk_frozen kB 2
        have HKBb := hide kB
        have HNEb := hide (show b ∉ vblk v from fun hm => by have := HOW.out.vlow b hm; omega)
        have HAd := hide (show k + 1 ≤ 1048576 from by have := HA.out; omega)
        clear hs9 hsn hgrow hoo kB
        go_wp2_with (at_builtin; refine wpList_append_lies _ rfl _ _ 23 rfl 0 52 i0 _ 3 56 Tryd.underlying23 hi0 hz0 hz1 hz2 rfl (by decide) _ _ _ rfl hoA ⟨wo.heap.size, 0, none⟩ 1 1 [.int .i64 admins[k], .slice none 0 0, .slice none 0 0] rfl rfl (news_alloc wo _ _) (by intro u hu; simp at hu; rcases hu with rfl | rfl <;> rfl) (by decide) (by have := HAd.out; unfold maxLen; omega) (by have := HAd.out; omega) (Nat.zero_le _) (wo.heap.size + 1) HSZ.out ?_)
        intro g' cap w6 ho2 hgr hor hlt2
        have HN := hide (HS9.out _ _ _ ho2 hgr hor)
        have k6b := HKBb.out.alloc (.cells #[.int .i64 admins[k], .slice none 0 0, .slice none 0 0] 52)
        have k6c := k6b.only (grown_only hgr) HNEb.out
        have HREL := hide (show NewTo keys admins wh b AK cK AU cU (k + 1) (w6.setCell ⟨b, 2, none⟩ (.slice (some ⟨g', 0, none⟩) (k + 1) cap)) from
          ⟨_, k6c.put 2 _, by rw [HTk.out]; exact HN.out.only (only_setCell w6 b 2 _) (by intro z hz; simp at hz; omega), ((HON.out.alloc _).then_only (grown_only hgr) (fun z hz => .inr (HV.out z hz))).trans (only_setCell w6 b 2 _)⟩)
        have cb2' : w6.cell? ⟨b, 2, none⟩ = some v := k6c.cell 2
        have zb2' := blk_frozen k6c 2
        clear ho2 hgr hor hoA k6b k6c cb2 zb2 q0
        go_wp2
        exact ⟨⟨k + 1, by omega, by go_num, HREL.out⟩, by simp [intOf]; omega⟩
      · have hk' : k = admins.length := by omega
        subst hk'
        have hown := HOW.out
        have hrl : (rawHouse keys admins).repos.length = admins.length := by simp [rawHouse]
        rw [show (rawHouse keys admins).repos.take admins.length = (rawHouse keys admins).repos from List.take_of_length_le (by omega)] at hown
        obtain ⟨Av, cv, rfl, _, _⟩ := hown.form
        obtain ⟨hsK, hsU, nK, nU, dK, dU, frK, frU⟩ := HKU.out
        obtain ⟨fq, hows, hnd, hlo, hfr⟩ := hown
        obtain ⟨A', c', f', hv', hsl, hsub, _, _⟩ := hows.sl
        cases hv'
        have hKb : ∀ z ∈ fK, z < wh.heap.size := hsK.lt
        have hUb : ∀ z ∈ fU, z < wh.heap.size := hsU.lt
        have eK : ∀ z ∈ fK, wo.heap[z]? = wh.heap[z]? := fun z hz => HON.out.block z (hKb z hz) (by simp; exact (dK z hz).2.1)
        have eU : ∀ z ∈ fU, wo.heap[z]? = wh.heap[z]? := fun z hz => HON.out.block z (hUb z hz) (by simp; exact (dU z hz).2)
        have hf' : ∀ z ∈ f', wh.heap.size ≤ z := fun z hz => hlo z (hsub.subset hz)
        have hf2 : ∀ z ∈ f', z < wo.heap.size := hsl.lt
        have hHw := HB1.out.size
        have hs0 := HSZ0.out
        have hRead : Rp.house.R wo [.slice AK keys.length cK, .slice AU (zeros keys).length cU, .slice Av (rawHouse keys admins).repos.length cv] (rawHouse keys admins) (fK ++ (fU ++ f')) := ⟨_, _, _, fK, _, _, _, fU, _, _, _, f', rfl, rfl, hsK.keep eK, hsU.keep eU, hsl⟩
        have hNd : (fK ++ (fU ++ f')).Nodup := List.nodup_append.2 ⟨nK, List.nodup_append.2 ⟨nU, hnd.sublist hsub, fun a ha b hb e => by subst e; have := hUb a ha; have := hf' a hb; omega⟩, fun a ha b hb e => by
            subst e
            rcases List.mem_append.1 hb with hb | hb
            · exact (dK a ha).2.2 hb
            · have := hKb a ha; have := hf' a hb; omega⟩
        have hLo : ∀ z ∈ fK ++ (fU ++ f'), w0.heap.size ≤ z := fun z hz => by
          simp only [List.mem_append] at hz
          rcases hz with hz | hz | hz
          · exact (dK z hz).1
          · exact (dU z hz).1
          · have := hf' z hz; omega
        have hFr : Free wo (fK ++ (fU ++ f')) := (frK.keep eK).append ((frU.keep eU).append (hfr.sublist hsub))
        rw [hrl] at hRead
        have kB := KBR.out
        rw [hrl] at kB
        have u0 : wo.cell? ⟨b, 0, none⟩ = some (.slice AK keys.length cK) := kB.cell 0
        have u1 : wo.cell? ⟨b, 1, none⟩ = some (.slice AU (zeros keys).length cU) := kB.cell 1
        have u2 : wo.cell? ⟨b, 2, none⟩ = some (.slice Av admins.length cv) := kB.cell 2
        have K1o := hide (K1.out.step HBR.out)
        have HBw := hide ((HB0.out).trans (HBR.out.mono (by omega)))
        have HRES := hide (And.intro hRead (And.intro hNd (And.intro hLo hFr)))
        have HKo := hide kB
        have HWS := hide (show w0.heap.size ≤ wo.heap.size from HBR.out.size)
        have HMO := hide (show mdlNew keys admins = if mdlOk (rawHouse keys admins) = true then rawHouse keys admins else ⟨[], [], []⟩ from rfl)
        clear hsK hsU nK nU dK dU frK frU hows hnd hlo hfr hsl hsub hKb hUb eK eU hf' hf2 hNd hLo hFr kB HOW KBR h1
        go_wp2_with fail
        refine (implMdlOk_any (x := rawHouse keys admins) _ hRead (fit_raw keys admins)).mono ?_
        rintro e w7 ⟨rfl, hb7⟩
        clear hRead u0 u1 u2
        have k7 := HKo.out.step hb7
        have kz := K1o.out.step hb7
        have HBB := hide ((HBw.out).trans (hb7.mono (by have := HWS.out; omega)))
        have u0 : w7.cell? ⟨b, 0, none⟩ = some (.slice AK keys.length cK) := k7.cell 0
        have u1 : w7.cell? ⟨b, 1, none⟩ = some (.slice AU (zeros keys).length cU) := k7.cell 1
        have u2 : w7.cell? ⟨b, 2, none⟩ = some (.slice Av admins.length cv) := k7.cell 2
        have d0 : w7.cell? ⟨w.heap.size, 0, none⟩ = some (.slice none 0 0) := kz.cell 0
        have d1 : w7.cell? ⟨w.heap.size, 1, none⟩ = some (.slice none 0 0) := kz.cell 1
        have d2 : w7.cell? ⟨w.heap.size, 2, none⟩ = some (.slice none 0 0) := kz.cell 2
        have y0 := blk_frozen kz 0
        have y1 := blk_frozen kz 1
        have y2 := blk_frozen kz 2
        have HKZ := hide kz
        obtain ⟨hR, hNd, hLo, hFr⟩ := HRES.out
        have HR7 := hide (Rp.house.below hR hb7 (Nat.le_refl _))
        have HF7 := hide (hFr.step hb7)
        have HLN := hide (And.intro hNd hLo)
        clear hR hNd hLo hFr hb7 k7 kz K1o HKo
        cases hm : mdlOk (rawHouse keys admins)
        · have HE := hide (show mdlNew keys admins = ⟨[], [], []⟩ by rw [HMO.out, hm]; rfl)
          clear hm u0 u1 u2
          have R := hide (((HKZ.out.put 0 (.slice none 0 0)).put 1 (.slice none 0 0)).put 2 (.slice none 0 0))
          have RO := hide ((((Only.refl [w.heap.size] w7).setCell (p := ⟨w.heap.size, 0, none⟩) (.inl (by simp)) (.slice none 0 0)).setCell (p := ⟨w.heap.size, 1, none⟩) (.inl (by simp)) (.slice none 0 0)).setCell (p := ⟨w.heap.size, 2, none⟩) (.inl (by simp)) (.slice none 0 0))
          have HBW := hide (setCell3 (i := 0) (j := 1) (k := 2) (u := (.slice none 0 0)) (v := (.slice none 0 0)) (y := (.slice none 0 0)) HBB.out (Nat.le_refl _))
          clear HBB HKZ
          go_wp2_with fail
          have R := R.out
          have RO := RO.out
          have HBW := HBW.out
          generalize ((w7.setCell ⟨w.heap.size, 0, none⟩ (.slice none 0 0)).setCell ⟨w.heap.size, 1, none⟩ (.slice none 0 0)).setCell ⟨w.heap.size, 2, none⟩ (.slice none 0 0) = W at R RO HBW ⊢
          have e0 : W.cell? ⟨w.heap.size, 0, none⟩ = some (.slice none 0 0) := R.cell 0
          have e1 : W.cell? ⟨w.heap.size, 1, none⟩ = some (.slice none 0 0) := R.cell 1
          have e2 : W.cell? ⟨w.heap.size, 2, none⟩ = some (.slice none 0 0) := R.cell 2
          refine bodyPost_ret (v := .agg #[(.slice none 0 0), (.slice none 0 0), (.slice none 0 0)]) (by simp [results, Tryd.results8, go_sem, e0, e1, e2]) rfl ?_
          rw [HE.out]
          exact ⟨[.slice none 0 0, .slice none 0 0, .slice none 0 0], [], rfl, ⟨none, 0, 0, [], none, 0, 0, [], none, 0, 0, [], rfl, rfl, SlR.nil, SlR.nil, SlR.nil⟩, List.nodup_nil, by simp, Free.nil _, HBW⟩
        · have HE := hide (show mdlNew keys admins = rawHouse keys admins by rw [HMO.out, hm]; rfl)
          clear hm
          have R := hide (((HKZ.out.put 0 (.slice AK keys.length cK)).put 1 (.slice AU (zeros keys).length cU)).put 2 (.slice Av admins.length cv))
          have RO := hide ((((Only.refl [w.heap.size] w7).setCell (p := ⟨w.heap.size, 0, none⟩) (.inl (by simp)) (.slice AK keys.length cK)).setCell (p := ⟨w.heap.size, 1, none⟩) (.inl (by simp)) (.slice AU (zeros keys).length cU)).setCell (p := ⟨w.heap.size, 2, none⟩) (.inl (by simp)) (.slice Av admins.length cv))
          have HBW := hide (setCell3 (i := 0) (j := 1) (k := 2) (u := (.slice AK keys.length cK)) (v := (.slice AU (zeros keys).length cU)) (y := (.slice Av admins.length cv)) HBB.out (Nat.le_refl _))
          clear HBB HKZ
          go_wp2_with fail
          have R := R.out
          have RO := RO.out
          have HBW := HBW.out
          generalize ((w7.setCell ⟨w.heap.size, 0, none⟩ (.slice AK keys.length cK)).setCell ⟨w.heap.size, 1, none⟩ (.slice AU (zeros keys).length cU)).setCell ⟨w.heap.size, 2, none⟩ (.slice Av admins.length cv) = W at R RO HBW ⊢
          have e0 : W.cell? ⟨w.heap.size, 0, none⟩ = some (.slice AK keys.length cK) := R.cell 0
          have e1 : W.cell? ⟨w.heap.size, 1, none⟩ = some (.slice AU (zeros keys).length cU) := R.cell 1
          have e2 : W.cell? ⟨w.heap.size, 2, none⟩ = some (.slice Av admins.length cv) := R.cell 2
          refine bodyPost_ret (v := .agg #[(.slice AK keys.length cK), (.slice AU (zeros keys).length cU), (.slice Av admins.length cv)]) (by simp [results, Tryd.results8, go_sem, e0, e1, e2]) rfl ?_
          rw [HE.out]
          have hlt7 : ∀ z ∈ fK ++ (fU ++ f'), z < w7.heap.size := HF7.out.lt
          have hne7 : ∀ z ∈ fK ++ (fU ++ f'), z ≠ w.heap.size := fun z hz => by have := HLN.out.2 z hz; have := HSZ0.out; omega
          have hkp : ∀ z ∈ fK ++ (fU ++ f'), W.heap[z]? = w7.heap[z]? := fun z hz => RO.block z (hlt7 z hz) (by simp; exact hne7 z hz)
          exact ⟨[.slice AK keys.length cK, .slice AU (zeros keys).length cU, .slice Av admins.length cv], fK ++ (fU ++ f'), rfl, Rp.house.keep HR7.out hkp, HLN.out.1, fun z hz => by have := HLN.out.2 z hz; have := HSZ0.out; omega, HF7.out.keep hkp, HBW⟩

end Go.Proofs.YtnogkkcmcnhodaaDoor
