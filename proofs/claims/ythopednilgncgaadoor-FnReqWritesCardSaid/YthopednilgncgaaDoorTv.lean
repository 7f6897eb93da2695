/- A region that draws its order, walked by what its temporaries hold (XTy); besides, a state that goes by which operations have come up and by what they left: so results of two calls can be held apart, and a row can be appended to. No program in sight. -/
import Derived.Test.YthopednilgncgaaDoorTy
namespace Go.Proofs.YthopednilgncgaaDoor
open Go

section
/-- What the temporaries hold. -/
def tau (a : Act) : Tmp → Value := fun s => a.tmps[s]?.getD undef
def updT (τ : Tmp → Value) (d : Option Tmp) (u : Value) : Tmp → Value := match d with
  | none => τ
  | some d => fun s => if s = d then u else τ s
theorem tau_put {a : Act} {d : Option Tmp} {u : Value} (h : ∀ x : Nat, d = some x → x < a.tmps.size) : tau (a.put d u) = updT (tau a) d u := by
  funext s
  cases d with
  | none => rfl
  | some d =>
    have hd : (d : Nat) < a.tmps.size := h d rfl
    unfold tau updT Act.put
    by_cases e : s = d
    · subst e
      simp [hd]
    · simp only [if_neg e]
      rw [Array.getElem?_setIfInBounds_ne (Ne.symm e)]
variable {P : Program} {ops : Array Oper} {C : Array Bool → (Tmp → Value) → World → Prop} {T : World → World → Prop} {Γ : Facts}

/-- What is to be shown of one operation, which has not come up. -/
def fitsV (P : Program) (ops : Array Oper) (C : Array Bool → (Tmp → Value) → World → Prop) (T : World → World → Prop) (Γ : Facts) (i : Nat) (o : Oper) : Prop :=
  ∀ (L : Array Bool) (a : Act) (w : World), L.size = ops.size → L.getD i false = false → (∀ e ∈ o.after, Region.binds .any e = true → L.getD e.on false = true) → C L (tau a) w → (∀ s ∈ o.looksAt ops, Γ s (a.tmps[s]?.getD undef) w) →
    if Region.wanted o (yielded ops a.tmps) then upT P (fun _ => True) T w (fun u w' => outOf Γ o u w' ∧ C (L.setIfInBounds i true) (updT (tau a) o.dst u) w') ((execOp a.eval o).run P w) else C (L.setIfInBounds i true) (updT (tau a) o.dst undef) w ∧ outOf Γ o undef w

/-- Whatever comes up next. -/
theorem wpAny_state {stop : Nat} {Q : Exit → Act → World → Prop} {a0 : Act} (hT : Stays T Γ) (hd : depsOk ops stop = true) (hf : ∀ (i : Nat) o, i < stop → ops[i]? = some o → fitsV P ops C T Γ i o)
    (hstop : stop = ops.size ∨ ops.size = stop + 1) (hrefl : ∀ w, T w w)
    (hend : ∀ a w listed, TInv ops Γ a0 a w listed → C listed (tau a) w → (∀ i, i < stop → listed.getD i false = true) → (stop = ops.size → Q .normal a w) ∧ (∀ o, ops[stop]? = some o → wpList P ops Q [o] a w)) :
    ∀ (fuel : Nat) (listed : Array Bool) (a : Act) (w : World), TInv ops Γ a0 a w listed → unlisted listed = fuel → C listed (tau a) w → (stop < ops.size → listed.getD stop false = false) → wpAny P .any ops Q fuel listed a w := by
  intro fuel
  induction fuel with
  | zero =>
    intro listed a w h hu hc hns
    have hall : ∀ i, i < ops.size → listed.getD i false = true := fun i hi => unlisted_zero hu (by rw [h.lsize]; exact hi)
    have hs : stop = ops.size := by
      rcases hstop with hs | hs
      · exact hs
      · have := hns (by omega)
        rw [hall stop (by omega)] at this; cases this
    refine ⟨?_, (hend a w listed h hc fun i hi => hall i (by omega)).1 hs⟩
    cases hr : Region.ready .any ops listed with
    | nil => rfl
    | cons x xs =>
      have hx : x ∈ Region.ready .any ops listed := by rw [hr]; simp
      obtain ⟨o, ho, hl, _⟩ := (ready_iff h.lsize).1 hx
      rw [hall x (Array.getElem?_eq_some_iff.1 ho).1] at hl; cases hl
  | succ fuel ih =>
    intro listed a w h hu hc hns
    refine ⟨fun hr => ?_, fun i hi => ?_⟩
    · have hall := ready_none hd h.lsize hr
      have hs : stop = ops.size := by
        rcases hstop with hs | hs
        · exact hs
        · have := hns (by omega)
          rw [hall stop (by omega)] at this; cases this
      have hz : unlisted listed = 0 := by
        unfold unlisted
        rw [List.countP_eq_zero]
        intro i hi
        simp [hall i (by rw [← h.lsize]; simpa using hi)]
      omega
    · obtain ⟨o, ho, hl, hall⟩ := (ready_iff h.lsize).1 hi
      have hlt := (Array.getElem?_eq_some_iff.1 ho).1
      by_cases hst : i = stop
      · subst hst
        have hsz : ops.size = i + 1 := hstop.resolve_left (by omega)
        have hpre := last_last hd hlt h.lsize h.down hi hsz
        have hone : fuel = 0 := by
          have h1 := unlisted_set (i := i) (by rw [h.lsize]; exact hlt) hl
          have h2 : unlisted (listed.setIfInBounds i true) = 0 := by
            unfold unlisted
            rw [List.countP_eq_zero]
            intro x hx
            have hx' : x < ops.size := by rw [← h.lsize]; simpa using hx
            by_cases e : x = i
            · subst e; simp [h.lsize, hlt]
            · rw [getD_set_ne false (Ne.symm e), hpre x (by omega)]; simp
          omega
        have hw := (hend a w listed h hc hpre).2 o ho
        unfold wpOp
        simp only [ho]
        unfold wpList at hw
        have hafter : ∀ a' w', Q .normal a' w' → wpAny P .any ops Q fuel (listed.setIfInBounds i true) a' w' := fun a' w' hq => by
          have hr : Region.ready .any ops (listed.setIfInBounds i true) = [] := by
            cases hr : Region.ready .any ops (listed.setIfInBounds i true) with
            | nil => rfl
            | cons x xs =>
              have hx : x ∈ Region.ready .any ops (listed.setIfInBounds i true) := by rw [hr]; simp
              obtain ⟨p, hp, hlp, _⟩ := (ready_iff (by simp [h.lsize])).1 hx
              have hxs := (Array.getElem?_eq_some_iff.1 hp).1
              by_cases e : x = i
              · subst e
                simp [h.lsize, hlt] at hlp
              · rw [getD_set_ne false (Ne.symm e), hpre x (by omega)] at hlp; cases hlp
          cases fuel with
          | zero => exact ⟨hr, hq⟩
          | succ fuel => exact ⟨fun _ => hq, fun x hx => by rw [hr] at hx; cases hx⟩
        split
        · rename_i hwt
          rw [if_pos hwt] at hw
          exact hw.imp (Oper.wp_mono fun a' w' hq => hafter a' w' hq) id
        · rename_i hwt
          rw [if_neg hwt] at hw
          exact hafter _ _ hw
      · have hi' : i < stop := by rcases hstop with hs | hs <;> omega
        have hrg : ∀ x : Nat, o.dst = some x → x < a.tmps.size := fun x hx => by rw [h.size]; exact h.range i o x ho hx
        have hk := hf i o hi' ho listed a w h.lsize hl hall hc (fun s hs => by
          by_cases hx : ∀ (k : Nat) p, ops[k]? = some p → p.dst ≠ some s
          · rw [← eval_tmp]; exact h.init s hx
          · have hx' : ∃ (k : Nat) (p : Oper), ops[k]? = some p ∧ p.dst = some s := by
              refine Classical.byContradiction fun hc => hx fun k p hp hd => hc ⟨k, p, hp, hd⟩
            obtain ⟨k, p, hp, hds⟩ := hx'
            have hwt := depsOk_reads hd ho hp hds hs
            obtain ⟨e, he, hb, rfl⟩ := waits_iff.1 hwt
            rw [← eval_tmp]; exact h.known e.on p s hp (hall e he hb) hds)
        have hgo : ∀ u w', True → T w w' → (outOf Γ o u w' ∧ C (listed.setIfInBounds i true) (updT (tau a) o.dst u) w') → wpAny P .any ops Q fuel (listed.setIfInBounds i true) (a.put o.dst u) w' := fun u w' _ ht hv =>
          ih _ _ _ (h.next hT hd ho hall ht hv.1) (by have := unlisted_set (i := i) (by rw [h.lsize]; exact hlt) hl; omega) (by rw [tau_put hrg]; exact hv.2) (fun hs => by rw [getD_set_ne false hst]; exact hns hs)
        unfold wpOp
        simp only [ho]
        split
        · rename_i hwt
          rw [if_pos hwt] at hk
          exact .inl (upT_wp hk hgo)
        · rename_i hwt
          rw [if_neg hwt] at hk
          exact hgo _ _ trivial (hrefl w) ⟨hk.2, hk.1⟩

/-- What is known at the beginning. -/
structure VStart (ops : Array Oper) (C : Array Bool → (Tmp → Value) → World → Prop) (Γ : Facts) (a : Act) (w : World) : Prop where
  cl : C (Array.replicate ops.size false) (tau a) w.drew
  init : ∀ s : Nat, ((ops.toList.filterMap (·.dst)).contains s = false) → Γ s (a.eval (.tmp s)) w.drew
  range : ops.toList.all (fun o => match o.dst with | none => true | some d => decide (d < a.tmps.size)) = true
theorem VStart.inv {a : Act} {w : World} (h : VStart ops C Γ a w) : TInv ops Γ a a w.drew (Array.replicate ops.size false) :=
  TStart.inv (C := fun _ w' => C (Array.replicate ops.size false) (tau a) w') ⟨h.cl, h.init, h.range⟩

/-- ALL BUT THE LAST ONE, which comes behind all others. -/
theorem wp_region_state_last {id : Nat} {Q : Exit → Act → World → Prop} {a : Act} {w : World} {L : List Oper} (n : Nat) (o : Oper) (hL : L = L.take n ++ [o]) (C : Array Bool → (Tmp → Value) → World → Prop) (T : World → World → Prop) (Γ : Facts) (hm : P.follows .mixedOrders = true) (hn : n + 1 = L.length) (hd : depsOk L.toArray n = true)
    (hn0 : o.dst = none) (hT : Stays T Γ) (hrefl : ∀ w, T w w) (hs : VStart L.toArray C Γ a w) (hf : ∀ (i : Nat) p, i < n → L[i]? = some p → fitsV P L.toArray C T Γ i p) (h : ∀ l w' τ, (∀ i, i < n → l.getD i false = true) → C l τ w' → finT Γ w' (fun a' => tau a' = τ → wpList P L.toArray Q [o] a' w') (L.take n) a) : (Code.region id L.toArray true).wp P Q a w := by
  have hat : L[n]? = some o := by
    rw [hL, List.getElem?_append_right (by simp; omega)]
    simp only [List.length_take]
    rw [show n - min n L.length = 0 by omega]
    rfl
  refine wp_region_any hm ?_
  refine wpAny_state (C := C) (stop := n) hT hd (fun i p hi ho => hf i p hi (by simpa using ho)) (.inr (by simp [hn])) hrefl (fun a' w' listed hi hc hall => ⟨fun he => absurd he (by simp; omega), fun p hp => ?_⟩) _ _ _ _ hs.inv (by simp [unlisted_start]) hs.cl (fun h => by simp [Array.getD])
  · have hx : L[n]? = some p := by simpa using hp
    rw [hat] at hx
    obtain rfl := Option.some.inj hx
    refine hi.fin (Q := fun b => tau b = tau a' → wpList P L.toArray Q [o] b w') (l := L.take n) (fun q hq => ?_) (fun s hs i q hi => ?_) (h listed w' (tau a') hall hc) rfl
    · obtain ⟨i, hlt, rfl⟩ := List.mem_take_iff_getElem.1 hq
      exact ⟨i, by simp [show i < L.length by omega], hall i (by omega)⟩
    · have hq : L[i]? = some q := by simpa using hi
      obtain ⟨hlt, he⟩ := List.getElem?_eq_some_iff.1 hq
      by_cases e : i = n
      · subst e
        rw [hat] at hq
        obtain rfl := Option.some.inj hq
        rw [hn0]; simp
      · exact hs q (List.mem_take_iff_getElem.2 ⟨i, by omega, he⟩)
end

/-! Blocks that are held apart: each of the temporaries that count holds a block of its own group. -/
def vbk (v : Value) : List Nat := match v with
  | .slice (some a) _ _ => [a.block]
  | .pointer (some a) => [a.block]
  | _ => []
/-- gr: the group of a temporary, and which operation leaves it. -/
structure Apart (gr : Tmp → Option (Nat × Nat)) (H : Nat) (L : Array Bool) (τ : Tmp → Value) (w : World) : Prop where
  lo : ∀ s g i, gr s = some (g, i) → L.getD i false = true → ∀ z ∈ vbk (τ s), H ≤ z ∧ z < w.heap.size
  dj : ∀ s t g i h j, gr s = some (g, i) → gr t = some (h, j) → g ≠ h → L.getD i false = true → L.getD j false = true → ∀ z ∈ vbk (τ s), z ∉ vbk (τ t)
theorem getD_set_true {L : Array Bool} {i j : Nat} (h : (L.setIfInBounds i true).getD j false = true) : j = i ∨ L.getD j false = true := by
  by_cases e : i = j
  · exact .inl e.symm
  · rw [getD_set_ne false e] at h
    exact .inr h
section
variable {gr : Tmp → Option (Nat × Nat)} {H : Nat} {L : Array Bool} {τ : Tmp → Value} {w w' : World}
theorem Apart.same {i : Nat} {d : Option Tmp} {u : Value} (h : Apart gr H L τ w) (hd : ∀ s, d = some s → gr s = none) (hi : ∀ s g, gr s ≠ some (g, i)) (hs : w.heap.size ≤ w'.heap.size) : Apart gr H (L.setIfInBounds i true) (updT τ d u) w' := by
  have e : ∀ s g j, gr s = some (g, j) → updT τ d u s = τ s := fun s g j hg => by
    cases d with
    | none => rfl
    | some d =>
      have : s ≠ d := fun e => by rw [e, hd d rfl] at hg; cases hg
      simp [updT, this]
  refine ⟨fun s g j hg hj => ?_, fun s t g j k l hg hk hne hj hl => ?_⟩
  · rw [e s g j hg]
    rcases getD_set_true hj with rfl | hj
    · exact absurd hg (hi s g)
    · exact fun z hz => ⟨(h.lo s g j hg hj z hz).1, Nat.lt_of_lt_of_le (h.lo s g j hg hj z hz).2 hs⟩
  · rw [e s g j hg, e t k l hk]
    rcases getD_set_true hj with rfl | hj
    · exact absurd hg (hi s g)
    · rcases getD_set_true hl with rfl | hl
      · exact absurd hk (hi t k)
      · exact h.dj s t g j k l hg hk hne hj hl
theorem Apart.next {i d g : Nat} {u : Value} (h : Apart gr H L τ w) (hd : gr d = some (g, i)) (hi : ∀ s k, gr s = some (k, i) → s = d) (hs : w.heap.size ≤ w'.heap.size) (hH : H ≤ w.heap.size)
    (hu : ∀ z ∈ vbk u, (w.heap.size ≤ z ∧ z < w'.heap.size) ∨ ∃ s j, s ≠ d ∧ gr s = some (g, j) ∧ L.getD j false = true ∧ z ∈ vbk (τ s)) : Apart gr H (L.setIfInBounds i true) (updT τ (some d) u) w' := by
  have ed : updT τ (some d) u d = u := by simp [updT]
  have eo : ∀ s, s ≠ d → updT τ (some d) u s = τ s := fun s hs => by simp [updT, hs]
  have hnew : ∀ t k l, gr t = some (k, l) → g ≠ k → L.getD l false = true → ∀ z ∈ vbk u, z ∉ vbk (τ t) := fun t k l hk hne hl z hz hm => by
    rcases hu z hz with h1 | ⟨s, j, _, h2, h3, h4⟩
    · have := (h.lo t k l hk hl z hm).2; omega
    · exact h.dj s t g j k l h2 hk hne h3 hl z h4 hm
  refine ⟨fun s k j hg hj => ?_, fun s t k j k' l hg hk hne hj hl => ?_⟩
  · by_cases e : s = d
    · subst e
      rw [ed]
      intro z hz
      rcases hu z hz with h1 | ⟨s', j', _, h2, h3, h4⟩
      · exact ⟨by omega, h1.2⟩
      · exact ⟨(h.lo s' g j' h2 h3 z h4).1, Nat.lt_of_lt_of_le (h.lo s' g j' h2 h3 z h4).2 hs⟩
    · rw [eo s e]
      rcases getD_set_true hj with rfl | hj
      · exact absurd (hi s k hg) e
      · exact fun z hz => ⟨(h.lo s k j hg hj z hz).1, Nat.lt_of_lt_of_le (h.lo s k j hg hj z hz).2 hs⟩
  · by_cases es : s = d
    · subst es
      have hkg : k = g := by rw [hd] at hg; cases hg; rfl
      subst hkg
      by_cases et : t = s
      · subst et
        rw [hd] at hk; cases hk
        exact absurd rfl hne
      · rw [ed, eo t et]
        rcases getD_set_true hl with rfl | hl
        · exact absurd (hi t k' hk) et
        · exact hnew t k' l hk hne hl
    · rw [eo s es]
      rcases getD_set_true hj with rfl | hj
      · exact absurd (hi s k hg) es
      · by_cases et : t = d
        · subst et
          have hkg : k' = g := by rw [hd] at hk; cases hk; rfl
          subst hkg
          rw [ed]
          exact fun z hz hm => hnew s k j hg (Ne.symm hne) hj z hm hz
        · rw [eo t et]
          rcases getD_set_true hl with rfl | hl
          · exact absurd (hi t k' hk) et
          · exact h.dj s t k j k' l hg hk hne hj hl
theorem Apart.start (gr : Tmp → Option (Nat × Nat)) (H n : Nat) (τ : Tmp → Value) (w : World) : Apart gr H (Array.replicate n false) τ w :=
  ⟨fun s g i _ hi => by simp [Array.getD] at hi, fun s t g i h j _ _ _ hi => by simp [Array.getD] at hi⟩
end
end Go.Proofs.YthopednilgncgaaDoor
