/- A region that draws its order, walked by what its temporaries hold: each temporary bears a stable fact about its value and the world; an operation that meets the facts of what it looks at leaves the fact of its own temporary. Then, whatever the order, all facts hold at the end. The last operation may be left out (a store behind all others). No program in sight. -/
import Derived.Test.YthopednilgncgaaDoorBase
import Derived.BigQuiet
import Derived.Orders
namespace Go.Proofs.YthopednilgncgaaDoor
open Go

/-- Facts: of a temporary's value, in a world. -/
abbrev Facts := Tmp → Value → World → Prop
def Stays (T : World → World → Prop) (Γ : Facts) : Prop := ∀ s v w w', Γ s v w → T w w' → Γ s v w'

section
variable {P : Program} {ops : Array Oper} {C : Nat → World → Prop} {T : World → World → Prop} {Γ : Facts}

def upT (P : Program) (C : World → Prop) (T : World → World → Prop) (w : World) (V : Value → World → Prop) : Result Next → Prop
  | .ok (.value u) w' => C w' ∧ T w w' ∧ V u w'
  | .ok .skip w' => C w' ∧ T w w' ∧ V undef w'
  | .ok (.enter f args) w' => Calls P f args w' (fun e w'' => ∃ u, e = .returned u ∧ C w'' ∧ T w w'' ∧ V u w'')
  | _ => False
/-- The fact of what an operation writes. -/
def outOf (Γ : Facts) (o : Oper) (u : Value) (w : World) : Prop := match o.dst with
  | none => True
  | some d => Γ d u w
theorem eval_tmp (a : Act) (n : Tmp) : a.eval (.tmp n) = a.tmps[n]?.getD undef := by simp [Act.eval]
/-- What is to be shown of one operation (C k: the class of worlds behind k operations). -/
def fitsOp (P : Program) (ops : Array Oper) (C : Nat → World → Prop) (T : World → World → Prop) (Γ : Facts) (o : Oper) : Prop :=
  ∀ (k : Nat) (a : Act) (w : World), k < ops.size → C k w → (∀ s ∈ o.looksAt ops, Γ s (a.tmps[s]?.getD undef) w) →
    if Region.wanted o (yielded ops a.tmps) then upT P (C (k + 1)) T w (outOf Γ o) ((execOp a.eval o).run P w) else C (k + 1) w ∧ outOf Γ o undef w

theorem upT_wp {C : World → Prop} {o : Oper} {a : Act} {w : World} {V : Value → World → Prop} {K : Act → World → Prop} {Q : Exit → Act → World → Prop} (h : upT P C T w V ((execOp a.eval o).run P w))
    (hk : ∀ u w', C w' → T w w' → V u w' → K (a.put o.dst u) w') : o.wp P a w K Q := by
  unfold Oper.wp
  generalize (execOp a.eval o).run P w = r at *
  cases r with
  | ok n w' =>
    cases n <;> simp only [upT] at h <;> simp only [Oper.upon]
    case value u => exact hk _ _ h.1 h.2.1 h.2.2
    case skip => exact hk _ _ h.1 h.2.1 h.2.2
    case enter f args => exact h.mono fun e w'' ⟨u, he, hc, ht, hv⟩ => by subst he; exact hk _ _ hc ht hv
  | halt x w' => exact h.elim

/-- Which of the operations ahead of it stands in 'after' (Bool). -/
def waits (o : Oper) (i : Nat) : Bool := o.after.any fun e => Region.binds .any e && e.on == i
/-- Edges lead back; what an operation looks at was written by none that it does not wait for; each temporary is written once; each of the first 'stop' is awaited by a later one or 'stop' is all. -/
def depsOk (ops : Array Oper) (stop : Nat) : Bool :=
  (List.range ops.size).all fun k => match ops[k]? with
    | none => false
    | some o => o.after.all (fun e => !Region.binds .any e || decide (e.on < k)) &&
      (List.range ops.size).all (fun i => match ops[i]? with
        | none => true
        | some p => match p.dst with
          | none => true
          | some d => (!(o.looksAt ops).contains d || waits o i) && (o.dst != some d || i == k)) &&
      (stop == ops.size || k == stop || (List.range ops.size).any fun j => decide (k < j) && match ops[j]? with
        | none => false
        | some q => waits q k)

theorem depsOk_back {stop k : Nat} {o : Oper} (h : depsOk ops stop = true) (hk : ops[k]? = some o) {e} (he : e ∈ o.after) (hb : Region.binds .any e = true) : e.on < k := by
  have hlt := (Array.getElem?_eq_some_iff.1 hk).1
  have h1 := List.all_eq_true.1 h k (by simpa using hlt)
  simp only [hk, Bool.and_eq_true] at h1
  have h2 := Array.all_eq_true'.1 h1.1.1 e he
  simpa [hb] using h2
theorem depsOk_reads {stop k i d : Nat} {o p : Oper} (h : depsOk ops stop = true) (hk : ops[k]? = some o) (hi : ops[i]? = some p) (hd : p.dst = some d) (hs : d ∈ o.looksAt ops) : waits o i = true := by
  have hlt := (Array.getElem?_eq_some_iff.1 hk).1
  have hlt' := (Array.getElem?_eq_some_iff.1 hi).1
  have h1 := List.all_eq_true.1 h k (by simpa using hlt)
  simp only [hk, Bool.and_eq_true] at h1
  have h2 := List.all_eq_true.1 h1.1.2 i (by simpa using hlt')
  simp only [hi, hd, Bool.and_eq_true] at h2
  have h3 := h2.1
  simpa [List.contains_iff_mem, hs] using h3
theorem depsOk_once {stop k i d : Nat} {o p : Oper} (h : depsOk ops stop = true) (hk : ops[k]? = some o) (hi : ops[i]? = some p) (hd : p.dst = some d) (ho : o.dst = some d) : i = k := by
  have hlt := (Array.getElem?_eq_some_iff.1 hk).1
  have hlt' := (Array.getElem?_eq_some_iff.1 hi).1
  have h1 := List.all_eq_true.1 h k (by simpa using hlt)
  simp only [hk, Bool.and_eq_true] at h1
  have h2 := List.all_eq_true.1 h1.1.2 i (by simpa using hlt')
  simp only [hi, hd, Bool.and_eq_true] at h2
  have h3 := h2.2
  simpa [ho] using h3
theorem depsOk_next {stop k : Nat} (h : depsOk ops stop = true) (hs : stop < ops.size) (hk : k < ops.size) (hn : k ≠ stop) : ∃ j q, k < j ∧ ops[j]? = some q ∧ waits q k = true := by
  have h1 := List.all_eq_true.1 h k (by simpa using hk)
  have hko := Array.getElem?_eq_getElem hk
  simp only [hko, Bool.and_eq_true] at h1
  have h2 := h1.2
  have e1 : (stop == ops.size) = false := by simp; omega
  have e2 : (k == stop) = false := by simpa using hn
  rw [e1, e2, Bool.false_or, Bool.false_or] at h2
  obtain ⟨j, _, hj⟩ := List.any_eq_true.1 h2
  simp only [Bool.and_eq_true, decide_eq_true_eq] at hj
  cases hq : ops[j]? with
  | none => rw [hq] at hj; exact absurd hj.2 (by simp)
  | some q => rw [hq] at hj; exact ⟨j, q, hj.1, hq, hj.2⟩
theorem waits_iff {o : Oper} {i : Nat} : waits o i = true ↔ ∃ e ∈ o.after, Region.binds .any e = true ∧ e.on = i := by
  unfold waits
  rw [Array.any_eq_true']
  simp

/-- The frame: what no operation writes is as it was; what an operation that came up writes bears its fact. -/
structure TInv (ops : Array Oper) (Γ : Facts) (a0 a : Act) (w : World) (listed : Array Bool) : Prop where
  defers : a.defers = a0.defers
  size : a.tmps.size = a0.tmps.size
  other : ∀ s : Nat, (∀ (i : Nat) o, ops[i]? = some o → o.dst ≠ some s) → a.tmps[s]? = a0.tmps[s]?
  init : ∀ s : Nat, (∀ (i : Nat) o, ops[i]? = some o → o.dst ≠ some s) → Γ s (a.eval (.tmp s)) w
  known : ∀ (i : Nat) o d, ops[i]? = some o → listed.getD i false = true → o.dst = some d → Γ d (a.eval (.tmp d)) w
  down : ∀ (i : Nat) o, ops[i]? = some o → listed.getD i false = true → ∀ e ∈ o.after, Region.binds .any e = true → listed.getD e.on false = true
  lsize : listed.size = ops.size
  range : ∀ (i : Nat) o (d : Nat), ops[i]? = some o → o.dst = some d → d < a0.tmps.size

theorem ready_iff {listed : Array Bool} {i : Nat} (hl : listed.size = ops.size) : i ∈ Region.ready .any ops listed ↔ ∃ o, ops[i]? = some o ∧ listed.getD i false = false ∧ ∀ e ∈ o.after, Region.binds .any e = true → listed.getD e.on false = true := by
  unfold Region.ready
  simp only [List.mem_filter, List.mem_range, Bool.and_eq_true, Bool.not_eq_true']
  constructor
  · rintro ⟨h1, h2, h3⟩
    refine ⟨ops[i], Array.getElem?_eq_getElem h1, ?_, fun e he hb => ?_⟩
    · simpa [Array.getD, hl, h1] using h2
    · rw [Array.getElem?_eq_getElem h1] at h3
      simp only [Option.map_some, Option.getD_some] at h3
      have := Array.all_eq_true'.1 h3 e he
      simpa [hb] using this
  · rintro ⟨o, h1, h2, h3⟩
    have hlt := (Array.getElem?_eq_some_iff.1 h1).1
    refine ⟨hlt, by simpa [Array.getD, hl, hlt] using h2, ?_⟩
    rw [h1]
    simp only [Option.map_some, Option.getD_some]
    refine Array.all_eq_true'.2 fun e he => ?_
    cases hb : Region.binds .any e
    · rfl
    · simpa using h3 e he hb

theorem ready_none {stop : Nat} {listed : Array Bool} (hd : depsOk ops stop = true) (hl : listed.size = ops.size) (h : Region.ready .any ops listed = []) : ∀ i, i < ops.size → listed.getD i false = true := by
  intro i
  induction i using Nat.strongRecOn with
  | ind i ih =>
    intro hi
    have hio := Array.getElem?_eq_getElem hi
    cases hb : listed.getD i false
    · have : i ∈ Region.ready .any ops listed := (ready_iff hl).2 ⟨_, hio, hb, fun e he hb => ih e.on (depsOk_back hd hio he hb) (Nat.lt_trans (depsOk_back hd hio he hb) hi)⟩
      rw [h] at this; cases this
    · rfl

/-- The last one comes last. -/
theorem last_last {stop : Nat} {listed : Array Bool} (hd : depsOk ops stop = true) (hs : stop < ops.size) (hl : listed.size = ops.size) (hdown : ∀ (i : Nat) o, ops[i]? = some o → listed.getD i false = true → ∀ e ∈ o.after, Region.binds .any e = true → listed.getD e.on false = true)
    (hr : stop ∈ Region.ready .any ops listed) (htop : ops.size = stop + 1) : ∀ i, i < stop → listed.getD i false = true := by
  obtain ⟨o, ho, _, hall⟩ := (ready_iff hl).1 hr
  have key : ∀ n i, stop - i ≤ n → i < stop → listed.getD i false = true := by
    intro n
    induction n with
    | zero => intro i h1 h2; omega
    | succ n ih =>
      intro i h1 h2
      obtain ⟨j, q, hj, hq, hw⟩ := depsOk_next hd hs (k := i) (by omega) (by omega)
      have hjs := (Array.getElem?_eq_some_iff.1 hq).1
      obtain ⟨e, he, hb, rfl⟩ := waits_iff.1 hw
      by_cases hjl : j = stop
      · subst hjl
        rw [ho] at hq
        cases hq
        exact hall e he hb
      · exact hdown j q hq (ih j (by omega) (by omega)) e he hb
  exact fun i hi => key (stop - i) i (Nat.le_refl _) hi

/-- All values that fit, put one behind the other. -/
def finT (Γ : Facts) (w : World) (Q : Act → Prop) : List Oper → Act → Prop
  | [], a => Q a
  | o :: r, a => match o.dst with
    | none => finT Γ w Q r a
    | some d => ∀ v, Γ d v w → finT Γ w Q r (a.put (some d) v)

theorem finT_use {w : World} {Q : Act → Prop} {a : Act} : ∀ (l : List Oper) (b : Act), finT Γ w Q l b → b.tmps.size = a.tmps.size → b.defers = a.defers → (∀ o ∈ l, ∀ d, o.dst = some d → Γ d (a.eval (.tmp d)) w) →
    (∀ s : Nat, (∀ o ∈ l, o.dst ≠ some s) → b.tmps[s]? = a.tmps[s]?) → Q a
  | [], b, h, h1, h2, _, h4 => by
    have : b = a := by
      cases a; cases b
      simp only at h1 h2 h4
      subst h2
      congr 1
      exact Array.ext_getElem? fun s => h4 s (by simp)
    rwa [this] at h
  | o :: l, b, h, h1, h2, h3, h4 => by
    unfold finT at h
    cases hd : o.dst with
    | none =>
      rw [hd] at h
      exact finT_use l b h h1 h2 (fun p hp => h3 p (by simp [hp])) (fun s hs => h4 s fun p hp => by
        rcases List.mem_cons.1 hp with rfl | hp
        · rw [hd]; simp
        · exact hs p hp)
    | some d =>
      rw [hd] at h
      refine finT_use l _ (h _ (h3 o (by simp) d hd)) (by simp [Act.put, h1]) (by simp [Act.put, h2]) (fun p hp => h3 p (by simp [hp])) (fun s hs => ?_)
      simp only [Act.put]
      by_cases e : d = s
      · subst e
        rw [Array.getElem?_setIfInBounds_self]
        split
        · rename_i hlt
          have hlt' : d < a.tmps.size := by rw [← h1]; exact hlt
          rw [Array.getElem?_eq_getElem hlt']
          simp [Act.eval, hlt']
        · rename_i hlt
          rw [h1] at hlt
          rw [Array.getElem?_eq_none (Nat.le_of_not_lt hlt)]
      · rw [Array.getElem?_setIfInBounds_ne e]
        refine h4 s fun p hp => ?_
        rcases List.mem_cons.1 hp with rfl | hp
        · rw [hd]; simpa using e
        · exact hs p hp

theorem TInv.next {a0 a : Act} {w w' : World} {listed : Array Bool} {i : Nat} {o : Oper} {u : Value} {stop : Nat} (h : TInv ops Γ a0 a w listed) (hT : Stays T Γ) (hd : depsOk ops stop = true) (ho : ops[i]? = some o)
    (hall : ∀ e ∈ o.after, Region.binds .any e = true → listed.getD e.on false = true) (ht : T w w') (hu : outOf Γ o u w') : TInv ops Γ a0 (a.put o.dst u) w' (listed.setIfInBounds i true) where
  defers := by cases hx : o.dst <;> simp [Act.put, h.defers]
  size := by cases hx : o.dst <;> simp [Act.put, h.size]
  other := fun s hs => by
    have hne := hs i o ho
    cases hx : o.dst with
    | none => exact h.other s hs
    | some d =>
      have : d ≠ s := fun e => hne (by rw [hx, e])
      simp only [Act.put]
      rw [Array.getElem?_setIfInBounds_ne this]
      exact h.other s hs
  init := fun s hs => by
    have hne := hs i o ho
    rw [Act.eval_put (fun d hd e => hne (by cases e; exact hd))]
    exact hT _ _ _ _ (h.init s hs) ht
  known := fun k p d hk hl hp => by
    by_cases e : k = i
    · subst e
      rw [ho] at hk
      cases hk
      unfold outOf at hu
      rw [hp] at hu ⊢
      simp only at hu
      have hr := h.range k o d ho hp
      rw [← h.size] at hr
      have e : (a.put (some d) u).eval (.tmp d) = u := by simp [Act.put, Act.eval, hr]
      rw [e]
      exact hu
    · have hne : ∀ x, o.dst = some x → Operand.tmp d ≠ .tmp x := fun x hx e' => by
        cases e'
        exact e (depsOk_once hd hk ho hx hp).symm
      rw [Act.eval_put hne]
      refine hT _ _ _ _ (h.known k p d hk ?_ hp) ht
      rwa [getD_set_ne false (Ne.symm e)] at hl
  down := fun k p hk hl e he hb => by
    by_cases e1 : k = i
    · subst e1
      rw [ho] at hk
      cases hk
      by_cases e2 : e.on = k
      · have := depsOk_back hd ho he hb; omega
      · rw [getD_set_ne false (Ne.symm e2)]
        exact hall e he hb
    · rw [getD_set_ne false (Ne.symm e1)] at hl
      have := h.down k p hk hl e he hb
      by_cases e2 : e.on = i
      · rw [e2]
        have hi := (Array.getElem?_eq_some_iff.1 ho).1
        simp [Array.getD, h.lsize, hi]
      · rw [getD_set_ne false (Ne.symm e2)]; exact this
  lsize := by simp [h.lsize]
  range := h.range

/-- How many have not come up. -/
def unlisted (listed : Array Bool) : Nat := (List.range listed.size).countP fun i => !listed.getD i false
theorem unlisted_set {listed : Array Bool} {i : Nat} (hi : i < listed.size) (h : listed.getD i false = false) : unlisted listed = unlisted (listed.setIfInBounds i true) + 1 := by
  unfold unlisted
  rw [Array.size_setIfInBounds]
  obtain ⟨m, hm⟩ : ∃ m, listed.size = i + 1 + m := ⟨listed.size - i - 1, by omega⟩
  rw [hm, List.range_add, List.range_succ]
  simp only [List.countP_append, List.countP_singleton, List.countP_map]
  have e1 : (List.range i).countP (fun k => !listed.getD k false) = (List.range i).countP (fun k => !(listed.setIfInBounds i true).getD k false) :=
    List.countP_congr fun k hk => by rw [getD_set_ne false (by have := List.mem_range.1 hk; omega)]
  have e2 : (List.range m).countP ((fun k => !listed.getD k false) ∘ fun x => i + 1 + x) = (List.range m).countP ((fun k => !(listed.setIfInBounds i true).getD k false) ∘ fun x => i + 1 + x) :=
    List.countP_congr fun k hk => by simp only [Function.comp]; rw [getD_set_ne false (by omega)]
  have e3 : (listed.setIfInBounds i true).getD i false = true := by simp [hi]
  rw [e1, e2, e3, h]
  simp
  omega
theorem unlisted_zero {listed : Array Bool} (h : unlisted listed = 0) {i : Nat} (hi : i < listed.size) : listed.getD i false = true := by
  unfold unlisted at h
  rw [List.countP_eq_zero] at h
  have := h i (by simpa using hi)
  simpa using this

/-- Whatever comes up next. -/
theorem wpAny_typed {stop : Nat} {Q : Exit → Act → World → Prop} {a0 : Act} (hT : Stays T Γ) (hd : depsOk ops stop = true) (hf : ∀ (i : Nat) o, i < stop → ops[i]? = some o → fitsOp P ops C T Γ o)
    (hstop : stop = ops.size ∨ ops.size = stop + 1) (hrefl : ∀ w, T w w)
    (hend : ∀ a w listed, TInv ops Γ a0 a w listed → C stop w → (∀ i, i < stop → listed.getD i false = true) → (stop = ops.size → Q .normal a w) ∧ (∀ o, ops[stop]? = some o → wpList P ops Q [o] a w)) :
    ∀ (fuel : Nat) (listed : Array Bool) (a : Act) (w : World), TInv ops Γ a0 a w listed → unlisted listed = fuel → C (ops.size - fuel) w → (stop < ops.size → listed.getD stop false = false) → wpAny P .any ops Q fuel listed a w := by
  intro fuel
  induction fuel with
  | zero =>
    intro listed a w h hu hc hns
    have hall : ∀ i, i < ops.size → listed.getD i false = true := fun i hi => unlisted_zero hu (by rw [h.lsize]; exact hi)
    have hs : stop = ops.size := by
      rcases hstop with hs | hs
      · exact hs
      · have := hns (by omega)
        rw [hall stop (by omega)] at this; cases this
    refine ⟨?_, (hend a w listed h (by rw [hs]; simpa using hc) fun i hi => hall i (by omega)).1 hs⟩
    cases hr : Region.ready .any ops listed with
    | nil => rfl
    | cons x xs =>
      have hx : x ∈ Region.ready .any ops listed := by rw [hr]; simp
      obtain ⟨o, ho, hl, _⟩ := (ready_iff h.lsize).1 hx
      rw [hall x (Array.getElem?_eq_some_iff.1 ho).1] at hl; cases hl
  | succ fuel ih =>
    intro listed a w h hu hc hns
    refine ⟨fun hr => ?_, fun i hi => ?_⟩
    · have hall := ready_none hd h.lsize hr
      have hs : stop = ops.size := by
        rcases hstop with hs | hs
        · exact hs
        · have := hns (by omega)
          rw [hall stop (by omega)] at this; cases this
      have hz : unlisted listed = 0 := by
        unfold unlisted
        rw [List.countP_eq_zero]
        intro i hi
        simp [hall i (by rw [← h.lsize]; simpa using hi)]
      omega
    · obtain ⟨o, ho, hl, hall⟩ := (ready_iff h.lsize).1 hi
      have hlt := (Array.getElem?_eq_some_iff.1 ho).1
      by_cases hst : i = stop
      · subst hst
        have hsz : ops.size = i + 1 := hstop.resolve_left (by omega)
        have hpre := last_last hd hlt h.lsize h.down hi hsz
        have hone : fuel = 0 := by
          have h1 := unlisted_set (i := i) (by rw [h.lsize]; exact hlt) hl
          have h2 : unlisted (listed.setIfInBounds i true) = 0 := by
            unfold unlisted
            rw [List.countP_eq_zero]
            intro x hx
            have hx' : x < ops.size := by rw [← h.lsize]; simpa using hx
            by_cases e : x = i
            · subst e; simp [h.lsize, hlt]
            · rw [getD_set_ne false (Ne.symm e), hpre x (by omega)]; simp
          omega
        have hw := (hend a w listed h (by rw [hone, hsz] at hc; simpa using hc) hpre).2 o ho
        unfold wpOp
        simp only [ho]
        unfold wpList at hw
        have hafter : ∀ a' w', Q .normal a' w' → wpAny P .any ops Q fuel (listed.setIfInBounds i true) a' w' := fun a' w' hq => by
          have hr : Region.ready .any ops (listed.setIfInBounds i true) = [] := by
            cases hr : Region.ready .any ops (listed.setIfInBounds i true) with
            | nil => rfl
            | cons x xs =>
              have hx : x ∈ Region.ready .any ops (listed.setIfInBounds i true) := by rw [hr]; simp
              obtain ⟨p, hp, hlp, _⟩ := (ready_iff (by simp [h.lsize])).1 hx
              have hxs := (Array.getElem?_eq_some_iff.1 hp).1
              by_cases e : x = i
              · subst e
                simp [h.lsize, hlt] at hlp
              · rw [getD_set_ne false (Ne.symm e), hpre x (by omega)] at hlp; cases hlp
          cases fuel with
          | zero => exact ⟨hr, hq⟩
          | succ fuel => exact ⟨fun _ => hq, fun x hx => by rw [hr] at hx; cases hx⟩
        split
        · rename_i hwt
          rw [if_pos hwt] at hw
          exact hw.imp (Oper.wp_mono fun a' w' hq => hafter a' w' hq) id
        · rename_i hwt
          rw [if_neg hwt] at hw
          exact hafter _ _ hw
      · have hi' : i < stop := by rcases hstop with hs | hs <;> omega
        have hfu : fuel + 1 ≤ ops.size := by rw [← hu]; exact Nat.le_trans (List.countP_le_length) (by simp [h.lsize])
        have hk := hf i o hi' ho (ops.size - (fuel + 1)) a w (by omega) hc (fun s hs => by
          by_cases hx : ∀ (k : Nat) p, ops[k]? = some p → p.dst ≠ some s
          · rw [← eval_tmp]; exact h.init s hx
          · have hx' : ∃ (k : Nat) (p : Oper), ops[k]? = some p ∧ p.dst = some s := by
              refine Classical.byContradiction fun hc => hx fun k p hp hd => hc ⟨k, p, hp, hd⟩
            obtain ⟨k, p, hp, hds⟩ := hx'
            have hwt := depsOk_reads hd ho hp hds hs
            obtain ⟨e, he, hb, rfl⟩ := waits_iff.1 hwt
            rw [← eval_tmp]; exact h.known e.on p s hp (hall e he hb) hds)
        have hse : ops.size - (fuel + 1) + 1 = ops.size - fuel := by omega
        rw [hse] at hk
        have hgo : ∀ u w', C (ops.size - fuel) w' → T w w' → outOf Γ o u w' → wpAny P .any ops Q fuel (listed.setIfInBounds i true) (a.put o.dst u) w' := fun u w' hc ht hv =>
          ih _ _ _ (h.next hT hd ho hall ht hv) (by have := unlisted_set (i := i) (by rw [h.lsize]; exact hlt) hl; omega) hc (fun hs => by rw [getD_set_ne false hst]; exact hns hs)
        unfold wpOp
        simp only [ho]
        split
        · rename_i hwt
          rw [if_pos hwt] at hk
          exact .inl (upT_wp hk hgo)
        · rename_i hwt
          rw [if_neg hwt] at hk
          exact hgo _ _ hk.1 (hrefl w) hk.2

/-- What is known at the beginning. -/
structure TStart (ops : Array Oper) (C : Nat → World → Prop) (Γ : Facts) (a : Act) (w : World) : Prop where
  cl : C 0 w.drew
  init : ∀ s : Nat, ((ops.toList.filterMap (·.dst)).contains s = false) → Γ s (a.eval (.tmp s)) w.drew
  range : ops.toList.all (fun o => match o.dst with | none => true | some d => decide (d < a.tmps.size)) = true

theorem TStart.inv {a : Act} {w : World} (h : TStart ops C Γ a w) : TInv ops Γ a a w.drew (Array.replicate ops.size false) where
  defers := rfl
  size := rfl
  other := fun _ _ => rfl
  init := fun s hs => h.init s (by
    cases hc : (ops.toList.filterMap (·.dst)).contains s
    · rfl
    · rw [List.contains_iff_mem, List.mem_filterMap] at hc
      obtain ⟨o, ho, hd⟩ := hc
      obtain ⟨i, hi, rfl⟩ := List.mem_iff_getElem.1 ho
      exact absurd hd (hs i _ (by rw [Array.getElem?_eq_getElem (by simpa using hi)]; simp)))
  known := fun i o d hi hl => by simp [Array.getD] at hl
  down := fun i o hi hl => by simp [Array.getD] at hl
  lsize := by simp
  range := fun i o d hi hd => by
    have := List.all_eq_true.1 h.range o (by rw [Array.mem_toList_iff]; exact Array.mem_of_getElem? hi)
    rw [hd] at this
    simpa using this
theorem unlisted_start (n : Nat) : unlisted (Array.replicate n false) = n := by
  unfold unlisted
  rw [Array.size_replicate, List.countP_eq_length.2 (fun i hi => by
    have := List.mem_range.1 hi
    simp [Array.getD, this])]
  simp

theorem TInv.fin {a0 a : Act} {w : World} {listed : Array Bool} {Q : Act → Prop} {l : List Oper} (h : TInv ops Γ a0 a w listed) (hl : ∀ o ∈ l, ∃ i : Nat, ops[i]? = some o ∧ listed.getD i false = true)
    (hout : ∀ (s : Nat), (∀ o ∈ l, o.dst ≠ some s) → ∀ (i : Nat) o, ops[i]? = some o → o.dst ≠ some s) (hf : finT Γ w Q l a0) : Q a :=
  finT_use l a0 hf h.size.symm h.defers.symm (fun o ho d hd => by obtain ⟨i, hi, hk⟩ := hl o ho; exact h.known i o d hi hk hd) (fun s hs => (h.other s (hout s hs)).symm)

/-- ALL OPERATIONS BY WHAT THEY HOLD. -/
theorem wp_region_typed {id : Nat} {Q : Exit → Act → World → Prop} {a : Act} {w : World} {l : List Oper} (C : Nat → World → Prop) (T : World → World → Prop) (Γ : Facts) (hm : P.follows .mixedOrders = true) (hd : depsOk l.toArray l.length = true)
    (hT : Stays T Γ) (hrefl : ∀ w, T w w) (hs : TStart l.toArray C Γ a w) (hf : ∀ o ∈ l, fitsOp P l.toArray C T Γ o) (h : ∀ w', C l.length w' → finT Γ w' (fun a' => Q .normal a' w') l a) : (Code.region id l.toArray true).wp P Q a w := by
  refine wp_region_any hm ?_
  refine wpAny_typed (C := C) (stop := l.length) hT hd (fun i o hi ho => hf o (by simpa using Array.mem_of_getElem? ho)) (.inl (by simp)) hrefl (fun a' w' listed hi hc hall => ⟨fun _ => ?_, fun o ho => ?_⟩) _ _ _ _ hs.inv (by simp [unlisted_start]) (by simpa using hs.cl) (fun h => absurd h (by simp))
  · refine hi.fin (l := l) (fun o ho => ?_) (fun s hs i o hi => hs o (by simpa using Array.mem_of_getElem? hi)) (h w' hc)
    obtain ⟨i, hlt, rfl⟩ := List.mem_iff_getElem.1 ho
    exact ⟨i, by simp [hlt], hall i hlt⟩
  · simp at ho

/-- ALL BUT THE LAST ONE, which comes behind all others. -/
theorem wp_region_typed_last {id : Nat} {Q : Exit → Act → World → Prop} {a : Act} {w : World} {L : List Oper} (n : Nat) (o : Oper) (hL : L = L.take n ++ [o]) (C : Nat → World → Prop) (T : World → World → Prop) (Γ : Facts) (hm : P.follows .mixedOrders = true) (hn : n + 1 = L.length) (hd : depsOk L.toArray n = true)
    (hn0 : o.dst = none) (hT : Stays T Γ) (hrefl : ∀ w, T w w) (hs : TStart L.toArray C Γ a w) (hf : ∀ p ∈ L.take n, fitsOp P L.toArray C T Γ p) (h : ∀ w', C n w' → finT Γ w' (fun a' => wpList P L.toArray Q [o] a' w') (L.take n) a) : (Code.region id L.toArray true).wp P Q a w := by
  have hat : L[n]? = some o := by
    rw [hL, List.getElem?_append_right (by simp; omega)]
    simp only [List.length_take]
    rw [show n - min n L.length = 0 by omega]
    rfl
  refine wp_region_any hm ?_
  refine wpAny_typed (C := C) (stop := n) hT hd (fun i p hi ho => hf p ?_) (.inr (by simp [hn])) hrefl (fun a' w' listed hi hc hall => ⟨fun he => absurd he (by simp; omega), fun p hp => ?_⟩) _ _ _ _ hs.inv (by simp [unlisted_start]) (by simpa using hs.cl) (fun h => by simp [Array.getD]) 
  · have hx : L[i]? = some p := by simpa using ho
    exact List.mem_take_iff_getElem.2 ⟨i, by have := (List.getElem?_eq_some_iff.1 hx).1; omega, (List.getElem?_eq_some_iff.1 hx).2⟩
  · have hx : L[n]? = some p := by simpa using hp
    rw [hat] at hx
    obtain rfl := Option.some.inj hx
    refine hi.fin (l := L.take n) (fun q hq => ?_) (fun s hs i q hi => ?_) (h w' hc)
    · obtain ⟨i, hlt, rfl⟩ := List.mem_take_iff_getElem.1 hq
      exact ⟨i, by simp [show i < L.length by omega], hall i (by omega)⟩
    · have hq : L[i]? = some q := by simpa using hi
      obtain ⟨hlt, he⟩ := List.getElem?_eq_some_iff.1 hq
      by_cases e : i = n
      · subst e
        rw [hat] at hq
        obtain rfl := Option.some.inj hq
        rw [hn0]; simp
      · exact hs q (List.mem_take_iff_getElem.2 ⟨i, by omega, he⟩)
end
end Go.Proofs.YthopednilgncgaaDoor
