/- From a row's reading of an argument to the readings 'Rp'; the end of a row whose call leaves all old memory as it was. -/
import Derived.Test.YthopednilgncgaaDoorMem
import Derived.ProofKit
import Derived.Deep.Slices
import Derived.Deep.Fields
namespace Go.Proofs.YthopednilgncgaaDoor
open Go.ChangeShapes Go.WideShapes Go.ChangeAt Go.RowKit Go.Deep

/-- Whatever reads as data of type t reads by r. -/
def Opens {α H : Type} (enc : TypeId × Value → H) (P : Program) (t : TypeId) (r : Rp α) (ok : α → Prop) : Prop :=
  ∀ {w : World} {base : Nat} {spare : Nat → Bool} {held : Bool} {fuel : Nat} {cs : List Value} {x : DataW H × List MemPlace}, DataW.trod enc P w base spare held fuel t cs = some x → ∃ y fp, r.R w cs y fp ∧ ok y

section
variable {H : Type} {enc : TypeId × Value → H} {P : Program}
theorem opens_int {t : TypeId} (ht : P.underlying t = some (.int .i64)) : Opens enc P t Rp.int (fun x => -9223372036854775808 ≤ x ∧ x ≤ 9223372036854775807) := fun h => by
  obtain ⟨n, rfl, _, hw⟩ := DataW.trod_int ht h
  refine ⟨n, [], ⟨rfl, rfl⟩, ?_⟩
  simp [Lit.wf, IntKind.min, IntKind.max, IntKind.signed, IntKind.bits] at hw
  omega
theorem opens_byte {t : TypeId} (ht : P.underlying t = some (.int .u8)) : Opens enc P t Rp.byte (fun _ => True) := fun h => by
  obtain ⟨n, rfl, _, hw⟩ := DataW.trod_int ht h
  simp [Lit.wf, IntKind.min, IntKind.max, IntKind.signed, IntKind.bits] at hw
  refine ⟨UInt8.ofNat n.toNat, [], ⟨?_, rfl⟩, trivial⟩
  have e : ((UInt8.ofNat n.toNat).toNat : Int) = n := by
    rw [UInt8.toNat_ofNat']
    omega
  show [Value.int .u8 n] = [Value.int .u8 ((UInt8.ofNat n.toNat).toNat : Int)]
  rw [e]
theorem opens_bool {t : TypeId} (ht : P.underlying t = some .bool) : Opens enc P t Rp.bool (fun _ => True) := fun h => by
  obtain ⟨n, rfl, _⟩ := DataW.trod_bool ht h
  exact ⟨n, [], ⟨rfl, rfl⟩, trivial⟩
theorem opens_str {t : TypeId} (ht : P.underlying t = some .string) : Opens enc P t Rp.str (fun s => s.size ≤ 9223372036854775807) := fun h => by
  obtain ⟨n, rfl, _, hs⟩ := DataW.trod_string ht h
  refine ⟨n, [], ⟨rfl, rfl⟩, ?_⟩
  unfold maxLen at hs
  omega

theorem spot_none {w : World} {a : Addr} {v : Value} (h : w.cell? a = some v) : a.spot = none := by
  unfold World.cell? at h
  split at h
  · split at h
    · cases h
    · rename_i hs; simpa using hs
  · cases h

theorem opens_rows {α : Type} {r : Rp α} {ok : α → Prop} {w : World} {base : Nat} {a : Addr} : ∀ (len : Nat), (∀ i, i < len → ∃ cs' y f, w.cells? base (a.add (i * r.k)) r.k = some cs' ∧ r.R w cs' y f ∧ ok y) →
    ∃ xs l fp, l.length = len ∧ AllR r w xs l fp ∧ (∀ y ∈ l, ok y) ∧ ∀ j u, xs[j]? = some u → w.cell? (a.add j) = some u
  | 0, _ => ⟨[], [], [], rfl, ⟨rfl, rfl⟩, by simp, by simp⟩
  | len + 1, h => by
    obtain ⟨xs, l, fp, hl, ha, hok, hc⟩ := opens_rows len (fun i hi => h i (by omega))
    obtain ⟨cs', y, f, hcs, hr, hy⟩ := h len (by omega)
    obtain ⟨_, hcl, hat⟩ := World.cells?_some hcs
    have hxl := ha.len
    refine ⟨xs ++ cs', l ++ [y], fp ++ f, by simp [hl], ha.snoc hr, fun z hz => ?_, fun j u hu => ?_⟩
    · rcases List.mem_append.1 hz with hz | hz
      · exact hok z hz
      · simp at hz; subst hz; exact hy
    · by_cases hj : j < xs.length
      · rw [List.getElem?_append_left hj] at hu; exact hc j u hu
      · rw [List.getElem?_append_right (by omega)] at hu
        have hlt := (List.getElem?_eq_some_iff.1 hu).1
        have := hat (i := j - xs.length) (by omega)
        rw [hu] at this
        rw [Go.Deep.add_add, show len * r.k + (j - xs.length) = j from by rw [hl] at hxl; omega] at this
        exact this

theorem opens_slice {α : Type} {r : Rp α} {ok : α → Prop} {t e : TypeId} (ht : P.underlying t = some (.slice e)) (hC : P.cellsOf e = r.k) (hk : 0 < r.k) (h : Opens enc P e r ok) : Opens enc P t (Rp.slice r) (fun l => ∀ y ∈ l, ok y) := fun {w base spare held fuel cs x} hr => by
  rcases open_slice ht hr with ⟨rfl, _⟩ | ⟨a, len, cap, m, n, D, Pl, rfl, hb, hl, hm, hmm, _, hi⟩
  · exact ⟨[], [], ⟨none, 0, 0, rfl, SlR.nil⟩, by simp⟩
  · have hle : len ≤ m := by rw [hmm]; split <;> omega
    rw [hC] at hi
    obtain ⟨xs, l, fp, hlen, ha, hok, hc⟩ := opens_rows (r := r) (ok := ok) (w := w) (base := base) (a := a) len (fun i hii => by
      obtain ⟨cs', hcs, htr⟩ := hi i (by omega)
      obtain ⟨y, f, hR, hy⟩ := h htr
      exact ⟨cs', y, f, hcs, hR, hy⟩)
    have hxl := ha.len
    by_cases h0 : len = 0
    · subst h0
      have : l = [] := List.eq_nil_of_length_eq_zero hlen
      subst this
      obtain ⟨rfl, rfl⟩ := ha
      exact ⟨[], [], ⟨some a, 0, cap, rfl, rfl, Nat.zero_le _, hm, [], [], [], ⟨by simp, .inl ⟨rfl, rfl⟩⟩, ⟨rfl, rfl⟩, rfl⟩, by simp⟩
    · have hpos : 0 < xs.length := by rw [hxl, hlen]; exact Nat.mul_pos (by omega) hk
      have h00 := hc 0 xs[0] (List.getElem?_eq_getElem hpos)
      have ha0 : a.add 0 = a := by simp [Addr.add]
      rw [ha0] at h00
      obtain ⟨b, o, s⟩ := a
      have hs : s = none := spot_none h00
      subst hs
      refine ⟨l, [b] ++ fp, ⟨_, len, cap, rfl, hlen.symm, hl, hm, xs, [b], fp, ⟨by rw [hxl, hlen], .inr ⟨by omega, b, o, rfl, rfl, World.block_lt_of_cell? w _ h00, fun j u hu => ?_⟩⟩, ha, rfl⟩, hok⟩
      have := hc j u hu
      rwa [Addr.add_lit] at this

theorem opens_field {α : Type} {r : Rp α} {ok : α → Prop} {w : World} {base : Nat} {spare : Nat → Bool} {held : Bool} {n : Nat} {cs : List Value} {xs : List (DataW H × List MemPlace)} {fs : Array Field}
    (hf : ∀ (i : Nat) (f : Field), fs[i]? = some f → DataW.trod enc P w base spare held n f.type ((cs.drop f.offset).take (P.cellsOf f.type)) = xs[i]?) (hxl : xs.length = fs.size)
    (i : Nat) (f : Field) (hi : fs[i]? = some f) (k : Nat) (hk : P.cellsOf f.type = k) (ho : Opens enc P f.type r ok) : ∃ y fp, r.R w ((cs.drop f.offset).take k) y fp ∧ ok y := by
  have h := hf i f hi
  have hlt : i < xs.length := by rw [hxl]; exact (Array.getElem?_eq_some_iff.1 hi).1
  rw [List.getElem?_eq_getElem hlt, hk] at h
  exact ho h

/-- The last step of a row whose call leaves all that lay before as it was (after the guide's small lemmas). -/
theorem post_of_below {f : Func} {s : ChangeSpec} {apart fresh handsOn again : Bool} {W W' : World} {args : Array Value} {v : Value} {ds gs : List (DataW H)} {before pa pv : List MemPlace}
    (hW : DataW.Whole enc P f.params.toList s.vars apart W args.toList ds gs before)
    (hres : ∀ (b : Nat) (sp : Nat → Bool) (hd : Bool), DataW.TrodAll enc P W' b sp hd f.resultTypes.toList (v.resultList f.resultTypes.size) (s.fn H (ds ++ gs)).results [])
    (hargs : ∀ sp : Nat → Bool, (∀ p ∈ before, sp p.block = true) → DataW.TrodAll enc P W' 0 sp true f.params.toList args.toList (s.fn H (ds ++ gs)).args pa)
    (hvars : ∀ sp : Nat → Bool, (∀ p ∈ before, sp p.block = true) → DataW.TrodVars enc P W' sp s.vars (s.fn H (ds ++ gs)).vars pv)
    (hps : before = pa ++ pv) (hb : Below W.heap.size W W')
    (hok : ∀ (j : Nat) (t : TypeId) (r : Value), f.resultTypes[j]? = some t → (v.resultList f.resultTypes.size)[j]? = some r → Value.okWide P W' .any 0 t r) :
    s.post enc P f apart fresh handsOn again W args v W' := by
  have hlt : ∀ p ∈ before, p.block < W.heap.size := fun p hp => hW.lt p hp
  have hold : ∀ p ∈ before, (fun b => decide (b < W.heap.size)) p.block = true := fun p hp => by simpa using hlt p hp
  refine ⟨ds, gs, before, [], pa, pv, hW, hres _ _ _, hargs _ hold, hvars _ hold, World.keptBut_mono (fun p hp => ⟨hp, ?_⟩) (hb.frame (· ∈ before)), fun _ => ?_⟩
  · rw [hps, List.mem_append] at hp
    exact Or.inr hp
  · obtain ⟨_, _, _, _, _, hz, hn⟩ := hW
    refine ⟨hok, _, _, ([] ++ pa) ++ pv, ⟨[] ++ pa, pv, trodAll_append (hargs _ (fun _ _ => rfl)) (hres _ _ _), hvars _ (fun _ _ => rfl), rfl, ?_, ?_⟩, ?_⟩
    · intro b off hp
      have hin : MemPlace.cell b off ∈ before := by rw [hps]; simpa using hp
      rw [hb.frozen (hlt _ hin)]
      exact hz b off hin
    · intro ha
      have := hn ha
      rw [hps] at this
      simpa using this
    · intro p hp _
      rw [hps]
      simpa using hp
end

end Go.Proofs.YthopednilgncgaaDoor
