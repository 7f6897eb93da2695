/- Walks: a whole house is marked, and asked whether the marks hold. -/
import Derived.Test.YtnogkkcmcnhodaaDoorWM
import Derived.Test.YtnogkkcmcnhodaaDoorWH
namespace Go.Proofs.YtnogkkcmcnhodaaDoor
open Go.RowKit
attribute [local go_sem ↓] Go.wp_at_zero Go.wp_at_succ

theorem ctHouse_parts (x : House) : ((ctHouse x : Nat) : Int) = ((countL (fun _ => 1) x.keys : Nat) : Int) + ((countL (fun _ => 1) x.used : Nat) : Int) + ((countL ctRepo x.repos : Nat) : Int) := by
  unfold ctHouse
  omega
theorem disj_left {f g : List Nat} (h : (f ++ g).Nodup) : ∀ x ∈ f, x ∉ g := fun x hx hg => (List.nodup_append.1 h).2.2 x hx x hg rfl
theorem disj_right {f g : List Nat} (h : (f ++ g).Nodup) : ∀ x ∈ g, x ∉ f := fun x hx hf => (List.nodup_append.1 h).2.2 x hf x hx rfl

set_option maxHeartbeats 2000000 in
theorem markHouse_any {cs : List Value} {x : House} {fx : List Nat} (k0 : Int) (w : World) (hx : Rp.house.R w cs x fx) (hnd : fx.Nodup) (hfr : Free w fx) (hk0 : 0 ≤ k0) (hkm : k0 + (ctHouse x : Nat) ≤ 1152921504606846976) :
    Calls Tryd.prog 12 #[.agg cs.toArray, .int .i64 k0] w fun e w' => e = .returned (.int .i64 (k0 + (ctHouse x : Nat))) ∧ Rp.house.R w' cs (mkHouse x k0) fx ∧ Only fx w w' ∧ Free w' fx := by
  obtain ⟨A0, n0, c0, f0, A1, n1, c1, f1, A2, n2, c2, f2, rfl, rfl, h0, h1, h2⟩ := hx
  have hct := ctHouse_parts x
  rw [hct] at hkm ⊢
  have n0' : 0 ≤ ((countL (fun _ => 1) x.keys : Nat) : Int) := by omega
  have n1' : 0 ≤ ((countL (fun _ => 1) x.used : Nat) : Int) := by omega
  have n2' : 0 ≤ ((countL ctRepo x.repos : Nat) : Int) := by omega
  have d0 := disj_left hnd
  have d0' := disj_right hnd
  have hnd1 := (List.nodup_append.1 hnd).2.1
  have d1 := disj_left hnd1
  have d1' := disj_right hnd1
  have m0 := (List.nodup_append.1 hnd).1
  have m1 := (List.nodup_append.1 hnd1).1
  have m2 := (List.nodup_append.1 hnd1).2.1
  have HC := hide (show ∀ (k : Int), k = k from fun _ => rfl)
  have kb := Blk.new w 25 #[.slice A0 n0 c0, .slice A1 n1 c1, .slice A2 n2 c2]
  have hgl : ∀ z ∈ f0 ++ (f1 ++ f2), z < w.heap.size := hfr.lt
  have HFR := hfr.step ((Below.refl w.heap.size w).alloc (Nat.le_refl _) (.cells #[.slice A0 n0 c0, .slice A1 n1 c1, .slice A2 n2 c2] 25))
  replace h0 := h0.allocN (.cells #[.slice A0 n0 c0, .slice A1 n1 c1, .slice A2 n2 c2] 25)
  replace h1 := h1.allocN (.cells #[.slice A0 n0 c0, .slice A1 n1 c1, .slice A2 n2 c2] 25)
  replace h2 := h2.allocN (.cells #[.slice A0 n0 c0, .slice A1 n1 c1, .slice A2 n2 c2] 25)
  have HO := (Only.refl (f0 ++ (f1 ++ f2)) w).alloc (.cells #[.slice A0 n0 c0, .slice A1 n1 c1, .slice A2 n2 c2] 25)
  have hnb : ∀ f : List Nat, (∀ z ∈ f, z ∈ f0 ++ (f1 ++ f2)) → w.heap.size ∉ f := fun f hf hm => by have := hgl _ (hf _ hm); omega
  have HNB := hide hnb
  have HD := hide (show (∀ z ∈ f0, z ∈ f0 ++ (f1 ++ f2)) ∧ (∀ z ∈ f1, z ∈ f0 ++ (f1 ++ f2)) ∧ ∀ z ∈ f2, z ∈ f0 ++ (f1 ++ f2) from ⟨fun z hz => by simp [hz], fun z hz => by simp [hz], fun z hz => by simp [hz]⟩)
  clear hnb hgl hnd hnd1 hfr
  go_enter Tryd.func12, Tryd.ntmps12
  go_wp2_with fail
  refine (markIntS_any k0 _ h0 m0 (HFR.sub HD.out.1) hk0 (by omega)).mono ?_
  rintro e w1 ⟨rfl, h0, ho, hf⟩
  replace kb := kb.only ho (HNB.out _ HD.out.1)
  replace h1 := h1.only ho (fun z hz hm => d0 z hm (by simp [hz]))
  replace h2 := h2.only ho (fun z hz hm => d0 z hm (by simp [hz]))
  replace HFR := HFR.other ho hf (fun z hz => HFR.lt z hz)
  replace HO := HO.then_only ho (fun z hz => .inl (HD.out.1 z hz))
  clear ho hf
  have u1 : w1.cell? ⟨w.heap.size, 1, none⟩ = some (.slice A1 n1 c1) := kb.cell 1
  go_wp2_with fail
  refine (markIntS_any _ _ h1 m1 (HFR.sub HD.out.2.1) (by omega) (by omega)).mono ?_
  rintro e w2 ⟨rfl, h1, ho, hf⟩
  replace kb := kb.only ho (HNB.out _ HD.out.2.1)
  replace h0 := h0.only ho (fun z hz hm => d0 z hz (by simp [hm]))
  replace h2 := h2.only ho (fun z hz hm => d1 z hm hz)
  replace HFR := HFR.other ho hf (fun z hz => HFR.lt z hz)
  replace HO := HO.then_only ho (fun z hz => .inl (HD.out.2.1 z hz))
  clear ho hf u1
  have u2 : w2.cell? ⟨w.heap.size, 2, none⟩ = some (.slice A2 n2 c2) := kb.cell 2
  go_wp2_with fail
  refine (markRepoS_any _ _ h2 m2 (HFR.sub HD.out.2.2) (by omega) (by omega)).mono ?_
  rintro e w3 ⟨rfl, h2, ho, hf⟩
  replace h0 := h0.only ho (fun z hz hm => d0 z hz (by simp [hm]))
  replace h1 := h1.only ho (fun z hz hm => d1 z hz hm)
  replace HFR := HFR.other ho hf (fun z hz => HFR.lt z hz)
  replace HO := HO.then_only ho (fun z hz => .inl (HD.out.2.2 z hz))
  clear ho hf u2
  have HRET := hide (show k0 + ((countL (fun _ => 1) x.keys : Nat) : Int) + ((countL (fun _ => 1) x.used : Nat) : Int) + ((countL ctRepo x.repos : Nat) : Int) = k0 + (((countL (fun _ => 1) x.keys : Nat) : Int) + ((countL (fun _ => 1) x.used : Nat) : Int) + ((countL ctRepo x.repos : Nat) : Int)) by omega)
  go_wp2
  go_ret
  exact ⟨ret_int HRET.out, ⟨A0, n0, c0, f0, A1, n1, c1, f1, A2, n2, c2, f2, rfl, rfl, h0, h1, h2⟩, HO, HFR⟩

set_option maxHeartbeats 2000000 in
theorem heldHouse_any {cs : List Value} {x : House} {fx : List Nat} (k0 : Int) (w : World) (hx : Rp.house.R w cs (mkHouse x k0) fx) (hk0 : 0 ≤ k0) (hkm : k0 + (ctHouse x : Nat) ≤ 1152921504606846976) :
    Calls Tryd.prog 13 #[.agg cs.toArray, .int .i64 k0] w fun e w' => e = .returned (.int .i64 (k0 + (ctHouse x : Nat))) ∧ Below w.heap.size w w' := by
  obtain ⟨A0, n0, c0, f0, A1, n1, c1, f1, A2, n2, c2, f2, rfl, _, h0, h1, h2⟩ := hx
  have hct := ctHouse_parts x
  rw [hct] at hkm ⊢
  have n0' : 0 ≤ ((countL (fun _ => 1) x.keys : Nat) : Int) := by omega
  have n1' : 0 ≤ ((countL (fun _ => 1) x.used : Nat) : Int) := by omega
  have n2' : 0 ≤ ((countL ctRepo x.repos : Nat) : Int) := by omega
  have kb := Blk.new w 25 #[.slice A0 n0 c0, .slice A1 n1 c1, .slice A2 n2 c2]
  replace h0 := h0.allocN (.cells #[.slice A0 n0 c0, .slice A1 n1 c1, .slice A2 n2 c2] 25)
  replace h1 := h1.allocN (.cells #[.slice A0 n0 c0, .slice A1 n1 c1, .slice A2 n2 c2] 25)
  replace h2 := h2.allocN (.cells #[.slice A0 n0 c0, .slice A1 n1 c1, .slice A2 n2 c2] 25)
  have HB := (Below.refl w.heap.size w).alloc (Nat.le_refl _) (.cells #[.slice A0 n0 c0, .slice A1 n1 c1, .slice A2 n2 c2] 25)
  go_enter Tryd.func13, Tryd.ntmps13
  go_wp2_with fail
  refine (heldIntS_any k0 _ h0 hk0 (by omega)).mono ?_
  rintro e w1 ⟨rfl, hb⟩
  replace kb := kb.step hb
  replace h1 := h1.step hb
  replace h2 := h2.step hb
  replace HB := Below.then_ HB hb
  clear hb h0
  have u1 : w1.cell? ⟨w.heap.size, 1, none⟩ = some (.slice A1 n1 c1) := kb.cell 1
  go_wp2_with fail
  refine (heldIntS_any _ _ h1 (by omega) (by omega)).mono ?_
  rintro e w2 ⟨rfl, hb⟩
  replace kb := kb.step hb
  replace h2 := h2.step hb
  replace HB := Below.then_ HB hb
  clear hb h1 u1
  have u2 : w2.cell? ⟨w.heap.size, 2, none⟩ = some (.slice A2 n2 c2) := kb.cell 2
  go_wp2_with fail
  refine (heldRepoS_any _ _ h2 (by omega) (by omega)).mono ?_
  rintro e w3 ⟨rfl, hb⟩
  replace HB := Below.then_ HB hb
  clear hb h2 u2
  have HRET := hide (show k0 + ((countL (fun _ => 1) x.keys : Nat) : Int) + ((countL (fun _ => 1) x.used : Nat) : Int) + ((countL ctRepo x.repos : Nat) : Int) = k0 + (((countL (fun _ => 1) x.keys : Nat) : Int) + ((countL (fun _ => 1) x.used : Nat) : Int) + ((countL ctRepo x.repos : Nat) : Int)) by omega)
  have hnn : ¬ k0 + ((countL (fun _ => 1) x.keys : Nat) : Int) + ((countL (fun _ => 1) x.used : Nat) : Int) + ((countL ctRepo x.repos : Nat) : Int) < 0 := by omega
  go_wp2
  go_ret
  exact ⟨ret_int HRET.out, HB⟩
end Go.Proofs.YtnogkkcmcnhodaaDoor
