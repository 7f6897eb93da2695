/- The law FnExactMdlFiles, walked. -/
import Derived.Test.YtnogkkcmcnhodaaGreatDoorMf
import Derived.Test.YtnogkkcmcnhodaaGreatDoorFz
import Derived.Test.YtnogkkcmcnhodaaGreatDoorMt
import Derived.Test.YtnogkkcmcnhodaaGreatDoorWE
import Derived.Test.YtnogkkcmcnhodaaGreatDoorWZ
import Derived.Test.YtnogkkcmcnhodaaGreatDoorWT
namespace Go.Proofs.YtnogkkcmcnhodaaGreatDoor
open Go.RowKit
attribute [local go_sem ↓] Go.wp_at_zero Go.wp_at_succ

theorem countL_mono {α : Type} {f : α → Nat} {k : Nat} (h : ∀ x, f x ≤ k) : ∀ l : List α, countL f l ≤ k * l.length
  | [] => by simp [countL]
  | x :: l => by
    have ih := countL_mono h l
    have hx := h x
    simp only [countL, List.map_cons, List.sum_cons, List.length_cons] at *
    rw [Nat.mul_add, Nat.mul_one]
    omega
theorem countL_le_sz {α : Type} {f g : α → Nat} {k : Nat} (h : ∀ x, f x ≤ k * (1 + g x)) : ∀ l : List α, countL f l ≤ k * szL g l
  | [] => by simp [countL]
  | x :: l => by
    have ih := countL_le_sz h l
    have hx := h x
    simp only [countL, szL, sumOf, List.map_cons, List.sum_cons, List.length_cons] at *
    simp only [Nat.mul_add, Nat.mul_one] at *
    omega
theorem countFiles_le (l : List File) : countL ctFile l ≤ 2 * l.length := countL_mono (fun _ => Nat.le_refl 2) l
theorem ctRef_le (x : Ref) : ctRef x ≤ 4 * (1 + szRef x) := by
  unfold ctRef szRef
  have : countL (countL ctFile) x.versions ≤ 4 * szL (fun y => szL szFile y) x.versions := countL_le_sz (fun l => by
    have h1 := countFiles_le l
    have h2 := szL_len szFile l
    omega) x.versions
  omega
theorem ctRepo_le (x : Repo) : ctRepo x ≤ 4 * (1 + szRepo x) := by
  unfold ctRepo szRepo
  have h1 : countL ctRule x.rules ≤ 4 * x.rules.length := countL_mono (fun _ => Nat.le_refl 4) x.rules
  have h2 := szL_len szRule x.rules
  have h3 : countL ctRef x.refs ≤ 4 * szL szRef x.refs := countL_le_sz ctRef_le x.refs
  omega
theorem ctHouse_le (x : House) : ctHouse x ≤ 4 * szHouse x := by
  unfold ctHouse szHouse
  have h1 : countL (fun _ : Int => 1) x.keys ≤ 1 * x.keys.length := countL_mono (fun _ => Nat.le_refl 1) x.keys
  have h2 : countL (fun _ : Int => 1) x.used ≤ 1 * x.used.length := countL_mono (fun _ => Nat.le_refl 1) x.used
  have h3 : countL ctRepo x.repos ≤ 4 * szL szRepo x.repos := countL_le_sz ctRepo_le x.repos
  omega
theorem mdlFiles_len (m : House) (repo : Int) (name : ByteArray) (back : Int) : ((mdlFiles m repo name back).getD []).length ≤ 60 := by
  cases h : mdlOk m
  · rw [mdlFiles_no h]; simp
  · rw [mdlFiles_ok h]; exact filesOf_len h

/-- What is new: a slice of files of the call's own. -/
theorem own_files {w : World} {base : Nat} {v : Value} {l : List File} (h : w.ownsRow base 104 2 v l.length (l.flatMap encFile)) : ∃ A c f, v = .slice A l.length c ∧ SlR Rp.file w A l.length c l f ∧ (∀ b ∈ f, base ≤ b) ∧ f.Nodup ∧ Free w f :=
  own_sl (k := 2) (enc := encFile) (hk := fun _ => rfl) (h1 := encFile_one) h
end Go.Proofs.YtnogkkcmcnhodaaGreatDoor
