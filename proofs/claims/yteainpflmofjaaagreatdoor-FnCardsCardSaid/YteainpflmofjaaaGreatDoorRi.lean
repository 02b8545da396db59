/- Rising numbers, what is among numbers: by the program and by the reference. General. -/
import Derived.Test.YteainpflmofjaaaGreatDoorFind
import Derived.Test.YteainpflmofjaaaGreatDoorBnd
import Derived.Outline
namespace Go.Proofs.YteainpflmofjaaaGreatDoor
open Go.RowKit
@[go_sem] theorem lt_add_one2 (a c0 c1 : Nat) : a < a + 1 + c0 + c1 := by omega
@[go_sem] theorem le_add_one2 (a c0 c1 : Nat) : a ≤ a + 1 + c0 + c1 := by omega
@[go_sem] theorem lt_add_one3 (a c0 c1 c2 : Nat) : a < a + 1 + c0 + c1 + c2 := by omega
@[go_sem] theorem le_add_one3 (a c0 c1 c2 : Nat) : a ≤ a + 1 + c0 + c1 + c2 := by omega
@[go_sem] theorem lt_add_one4 (a c0 c1 c2 c3 : Nat) : a < a + 1 + c0 + c1 + c2 + c3 := by omega
@[go_sem] theorem le_add_one4 (a c0 c1 c2 c3 : Nat) : a ≤ a + 1 + c0 + c1 + c2 + c3 := by omega
@[go_sem] theorem lt_add_one5 (a c0 c1 c2 c3 c4 : Nat) : a < a + 1 + c0 + c1 + c2 + c3 + c4 := by omega
@[go_sem] theorem le_add_one5 (a c0 c1 c2 c3 c4 : Nat) : a ≤ a + 1 + c0 + c1 + c2 + c3 + c4 := by omega
@[go_sem] theorem lt_add_one6 (a c0 c1 c2 c3 c4 c5 : Nat) : a < a + 1 + c0 + c1 + c2 + c3 + c4 + c5 := by omega
@[go_sem] theorem le_add_one6 (a c0 c1 c2 c3 c4 c5 : Nat) : a ≤ a + 1 + c0 + c1 + c2 + c3 + c4 + c5 := by omega
@[go_sem] theorem lt_add_one7 (a c0 c1 c2 c3 c4 c5 c6 : Nat) : a < a + 1 + c0 + c1 + c2 + c3 + c4 + c5 + c6 := by omega
@[go_sem] theorem le_add_one7 (a c0 c1 c2 c3 c4 c5 c6 : Nat) : a ≤ a + 1 + c0 + c1 + c2 + c3 + c4 + c5 + c6 := by omega
@[go_sem] theorem lt_add_one8 (a c0 c1 c2 c3 c4 c5 c6 c7 : Nat) : a < a + 1 + c0 + c1 + c2 + c3 + c4 + c5 + c6 + c7 := by omega
@[go_sem] theorem le_add_one8 (a c0 c1 c2 c3 c4 c5 c6 c7 : Nat) : a ≤ a + 1 + c0 + c1 + c2 + c3 + c4 + c5 + c6 + c7 := by omega
theorem all_and (f g : Nat → Bool) (n : Nat) : allTo (fun i => f i && g i) n = (allTo f n && allTo g n) := by
  rw [Bool.eq_iff_iff, Bool.and_eq_true, allTo_iff, allTo_iff, allTo_iff]
  constructor
  · intro h; exact ⟨fun i hi => by have := h i hi; simp at this; exact this.1, fun i hi => by have := h i hi; simp at this; exact this.2⟩
  · intro h i hi; simp [h.1 i hi, h.2 i hi]
theorem all_congr {p q : Nat → Bool} {n : Nat} (h : ∀ i, i < n → p i = q i) : allTo p n = allTo q n := by
  rw [Bool.eq_iff_iff, allTo_iff, allTo_iff]
  exact ⟨fun k i hi => (h i hi) ▸ k i hi, fun k i hi => (h i hi).symm ▸ k i hi⟩
theorem find_congr {p q : Nat → Bool} : ∀ {n : Nat}, (∀ i, i < n → p i = q i) → findTo p n = findTo q n
  | 0, _ => rfl
  | n + 1, h => by
    have h1 := find_congr (n := n) (fun i hi => h i (by omega))
    rw [findTo, findTo, h1, h n (by omega)]
theorem find_isSome {p : Nat → Bool} {n : Nat} : (findTo p n).isSome = !allTo (fun i => !p i) n := by
  cases h : findTo p n with
  | none =>
    have := findTo_none_spec h
    simp only [Option.isSome_none, Bool.false_eq, Bool.not_eq_false']
    exact allTo_true (fun i hi => by simp [this i hi])
  | some k =>
    obtain ⟨h1, h2, _⟩ := findTo_spec h
    simp only [Option.isSome_some, Bool.true_eq, Bool.not_eq_true']
    exact allTo_false k h1 (by simp [h2])
def riseAt (l : List Int) (i : Nat) : Bool := i == 0 || decide (gd l (i - 1) < gd l i)
def rising (l : List Int) : Bool := allTo (riseAt l) l.length
/-- the number is among them -/
def hasI (l : List Int) (n : Int) : Bool := (findTo (fun i => gd l i == n) l.length).isSome
theorem hasI_iff {l : List Int} {n : Int} : hasI l n = true ↔ ∃ i, i < l.length ∧ gd l i = n := by
  unfold hasI
  rw [find_isSome]
  simp only [Bool.not_eq_true', Bool.eq_false_iff, Ne, allTo_iff, beq_iff_eq]
  constructor
  · intro h
    by_cases hh : ∃ i, i < l.length ∧ gd l i = n
    · exact hh
    · exact absurd (fun i hi he => hh ⟨i, hi, he⟩) h
  · rintro ⟨i, hi, he⟩ h
    exact h i hi he
theorem hasI_no {l : List Int} {n : Int} (h : ∀ i, i < l.length → gd l i ≠ n) : hasI l n = false := by
  rw [Bool.eq_false_iff, Ne, hasI_iff]; rintro ⟨i, hi, he⟩; exact h i hi he
end Go.Proofs.YteainpflmofjaaaGreatDoor
