/- Contracts of the law helpers (to.., sz.., eq.., mark.., held..) at the types of this seat. No condition but sizes. -/
import Derived.Test.YteainpflmofjaaaGreatDoorBase
namespace Go.Proofs.YteainpflmofjaaaGreatDoor
open Go.RowKit
/-- what is left of 'left' behind n more; -1 where it does not reach -/
def szN (left : Int) (n : Nat) : Int := if left < n then -1 else left - n
theorem szN_no {left : Int} {n : Nat} (h : left < n) : szN left n = -1 := by simp [szN, h]
theorem szN_yes {left : Int} {n : Nat} (h : ¬ left < n) : szN left n = left - n := by simp [szN, h]
theorem szN_or (left : Int) (n : Nat) : szN left n = -1 ∨ (0 ≤ szN left n ∧ szN left n ≤ left ∧ (n : Int) ≤ left) := by
  by_cases h : left < n
  · exact .inl (szN_no h)
  · rw [szN_yes h]; omega

def IntE.enc (x : Int) : List Value := [.int .i64 x]
theorem IntE.len (x : Int) : (IntE.enc x).length = 1 := rfl
theorem IntE.at {w : World} {a : Option Addr} {b off : Nat} {l : List Int} (h : Cells w IntE.enc 1 a b off l) (i : Nat) (hi : i < l.length) : a = some ⟨b, off, none⟩ ∧ b < w.heap.size ∧
    w.cell? ⟨b, off + i, none⟩ = some (.int .i64 (gd l i)) := by
  obtain ⟨ha, hb, c⟩ := h i hi
  have c0 := c 0 _ rfl
  rw [Nat.mul_one, Nat.add_zero] at c0
  exact ⟨ha, hb, c0⟩

def IntE.mark (k : Int) : Int := k
/-- the marks from k0 on -/
def IntE.marks (k0 : Int) (n : Nat) : List Int := (List.range n).map fun (i : Nat) => IntE.mark (k0 + (i : Int))
theorem IntE.marks_len (k0 : Int) (n : Nat) : (IntE.marks k0 n).length = n := by simp [IntE.marks]
theorem IntE.marks_at (k0 : Int) {n i : Nat} (h : i < n) : gd (IntE.marks k0 n) i = IntE.mark (k0 + (i : Int)) := by simp [IntE.marks, gd, h]

end Go.Proofs.YteainpflmofjaaaGreatDoor
