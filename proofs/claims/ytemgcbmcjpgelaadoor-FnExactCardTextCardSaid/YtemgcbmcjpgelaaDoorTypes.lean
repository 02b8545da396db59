/- Contracts of the law helpers (to.., sz.., eq.., mark.., held..) at the types of this seat. No condition but sizes. -/
import Derived.Test.YtemgcbmcjpgelaaDoorBase
namespace Go.Proofs.YtemgcbmcjpgelaaDoor
open Go.RowKit
/-- what is left of 'left' behind n more; -1 where it does not reach -/
def szN (left : Int) (n : Nat) : Int := if left < n then -1 else left - n
theorem szN_no {left : Int} {n : Nat} (h : left < n) : szN left n = -1 := by simp [szN, h]
theorem szN_yes {left : Int} {n : Nat} (h : ¬ left < n) : szN left n = left - n := by simp [szN, h]
theorem szN_or (left : Int) (n : Nat) : szN left n = -1 ∨ (0 ≤ szN left n ∧ szN left n ≤ left ∧ (n : Int) ≤ left) := by
  by_cases h : left < n
  · exact .inl (szN_no h)
  · rw [szN_yes h]; omega

end Go.Proofs.YtemgcbmcjpgelaaDoor
