/- More general lemmas: calls that hand back a slice and a bool; two slices' blocks. No condition. -/
import Derived.Test.YtkneockpbfamkaaBase
namespace Go.Proofs.Ytkneockpbfamkaa
open Go.RowKit
/-- A call that hands back a new slice and a bool. -/
def RetSlB {α : Type} [Inhabited α] (w : World) (e : TypeId) (enc : α → List Value) (k : Nat) (l : List α) (ok : Bool) (en : Ending) (w' : World) : Prop :=
  ∃ v, en = .returned (.tuple #[v, .bool ok]) ∧ Own w' w.heap.size e enc k v l ∧ Below w.heap.size w w'
/-- a new slice of no elements -/
theorem Own.empty {α : Type} (w : World) (lo : Nat) (e : TypeId) (enc : α → List Value) (k : Nat) (h : lo ≤ w.heap.size) : Own (w.alloc (.cells #[] e)) lo e enc k (.slice (some ⟨w.heap.size, 0, none⟩) 0 0) ([] : List α) :=
  World.ownsRow_made w #[] 0 h (Nat.zero_le _) (by simp)
/-- blocks of two slices that were made one behind the other are two -/
theorem Own.far {α : Type} {w w' : World} {lo lo2 hi : Nat} {e : TypeId} {enc : α → List Value} {k : Nat} {v v2 : Value} {l : List α}
    (h : Own w lo e enc k v l) (hw : ∀ g, v2.ownBlock = some g → lo2 ≤ g ∧ g < hi) (hv : ∀ g, v.ownBlock = some g → hi ≤ g ∨ g < lo2) (hg : w.grownBy w' v2.ownBlock) : Own w' lo e enc k v l := by
  refine h.kept hg ?_
  cases hb : v.ownBlock with
  | none => exact .inl rfl
  | some g =>
    refine .inr fun e => ?_
    have h1 := hv g hb
    have h2 := hw g e.symm
    omega
theorem Own.bounds {α : Type} {w : World} {lo : Nat} {e : TypeId} {enc : α → List Value} {k : Nat} {v : Value} {l : List α} (h : Own w lo e enc k v l) : ∀ g, v.ownBlock = some g → lo ≤ g ∧ g < w.heap.size := World.ownsRow.lt h
end Go.Proofs.Ytkneockpbfamkaa
