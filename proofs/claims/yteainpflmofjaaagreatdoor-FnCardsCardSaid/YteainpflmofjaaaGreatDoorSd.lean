/- Parts of slices; a slice of no element; the one cell of a new element. General. -/
import Derived.Test.YteainpflmofjaaaGreatDoorStep
namespace Go.Proofs.YteainpflmofjaaaGreatDoor
open Go.RowKit
theorem Sl.drop {α : Type} [Inhabited α] {w : World} {enc : α → List Value} {k n cap m b off : Nat} {l : List α} (h : Sl w enc k (.slice (some ⟨b, off, none⟩) m cap) l) (hn : n ≤ l.length) : Sl w enc k (.slice (some ⟨b, off + n * k, none⟩) (m - n) (cap - n)) (l.drop n) := by
  obtain ⟨a', cap', b', off', hv, h1, h2, hc⟩ := h
  injection hv with e1 e2 e3
  subst e2 e3
  refine ⟨some ⟨b, off + n * k, none⟩, cap - n, b, off + n * k, by rw [List.length_drop], by rw [List.length_drop]; omega, by omega, fun i hi => ?_⟩
  rw [List.length_drop] at hi
  obtain ⟨x, y, z⟩ := hc (n + i) (by omega)
  rw [← e1] at x
  injection x with x
  injection x with x1 x2
  subst x1 x2
  refine ⟨rfl, y, fun j v hv => ?_⟩
  rw [gd_drop] at hv
  have := z j v hv
  rw [Nat.add_mul, ← Nat.add_assoc] at this
  exact this
theorem Sl.takeAt {α : Type} [Inhabited α] {w : World} {enc : α → List Value} {k n cap m : Nat} {a : Option Addr} {l : List α} (h : Sl w enc k (.slice a m cap) l) (hn : n ≤ l.length) : Sl w enc k (.slice a n cap) (l.take n) := by
  have hm : m = l.length := by
    obtain ⟨_, _, _, _, hv, _⟩ := h
    injection hv
  subst hm
  exact h.take hn
theorem Sl.none {α : Type} [Inhabited α] {w : World} {enc : α → List Value} {k cap : Nat} {a : Option Addr} (hc : cap ≤ maxLen) : Sl w enc k (.slice a 0 cap) ([] : List α) :=
  ⟨a, cap, 0, 0, rfl, Nat.zero_le _, hc, fun i hi => by simp at hi⟩
theorem one_cell {W : World} {b : Nat} {v : Value} (h : W.cell? ⟨b, 0, none⟩ = some v) (j : Nat) (u : Value) (hu : [v][j]? = some u) : W.cell? ⟨b, j, none⟩ = some u := by
  cases j with
  | zero => simp at hu; rw [← hu]; exact h
  | succ j => simp at hu
/-- a cell stands behind an append to another block -/
theorem cellKept {W W' : World} {b o : Nat} {v : Value} {row : Option Nat} (h : W.cell? ⟨b, o, none⟩ = some v) (hg : W.grownBy W' row) (hne : some b ≠ row) : W'.cell? ⟨b, o, none⟩ = some v := by
  have hb := block_lt_of_cell h
  have e := hg.block b hb hne
  simp only [World.cell?] at h ⊢
  rw [e]
  exact h
end Go.Proofs.YteainpflmofjaaaGreatDoor
