/- An empty slice made anew; a cell behind an append. General. No condition. -/
import Derived.Test.YteainpflmofjaaaGreatDoorCat
namespace Go.Proofs.YteainpflmofjaaaGreatDoor
open Go.RowKit
theorem Own.emptyAt {α : Type} {W : World} {lo g : Nat} {e : TypeId} {enc : α → List Value} {k : Nat} (hg : g = W.heap.size) (h : lo ≤ W.heap.size) : Own (W.alloc (.cells #[] e)) lo e enc k (.slice (some ⟨g, 0, none⟩) 0 0) ([] : List α) := by
  subst hg; exact Own.empty _ _ _ _ _ h
theorem cellGrown {W W' : World} {row : Option Nat} {p : Addr} {v : Value} (hp : W.cell? p = some v) (hg : W.grownBy W' row) (hne : some p.block ≠ row) : W'.cell? p = some v := by
  have e := hg.block p.block (block_lt_of_cell hp) hne
  simp only [World.cell?] at hp ⊢
  rw [e]; exact hp
theorem cells1 {W : World} {b : Nat} {v : Value} (h : W.cell? ⟨b, 0, none⟩ = some v) (j : Nat) (u : Value) (hu : [v][j]? = some u) : W.cell? ⟨b, j, none⟩ = some u := by
  rcases j with _ | j
  · simp at hu; rw [← hu]; exact h
  · simp at hu
theorem cells2 {W : World} {b : Nat} {v0 v1 : Value} (h0 : W.cell? ⟨b, 0, none⟩ = some v0) (h1 : W.cell? ⟨b, 1, none⟩ = some v1) (j : Nat) (u : Value) (hu : [v0, v1][j]? = some u) : W.cell? ⟨b, j, none⟩ = some u := by
  rcases j with _ | _ | j
  · simp at hu; rw [← hu]; exact h0
  · simp at hu; rw [← hu]; exact h1
  · simp at hu
theorem cells3 {W : World} {b : Nat} {v0 v1 v2 : Value} (h0 : W.cell? ⟨b, 0, none⟩ = some v0) (h1 : W.cell? ⟨b, 1, none⟩ = some v1) (h2 : W.cell? ⟨b, 2, none⟩ = some v2) (j : Nat) (u : Value) (hu : [v0, v1, v2][j]? = some u) : W.cell? ⟨b, j, none⟩ = some u := by
  rcases j with _ | _ | _ | j
  · simp at hu; rw [← hu]; exact h0
  · simp at hu; rw [← hu]; exact h1
  · simp at hu; rw [← hu]; exact h2
  · simp at hu
theorem cells4 {W : World} {b : Nat} {v0 v1 v2 v3 : Value} (h0 : W.cell? ⟨b, 0, none⟩ = some v0) (h1 : W.cell? ⟨b, 1, none⟩ = some v1) (h2 : W.cell? ⟨b, 2, none⟩ = some v2) (h3 : W.cell? ⟨b, 3, none⟩ = some v3) (j : Nat) (u : Value) (hu : [v0, v1, v2, v3][j]? = some u) : W.cell? ⟨b, j, none⟩ = some u := by
  rcases j with _ | _ | _ | _ | j
  · simp at hu; rw [← hu]; exact h0
  · simp at hu; rw [← hu]; exact h1
  · simp at hu; rw [← hu]; exact h2
  · simp at hu; rw [← hu]; exact h3
  · simp at hu
end Go.Proofs.YteainpflmofjaaaGreatDoor
