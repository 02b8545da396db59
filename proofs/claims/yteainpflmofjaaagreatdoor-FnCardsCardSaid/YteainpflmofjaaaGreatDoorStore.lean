/- Slices of the call's own: their form, a cell of an element turned, a copy. No condition but sizes. -/
import Derived.Test.YteainpflmofjaaaGreatDoorHeld
namespace Go.Proofs.YteainpflmofjaaaGreatDoor
open Go.RowKit
section
variable {α : Type} [Inhabited α]
theorem Own.form {w : World} {lo : Nat} {e : TypeId} {enc : α → List Value} {k : Nat} (hk : ∀ x, (enc x).length = k) {v : Value} {l : List α} (h : Own w lo e enc k v l) (hn : 0 < l.length) :
    ∃ g cap, v = .slice (some ⟨g, 0, none⟩) l.length cap ∧ lo ≤ g ∧ g < w.heap.size ∧ l.length ≤ cap ∧ cap ≤ maxLen ∧ (∀ j, w.frozen? ⟨g, j, none⟩ = false) ∧ Cells w enc k (some ⟨g, 0, none⟩) g 0 l := by
  obtain ⟨a, cap', b, off, hv', hlc, hm, hc⟩ := h.sl hk
  rcases h.2 with ⟨_, h0⟩ | ⟨g, cap, cur, hv, hlo, hg, _⟩
  · omega
  · subst hv
    injection hv' with e1 e2 e3
    subst e3
    obtain ⟨ha, h0, c⟩ := hc 0 hn
    rw [ha] at e1
    injection e1 with e1
    injection e1 with e4 e5 e6
    subst e4 e5
    exact ⟨g, cap, rfl, hlo, h0, hlc, hm, fun j => World.ownsRow.frozenAt (n := l.length) (cap := cap) h j, ha ▸ hc⟩
theorem flat_set {enc : α → List Value} {k : Nat} (hk : ∀ x, (enc x).length = k) (y : α) (j : Nat) (hj : j < k) (u : Value) : ∀ (l : List α) (i : Nat), i < l.length → enc y = (enc (gd l i)).set j u → (l.set i y).flatMap enc = (l.flatMap enc).set (i * k + j) u
  | x :: l, 0, _, h => by
    have h' : enc y = (enc x).set j u := by simpa [gd] using h
    rw [List.set_cons_zero, List.flatMap_cons, List.flatMap_cons, h', Nat.zero_mul, Nat.zero_add, List.set_append_left _ _ (by rw [hk]; exact hj)]
  | x :: l, i + 1, hi, h => by
    have h' : enc y = (enc (gd l i)).set j u := by simpa [gd] using h
    have ih := flat_set hk y j hj u l i (by simpa using hi) h'
    rw [List.set_cons_succ, List.flatMap_cons, List.flatMap_cons, ih, List.set_append_right _ _ (by rw [hk, Nat.succ_mul]; omega), hk]
    congr 2
    rw [Nat.succ_mul]; omega
/-- one cell of an element turned -/
theorem Own.store {w : World} {lo : Nat} {e : TypeId} {enc : α → List Value} {k : Nat} (hk : ∀ x, (enc x).length = k) {g n cap : Nat} {l : List α} (h : Own w lo e enc k (.slice (some ⟨g, 0, none⟩) n cap) l) (i : Nat) (hi : i < l.length) (y : α) (j : Nat) (hj : j < k) (u : Value) (hy : enc y = (enc (gd l i)).set j u) :
    Own (w.setCell ⟨g, i * k + j, none⟩ u) lo e enc k (.slice (some ⟨g, 0, none⟩) n cap) (l.set i y) := by
  have hnl : n = l.length := by
    rcases h.2 with ⟨h1, h2⟩ | ⟨g', cap', cur, h1, _⟩
    · cases h1
    · injection h1
  subst hnl
  show World.ownsRow _ lo e k _ (l.set i y).length ((l.set i y).flatMap enc)
  rw [List.length_set, flat_set hk y j hj u l i hi hy]
  exact (World.ownsRow.stored h (i * k + j) u).1
theorem gd_set_at {l : List α} {i : Nat} (h : i < l.length) (y : α) : gd (l.set i y) i = y := by simp [gd, h]
theorem gd_set_ne {l : List α} {i j : Nat} (h : i ≠ j) (y : α) : gd (l.set i y) j = gd l j := by simp [gd, h]
theorem set_gd {l : List α} {i : Nat} (h : i < l.length) : l.set i (gd l i) = l := by
  rw [gd_get h]; simp
end
end Go.Proofs.YteainpflmofjaaaGreatDoor
