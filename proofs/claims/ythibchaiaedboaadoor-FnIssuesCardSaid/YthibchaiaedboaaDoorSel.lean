/- Lists that a loop picks: general. Pairs of numbers as elements. No condition. -/
import Derived.Test.YthibchaiaedboaaDoorHeld
namespace Go.Proofs.YthibchaiaedboaaDoor
open Go.RowKit
/-- what a loop over the places below n picks -/
def selTo {α : Type} (f : Nat → Bool) (g : Nat → α) : Nat → List α
  | 0 => []
  | k + 1 => if f k then selTo f g k ++ [g k] else selTo f g k
theorem selTo_yes {α : Type} {f : Nat → Bool} {g : Nat → α} {k : Nat} (h : f k = true) : selTo f g (k + 1) = selTo f g k ++ [g k] := by simp [selTo, h]
theorem selTo_no {α : Type} {f : Nat → Bool} {g : Nat → α} {k : Nat} (h : f k = false) : selTo f g (k + 1) = selTo f g k := by simp [selTo, h]
theorem selTo_len {α : Type} (f : Nat → Bool) (g : Nat → α) : ∀ k, (selTo f g k).length ≤ k
  | 0 => Nat.le_refl _
  | k + 1 => by
    have := selTo_len f g k
    unfold selTo
    split
    · simp; omega
    · omega
theorem selTo_congr {α : Type} {f f' : Nat → Bool} {g g' : Nat → α} : ∀ {k : Nat}, (∀ i, i < k → f i = f' i ∧ g i = g' i) → selTo f g k = selTo f' g' k
  | 0, _ => rfl
  | k + 1, h => by
    have h1 := selTo_congr (k := k) (fun i hi => h i (by omega))
    have h2 := h k (by omega)
    unfold selTo
    rw [h1, h2.1, h2.2]
theorem selTo_mem {α : Type} {f : Nat → Bool} {g : Nat → α} {x : α} : ∀ {k : Nat}, x ∈ selTo f g k ↔ ∃ i, i < k ∧ f i = true ∧ x = g i
  | 0 => by simp [selTo]
  | k + 1 => by
    have ih := selTo_mem (f := f) (g := g) (x := x) (k := k)
    unfold selTo
    split
    · rename_i h
      simp only [List.mem_append, List.mem_singleton, ih]
      constructor
      · rintro (⟨i, a, b, c⟩ | rfl)
        · exact ⟨i, by omega, b, c⟩
        · exact ⟨k, by omega, h, rfl⟩
      · rintro ⟨i, a, b, c⟩
        rcases Nat.lt_or_eq_of_le (Nat.lt_succ_iff.1 a) with h1 | rfl
        · exact .inl ⟨i, h1, b, c⟩
        · exact .inr c
    · rename_i h
      rw [ih]
      constructor
      · rintro ⟨i, a, b, c⟩; exact ⟨i, by omega, b, c⟩
      · rintro ⟨i, a, b, c⟩
        rcases Nat.lt_or_eq_of_le (Nat.lt_succ_iff.1 a) with h1 | rfl
        · exact ⟨i, h1, b, c⟩
        · exact absurd b h
def PrE.enc (x : Int × Int) : List Value := [.int .i64 x.1, .int .i64 x.2]
theorem PrE.len (x : Int × Int) : (PrE.enc x).length = 2 := rfl
theorem PrE.one (x : Int × Int) : ∀ u ∈ PrE.enc x, u.oneCell' = true := by intro u hu; simp [PrE.enc] at hu; rcases hu with rfl | rfl <;> rfl
theorem PrE.at {w : World} {a : Option Addr} {b off : Nat} {l : List (Int × Int)} (h : Cells w PrE.enc 2 a b off l) (i : Nat) (hi : i < l.length) : a = some ⟨b, off, none⟩ ∧ b < w.heap.size ∧
    w.cell? ⟨b, off + i * 2, none⟩ = some (.int .i64 (gd l i).1) ∧ w.cell? ⟨b, off + i * 2 + 1, none⟩ = some (.int .i64 (gd l i).2) := by
  obtain ⟨ha, hb, c⟩ := h i hi
  exact ⟨ha, hb, c 0 _ rfl, c 1 _ rfl⟩
def PrE.mark (k : Int) : Int × Int := (k, k + 1)
/-- the marks from k0 on -/
def PrE.marks (k0 : Int) (n : Nat) : List (Int × Int) := (List.range n).map fun (i : Nat) => PrE.mark (k0 + 2 * (i : Int))
theorem PrE.marks_len (k0 : Int) (n : Nat) : (PrE.marks k0 n).length = n := by simp [PrE.marks]
theorem PrE.marks_at (k0 : Int) {n i : Nat} (h : i < n) : gd (PrE.marks k0 n) i = PrE.mark (k0 + 2 * (i : Int)) := by simp [PrE.marks, gd, h]
end Go.Proofs.YthibchaiaedboaaDoor
