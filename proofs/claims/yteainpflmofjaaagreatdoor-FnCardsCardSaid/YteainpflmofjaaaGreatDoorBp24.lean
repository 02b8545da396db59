/- Cards between years, ranked cards: the plain laws: a stable sort by years is the years one behind the other. No program in sight. -/
import Derived.Test.YteainpflmofjaaaGreatDoorIc24
import Derived.Test.YteainpflmofjaaaGreatDoorCw24
import Derived.Test.YteainpflmofjaaaGreatDoorCmp
namespace Go.Proofs.YteainpflmofjaaaGreatDoor
open Go.RowKit
theorem pickG_filter {α : Type} [Inhabited α] (q : α → Bool) (l : List α) : ∀ n, n ≤ l.length → pickG (fun i => q (gd l i)) (gd l) n = (l.take n).filter q
  | 0, _ => by simp [pickG]
  | n + 1, hn => by
    rw [take_succ_gd (by omega), List.filter_append, ← pickG_filter q l n (by omega)]
    cases h : q (gd l n)
    · rw [pickG_no (p := fun i => q (gd l i)) h]; simp [h]
    · rw [pickG_yes (p := fun i => q (gd l i)) h]; simp [h]
theorem pickG_filter_all {α : Type} [Inhabited α] (q : α → Bool) (l : List α) : pickG (fun i => q (gd l i)) (gd l) l.length = l.filter q := by
  rw [pickG_filter q l _ (Nat.le_refl _), List.take_length]
/-- the elements whose number is a, then those whose number is a + 1, .. -/
def byKey {α : Type} (f : α → Int) (a : Int) (n : Nat) (P : List α) : List α := (List.range n).flatMap (fun j : Nat => P.filter (fun x => f x == a + (j : Int)))
theorem byKey_succ {α : Type} (f : α → Int) (a : Int) (n : Nat) (P : List α) : byKey f a (n + 1) P = byKey f a n P ++ P.filter (fun x => f x == a + n) := by
  simp [byKey, List.range_succ]
theorem byKey_mem {α : Type} (f : α → Int) (a : Int) (n : Nat) (P : List α) (x : α) (h : x ∈ byKey f a n P) : x ∈ P ∧ a ≤ f x ∧ f x < a + n := by
  simp only [byKey, List.mem_flatMap, List.mem_range, List.mem_filter, beq_iff_eq] at h
  obtain ⟨j, h1, h2, h3⟩ := h
  exact ⟨h2, by omega, by omega⟩
/-- what is behind the m-th number -/
theorem byKey_cut {α : Type} (f : α → Int) (a : Int) (m k : Nat) (P : List α) : byKey f a (m + k) P = byKey f a m P ++ byKey f (a + m) k P := by
  induction k with
  | zero => simp [byKey]
  | succ k ih =>
    rw [← Nat.add_assoc, byKey_succ, ih, byKey_succ, List.append_assoc]
    congr 3
    funext x
    congr 1
    omega
theorem byKey_push_no {α : Type} (f : α → Int) (a : Int) (n : Nat) (P : List α) (x : α) (h : f x < a ∨ a + n ≤ f x) : byKey f a n (P ++ [x]) = byKey f a n P := by
  induction n with
  | zero => rfl
  | succ n ih =>
    rw [byKey_succ, byKey_succ, ih (by omega), List.filter_append]
    have : (f x == a + n) = false := by simp; omega
    simp [this]
theorem sortKey {α : Type} (f : α → Int) (lt : α → α → Bool) (hlt : ∀ x y, lt x y = decide (f x < f y)) (a : Int) (n : Nat) (P : List α) (h : ∀ x, x ∈ P → a ≤ f x ∧ f x < a + n) : (sortR lt P).reverse = byKey f a n P := by
  suffices hs : ∀ Q : List α, (∀ x, x ∈ Q → a ≤ f x ∧ f x < a + n) → sortR lt Q.reverse = (byKey f a n Q.reverse).reverse by
    have := hs P.reverse (fun x hx => h x (by simpa using hx))
    rw [List.reverse_reverse] at this
    rw [this, List.reverse_reverse]
  intro Q
  induction Q with
  | nil =>
    intro _
    have : byKey f a n ([] : List α) = [] := by simp [byKey]
    simp [sortR, this]
  | cons x Q ih =>
    intro hQ
    have ih := ih (fun y hy => hQ y (by simp [hy]))
    obtain ⟨hx1, hx2⟩ := hQ x (by simp)
    rw [List.reverse_cons, sortR_push, ih]
    obtain ⟨m, hm⟩ : ∃ m : Nat, f x = a + m := ⟨(f x - a).toNat, by omega⟩
    obtain ⟨k, hk⟩ : ∃ k : Nat, n = m + 1 + k := ⟨n - (m + 1), by omega⟩
    subst hk
    generalize Q.reverse = R
    rw [byKey_cut f a (m + 1) k R, byKey_cut f a (m + 1) k (R ++ [x])]
    rw [byKey_push_no f (a + ((m + 1 : Nat) : Int)) k R x (by omega)]
    rw [byKey_succ f a m R, byKey_succ f a m (R ++ [x]), byKey_push_no f a m R x (by omega)]
    rw [List.reverse_append, insR_split lt x]
    · have : (R ++ [x]).filter (fun y => f y == a + m) = R.filter (fun y => f y == a + m) ++ [x] := by
        rw [List.filter_append]; simp [hm]
      rw [this]
      simp
    · intro y hy
      have := byKey_mem f _ _ R y (by simpa using hy)
      rw [hlt]; simp; omega
    · intro y hy
      rw [hlt]
      simp only [List.mem_reverse, List.mem_append, List.mem_filter, beq_iff_eq] at hy
      rcases hy with h1 | ⟨_, h1⟩
      · have := byKey_mem f _ _ R y h1
        simp; omega
      · simp; omega
end Go.Proofs.YteainpflmofjaaaGreatDoor
