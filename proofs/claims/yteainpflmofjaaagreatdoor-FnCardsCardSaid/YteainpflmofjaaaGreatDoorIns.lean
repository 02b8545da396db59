/- Insertion sort, in plain Lean: what the library's insertion sort does to a list, swap by swap, is to put each element behind those that are not greater. -/
import Derived.Test.YteainpflmofjaaaGreatDoorStore
namespace Go.Proofs.YteainpflmofjaaaGreatDoor
open Go.RowKit
variable {α : Type}
/-- put x into its place; the list is held backwards -/
def insR (lt : α → α → Bool) (x : α) : List α → List α
  | [] => [x]
  | y :: P => if lt x y then y :: insR lt x P else x :: y :: P
def sortR (lt : α → α → Bool) (l : List α) : List α := l.foldl (fun P x => insR lt x P) []
/-- the list with its elements at j - 1 and j swapped -/
def swp [Inhabited α] (L : List α) (j : Nat) : List α := (L.set j (gd L (j - 1))).set (j - 1) (gd L j)
def bub [Inhabited α] (lt : α → α → Bool) : Nat → List α → List α
  | 0, L => L
  | j + 1, L => if lt (gd L (j + 1)) (gd L j) then bub lt j (swp L (j + 1)) else L
theorem insR_len (lt : α → α → Bool) (x : α) (P : List α) : (insR lt x P).length = P.length + 1 := by
  induction P with
  | nil => rfl
  | cons y P ih => unfold insR; split <;> simp [ih]
theorem sortR_push (lt : α → α → Bool) (l : List α) (x : α) : sortR lt (l ++ [x]) = insR lt x (sortR lt l) := by simp [sortR]
theorem sortR_len (lt : α → α → Bool) (l : List α) : (sortR lt l).length = l.length := by
  suffices h : ∀ (P : List α), (l.foldl (fun P x => insR lt x P) P).length = P.length + l.length by simpa [sortR] using h []
  induction l with
  | nil => intro P; simp
  | cons x l ih => intro P; rw [List.foldl_cons, ih, insR_len, List.length_cons]; omega
theorem swp_len [Inhabited α] (L : List α) (j : Nat) : (swp L j).length = L.length := by simp [swp]
theorem bub_len [Inhabited α] (lt : α → α → Bool) (j : Nat) (L : List α) : (bub lt j L).length = L.length := by
  induction j generalizing L with
  | zero => rfl
  | succ j ih => unfold bub; split; rw [ih, swp_len]; rfl
theorem gd_mid [Inhabited α] (P : List α) (x : α) (R : List α) : gd (P ++ x :: R) P.length = x := by simp [gd]
theorem bub_ins [Inhabited α] (lt : α → α → Bool) (x : α) (rP R : List α) : bub lt rP.length (rP.reverse ++ x :: R) = (insR lt x rP).reverse ++ R := by
  induction rP generalizing R with
  | nil => rfl
  | cons y P ih =>
    have e : (y :: P).reverse ++ x :: R = P.reverse ++ y :: (x :: R) := by simp
    have g0 : gd (P.reverse ++ y :: (x :: R)) P.length = y := by simpa using gd_mid P.reverse y (x :: R)
    have g1 : gd (P.reverse ++ y :: (x :: R)) (P.length + 1) = x := by
      have := gd_mid (P.reverse ++ [y]) x R
      simpa using this
    rw [e, List.length_cons, bub, g0, g1, insR]
    split
    · have hs : swp (P.reverse ++ y :: (x :: R)) (P.length + 1) = P.reverse ++ x :: (y :: R) := by
        rw [swp, Nat.add_sub_cancel, g0, g1]
        simp
      rw [hs, ih]
      simp
    · simp
/-- the list behind k rounds -/
def insAt (lt : α → α → Bool) (l : List α) (k : Nat) : List α := (sortR lt (l.take k)).reverse ++ l.drop k
theorem insAt_len (lt : α → α → Bool) (l : List α) (k : Nat) : (insAt lt l k).length = l.length := by
  simp [insAt, sortR_len]; omega
theorem insAt_one (lt : α → α → Bool) (l : List α) : insAt lt l 1 = l := by
  cases l <;> simp [insAt, sortR, insR]
theorem insAt_zero (lt : α → α → Bool) (l : List α) : insAt lt l 0 = l := by simp [insAt, sortR]
theorem insAt_succ [Inhabited α] (lt : α → α → Bool) (l : List α) (k : Nat) (hk : k < l.length) : bub lt k (insAt lt l k) = insAt lt l (k + 1) := by
  have e : l.drop k = gd l k :: l.drop (k + 1) := by
    rw [List.drop_eq_getElem_cons hk]
    simp [gd, hk]
  have hl : (sortR lt (l.take k)).length = k := by rw [sortR_len]; simp; omega
  rw [insAt, insAt, e, take_succ_gd hk, sortR_push]
  have := bub_ins lt (gd l k) (sortR lt (l.take k)) (l.drop (k + 1))
  rw [hl] at this
  exact this
theorem insAt_all (lt : α → α → Bool) (l : List α) : insAt lt l l.length = (sortR lt l).reverse := by simp [insAt]
/-- an element between those that are not greater and those that are -/
theorem insR_split (lt : α → α → Bool) (x : α) (A B : List α) (hA : ∀ y, y ∈ A → lt x y = true) (hB : ∀ y, y ∈ B → lt x y = false) : insR lt x (A ++ B) = A ++ x :: B := by
  induction A with
  | nil =>
    cases B with
    | nil => rfl
    | cons y B => simp [insR, hB y (by simp)]
  | cons y A ih => simp [insR, hA y (by simp), ih (fun z hz => hA z (by simp [hz]))]
end Go.Proofs.YteainpflmofjaaaGreatDoor
