/- Ranked cards: by the program. No condition but sizes. -/
import Derived.Test.YteainpflmofjaaaGreatBp24
namespace Go.Proofs.YteainpflmofjaaaGreat
open Go.RowKit
def mch (ws : List ByteArray) (x : Crd) : Int := ((commonL x.sub ws).length : Int)
def rkF (ws : List ByteArray) (x : Crd) : Bool := decide (0 < mch ws x)
def ltM (ws : List ByteArray) (x y : Crd) : Bool := decide (mch ws y < mch ws x)
def rkG (l : List Crd) (ws : List ByteArray) : Bool := areCrd l && words6 ws && decide (0 < ws.length)
/-- the order behind k cards, backwards -/
def rkS (l : List Crd) (ws : List ByteArray) (k : Nat) : List Crd := sortR (ltM ws) ((l.take k).filter (rkF ws))
def rkL (l : List Crd) (ws : List ByteArray) : List Int := if rkG l ws then idsC (rkS l ws l.length).reverse else []
theorem areWB_one (l : List ByteArray) : areWB l 1 = (words6 l && decide (0 < l.length)) := by
  unfold areWB words6
  cases allTo (fun i => wordB (gd l i)) l.length
  · simp
  · rw [Bool.eq_iff_iff]
    simp only [Bool.and_eq_true, inB_iff, decide_eq_true_iff, and_true]
    omega
theorem insR_map {α β : Type} (g : α → β) (lt : α → α → Bool) (lt' : β → β → Bool) (h : ∀ x y, lt' (g x) (g y) = lt x y) (x : α) (P : List α) : insR lt' (g x) (P.map g) = (insR lt x P).map g := by
  induction P with
  | nil => rfl
  | cons y P ih =>
    rw [List.map_cons, insR, insR, h]
    split
    · rw [ih]; rfl
    · rfl
theorem sortR_map {α β : Type} (g : α → β) (lt : α → α → Bool) (lt' : β → β → Bool) (h : ∀ x y, lt' (g x) (g y) = lt x y) (P : List α) : sortR lt' (P.map g) = (sortR lt P).map g := by
  suffices hs : ∀ Q : List α, sortR lt' (Q.reverse.map g) = (sortR lt Q.reverse).map g by
    have := hs P.reverse
    rwa [List.reverse_reverse] at this
  intro Q
  induction Q with
  | nil => rfl
  | cons x Q ih => rw [List.reverse_cons, List.map_append, List.map_singleton, sortR_push, sortR_push, ih, insR_map g lt lt' h]
theorem rkS_bare (l : List Crd) (ws : List ByteArray) (k : Nat) : rkS (l.map Crd.bare) ws k = (rkS l ws k).map Crd.bare := by
  rw [rkS, rkS, ← List.map_take, List.filter_map]
  exact sortR_map Crd.bare (ltM ws) (ltM ws) (fun _ _ => rfl) _
theorem idsC_bare (l : List Crd) : idsC (l.map Crd.bare) = idsC l := by simp [idsC, Crd.bare]
theorem rkS_len (l : List Crd) (ws : List ByteArray) (k : Nat) : (rkS l ws k).length ≤ l.length := by
  rw [rkS, sortR_len]
  have := List.length_filter_le (rkF ws) (l.take k)
  simp at this ⊢
  omega
theorem rkL_len (l : List Crd) (ws : List ByteArray) : (rkL l ws).length ≤ l.length := by
  unfold rkL
  split
  · simpa [idsC] using rkS_len l ws l.length
  · simp
theorem rk_same {l l' : List Crd} (h : l'.map Crd.bare = l.map Crd.bare) (ws : List ByteArray) : rkL l' ws = rkL l ws ∧ rkG l' ws = rkG l ws := by
  have hg : rkG l' ws = rkG l ws := by rw [rkG, rkG, areCrd_same h]
  have hl : l'.length = l.length := by simpa using congrArg List.length h
  have hi : ∀ L : List Crd, idsC (rkS L ws l.length).reverse = idsC (rkS (L.map Crd.bare) ws l.length).reverse := fun L => by
    rw [rkS_bare, ← List.map_reverse, idsC_bare]
  exact ⟨by rw [rkL, rkL, hg, hl, hi l', hi l, h], hg⟩
theorem rk_way (l : List Crd) (ws : List ByteArray) : (areCrd l = false ∧ rkG l ws = false ∧ rkL l ws = []) ∨ (areCrd l = true ∧ (words6 ws && decide (0 < ws.length)) = false ∧ rkG l ws = false ∧ rkL l ws = []) ∨ (areCrd l = true ∧ (words6 ws && decide (0 < ws.length)) = true ∧ rkG l ws = true ∧ rkL l ws = idsC (rkS l ws l.length).reverse) := by
  unfold rkL rkG
  cases areCrd l <;> cases words6 ws <;> cases decide (0 < ws.length) <;> simp
theorem crd_six {l : List Crd} (h : areCrd l = true) (i : Nat) (hi : i < l.length) : (gd l i).sub.length ≤ 6 := by
  have h1 : isCrd (gd l i) = true := by
    simp only [areCrd, Bool.and_eq_true, allTo_iff] at h
    have := h.1 i hi
    simp only [crdAt, Bool.and_eq_true] at this
    exact this.1
  rw [isCrd_words] at h1
  simp only [Bool.and_eq_true, words6, decide_eq_true_eq] at h1
  exact h1.1.2.1
end Go.Proofs.YteainpflmofjaaaGreat
