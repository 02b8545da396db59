/- Ranked cards: by the reference. No condition but sizes. -/
import Derived.Test.YteainpflmofjaaaGreatRk24
import Derived.Test.YteainpflmofjaaaGreatSd
import Derived.Deep.CutBlock
namespace Go.Proofs.YteainpflmofjaaaGreat
open Go.RowKit
theorem insR_stop {α : Type} (lt : α → α → Bool) (x : α) (A B : List α) (hA : ∀ y, y ∈ A → lt x y = true) (hB : B = [] ∨ ∃ y C, B = y :: C ∧ lt x y = false) : insR lt x (A ++ B) = A ++ x :: B := by
  induction A with
  | nil =>
    rcases hB with rfl | ⟨y, C, rfl, h⟩
    · rfl
    · simp [insR, h]
  | cons y A ih => simp [insR, hA y (by simp), ih (fun z hz => hA z (by simp [hz]))]
/-- put into an order that is held forwards -/
theorem ins_fwd {α : Type} [Inhabited α] (lt : α → α → Bool) (x : α) (R : List α) (k : Nat) (hk : k ≤ R.length) (hA : ∀ i, k ≤ i → i < R.length → lt x (gd R.reverse i) = true) (hB : k = 0 ∨ lt x (gd R.reverse (k - 1)) = false) : (insR lt x R).reverse = R.reverse.take k ++ [x] ++ R.reverse.drop k := by
  have e : R = (R.reverse.drop k).reverse ++ (R.reverse.take k).reverse := by
    rw [← List.reverse_append, List.take_append_drop, List.reverse_reverse]
  conv => lhs; rw [e]
  rw [insR_stop lt x]
  · simp
  · intro y hy
    rw [List.mem_reverse] at hy
    obtain ⟨i, hi, rfl⟩ := List.mem_iff_getElem.1 hy
    rw [List.length_drop, List.length_reverse] at hi
    have := hA (k + i) (by omega) (by omega)
    rw [gd_get (by simp; omega)] at this
    rw [List.getElem_drop]
    exact this
  · rcases hB with rfl | hB
    · left; simp
    · rcases Nat.eq_zero_or_pos k with rfl | h0
      · left; simp
      · right
        refine ⟨gd R.reverse (k - 1), (R.reverse.take (k - 1)).reverse, ?_, hB⟩
        have : R.reverse.take k = R.reverse.take (k - 1) ++ [gd R.reverse (k - 1)] := by
          rw [← take_succ_gd (by simp; omega), Nat.sub_add_cancel h0]
        rw [this]; simp
theorem rkS_no {l : List Crd} {ws : List ByteArray} {k : Nat} (hk : k < l.length) (h : ¬ 0 < mch ws (gd l k)) : rkS l ws (k + 1) = rkS l ws k := by
  rw [rkS, take_succ_gd hk, List.filter_append]; simp [rkF, h, rkS]
theorem rkS_yes {l : List Crd} {ws : List ByteArray} {k : Nat} (hk : k < l.length) (h : 0 < mch ws (gd l k)) : rkS l ws (k + 1) = insR (ltM ws) (gd l k) (rkS l ws k) := by
  have e : [gd l k].filter (rkF ws) = [gd l k] := by simp [rkF, h]
  rw [rkS, take_succ_gd hk, List.filter_append, e, sortR_push]; rfl
theorem insR_mem {α : Type} (lt : α → α → Bool) (x : α) (P : List α) : ∀ y, y ∈ insR lt x P → y = x ∨ y ∈ P := by
  induction P with
  | nil => intro y hy; simp [insR] at hy; exact .inl hy
  | cons z P ih =>
    intro y hy
    rw [insR] at hy
    split at hy
    · rcases List.mem_cons.1 hy with rfl | h
      · exact .inr (by simp)
      · rcases ih y h with h | h
        · exact .inl h
        · exact .inr (by simp [h])
    · rcases List.mem_cons.1 hy with h | h
      · exact .inl h
      · exact .inr h
theorem sortR_mem {α : Type} (lt : α → α → Bool) (P : List α) : ∀ y, y ∈ sortR lt P → y ∈ P := by
  suffices hs : ∀ Q : List α, ∀ y, y ∈ sortR lt Q.reverse → y ∈ Q by
    intro y hy
    have := hs P.reverse y (by rwa [List.reverse_reverse])
    simpa using this
  intro Q
  induction Q with
  | nil => intro y hy; simp [sortR] at hy
  | cons x Q ih =>
    intro y hy
    rw [List.reverse_cons, sortR_push] at hy
    rcases insR_mem lt x _ y hy with h | h
    · simp [h]
    · simp [ih y h]
theorem rkS_mem {l : List Crd} {ws : List ByteArray} {k : Nat} : ∀ y, y ∈ rkS l ws k → y ∈ l := fun y hy => List.mem_of_mem_take (List.mem_filter.1 (sortR_mem _ _ y hy)).1
/-- a card of the list is found by its id -/
theorem crdIdx_of {l : List Crd} (h : areCrd l = true) (x : Crd) (hx : x ∈ l) : ∃ j, j < l.length ∧ gd l j = x ∧ crdIdx l x.id = some j := by
  obtain ⟨j, hj, rfl⟩ := List.mem_iff_getElem.1 hx
  refine ⟨j, hj, gd_get hj, ?_⟩
  refine findTo_some (fun i hi => ?_) ?_ hj
  · rw [← gd_get hj]
    have := crd_id_iff h (i := j) (k := i) hj (by omega)
    simp only [beq_eq_false_iff_ne, ne_eq, this]
    omega
  · rw [gd_get hj]; simp
theorem gd_ids (L : List Crd) (i : Nat) (hi : i < L.length) : gd (idsC L) i = (gd L i).id := by
  rw [gd_get (by simpa [idsC] using hi), gd_get hi]; simp [idsC]
end Go.Proofs.YteainpflmofjaaaGreat
