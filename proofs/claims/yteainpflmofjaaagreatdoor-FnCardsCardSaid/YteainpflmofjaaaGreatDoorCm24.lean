/- Cards: the words that two cards of a list have. By the program and by the reference. No condition but sizes. -/
import Derived.Test.YteainpflmofjaaaGreatDoorNw24
import Derived.Deep.RegionHeld3
import Derived.Deep.Cut
namespace Go.Proofs.YteainpflmofjaaaGreatDoor
open Go.RowKit
def cwG (l : List Crd) (a b : Int) : Bool := areCrd l && (crdIdx l a).isSome && (crdIdx l b).isSome
def cwL (l : List Crd) (a b : Int) : List ByteArray := if cwG l a b then commonL (gd l ((crdIdx l a).getD 0)).sub (gd l ((crdIdx l b).getD 0)).sub else []
theorem crdIdx_at {l : List Crd} {n : Int} {k : Nat} (h : crdIdx l n = some k) : k < l.length := (findTo_spec h).1
theorem cw_some {l : List Crd} {a b : Int} (h : cwG l a b = true) : ∃ i k, i < l.length ∧ k < l.length ∧ areCrd l = true ∧ crdIdx l a = some i ∧ crdIdx l b = some k ∧ cwL l a b = commonL (gd l i).sub (gd l k).sub := by
  have h0 := h
  simp only [cwG, Bool.and_eq_true] at h
  obtain ⟨i, hi⟩ := Option.isSome_iff_exists.1 h.1.2
  obtain ⟨k, hk⟩ := Option.isSome_iff_exists.1 h.2
  exact ⟨i, k, crdIdx_at hi, crdIdx_at hk, h.1.1, hi, hk, by rw [cwL, if_pos h0, hi, hk]; rfl⟩
theorem cw_same {l l' : List Crd} (h : l'.map Crd.bare = l.map Crd.bare) (a b : Int) : cwL l' a b = cwL l a b ∧ cwG l' a b = cwG l a b := by
  have hg : cwG l' a b = cwG l a b := by rw [cwG, cwG, areCrd_same h, crdIdx_same h, crdIdx_same h]
  refine ⟨?_, hg⟩
  cases hh : cwG l a b
  · rw [cwL, cwL, hg, hh]; rfl
  · obtain ⟨i, k, hi, hk, _, e1, e2, e3⟩ := cw_some hh
    rw [e3, cwL, if_pos (by rw [hg]; exact hh), crdIdx_same h, crdIdx_same h, e1, e2]
    show commonL (gd l' i).sub (gd l' k).sub = _
    rw [(crd_same h i hi).2.2.1, (crd_same h k hk).2.2.1]
theorem areCrd_sub {l : List Crd} (h : areCrd l = true) (i : Nat) (hi : i < l.length) : (gd l i).sub.length ≤ 6 := by
  have h1 : isCrd (gd l i) = true := by
    simp only [areCrd, Bool.and_eq_true, allTo_iff] at h
    have := h.1 i hi
    simp only [crdAt, Bool.and_eq_true] at this
    exact this.1
  rw [isCrd_words] at h1
  simp only [Bool.and_eq_true, words6, decide_eq_true_eq] at h1
  exact h1.1.2.1
theorem cwL_len (l : List Crd) (a b : Int) : (cwL l a b).length ≤ 6 := by
  cases hh : cwG l a b
  · rw [cwL, hh]; simp
  · obtain ⟨i, k, hi, hk, hA, e1, e2, e3⟩ := cw_some hh
    rw [e3]
    have := commonL_len (gd l i).sub (gd l k).sub
    have := areCrd_sub hA i hi
    omega
theorem cw_way (l : List Crd) (a b : Int) (h : cwG l a b = false) : areCrd l = false ∨ (areCrd l = true ∧ idxInt (crdIdx l a) < 0) ∨ (areCrd l = true ∧ ¬ idxInt (crdIdx l a) < 0 ∧ idxInt (crdIdx l b) < 0) := by
  unfold cwG at h
  cases hA : areCrd l
  · exact .inl rfl
  · rw [hA] at h
    cases ha : crdIdx l a with
    | none => exact .inr (.inl ⟨rfl, by simp [idxInt]⟩)
    | some i =>
      rw [ha] at h
      cases hb : crdIdx l b with
      | none => exact .inr (.inr ⟨rfl, by simp [idxInt], by simp [idxInt]⟩)
      | some k => rw [hb] at h; simp at h
end Go.Proofs.YteainpflmofjaaaGreatDoor
