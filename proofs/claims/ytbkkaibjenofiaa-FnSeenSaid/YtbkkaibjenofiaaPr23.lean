/- Headings seen from one: one more step reaches no fewer. Plain. No condition. -/
import Derived.Test.YtbkkaibjenofiaaSv23
namespace Go.Proofs.Ytbkkaibjenofiaa
open Go.RowKit
theorem addI_grows (S : List Int) (t : Int) : S.length ≤ (addI S t).length := by
  unfold addI; split <;> simp
theorem innR_grows (T S : List Int) : ∀ k, S.length ≤ (innR addI T S k).length
  | 0 => Nat.le_refl _
  | k + 1 => Nat.le_trans (innR_grows T S k) (addI_grows _ _)
theorem rndR_grows (see : Int → List Int) (S : List Int) : ∀ i, S.length ≤ (rndR addI see S i).length
  | 0 => Nat.le_refl _
  | i + 1 => Nat.le_trans (rndR_grows see S i) (innR_grows _ _ _)
theorem snI_grows (l : List Hdg) (n : Int) (st : Nat) : (snI l n st).length ≤ (snI l n (st + 1)).length := rndR_grows _ _ _
theorem snS_mem {l : List Hdg} {n : Int} {st : Nat} {x : Int} (h : x ∈ snS l n st) : x ∈ snS l n (st + 1) := by
  unfold snS at h ⊢
  rw [rnds, rndR_mem putI_adds]; exact .inl h
theorem snR_len_eq {l : List Hdg} {n st : Int} (h : isSn l n st = true) : (snR l n st).length = (snI l n st.toNat).length - 1 := by
  rw [snR_sort h, sortI, List.length_mergeSort, List.length_drop]
/-- one more step is told, reaches no fewer, and all that were reached -/
theorem sn_next {l : List Hdg} {n st : Int} (h : isSn l n st = true) (h9 : st < 9) : isSn l n (st + 1) = true ∧ (snR l n st).length ≤ (snR l n (st + 1)).length ∧ ∀ i, i < (snR l n st).length → hasI (snR l n (st + 1)) (gd (snR l n st) i) = true := by
  obtain ⟨h1, h2, h3, h4⟩ := sn_parts h
  have hN : isSn l n (st + 1) = true := by
    simp only [isSn, inB, Bool.and_eq_true, decide_eq_true_eq] at h ⊢
    exact ⟨h.1, by omega, by omega⟩
  have he : (st + 1).toNat = st.toNat + 1 := by omega
  refine ⟨hN, ?_, fun i hi => ?_⟩
  · rw [snR_len_eq h, snR_len_eq hN, he]
    have := snI_grows l n st.toNat
    omega
  · rw [hasI_mem, snR_yes hN, he, List.mem_filter]
    have hm := mem_gd.2 ⟨i, hi, rfl⟩
    rw [snR_yes h] at hm ⊢
    rw [List.mem_filter] at hm
    exact ⟨snS_mem hm.1, hm.2⟩
/-- in one step: what it refers to, itself apart -/
theorem sn_one {l : List Hdg} {a x : Int} (h : isSn l a 1 = true) : hasI (snR l a 1) x = true ↔ x ≠ a ∧ x ∈ seeOf l a := by
  rw [hasI_mem, snR_yes h, List.mem_filter, snS, show (1 : Int).toNat = 0 + 1 from rfl, rnds, rndR_mem putI_adds]
  simp only [rnds, List.mem_singleton, bne_iff_ne, ne_eq]
  constructor
  · rintro ⟨h1 | ⟨m, h1, h2⟩, h3⟩
    · exact absurd h1 h3
    · obtain rfl : m = 0 := by simpa using h1
      exact ⟨h3, by simpa [gd] using h2⟩
  · rintro ⟨h1, h2⟩
    exact ⟨.inr ⟨0, by simp, by simpa [gd] using h2⟩, h1⟩
end Go.Proofs.Ytbkkaibjenofiaa
