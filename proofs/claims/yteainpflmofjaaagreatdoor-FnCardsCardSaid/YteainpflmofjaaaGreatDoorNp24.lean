/- Cards: the plain laws on the nearest card: the number of common words does not hang on the order, ids tell cards apart. No program in sight. -/
import Derived.Test.YteainpflmofjaaaGreatDoorCo24
namespace Go.Proofs.YteainpflmofjaaaGreatDoor
open Go.RowKit
theorem up_lt {l : List ByteArray} (h : ∀ i, i < l.length → upAt l i = true) : ∀ j, j < l.length → ∀ i, i < j → Op.bytesLess (gd l i).toList (gd l j).toList = true := by
  intro j
  induction j with
  | zero => intro _ i hi; omega
  | succ j ih =>
    intro hj i hi
    have h1 : Op.bytesLess (gd l j).toList (gd l (j + 1)).toList = true := by simpa [upAt] using h (j + 1) hj
    rcases Nat.lt_or_eq_of_le (Nat.lt_succ_iff.1 hi) with h2 | rfl
    · exact less_trans (ih (by omega) i h2) h1
    · exact h1
theorem up_nodup {l : List ByteArray} (h : ∀ i, i < l.length → upAt l i = true) : (l.map ByteArray.toList).Nodup := by
  rw [List.nodup_iff_pairwise_ne, List.pairwise_iff_getElem]
  intro i j hi hj hij e
  simp only [List.getElem_map] at e
  simp only [List.length_map] at hi hj
  have := up_lt h j hj i hij
  rw [gd_get hi, gd_get hj, e, less_irrefl] at this
  cases this
theorem hasW_iff {b : List ByteArray} {s : ByteArray} : hasW b s = true ↔ s.toList ∈ b.map ByteArray.toList := by
  rw [hasW, List.mem_map]
  constructor
  · intro h
    obtain ⟨i, hi⟩ := Option.isSome_iff_exists.1 h
    obtain ⟨h1, h2, _⟩ := findTo_spec hi
    exact ⟨gd b i, by rw [gd_get h1]; exact List.getElem_mem h1, by simpa using h2⟩
  · rintro ⟨x, hx, e⟩
    obtain ⟨i, hi, rfl⟩ := List.mem_iff_getElem.1 hx
    cases hf : findTo (fun i => ((gd b i).toList == s.toList)) b.length with
    | some _ => rfl
    | none =>
      have := findTo_none_spec hf i hi
      rw [gd_get hi] at this
      simp [e] at this
theorem common_len (a b : List ByteArray) : (commonL a b).length = ((a.map ByteArray.toList).filter (fun x => decide (x ∈ b.map ByteArray.toList))).length := by
  rw [List.filter_map, List.length_map, commonL]
  congr 1
  apply List.filter_congr
  intro x _
  rw [Bool.eq_iff_iff, hasW_iff]
  simp
theorem common_sym {a b : List ByteArray} (ha : (a.map ByteArray.toList).Nodup) (hb : (b.map ByteArray.toList).Nodup) : (commonL a b).length = (commonL b a).length := by
  rw [common_len, common_len]
  apply List.Perm.length_eq
  rw [List.perm_ext_iff_of_nodup]
  · intro x
    simp only [List.mem_filter, decide_eq_true_eq]
    exact And.comm
  · rw [List.nodup_iff_pairwise_ne] at ha ⊢; exact ha.filter _
  · rw [List.nodup_iff_pairwise_ne] at hb ⊢; exact hb.filter _
theorem crd_nodup {l : List Crd} (h : areCrd l = true) (i : Nat) (hi : i < l.length) : ((gd l i).sub.map ByteArray.toList).Nodup := by
  simp only [areCrd, Bool.and_eq_true] at h
  have := allTo_iff.1 h.1 i hi
  simp only [crdAt, Bool.and_eq_true, isCrd_words] at this
  exact up_nodup (allTo_iff.1 this.1.2)
theorem crd_ids {l : List Crd} (h : areCrd l = true) : ∀ j, j < l.length → ∀ i, i < j → (gd l i).id < (gd l j).id := by
  simp only [areCrd, Bool.and_eq_true] at h
  have hA := allTo_iff.1 h.1
  intro j
  induction j with
  | zero => intro _ i hi; omega
  | succ j ih =>
    intro hj i hi
    have h1 : (gd l j).id < (gd l (j + 1)).id := by
      have := hA (j + 1) hj
      simp [crdAt] at this
      exact this.2
    rcases Nat.lt_or_eq_of_le (Nat.lt_succ_iff.1 hi) with h2 | rfl
    · have := ih (by omega) i h2; omega
    · exact h1
theorem crd_id_iff {l : List Crd} (h : areCrd l = true) {i k : Nat} (hi : i < l.length) (hk : k < l.length) : (gd l k).id = (gd l i).id ↔ k = i := by
  constructor
  · intro e
    rcases Nat.lt_trichotomy k i with h1 | h1 | h1
    · have := crd_ids h i hi k h1; omega
    · exact h1
    · have := crd_ids h k hk i h1; omega
  · rintro rfl; rfl
/-- the number of words that cards i and k have -/
def nCom (l : List Crd) (i k : Nat) : Nat := (commonL (gd l k).sub (gd l i).sub).length
theorem nCom_sym {l : List Crd} (h : areCrd l = true) {i k : Nat} (hi : i < l.length) (hk : k < l.length) : (commonL (gd l i).sub (gd l k).sub).length = nCom l i k := common_sym (crd_nodup h i hi) (crd_nodup h k hk)
/-- the best card so far, and its number -/
def nearTo (l : List Crd) (i : Nat) : Nat → Int × Int
  | 0 => (0, -1)
  | k + 1 => if k ≠ i ∧ (nearTo l i k).2 < nCom l i k then ((gd l k).id, nCom l i k) else nearTo l i k
theorem nearTo_yes {l : List Crd} {i k : Nat} (h : k ≠ i) (h' : (nearTo l i k).2 < nCom l i k) : nearTo l i (k + 1) = ((gd l k).id, (nCom l i k : Int)) := by rw [nearTo, if_pos ⟨h, h'⟩]
theorem nearTo_no {l : List Crd} {i k : Nat} (h : ¬ (k ≠ i ∧ (nearTo l i k).2 < nCom l i k)) : nearTo l i (k + 1) = nearTo l i k := by rw [nearTo, if_neg h]
def nearB (l : List Crd) (n : Int) : Bool := areCrd l && (crdIdx l n).isSome && decide (2 ≤ l.length)
def nearV (l : List Crd) (n : Int) : Int × Int := if nearB l n then nearTo l ((crdIdx l n).getD 0) l.length else (0, 0)
theorem findTo_congr {p q : Nat → Bool} : ∀ {n : Nat}, (∀ i, i < n → p i = q i) → findTo p n = findTo q n
  | 0, _ => rfl
  | n + 1, h => by simp only [findTo]; rw [findTo_congr (fun i hi => h i (by omega)), h n (by omega)]
theorem crdIdx_same {l l' : List Crd} (h : l'.map Crd.bare = l.map Crd.bare) (n : Int) : crdIdx l' n = crdIdx l n := by
  have hl : l'.length = l.length := by simpa using congrArg List.length h
  rw [crdIdx, crdIdx, hl]
  exact findTo_congr fun i hi => by rw [(crd_same h i hi).1]
theorem nearTo_same {l l' : List Crd} (h : l'.map Crd.bare = l.map Crd.bare) {i : Nat} (hi : i < l.length) : ∀ k, k ≤ l.length → nearTo l' i k = nearTo l i k
  | 0, _ => rfl
  | k + 1, hk => by
    have e : nCom l' i k = nCom l i k := by rw [nCom, nCom, (crd_same h i hi).2.2.1, (crd_same h k (by omega)).2.2.1]
    rw [nearTo, nearTo, nearTo_same h hi k (by omega), e, (crd_same h k (by omega)).1]
theorem nearB_same {l l' : List Crd} (h : l'.map Crd.bare = l.map Crd.bare) (n : Int) : nearB l' n = nearB l n := by
  have hl : l'.length = l.length := by simpa using congrArg List.length h
  rw [nearB, nearB, areCrd_same h, crdIdx_same h, hl]
theorem nearV_same {l l' : List Crd} (h : l'.map Crd.bare = l.map Crd.bare) (n : Int) : nearV l' n = nearV l n := by
  have hl : l'.length = l.length := by simpa using congrArg List.length h
  rw [nearV, nearV, nearB_same h, crdIdx_same h, hl]
  cases hb : nearB l n
  · rfl
  · simp only [if_true]
    refine nearTo_same h ?_ _ (Nat.le_refl _)
    simp only [nearB, Bool.and_eq_true] at hb
    obtain ⟨i, hi⟩ := Option.isSome_iff_exists.1 hb.1.2
    rw [hi]
    exact (findTo_spec hi).1
end Go.Proofs.YteainpflmofjaaaGreatDoor
