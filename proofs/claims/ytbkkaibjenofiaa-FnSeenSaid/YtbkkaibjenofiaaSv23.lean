/- Headings seen from one: what the steps keep. Plain. No condition. -/
import Derived.Test.YtbkkaibjenofiaaSp23
import Derived.Test.YtbkkaibjenofiaaHl23
namespace Go.Proofs.Ytbkkaibjenofiaa
open Go.RowKit
def Stands (l : List Hdg) (S : List Int) : Prop := ∀ x, x ∈ S → ∃ k, k < l.length ∧ hdIdx l x = some k
theorem seeOf_at {l : List Hdg} {x : Int} {k : Nat} (h : hdIdx l x = some k) : seeOf l x = (gd l k).sub := by simp [seeOf, h]
theorem idx_some {l : List Hdg} {x : Int} (h : (hdIdx l x).isSome = true) : ∃ k, k < l.length ∧ hdIdx l x = some k := by
  obtain ⟨k, hk⟩ := Option.isSome_iff_exists.1 h
  exact ⟨k, (hdIdx_some hk).1, hk⟩
theorem see_parts {l : List Hdg} (h : areHd l = true) {k : Nat} (hk : k < l.length) : (gd l k).sub.length ≤ 4 ∧ Stands l (gd l k).sub := by
  simp only [areHd, Bool.and_eq_true, allTo_iff] at h
  have h1 := h.1 k hk
  simp only [hdI, hdMid, Bool.and_eq_true, decide_eq_true_eq, Bool.not_eq_true'] at h1
  refine ⟨h1.1.1.2.1.2, fun x hx => ?_⟩
  obtain ⟨j, hj, rfl⟩ := mem_gd.1 hx
  have h2 : findTo (seeBad l k) (gd l k).sub.length = none := by simpa using h1.1.2
  have h3 := findTo_none_spec h2 j hj
  simp only [seeBad, Bool.or_eq_false_iff, Bool.not_eq_false'] at h3
  exact idx_some h3.2
theorem see_len {l : List Hdg} (h : areHd l = true) (x : Int) : (seeOf l x).length ≤ 4 := by
  unfold seeOf
  split
  · rename_i k hk
    exact (see_parts h (hdIdx_some hk).1).1
  · simp
theorem see_stands {l : List Hdg} (h : areHd l = true) (x : Int) : Stands l (seeOf l x) := by
  unfold seeOf
  split
  · rename_i k hk
    exact (see_parts h (hdIdx_some hk).1).2
  · intro x hx; cases hx
theorem rnds_stands {f : List Int → Int → List Int} (hf : Adds f) {l : List Hdg} (h : areHd l = true) {S : List Int} (hS : Stands l S) : ∀ k, Stands l (rnds f (seeOf l) S k)
  | 0 => hS
  | k + 1 => fun x hx => by
    have ih := rnds_stands hf h hS k
    rw [rnds, rndR_mem hf] at hx
    rcases hx with hx | ⟨m, _, hx⟩
    · exact ih x hx
    · exact see_stands h _ x hx
theorem rnds_small {f : List Int → Int → List Int} (hl : ∀ S t, (f S t).length ≤ S.length + 1) {l : List Hdg} (h : areHd l = true) (n : Int) {k : Nat} (hk : k ≤ 9) : (rnds f (seeOf l) [n] k).length ≤ 1953125 := by
  have h1 := rnds_len hl (see_len h) [n] k
  have h2 : 5 ^ k ≤ 5 ^ 9 := Nat.pow_le_pow_right (by omega) hk
  simp at h1 h2
  omega
theorem rnds_small8 {f : List Int → Int → List Int} (hl : ∀ S t, (f S t).length ≤ S.length + 1) {l : List Hdg} (h : areHd l = true) (n : Int) {k : Nat} (hk : k < 9) : (rnds f (seeOf l) [n] k).length ≤ 390625 := by
  have h1 := rnds_len hl (see_len h) [n] k
  have h2 : 5 ^ k ≤ 5 ^ 8 := Nat.pow_le_pow_right (by omega) (by omega)
  simp at h1 h2
  omega
theorem inn_small {f : List Int → Int → List Int} (hl : ∀ S t, (f S t).length ≤ S.length + 1) {l : List Hdg} (h : areHd l = true) {S : List Int} (hS : S.length ≤ 390625) {i j : Nat} (hi : i < S.length) (hj : j ≤ 4) (T : List Int) : (innR f T (rndR f (seeOf l) S i) j).length ≤ 1953125 := by
  have h1 := rndR_len hl (see_len h) S i
  have h2 := innR_len hl T (rndR f (seeOf l) S i) j
  omega
def isSn (l : List Hdg) (n st : Int) : Bool := isHd l n && inB st 0 9
def snR (l : List Hdg) (n st : Int) : List Int := if isSn l n st then (snS l n st.toNat).filter (fun x => x != n) else []
theorem snR_yes {l : List Hdg} {n st : Int} (h : isSn l n st = true) : snR l n st = (snS l n st.toNat).filter (fun x => x != n) := by rw [snR, if_pos h]
theorem snR_no {l : List Hdg} {n st : Int} (h : isSn l n st = false) : snR l n st = [] := by rw [snR, h]; rfl
theorem snR_sort {l : List Hdg} {n st : Int} (h : isSn l n st = true) : snR l n st = sortI ((snI l n st.toNat).drop 1) := by rw [snR_yes h, sn_same]
theorem filt_yes {S : List Int} {q : Int → Bool} {k : Nat} (hk : k < S.length) (h : q (gd S k) = true) : (S.take (k + 1)).filter q = (S.take k).filter q ++ [gd S k] := by rw [take_succ_gd hk, List.filter_append]; simp [h]
theorem filt_no {S : List Int} {q : Int → Bool} {k : Nat} (hk : k < S.length) (h : q (gd S k) = false) : (S.take (k + 1)).filter q = (S.take k).filter q := by rw [take_succ_gd hk, List.filter_append]; simp [h]
theorem sn_parts {l : List Hdg} {n st : Int} (h : isSn l n st = true) : areHd l = true ∧ (∃ k, k < l.length ∧ hdIdx l n = some k) ∧ 0 ≤ st ∧ st ≤ 9 := by
  simp only [isSn, isHd, inB, Bool.and_eq_true, decide_eq_true_eq] at h
  exact ⟨h.1.1, idx_some h.1.2, h.2⟩
theorem snR_len (l : List Hdg) (n st : Int) : (snR l n st).length ≤ 1953125 := by
  cases h : isSn l n st
  · rw [snR_no h]; simp
  · rw [snR_yes h]
    obtain ⟨h1, -, h2, h3⟩ := sn_parts h
    exact Nat.le_trans (List.length_filter_le _ _) (rnds_small putI_len h1 n (by omega))
theorem start_stands {l : List Hdg} {n : Int} (h : ∃ k, k < l.length ∧ hdIdx l n = some k) : Stands l [n] := fun x hx => by
  rw [List.mem_singleton] at hx; subst hx; exact h
theorem seeOf_same {l l' : List Hdg} (h : l'.map Hdg.bare = l.map Hdg.bare) (x : Int) : seeOf l' x = seeOf l x := by
  unfold seeOf
  rw [hdIdx_same h]
  cases hq : hdIdx l x with
  | none => rfl
  | some k => exact (Hdg.sub_eq (map_same_at h k (hdIdx_some hq).1).2).2.2.2
theorem sn_bare {l l' : List Hdg} (h : l'.map Hdg.bare = l.map Hdg.bare) (n st : Int) : snR l' n st = snR l n st ∧ isSn l' n st = isSn l n st := by
  have hg : isSn l' n st = isSn l n st := by rw [isSn, isSn, isHd_same h]
  have he : seeOf l' = seeOf l := funext (seeOf_same h)
  exact ⟨by rw [snR, snR, hg, snS, snS, he], hg⟩
end Go.Proofs.Ytbkkaibjenofiaa
