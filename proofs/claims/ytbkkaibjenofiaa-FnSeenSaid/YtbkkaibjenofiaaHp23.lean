/- Headings: what a list of headings is, what stands above one (plain law). No condition. -/
import Derived.Test.YtbkkaibjenofiaaRi
import Derived.Test.YtbkkaibjenofiaaWd
namespace Go.Proofs.Ytbkkaibjenofiaa
open Go.RowKit
/-- where a heading stands -/
def hdIdx (l : List Hdg) (n : Int) : Option Nat := findTo (fun i => (gd l i).id == n) l.length
theorem hdIdx_some {l : List Hdg} {n : Int} {k : Nat} (h : hdIdx l n = some k) : k < l.length ∧ (gd l k).id = n := by
  have := findTo_spec h
  simp only [beq_iff_eq] at this
  exact ⟨this.1, this.2.1⟩
theorem hdIdx_none {l : List Hdg} {n : Int} (h : hdIdx l n = none) : ∀ i, i < l.length → (gd l i).id ≠ n := fun i hi => by
  have := findTo_none_spec h i hi
  simpa using this
theorem hdIdx_isSome {l : List Hdg} {n : Int} : (hdIdx l n).isSome = true ↔ ∃ i, i < l.length ∧ (gd l i).id = n := by
  constructor
  · intro h
    obtain ⟨k, hk⟩ := Option.isSome_iff_exists.1 h
    exact ⟨k, hdIdx_some hk⟩
  · rintro ⟨i, hi, he⟩
    cases h : hdIdx l n with
    | none => exact absurd he (hdIdx_none h i hi)
    | some k => rfl
theorem hdIdx_take {l : List Hdg} {k : Nat} (hk : k ≤ l.length) {n : Int} : (hdIdx (l.take k) n).isSome = true ↔ ∃ i, i < k ∧ (gd l i).id = n := by
  rw [hdIdx_isSome]
  have hl : (l.take k).length = k := by simp; omega
  rw [hl]
  constructor
  · rintro ⟨i, hi, he⟩
    rw [gd_take hi] at he
    exact ⟨i, hi, he⟩
  · rintro ⟨i, hi, he⟩
    exact ⟨i, hi, by rw [gd_take hi]; exact he⟩
def sameAt (l : List Hdg) (k i : Nat) : Bool := (gd l i).un == (gd l k).un && (gd l i).nm.toList == (gd l k).nm.toList
def hdHead (l : List Hdg) (k : Nat) : Bool := inB (gd l k).id 1 99 && wordB (gd l k).nm && (k == 0 || decide ((gd l (k - 1)).id < (gd l k).id))
def seeBad (l : List Hdg) (k j : Nat) : Bool := gd (gd l k).sub j == (gd l k).id || !(hdIdx l (gd (gd l k).sub j)).isSome
def hdMid (l : List Hdg) (k : Nat) : Bool := ((gd l k).un == 0 || (hdIdx (l.take k) (gd l k).un).isSome) && decide ((gd l k).sub.length ≤ 4) && rising (gd l k).sub
/-- what the program asks at one place -/
def hdI (l : List Hdg) (k : Nat) : Bool := hdHead l k && hdMid l k && !(findTo (seeBad l k) (gd l k).sub.length).isSome && !(findTo (sameAt l k) k).isSome
/-- what the reference asks at one place -/
def hdS (l : List Hdg) (k : Nat) : Bool := hdHead l k && decide ((gd l k).sub.length ≤ 4) && allTo (fun i => inB (gd (gd l k).sub i) 1 99 && riseAt (gd l k).sub i) (gd l k).sub.length && !hasI (gd l k).sub (gd l k).id &&
  ((gd l k).un == 0 || (decide ((gd l k).un < (gd l k).id) && (hdIdx l (gd l k).un).isSome)) && allTo (fun j => (hdIdx l (gd (gd l k).sub j)).isSome) (gd l k).sub.length && !(findTo (sameAt l k) k).isSome
def areHd (l : List Hdg) : Bool := allTo (hdI l) l.length && decide (l.length ≤ 15)
theorem areHd_no {l : List Hdg} (k : Nat) (hk : k < l.length) (h : hdI l k = false) : areHd l = false := by simp [areHd, allTo_false k hk h]
theorem areHd_end {l : List Hdg} (h : ∀ i, i < l.length → hdI l i = true) : areHd l = decide (l.length ≤ 15) := by simp [areHd, allTo_true h]
theorem hd_up {l : List Hdg} (h : ∀ i, i < l.length → hdHead l i = true) (i : Nat) : ∀ j, i < j → j < l.length → (gd l i).id < (gd l j).id
  | 0, hj, _ => by omega
  | j + 1, hj, hl => by
    have hs : (gd l j).id < (gd l (j + 1)).id := by
      have := h (j + 1) hl
      simp only [hdHead, Bool.and_eq_true] at this
      simpa using this.2
    rcases Nat.lt_or_eq_of_le (Nat.lt_succ_iff.1 hj) with h2 | rfl
    · have := hd_up h i j h2 (by omega)
      omega
    · exact hs
theorem hdHead_b {l : List Hdg} {k : Nat} (h : hdHead l k = true) : 1 ≤ (gd l k).id ∧ (gd l k).id ≤ 99 := by
  simp only [hdHead, Bool.and_eq_true, inB_iff] at h; omega
theorem areHd_spec (l : List Hdg) : areHd l = (allTo (hdS l) l.length && decide (l.length ≤ 15)) := by
  have hmain : allTo (hdI l) l.length = allTo (hdS l) l.length := by
    rw [Bool.eq_iff_iff, allTo_iff, allTo_iff]
    constructor
    · intro h k hk
      have hh : ∀ i, i < l.length → hdHead l i = true := fun i hi => by
        have := h i hi
        simp only [hdI, Bool.and_eq_true] at this
        exact this.1.1.1
      have h1 := h k hk
      simp only [hdI, hdMid, Bool.and_eq_true, find_isSome, Bool.not_not, decide_eq_true_eq, Bool.or_eq_true, beq_iff_eq, allTo_iff] at h1
      obtain ⟨⟨⟨a1, ⟨a2, a3⟩, a4⟩, a5⟩, a6⟩ := h1
      have a5' : ∀ j, j < (gd l k).sub.length → gd (gd l k).sub j ≠ (gd l k).id ∧ (hdIdx l (gd (gd l k).sub j)).isSome = true := fun j hj => by
        have := a5 j hj
        simpa [seeBad] using this
      simp only [hdS, Bool.and_eq_true, decide_eq_true_eq, allTo_iff, Bool.or_eq_true, beq_iff_eq, find_isSome, Bool.not_not]
      refine ⟨⟨⟨⟨⟨⟨a1, a3⟩, fun j hj => ?_⟩, ?_⟩, ?_⟩, fun j hj => (a5' j hj).2⟩, a6⟩
      · obtain ⟨i, hi, he⟩ := hdIdx_isSome.1 (a5' j hj).2
        have := hdHead_b (hh i hi)
        exact ⟨inB_iff.2 (by omega), (allTo_iff.1 a4) j hj⟩
      · rw [hasI_no (fun i hi => (a5' i hi).1)]; rfl
      · rcases a2 with a2 | a2
        · exact .inl a2
        · obtain ⟨i, hi, he⟩ := (hdIdx_take (by omega)).1 a2
          refine .inr ⟨?_, hdIdx_isSome.2 ⟨i, by omega, he⟩⟩
          have := hd_up hh i k hi hk
          omega
    · intro h k hk
      have hh : ∀ i, i < l.length → hdHead l i = true := fun i hi => by
        have := h i hi
        simp only [hdS, Bool.and_eq_true] at this
        exact this.1.1.1.1.1.1
      have h1 := h k hk
      simp only [hdS, Bool.and_eq_true, decide_eq_true_eq, allTo_iff, Bool.or_eq_true, beq_iff_eq, find_isSome, Bool.not_not] at h1
      obtain ⟨⟨⟨⟨⟨⟨a1, a2⟩, a3⟩, a4⟩, a5⟩, a6⟩, a7⟩ := h1
      simp only [hdI, hdMid, Bool.and_eq_true, find_isSome, Bool.not_not, decide_eq_true_eq, Bool.or_eq_true, beq_iff_eq, allTo_iff]
      refine ⟨⟨⟨a1, ⟨?_, a2⟩, allTo_true fun j hj => (a3 j hj).2⟩, fun j hj => ?_⟩, a7⟩
      · rcases a5 with a5 | ⟨a5, a8⟩
        · exact .inl a5
        · obtain ⟨i, hi, he⟩ := hdIdx_isSome.1 a8
          refine .inr ((hdIdx_take (by omega)).2 ⟨i, ?_, he⟩)
          rcases Nat.lt_trichotomy i k with h2 | h2 | h2
          · exact h2
          · subst h2; omega
          · have := hd_up hh k i h2 hi
            omega
      · have h3 := a6 j hj
        have h4 : gd (gd l k).sub j ≠ (gd l k).id := fun he => by
          have : hasI (gd l k).sub (gd l k).id = true := hasI_iff.2 ⟨j, hj, he⟩
          rw [this] at a4; cases a4
        simp [seeBad, h3, h4]
  rw [areHd, hmain]
theorem hd_bare {l l' : List Hdg} (h : l'.map Hdg.bare = l.map Hdg.bare) (i : Nat) (hi : i < l.length) : (gd l' i).id = (gd l i).id ∧ (gd l' i).nm = (gd l i).nm ∧ (gd l' i).un = (gd l i).un ∧ (gd l' i).sub = (gd l i).sub := Hdg.sub_eq (map_same_at h i hi).2
theorem hdIdx_same {l l' : List Hdg} (h : l'.map Hdg.bare = l.map Hdg.bare) (n : Int) : hdIdx l' n = hdIdx l n := by
  have hl : l'.length = l.length := by simpa using congrArg List.length h
  unfold hdIdx
  rw [hl]
  exact find_congr fun i hi => by rw [(hd_bare h i hi).1]
theorem areHd_same {l l' : List Hdg} (h : l'.map Hdg.bare = l.map Hdg.bare) : areHd l' = areHd l := by
  have hl : l'.length = l.length := by simpa using congrArg List.length h
  rw [areHd, areHd, hl]
  congr 1
  refine all_congr fun k hk => ?_
  obtain ⟨e1, e2, e3, e4⟩ := hd_bare h k hk
  have e5 : hdHead l' k = hdHead l k := by
    rw [hdHead, hdHead, e1, e2, (hd_bare h (k - 1) (by omega)).1]
  have e6 : hdIdx (l'.take k) (gd l k).un = hdIdx (l.take k) (gd l k).un := hdIdx_same (by rw [List.map_take, List.map_take, h]) _
  have e7 : findTo (seeBad l' k) (gd l k).sub.length = findTo (seeBad l k) (gd l k).sub.length := find_congr fun j _ => by
    rw [seeBad, seeBad, e4, e1, hdIdx_same h]
  have e8 : findTo (sameAt l' k) k = findTo (sameAt l k) k := find_congr fun i hi => by
    obtain ⟨f1, f2, f3, _⟩ := hd_bare h i (by omega)
    rw [sameAt, sameAt, f2, f3, e2, e3]
  rw [hdI, hdI, hdMid, hdMid, e5, e3, e4, e6, e7, e8]
theorem areHd_len {l : List Hdg} (h : areHd l = true) : l.length ≤ 15 := by simp [areHd] at h; exact h.2
theorem areHd_heads {l : List Hdg} (h : areHd l = true) : ∀ i, i < l.length → hdHead l i = true := fun i hi => by
  simp only [areHd, Bool.and_eq_true, allTo_iff] at h
  have := h.1 i hi
  simp only [hdI, Bool.and_eq_true] at this
  exact this.1.1.1
theorem areHd_at {l : List Hdg} (h : areHd l = true) {i : Nat} (hi : i < l.length) : hdIdx l (gd l i).id = some i := by
  refine findTo_some (fun j hj => ?_) (by simp) hi
  have := hd_up (areHd_heads h) j i hj hi
  simp; omega
theorem areHd_under {l : List Hdg} (h : areHd l = true) {i : Nat} (hi : i < l.length) (hu : (gd l i).un ≠ 0) : ∃ j, j < i ∧ hdIdx l (gd l i).un = some j ∧ (gd l j).id = (gd l i).un := by
  have h0 := h
  simp only [areHd, Bool.and_eq_true, allTo_iff] at h
  have := h.1 i hi
  simp only [hdI, hdMid, Bool.and_eq_true, Bool.or_eq_true, beq_iff_eq] at this
  rcases this.1.1.2.1.1 with h1 | h1
  · exact absurd h1 hu
  · obtain ⟨j, hj, he⟩ := (hdIdx_take (by omega)).1 h1
    exact ⟨j, hj, he ▸ areHd_at h0 (by omega), he⟩
/-- a heading and all above it, from the bottom up -/
def upF (l : List Hdg) : Nat → Int → List Int
  | 0, _ => []
  | f + 1, n => if n = 0 then [] else n :: upF l f (gd l ((hdIdx l n).getD 0)).un
def upL (l : List Hdg) (n : Int) : List Int := upF l (l.length + 1) n
theorem upF_stable {l : List Hdg} (h : areHd l = true) : ∀ (k : Nat), k < l.length → ∀ f f', k < f → k < f' → upF l f (gd l k).id = upF l f' (gd l k).id := by
  intro k
  induction k using Nat.strongRecOn with
  | _ k ih =>
    intro hk f f' hf hf'
    obtain ⟨f, rfl⟩ : ∃ g, f = g + 1 := ⟨f - 1, by omega⟩
    obtain ⟨f', rfl⟩ : ∃ g, f' = g + 1 := ⟨f' - 1, by omega⟩
    simp only [upF]
    split
    · rfl
    · rw [areHd_at h hk, Option.getD_some]
      congr 1
      by_cases hu : (gd l k).un = 0
      · rw [hu]
        cases f <;> cases f' <;> simp [upF]
      · obtain ⟨j, hj, _, he⟩ := areHd_under h hk hu
        rw [← he]
        exact ih j hj (by omega) f f' (by omega) (by omega)
theorem upL_zero (l : List Hdg) : upL l 0 = [] := by simp [upL, upF]
theorem upL_top {l : List Hdg} (h : areHd l = true) {k : Nat} (hk : k < l.length) (hu : (gd l k).un = 0) : upL l (gd l k).id = [(gd l k).id] := by
  have := hdHead_b (areHd_heads h k hk)
  rw [upL, upF, if_neg (by omega), areHd_at h hk, Option.getD_some, hu]
  cases l.length <;> simp [upF]
theorem upL_step {l : List Hdg} (h : areHd l = true) {k j : Nat} (hk : k < l.length) (hu : (gd l k).un = (gd l j).id) (hj : j < k) : upL l (gd l k).id = (gd l k).id :: upL l (gd l j).id := by
  have := hdHead_b (areHd_heads h k hk)
  rw [upL, upF, if_neg (by omega), areHd_at h hk, Option.getD_some, hu, upL, upF_stable h j (by omega) l.length (l.length + 1) (by omega) (by omega)]
theorem upF_len (l : List Hdg) : ∀ f n, (upF l f n).length ≤ f
  | 0, _ => by simp [upF]
  | f + 1, n => by
    unfold upF
    split
    · simp
    · have := upF_len l f (gd l ((hdIdx l n).getD 0)).un
      simp; omega
theorem upL_len (l : List Hdg) (n : Int) : (upL l n).length ≤ l.length + 1 := upF_len l _ n
end Go.Proofs.Ytbkkaibjenofiaa
