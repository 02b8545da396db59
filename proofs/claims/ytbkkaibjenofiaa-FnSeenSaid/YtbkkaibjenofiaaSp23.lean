/- Headings seen from one within some steps: plain law (a list that grows in its own order, and a list kept in order, have the same members). No condition. -/
import Derived.Test.YtbkkaibjenofiaaHp23
import Derived.Test.YtbkkaibjenofiaaDf
namespace Go.Proofs.Ytbkkaibjenofiaa
open Go.RowKit
theorem mem_gd {l : List Int} {x : Int} : x ∈ l ↔ ∃ i, i < l.length ∧ gd l i = x := by
  constructor
  · intro h
    obtain ⟨i, hi, e⟩ := List.mem_iff_getElem.1 h
    exact ⟨i, hi, by rw [gd_get hi]; exact e⟩
  · rintro ⟨i, hi, rfl⟩
    rw [gd_get hi]; exact List.getElem_mem hi
theorem hasI_mem {l : List Int} {n : Int} : hasI l n = true ↔ n ∈ l := by rw [hasI_iff, mem_gd]
/-- what the heading n sees -/
def seeOf (l : List Hdg) (n : Int) : List Int := match hdIdx l n with
  | some k => (gd l k).sub
  | none => []
/-- one more, behind all others -/
def addI (S : List Int) (t : Int) : List Int := if hasI S t then S else S ++ [t]
/-- where t stands in an ascending list, or is to stand -/
def ltTo (S : List Int) (t : Int) : Nat := match findTo (fun i => !decide (gd S i < t)) S.length with
  | some k => k
  | none => S.length
/-- one more, in its place -/
def putI (S : List Int) (t : Int) : List Int := if ltTo S t < S.length ∧ gd S (ltTo S t) = t then S else S.take (ltTo S t) ++ [t] ++ S.drop (ltTo S t)
def innR (f : List Int → Int → List Int) (T S : List Int) : Nat → List Int
  | 0 => S
  | k + 1 => f (innR f T S k) (gd T k)
def rndR (f : List Int → Int → List Int) (see : Int → List Int) (S : List Int) : Nat → List Int
  | 0 => S
  | i + 1 => innR f (see (gd S i)) (rndR f see S i) (see (gd S i)).length
def rnds (f : List Int → Int → List Int) (see : Int → List Int) (S : List Int) : Nat → List Int
  | 0 => S
  | n + 1 => rndR f see (rnds f see S n) (rnds f see S n).length
/-! ### members -/
def Adds (f : List Int → Int → List Int) : Prop := ∀ S t x, x ∈ f S t ↔ x ∈ S ∨ x = t
theorem innR_mem {f : List Int → Int → List Int} (h : Adds f) (T S : List Int) (x : Int) : ∀ k, x ∈ innR f T S k ↔ x ∈ S ∨ ∃ j, j < k ∧ x = gd T j
  | 0 => by simp [innR]
  | k + 1 => by
    rw [innR, h, innR_mem h T S x k]
    constructor
    · rintro ((h1 | ⟨j, h1, h2⟩) | h1)
      · exact .inl h1
      · exact .inr ⟨j, by omega, h2⟩
      · exact .inr ⟨k, by omega, h1⟩
    · rintro (h1 | ⟨j, h1, h2⟩)
      · exact .inl (.inl h1)
      · rcases Nat.lt_or_eq_of_le (Nat.lt_succ_iff.1 h1) with h3 | rfl
        · exact .inl (.inr ⟨j, h3, h2⟩)
        · exact .inr h2
theorem rndR_mem {f : List Int → Int → List Int} (h : Adds f) (see : Int → List Int) (S : List Int) (x : Int) : ∀ i, x ∈ rndR f see S i ↔ x ∈ S ∨ ∃ m, m < i ∧ x ∈ see (gd S m)
  | 0 => by simp [rndR]
  | i + 1 => by
    rw [rndR, innR_mem h, rndR_mem h see S x i]
    constructor
    · rintro ((h1 | ⟨j, h1, h2⟩) | ⟨j, h1, h2⟩)
      · exact .inl h1
      · exact .inr ⟨j, by omega, h2⟩
      · exact .inr ⟨i, by omega, mem_gd.2 ⟨j, h1, h2.symm⟩⟩
    · rintro (h1 | ⟨j, h1, h2⟩)
      · exact .inl (.inl h1)
      · rcases Nat.lt_or_eq_of_le (Nat.lt_succ_iff.1 h1) with h3 | rfl
        · exact .inl (.inr ⟨j, h3, h2⟩)
        · obtain ⟨q, h4, h5⟩ := mem_gd.1 h2
          exact .inr ⟨q, h4, h5.symm⟩
theorem rnds_mem {f g : List Int → Int → List Int} (hf : Adds f) (hg : Adds g) (see : Int → List Int) (S : List Int) : ∀ n x, x ∈ rnds f see S n ↔ x ∈ rnds g see S n
  | 0, x => by simp [rnds]
  | n + 1, x => by
    have ih := rnds_mem hf hg see S n
    rw [rnds, rnds, rndR_mem hf, rndR_mem hg, ih x]
    constructor
    · rintro (h1 | ⟨m, h1, h2⟩)
      · exact .inl h1
      · obtain ⟨q, h3, h4⟩ := mem_gd.1 ((ih (gd (rnds f see S n) m)).1 (mem_gd.2 ⟨m, h1, rfl⟩))
        exact .inr ⟨q, h3, by rw [h4]; exact h2⟩
    · rintro (h1 | ⟨m, h1, h2⟩)
      · exact .inl h1
      · obtain ⟨q, h3, h4⟩ := mem_gd.1 ((ih (gd (rnds g see S n) m)).2 (mem_gd.2 ⟨m, h1, rfl⟩))
        exact .inr ⟨q, h3, by rw [h4]; exact h2⟩
/-- what each round keeps -/
theorem rnds_keep {f : List Int → Int → List Int} {P : List Int → Prop} (hf : ∀ S t, P S → P (f S t)) (see : Int → List Int) {S : List Int} (h : P S) : ∀ n, P (rnds f see S n) := by
  have h1 : ∀ T S, P S → ∀ k, P (innR f T S k) := fun T S hS k => by
    induction k with
    | zero => exact hS
    | succ k ih => exact hf _ _ ih
  have h2 : ∀ S, P S → ∀ i, P (rndR f see S i) := fun S hS i => by
    induction i with
    | zero => exact hS
    | succ i ih => exact h1 _ _ ih _
  intro n
  induction n with
  | zero => exact h
  | succ n ih => exact h2 _ ih _
theorem innR_len {f : List Int → Int → List Int} (hf : ∀ S t, (f S t).length ≤ S.length + 1) (T S : List Int) : ∀ k, (innR f T S k).length ≤ S.length + k
  | 0 => Nat.le_refl _
  | k + 1 => by have h1 := innR_len hf T S k; have h2 := hf (innR f T S k) (gd T k); rw [innR]; omega
theorem rndR_len {f : List Int → Int → List Int} (hf : ∀ S t, (f S t).length ≤ S.length + 1) {see : Int → List Int} (hs : ∀ n, (see n).length ≤ 4) (S : List Int) : ∀ i, (rndR f see S i).length ≤ S.length + 4 * i
  | 0 => Nat.le_refl _
  | i + 1 => by
    have h1 := rndR_len hf hs S i
    have h2 := innR_len hf (see (gd S i)) (rndR f see S i) (see (gd S i)).length
    have h3 := hs (gd S i)
    rw [rndR]; omega
theorem rnds_len {f : List Int → Int → List Int} (hf : ∀ S t, (f S t).length ≤ S.length + 1) {see : Int → List Int} (hs : ∀ n, (see n).length ≤ 4) (S : List Int) : ∀ n, (rnds f see S n).length ≤ S.length * 5 ^ n
  | 0 => by simp [rnds]
  | n + 1 => by
    have h1 := rnds_len hf hs S n
    have h2 := rndR_len hf hs (rnds f see S n) (rnds f see S n).length
    rw [rnds, Nat.pow_succ, ← Nat.mul_assoc]; omega
/-! ### the two ways to add -/
theorem addI_adds : Adds addI := fun S t x => by
  unfold addI
  split
  · rename_i h
    have := hasI_mem.1 h
    constructor
    · exact .inl
    · rintro (h1 | rfl)
      · exact h1
      · exact this
  · simp
theorem addI_len (S : List Int) (t : Int) : (addI S t).length ≤ S.length + 1 := by
  unfold addI; split <;> simp
theorem ltTo_spec (S : List Int) (t : Int) : ltTo S t ≤ S.length ∧ (∀ i, i < ltTo S t → gd S i < t) ∧ (ltTo S t < S.length → t ≤ gd S (ltTo S t)) := by
  unfold ltTo
  cases h : findTo (fun i => !decide (gd S i < t)) S.length with
  | none =>
    refine ⟨Nat.le_refl _, fun i hi => ?_, fun h => absurd h (Nat.lt_irrefl _)⟩
    have := findTo_none_spec h i hi
    simpa using this
  | some k =>
    obtain ⟨h1, h2, h3⟩ := findTo_spec h
    refine ⟨Nat.le_of_lt h1, fun i hi => ?_, fun _ => ?_⟩
    · have := h3 i hi
      simpa using this
    · simpa using h2
theorem putI_len (S : List Int) (t : Int) : (putI S t).length ≤ S.length + 1 := by
  have := (ltTo_spec S t).1
  unfold putI
  split
  · omega
  · simp; omega
theorem putI_adds : Adds putI := fun S t x => by
  have h0 := (ltTo_spec S t).1
  unfold putI
  split
  · rename_i h
    have : t ∈ S := mem_gd.2 ⟨_, h.1, h.2⟩
    constructor
    · exact .inl
    · rintro (h1 | rfl)
      · exact h1
      · exact this
  · conv => rhs; rw [← List.take_append_drop (ltTo S t) S]
    simp only [List.mem_append, List.mem_singleton]
    constructor
    · rintro ((h1 | h1) | h1)
      · exact .inl (.inl h1)
      · exact .inr h1
      · exact .inl (.inr h1)
    · rintro ((h1 | h1) | h1)
      · exact .inl (.inl h1)
      · exact .inr h1
      · exact .inl (.inr h1)
def Asc (S : List Int) : Prop := S.Pairwise (· < ·)
theorem putI_asc {S : List Int} {t : Int} (h : Asc S) : Asc (putI S t) := by
  obtain ⟨h0, h1, h2⟩ := ltTo_spec S t
  unfold putI
  split
  · exact h
  · rename_i hn
    generalize ltTo S t = k at *
    have hA : Asc (S.take k ++ S.drop k) := by rw [List.take_append_drop]; exact h
    unfold Asc at hA ⊢
    rw [List.pairwise_append] at hA
    obtain ⟨a1, a2, a3⟩ := hA
    have lo : ∀ x, x ∈ S.take k → x < t := fun x hx => by
      obtain ⟨i, hi, e⟩ := List.mem_iff_getElem.1 hx
      have hi' : i < k ∧ i < S.length := by simp at hi; omega
      have := h1 i hi'.1
      rw [gd_get hi'.2] at this
      rw [← e, List.getElem_take]; exact this
    have hi : ∀ x, x ∈ S.drop k → t < x := fun x hx => by
      have hk : k < S.length := by
        rcases Nat.lt_or_eq_of_le h0 with h3 | h3
        · exact h3
        · rw [h3, List.drop_length] at hx; cases hx
      have h3 := h2 hk
      have h4 : gd S k ≠ t := fun e => hn ⟨hk, e⟩
      rw [List.drop_eq_getElem_cons hk] at hx a2
      rw [gd_get hk] at h3 h4
      rcases List.mem_cons.1 hx with rfl | hx
      · omega
      · have := (List.pairwise_cons.1 a2).1 x hx
        omega
    rw [List.append_assoc, List.pairwise_append]
    refine ⟨a1, ?_, ?_⟩
    · rw [List.singleton_append, List.pairwise_cons]
      exact ⟨hi, a2⟩
    · intro x hx y hy
      rcases List.mem_append.1 hy with hy | hy
      · rw [List.mem_singleton] at hy; subst hy; exact lo x hx
      · exact a3 x hx y hy
/-- a list that begins with n, and no member stands twice -/
def Heads (n : Int) (S : List Int) : Prop := S.Nodup ∧ ∃ R, S = n :: R
theorem addI_heads {n : Int} (S : List Int) (t : Int) (h : Heads n S) : Heads n (addI S t) := by
  obtain ⟨h1, R, rfl⟩ := h
  unfold addI
  split
  · exact ⟨h1, R, rfl⟩
  · rename_i hn
    refine ⟨?_, R ++ [t], rfl⟩
    have : t ∉ n :: R := fun hm => hn (hasI_mem.2 hm)
    rw [List.nodup_append]
    refine ⟨h1, by simp, fun a ha b hb e => ?_⟩
    rw [List.mem_singleton] at hb
    subst hb e
    exact this ha
/-! ### the answer -/
def snS (l : List Hdg) (n : Int) (st : Nat) : List Int := rnds putI (seeOf l) [n] st
def snI (l : List Hdg) (n : Int) (st : Nat) : List Int := rnds addI (seeOf l) [n] st
def sortI (l : List Int) : List Int := l.mergeSort (fun a b => decide (a ≤ b))
theorem sn_same (l : List Hdg) (n : Int) (st : Nat) : sortI ((snI l n st).drop 1) = (snS l n st).filter (fun x => x != n) := by
  have hA : Asc (snS l n st) := rnds_keep (fun S t h => putI_asc h) _ (by simp [Asc]) st
  have hH : Heads n (snI l n st) := rnds_keep (fun S t h => addI_heads S t h) _ (⟨by simp, [], rfl⟩) st
  have hM := rnds_mem addI_adds putI_adds (seeOf l) [n] st
  change ∀ x, x ∈ snI l n st ↔ x ∈ snS l n st at hM
  generalize snS l n st = A at *
  obtain ⟨h1, R, e⟩ := hH
  rw [e] at hM h1 ⊢
  obtain ⟨hn, hR⟩ := List.nodup_cons.1 h1
  have hF : Asc (A.filter (fun x => x != n)) := List.Pairwise.filter _ hA
  have hN : (A.filter (fun x => x != n)).Nodup := List.Pairwise.imp (fun h => by omega) hF
  have hP : R.Perm (A.filter (fun x => x != n)) := by
    rw [List.perm_ext_iff_of_nodup hR hN]
    intro x
    rw [List.mem_filter, ← hM x]
    simp only [List.mem_cons, bne_iff_ne, ne_eq]
    constructor
    · intro hx
      exact ⟨.inr hx, fun e => hn (e ▸ hx)⟩
    · rintro ⟨rfl | hx, h2⟩
      · exact absurd rfl h2
      · exact hx
  show sortI R = _
  refine List.Perm.eq_of_pairwise (le := (· ≤ ·)) (fun _ _ _ _ h1 h2 => by omega) ?_ (List.Pairwise.imp (fun h => by omega) hF) ((List.mergeSort_perm _ _).trans hP)
  have := List.pairwise_mergeSort (le := fun x y : Int => decide (x ≤ y)) (fun _ _ _ h1 h2 => by simp only [decide_eq_true_eq] at *; omega) (fun a b => by simp only [Bool.or_eq_true, decide_eq_true_eq]; omega) R
  exact this.imp (fun h => by simpa using h)
end Go.Proofs.Ytbkkaibjenofiaa
