/- Cards: what FnCards asks: a card that was found has all words, ranked cards have fewer and fewer matches. Plain facts. No condition. -/
import Derived.Test.YteainpflmofjaaaGreatDoorRs24
import Derived.Test.YteainpflmofjaaaGreatDoorRi
namespace Go.Proofs.YteainpflmofjaaaGreatDoor
open Go.RowKit
theorem gdMem {α : Type} [Inhabited α] {l : List α} {i : Nat} (h : i < l.length) : gd l i ∈ l := by
  rw [gd_get h]
  exact List.getElem_mem h
theorem memGd {α : Type} [Inhabited α] {l : List α} {x : α} (h : x ∈ l) : ∃ i, i < l.length ∧ gd l i = x := by
  obtain ⟨i, hi, e⟩ := List.getElem_of_mem h
  exact ⟨i, hi, by rw [gd_get hi]; exact e⟩
theorem hasI_in {l : List Int} {n : Int} : hasI l n = true ↔ n ∈ l := by
  rw [hasI_iff]
  constructor
  · rintro ⟨i, hi, rfl⟩
    exact gdMem hi
  · exact memGd
/-- a card is found if it has all words -/
theorem ct_all {l : List Crd} {ws : List ByteArray} (h : ctG l ws = true) {i : Nat} (hi : i < l.length) : hasI (ctL l ws) (gd l i).id = hasAll (gd l i).sub ws := by
  have hA : areCrd l = true := by
    unfold ctG at h
    simp only [Bool.and_eq_true] at h
    exact h.1
  have hm : hasI (ctL l ws) (gd l i).id = true ↔ hasAll (gd l i).sub ws = true := by
    rw [hasI_in, ctL, if_pos h, ctI]
    simp only [idsC, pickG, List.mem_map, List.mem_filter, List.mem_range]
    constructor
    · rintro ⟨x, ⟨j, ⟨h1, h2⟩, rfl⟩, h3⟩
      obtain rfl : j = i := (crd_id_iff hA hi h1).1 h3
      exact h2
    · intro h2
      exact ⟨_, ⟨i, ⟨hi, h2⟩, rfl⟩, rfl⟩
  cases h1 : hasI (ctL l ws) (gd l i).id <;> cases h2 : hasAll (gd l i).sub ws <;> simp [h1, h2] at hm ⊢
theorem insR_up (ws : List ByteArray) (x : Crd) : ∀ (P : List Crd), P.Pairwise (fun a b => mch ws a ≤ mch ws b) → (insR (ltM ws) x P).Pairwise (fun a b => mch ws a ≤ mch ws b)
  | [], _ => by simp [insR]
  | y :: P, h => by
    obtain ⟨h1, h2⟩ := List.pairwise_cons.1 h
    rw [insR]
    by_cases hlt : mch ws y < mch ws x
    · rw [if_pos (by simp [ltM, hlt])]
      refine List.pairwise_cons.2 ⟨fun z hz => ?_, insR_up ws x P h2⟩
      rcases insR_mem _ _ _ z hz with rfl | hz
      · omega
      · exact h1 z hz
    · rw [if_neg (by simp [ltM, hlt])]
      refine List.pairwise_cons.2 ⟨fun z hz => ?_, h⟩
      rcases List.mem_cons.1 hz with rfl | hz
      · omega
      · have := h1 z hz
        omega
theorem sortR_up (ws : List ByteArray) (P : List Crd) : (sortR (ltM ws) P).Pairwise (fun a b => mch ws a ≤ mch ws b) := by
  have key : ∀ (Q R : List Crd), R.Pairwise (fun a b => mch ws a ≤ mch ws b) → (Q.foldl (fun P x => insR (ltM ws) x P) R).Pairwise (fun a b => mch ws a ≤ mch ws b) := fun Q => by
    induction Q with
    | nil => intro R h; exact h
    | cons y Q ih => intro R h; exact ih _ (insR_up ws y R h)
  exact key P [] List.Pairwise.nil
theorem mch_len (ws : List ByteArray) (x : Crd) : mch ws x ≤ (x.sub.length : Int) := by
  have := commonL_len x.sub ws
  unfold mch
  omega
/-- the matches of ranked cards -/
theorem rk_down (l : List Crd) (ws : List ByteArray) : ∃ M : Nat → Int, (∀ i, i < (rkL l ws).length → 0 < M i ∧ M i ≤ 6 ∧ (∀ k, k < l.length → (gd l k).id = gd (rkL l ws) i → mch ws (gd l k) = M i) ∧ ∃ k, k < l.length ∧ (gd l k).id = gd (rkL l ws) i) ∧ ∀ i, i + 1 < (rkL l ws).length → M (i + 1) ≤ M i := by
  by_cases hG : rkG l ws = true
  · have hA : areCrd l = true := by
      unfold rkG at hG
      simp only [Bool.and_eq_true] at hG
      exact hG.1.1
    rw [rkL, if_pos hG]
    have hmem : ∀ y, y ∈ (rkS l ws l.length).reverse → y ∈ l ∧ 0 < mch ws y := fun y hy => by
      have h1 := (List.mem_filter.1 (sortR_mem _ _ y (List.mem_reverse.1 hy)))
      exact ⟨List.mem_of_mem_take h1.1, by simpa [rkF] using h1.2⟩
    have hup : (rkS l ws l.length).reverse.Pairwise (fun a b => mch ws b ≤ mch ws a) := List.pairwise_reverse.2 (sortR_up ws _)
    generalize (rkS l ws l.length).reverse = R at hmem hup ⊢
    have hlen : (idsC R).length = R.length := by simp [idsC]
    rw [hlen]
    refine ⟨fun i => mch ws (gd R i), fun i hi => ?_, fun i hi => ?_⟩
    · obtain ⟨h1, h2⟩ := hmem _ (gdMem hi)
      obtain ⟨j, hj, e⟩ := memGd h1
      rw [gd_ids R i hi]
      refine ⟨h2, ?_, fun k hk hid => ?_, j, hj, by rw [e]⟩
      · have h3 := mch_len ws (gd R i)
        have h4 := crd_six hA j hj
        rw [e] at h4
        show mch ws (gd R i) ≤ 6
        omega
      · rw [← e] at hid
        obtain rfl : k = j := (crd_id_iff hA hj hk).1 hid
        show mch ws (gd l k) = mch ws (gd R i)
        rw [e]
    · have h1 := List.pairwise_iff_getElem.1 hup i (i + 1) (by omega) (by omega) (by omega)
      show mch ws (gd R (i + 1)) ≤ mch ws (gd R i)
      rw [gd_get (by omega), gd_get (by omega)]
      exact h1
  · rw [rkL, if_neg hG]
    exact ⟨fun _ => 0, fun i hi => absurd hi (by simp), fun i hi => absurd hi (by simp)⟩
/-- the first k words are all among a card's -/
def hasTo (sub ws : List ByteArray) (k : Nat) : Bool := allTo (fun j => hasW sub (gd ws j)) k
theorem hasTo_zero (sub ws : List ByteArray) : hasTo sub ws 0 = true := rfl
theorem hasTo_succ (sub ws : List ByteArray) (k : Nat) : hasTo sub ws (k + 1) = (hasTo sub ws k && hasW sub (gd ws k)) := allTo_succ _ _
theorem hasTo_all (sub ws : List ByteArray) : hasTo sub ws ws.length = hasAll sub ws := rfl
/-- how many of the first k words are among some -/
def cntTo (sub ws : List ByteArray) (k : Nat) : Nat := (commonL (sub.take k) ws).length
theorem cntTo_zero (sub ws : List ByteArray) : cntTo sub ws 0 = 0 := by simp [cntTo, commonL]
theorem cntTo_yes {sub ws : List ByteArray} {k : Nat} (hk : k < sub.length) (h : hasW ws (gd sub k) = true) : cntTo sub ws (k + 1) = cntTo sub ws k + 1 := by
  rw [cntTo, commonL_yes hk h, List.length_append]
  rfl
theorem cntTo_no {sub ws : List ByteArray} {k : Nat} (hk : k < sub.length) (h : hasW ws (gd sub k) = false) : cntTo sub ws (k + 1) = cntTo sub ws k := by
  rw [cntTo, commonL_no hk h]
  rfl
theorem cntTo_le (sub ws : List ByteArray) (k : Nat) : cntTo sub ws k ≤ k := by
  have h := commonL_len (sub.take k) ws
  have h2 : (sub.take k).length ≤ k := by simp; omega
  unfold cntTo
  omega
theorem cntTo_all (ws : List ByteArray) (x : Crd) : (cntTo x.sub ws x.sub.length : Int) = mch ws x := by
  rw [cntTo, List.take_length]
  rfl
/-- the last match, round by round -/
theorem rk_prev (l : List Crd) (ws : List ByteArray) : ∃ P : Nat → Int, P 0 = 7 ∧ ∀ i, i < (rkL l ws).length → 0 < P (i + 1) ∧ P (i + 1) ≤ P i ∧ (∀ k, k < l.length → (gd l k).id = gd (rkL l ws) i → (cntTo (gd l k).sub ws (gd l k).sub.length : Int) = P (i + 1)) ∧ ∃ k, k < l.length ∧ (gd l k).id = gd (rkL l ws) i := by
  obtain ⟨M, h1, h2⟩ := rk_down l ws
  refine ⟨fun i => match i with | 0 => 7 | j + 1 => M j, rfl, fun i hi => ?_⟩
  obtain ⟨a1, a2, a3, a4⟩ := h1 i hi
  refine ⟨a1, ?_, fun k hk e => by rw [cntTo_all]; exact a3 k hk e, a4⟩
  match i, hi, a2 with
  | 0, _, a2 => show M 0 ≤ 7; omega
  | j + 1, hi, _ => exact h2 j hi
end Go.Proofs.YteainpflmofjaaaGreatDoor
