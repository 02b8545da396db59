/- Rare words: the plain laws: the words that stand once among all words, in order. No program in sight. -/
import Derived.Test.YteainpflmofjaaaGreatAs24
import Derived.Test.YteainpflmofjaaaGreatWc24
namespace Go.Proofs.YteainpflmofjaaaGreat
open Go.RowKit
def allW (l : List Crd) : List ByteArray := l.flatMap Crd.sub
def cntW (A : List ByteArray) (w : ByteArray) : Nat := (A.filter (fun x => bts x == bts w)).length
def rareB (A : List ByteArray) (w : ByteArray) : Bool := decide (cntW A w = 1)
def rwS (A : List ByteArray) : List ByteArray := sortS (A.filter (rareB A))
theorem cntW_append (A B : List ByteArray) (w : ByteArray) : cntW (A ++ B) w = cntW A w + cntW B w := by simp [cntW, List.filter_append]
theorem cntW_zero {A : List ByteArray} {w : ByteArray} : cntW A w = 0 ↔ w ∉ A := by
  rw [cntW, List.length_eq_zero_iff, List.filter_eq_nil_iff]
  constructor
  · intro h hm
    exact h w hm (by simp)
  · intro h x hx e
    have : x = w := bts_inj (by simpa using e)
    exact h (this ▸ hx)
theorem cntW_cons (x : ByteArray) (A : List ByteArray) (w : ByteArray) : cntW (x :: A) w = (if x = w then 1 else 0) + cntW A w := by
  unfold cntW
  by_cases e : x = w
  · subst e; simp; omega
  · have : (bts x == bts w) = false := by simp; exact fun h => e (bts_inj h)
    simp [this, e]
theorem nodup_cnt {X : List ByteArray} (h : ∀ a, a ∈ X → cntW X a ≤ 1) : X.Nodup := by
  induction X with
  | nil => exact List.nodup_nil
  | cons x X ih =>
    rw [List.nodup_cons]
    refine ⟨?_, ih (fun a ha => ?_)⟩
    · have := h x (by simp)
      rw [cntW_cons, if_pos rfl] at this
      exact cntW_zero.1 (by omega)
    · have := h a (by simp [ha])
      rw [cntW_cons] at this
      omega
theorem rare_nodup (A : List ByteArray) : (A.filter (rareB A)).Nodup := by
  refine nodup_cnt (fun a ha => ?_)
  have h1 : rareB A a = true := (List.mem_filter.1 ha).2
  have h4 : cntW A a = 1 := by simpa [rareB] using h1
  have h3 := ((List.filter_sublist (p := rareB A) (l := A)).filter (fun x => bts x == bts a)).length_le
  rw [← h4]
  exact h3
theorem sortS_strict {X : List ByteArray} (h : X.Nodup) : (sortS X).Pairwise (fun x y => bts x < bts y) := by
  have h1 := sortS_sorted X
  have h2 : (sortS X).Nodup := (sortS_perm X).nodup_iff.2 h
  rw [List.nodup_iff_pairwise_ne] at h2
  refine (h1.and h2).imp (fun {a b} hab => ?_)
  rcases lt_tri (bts a) (bts b) with h3 | h3 | h3
  · exact h3
  · exact absurd (bts_inj h3) hab.2
  · exact absurd h3 (List.not_lt.2 hab.1)
/-- a word put into the rare words so far -/
theorem putW_rare {X : List ByteArray} {w : ByteArray} (h : (X ++ [w]).Nodup) : putW w (sortS X) = sortS (X ++ [w]) := by
  have h' := List.nodup_append.1 h
  have hw : w ∉ X := fun hm => h'.2.2 w hm w (by simp) rfl
  have hs := sortS_strict h'.1
  have hws : w ∉ sortS X := fun hm => hw ((sortS_perm X).mem_iff.1 hm)
  refine (sortS_eq _ _ ?_ ((putW_sorted w _ hs).imp (fun {_ _} hab => List.le_of_lt hab))).symm
  exact (putW_perm w _ hws).trans ((sortS_perm X).append_right [w])
theorem rare_push {A Q R : List ByteArray} {w : ByteArray} (hA : A = Q ++ [w] ++ R) (h : rareB A w = true) : putW w (sortS (Q.filter (rareB A))) = sortS ((Q ++ [w]).filter (rareB A)) := by
  have e : (Q ++ [w]).filter (rareB A) = Q.filter (rareB A) ++ [w] := by rw [List.filter_append]; simp [h]
  rw [e]
  refine putW_rare ?_
  rw [← e]
  refine List.Nodup.sublist ?_ (rare_nodup A)
  refine List.Sublist.filter _ ?_
  conv => rhs; rw [hA]
  exact List.sublist_append_left _ _
theorem rare_skip {A Q : List ByteArray} {w : ByteArray} (h : rareB A w = false) : sortS ((Q ++ [w]).filter (rareB A)) = sortS (Q.filter (rareB A)) := by
  rw [List.filter_append]; simp [h]
/-! ### by neighbours in the sorted words -/
def nbP (S : List ByteArray) (k : Nat) : Bool := (k == 0 || !((gd S (k - 1)).toList == (gd S k).toList)) && (k == S.length - 1 || !((gd S (k + 1)).toList == (gd S k).toList))
theorem nb_cnt {S : List ByteArray} (hs : S.Pairwise (fun x y => bts x ≤ bts y)) (k : Nat) (hk : k < S.length) : nbP S k = decide (cntW S (gd S k) = 1) := by
  have eS : S = S.take k ++ (gd S k :: S.drop (k + 1)) := by
    conv => lhs; rw [← List.take_append_drop k S, List.drop_eq_getElem_cons hk]
    rw [gd_get hk]
  have hc : cntW S (gd S k) = cntW (S.take k) (gd S k) + (1 + cntW (S.drop (k + 1)) (gd S k)) := by
    have e := congrArg (fun L => cntW L (gd S k)) eS
    simp only [cntW_append, cntW_cons, if_true] at e
    exact e
  have le : ∀ i j, i ≤ j → j < S.length → bts (gd S i) ≤ bts (gd S j) := fun i j hij hj => by
    rcases Nat.lt_or_eq_of_le hij with h | rfl
    · rw [List.pairwise_iff_getElem] at hs
      have := hs i j (by omega) hj h
      rwa [gd_get (by omega), gd_get hj]
    · exact List.le_refl _
  have eqT : ∀ i j, ((gd S i).toList == (gd S j).toList) = true ↔ gd S i = gd S j := fun i j => by
    rw [ByteArray.toList_eq, ByteArray.toList_eq]
    constructor
    · intro h; exact bts_inj (by simpa [bts] using h)
    · intro h; rw [h]; simp
  have h1 : gd S k ∈ S.take k ↔ 0 < k ∧ gd S (k - 1) = gd S k := by
    constructor
    · intro h
      obtain ⟨j, hj, e⟩ := List.mem_iff_getElem.1 h
      rw [List.length_take] at hj
      rw [List.getElem_take] at e
      have ej : gd S j = gd S k := by rw [gd_get (by omega), e]
      refine ⟨by omega, bts_inj (List.le_antisymm (le _ _ (by omega) hk) ?_)⟩
      rw [← ej]
      exact le _ _ (by omega) (by omega)
    · rintro ⟨h0, e⟩
      rw [← e, gd_get (by omega)]
      exact List.mem_iff_getElem.2 ⟨k - 1, by rw [List.length_take]; omega, by rw [List.getElem_take]⟩
  have h2 : gd S k ∈ S.drop (k + 1) ↔ k + 1 < S.length ∧ gd S (k + 1) = gd S k := by
    constructor
    · intro h
      obtain ⟨j, hj, e⟩ := List.mem_iff_getElem.1 h
      rw [List.length_drop] at hj
      rw [List.getElem_drop] at e
      have ej : gd S (k + 1 + j) = gd S k := by rw [gd_get (by omega), e]
      refine ⟨by omega, bts_inj (List.le_antisymm ?_ (le _ _ (by omega) (by omega)))⟩
      rw [← ej]
      exact le _ _ (by omega) (by omega)
    · rintro ⟨h0, e⟩
      rw [← e, gd_get h0]
      exact List.mem_iff_getElem.2 ⟨0, by rw [List.length_drop]; omega, by rw [List.getElem_drop]⟩
  have z1 := cntW_zero (A := S.take k) (w := gd S k)
  have z2 := cntW_zero (A := S.drop (k + 1)) (w := gd S k)
  rw [Bool.eq_iff_iff, decide_eq_true_iff, hc]
  have e1 : ((gd S (k - 1)).toList == (gd S k).toList) = false ↔ ¬ gd S (k - 1) = gd S k := by rw [← eqT]; simp
  have e2 : ((gd S (k + 1)).toList == (gd S k).toList) = false ↔ ¬ gd S (k + 1) = gd S k := by rw [← eqT]; simp
  simp only [nbP, Bool.and_eq_true, Bool.or_eq_true, beq_iff_eq, Bool.not_eq_true']
  rw [e1, e2]
  constructor
  · rintro ⟨a, b⟩
    have n1 : gd S k ∉ S.take k := fun h => by
      obtain ⟨p, q⟩ := h1.1 h
      rcases a with a | a
      · omega
      · exact a q
    have n2 : gd S k ∉ S.drop (k + 1) := fun h => by
      obtain ⟨p, q⟩ := h2.1 h
      rcases b with b | b
      · omega
      · exact b q
    rw [z1.2 n1, z2.2 n2]
  · intro h
    have n1 := z1.1 (by omega)
    have n2 := z2.1 (by omega)
    constructor
    · by_cases h0 : k = 0
      · exact .inl h0
      · exact .inr (fun e => n1 (h1.2 ⟨by omega, e⟩))
    · by_cases h0 : k = S.length - 1
      · exact .inl h0
      · exact .inr (fun e => n2 (h2.2 ⟨by omega, e⟩))
theorem cntW_perm {A B : List ByteArray} (h : A.Perm B) (w : ByteArray) : cntW A w = cntW B w := (h.filter _).length_eq
theorem nb_rare (A : List ByteArray) : pickG (nbP (sortS A)) (gd (sortS A)) (sortS A).length = rwS A := by
  have hp : ∀ i, i < (sortS A).length → rareB A (gd (sortS A) i) = nbP (sortS A) i := fun i hi => by
    rw [nb_cnt (sortS_sorted A) i hi, rareB, cntW_perm (sortS_perm A)]
  rw [← pickG_congr (p' := fun i => rareB A (gd (sortS A) i)) (f' := gd (sortS A)) hp (fun _ _ => rfl), pickG_filter_all (rareB A) (sortS A)]
  exact (sortS_eq _ _ ((sortS_perm A).filter _) ((sortS_sorted A).filter _)).symm
/-! ### as many cards have a word as often it stands among all words -/
theorem allW_succ {l : List Crd} {k : Nat} (h : k < l.length) : allW (l.take (k + 1)) = allW (l.take k) ++ (gd l k).sub := by
  rw [take_succ_gd h, allW, List.flatMap_append]; simp [allW]
theorem cnt_once {s : List ByteArray} (h : s.Pairwise (fun x y => bts x < bts y)) (w : ByteArray) : cntW s w = if hasW s w then 1 else 0 := by
  induction s with
  | nil => rfl
  | cons x s ih =>
    rw [cntW_cons, ih h.of_cons]
    by_cases e : x = w
    · subst e
      have h1 : x ∉ s := fun hm => List.lt_irrefl _ ((List.pairwise_cons.1 h).1 x hm)
      have h2 : hasW s x = false := by
        cases hh : hasW s x
        · rfl
        · exact absurd (hasW_mem.1 hh) h1
      rw [if_pos rfl, h2, hasW_mem.2 (by simp : x ∈ x :: s)]
      rfl
    · rw [if_neg e, Nat.zero_add]
      have : hasW (x :: s) w = hasW s w := by
        rw [Bool.eq_iff_iff, hasW_mem, hasW_mem, List.mem_cons]
        constructor
        · rintro (h1 | h1)
          · exact absurd h1.symm e
          · exact h1
        · exact .inr
      rw [this]
theorem cnt_cards {l : List Crd} (h : areCrd l = true) (w : ByteArray) : ∀ k, k ≤ l.length → cntW (allW (l.take k)) w = (wcL l w k).length
  | 0, _ => by simp [allW, cntW, wcL, pickG]
  | k + 1, hk => by
    rw [allW_succ (by omega), cntW_append, cnt_cards h w k (by omega), cnt_once (crd_up h k (by omega)), wcL, wcL]
    cases hh : hasW (gd l k).sub w
    · rw [pickG_no (p := wcP l w) hh]; simp
    · rw [pickG_yes (p := wcP l w) hh]; simp
theorem rare_wc {l : List Crd} (h : areCrd l = true) {w : ByteArray} (hw : wordB w = true) : (wcN l w == 1) = rareB (allW l) w := by
  have h1 := cnt_cards h w l.length (Nat.le_refl _)
  rw [List.take_length] at h1
  rw [rareB, h1, wcN, wcG, h, hw, Bool.eq_iff_iff]
  simp
  omega
def rwL (l : List Crd) : List ByteArray := if areCrd l then rwS (allW l) else []
theorem allW_same {l l' : List Crd} (h : l'.map Crd.bare = l.map Crd.bare) : allW l' = allW l := by
  have e : ∀ L : List Crd, allW L = allW (L.map Crd.bare) := fun L => by simp [allW, List.flatMap_map]; rfl
  rw [e l', e l, h]
theorem rw_same {l l' : List Crd} (h : l'.map Crd.bare = l.map Crd.bare) : rwL l' = rwL l ∧ areCrd l' = areCrd l := ⟨by rw [rwL, rwL, areCrd_same h, allW_same h], areCrd_same h⟩
theorem allW_len {l : List Crd} (h : ∀ i, i < l.length → (gd l i).sub.length ≤ 6) : ∀ k, k ≤ l.length → (allW (l.take k)).length ≤ 6 * k
  | 0, _ => by simp [allW]
  | k + 1, hk => by
    rw [allW_succ (by omega), List.length_append]
    have := allW_len h k (by omega)
    have := h k (by omega)
    omega
theorem rwL_len (l : List Crd) : (rwL l).length ≤ 72 := by
  unfold rwL
  split
  · rename_i hA
    have h12 : l.length ≤ 12 := by have h1c := hA; simp [areCrd] at h1c; exact h1c.2
    have := allW_len (fun i hi => crd_six hA i hi) l.length (Nat.le_refl _)
    rw [List.take_length] at this
    have h2 := List.length_filter_le (rareB (allW l)) (allW l)
    rw [rwS, sortS_len]
    omega
  · simp
theorem crd_word {l : List Crd} (h : areCrd l = true) (i : Nat) (hi : i < l.length) (k : Nat) (hk : k < (gd l i).sub.length) : wordB (gd (gd l i).sub k) = true := by
  simp only [areCrd, Bool.and_eq_true] at h
  have := allTo_iff.1 h.1 i hi
  simp only [crdAt, Bool.and_eq_true, isCrd_words] at this
  have h2 := this.1.1.2
  simp only [words6, Bool.and_eq_true] at h2
  exact allTo_iff.1 h2.2 k hk
end Go.Proofs.YteainpflmofjaaaGreat
