/- Cards: what FnWordsOfCards asks: an added word is found with its card, words in common are the same in both directions, the nearest card has as many as told, a rare word is on one card. Plain facts. No condition. -/
import Derived.Test.YteainpflmofjaaaGreatRx24
import Derived.Test.YteainpflmofjaaaGreatRi
namespace Go.Proofs.YteainpflmofjaaaGreat
open Go.RowKit
theorem aw_yes {l : List Crd} {n : Int} {w : ByteArray} (h : awG l n w = true) : ∃ i, i < l.length ∧ crdIdx l n = some i ∧ areCrd l = true ∧ hasW (gd l i).sub w = false ∧ areCrd (awO (putW w) l i l.length) = true ∧ awB l n w = awO (putW w) l i l.length := by
  have h0 := h
  unfold awG at h
  cases hc : crdIdx l n with
  | none => rw [hc] at h; cases h
  | some i =>
    rw [hc] at h
    simp only [Bool.and_eq_true, Bool.not_eq_true'] at h
    obtain ⟨⟨h1, h2⟩, h3⟩ := h
    refine ⟨i, crdIdx_at hc, rfl, h1, h2, h3, ?_⟩
    unfold awB
    rw [hc]
    show (if awG l n w then _ else _) = _
    rw [if_pos h0]
theorem awO_sub (l : List Crd) (i : Nat) (w : ByteArray) (j : Nat) (hj : j < l.length) : (gd (awO (putW w) l i l.length) j).sub = if j = i then putW w (gd l j).sub else (gd l j).sub := by
  rw [awO_at _ _ _ _ _ hj]
  unfold awAt
  split <;> rfl
theorem awO_id (l : List Crd) (i : Nat) (w : ByteArray) (j : Nat) (hj : j < l.length) : (gd (awO (putW w) l i l.length) j).id = (gd l j).id := by
  rw [awO_at _ _ _ _ _ hj]
  unfold awAt
  split <;> rfl
theorem awO_wcP (l : List Crd) (i : Nat) (w : ByteArray) (j : Nat) (hj : j < l.length) : wcP (awO (putW w) l i l.length) w j = (decide (j = i) || wcP l w j) := by
  unfold wcP
  rw [awO_sub l i w j hj]
  by_cases e : j = i
  · rw [if_pos e, decide_eq_true e, Bool.true_or]
    exact hasW_mem.2 (by simp [putW])
  · rw [if_neg e, decide_eq_false e, Bool.false_or]
theorem wcL_out {l : List Crd} {i : Nat} {w : ByteArray} (h : wcP l w i = false) : ∀ k, k ≤ l.length → (wcL (awO (putW w) l i l.length) w k).length = (wcL l w k).length + if i < k then 1 else 0
  | 0, _ => by simp [wcL, pickG]
  | k + 1, hk => by
    have ih := wcL_out h k (by omega)
    have hq := awO_wcP l i w k (by omega)
    unfold wcL at ih ⊢
    by_cases e : k = i
    · subst e
      rw [pickG_yes (by rw [hq]; simp), pickG_no (p := wcP l w) h, List.length_append, ih]
      simp
    · have e2 : (if i < k + 1 then 1 else 0) = if i < k then 1 else 0 := by
        by_cases g : i < k
        · rw [if_pos g, if_pos (by omega)]
        · rw [if_neg g, if_neg (by omega)]
      rw [e2]
      cases hp : wcP l w k
      · rw [pickG_no (by rw [hq, hp]; simp [e]), pickG_no hp, ih]
      · rw [pickG_yes (by rw [hq, hp]; simp), pickG_yes hp, List.length_append, List.length_append, ih, List.length_singleton, List.length_singleton]
        omega
theorem gd_of {α : Type} [Inhabited α] {l : List α} {x : α} (h : x ∈ l) : ∃ i, i < l.length ∧ gd l i = x := by
  obtain ⟨i, hi, e⟩ := List.getElem_of_mem h
  exact ⟨i, hi, by rw [gd_get hi]; exact e⟩
theorem hasI_mem {l : List Int} {n : Int} : hasI l n = true ↔ n ∈ l := by
  rw [hasI_iff]
  constructor
  · rintro ⟨i, hi, rfl⟩
    exact gd_mem hi
  · exact gd_of
theorem ids_pick (p : Nat → Bool) (l : List Crd) (k : Nat) (n : Int) : n ∈ idsC (pickG p (gd l) k) ↔ ∃ j, j < k ∧ p j = true ∧ (gd l j).id = n := by
  simp only [idsC, pickG, List.mem_map, List.mem_filter, List.mem_range]
  constructor
  · rintro ⟨x, ⟨j, ⟨h1, h2⟩, rfl⟩, h3⟩
    exact ⟨j, h1, h2, h3⟩
  · rintro ⟨j, h1, h2, h3⟩
    exact ⟨_, ⟨j, ⟨h1, h2⟩, rfl⟩, h3⟩
theorem hasAll_one (s : List ByteArray) (w : ByteArray) : hasAll s [w] = hasW s w := by simp [hasAll, allTo, gd, List.range_succ]
/-- an added word is found with its card -/
theorem aw_found {l : List Crd} {n : Int} {w : ByteArray} (h : awG l n w = true) : wcG l w = true ∧ wcG (awB l n w) w = true ∧ wcN (awB l n w) w = wcN l w + 1 ∧ ctG (awB l n w) [w] = true ∧ hasI (ctL (awB l n w) [w]) n = true ∧ ((ctL (awB l n w) [w]).length : Int) = wcN (awB l n w) w := by
  obtain ⟨i, hi, hc, h1, h2, h3, h4⟩ := aw_yes h
  rw [h4]
  have hw : wordB w = true := by
    have hm : w ∈ (gd (awO (putW w) l i l.length) i).sub := by
      rw [awO_sub l i w i hi, if_pos rfl]
      simp [putW]
    obtain ⟨k, hk, e⟩ := gd_of hm
    have := crd_word h3 i (by rw [awO_len]; exact hi) k hk
    rwa [e] at this
  have g1 : wcG l w = true := by simp [wcG, h1, hw]
  have g2 : wcG (awO (putW w) l i l.length) w = true := by simp [wcG, h3, hw]
  have g3 : wcN (awO (putW w) l i l.length) w = wcN l w + 1 := by
    rw [wcN, wcN, if_pos g1, if_pos g2, awO_len, wcL_out h2 _ (Nat.le_refl _), if_pos hi]
    omega
  have g4 : ctG (awO (putW w) l i l.length) [w] = true := by
    have : words6 [w] = true := words6_yes (fun j hj => by
      obtain rfl : j = 0 := by simpa using hj
      exact hw) (by simp)
    simp [ctG, h3, this]
  have g5 : ctL (awO (putW w) l i l.length) [w] = idsC (wcL (awO (putW w) l i l.length) w l.length) := by
    rw [ctL, if_pos g4, ctI, awO_len, wcL]
    congr 1
    exact pickG_congr (fun j _ => hasAll_one _ _) (fun _ _ => rfl)
  refine ⟨g1, g2, g3, g4, ?_, ?_⟩
  · rw [hasI_mem, g5, wcL, ids_pick]
    refine ⟨i, hi, ?_, ?_⟩
    · rw [awO_wcP l i w i hi]; simp
    · rw [awO_id l i w i hi]
      have := (findTo_spec hc).2.1
      simpa using this
  · rw [g5, idsC, List.length_map, wcN, if_pos g2, awO_len]
theorem strict_ext : ∀ {a b : List ByteArray}, a.Pairwise (fun x y => bts x < bts y) → b.Pairwise (fun x y => bts x < bts y) → (∀ x, x ∈ a ↔ x ∈ b) → a = b
  | [], [], _, _, _ => rfl
  | [], y :: b, _, _, h => absurd ((h y).2 List.mem_cons_self) (by simp)
  | x :: a, [], _, _, h => absurd ((h x).1 List.mem_cons_self) (by simp)
  | x :: a, y :: b, ha, hb, h => by
    have ha' := List.pairwise_cons.1 ha
    have hb' := List.pairwise_cons.1 hb
    have e : x = y := by
      rcases List.mem_cons.1 ((h x).1 List.mem_cons_self) with e | e
      · exact e
      · rcases List.mem_cons.1 ((h y).2 List.mem_cons_self) with e2 | e2
        · exact e2.symm
        · exact absurd (ha'.1 y e2) (lt_not _ _ (hb'.1 x e))
    subst e
    congr 1
    refine strict_ext ha'.2 hb'.2 (fun z => ⟨fun hz => ?_, fun hz => ?_⟩)
    · rcases List.mem_cons.1 ((h z).1 (List.mem_cons_of_mem _ hz)) with e | e
      · subst e; exact absurd (ha'.1 z hz) (List.lt_irrefl _)
      · exact e
    · rcases List.mem_cons.1 ((h z).2 (List.mem_cons_of_mem _ hz)) with e | e
      · subst e; exact absurd (hb'.1 z hz) (List.lt_irrefl _)
      · exact e
theorem commonL_comm {a b : List ByteArray} (ha : a.Pairwise (fun x y => bts x < bts y)) (hb : b.Pairwise (fun x y => bts x < bts y)) : commonL a b = commonL b a :=
  strict_ext (ha.filter _) (hb.filter _) (fun x => by simp only [commonL, List.mem_filter, hasW_mem]; exact And.comm)
theorem cwG_comm (l : List Crd) (a b : Int) : cwG l b a = cwG l a b := by
  unfold cwG
  rw [Bool.and_assoc, Bool.and_assoc, Bool.and_comm (crdIdx l b).isSome]
/-- words in common, the other way round -/
theorem cwL_comm (l : List Crd) (a b : Int) : cwL l b a = cwL l a b := by
  by_cases h : cwG l a b = true
  · obtain ⟨i, k, hi, hk, hA, h1, h2, h3⟩ := cw_some h
    have h' : cwG l b a = true := by rw [cwG_comm]; exact h
    obtain ⟨i', k', hi', hk', -, h1', h2', h3'⟩ := cw_some h'
    rw [h2] at h1'
    rw [h1] at h2'
    cases h1'
    cases h2'
    rw [h3, h3']
    exact commonL_comm (crd_up hA _ hk) (crd_up hA _ hi)
  · have h' : ¬ cwG l b a = true := by rw [cwG_comm]; exact h
    rw [cwL, cwL, if_neg h, if_neg h']
theorem nearTo_at (l : List Crd) (i : Nat) : ∀ k, ((nearTo l i k).2 = -1 ∧ ∀ j, j < k → j = i) ∨ ∃ j, j < k ∧ j ≠ i ∧ nearTo l i k = ((gd l j).id, (nCom l i j : Int))
  | 0 => .inl ⟨rfl, fun j hj => by omega⟩
  | k + 1 => by
    by_cases h : k ≠ i ∧ (nearTo l i k).2 < nCom l i k
    · exact .inr ⟨k, by omega, h.1, nearTo_yes h.1 h.2⟩
    · rw [nearTo_no h]
      rcases nearTo_at l i k with ⟨h1, h2⟩ | ⟨j, h1, h2, h3⟩
      · by_cases e : k = i
        · exact .inl ⟨h1, fun j hj => by
            by_cases e2 : j = k
            · omega
            · exact h2 j (by omega)⟩
        · exact absurd ⟨e, by omega⟩ h
      · exact .inr ⟨j, by omega, h2, h3⟩
/-- the nearest card has as many words in common as told -/
theorem near_told {l : List Crd} {n : Int} (h : nearB l n = true) : cwG l n (nearV l n).1 = true ∧ ((cwL l n (nearV l n).1).length : Int) = (nearV l n).2 ∧ (nearV l n).1 ≠ n := by
  obtain ⟨i, hi, hc, hA, h2, hid, hv⟩ := nearB_yes h
  rw [hv]
  rcases nearTo_at l i l.length with ⟨-, h1⟩ | ⟨j, hj, hne, e⟩
  · exfalso
    have e0 := h1 0 (by omega)
    have e1 := h1 1 (by omega)
    omega
  · rw [e]
    dsimp only
    obtain ⟨j', hj', e1, e2⟩ := crdIdx_of hA (gd l j) (gd_mem hj)
    obtain rfl : j' = j := (crd_id_iff hA hj hj').1 (by rw [e1])
    have hg : cwG l n (gd l j').id = true := by simp [cwG, hA, hc, e2]
    refine ⟨hg, ?_, fun e3 => hne ((crd_id_iff hA hi hj).1 (by rw [e3, hid]))⟩
    obtain ⟨a, b, ha, hb, -, h3, h4, h5⟩ := cw_some hg
    rw [hc] at h3
    rw [e2] at h4
    cases h3
    cases h4
    rw [h5, nCom_sym hA hi hj]
/-- a rare word is on one card -/
theorem rare_one {l : List Crd} {i : Nat} (hi : i < (rwL l).length) : wcG l (gd (rwL l) i) = true ∧ wcN l (gd (rwL l) i) = 1 := by
  have hm := gd_mem hi
  generalize gd (rwL l) i = w at hm ⊢
  by_cases hA : areCrd l = true
  · rw [rwL, if_pos hA, rwS] at hm
    obtain ⟨h1, h2⟩ := List.mem_filter.1 ((sortS_perm _).mem_iff.1 hm)
    obtain ⟨x, hx, hw⟩ := List.mem_flatMap.1 h1
    obtain ⟨j, hj, e⟩ := gd_of hx
    subst e
    obtain ⟨k, hk, e⟩ := gd_of hw
    have hW : wordB w = true := by rw [← e]; exact crd_word hA j hj k hk
    refine ⟨by simp [wcG, hA, hW], ?_⟩
    have := rare_wc hA hW
    rw [h2] at this
    simpa using this
  · rw [rwL, if_neg hA] at hm
    cases hm
theorem wd_size {s : ByteArray} (h : wordB s = true) : s.size ≤ 10 := by
  simp only [wordB, Bool.and_eq_true, inB_iff] at h
  omega
theorem rare_size {l : List Crd} {i : Nat} (hi : i < (rwL l).length) : (gd (rwL l) i).size ≤ 10 := by
  have h := (rare_one hi).1
  simp only [wcG, Bool.and_eq_true] at h
  exact wd_size h.2
theorem wcN_range (l : List Crd) (s : ByteArray) : 0 ≤ wcN l s ∧ wcN l s ≤ (l.length : Int) := by
  have h := pickG_len (wcP l s) (gd l) l.length
  unfold wcN
  split
  · unfold wcL
    omega
  · omega
/-- the same, of the list that was handed back -/
theorem aw_done {l L : List Crd} {n : Int} {w : ByteArray} (e : L.map Crd.bare = awB l n w) (hs : ∀ i, i < l.length → StrE.Fits (gd l i).sub) (hw : w.size ≤ maxLen) (h : awG l n w = true) :
    wcG l w = true ∧ wcG L w = true ∧ wcN L w = wcN l w + 1 ∧ ctG L [w] = true ∧ hasI (ctL L [w]) n = true ∧ ((ctL L [w]).length : Int) = wcN l w + 1 ∧ ∀ i, i < L.length → StrE.Fits (gd L i).sub := by
  obtain ⟨h1, h2, h3, h4, h5, h6⟩ := aw_found h
  have e2 : L.map Crd.bare = (awB l n w).map Crd.bare := by
    rw [← e, List.map_map]
    exact List.map_congr_left (fun x _ => rfl)
  obtain ⟨c1, c2⟩ := ct_same e2 [w]
  obtain ⟨d1, -, d3⟩ := wc_same e2 w
  obtain ⟨i, hi, -, -, -, -, e3⟩ := aw_yes h
  rw [c1, c2, d1, d3]
  exact ⟨h1, h2, h3, h4, h5, by rw [h6, h3], awO_fits' hs hw hi (e.trans e3)⟩
end Go.Proofs.YteainpflmofjaaaGreat
