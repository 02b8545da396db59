/- Issues: spans lie apart, what is never true has none, a change is one, an issue that has ended ends (plain law). No condition. -/
import Derived.Test.YthibchaiaedboaaDoorTp20
namespace Go.Proofs.YthibchaiaedboaaDoor
open Go.RowKit
theorem gd_setD {α : Type} [Inhabited α] (o : List α) (j i : Nat) (y : α) : gd (o.set j y) i = if j = i ∧ j < o.length then y else gd o i := by
  simp only [gd, List.getD, List.getElem?_set]
  by_cases h : j = i
  · subst h
    by_cases h2 : j < o.length
    · simp [h2]
    · simp [h2]
  · simp [h]
theorem gd_mem {α : Type} [Inhabited α] {l : List α} {i : Nat} (h : i < l.length) : gd l i ∈ l := by rw [gd_get h]; exact List.getElem_mem h
/-- spans: each begins and ends on a day on which the issue is true, and a day lies between two of them -/
structure SpOk (l : List Iss) (x : Iss) (k : Nat) (o : List (Int × Int)) : Prop where
  one : ∀ i, i < o.length → trueN l x.s (gd o i).1 = x.n ∧ trueN l x.s (gd o i).2 = x.n ∧ x.fr ≤ (gd o i).1 ∧ (gd o i).1 ≤ (gd o i).2 ∧ (gd o i).2 < x.fr + (k : Int)
  gap : ∀ i, i + 1 < o.length → (gd o i).2 + 1 < (gd o (i + 1)).1
theorem SpOk.put {l : List Iss} {x : Iss} {k : Nat} {o : List (Int × Int)} (h : SpOk l x k o) (hd : dayOn l x k = true) : SpOk l x (k + 1) (spanPut o (x.fr + (k : Int))) := by
  have hd : trueN l x.s (x.fr + (k : Int)) = x.n := by simpa [dayOn] using hd
  by_cases hc : 0 < o.length ∧ (gd o (o.length - 1)).2 = x.fr + (k : Int) - 1
  · rw [spanPut_set hc.1 hc.2]
    refine ⟨fun i hi => ?_, fun i hi => ?_⟩
    · rw [List.length_set] at hi
      have h1 := h.one i hi
      rw [gd_setD]
      split
      · rename_i e
        obtain ⟨rfl, _⟩ := e
        exact ⟨h1.1, hd, h1.2.2.1, by simp only; omega, by simp only; omega⟩
      · exact ⟨h1.1, h1.2.1, h1.2.2.1, h1.2.2.2.1, by omega⟩
    · rw [List.length_set] at hi
      have h1 := h.gap i hi
      rw [gd_setD, if_neg (by omega), gd_setD]
      split
      · rename_i e
        obtain ⟨e, _⟩ := e
        rw [← e] at h1
        exact h1
      · exact h1
  · rw [spanPut_new hc]
    have hlast : ∀ i, i < o.length → gd (o ++ [(x.fr + (k : Int), x.fr + (k : Int))]) i = gd o i := fun i hi => gd_append hi
    refine ⟨fun i hi => ?_, fun i hi => ?_⟩
    · rw [List.length_append, List.length_singleton] at hi
      by_cases e : i = o.length
      · subst e
        rw [gd_append_last]
        exact ⟨hd, hd, by simp only; omega, Int.le_refl _, by simp only; omega⟩
      · have h1 := h.one i (by omega)
        rw [hlast i (by omega)]
        exact ⟨h1.1, h1.2.1, h1.2.2.1, h1.2.2.2.1, by omega⟩
    · rw [List.length_append, List.length_singleton] at hi
      by_cases e : i + 1 = o.length
      · rw [hlast i (by omega), e, gd_append_last]
        have h1 := h.one i (by omega)
        have h2 : ¬ (gd o (o.length - 1)).2 = x.fr + (k : Int) - 1 := fun h3 => hc ⟨by omega, h3⟩
        have e2 : o.length - 1 = i := by omega
        rw [e2] at h2
        simp only
        omega
      · rw [hlast i (by omega), hlast (i + 1) (by omega)]
        exact h.gap i (by omega)
theorem spansTo_ok (l : List Iss) (x : Iss) : ∀ k, SpOk l x k (spansTo l x k)
  | 0 => ⟨fun i hi => by simp [spansTo] at hi, fun i hi => by simp [spansTo] at hi⟩
  | k + 1 => by
    have ih := spansTo_ok l x k
    cases hd : dayOn l x k
    · rw [spansTo_no hd]
      exact ⟨fun i hi => by have := ih.one i hi; omega, ih.gap⟩
    · rw [spansTo_yes hd]
      exact ih.put hd
/-- what the told spans are -/
theorem td_at {l : List Iss} {s n : Int} {i : Nat} (hi : i < (tdR l s n).length) : trueI l s (gd (tdR l s n) i).1 = n ∧ trueI l s (gd (tdR l s n) i).2 = n ∧ 0 < n ∧ 0 ≤ (gd (tdR l s n) i).1 ∧ (gd (tdR l s n) i).2 ≤ 4000 ∧ (gd (tdR l s n) i).1 ≤ (gd (tdR l s n) i).2 ∧
    (0 < i → (gd (tdR l s n) (i - 1)).2 + 1 < (gd (tdR l s n) i).1) := by
  cases hA : areIss l
  · rw [(tdR_no hA).1] at hi; simp at hi
  cases hf : issFind l s n with
  | none => rw [(tdR_none hf).1] at hi; simp at hi
  | some k =>
    obtain ⟨hk, rfl, rfl⟩ := issFind_some hf
    rw [(tdR_yes hA hf).1] at hi ⊢
    have hx := areIss_ok hA k hk
    have hb := issOk_b hx
    have ok := spansTo_ok l (gd l k) (daysN (gd l k))
    obtain ⟨h1, h2, h3, h4, h5⟩ := ok.one i hi
    have hN : (daysN (gd l k) : Int) = (gd l k).un - (gd l k).fr + 1 := by unfold daysN; omega
    rw [hN] at h5
    have g1 : sdGood l (gd l k).s (gd (spansTo l (gd l k) (daysN (gd l k))) i).1 = true := by
      simp only [sdGood, Bool.and_eq_true, inB_iff]; exact ⟨⟨hA, by omega⟩, by omega⟩
    have g2 : sdGood l (gd l k).s (gd (spansTo l (gd l k) (daysN (gd l k))) i).2 = true := by
      simp only [sdGood, Bool.and_eq_true, inB_iff]; exact ⟨⟨hA, by omega⟩, by omega⟩
    unfold spans
    refine ⟨by rw [trueI_yes g1]; exact h1, by rw [trueI_yes g2]; exact h2, by omega, by omega, by omega, h4, fun h0 => ?_⟩
    have := ok.gap (i - 1) (by unfold spans at hi; omega)
    rwa [show i - 1 + 1 = i by omega] at this
/-- an issue is told as never true where it has no span -/
def ntHas (l : List Iss) (s n : Int) (k : Nat) : Bool := !allTo (fun i => !(decide ((gd (ntR l) i).1 = s) && decide ((gd (ntR l) i).2 = n))) k
theorem ntHas_iff {l : List Iss} {s n : Int} {k : Nat} : ntHas l s n k = true ↔ ∃ i, i < k ∧ gd (ntR l) i = (s, n) := by
  unfold ntHas
  constructor
  · intro h
    cases ha : allTo (fun i => !(decide ((gd (ntR l) i).1 = s) && decide ((gd (ntR l) i).2 = n))) k
    · have hn : ¬ ∀ i, i < k → (!(decide ((gd (ntR l) i).1 = s) && decide ((gd (ntR l) i).2 = n))) = true := fun hh => by rw [allTo_true hh] at ha; cases ha
      rcases Classical.not_forall.1 hn with ⟨i, hi⟩
      rcases Classical.not_imp.1 hi with ⟨h1, h2⟩
      refine ⟨i, h1, ?_⟩
      simp only [Bool.not_eq_true, Bool.not_eq_false', Bool.and_eq_true, decide_eq_true_eq] at h2
      exact Prod.ext h2.1 h2.2
    · rw [ha] at h; cases h
  · rintro ⟨i, h1, h2⟩
    rw [allTo_false i h1 (by simp [h2])]; rfl
theorem ntHas_zero (l : List Iss) (s n : Int) : ntHas l s n 0 = false := by simp [ntHas, allTo]
theorem ntHas_succ (l : List Iss) (s n : Int) (k : Nat) : ntHas l s n (k + 1) = (ntHas l s n k || (decide ((gd (ntR l) k).1 = s) && decide ((gd (ntR l) k).2 = n))) := by
  rw [Bool.eq_iff_iff, Bool.or_eq_true, ntHas_iff, ntHas_iff]
  constructor
  · rintro ⟨i, h1, h2⟩
    rcases Nat.lt_or_eq_of_le (Nat.lt_succ_iff.1 h1) with h3 | rfl
    · exact .inl ⟨i, h3, h2⟩
    · exact .inr (by simp [h2])
  · rintro (⟨i, h1, h2⟩ | h)
    · exact ⟨i, by omega, h2⟩
    · simp only [Bool.and_eq_true, decide_eq_true_eq] at h
      exact ⟨k, by omega, Prod.ext h.1 h.2⟩
theorem nt_td {l : List Iss} {s n : Int} (h : tdGood l s n = true) : ntHas l s n (ntR l).length = decide ((tdR l s n).length = 0) := by
  have hA : areIss l = true := by simp only [tdGood, Bool.and_eq_true] at h; exact h.1
  cases hf : issFind l s n with
  | none => rw [(tdR_none hf).2] at h; cases h
  | some k =>
    obtain ⟨hk, hs, hn⟩ := issFind_some hf
    rw [Bool.eq_iff_iff, ntHas_iff, decide_eq_true_eq, (tdR_yes hA hf).1, ntR_yes hA]
    constructor
    · rintro ⟨i, hi, he⟩
      have hm := gd_mem hi
      rw [he] at hm
      obtain ⟨j, hj, h1, h2⟩ := selTo_mem.1 hm
      simp only [prOf, Prod.mk.injEq] at h2
      have h3 := issFind_at hA hj h2.1.symm h2.2.symm
      rw [hf] at h3
      obtain rfl := Option.some.inj h3
      simpa [ntAt] using h1
    · intro h0
      have hm : (s, n) ∈ ntTo l l.length := selTo_mem.2 ⟨k, hk, by simp [ntAt, h0], by rw [prOf, hs, hn]⟩
      obtain ⟨i, hi, he⟩ := List.mem_iff_getElem.1 hm
      exact ⟨i, hi, by rw [gd_get hi, he]⟩
/-- on a day that is told as one of change, another issue is true than on the day before -/
theorem chgs_mem {l : List Iss} {s d : Int} : ∀ {k : Nat}, d ∈ chgs l s k → ∃ i, i < k ∧ chgAt l s i = true ∧ d = (i : Int) + 1
  | 0, h => by simp [chgs] at h
  | k + 1, h => by
    cases hc : chgAt l s k
    · rw [chgs_no hc] at h
      obtain ⟨i, h1, h2, h3⟩ := chgs_mem h
      exact ⟨i, by omega, h2, h3⟩
    · rw [chgs_yes hc] at h
      rcases List.mem_append.1 h with h1 | h1
      · obtain ⟨i, h1, h2, h3⟩ := chgs_mem h1
        exact ⟨i, by omega, h2, h3⟩
      · exact ⟨k, by omega, hc, by simpa using h1⟩
theorem chg_at {l : List Iss} {s : Int} {i : Nat} (hi : i < (chgR l s).length) : 1 ≤ gd (chgR l s) i ∧ gd (chgR l s) i ≤ 4000 ∧ ¬ trueI l s (gd (chgR l s) i - 1) = trueI l s (gd (chgR l s) i) := by
  cases hg : chgGood l s
  · rw [chgR_no hg] at hi; simp at hi
  have hm := gd_mem hi
  rw [chgR_yes hg] at hm ⊢
  obtain ⟨k, h1, h2, h3⟩ := chgs_mem hm
  have hg2 := hg
  simp only [chgGood, Bool.and_eq_true] at hg2
  rw [h3, show (k : Int) + 1 - 1 = (k : Int) by omega, trueI_yes (by simp only [sdGood, Bool.and_eq_true, inB_iff, hg2.1, true_and]; exact ⟨inB_iff.1 hg2.2, by omega⟩),
    trueI_yes (by simp only [sdGood, Bool.and_eq_true, inB_iff, hg2.1, true_and]; exact ⟨inB_iff.1 hg2.2, by omega⟩)]
  refine ⟨by omega, by omega, fun e => ?_⟩
  simp [chgAt, e] at h2
/-- an issue that has ended on a day ends on it again -/
theorem end_again {l : List Iss} {s n d : Int} (h : endGood l s n d = true) : endGood (endR l s n d) s n d = true ∧ endR (endR l s n d) s n d = endR l s n d := by
  have hA : areIss l = true := by simp only [endGood, Bool.and_eq_true] at h; exact h.1
  cases hf : issFind l s n with
  | none => rw [end_miss hf] at h; cases h
  | some k =>
    obtain ⟨hk, hs, hn⟩ := issFind_some hf
    have hd := h
    rw [end_hit hA hf, inB_iff] at hd
    rw [endR_yes hf h]
    have hb := issOk_b (areIss_ok hA k hk)
    have hgs : ∀ i, gd (l.set k ⟨s, n, (gd l k).fr, d⟩) i = if k = i ∧ k < l.length then ⟨s, n, (gd l k).fr, d⟩ else gd l i := fun i => gd_setD _ _ _ _
    have key : ∀ i, (gd (l.set k ⟨s, n, (gd l k).fr, d⟩) i).s = (gd l i).s ∧ (gd (l.set k ⟨s, n, (gd l k).fr, d⟩) i).n = (gd l i).n := fun i => by
      rw [hgs]
      split
      · rename_i e
        obtain ⟨rfl, _⟩ := e
        exact ⟨hs.symm, hn.symm⟩
      · exact ⟨rfl, rfl⟩
    have hA2 : areIss (l.set k ⟨s, n, (gd l k).fr, d⟩) = true := by
      rw [areIss_end]
      · rw [List.length_set]; exact decide_eq_true (areIss_len hA)
      · intro i hi
        rw [List.length_set] at hi
        have h1 := areIss_ok hA i hi
        have h3 := hA
        simp only [areIss, Bool.and_eq_true, allTo_iff] at h3
        have h2 := h3.1 i hi
        simp only [issAt, Bool.and_eq_true, Bool.or_eq_true, beq_iff_eq, issLt_iff] at h2 ⊢
        refine ⟨?_, ?_⟩
        · rw [hgs]
          split
          · exact issOk_of (by simp only; omega)
          · exact h1
        · rcases h2.2 with h4 | h4
          · exact .inl h4
          · refine .inr ?_
            rw [(key i).1, (key i).2, (key (i - 1)).1, (key (i - 1)).2]
            exact h4
    have hk2 : k < (l.set k ⟨s, n, (gd l k).fr, d⟩).length := by rw [List.length_set]; exact hk
    have hgk : gd (l.set k ⟨s, n, (gd l k).fr, d⟩) k = ⟨s, n, (gd l k).fr, d⟩ := by rw [hgs, if_pos ⟨rfl, hk⟩]
    have hf2 := issFind_at hA2 hk2 (s := s) (n := n) (by rw [hgk]) (by rw [hgk])
    have hG : endGood (l.set k ⟨s, n, (gd l k).fr, d⟩) s n d = true := by
      rw [end_hit hA2 hf2, hgk, inB_iff]
      exact ⟨hd.1, Int.le_refl _⟩
    refine ⟨hG, ?_⟩
    rw [endR_yes hf2 hG, hgk, List.set_set]
/-! ### what the law FnIssues says -/
theorem selTo_pair {α : Type} {f : Nat → Bool} {g : Nat → α} {R : α → α → Prop} : ∀ {k : Nat}, (∀ i j, i < j → j < k → f i = true → f j = true → R (g i) (g j)) → (selTo f g k).Pairwise R
  | 0, _ => by simp [selTo]
  | k + 1, h => by
    have ih := selTo_pair (R := R) (k := k) (fun i j h1 h2 => h i j h1 (by omega))
    cases hf : f k
    · rw [selTo_no hf]; exact ih
    · rw [selTo_yes hf, List.pairwise_append]
      refine ⟨ih, by simp, fun a ha b hb => ?_⟩
      obtain ⟨i, h1, h2, rfl⟩ := selTo_mem.1 ha
      obtain rfl : b = g k := by simpa using hb
      exact h i k h1 (by omega) h2 hf
theorem pair_gd {α : Type} [Inhabited α] {R : α → α → Prop} {l : List α} (h : l.Pairwise R) {i j : Nat} (hij : i < j) (hj : j < l.length) : R (gd l i) (gd l j) := by
  rw [gd_get (by omega : i < l.length), gd_get hj]
  exact List.pairwise_iff_getElem.1 h i j (by omega) hj hij
theorem ts_at {l : List Iss} {d : Int} {i : Nat} (hi : i < (tsR l d).length) : trueI l (gd (tsR l d) i).1 d = (gd (tsR l d) i).2 ∧ 0 < (gd (tsR l d) i).2 ∧ (0 < i → (gd (tsR l d) (i - 1)).1 < (gd (tsR l d) i).1) := by
  cases hg : tsGood l d
  · rw [tsR_no hg] at hi; simp at hi
  have hg2 := hg
  simp only [tsGood, Bool.and_eq_true] at hg2
  have hm := gd_mem hi
  rw [tsR_yes hg] at hm hi ⊢
  obtain ⟨j, h1, h2, h3⟩ := selTo_mem.1 hm
  have hb := issOk_b (areIss_ok hg2.1 j h1)
  have h2' : trueN l (gd l j).s d = (gd l j).n := by simpa [tsAt] using h2
  refine ⟨?_, ?_, fun h0 => ?_⟩
  · rw [h3]
    show trueI l (gd l j).s d = (gd l j).n
    rw [trueI_yes (by simp only [sdGood, Bool.and_eq_true, inB_iff, hg2.1, true_and]; exact ⟨by omega, inB_iff.1 hg2.2⟩)]
    exact h2'
  · rw [h3]; show 0 < (gd l j).n; omega
  · have hij : i - 1 < i := by omega
    refine pair_gd (R := fun a b => a.1 < b.1) (l := tsTo l d l.length) (selTo_pair fun a b hab hb2 fa fb => ?_) hij hi
    have h4 := areIss_lt hg2.1 a b hab hb2
    rw [issLt_iff] at h4
    have e1 : trueN l (gd l a).s d = (gd l a).n := by simpa [tsAt] using fa
    have e2 : trueN l (gd l b).s d = (gd l b).n := by simpa [tsAt] using fb
    show (gd l a).s < (gd l b).s
    rcases h4 with h4 | ⟨h4, h5⟩
    · exact h4
    · rw [h4] at e1; omega
theorem gap_at {l : List Iss} {s f u : Int} (h : (gapK l s f u).isSome = true) : trueI l s (gapD l s f u) = 0 ∧ f ≤ gapD l s f u ∧ gapD l s f u ≤ u := by
  cases hk : gapK l s f u with
  | none => rw [hk] at h; cases h
  | some k =>
    cases hg : gapGood l s f u
    · rw [gapK_no hg] at hk; cases hk
    have hg2 := gapGood_b hg
    have hg3 := hg
    simp only [gapGood, Bool.and_eq_true] at hg3
    have hk2 := hk
    rw [gapK, if_pos hg] at hk2
    obtain ⟨h1, h2, _⟩ := findTo_spec hk2
    rw [(gapD_some hk).1]
    refine ⟨?_, by omega, by omega⟩
    rw [trueI_yes (by simp only [sdGood, Bool.and_eq_true, inB_iff, hg3.1.1.1, true_and]; exact ⟨inB_iff.1 hg3.1.1.2, by omega⟩)]
    simpa [gapAt] using h2
theorem put_are {l : List Iss} {x : Iss} (h : putGood l x = true) : areIss (putR l x) = true := by
  rw [putR_yes h]
  simp only [putGood, Bool.and_eq_true] at h
  exact h.2
end Go.Proofs.YthibchaiaedboaaDoor
