/- Cards: a word added: the plain laws. No program in sight. -/
import Derived.Test.YteainpflmofjaaaGreatSo24
import Derived.Test.YteainpflmofjaaaGreatRs24
import Derived.Test.YteainpflmofjaaaGreatNw24
import Derived.Test.YteainpflmofjaaaGreatPu24
namespace Go.Proofs.YteainpflmofjaaaGreat
open Go.RowKit
theorem ltS_iff {x y : ByteArray} : ltS x y = true ↔ bts x < bts y := less_iff x y
theorem ltS_no {x y : ByteArray} (h : ¬ bts x < bts y) : ltS x y = false := by
  cases e : ltS x y
  · rfl
  · exact absurd (ltS_iff.1 e) h
def insW (w : ByteArray) (l : List ByteArray) : List ByteArray := sortS (l ++ [w])
theorem up_pairwise {l : List ByteArray} (h : ∀ i, i < l.length → upAt l i = true) : l.Pairwise (fun x y => bts x < bts y) := by
  rw [List.pairwise_iff_getElem]
  intro i j hi hj hij
  have := up_lt h j hj i hij
  rw [gd_get hi, gd_get hj] at this
  exact (less_iff _ _).1 this
theorem lt_tri (a b : List UInt8) : a < b ∨ a = b ∨ b < a := by
  by_cases h : a < b
  · exact .inl h
  · by_cases h2 : b < a
    · exact .inr (.inr h2)
    · exact .inr (.inl (List.le_antisymm (List.not_lt.1 h2) (List.not_lt.1 h)))
theorem lt_not (a b : List UInt8) (h : a < b) : ¬ b < a := fun h2 => List.lt_irrefl a (List.lt_trans h h2)
theorem putW_perm (w : ByteArray) (l : List ByteArray) (h : w ∉ l) : (putW w l).Perm (l ++ [w]) := by
  have e : l.filter (fun x => ltS w x) = l.filter (fun x => !ltS x w) := by
    apply List.filter_congr
    intro x hx
    rcases lt_tri (bts x) (bts w) with h1 | h1 | h1
    · rw [ltS_iff.2 h1, ltS_no (lt_not _ _ h1)]; rfl
    · exact absurd (bts_inj h1 ▸ hx) h
    · rw [ltS_iff.2 h1, ltS_no (lt_not _ _ h1)]; rfl
  rw [putW, e]
  have := List.filter_append_perm (fun x => ltS x w) l
  refine List.Perm.trans ?_ (this.append_right [w])
  rw [List.append_assoc, List.append_assoc]
  exact List.Perm.append_left _ (List.perm_append_comm)
theorem putW_sorted (w : ByteArray) (l : List ByteArray) (h : l.Pairwise (fun x y => bts x < bts y)) : (putW w l).Pairwise (fun x y => bts x < bts y) := by
  rw [putW, List.pairwise_append, List.pairwise_append]
  refine ⟨⟨h.filter _, List.pairwise_singleton _ _, fun a ha b hb => ?_⟩, h.filter _, fun a ha b hb => ?_⟩
  · rw [List.mem_singleton] at hb
    subst hb
    exact ltS_iff.1 (List.mem_filter.1 ha).2
  · have hb' := ltS_iff.1 (List.mem_filter.1 hb).2
    rw [List.mem_append, List.mem_singleton] at ha
    rcases ha with ha | rfl
    · exact List.lt_trans (ltS_iff.1 (List.mem_filter.1 ha).2) hb'
    · exact hb'
theorem insW_put (w : ByteArray) (l : List ByteArray) (h : l.Pairwise (fun x y => bts x < bts y)) (hw : w ∉ l) : insW w l = putW w l :=
  sortS_eq _ _ (putW_perm w l hw) ((putW_sorted w l h).imp (fun {_ _} hab => List.le_of_lt hab))
theorem hasW_mem {l : List ByteArray} {w : ByteArray} : hasW l w = true ↔ w ∈ l := by
  rw [hasW_iff, List.mem_map]
  constructor
  · rintro ⟨x, hx, e⟩
    rw [ByteArray.toList_eq, ByteArray.toList_eq] at e
    have : x = w := bts_inj e
    exact this ▸ hx
  · exact fun h => ⟨w, h, rfl⟩
/-- a word twice is in no card -/
theorem insW_twice (w : ByteArray) (l : List ByteArray) (h : w ∈ l) : ¬ ((insW w l).map ByteArray.toList).Nodup := by
  intro hn
  have h1 : (insW w l).Nodup := by
    rw [List.nodup_iff_pairwise_ne, List.pairwise_map] at hn
    rw [List.nodup_iff_pairwise_ne]
    exact hn.imp (fun {_ _} h e => h (by rw [e]))
  have h2 : (l ++ [w]).Nodup := (sortS_perm (l ++ [w])).nodup_iff.1 h1
  rw [List.nodup_append] at h2
  exact h2.2.2 w h w (by simp) rfl
theorem crd_up {l : List Crd} (h : areCrd l = true) (i : Nat) (hi : i < l.length) : (gd l i).sub.Pairwise (fun x y => bts x < bts y) := by
  simp only [areCrd, Bool.and_eq_true] at h
  have := allTo_iff.1 h.1 i hi
  simp only [crdAt, Bool.and_eq_true, isCrd_words] at this
  exact up_pairwise (allTo_iff.1 this.1.2)
/-! ### the list with a word added to card i -/
def awX (f : List ByteArray → List ByteArray) (x : Crd) : Crd := ⟨x.id, x.yr, none, 0, f x.sub⟩
def awAt (f : List ByteArray → List ByteArray) (l : List Crd) (i j : Nat) : Crd := if j = i then awX f (gd l j) else (gd l j).bare
def awO (f : List ByteArray → List ByteArray) (l : List Crd) (i k : Nat) : List Crd := (List.range k).map (awAt f l i)
theorem awO_len (f : List ByteArray → List ByteArray) (l : List Crd) (i k : Nat) : (awO f l i k).length = k := by simp [awO]
theorem awO_at (f : List ByteArray → List ByteArray) (l : List Crd) (i k j : Nat) (h : j < k) : gd (awO f l i k) j = awAt f l i j := by simp [awO, gd, h]
theorem awO_succ (f : List ByteArray → List ByteArray) (l : List Crd) (i k : Nat) : awO f l i (k + 1) = awO f l i k ++ [awAt f l i k] := by simp [awO, List.range_succ]
theorem awO_congr {f f' : List ByteArray → List ByteArray} {l : List Crd} {i k : Nat} (h : f (gd l i).sub = f' (gd l i).sub) : awO f l i k = awO f' l i k := by
  apply List.map_congr_left
  intro j _
  unfold awAt
  split
  · rename_i e; subst e; rw [awX, awX, h]
  · rfl
theorem awO_same {l l' : List Crd} (h : l'.map Crd.bare = l.map Crd.bare) (f : List ByteArray → List ByteArray) (i : Nat) : awO f l' i l.length = awO f l i l.length := by
  apply List.map_congr_left
  intro j hj
  have e := (map_same_at h j (by simpa using hj)).2
  unfold awAt
  split
  · obtain ⟨a, b, c⟩ := Crd.sub_eq e
    rw [awX, awX, a, b, c]
  · exact e
/-- the card with a word twice is no card -/
theorem awO_twice {l : List Crd} {i : Nat} (hi : i < l.length) {w : ByteArray} (h : w ∈ (gd l i).sub) : areCrd (awO (insW w) l i l.length) = false := by
  cases e : areCrd (awO (insW w) l i l.length)
  · rfl
  · have := crd_nodup e i (by rw [awO_len]; exact hi)
    rw [awO_at _ _ _ _ _ hi, awAt, if_pos rfl] at this
    exact absurd this (insW_twice w _ h)
def awG (l : List Crd) (n : Int) (w : ByteArray) : Bool := match crdIdx l n with
  | none => false
  | some i => areCrd l && !hasW (gd l i).sub w && areCrd (awO (putW w) l i l.length)
def awB (l : List Crd) (n : Int) (w : ByteArray) : List Crd := match crdIdx l n with
  | none => []
  | some i => if awG l n w then awO (putW w) l i l.length else []
theorem aw_same {l l' : List Crd} (h : l'.map Crd.bare = l.map Crd.bare) (n : Int) (w : ByteArray) : awB l' n w = awB l n w ∧ awG l' n w = awG l n w := by
  have hl : l'.length = l.length := by simpa using congrArg List.length h
  have hg : awG l' n w = awG l n w := by
    unfold awG
    rw [crdIdx_same h]
    cases hc : crdIdx l n with
    | none => rfl
    | some i =>
      have hi : i < l.length := (findTo_spec hc).1
      simp only
      rw [areCrd_same h, (crd_same h i hi).2.2.1, hl, awO_same h]
  refine ⟨?_, hg⟩
  unfold awB
  rw [crdIdx_same h]
  cases hc : crdIdx l n with
  | none => rfl
  | some i =>
    simp only
    rw [hg, hl, awO_same h]
theorem putW_len (w : ByteArray) (l : List ByteArray) : (putW w l).length ≤ 2 * l.length + 1 := by
  have h1 := List.length_filter_le (fun x => ltS x w) l
  have h2 := List.length_filter_le (fun x => ltS w x) l
  simp only [putW, List.length_append, List.length_singleton]
  omega
theorem awB_bound (l : List Crd) (n : Int) (w : ByteArray) : (awB l n w).length ≤ 1048577 ∧ ∀ i, i < (awB l n w).length → (gd (awB l n w) i).sub.length ≤ 1048577 := by
  unfold awB
  cases hc : crdIdx l n with
  | none => exact ⟨by simp, fun i hi => by simp at hi⟩
  | some i =>
    simp only
    split
    · rename_i hg
      have hA : areCrd l = true := by
        simp only [awG, hc, Bool.and_eq_true] at hg; exact hg.1.1
      have h12 : l.length ≤ 12 := by have h1c := hA; simp [areCrd] at h1c; exact h1c.2
      rw [awO_len]
      refine ⟨by omega, fun j hj => ?_⟩
      have h6 := crd_six hA j hj
      rw [awO_at _ _ _ _ _ hj, awAt]
      split
      · have := putW_len w (gd l j).sub
        show (putW w (gd l j).sub).length ≤ _
        omega
      · show (gd l j).sub.length ≤ _
        omega
    · exact ⟨by simp, fun i hi => by simp at hi⟩
/-- the ways: no such card, no cards; else what the program has put is what the reference has, or neither is a card -/
theorem aw_imp {l : List Crd} {n : Int} {w : ByteArray} {i : Nat} (hc : crdIdx l n = some i) (hA : areCrd l = true) : awG l n w = areCrd (awO (insW w) l i l.length) ∧ awB l n w = if areCrd (awO (insW w) l i l.length) then awO (insW w) l i l.length else [] := by
  have hi : i < l.length := (findTo_spec hc).1
  cases hw : hasW (gd l i).sub w
  · have hm : w ∉ (gd l i).sub := fun h => by rw [hasW_mem.2 h] at hw; cases hw
    have e : awO (insW w) l i l.length = awO (putW w) l i l.length := awO_congr (insW_put w _ (crd_up hA i hi) hm)
    have hg : awG l n w = areCrd (awO (putW w) l i l.length) := by simp [awG, hc, hA, hw]
    refine ⟨by rw [hg, e], ?_⟩
    unfold awB
    rw [hc]
    simp only
    rw [hg, e]
  · have e := awO_twice hi (hasW_mem.1 hw)
    have hg : awG l n w = false := by simp [awG, hc, hA, hw]
    refine ⟨by rw [hg, e], ?_⟩
    unfold awB
    rw [hc]
    simp only
    rw [hg, e]
    rfl
end Go.Proofs.YteainpflmofjaaaGreat
