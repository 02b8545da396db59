/- Issues: pairs of those that are true, spans of days (plain law). No condition. -/
import Derived.Test.YthibchaiaedboaaDoorSel
import Derived.Test.YthibchaiaedboaaDoorIp20
namespace Go.Proofs.YthibchaiaedboaaDoor
open Go.RowKit
def prOf (x : Iss) : Int × Int := (x.s, x.n)
def tsGood (l : List Iss) (d : Int) : Bool := areIss l && inB d 0 4000
def tsAt (l : List Iss) (d : Int) (i : Nat) : Bool := decide (trueN l (gd l i).s d = (gd l i).n)
def tsTo (l : List Iss) (d : Int) (k : Nat) : List (Int × Int) := selTo (tsAt l d) (fun i => prOf (gd l i)) k
def tsR (l : List Iss) (d : Int) : List (Int × Int) := if tsGood l d then tsTo l d l.length else []
theorem tsR_no {l : List Iss} {d : Int} (h : tsGood l d = false) : tsR l d = [] := by simp [tsR, h]
theorem tsR_yes {l : List Iss} {d : Int} (h : tsGood l d = true) : tsR l d = tsTo l d l.length := by simp [tsR, h]
theorem tsTo_len (l : List Iss) (d : Int) (k : Nat) : (tsTo l d k).length ≤ k := selTo_len _ _ _
theorem tsR_len (l : List Iss) (d : Int) : (tsR l d).length ≤ 10000000 := by
  unfold tsR
  split
  · rename_i h
    have h1 := tsTo_len l d l.length
    have h2 : l.length ≤ 16 := areIss_len (by simp only [tsGood, Bool.and_eq_true] at h; exact h.1)
    omega
  · simp
/-! ### spans -/
/-- one more day -/
def spanPut (o : List (Int × Int)) (d : Int) : List (Int × Int) := if 0 < o.length ∧ (gd o (o.length - 1)).2 = d - 1 then o.set (o.length - 1) ((gd o (o.length - 1)).1, d) else o ++ [(d, d)]
theorem spanPut_set {o : List (Int × Int)} {d : Int} (h0 : 0 < o.length) (h : (gd o (o.length - 1)).2 = d - 1) : spanPut o d = o.set (o.length - 1) ((gd o (o.length - 1)).1, d) := by simp only [spanPut]; rw [if_pos ⟨h0, h⟩]
theorem spanPut_new {o : List (Int × Int)} {d : Int} (h : ¬ (0 < o.length ∧ (gd o (o.length - 1)).2 = d - 1)) : spanPut o d = o ++ [(d, d)] := by simp only [spanPut]; rw [if_neg h]
theorem spanPut_len (o : List (Int × Int)) (d : Int) : o.length ≤ (spanPut o d).length ∧ (spanPut o d).length ≤ o.length + 1 ∧ 0 < (spanPut o d).length := by
  unfold spanPut
  split
  · rename_i h
    simp; exact h.1
  · simp
def dayOn (l : List Iss) (x : Iss) (i : Nat) : Bool := decide (trueN l x.s (x.fr + (i : Int)) = x.n)
def spansTo (l : List Iss) (x : Iss) : Nat → List (Int × Int)
  | 0 => []
  | k + 1 => if dayOn l x k then spanPut (spansTo l x k) (x.fr + (k : Int)) else spansTo l x k
theorem spansTo_yes {l : List Iss} {x : Iss} {k : Nat} (h : dayOn l x k = true) : spansTo l x (k + 1) = spanPut (spansTo l x k) (x.fr + (k : Int)) := by simp [spansTo, h]
theorem spansTo_no {l : List Iss} {x : Iss} {k : Nat} (h : dayOn l x k = false) : spansTo l x (k + 1) = spansTo l x k := by simp [spansTo, h]
theorem spansTo_len (l : List Iss) (x : Iss) : ∀ k, (spansTo l x k).length ≤ k
  | 0 => Nat.le_refl _
  | k + 1 => by
    have := spansTo_len l x k
    unfold spansTo
    split
    · have := spanPut_len (spansTo l x k) (x.fr + (k : Int)); omega
    · omega
/-- how many days an issue has -/
def daysN (x : Iss) : Nat := (x.un - x.fr + 1).toNat
def spans (l : List Iss) (x : Iss) : List (Int × Int) := spansTo l x (daysN x)
theorem daysN_le {x : Iss} (h : issOk x = true) : daysN x ≤ 4001 := by have := issOk_b h; unfold daysN; omega
theorem spans_len {l : List Iss} {x : Iss} (h : issOk x = true) : (spans l x).length ≤ 4001 := Nat.le_trans (spansTo_len l x _) (daysN_le h)
/-- where an issue stands -/
def issFind (l : List Iss) (s n : Int) : Option Nat := findTo (fun i => (gd l i).s == s && (gd l i).n == n) l.length
theorem issFind_some {l : List Iss} {s n : Int} {k : Nat} (h : issFind l s n = some k) : k < l.length ∧ (gd l k).s = s ∧ (gd l k).n = n := by
  have := findTo_spec h
  simp only [Bool.and_eq_true, beq_iff_eq] at this
  exact ⟨this.1, this.2.1⟩
theorem issFind_none {l : List Iss} {s n : Int} (h : issFind l s n = none) : ∀ i, i < l.length → ¬ ((gd l i).s = s ∧ (gd l i).n = n) := fun i hi => by
  have := findTo_none_spec h i hi
  simpa using this
theorem issFind_at {l : List Iss} (hA : areIss l = true) {s n : Int} {k : Nat} (hk : k < l.length) (hs : (gd l k).s = s) (hn : (gd l k).n = n) : issFind l s n = some k := by
  refine findTo_some (fun i hi => ?_) (by simp [hs, hn]) hk
  have := areIss_lt hA i k hi hk
  rw [issLt_iff] at this
  rw [Bool.eq_false_iff]
  simp only [Ne, Bool.and_eq_true, beq_iff_eq]
  omega
/-- what a binary search says of a place -/
def searchAt (l : List Iss) (t : Iss) (k : Nat) : Prop := k ≤ l.length ∧ (0 < k → issCmp (gd l (k - 1)) t < 0) ∧ (k < l.length → 0 ≤ issCmp (gd l k) t)
def searchHit (l : List Iss) (t : Iss) (k : Nat) : Bool := decide (k < l.length) && decide (issCmp (gd l k) t = 0)
theorem search_below {l : List Iss} {t : Iss} {k : Nat} (hA : areIss l = true) (h : searchAt l t k) (i : Nat) (hi : i < k) : issLt (gd l i) t = true := by
  obtain ⟨h1, h2, h3⟩ := h
  have h4 := issCmp_lt.1 (h2 (by omega))
  rcases Nat.lt_or_eq_of_le (show i ≤ k - 1 by omega) with h5 | rfl
  · have := areIss_lt hA i (k - 1) h5 (by omega)
    rw [issLt_iff] at *
    omega
  · exact h4
theorem search_above {l : List Iss} {t : Iss} {k : Nat} (hA : areIss l = true) (h : searchAt l t k) (i : Nat) (hi : k ≤ i) (hl : i < l.length) : issLt (gd l i) t = false := by
  obtain ⟨h1, h2, h3⟩ := h
  have h4 := issCmp_nn.1 (h3 (by omega))
  rw [Bool.eq_false_iff, Ne, issLt_iff] at *
  rcases Nat.lt_or_eq_of_le hi with h5 | rfl
  · have := areIss_lt hA k i h5 hl
    rw [issLt_iff] at this
    omega
  · exact h4
theorem search_hit {l : List Iss} {s n : Int} {k : Nat} {f u : Int} (hA : areIss l = true) (hh : searchHit l ⟨s, n, f, u⟩ k = true) : issFind l s n = some k := by
  simp only [searchHit, Bool.and_eq_true, decide_eq_true_eq, issCmp_eq] at hh
  exact issFind_at hA hh.1 hh.2.1 hh.2.2
theorem search_miss {l : List Iss} {s n : Int} {k : Nat} {f u : Int} (hA : areIss l = true) (h : searchAt l ⟨s, n, f, u⟩ k) (hh : searchHit l ⟨s, n, f, u⟩ k = false) : issFind l s n = none := by
  cases hf : issFind l s n with
  | none => rfl
  | some j =>
    exfalso
    obtain ⟨h1, h2, h3⟩ := issFind_some hf
    have hb := search_below hA h j
    have ha := search_above hA h j
    have hjk : k ≤ j := by
      rcases Nat.lt_or_ge j k with h5 | h5
      · have := hb h5; rw [issLt_iff] at this; simp only at this; omega
      · exact h5
    have hk : k < l.length := by omega
    have h6 := issCmp_nn.1 (h.2.2 hk)
    simp only [searchHit, hk, decide_true, Bool.true_and, decide_eq_false_iff_not, issCmp_eq] at hh
    rw [Bool.eq_false_iff, Ne, issLt_iff] at h6
    simp only at h6 hh
    rcases Nat.lt_or_eq_of_le hjk with h5 | rfl
    · have := areIss_lt hA k j h5 h1
      rw [issLt_iff] at this
      omega
    · omega
def tdGood (l : List Iss) (s n : Int) : Bool := areIss l && (issFind l s n).isSome
def tdR (l : List Iss) (s n : Int) : List (Int × Int) := if areIss l then (match issFind l s n with
  | some k => spans l (gd l k)
  | none => []) else []
theorem tdR_no {l : List Iss} {s n : Int} (h : areIss l = false) : tdR l s n = [] ∧ tdGood l s n = false := by simp [tdR, tdGood, h]
theorem tdR_none {l : List Iss} {s n : Int} (h : issFind l s n = none) : tdR l s n = [] ∧ tdGood l s n = false := by simp [tdR, tdGood, h]
theorem tdR_yes {l : List Iss} {s n : Int} {k : Nat} (h : areIss l = true) (hf : issFind l s n = some k) : tdR l s n = spans l (gd l k) ∧ tdGood l s n = true := by simp [tdR, tdGood, h, hf]
theorem tdR_len (l : List Iss) (s n : Int) : (tdR l s n).length ≤ 10000000 := by
  unfold tdR
  split
  · rename_i h
    split
    · rename_i k hf
      have := spans_len (l := l) (areIss_ok h k (issFind_some hf).1)
      omega
    · simp
  · simp
def ntAt (l : List Iss) (i : Nat) : Bool := decide ((spans l (gd l i)).length = 0)
def ntTo (l : List Iss) (k : Nat) : List (Int × Int) := selTo (ntAt l) (fun i => prOf (gd l i)) k
def ntR (l : List Iss) : List (Int × Int) := if areIss l then ntTo l l.length else []
theorem ntR_no {l : List Iss} (h : areIss l = false) : ntR l = [] := by simp [ntR, h]
theorem ntR_yes {l : List Iss} (h : areIss l = true) : ntR l = ntTo l l.length := by simp [ntR, h]
theorem ntTo_len (l : List Iss) (k : Nat) : (ntTo l k).length ≤ k := selTo_len _ _ _
theorem ntR_len (l : List Iss) : (ntR l).length ≤ 10000000 := by
  unfold ntR
  split
  · rename_i h
    have h1 := ntTo_len l l.length
    have h2 := areIss_len h
    omega
  · simp
/-! ### an issue ends -/
def endGood (l : List Iss) (s n d : Int) : Bool := areIss l && (match issFind l s n with
  | some k => inB d (gd l k).fr (gd l k).un
  | none => false)
def endR (l : List Iss) (s n d : Int) : List Iss := if endGood l s n d then (match issFind l s n with
  | some k => l.set k ⟨s, n, (gd l k).fr, d⟩
  | none => []) else []
theorem endR_no {l : List Iss} {s n d : Int} (h : endGood l s n d = false) : endR l s n d = [] := by simp [endR, h]
theorem endR_yes {l : List Iss} {s n d : Int} {k : Nat} (hf : issFind l s n = some k) (h : endGood l s n d = true) : endR l s n d = l.set k ⟨s, n, (gd l k).fr, d⟩ := by simp [endR, h, hf]
theorem endR_len (l : List Iss) (s n d : Int) : (endR l s n d).length ≤ 10000000 := by
  unfold endR
  split
  · rename_i h
    have h2 : l.length ≤ 16 := areIss_len (by simp only [endGood, Bool.and_eq_true] at h; exact h.1)
    split
    · simp; omega
    · simp
  · simp
theorem end_hit {l : List Iss} {s n d : Int} {k : Nat} (hA : areIss l = true) (hf : issFind l s n = some k) : endGood l s n d = inB d (gd l k).fr (gd l k).un := by simp [endGood, hA, hf]
theorem end_miss {l : List Iss} {s n d : Int} (hf : issFind l s n = none) : endGood l s n d = false := by simp [endGood, hf]
theorem end_bad {l : List Iss} {s n d : Int} (hA : areIss l = false) : endGood l s n d = false := by simp [endGood, hA]
/-! ### one issue is put -/
/-- the place of an issue -/
def insPos (l : List Iss) (x : Iss) : Nat := (findTo (fun i => !issLt (gd l i) x) l.length).getD l.length
theorem insPos_at {l : List Iss} {x : Iss} {k : Nat} (h : ∀ i, i < k → issLt (gd l i) x = true) (hk : k < l.length) (hx : issLt (gd l k) x = false) : insPos l x = k := by
  unfold insPos
  rw [findTo_some (k := k) (fun i hi => by simp [h i hi]) (by simp [hx]) hk]
  rfl
theorem insPos_end {l : List Iss} {x : Iss} (h : ∀ i, i < l.length → issLt (gd l i) x = true) : insPos l x = l.length := by
  unfold insPos
  rw [findTo_none (fun i hi => by simp [h i hi])]
  rfl
theorem insPos_le (l : List Iss) (x : Iss) : insPos l x ≤ l.length := by
  unfold insPos
  cases hf : findTo (fun i => !issLt (gd l i) x) l.length with
  | none => simp
  | some k => have := (findTo_spec hf).1; simp; omega
theorem search_pos {l : List Iss} {x : Iss} {k : Nat} (hA : areIss l = true) (h : searchAt l x k) : insPos l x = k := by
  rcases Nat.lt_or_eq_of_le h.1 with h1 | h1
  · exact insPos_at (fun i hi => search_below hA h i hi) h1 (search_above hA h k (Nat.le_refl _) h1)
  · rw [h1]
    refine insPos_end fun i hi => search_below hA h i (by omega)
def sameKey (x y : Iss) : Bool := decide (x.s = y.s) && decide (x.n = y.n)
def putRest (l : List Iss) (x : Iss) (k : Nat) : List Iss := if k < l.length ∧ sameKey (gd l k) x = true then l.drop (k + 1) else l.drop k
def putL (l : List Iss) (x : Iss) : List Iss := l.take (insPos l x) ++ [x] ++ putRest l x (insPos l x)
theorem putL_hit {l : List Iss} {x : Iss} {k : Nat} (hA : areIss l = true) (h : searchAt l x k) (hh : searchHit l x k = true) : putL l x = l.set k x ∧ k < l.length := by
  simp only [searchHit, Bool.and_eq_true, decide_eq_true_eq, issCmp_eq] at hh
  obtain ⟨h1, h2, h3⟩ := hh
  refine ⟨?_, h1⟩
  rw [putL, search_pos hA h, putRest, if_pos ⟨h1, by simp [sameKey, h2, h3]⟩, List.set_eq_take_append_cons_drop, if_pos h1]
  simp
theorem putL_miss {l : List Iss} {x : Iss} {k : Nat} (hA : areIss l = true) (h : searchAt l x k) (hh : searchHit l x k = false) : putL l x = l.take k ++ [x] ++ l.drop k := by
  rw [putL, search_pos hA h, putRest, if_neg]
  rintro ⟨h1, h2⟩
  simp only [sameKey, Bool.and_eq_true, decide_eq_true_eq] at h2
  simp [searchHit, h1, issCmp_eq, h2] at hh
theorem putL_len (l : List Iss) (x : Iss) : (putL l x).length ≤ l.length + 1 := by
  have := insPos_le l x
  unfold putL putRest
  split
  · simp; omega
  · simp; omega
def putGood (l : List Iss) (x : Iss) : Bool := areIss l && areIss (putL l x)
def putR (l : List Iss) (x : Iss) : List Iss := if putGood l x then putL l x else []
theorem putR_no {l : List Iss} {x : Iss} (h : putGood l x = false) : putR l x = [] := by simp [putR, h]
theorem putR_yes {l : List Iss} {x : Iss} (h : putGood l x = true) : putR l x = putL l x := by simp [putR, h]
theorem putR_len (l : List Iss) (x : Iss) : (putR l x).length ≤ 10000000 := by
  unfold putR
  split
  · rename_i h
    have h2 : (putL l x).length ≤ 16 := areIss_len (by simp only [putGood, Bool.and_eq_true] at h; exact h.2)
    omega
  · simp
theorem putL_has (l : List Iss) (x : Iss) : gd (putL l x) (insPos l x) = x ∧ insPos l x < (putL l x).length := by
  have h := insPos_le l x
  refine ⟨?_, by unfold putL; simp; omega⟩
  have hl : (l.take (insPos l x)).length = insPos l x := by simp; omega
  unfold putL
  rw [gd_append (by simp; omega)]
  have := gd_append_last (l := l.take (insPos l x)) (x := x)
  rwa [hl] at this
/-- what stands in a list of issues is one -/
theorem put_bad {l : List Iss} {x : Iss} (h : issOk x = false) : putGood l x = false := by
  rw [Bool.eq_false_iff]
  intro hp
  simp only [putGood, Bool.and_eq_true] at hp
  have h1 := putL_has l x
  have h2 := areIss_ok hp.2 _ h1.2
  rw [h1.1, h] at h2
  cases h2
theorem issLt_hund {a b : Iss} (ha : issOk a = true) (hb : issOk b = true) : issLt a b = decide (100 * a.s + a.n < 100 * b.s + b.n) := by
  have h1 := issOk_b ha
  have h2 := issOk_b hb
  rw [Bool.eq_iff_iff, issLt_iff, decide_eq_true_eq]
  omega
end Go.Proofs.YthibchaiaedboaaDoor
