/- Issues: what is an issue, a list of issues, which number is true on a day (plain law). No condition. -/
import Derived.Test.YthibchaiaedboaaDoorTypes
import Derived.Test.YthibchaiaedboaaDoorMore
namespace Go.Proofs.YthibchaiaedboaaDoor
open Go.RowKit
def issOk (x : Iss) : Bool := inB x.s 1 999 && inB x.n 1 99 && inB x.un 0 4000 && inB x.fr 0 x.un
theorem issOk_b {x : Iss} (h : issOk x = true) : 1 ≤ x.s ∧ x.s ≤ 999 ∧ 1 ≤ x.n ∧ x.n ≤ 99 ∧ 0 ≤ x.un ∧ x.un ≤ 4000 ∧ 0 ≤ x.fr ∧ x.fr ≤ x.un := by
  simp only [issOk, Bool.and_eq_true, inB_iff] at h; omega
theorem issOk_of {x : Iss} (h : 1 ≤ x.s ∧ x.s ≤ 999 ∧ 1 ≤ x.n ∧ x.n ≤ 99 ∧ 0 ≤ x.un ∧ x.un ≤ 4000 ∧ 0 ≤ x.fr ∧ x.fr ≤ x.un) : issOk x = true := by
  simp only [issOk, Bool.and_eq_true, inB_iff]; omega
def issLt (a b : Iss) : Bool := decide (a.s < b.s) || (decide (a.s = b.s) && decide (a.n < b.n))
theorem issLt_iff {a b : Iss} : issLt a b = true ↔ a.s < b.s ∨ (a.s = b.s ∧ a.n < b.n) := by simp [issLt]
def cmpInt (a b : Int) : Int := if a < b then -1 else if b < a then 1 else 0
def issCmp (a b : Iss) : Int := if cmpInt a.s b.s = 0 then cmpInt a.n b.n else cmpInt a.s b.s
theorem issCmp_nn {a b : Iss} : 0 ≤ issCmp a b ↔ issLt a b = false := by
  rw [Bool.eq_false_iff, Ne, issLt_iff]
  unfold issCmp cmpInt
  repeat' split
  all_goals omega
theorem issCmp_lt {a b : Iss} : issCmp a b < 0 ↔ issLt a b = true := by
  rw [issLt_iff]
  unfold issCmp cmpInt
  repeat' split
  all_goals omega
theorem issCmp_eq {a b : Iss} : issCmp a b = 0 ↔ a.s = b.s ∧ a.n = b.n := by
  unfold issCmp cmpInt
  repeat' split
  all_goals omega
def issAt (l : List Iss) (i : Nat) : Bool := issOk (gd l i) && (i == 0 || issLt (gd l (i - 1)) (gd l i))
def areIss (l : List Iss) : Bool := allTo (issAt l) l.length && decide (l.length ≤ 16)
theorem areIss_no {l : List Iss} (k : Nat) (hk : k < l.length) (h : issAt l k = false) : areIss l = false := by simp [areIss, allTo_false k hk h]
theorem areIss_end {l : List Iss} (h : ∀ i, i < l.length → issAt l i = true) : areIss l = decide (l.length ≤ 16) := by simp [areIss, allTo_true h]
theorem areIss_len {l : List Iss} (h : areIss l = true) : l.length ≤ 16 := by simp [areIss] at h; exact h.2
theorem areIss_ok {l : List Iss} (h : areIss l = true) (i : Nat) (hi : i < l.length) : issOk (gd l i) = true := by
  simp only [areIss, Bool.and_eq_true, allTo_iff] at h
  have := h.1 i hi
  simp only [issAt, Bool.and_eq_true] at this
  exact this.1
theorem areIss_step {l : List Iss} (h : areIss l = true) (i : Nat) (hi : i + 1 < l.length) : issLt (gd l i) (gd l (i + 1)) = true := by
  simp only [areIss, Bool.and_eq_true, allTo_iff] at h
  have := h.1 (i + 1) hi
  simp only [issAt, Bool.and_eq_true] at this
  simpa using this.2
theorem areIss_lt {l : List Iss} (h : areIss l = true) (i : Nat) : ∀ j, i < j → j < l.length → issLt (gd l i) (gd l j) = true
  | 0, hj, _ => by omega
  | j + 1, hj, hl => by
    have h1 := areIss_step h j hl
    rcases Nat.lt_or_eq_of_le (Nat.lt_succ_iff.1 hj) with h2 | rfl
    · have h3 := areIss_lt h i j h2 (by omega)
      rw [issLt_iff] at *
      omega
    · exact h1
/-- the issue is of the sheet and runs on the day -/
def issOn (x : Iss) (s d : Int) : Bool := decide (x.s = s) && inB d x.fr x.un
def lastN (l : List Iss) (s d : Int) : Nat → Int
  | 0 => 0
  | k + 1 => if issOn (gd l k) s d then (gd l k).n else lastN l s d k
def mostN (l : List Iss) (s d : Int) : Nat → Int
  | 0 => 0
  | k + 1 => if issOn (gd l k) s d then (if mostN l s d k > (gd l k).n then mostN l s d k else (gd l k).n) else mostN l s d k
theorem mostN_le {l : List Iss} {s d m : Int} (h0 : 0 ≤ m) : ∀ k, (∀ i, i < k → (gd l i).s = s → (gd l i).n ≤ m) → mostN l s d k ≤ m
  | 0, _ => h0
  | k + 1, h => by
    have h1 := mostN_le h0 (d := d) k (fun i hi => h i (by omega))
    unfold mostN
    split
    · rename_i hm
      simp only [issOn, Bool.and_eq_true, decide_eq_true_eq] at hm
      have := h k (by omega) hm.1
      split <;> omega
    · exact h1
theorem last_most {l : List Iss} (h : areIss l = true) (s d : Int) : ∀ k, k ≤ l.length → mostN l s d k = lastN l s d k
  | 0, _ => rfl
  | k + 1, hk => by
    have h1 := last_most h s d k (by omega)
    unfold mostN lastN
    split
    · rename_i hm
      simp only [issOn, Bool.and_eq_true, decide_eq_true_eq] at hm
      have hb := issOk_b (areIss_ok h k (by omega))
      have h2 : mostN l s d k ≤ (gd l k).n := mostN_le (by omega) k (fun i hi hs => by
        have := areIss_lt h i k hi (by omega)
        rw [issLt_iff] at this
        omega)
      rw [if_neg (by omega)]
    · exact h1
/-- the number of the issue of a sheet that is true on a day, or 0 -/
def trueN (l : List Iss) (s d : Int) : Int := lastN l s d l.length
theorem trueN_most {l : List Iss} (h : areIss l = true) (s d : Int) : mostN l s d l.length = trueN l s d := last_most h s d _ (Nat.le_refl _)
theorem lastN_b {l : List Iss} (h : areIss l = true) (s d : Int) : ∀ k, k ≤ l.length → 0 ≤ lastN l s d k ∧ lastN l s d k ≤ 99
  | 0, _ => by simp [lastN]
  | k + 1, hk => by
    have h1 := lastN_b h s d k (by omega)
    have hb := issOk_b (areIss_ok h k (by omega))
    unfold lastN
    split <;> omega
theorem trueN_b {l : List Iss} (h : areIss l = true) (s d : Int) : 0 ≤ trueN l s d ∧ trueN l s d ≤ 99 := lastN_b h s d _ (Nat.le_refl _)
theorem iss_ways (l : List Iss) (k : Nat) (hall : ∀ i, i < k → issAt l i = true) : (issOk (gd l k) = false ∧ Hid (issAt l k = false)) ∨ (issOk (gd l k) = true ∧ ¬ 0 < k ∧ Hid (issAt l k = true)) ∨
    (issOk (gd l k) = true ∧ 0 < k ∧ issOk (gd l (k - 1)) = true ∧ ¬ 0 ≤ issCmp (gd l (k - 1)) (gd l k) ∧ Hid (issAt l k = true)) ∨
    (issOk (gd l k) = true ∧ 0 < k ∧ issOk (gd l (k - 1)) = true ∧ 0 ≤ issCmp (gd l (k - 1)) (gd l k) ∧ Hid (issAt l k = false)) := by
  unfold Hid
  cases h : issOk (gd l k)
  · exact .inl ⟨rfl, by simp [issAt, h]⟩
  · by_cases h0 : 0 < k
    · have hp : issOk (gd l (k - 1)) = true := by
        have := hall (k - 1) (by omega)
        simp only [issAt, Bool.and_eq_true] at this
        exact this.1
      by_cases h1 : 0 ≤ issCmp (gd l (k - 1)) (gd l k)
      · exact .inr (.inr (.inr ⟨rfl, h0, hp, h1, by simp [issAt, h, issCmp_nn.1 h1]; omega⟩))
      · refine .inr (.inr (.inl ⟨rfl, h0, hp, h1, ?_⟩))
        have := issCmp_lt.1 (Int.not_le.1 h1)
        simp [issAt, h, this]
    · exact .inr (.inl ⟨rfl, h0, by simp [issAt, h]; omega⟩)
theorem issCmp_hund {a b : Iss} (ha : issOk a = true) (hb : issOk b = true) : 0 ≤ issCmp a b ↔ 100 * b.s + b.n ≤ 100 * a.s + a.n := by
  have h1 := issOk_b ha
  have h2 := issOk_b hb
  rw [issCmp_nn, Bool.eq_false_iff, Ne, issLt_iff]
  omega
theorem on_ways (x : Iss) (s d : Int) : (¬ x.s = s ∧ issOn x s d = false) ∨ (x.s = s ∧ inB d x.fr x.un = false ∧ issOn x s d = false) ∨ (x.s = s ∧ inB d x.fr x.un = true ∧ issOn x s d = true) := by
  by_cases h : x.s = s
  · cases h2 : inB d x.fr x.un
    · exact .inr (.inl ⟨h, rfl, by simp [issOn, h2]⟩)
    · exact .inr (.inr ⟨h, rfl, by simp [issOn, h, h2]⟩)
  · exact .inl ⟨h, by simp [issOn, h]⟩
theorem lastN_yes {l : List Iss} {s d : Int} {k : Nat} (h : issOn (gd l k) s d = true) : lastN l s d (k + 1) = (gd l k).n := by simp [lastN, h]
theorem lastN_no {l : List Iss} {s d : Int} {k : Nat} (h : issOn (gd l k) s d = false) : lastN l s d (k + 1) = lastN l s d k := by simp [lastN, h]
theorem mostN_yes {l : List Iss} {s d : Int} {k : Nat} (h : issOn (gd l k) s d = true) : mostN l s d (k + 1) = (if mostN l s d k > (gd l k).n then mostN l s d k else (gd l k).n) := by simp [mostN, h]
theorem mostN_no {l : List Iss} {s d : Int} {k : Nat} (h : issOn (gd l k) s d = false) : mostN l s d (k + 1) = mostN l s d k := by simp [mostN, h]
/-! ### the true issue, the first gap, the changes -/
def sdGood (l : List Iss) (s d : Int) : Bool := areIss l && inB s 1 999 && inB d 0 4000
def trueI (l : List Iss) (s d : Int) : Int := if sdGood l s d then trueN l s d else 0
theorem trueI_no {l : List Iss} {s d : Int} (h : sdGood l s d = false) : trueI l s d = 0 := by simp [trueI, h]
theorem trueI_yes {l : List Iss} {s d : Int} (h : sdGood l s d = true) : trueI l s d = trueN l s d := by simp [trueI, h]
def gapGood (l : List Iss) (s f u : Int) : Bool := areIss l && inB s 1 999 && inB u 0 4000 && inB f 0 u
def gapAt (l : List Iss) (s f : Int) (k : Nat) : Bool := decide (trueN l s (f + (k : Int)) = 0)
def gapK (l : List Iss) (s f u : Int) : Option Nat := if gapGood l s f u then findTo (gapAt l s f) (u - f + 1).toNat else none
def gapD (l : List Iss) (s f u : Int) : Int := match gapK l s f u with
  | some k => f + (k : Int)
  | none => 0
theorem gapK_no {l : List Iss} {s f u : Int} (h : gapGood l s f u = false) : gapK l s f u = none := by simp [gapK, h]
theorem gapK_some {l : List Iss} {s f u : Int} {k : Nat} (hg : gapGood l s f u = true) (h : ∀ i, i < k → gapAt l s f i = false) (hk : gapAt l s f k = true) (hn : k < (u - f + 1).toNat) : gapK l s f u = some k := by
  rw [gapK, if_pos hg]; exact findTo_some h hk hn
theorem gapK_none {l : List Iss} {s f u : Int} (hg : gapGood l s f u = true) (h : ∀ i, i < (u - f + 1).toNat → gapAt l s f i = false) : gapK l s f u = none := by
  rw [gapK, if_pos hg]; exact findTo_none h
theorem gapD_some {l : List Iss} {s f u : Int} {k : Nat} (h : gapK l s f u = some k) : gapD l s f u = f + (k : Int) ∧ (gapK l s f u).isSome = true := by simp [gapD, h]
theorem gapD_none {l : List Iss} {s f u : Int} (h : gapK l s f u = none) : gapD l s f u = 0 ∧ (gapK l s f u).isSome = false := by simp [gapD, h]
def chgAt (l : List Iss) (s : Int) (k : Nat) : Bool := decide (trueN l s ((k : Int) + 1) ≠ trueN l s (k : Int))
def chgs (l : List Iss) (s : Int) : Nat → List Int
  | 0 => []
  | k + 1 => if chgAt l s k then chgs l s k ++ [(k : Int) + 1] else chgs l s k
theorem chgs_yes {l : List Iss} {s : Int} {k : Nat} (h : chgAt l s k = true) : chgs l s (k + 1) = chgs l s k ++ [(k : Int) + 1] := by simp [chgs, h]
theorem chgs_no {l : List Iss} {s : Int} {k : Nat} (h : chgAt l s k = false) : chgs l s (k + 1) = chgs l s k := by simp [chgs, h]
theorem chgs_len (l : List Iss) (s : Int) : ∀ k, (chgs l s k).length ≤ k
  | 0 => Nat.le_refl _
  | k + 1 => by
    have := chgs_len l s k
    unfold chgs
    split
    · simp; omega
    · omega
def chgGood (l : List Iss) (s : Int) : Bool := areIss l && inB s 1 999
def chgR (l : List Iss) (s : Int) : List Int := if chgGood l s then chgs l s 4000 else []
theorem chgR_no {l : List Iss} {s : Int} (h : chgGood l s = false) : chgR l s = [] := by simp [chgR, h]
theorem chgR_yes {l : List Iss} {s : Int} (h : chgGood l s = true) : chgR l s = chgs l s 4000 := by simp [chgR, h]
theorem chgR_len (l : List Iss) (s : Int) : (chgR l s).length ≤ 10000000 := by
  unfold chgR
  split
  · have := chgs_len l s 4000; omega
  · simp
theorem gapGood_b {l : List Iss} {s f u : Int} (h : gapGood l s f u = true) : 0 ≤ f ∧ f ≤ u ∧ 0 ≤ u ∧ u ≤ 4000 := by
  simp only [gapGood, Bool.and_eq_true, inB_iff] at h; omega
theorem gapP_ways (l : List Iss) (s f u : Int) : (areIss l = false ∧ Hid (gapGood l s f u = false)) ∨ (areIss l = true ∧ inB s 1 999 = false ∧ Hid (gapGood l s f u = false)) ∨
    (areIss l = true ∧ inB s 1 999 = true ∧ inB f 0 4000 = false ∧ Hid (gapGood l s f u = false)) ∨ (areIss l = true ∧ inB s 1 999 = true ∧ inB f 0 4000 = true ∧ inB u 0 4000 = false ∧ Hid (gapGood l s f u = false)) ∨
    (areIss l = true ∧ inB s 1 999 = true ∧ inB f 0 4000 = true ∧ inB u 0 4000 = true ∧ u < f ∧ Hid (gapGood l s f u = false)) ∨ (areIss l = true ∧ inB s 1 999 = true ∧ inB f 0 4000 = true ∧ inB u 0 4000 = true ∧ ¬ u < f ∧ Hid (gapGood l s f u = true)) := by
  unfold Hid
  cases h1 : areIss l
  · exact .inl ⟨rfl, by simp [gapGood, h1]⟩
  refine .inr ?_
  cases h2 : inB s 1 999
  · exact .inl ⟨rfl, rfl, by simp [gapGood, h2]⟩
  refine .inr ?_
  cases h3 : inB f 0 4000
  · refine .inl ⟨rfl, rfl, rfl, ?_⟩
    rw [Bool.eq_false_iff] at h3 ⊢
    intro hx
    have := gapGood_b hx
    exact h3 (inB_iff.2 ⟨by omega, by omega⟩)
  refine .inr ?_
  cases h4 : inB u 0 4000
  · exact .inl ⟨rfl, rfl, rfl, rfl, by simp [gapGood, h4]⟩
  refine .inr ?_
  by_cases h5 : u < f
  · refine .inl ⟨rfl, rfl, rfl, rfl, h5, ?_⟩
    rw [Bool.eq_false_iff]
    intro hx
    have := gapGood_b hx
    omega
  · refine .inr ⟨rfl, rfl, rfl, rfl, h5, ?_⟩
    have := inB_iff.1 h3
    simp only [gapGood, h1, h2, h4, Bool.true_and, inB_iff]
    omega
theorem gapS_ways (l : List Iss) (s f u : Int) : (areIss l = false ∧ Hid (gapGood l s f u = false)) ∨ (areIss l = true ∧ inB s 1 999 = false ∧ Hid (gapGood l s f u = false)) ∨
    (areIss l = true ∧ inB s 1 999 = true ∧ inB u 0 4000 = false ∧ Hid (gapGood l s f u = false)) ∨ (areIss l = true ∧ inB s 1 999 = true ∧ inB u 0 4000 = true ∧ inB f 0 u = false ∧ Hid (gapGood l s f u = false)) ∨
    (areIss l = true ∧ inB s 1 999 = true ∧ inB u 0 4000 = true ∧ inB f 0 u = true ∧ Hid (gapGood l s f u = true)) := by
  unfold Hid
  cases h1 : areIss l
  · exact .inl ⟨rfl, by simp [gapGood, h1]⟩
  refine .inr ?_
  cases h2 : inB s 1 999
  · exact .inl ⟨rfl, rfl, by simp [gapGood, h2]⟩
  refine .inr ?_
  cases h3 : inB u 0 4000
  · exact .inl ⟨rfl, rfl, rfl, by simp [gapGood, h3]⟩
  refine .inr ?_
  cases h4 : inB f 0 u
  · exact .inl ⟨rfl, rfl, rfl, rfl, by simp [gapGood, h4]⟩
  · exact .inr ⟨rfl, rfl, rfl, rfl, by simp [gapGood, h1, h2, h3, h4]⟩
theorem IntE.one (x : Int) : ∀ u ∈ IntE.enc x, u.oneCell' = true := by intro u hu; simp [IntE.enc] at hu; subst hu; rfl
end Go.Proofs.YthibchaiaedboaaDoor
