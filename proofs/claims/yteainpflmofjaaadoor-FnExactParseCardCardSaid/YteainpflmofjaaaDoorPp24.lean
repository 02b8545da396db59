/- Plain facts for reading a card: decimal digits read back; a text cut at a byte; the text of a card cut at blanks. No condition. -/
import Derived.Test.YteainpflmofjaaaDoorTc24
import Derived.Lib.AtoiTie
import Derived.Lib.ItoaMem
import Derived.Lib.SplitLaws
namespace Go.Proofs.YteainpflmofjaaaDoor
open Go.RowKit
/-! decimal digits read back -/
theorem decFrom_append (a b : List UInt8) : ∀ acc, Lib.decFrom acc (a ++ b) = (Lib.decFrom acc a).bind fun n => Lib.decFrom n b := by
  induction a with
  | nil => intro acc; rfl
  | cons c a ih =>
    intro acc
    simp only [List.cons_append, Lib.decFrom]
    cases Lib.digitVal c with
    | none => rfl
    | some d => exact ih _
theorem digitVal_dig (k : Nat) (h : k < 10) : Lib.digitVal (UInt8.ofNat (48 + k)) = some k := by
  have : k = 0 ∨ k = 1 ∨ k = 2 ∨ k = 3 ∨ k = 4 ∨ k = 5 ∨ k = 6 ∨ k = 7 ∨ k = 8 ∨ k = 9 := by omega
  rcases this with rfl | rfl | rfl | rfl | rfl | rfl | rfl | rfl | rfl | rfl <;> rfl
theorem decFrom_dec (u : Nat) : Lib.decFrom 0 (Lib.decDigits u) = some u := by
  induction u using Nat.strongRecOn with
  | ind u ih =>
    by_cases h : u < 10
    · rw [Lib.decDigits_one h]
      simp only [Lib.decFrom, digitVal_dig u h]
      simp
    · rw [Lib.decDigits, dif_neg h, decFrom_append, ih (u / 10) (by omega)]
      simp only [Option.bind_some, Lib.decFrom, digitVal_dig (u % 10) (by omega)]
      congr 1
      omega
theorem decDigits_ne (u : Nat) : Lib.decDigits u ≠ [] := by
  rw [Lib.decDigits]; split <;> simp
theorem decDigits_head (u : Nat) : ∀ c r, Lib.decDigits u = c :: r → 48 ≤ c.toNat ∧ c.toNat ≤ 57 := by
  induction u using Nat.strongRecOn with
  | ind u ih =>
    intro c r h
    by_cases h1 : u < 10
    · rw [Lib.decDigits_one h1] at h
      injection h with h _
      subst h
      have : u = 0 ∨ u = 1 ∨ u = 2 ∨ u = 3 ∨ u = 4 ∨ u = 5 ∨ u = 6 ∨ u = 7 ∨ u = 8 ∨ u = 9 := by omega
      rcases this with rfl | rfl | rfl | rfl | rfl | rfl | rfl | rfl | rfl | rfl <;> decide
    · rw [Lib.decDigits, dif_neg h1] at h
      cases hd : Lib.decDigits (u / 10) with
      | nil => exact absurd hd (decDigits_ne _)
      | cons c' r' =>
        rw [hd] at h
        injection h with h _
        subst h
        exact ih (u / 10) (by omega) c' r' hd
theorem decDigits_all (u : Nat) : ∀ c, c ∈ Lib.decDigits u → 48 ≤ c.toNat ∧ c.toNat ≤ 57 := by
  induction u using Nat.strongRecOn with
  | ind u ih =>
    intro c hc
    have dig : ∀ k, k < 10 → 48 ≤ (UInt8.ofNat (48 + k)).toNat ∧ (UInt8.ofNat (48 + k)).toNat ≤ 57 := fun k hk => by
      have : k = 0 ∨ k = 1 ∨ k = 2 ∨ k = 3 ∨ k = 4 ∨ k = 5 ∨ k = 6 ∨ k = 7 ∨ k = 8 ∨ k = 9 := by omega
      rcases this with rfl | rfl | rfl | rfl | rfl | rfl | rfl | rfl | rfl | rfl <;> decide
    by_cases h1 : u < 10
    · rw [Lib.decDigits_one h1, List.mem_singleton] at hc
      subst hc
      exact dig u h1
    · rw [Lib.decDigits, dif_neg h1, List.mem_append, List.mem_singleton] at hc
      rcases hc with hc | rfl
      · exact ih (u / 10) (by omega) c hc
      · exact dig (u % 10) (by omega)
theorem atoi_dec (u : Nat) (h : u < 1000000000000000000) : Lib.atoiAll (Lib.decDigits u) = .ok (u : Int) := by
  have hl : (Lib.decDigits u).length ≤ 18 := by
    rw [Lib.decDigits_length]
    rcases Nat.lt_or_ge u 10 with h1 | h1
    · rw [Lib.nDigits_small h1]; omega
    · have : ∀ (k v : Nat), v < 10 ^ (k + 1) → Lib.nDigits v ≤ k + 1 := by
        intro k
        induction k with
        | zero => intro v hv; rw [Lib.nDigits_small (by simpa using hv)]; omega
        | succ k ih =>
          intro v hv
          by_cases hv10 : v < 10
          · rw [Lib.nDigits_small hv10]; omega
          · rw [Lib.nDigits_big hv10]
            have := ih (v / 10) (by rw [Nat.div_lt_iff_lt_mul (by omega), ← Nat.pow_succ]; exact hv)
            omega
      exact this 17 u (by simpa using h)
  rw [Lib.atoiAll_short _ hl]
  cases hd : Lib.decDigits u with
  | nil => exact absurd hd (decDigits_ne _)
  | cons c r =>
    have hc := decDigits_head u c r hd
    have n45 : (c == 45) = false := by
      rw [beq_eq_false_iff_ne]; rintro rfl; exact absurd hc.1 (by decide)
    have n43 : (c == 43) = false := by
      rw [beq_eq_false_iff_ne]; rintro rfl; exact absurd hc.1 (by decide)
    have hF := decFrom_dec u
    rw [hd] at hF
    simp only [Lib.atoi, n45, n43]
    simp [Lib.decNat, hF, Lib.NumEnd.ofOption]
/-! a text cut at a byte -/
def spl (c : UInt8) : List UInt8 → List (List UInt8)
  | [] => [[]]
  | b :: l => if b = c then [] :: spl c l else match spl c l with
    | h :: t => (b :: h) :: t
    | [] => [[b]]
theorem spl_ne (c : UInt8) (l : List UInt8) : spl c l ≠ [] := by
  cases l with
  | nil => simp [spl]
  | cons b l =>
    unfold spl
    split
    · simp
    · split <;> simp
theorem spl_none (c : UInt8) : ∀ (a : List UInt8), c ∉ a → spl c a = [a]
  | [], _ => rfl
  | b :: a, h => by
    have hb : b ≠ c := fun e => h (by simp [e])
    rw [spl, if_neg hb, spl_none c a (fun e => h (by simp [e]))]
theorem spl_cut (c : UInt8) : ∀ (a l : List UInt8), c ∉ a → spl c (a ++ c :: l) = a :: spl c l
  | [], l, _ => by simp [spl]
  | b :: a, l, h => by
    have hb : b ≠ c := fun e => h (by simp [e])
    rw [List.cons_append, spl, if_neg hb, spl_cut c a l (fun e => h (by simp [e]))]
/-- every text begins with what has no c in it -/
theorem spl_cases (c : UInt8) (s : List UInt8) : c ∉ s ∨ ∃ a l, s = a ++ c :: l ∧ c ∉ a := by
  induction s with
  | nil => exact .inl (by simp)
  | cons b s ih =>
    by_cases hb : b = c
    · subst hb; exact .inr ⟨[], s, rfl, by simp⟩
    · rcases ih with h | ⟨a, l, rfl, h⟩
      · exact .inl (by simp [h, Ne.symm hb])
      · exact .inr ⟨b :: a, l, rfl, by simp [h, Ne.symm hb]⟩

theorem spl_push (c : UInt8) (b : List UInt8) (hb : c ∉ b) : ∀ A : List UInt8, spl c (A ++ c :: b) = spl c A ++ [b]
  | [] => by simp [spl, spl_none c b hb]
  | a :: A => by
    have ih := spl_push c b hb A
    by_cases ha : a = c
    · subst ha
      simp [spl, ih]
    · rw [List.cons_append, spl, if_neg ha, ih, spl, if_neg ha]
      cases hA : spl c A with
      | nil => exact absurd hA (spl_ne c A)
      | cons h t => rfl
theorem index_cut (c : UInt8) : ∀ (a l : List UInt8), c ∉ a → Lib.index (a ++ c :: l) [c] = (a.length : Int)
  | [], l, _ => by simp [Lib.index]
  | b :: a, l, h => by
    have hb : ¬ c = b := fun e => h (by simp [e])
    have ih := index_cut c a l (fun e => h (by simp [e]))
    simp [Lib.index, ih, hb]
theorem index_not (c : UInt8) : ∀ (a : List UInt8), c ∉ a → Lib.index a [c] = -1
  | [], _ => by simp [Lib.index]
  | b :: a, h => by
    have hb : ¬ c = b := fun e => h (by simp [e])
    have ih := index_not c a (fun e => h (by simp [e]))
    simp [Lib.index, ih, hb]
theorem splitK_spl (c : UInt8) : ∀ (n : Nat) (l : List UInt8), l.length ≤ n → Lib.splitK [c] 0 (Lib.count l [c]) l = spl c l
  | n, l, hn => by
    rcases spl_cases c l with h | ⟨a, r, rfl, h⟩
    · rw [Lib.count_miss (index_not c l h), spl_none c l h]; rfl
    · have hi := index_cut c a r h
      have hd : (a ++ c :: r).drop (a.length + [c].length) = r := by simp
      rw [Lib.count_hit (by simp) hi, hd, spl_cut c a r h, Nat.add_comm 1]
      show (if Lib.index (a ++ c :: r) [c] == -1 then _ else _) = _
      rw [hi, if_neg (by simp)]
      have hr : r.length < n := by simp at hn; omega
      have e1 : ((a.length : Int)).toNat = a.length := by simp
      rw [e1, hd, splitK_spl c (n - 1) r (by omega)]
      simp
  termination_by n => n
/-! the text of a card, cut at blanks -/
theorem numT_digits {n : Int} (h0 : 0 ≤ n) (h1 : n < 1000000000000000000) : (numT n).data.toList = Lib.decDigits n.toNat := by
  rw [numT_itoa n h0 h1, Lib.itoa, if_neg (by omega)]
theorem dec_no (u : Nat) (c : UInt8) (hc : c.toNat < 48 ∨ 57 < c.toNat) : c ∉ Lib.decDigits u := fun h => by
  have := decDigits_all u c h
  omega
theorem word_no {s : ByteArray} (h : wordB s = true) : (32 : UInt8) ∉ s.data.toList := fun hm => by
  simp only [wordB, Bool.and_eq_true] at h
  obtain ⟨i, hi, e⟩ := List.mem_iff_getElem.1 hm
  have hi' : i < s.size := by rw [← ba_len]; exact hi
  have := allTo_iff.1 h.2 i hi'
  have hb : gd (byteL s) i = 32 := by
    rw [gd_get (by rw [byteL_len]; exact hi')]
    simp only [byteL, List.getElem_map, e]
    rfl
  rw [hb] at this
  revert this
  decide
/-- the bytes of the parts of a card's text -/
def cdP (x : Crd) (k : Nat) : List (List UInt8) := [Lib.decDigits x.id.toNat, Lib.decDigits x.yr.toNat ++ [58]] ++ (x.sub.take k).map (·.data.toList)
theorem cdT_spl {x : Crd} (h : isCrd x = true) : ∀ k, k ≤ x.sub.length → spl 32 (cdT x k).data.toList = cdP x k
  | 0, _ => by
    obtain ⟨h1, h2, h3, h4, -⟩ := isCrd_facts h
    have e : (cdT x 0).data.toList = Lib.decDigits x.id.toNat ++ 32 :: (Lib.decDigits x.yr.toNat ++ [58]) := by
      rw [← numT_digits (n := x.id) (by omega) (by omega), ← numT_digits (n := x.yr) (by omega) (by omega)]
      simp [cdT, blank, colon]
    rw [e, spl_push 32 _ (by
      rw [List.mem_append]
      rintro (hm | hm)
      · exact dec_no _ 32 (.inl (by decide)) hm
      · simp at hm), spl_none 32 _ (dec_no _ 32 (.inl (by decide)))]
    simp [cdP]
  | k + 1, hk => by
    have ih := cdT_spl h k (by omega)
    have hw : wordB (gd x.sub k) = true := by
      have h' := h
      rw [isCrd_words] at h'
      simp only [Bool.and_eq_true, words6] at h'
      exact allTo_iff.1 h'.1.2.2 k (by omega)
    have e : (cdT x (k + 1)).data.toList = (cdT x k).data.toList ++ 32 :: (gd x.sub k).data.toList := by
      show (((cdT x k ++ blank) ++ gd x.sub k)).data.toList = _
      simp [blank]
    rw [e, spl_push 32 _ (word_no hw), ih]
    simp [cdP, take_succ_gd (show k < x.sub.length by omega)]
end Go.Proofs.YteainpflmofjaaaDoor
