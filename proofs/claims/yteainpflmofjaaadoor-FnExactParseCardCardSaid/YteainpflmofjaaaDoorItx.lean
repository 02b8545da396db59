/- strconv.Itoa by the shelf's contract, where Go's table of powers of ten reads as it is laid; the program's text of a number. Condition: that table. -/
import Derived.Test.YteainpflmofjaaaDoorShd
import Derived.Test.YteainpflmofjaaaDoorNum
import Derived.Lib.SmallJoins
namespace Go.Proofs.YteainpflmofjaaaDoor
open Go.RowKit
theorem digE_dec : ∀ k : Nat, k < 10 → digE (k : Int) = ⟨(Lib.decDigits k).toArray⟩ := fun k hk => by
  have : k = 0 ∨ k = 1 ∨ k = 2 ∨ k = 3 ∨ k = 4 ∨ k = 5 ∨ k = 6 ∨ k = 7 ∨ k = 8 ∨ k = 9 := by omega
  rcases this with rfl | rfl | rfl | rfl | rfl | rfl | rfl | rfl | rfl | rfl <;> (rw [Lib.decDigits]; rfl)
theorem numF_dec : ∀ (f k : Nat), k < 10 ^ (f + 1) → numF f (k : Int) = ⟨(Lib.decDigits k).toArray⟩
  | 0, k, h => by
    rw [numF_small 0 (by simp at h; omega)]
    exact digE_dec k (by simpa using h)
  | f + 1, k, h => by
    by_cases h10 : k < 10
    · rw [numF_small _ (by omega)]
      exact digE_dec k h10
    · have hk : k / 10 < 10 ^ (f + 1) := by
        rw [Nat.div_lt_iff_lt_mul (by omega), ← Nat.pow_succ]
        exact h
      have e1 : (k : Int).tdiv 10 = ((k / 10 : Nat) : Int) := by
        rw [Int.tdiv_eq_ediv_of_nonneg (by omega)]; simp
      have e2 : (k : Int) % 10 = ((k % 10 : Nat) : Int) := by simp
      have e3 : Lib.decDigits k = Lib.decDigits (k / 10) ++ Lib.decDigits (k % 10) := by
        conv => lhs; rw [Lib.decDigits, dif_neg h10]
        rw [show Lib.decDigits (k % 10) = [UInt8.ofNat (48 + k % 10)] by rw [Lib.decDigits, dif_pos (by omega)]]
      rw [numF_big f (by omega), e1, e2, numF_dec f _ hk, digE_dec _ (by omega), e3]
      apply ByteArray.ext
      simp
theorem numT_itoa (n : Int) (h0 : 0 ≤ n) (h1 : n < 1000000000000000000) : numT n = ⟨(Lib.itoa n).toArray⟩ := by
  obtain ⟨k, rfl⟩ : ∃ k : Nat, n = k := ⟨n.toNat, by omega⟩
  rw [numT, numF_dec 17 k (by omega), Lib.itoa, if_neg (by omega)]
  rfl
/-- Go's table of powers of ten reads as it is laid. -/
def Tab (w : World) : Prop := Lib.TabIs Tryd.prog w "internal/strconv.uint64pow10" .u64 Lib.pow10Tab
theorem Tab.mono {w w' : World} (h : Tab w) (hb : Below w.heap.size w w') : Tab w' := by
  cases hg : Tryd.prog.globalNamed "internal/strconv.uint64pow10" with
  | none => simp [Tab, Lib.TabIs, World.var?, hg] at h
  | some g => exact Go.Joins.tab_stays hg h hb (Nat.le_refl _)
theorem below_grow (w : World) (k : Nat) (os : Array Obj) : Below w.heap.size w (Go.Sort.grow (w.drewN k) os) :=
  ⟨rfl, rfl, rfl, by simp [Go.Sort.grow], fun i hi => by
    show (w.heap ++ os)[i]? = _
    rw [Array.getElem?_append_left hi]⟩
theorem itoa_c (n : Int) (w : World) (h0 : 0 ≤ n) (h1 : n < 1000000000000000000) (ht : Tab w) : Calls Tryd.prog 107 #[.int .i64 n] w fun e w' => e = .returned (.string (numT n)) ∧ Below w.heap.size w w' := by
  refine (strconv_Itoa n (by omega) (by omega) w ht).mono ?_
  rintro e w' ⟨rfl, k, os, rfl⟩
  exact ⟨by rw [numT_itoa n h0 h1], below_grow w k os⟩
theorem text_c (n : Int) (w : World) (h0 : 0 ≤ n) (h1 : n < 1000000000000000000) (ht : Tab w) : Calls Tryd.prog 73 #[.int .i64 n] w fun e w' => e = .returned (.string (numT n)) ∧ Below w.heap.size w w' := by
  have H := Lib.hid (itoa_c n w h0 h1 ht)
  clear ht
  go_enter Tryd.func73, Tryd.ntmps73
  go_wp2_with fail
  refine H.out.mono ?_
  rintro e w1 ⟨rfl, b1⟩
  go_wp2_with fail
  go_ret
  exact ⟨rfl, b1⟩
end Go.Proofs.YteainpflmofjaaaDoor
