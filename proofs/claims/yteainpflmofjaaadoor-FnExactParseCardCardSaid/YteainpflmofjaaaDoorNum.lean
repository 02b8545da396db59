/- The reference's text of a number. General. -/
import Derived.Test.YteainpflmofjaaaDoorRi
namespace Go.Proofs.YteainpflmofjaaaDoor
open Go.RowKit
def digA : ByteArray := ⟨#[48, 49, 50, 51, 52, 53, 54, 55, 56, 57]⟩
def digE (n : Int) : ByteArray := digA.extract n.toNat (n + 1).toNat
/-- the text of a number of at most f + 1 digits -/
def numF : Nat → Int → ByteArray
  | 0, n => digE n
  | f + 1, n => if n < 10 then digE n else numF f (n.tdiv 10) ++ digE (n % 10)
def numT (n : Int) : ByteArray := numF 17 n
theorem numF_small (f : Nat) {n : Int} (h : n < 10) : numF f n = digE n := by cases f <;> simp [numF, h]
theorem numF_big (f : Nat) {n : Int} (h : ¬ n < 10) : numF (f + 1) n = numF f (n.tdiv 10) ++ digE (n % 10) := by simp [numF, h]
theorem digE_size (n : Int) : (digE n).size ≤ 1 := by
  simp [digE]; omega
theorem numF_size : ∀ (f : Nat) (n : Int), (numF f n).size ≤ f + 1
  | 0, n => digE_size n
  | f + 1, n => by
    unfold numF
    split
    · have := digE_size n; omega
    · have := digE_size (n % 10)
      have := numF_size f (n.tdiv 10)
      rw [ByteArray.size_append]; omega
set_option maxHeartbeats 1000000 in
theorem l1NumF_c : ∀ (f : Nat) (n : Int) (w : World), 0 ≤ n → n < 10 ^ (f + 1) → f ≤ 17 → Calls Tryd.prog 75 #[.int .i64 n] w fun e w' => e = .returned (.string (numF f n)) ∧ Below w.heap.size w w'
  | 0, n, w, h0, h1, _ => by
    have h10 : n < 10 := by simpa using h1
    rw [numF_small 0 h10]
    go_enter Tryd.func75, Tryd.ntmps75
    go_wp2_with fail
    go_ret
    exact ⟨rfl, Below.refl _ _⟩
  | f + 1, n, w, h0, h1, hf => by
    have hp : (10 : Int) ^ (f + 1 + 1) = 10 ^ (f + 1) * 10 := Int.pow_succ 10 (f + 1)
    have hpl : (10 : Int) ^ (f + 1) ≤ 10 ^ 18 := by
      have h2 : (10 : Nat) ^ (f + 1) ≤ 10 ^ 18 := Nat.pow_le_pow_right (by omega) (by omega)
      exact_mod_cast h2
    by_cases h10 : n < 10
    · rw [numF_small _ h10]
      go_enter Tryd.func75, Tryd.ntmps75
      go_wp2_with fail
      go_ret
      exact ⟨rfl, Below.refl _ _⟩
    · have hr := Lib.hid (numF_big f h10)
      have e1 : n.tdiv 10 = n / 10 := Int.tdiv_eq_ediv_of_nonneg h0
      have e2 : n.tmod 10 = n % 10 := Int.tmod_eq_emod_of_nonneg h0
      have ih := Lib.hid (fun W : World => l1NumF_c f (n.tdiv 10) W (by omega) (by omega) (by omega))
      have hm0 : 0 ≤ n % 10 := by omega
      have hm1 : n % 10 < 10 := by omega
      have hsz : (numF f (n.tdiv 10)).size + (digE (n % 10)).size ≤ 9223372036854775807 := by
        have := numF_size f (n.tdiv 10)
        have := digE_size (n % 10)
        omega
      unfold digE digA at hsz
      have hq0 : 0 ≤ n.tdiv 10 := by omega
      have hq1 : n.tdiv 10 ≤ 1000000000000000000 := by omega
      clear h1 hp hpl e1 e2
      go_enter Tryd.func75, Tryd.ntmps75
      go_wp2_with fail
      refine wp_region_ext (by kernel_rfl) (by kernel_rfl) ?_
      repeat (any_goals (first | go_big_quiet_step ((go_at_call 75; exact Calls.ext_of (ih.out _)))))
      (refine wpQuiet_nil ?_)
      (rintro _ ⟨q, rfl⟩)
      go_wp2_with fail
      go_ret
      refine ⟨?_, (by repeat' (first | exact Below.refl _ _ | with_reducible assumption | refine bext ?_ ?_ _ | refine Below.alloc ?_ ?_ _ | refine Below.setCell ?_ ?_ _ | refine Below.drew ?_ | (simp; done) | (have hbz := hb.size; first | omega | (simp; omega)) | (simp; omega) | omega))⟩
      rw [hr.out]
      rfl
theorem l1Num_c (n : Int) (w : World) (h0 : 0 ≤ n) (h1 : n < 1000000000000000000) : Calls Tryd.prog 75 #[.int .i64 n] w fun e w' => e = .returned (.string (numT n)) ∧ Below w.heap.size w w' := l1NumF_c 17 n w h0 (by simpa using h1) (by omega)
end Go.Proofs.YteainpflmofjaaaDoor
