/- Repairs: what is a damage, a list of damages, of repairs; the contracts of the reference's and the program's functions. No condition but what a slice may hold. -/
import Derived.Test.YtkflcpfekaddpaaDoorTypes
namespace Go.Proofs.YtkflcpfekaddpaaDoor
open Go.RowKit

def dmgOk (x : Dmg) : Bool := inB x.s 1 999 && inB x.t 0 50 && inB x.f 0 50 && inB x.st 0 100
def dmgGrade (x : Dmg) : Int := 2 * x.t + x.f + x.st
theorem dmgOk_b {x : Dmg} (h : dmgOk x = true) : 1 ≤ x.s ∧ x.s ≤ 999 ∧ 0 ≤ x.t ∧ x.t ≤ 50 ∧ 0 ≤ x.f ∧ x.f ≤ 50 ∧ 0 ≤ x.st ∧ x.st ≤ 100 := by
  simp only [dmgOk, Bool.and_eq_true, inB_iff] at h; omega
def dmgAt (l : List Dmg) (i : Nat) : Bool := dmgOk (gd l i) && (i == 0 || decide ((gd l (i - 1)).s < (gd l i).s))
def areDmg (l : List Dmg) : Bool := allTo (dmgAt l) l.length && decide (l.length ≤ 10)
theorem areDmg_no {l : List Dmg} (k : Nat) (hk : k < l.length) (h : dmgAt l k = false) : areDmg l = false := by simp [areDmg, allTo_false k hk h]
theorem areDmg_end {l : List Dmg} (h : ∀ i, i < l.length → dmgAt l i = true) : areDmg l = decide (l.length ≤ 10) := by simp [areDmg, allTo_true h]

/-! ### bounds -/
set_option maxHeartbeats 400000 in
theorem l1In_c (x a b : Int) (w : World) : Calls Tryd.prog 83 #[.int .i64 x, .int .i64 a, .int .i64 b] w fun e w' => e = .returned (.bool (inB x a b)) ∧ w = w' := by
  unfold inB
  go_enter Tryd.func83, Tryd.ntmps83
  go_wp2
  all_goals go_ret
  all_goals first | (simp_all; done) | (simp_all; omega)
set_option maxHeartbeats 400000 in
theorem within_c (x a b : Int) (w : World) : Calls Tryd.prog 89 #[.int .i64 x, .int .i64 a, .int .i64 b] w fun e w' => e = .returned (.bool (inB x a b)) ∧ w = w' := by
  unfold inB
  go_enter Tryd.func89, Tryd.ntmps89
  go_wp2
  all_goals go_ret
  all_goals first | (simp_all; done) | (simp_all; omega)
theorem isId_c (x : Int) (w : World) : Calls Tryd.prog 79 #[.int .i64 x] w fun e w' => e = .returned (.bool (inB x 1 999)) ∧ w = w' := by
  go_enter Tryd.func79, Tryd.ntmps79
  go_wp2_with (go_at_call 89; refine (within_c _ _ _ _).mono ?_; rintro e w' ⟨rfl, rfl⟩)
  go_ret
  exact ⟨rfl, rfl⟩
theorem isDay_c (x : Int) (w : World) : Calls Tryd.prog 71 #[.int .i64 x] w fun e w' => e = .returned (.bool (inB x 0 4000)) ∧ w = w' := by
  go_enter Tryd.func71, Tryd.ntmps71
  go_wp2_with (go_at_call 89; refine (within_c _ _ _ _).mono ?_; rintro e w' ⟨rfl, rfl⟩)
  go_ret
  exact ⟨rfl, rfl⟩
theorem l2Day_c (x : Int) (w : World) : Calls Tryd.prog 76 #[.int .i64 x] w fun e w' => e = .returned (.bool (inB x 0 4000)) ∧ w = w' := by
  go_enter Tryd.func76, Tryd.ntmps76
  go_wp2_with (go_at_call 83; refine (l1In_c _ _ _ _).mono ?_; rintro e w' ⟨rfl, rfl⟩)
  go_ret
  exact ⟨rfl, rfl⟩

/-! ### one damage -/
set_option maxHeartbeats 400000 in
theorem l22One_c (x : Dmg) (w : World) : Calls Tryd.prog 95 #[.agg x.enc.toArray] w fun e w' => e = .returned (.bool (dmgOk x)) ∧ Below w.heap.size w w' := by
  obtain ⟨s, t, f, st⟩ := x
  show Calls Tryd.prog 95 #[.agg #[.int .i64 s, .int .i64 t, .int .i64 f, .int .i64 st]] w _
  go_enter Tryd.func95, Tryd.ntmps95
  go_wp2_with (go_at_call 83; refine (l1In_c _ _ _ _).mono ?_; rintro e w' ⟨rfl, rfl⟩)
  all_goals go_ret
  all_goals refine ⟨ret_bool ?_, by go_grown⟩
  all_goals simp_all [dmgOk]
set_option maxHeartbeats 400000 in
theorem isDamage_c (x : Dmg) (w : World) : Calls Tryd.prog 96 #[.agg x.enc.toArray] w fun e w' => e = .returned (.bool (dmgOk x)) ∧ Below w.heap.size w w' := by
  obtain ⟨s, t, f, st⟩ := x
  show Calls Tryd.prog 96 #[.agg #[.int .i64 s, .int .i64 t, .int .i64 f, .int .i64 st]] w _
  go_enter Tryd.func96, Tryd.ntmps96
  go_wp2_with (first | (go_at_call 89; refine (within_c _ _ _ _).mono ?_; rintro e w' ⟨rfl, rfl⟩) | (go_at_call 79; refine (isId_c _ _).mono ?_; rintro e w' ⟨rfl, rfl⟩))
  all_goals go_ret
  all_goals refine ⟨ret_bool ?_, by go_grown⟩
  all_goals simp_all [dmgOk]

/-! ### lists of damages -/
theorem dmg_ways (l : List Dmg) (k : Nat) : (dmgOk (gd l k) = false ∧ Hid (dmgAt l k = false)) ∨ (dmgOk (gd l k) = true ∧ ¬ 0 < k ∧ Hid (dmgAt l k = true)) ∨
    (dmgOk (gd l k) = true ∧ 0 < k ∧ (gd l (k - 1)).s < (gd l k).s ∧ Hid (dmgAt l k = true)) ∨ (dmgOk (gd l k) = true ∧ 0 < k ∧ ¬ (gd l (k - 1)).s < (gd l k).s ∧ Hid (dmgAt l k = false)) := by
  unfold Hid
  cases h : dmgOk (gd l k)
  · exact .inl ⟨rfl, by simp [dmgAt, h]⟩
  · by_cases h0 : 0 < k
    · by_cases h1 : (gd l (k - 1)).s < (gd l k).s
      · exact .inr (.inr (.inl ⟨rfl, h0, h1, by simp [dmgAt, h, h1]⟩))
      · exact .inr (.inr (.inr ⟨rfl, h0, h1, by simp [dmgAt, h, h1]; omega⟩))
    · exact .inr (.inl ⟨rfl, h0, by simp [dmgAt, h]; omega⟩)
end Go.Proofs.YtkflcpfekaddpaaDoor
