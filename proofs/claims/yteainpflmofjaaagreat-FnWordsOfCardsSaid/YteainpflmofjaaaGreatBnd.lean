/- Bounds: the small tests on numbers. No condition. -/
import Derived.Test.YteainpflmofjaaaGreatBase
namespace Go.Proofs.YteainpflmofjaaaGreat
open Go.RowKit
set_option maxHeartbeats 400000 in
theorem l1In_c (x a b : Int) (w : World) : Calls Tryz.prog 80 #[.int .i64 x, .int .i64 a, .int .i64 b] w fun e w' => e = .returned (.bool (inB x a b)) ∧ w = w' := by
  unfold inB
  go_enter Tryz.func80, Tryz.ntmps80
  go_wp2
  all_goals go_ret
  all_goals first | (simp_all; done) | (simp_all; omega)
set_option maxHeartbeats 400000 in
theorem within_c (x a b : Int) (w : World) : Calls Tryz.prog 54 #[.int .i64 x, .int .i64 a, .int .i64 b] w fun e w' => e = .returned (.bool (inB x a b)) ∧ w = w' := by
  unfold inB
  go_enter Tryz.func54, Tryz.ntmps54
  go_wp2
  all_goals go_ret
  all_goals first | (simp_all; done) | (simp_all; omega)
theorem isId_c (x : Int) (w : World) : Calls Tryz.prog 81 #[.int .i64 x] w fun e w' => e = .returned (.bool (inB x 1 999)) ∧ w = w' := by
  go_enter Tryz.func81, Tryz.ntmps81
  go_wp2_with (go_at_call 54; refine (within_c _ _ _ _).mono ?_; rintro e w' ⟨rfl, rfl⟩)
  go_ret
  exact ⟨rfl, rfl⟩
theorem isYear_c (x : Int) (w : World) : Calls Tryz.prog 52 #[.int .i64 x] w fun e w' => e = .returned (.bool (inB x 1500 2100)) ∧ w = w' := by
  go_enter Tryz.func52, Tryz.ntmps52
  go_wp2_with (go_at_call 54; refine (within_c _ _ _ _).mono ?_; rintro e w' ⟨rfl, rfl⟩)
  go_ret
  exact ⟨rfl, rfl⟩
end Go.Proofs.YteainpflmofjaaaGreat
