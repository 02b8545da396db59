/- Bounds: the small tests on numbers. No condition. -/
import Derived.Test.YthibchaiaedboaaDoorBase
namespace Go.Proofs.YthibchaiaedboaaDoor
open Go.RowKit
set_option maxHeartbeats 400000 in
theorem l1In_c (x a b : Int) (w : World) : Calls Tryd.prog 64 #[.int .i64 x, .int .i64 a, .int .i64 b] w fun e w' => e = .returned (.bool (inB x a b)) ∧ w = w' := by
  unfold inB
  go_enter Tryd.func64, Tryd.ntmps64
  go_wp2
  all_goals go_ret
  all_goals first | (simp_all; done) | (simp_all; omega)
set_option maxHeartbeats 400000 in
theorem within_c (x a b : Int) (w : World) : Calls Tryd.prog 73 #[.int .i64 x, .int .i64 a, .int .i64 b] w fun e w' => e = .returned (.bool (inB x a b)) ∧ w = w' := by
  unfold inB
  go_enter Tryd.func73, Tryd.ntmps73
  go_wp2
  all_goals go_ret
  all_goals first | (simp_all; done) | (simp_all; omega)
theorem isId_c (x : Int) (w : World) : Calls Tryd.prog 60 #[.int .i64 x] w fun e w' => e = .returned (.bool (inB x 1 999)) ∧ w = w' := by
  go_enter Tryd.func60, Tryd.ntmps60
  go_wp2_with (go_at_call 73; refine (within_c _ _ _ _).mono ?_; rintro e w' ⟨rfl, rfl⟩)
  go_ret
  exact ⟨rfl, rfl⟩
theorem isDay_c (x : Int) (w : World) : Calls Tryd.prog 52 #[.int .i64 x] w fun e w' => e = .returned (.bool (inB x 0 4000)) ∧ w = w' := by
  go_enter Tryd.func52, Tryd.ntmps52
  go_wp2_with (go_at_call 73; refine (within_c _ _ _ _).mono ?_; rintro e w' ⟨rfl, rfl⟩)
  go_ret
  exact ⟨rfl, rfl⟩
theorem isYear_c (x : Int) (w : World) : Calls Tryd.prog 102 #[.int .i64 x] w fun e w' => e = .returned (.bool (inB x 1500 2100)) ∧ w = w' := by
  go_enter Tryd.func102, Tryd.ntmps102
  go_wp2_with (go_at_call 73; refine (within_c _ _ _ _).mono ?_; rintro e w' ⟨rfl, rfl⟩)
  go_ret
  exact ⟨rfl, rfl⟩
theorem l2Day_c (x : Int) (w : World) : Calls Tryd.prog 57 #[.int .i64 x] w fun e w' => e = .returned (.bool (inB x 0 4000)) ∧ w = w' := by
  go_enter Tryd.func57, Tryd.ntmps57
  go_wp2_with (go_at_call 64; refine (l1In_c _ _ _ _).mono ?_; rintro e w' ⟨rfl, rfl⟩)
  go_ret
  exact ⟨rfl, rfl⟩
end Go.Proofs.YthibchaiaedboaaDoor
