/- Bounds: the small tests on numbers. No condition. -/
import Derived.Test.YtdkegbegleamnaaBase
namespace Go.Proofs.Ytdkegbegleamnaa
open Go.RowKit
set_option maxHeartbeats 400000 in
theorem l1In_c (x a b : Int) (w : World) : Calls Try.prog 98 #[.int .i64 x, .int .i64 a, .int .i64 b] w fun e w' => e = .returned (.bool (inB x a b)) ∧ w = w' := by
  unfold inB
  go_enter Try.func98, Try.ntmps98
  go_wp2
  all_goals go_ret
  all_goals first | (simp_all; done) | (simp_all; omega)
set_option maxHeartbeats 400000 in
theorem within_c (x a b : Int) (w : World) : Calls Try.prog 65 #[.int .i64 x, .int .i64 a, .int .i64 b] w fun e w' => e = .returned (.bool (inB x a b)) ∧ w = w' := by
  unfold inB
  go_enter Try.func65, Try.ntmps65
  go_wp2
  all_goals go_ret
  all_goals first | (simp_all; done) | (simp_all; omega)
end Go.Proofs.Ytdkegbegleamnaa
