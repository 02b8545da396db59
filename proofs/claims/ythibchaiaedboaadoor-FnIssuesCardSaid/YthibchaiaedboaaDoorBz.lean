/- The reference's AreIssues; what FnIssues draws. No condition. -/
import Derived.Test.YthibchaiaedboaaDoorBy
import Derived.Test.YthibchaiaedboaaDoorDy20
import Derived.Test.YthibchaiaedboaaDoorIs20
namespace Go.Proofs.YthibchaiaedboaaDoor
open Go.RowKit
set_option maxHeartbeats 400000 in
theorem specAreIssues_c (v : Value) (l : List Iss) (w : World) (h : Sl w Iss.enc 4 v l) : Calls Tryd.prog 12 #[v] w fun e w' => e = .returned (.bool (areIss l)) ∧ Below w.heap.size w w' := by
  have H := Lib.hid (l20Good_c v l w h)
  go_enter Tryd.func12, Tryd.ntmps12
  go_wp2_with fail
  refine H.out.mono ?_
  rintro e w1 ⟨rfl, b1⟩
  go_wp2_with fail
  go_ret
  exact ⟨rfl, b1⟩
end Go.Proofs.YthibchaiaedboaaDoor
