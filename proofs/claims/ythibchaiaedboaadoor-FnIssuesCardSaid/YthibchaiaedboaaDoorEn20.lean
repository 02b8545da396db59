/- Issues: an issue ends; the days of one issue: by the program and by the reference. No condition but what a slice may hold. -/
import Derived.Test.YthibchaiaedboaaDoorSe20
import Derived.Test.YthibchaiaedboaaDoorTd20
namespace Go.Proofs.YthibchaiaedboaaDoor
open Go.RowKit
set_option maxHeartbeats 400000 in
set_option maxRecDepth 100000 in
theorem issueAt_c (v : Value) (l : List Iss) (s n : Int) (w : World) (h : Sl w Iss.enc 4 v l) (hl : l.length ≤ 1048576) : Calls Tryd.prog 66 #[v, .int .i64 s, .int .i64 n] w (SearchRet l ⟨s, n, 0, 0⟩ w) := by
  go_enter Tryd.func66, Tryd.ntmps66
  go_wp2_with fail
  refine (searchIssue_c _ l ⟨s, n, 0, 0⟩ _ h hl).mono ?_
  rintro e w1 ⟨k, hS, rfl, hb⟩
  go_wp2_with fail
  go_ret2
  exact ⟨k, hS, rfl, hb⟩
end Go.Proofs.YthibchaiaedboaaDoor
