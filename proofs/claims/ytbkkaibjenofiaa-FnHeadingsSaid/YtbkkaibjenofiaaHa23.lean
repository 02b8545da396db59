/- Headings: the reference's AreHeadings. No condition but sizes. -/
import Derived.Test.YtbkkaibjenofiaaHx23
import Derived.Test.YtbkkaibjenofiaaHw23
namespace Go.Proofs.Ytbkkaibjenofiaa
open Go.RowKit
set_option maxHeartbeats 1000000 in
theorem specAreHeadings_c (v : Value) (l : List Hdg) (w : World) (h : Sl w Hdg.enc 4 v l) (hd : Hdg.Deep w l) (hs : ∀ i, i < l.length → (gd l i).Fits) : Calls Try.prog 26 #[v] w fun e w' => e = .returned (.bool (areHd l)) ∧ Below w.heap.size w w' := by
  have HA := Lib.hid (l23Good_c v l w h hd hs)
  go_enter Try.func26, Try.ntmps26
  go_wp2_with (go_at_call 54; refine HA.out.mono ?_; rintro e w1 ⟨rfl, hb1⟩)
  go_ret
  exact ⟨rfl, hb1⟩
end Go.Proofs.Ytbkkaibjenofiaa
