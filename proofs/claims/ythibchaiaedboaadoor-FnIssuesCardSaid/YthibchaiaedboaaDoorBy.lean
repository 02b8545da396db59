/- A slice of bytes as an argument of a law. -/
import Derived.Test.YthibchaiaedboaaDoorRead
import Derived.Test.YthibchaiaedboaaDoorDx20
namespace Go.Proofs.YthibchaiaedboaaDoor
open Go.ChangeShapes Go.WideShapes Go.ChangeAt Go.RowKit
set_option maxRecDepth 100000
theorem u5 : Tryd.prog.underlying 5 = some (.int .u8) := Tryd.underlying5
theorem c5 : Tryd.prog.cellsOf 5 = 1 := by kernel_rfl
section
variable {H : Type} {enc : TypeId × Value → H} {w : World}
theorem elByte (n : Nat) (cs : List Value) (x : DataW H × List MemPlace) (h : DataW.trod enc Tryd.prog w 0 (fun _ => true) true n 5 cs = some x) : ∃ y : Int, cs = [.int .u8 y] ∧ 0 ≤ y ∧ y ≤ 255 := by
  obtain ⟨i, e, h1, h2⟩ := DataW.trod_int u5 h
  exact ⟨i, e, by simpa [Lit.wf, IntKind.min, IntKind.max, IntKind.signed, IntKind.bits] using h2⟩
theorem readBytes {v : Value} {d : DataW H} {ps : List MemPlace} {base : Nat} (h : DataW.Trod enc Tryd.prog w 0 (fun _ => true) true 22 v d ps) (hv : Value.okWide Tryd.prog w .any base 22 v) : Bytes w v := by
  obtain ⟨l, a, cap, b, off, rfl, h1, h2, h3⟩ := read_slice (fun _ (y : Int) cs => cs = [.int .u8 y] ∧ 0 ≤ y ∧ y ≤ 255) Tryd.underlying22 elByte h (okWide_slice Tryd.underlying22 hv)
  refine ⟨a, l.length, cap, b, off, rfl, h1, h2, fun i hi => ?_⟩
  obtain ⟨cs, ⟨rfl, y1, y2⟩, h4, h5, h6⟩ := h3 i hi
  rw [c5] at h5 h6
  obtain ⟨h7, h8⟩ := h5 (by omega)
  have := h6 0 _ rfl
  rw [Nat.mul_one, Nat.add_zero] at this
  exact ⟨h7, h8, gd l i, y1, y2, this⟩
end
set_option maxHeartbeats 400000 in
theorem vBig_yes (a : Option Addr) (n cap : Nat) (w : World) (hn : n ≤ 9223372036854775807) (h : 65536 < n) : Calls Tryd.prog 6 #[.slice a n cap] w fun e w' => e = .returned (.bool true) ∧ w = w' := by
  go_enter Tryd.func6, Tryd.ntmps6
  go_wp2_with fail
  go_ret
  exact ⟨ret_bool (by simp; omega), rfl⟩
theorem vBig_no (a : Option Addr) (n cap : Nat) (w : World) (h : ¬ 65536 < n) : Calls Tryd.prog 6 #[.slice a n cap] w fun e w' => e = .returned (.bool false) ∧ w = w' := by
  go_enter Tryd.func6, Tryd.ntmps6
  go_wp2_with fail
  go_ret
  exact ⟨ret_bool (by simp; omega), rfl⟩
end Go.Proofs.YthibchaiaedboaaDoor
