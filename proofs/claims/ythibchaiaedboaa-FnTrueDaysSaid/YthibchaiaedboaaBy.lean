/- A slice of bytes as an argument of a law. -/
import Derived.Test.YthibchaiaedboaaRead
import Derived.Test.YthibchaiaedboaaDx20
namespace Go.Proofs.Ythibchaiaedboaa
open Go.ChangeShapes Go.WideShapes Go.ChangeAt Go.RowKit
set_option maxRecDepth 100000
theorem u5 : Try.prog.underlying 5 = some (.int .u8) := Try.underlying5
theorem c5 : Try.prog.cellsOf 5 = 1 := by kernel_rfl
section
variable {H : Type} {enc : TypeId × Value → H} {w : World}
theorem elByte (n : Nat) (cs : List Value) (x : DataW H × List MemPlace) (h : DataW.trod enc Try.prog w 0 (fun _ => true) true n 5 cs = some x) : ∃ y : Int, cs = [.int .u8 y] ∧ 0 ≤ y ∧ y ≤ 255 := by
  obtain ⟨i, e, h1, h2⟩ := DataW.trod_int u5 h
  exact ⟨i, e, by simpa [Lit.wf, IntKind.min, IntKind.max, IntKind.signed, IntKind.bits] using h2⟩
theorem readBytes {v : Value} {d : DataW H} {ps : List MemPlace} {base : Nat} (h : DataW.Trod enc Try.prog w 0 (fun _ => true) true 35 v d ps) (hv : Value.okWide Try.prog w .any base 35 v) : Bytes w v := by
  obtain ⟨l, a, cap, b, off, rfl, h1, h2, h3⟩ := read_slice (fun _ (y : Int) cs => cs = [.int .u8 y] ∧ 0 ≤ y ∧ y ≤ 255) Try.underlying35 elByte h (okWide_slice Try.underlying35 hv)
  refine ⟨a, l.length, cap, b, off, rfl, h1, h2, fun i hi => ?_⟩
  obtain ⟨cs, ⟨rfl, y1, y2⟩, h4, h5, h6⟩ := h3 i hi
  rw [c5] at h5 h6
  obtain ⟨h7, h8⟩ := h5 (by omega)
  have := h6 0 _ rfl
  rw [Nat.mul_one, Nat.add_zero] at this
  exact ⟨h7, h8, gd l i, y1, y2, this⟩
end
set_option maxHeartbeats 400000 in
theorem vBig_yes (a : Option Addr) (n cap : Nat) (w : World) (hn : n ≤ 9223372036854775807) (h : 65536 < n) : Calls Try.prog 19 #[.slice a n cap] w fun e w' => e = .returned (.bool true) ∧ w = w' := by
  go_enter Try.func19, Try.ntmps19
  go_wp2_with fail
  go_ret
  exact ⟨ret_bool (by simp; omega), rfl⟩
theorem vBig_no (a : Option Addr) (n cap : Nat) (w : World) (h : ¬ 65536 < n) : Calls Try.prog 19 #[.slice a n cap] w fun e w' => e = .returned (.bool false) ∧ w = w' := by
  go_enter Try.func19, Try.ntmps19
  go_wp2_with fail
  go_ret
  exact ⟨ret_bool (by simp; omega), rfl⟩
end Go.Proofs.Ythibchaiaedboaa
