/- What the laws' arguments read as. -/
import Derived.Test.YteainpflmofjaaaGreatDoorRow
namespace Go.Proofs.YteainpflmofjaaaGreatDoor
open Go.ChangeShapes Go.WideShapes Go.ChangeAt Go.RowKit
set_option maxRecDepth 100000
theorem u3 : Tryz.prog.underlying 3 = some (.int .i64) := Tryz.underlying3
theorem c3 : Tryz.prog.cellsOf 3 = 1 := by kernel_rfl
section
variable {H : Type} {enc : TypeId × Value → H} {w : World}
theorem readInt {v : Value} {d : DataW H} {ps : List MemPlace} {base : Nat} (h : DataW.Trod enc Tryz.prog w 0 (fun _ => true) true 3 v d ps) (hv : Value.okWide Tryz.prog w .any base 3 v) : ∃ x : Int, v = .int .i64 x ∧ -9223372036854775808 ≤ x ∧ x ≤ 9223372036854775807 := by
  obtain ⟨x, rfl, _, _, wx⟩ := open_int u3 hv h
  exact ⟨x, rfl, by simpa [Lit.wf, IntKind.min, IntKind.max, IntKind.signed, IntKind.bits] using wx⟩

theorem u9 : Tryz.prog.underlying 9 = some .string := Tryz.underlying9
theorem c9 : Tryz.prog.cellsOf 9 = 1 := by kernel_rfl
theorem elInt (n : Nat) (cs : List Value) (x : DataW H × List MemPlace) (h : DataW.trod enc Tryz.prog w 0 (fun _ => true) true n 3 cs = some x) : ∃ y : Int, cs = IntE.enc y := by
  obtain ⟨i, e, _, _⟩ := DataW.trod_int u3 h
  exact ⟨i, e⟩
theorem cellIntS {n : Nat} {v : Value} {x : DataW H × List MemPlace} (h : DataW.trod enc Tryz.prog w 0 (fun _ => true) true n 28 [v] = some x) : ∃ l : List Int, Sl w IntE.enc 1 v l :=
  have hc := read_cell Tryz.underlying28 h
  read_flat IntE.enc Tryz.underlying28 c3 (by omega) elInt hc.2 hc.1
theorem readIntS {v : Value} {d : DataW H} {ps : List MemPlace} {base : Nat} (h : DataW.Trod enc Tryz.prog w 0 (fun _ => true) true 28 v d ps) (hv : Value.okWide Tryz.prog w .any base 28 v) : ∃ l : List Int, Sl w IntE.enc 1 v l :=
  read_flat IntE.enc Tryz.underlying28 c3 (by omega) elInt h (okWide_slice Tryz.underlying28 hv)
theorem cIntS : Tryz.prog.cellsOf 28 = 1 := by kernel_rfl

end
end Go.Proofs.YteainpflmofjaaaGreatDoor
