/- A slice of bytes as an argument of a law, and as what choices are read from. No condition. -/
import Derived.Test.YteainpflmofjaaaGreatDoorRead
import Derived.Test.YteainpflmofjaaaGreatDoorCu
namespace Go.Proofs.YteainpflmofjaaaGreatDoor
open Go.ChangeShapes Go.WideShapes Go.ChangeAt Go.RowKit
/-- a slice of bytes that came in -/
def Bytes (w : World) (v : Value) : Prop := ∃ (a : Option Addr) (n cap b off : Nat), v = .slice a n cap ∧ n ≤ cap ∧ cap ≤ maxLen ∧ ∀ i, i < n → a = some ⟨b, off, none⟩ ∧ b < w.heap.size ∧ ∃ x : Int, 0 ≤ x ∧ x ≤ 255 ∧ w.cell? ⟨b, off + i, none⟩ = some (.int .u8 x)
theorem Bytes.mono {w w' : World} {v : Value} (h : Bytes w v) (hb : Below w.heap.size w w') : Bytes w' v := by
  obtain ⟨a, n, cap, b, off, rfl, h1, h2, h3⟩ := h
  refine ⟨a, n, cap, b, off, rfl, h1, h2, fun i hi => ?_⟩
  obtain ⟨e, h4, x, x1, x2, x3⟩ := h3 i hi
  exact ⟨e, Nat.lt_of_lt_of_le h4 hb.size, x, x1, x2, cellOn hb x3⟩
theorem Bytes.cur {w : World} {v : Value} {t : TypeId} (h : Bytes w v) : Cur (w.alloc (.cells #[v, .int .i64 0, .int .u64 0] t)) w.heap.size 0 := by
  obtain ⟨a, n, cap, b, off, rfl, h1, h2, h3⟩ := h
  refine ⟨a, n, cap, b, off, 0, 0, by simp, h1, h2, fun i hi => ?_, by simp, Nat.le_refl _, by simp, fun j => by simp⟩
  obtain ⟨e, h4, x, x1, x2, x3⟩ := h3 i hi
  exact ⟨e, h4, x, x1, x2, cellOn (below_alloc _ _) x3⟩
theorem below_of_grown {w w' : World} {o : Obj} (h : (w.alloc o).grownBy w' (some w.heap.size)) : Below w.heap.size w w' := by
  have h1 := below_alloc w o
  exact h1.grown h (by simp) (fun g hg => by injection hg with hg; omega)
set_option maxRecDepth 100000
theorem u5 : Tryz.prog.underlying 5 = some (.int .u8) := Tryz.underlying5
theorem c5 : Tryz.prog.cellsOf 5 = 1 := by kernel_rfl
section
variable {H : Type} {enc : TypeId × Value → H} {w : World}
theorem elByte (n : Nat) (cs : List Value) (x : DataW H × List MemPlace) (h : DataW.trod enc Tryz.prog w 0 (fun _ => true) true n 5 cs = some x) : ∃ y : Int, cs = [.int .u8 y] ∧ 0 ≤ y ∧ y ≤ 255 := by
  obtain ⟨i, e, h1, h2⟩ := DataW.trod_int u5 h
  exact ⟨i, e, by simpa [Lit.wf, IntKind.min, IntKind.max, IntKind.signed, IntKind.bits] using h2⟩
theorem readBytes {v : Value} {d : DataW H} {ps : List MemPlace} {base : Nat} (h : DataW.Trod enc Tryz.prog w 0 (fun _ => true) true 22 v d ps) (hv : Value.okWide Tryz.prog w .any base 22 v) : Bytes w v := by
  obtain ⟨l, a, cap, b, off, rfl, h1, h2, h3⟩ := read_slice (fun _ (y : Int) cs => cs = [.int .u8 y] ∧ 0 ≤ y ∧ y ≤ 255) Tryz.underlying22 elByte h (okWide_slice Tryz.underlying22 hv)
  refine ⟨a, l.length, cap, b, off, rfl, h1, h2, fun i hi => ?_⟩
  obtain ⟨cs, ⟨rfl, y1, y2⟩, h4, h5, h6⟩ := h3 i hi
  rw [c5] at h5 h6
  obtain ⟨h7, h8⟩ := h5 (by omega)
  have := h6 0 _ rfl
  rw [Nat.mul_one, Nat.add_zero] at this
  exact ⟨h7, h8, gd l i, y1, y2, this⟩
end
set_option maxHeartbeats 400000 in
theorem rBig_yes (a : Option Addr) (n cap : Nat) (w : World) (hn : n ≤ 9223372036854775807) (h : 65536 < n) : Calls Tryz.prog 4 #[.slice a n cap] w fun e w' => e = .returned (.bool true) ∧ w = w' := by
  go_enter Tryz.func4, Tryz.ntmps4
  go_wp2_with fail
  go_ret
  exact ⟨ret_bool (by simp; omega), rfl⟩
theorem rBig_no (a : Option Addr) (n cap : Nat) (w : World) (h : ¬ 65536 < n) : Calls Tryz.prog 4 #[.slice a n cap] w fun e w' => e = .returned (.bool false) ∧ w = w' := by
  go_enter Tryz.func4, Tryz.ntmps4
  go_wp2_with fail
  go_ret
  exact ⟨ret_bool (by simp; omega), rfl⟩
end Go.Proofs.YteainpflmofjaaaGreatDoor
