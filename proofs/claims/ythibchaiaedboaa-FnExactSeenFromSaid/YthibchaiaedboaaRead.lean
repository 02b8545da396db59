/- What the laws' arguments read as. -/
import Derived.Test.YthibchaiaedboaaRow
namespace Go.Proofs.Ythibchaiaedboaa
open Go.ChangeShapes Go.WideShapes Go.ChangeAt Go.RowKit
set_option maxRecDepth 100000
theorem u3 : Try.prog.underlying 3 = some (.int .i64) := Try.underlying3
theorem c3 : Try.prog.cellsOf 3 = 1 := by kernel_rfl
section
variable {H : Type} {enc : TypeId × Value → H} {w : World}
theorem readInt {v : Value} {d : DataW H} {ps : List MemPlace} {base : Nat} (h : DataW.Trod enc Try.prog w 0 (fun _ => true) true 3 v d ps) (hv : Value.okWide Try.prog w .any base 3 v) : ∃ x : Int, v = .int .i64 x ∧ -9223372036854775808 ≤ x ∧ x ≤ 9223372036854775807 := by
  obtain ⟨x, rfl, _, _, wx⟩ := open_int u3 hv h
  exact ⟨x, rfl, by simpa [Lit.wf, IntKind.min, IntKind.max, IntKind.signed, IntKind.bits] using wx⟩

theorem u9 : Try.prog.underlying 9 = some .string := Try.underlying9
theorem c9 : Try.prog.cellsOf 9 = 1 := by kernel_rfl
theorem cDamage : Try.prog.cellsOf 142 = 4 := by kernel_rfl
theorem elDamage (n : Nat) (cs : List Value) (x : DataW H × List MemPlace) (h : DataW.trod enc Try.prog w 0 (fun _ => true) true n 142 cs = some x) : ∃ y : Dmg, cs = y.enc := by
  obtain ⟨xs, n', _, _, hlen, hxl, hf⟩ := DataW.trod_struct Try.underlying142 h
  rw [cDamage] at hlen
  match cs, hlen with
  | [v0, v1, v2, v3], _ =>
    match xs, hxl with
    | [y0, y1, y2, y3], _ =>
      obtain ⟨i0, e0, _, _⟩ := DataW.trod_int u3 (show DataW.trod enc Try.prog w 0 (fun _ => true) true n' 3 [v0] = some y0 by simpa [c3] using hf 0 _ rfl)
      obtain ⟨i1, e1, _, _⟩ := DataW.trod_int u3 (show DataW.trod enc Try.prog w 0 (fun _ => true) true n' 3 [v1] = some y1 by simpa [c3] using hf 1 _ rfl)
      obtain ⟨i2, e2, _, _⟩ := DataW.trod_int u3 (show DataW.trod enc Try.prog w 0 (fun _ => true) true n' 3 [v2] = some y2 by simpa [c3] using hf 2 _ rfl)
      obtain ⟨i3, e3, _, _⟩ := DataW.trod_int u3 (show DataW.trod enc Try.prog w 0 (fun _ => true) true n' 3 [v3] = some y3 by simpa [c3] using hf 3 _ rfl)
      simp only [List.cons.injEq, and_true] at e0 e1 e2 e3
      subst e0 e1 e2 e3
      exact ⟨⟨i0, i1, i2, i3⟩, rfl⟩
theorem readDamage {v : Value} {d : DataW H} {ps : List MemPlace} {base : Nat} (h : DataW.Trod enc Try.prog w 0 (fun _ => true) true 142 v d ps) (hv : Value.okWide Try.prog w .any base 142 v) : ∃ x : Dmg, v = .agg x.enc.toArray := by
  obtain ⟨cs, rfl, _⟩ := okWide_struct Try.underlying142 hv
  obtain ⟨n, hn⟩ := h
  obtain ⟨y, hy⟩ := elDamage _ _ _ hn
  exact ⟨y, by rw [← hy]; rfl⟩

theorem readDamageS {v : Value} {d : DataW H} {ps : List MemPlace} {base : Nat} (h : DataW.Trod enc Try.prog w 0 (fun _ => true) true 56 v d ps) (hv : Value.okWide Try.prog w .any base 56 v) : ∃ l : List Dmg, Sl w Dmg.enc 4 v l :=
  read_flat Dmg.enc Try.underlying56 cDamage (by omega) elDamage h (okWide_slice Try.underlying56 hv)

theorem cRepair : Try.prog.cellsOf 59 = 3 := by kernel_rfl
theorem elRepair (n : Nat) (cs : List Value) (x : DataW H × List MemPlace) (h : DataW.trod enc Try.prog w 0 (fun _ => true) true n 59 cs = some x) : ∃ y : Rep, cs = y.enc := by
  obtain ⟨xs, n', _, _, hlen, hxl, hf⟩ := DataW.trod_struct Try.underlying59 h
  rw [cRepair] at hlen
  match cs, hlen with
  | [v0, v1, v2], _ =>
    match xs, hxl with
    | [y0, y1, y2], _ =>
      obtain ⟨i0, e0, _, _⟩ := DataW.trod_int u3 (show DataW.trod enc Try.prog w 0 (fun _ => true) true n' 3 [v0] = some y0 by simpa [c3] using hf 0 _ rfl)
      obtain ⟨i1, e1, _, _⟩ := DataW.trod_int u3 (show DataW.trod enc Try.prog w 0 (fun _ => true) true n' 3 [v1] = some y1 by simpa [c3] using hf 1 _ rfl)
      obtain ⟨i2, e2, _, _⟩ := DataW.trod_int u3 (show DataW.trod enc Try.prog w 0 (fun _ => true) true n' 3 [v2] = some y2 by simpa [c3] using hf 2 _ rfl)
      simp only [List.cons.injEq, and_true] at e0 e1 e2
      subst e0 e1 e2
      exact ⟨⟨i0, i1, i2⟩, rfl⟩
theorem readRepair {v : Value} {d : DataW H} {ps : List MemPlace} {base : Nat} (h : DataW.Trod enc Try.prog w 0 (fun _ => true) true 59 v d ps) (hv : Value.okWide Try.prog w .any base 59 v) : ∃ x : Rep, v = .agg x.enc.toArray := by
  obtain ⟨cs, rfl, _⟩ := okWide_struct Try.underlying59 hv
  obtain ⟨n, hn⟩ := h
  obtain ⟨y, hy⟩ := elRepair _ _ _ hn
  exact ⟨y, by rw [← hy]; rfl⟩

theorem readRepairS {v : Value} {d : DataW H} {ps : List MemPlace} {base : Nat} (h : DataW.Trod enc Try.prog w 0 (fun _ => true) true 57 v d ps) (hv : Value.okWide Try.prog w .any base 57 v) : ∃ l : List Rep, Sl w Rep.enc 3 v l :=
  read_flat Rep.enc Try.underlying57 cRepair (by omega) elRepair h (okWide_slice Try.underlying57 hv)

theorem cIssue : Try.prog.cellsOf 24 = 4 := by kernel_rfl
theorem elIssue (n : Nat) (cs : List Value) (x : DataW H × List MemPlace) (h : DataW.trod enc Try.prog w 0 (fun _ => true) true n 24 cs = some x) : ∃ y : Iss, cs = y.enc := by
  obtain ⟨xs, n', _, _, hlen, hxl, hf⟩ := DataW.trod_struct Try.underlying24 h
  rw [cIssue] at hlen
  match cs, hlen with
  | [v0, v1, v2, v3], _ =>
    match xs, hxl with
    | [y0, y1, y2, y3], _ =>
      obtain ⟨i0, e0, _, _⟩ := DataW.trod_int u3 (show DataW.trod enc Try.prog w 0 (fun _ => true) true n' 3 [v0] = some y0 by simpa [c3] using hf 0 _ rfl)
      obtain ⟨i1, e1, _, _⟩ := DataW.trod_int u3 (show DataW.trod enc Try.prog w 0 (fun _ => true) true n' 3 [v1] = some y1 by simpa [c3] using hf 1 _ rfl)
      obtain ⟨i2, e2, _, _⟩ := DataW.trod_int u3 (show DataW.trod enc Try.prog w 0 (fun _ => true) true n' 3 [v2] = some y2 by simpa [c3] using hf 2 _ rfl)
      obtain ⟨i3, e3, _, _⟩ := DataW.trod_int u3 (show DataW.trod enc Try.prog w 0 (fun _ => true) true n' 3 [v3] = some y3 by simpa [c3] using hf 3 _ rfl)
      simp only [List.cons.injEq, and_true] at e0 e1 e2 e3
      subst e0 e1 e2 e3
      exact ⟨⟨i0, i1, i2, i3⟩, rfl⟩
theorem readIssue {v : Value} {d : DataW H} {ps : List MemPlace} {base : Nat} (h : DataW.Trod enc Try.prog w 0 (fun _ => true) true 24 v d ps) (hv : Value.okWide Try.prog w .any base 24 v) : ∃ x : Iss, v = .agg x.enc.toArray := by
  obtain ⟨cs, rfl, _⟩ := okWide_struct Try.underlying24 hv
  obtain ⟨n, hn⟩ := h
  obtain ⟨y, hy⟩ := elIssue _ _ _ hn
  exact ⟨y, by rw [← hy]; rfl⟩

theorem readIssueS {v : Value} {d : DataW H} {ps : List MemPlace} {base : Nat} (h : DataW.Trod enc Try.prog w 0 (fun _ => true) true 22 v d ps) (hv : Value.okWide Try.prog w .any base 22 v) : ∃ l : List Iss, Sl w Iss.enc 4 v l :=
  read_flat Iss.enc Try.underlying22 cIssue (by omega) elIssue h (okWide_slice Try.underlying22 hv)

theorem elInt (n : Nat) (cs : List Value) (x : DataW H × List MemPlace) (h : DataW.trod enc Try.prog w 0 (fun _ => true) true n 3 cs = some x) : ∃ y : Int, cs = IntE.enc y := by
  obtain ⟨i, e, _, _⟩ := DataW.trod_int u3 h
  exact ⟨i, e⟩
theorem cellIntS {n : Nat} {v : Value} {x : DataW H × List MemPlace} (h : DataW.trod enc Try.prog w 0 (fun _ => true) true n 49 [v] = some x) : ∃ l : List Int, Sl w IntE.enc 1 v l :=
  have hc := read_cell Try.underlying49 h
  read_flat IntE.enc Try.underlying49 c3 (by omega) elInt hc.2 hc.1
theorem readIntS {v : Value} {d : DataW H} {ps : List MemPlace} {base : Nat} (h : DataW.Trod enc Try.prog w 0 (fun _ => true) true 49 v d ps) (hv : Value.okWide Try.prog w .any base 49 v) : ∃ l : List Int, Sl w IntE.enc 1 v l :=
  read_flat IntE.enc Try.underlying49 c3 (by omega) elInt h (okWide_slice Try.underlying49 hv)
theorem cIntS : Try.prog.cellsOf 49 = 1 := by kernel_rfl

end
end Go.Proofs.Ythibchaiaedboaa
