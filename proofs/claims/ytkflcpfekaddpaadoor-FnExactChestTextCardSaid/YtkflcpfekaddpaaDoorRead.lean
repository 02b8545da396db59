/- What the laws' arguments read as. -/
import Derived.Test.YtkflcpfekaddpaaDoorRow
namespace Go.Proofs.YtkflcpfekaddpaaDoor
open Go.ChangeShapes Go.WideShapes Go.ChangeAt Go.RowKit
set_option maxRecDepth 100000
theorem u3 : Tryd.prog.underlying 3 = some (.int .i64) := Tryd.underlying3
theorem c3 : Tryd.prog.cellsOf 3 = 1 := by kernel_rfl
section
variable {H : Type} {enc : TypeId × Value → H} {w : World}
theorem readInt {v : Value} {d : DataW H} {ps : List MemPlace} {base : Nat} (h : DataW.Trod enc Tryd.prog w 0 (fun _ => true) true 3 v d ps) (hv : Value.okWide Tryd.prog w .any base 3 v) : ∃ x : Int, v = .int .i64 x ∧ -9223372036854775808 ≤ x ∧ x ≤ 9223372036854775807 := by
  obtain ⟨x, rfl, _, _, wx⟩ := open_int u3 hv h
  exact ⟨x, rfl, by simpa [Lit.wf, IntKind.min, IntKind.max, IntKind.signed, IntKind.bits] using wx⟩

theorem u9 : Tryd.prog.underlying 9 = some .string := Tryd.underlying9
theorem c9 : Tryd.prog.cellsOf 9 = 1 := by kernel_rfl
theorem cDamage : Tryd.prog.cellsOf 64 = 4 := by kernel_rfl
theorem elDamage (n : Nat) (cs : List Value) (x : DataW H × List MemPlace) (h : DataW.trod enc Tryd.prog w 0 (fun _ => true) true n 64 cs = some x) : ∃ y : Dmg, cs = y.enc := by
  obtain ⟨xs, n', _, _, hlen, hxl, hf⟩ := DataW.trod_struct Tryd.underlying64 h
  rw [cDamage] at hlen
  match cs, hlen with
  | [v0, v1, v2, v3], _ =>
    match xs, hxl with
    | [y0, y1, y2, y3], _ =>
      obtain ⟨i0, e0, _, _⟩ := DataW.trod_int u3 (show DataW.trod enc Tryd.prog w 0 (fun _ => true) true n' 3 [v0] = some y0 by simpa [c3] using hf 0 _ rfl)
      obtain ⟨i1, e1, _, _⟩ := DataW.trod_int u3 (show DataW.trod enc Tryd.prog w 0 (fun _ => true) true n' 3 [v1] = some y1 by simpa [c3] using hf 1 _ rfl)
      obtain ⟨i2, e2, _, _⟩ := DataW.trod_int u3 (show DataW.trod enc Tryd.prog w 0 (fun _ => true) true n' 3 [v2] = some y2 by simpa [c3] using hf 2 _ rfl)
      obtain ⟨i3, e3, _, _⟩ := DataW.trod_int u3 (show DataW.trod enc Tryd.prog w 0 (fun _ => true) true n' 3 [v3] = some y3 by simpa [c3] using hf 3 _ rfl)
      simp only [List.cons.injEq, and_true] at e0 e1 e2 e3
      subst e0 e1 e2 e3
      exact ⟨⟨i0, i1, i2, i3⟩, rfl⟩
theorem readDamage {v : Value} {d : DataW H} {ps : List MemPlace} {base : Nat} (h : DataW.Trod enc Tryd.prog w 0 (fun _ => true) true 64 v d ps) (hv : Value.okWide Tryd.prog w .any base 64 v) : ∃ x : Dmg, v = .agg x.enc.toArray := by
  obtain ⟨cs, rfl, _⟩ := okWide_struct Tryd.underlying64 hv
  obtain ⟨n, hn⟩ := h
  obtain ⟨y, hy⟩ := elDamage _ _ _ hn
  exact ⟨y, by rw [← hy]; rfl⟩

theorem cIssue : Tryd.prog.cellsOf 23 = 4 := by kernel_rfl
theorem elIssue (n : Nat) (cs : List Value) (x : DataW H × List MemPlace) (h : DataW.trod enc Tryd.prog w 0 (fun _ => true) true n 23 cs = some x) : ∃ y : Iss, cs = y.enc := by
  obtain ⟨xs, n', _, _, hlen, hxl, hf⟩ := DataW.trod_struct Tryd.underlying23 h
  rw [cIssue] at hlen
  match cs, hlen with
  | [v0, v1, v2, v3], _ =>
    match xs, hxl with
    | [y0, y1, y2, y3], _ =>
      obtain ⟨i0, e0, _, _⟩ := DataW.trod_int u3 (show DataW.trod enc Tryd.prog w 0 (fun _ => true) true n' 3 [v0] = some y0 by simpa [c3] using hf 0 _ rfl)
      obtain ⟨i1, e1, _, _⟩ := DataW.trod_int u3 (show DataW.trod enc Tryd.prog w 0 (fun _ => true) true n' 3 [v1] = some y1 by simpa [c3] using hf 1 _ rfl)
      obtain ⟨i2, e2, _, _⟩ := DataW.trod_int u3 (show DataW.trod enc Tryd.prog w 0 (fun _ => true) true n' 3 [v2] = some y2 by simpa [c3] using hf 2 _ rfl)
      obtain ⟨i3, e3, _, _⟩ := DataW.trod_int u3 (show DataW.trod enc Tryd.prog w 0 (fun _ => true) true n' 3 [v3] = some y3 by simpa [c3] using hf 3 _ rfl)
      simp only [List.cons.injEq, and_true] at e0 e1 e2 e3
      subst e0 e1 e2 e3
      exact ⟨⟨i0, i1, i2, i3⟩, rfl⟩
theorem readIssue {v : Value} {d : DataW H} {ps : List MemPlace} {base : Nat} (h : DataW.Trod enc Tryd.prog w 0 (fun _ => true) true 23 v d ps) (hv : Value.okWide Tryd.prog w .any base 23 v) : ∃ x : Iss, v = .agg x.enc.toArray := by
  obtain ⟨cs, rfl, _⟩ := okWide_struct Tryd.underlying23 hv
  obtain ⟨n, hn⟩ := h
  obtain ⟨y, hy⟩ := elIssue _ _ _ hn
  exact ⟨y, by rw [← hy]; rfl⟩

theorem elInt (n : Nat) (cs : List Value) (x : DataW H × List MemPlace) (h : DataW.trod enc Tryd.prog w 0 (fun _ => true) true n 3 cs = some x) : ∃ y : Int, cs = IntE.enc y := by
  obtain ⟨i, e, _, _⟩ := DataW.trod_int u3 h
  exact ⟨i, e⟩
theorem cellIntS {n : Nat} {v : Value} {x : DataW H × List MemPlace} (h : DataW.trod enc Tryd.prog w 0 (fun _ => true) true n 54 [v] = some x) : ∃ l : List Int, Sl w IntE.enc 1 v l :=
  have hc := read_cell Tryd.underlying54 h
  read_flat IntE.enc Tryd.underlying54 c3 (by omega) elInt hc.2 hc.1
theorem readIntS {v : Value} {d : DataW H} {ps : List MemPlace} {base : Nat} (h : DataW.Trod enc Tryd.prog w 0 (fun _ => true) true 54 v d ps) (hv : Value.okWide Tryd.prog w .any base 54 v) : ∃ l : List Int, Sl w IntE.enc 1 v l :=
  read_flat IntE.enc Tryd.underlying54 c3 (by omega) elInt h (okWide_slice Tryd.underlying54 hv)
theorem cIntS : Tryd.prog.cellsOf 54 = 1 := by kernel_rfl

theorem cChest : Tryd.prog.cellsOf 56 = 6 := by kernel_rfl
theorem readChest {v : Value} {d : DataW H} {ps : List MemPlace} {base : Nat} (h : DataW.Trod enc Tryd.prog w 0 (fun _ => true) true 56 v d ps) (hv : Value.okWide Tryd.prog w .any base 56 v) :
    ∃ (a b : Int) (s : Value) (l : List Int) (c d e : Int), v = .agg #[.int .i64 a, .int .i64 b, s, .int .i64 c, .int .i64 d, .int .i64 e] ∧ Sl w IntE.enc 1 s l := by
  obtain ⟨cs, rfl, _⟩ := okWide_struct Tryd.underlying56 hv
  obtain ⟨n, hn⟩ := h
  obtain ⟨xs, n', _, _, hlen, hxl, hf⟩ := DataW.trod_struct Tryd.underlying56 hn
  rw [cChest] at hlen
  obtain ⟨cs⟩ := cs
  simp only [Value.cells] at hlen hf
  match cs, hlen with
  | [v0, v1, v2, v3, v4, v5], _ =>
    match xs, hxl with
    | [y0, y1, y2, y3, y4, y5], _ =>
      obtain ⟨i0, e0, _, _⟩ := DataW.trod_int u3 (show DataW.trod enc Tryd.prog w 0 (fun _ => true) true n' 3 [v0] = some y0 by simpa [c3] using hf 0 _ rfl)
      obtain ⟨i1, e1, _, _⟩ := DataW.trod_int u3 (show DataW.trod enc Tryd.prog w 0 (fun _ => true) true n' 3 [v1] = some y1 by simpa [c3] using hf 1 _ rfl)
      obtain ⟨l, hl⟩ := cellIntS (show DataW.trod enc Tryd.prog w 0 (fun _ => true) true n' 54 [v2] = some y2 by simpa [cIntS] using hf 2 _ rfl)
      obtain ⟨i3, e3, _, _⟩ := DataW.trod_int u3 (show DataW.trod enc Tryd.prog w 0 (fun _ => true) true n' 3 [v3] = some y3 by simpa [c3] using hf 3 _ rfl)
      obtain ⟨i4, e4, _, _⟩ := DataW.trod_int u3 (show DataW.trod enc Tryd.prog w 0 (fun _ => true) true n' 3 [v4] = some y4 by simpa [c3] using hf 4 _ rfl)
      obtain ⟨i5, e5, _, _⟩ := DataW.trod_int u3 (show DataW.trod enc Tryd.prog w 0 (fun _ => true) true n' 3 [v5] = some y5 by simpa [c3] using hf 5 _ rfl)
      simp only [List.cons.injEq, and_true] at e0 e1 e3 e4 e5
      subst e0 e1 e3 e4 e5
      exact ⟨_, _, _, l, _, _, _, rfl, hl⟩

end
end Go.Proofs.YtkflcpfekaddpaaDoor
