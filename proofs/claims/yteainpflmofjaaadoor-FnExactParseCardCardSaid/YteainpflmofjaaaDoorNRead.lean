/- What arguments read as: strings, slices of strings, structs that hold a slice. -/
import Derived.Test.YteainpflmofjaaaDoorRead
import Derived.Test.YteainpflmofjaaaDoorNest
namespace Go.Proofs.YteainpflmofjaaaDoor
open Go.ChangeShapes Go.WideShapes Go.ChangeAt Go.RowKit
set_option maxRecDepth 100000
section
variable {H : Type} {enc : TypeId × Value → H} {w : World}
theorem readString {v : Value} {d : DataW H} {ps : List MemPlace} {base : Nat} (h : DataW.Trod enc Tryd.prog w 0 (fun _ => true) true 9 v d ps) (hv : Value.okWide Tryd.prog w .any base 9 v) : ∃ s : ByteArray, v = .string s ∧ s.size ≤ maxLen := by
  obtain ⟨s, rfl⟩ := okWide_string u9 hv
  obtain ⟨n, hn⟩ := h
  obtain ⟨s', e, _, hs⟩ := DataW.trod_string u9 hn
  simp only [Value.cells, List.cons.injEq, Value.string.injEq, and_true] at e
  subst e
  exact ⟨s, rfl, hs⟩
theorem elString (n : Nat) (cs : List Value) (x : DataW H × List MemPlace) (h : DataW.trod enc Tryd.prog w 0 (fun _ => true) true n 9 cs = some x) : ∃ s : ByteArray, cs = [.string s] ∧ s.size ≤ maxLen := by
  obtain ⟨s, e, _, hs⟩ := DataW.trod_string u9 h
  exact ⟨s, e, hs⟩

theorem cStrS : Tryd.prog.cellsOf 22 = 1 := by kernel_rfl
theorem readStrings {v : Value} {d : DataW H} {ps : List MemPlace} (h : DataW.Trod enc Tryd.prog w 0 (fun _ => true) true 22 v d ps) (hv : ∃ a len cap, v = .slice a len cap) : ∃ l : List ByteArray, Sl w StrE.enc 1 v l ∧ StrE.Fits l := by
  obtain ⟨l, a, cap, b, off, rfl, h1, h2, h3⟩ := read_slice (fun _ y cs => cs = StrE.enc y ∧ y.size ≤ maxLen) Tryd.underlying22 (fun n cs x h => elString n cs x h) h hv
  refine ⟨l, ⟨a, cap, b, off, rfl, h1, h2, fun i hi => ?_⟩, fun i hi => ?_⟩
  · obtain ⟨cs, ⟨rfl, _⟩, _, h4, h5⟩ := h3 i hi
    rw [c9] at h4 h5
    exact ⟨(h4 (by omega)).1, (h4 (by omega)).2, h5⟩
  · obtain ⟨cs, ⟨_, h6⟩, _⟩ := h3 i hi
    exact h6
theorem readStringS {v : Value} {d : DataW H} {ps : List MemPlace} {base : Nat} (h : DataW.Trod enc Tryd.prog w 0 (fun _ => true) true 22 v d ps) (hv : Value.okWide Tryd.prog w .any base 22 v) : ∃ l : List ByteArray, Sl w StrE.enc 1 v l ∧ StrE.Fits l :=
  readStrings h (okWide_slice Tryd.underlying22 hv)
theorem cellStringS {n : Nat} {v : Value} {x : DataW H × List MemPlace} (h : DataW.trod enc Tryd.prog w 0 (fun _ => true) true n 22 [v] = some x) : ∃ l : List ByteArray, Sl w StrE.enc 1 v l ∧ StrE.Fits l :=
  have hc := read_cell Tryd.underlying22 h
  readStrings hc.2 hc.1

theorem cEntry : Tryd.prog.cellsOf 74 = 6 := by kernel_rfl
theorem elEntry (n : Nat) (cs : List Value) (x : DataW H × List MemPlace) (h : DataW.trod enc Tryd.prog w 0 (fun _ => true) true n 74 cs = some x) : ∃ y : Ent, cs = y.enc ∧ y.In w ∧ y.Fits := by
  obtain ⟨xs, n', _, _, hlen, hxl, hf⟩ := DataW.trod_struct Tryd.underlying74 h
  rw [cEntry] at hlen
  match cs, hlen with
  | [v0, v1, v2, v3, v4, v5], _ =>
    match xs, hxl with
    | [y0, y1, y2, y3, y4, y5], _ =>
      obtain ⟨i0, e0, _, _⟩ := DataW.trod_int u3 (show DataW.trod enc Tryd.prog w 0 (fun _ => true) true n' 3 [v0] = some y0 by simpa [c3] using hf 0 _ rfl)
      obtain ⟨i1, e1, s1⟩ := elString _ _ _ (show DataW.trod enc Tryd.prog w 0 (fun _ => true) true n' 9 [v1] = some y1 by simpa [c9] using hf 1 _ rfl)
      obtain ⟨i2, e2, s2⟩ := elString _ _ _ (show DataW.trod enc Tryd.prog w 0 (fun _ => true) true n' 9 [v2] = some y2 by simpa [c9] using hf 2 _ rfl)
      obtain ⟨i3, e3, _, _⟩ := DataW.trod_int u3 (show DataW.trod enc Tryd.prog w 0 (fun _ => true) true n' 3 [v3] = some y3 by simpa [c3] using hf 3 _ rfl)
      obtain ⟨i4, e4, _, _⟩ := DataW.trod_int u3 (show DataW.trod enc Tryd.prog w 0 (fun _ => true) true n' 3 [v4] = some y4 by simpa [c3] using hf 4 _ rfl)
      obtain ⟨l, hl⟩ := cellIntS (show DataW.trod enc Tryd.prog w 0 (fun _ => true) true n' 49 [v5] = some y5 by simpa [cIntS] using hf 5 _ rfl)
      simp only [List.cons.injEq, and_true] at e0 e1 e2 e3 e4
      subst e0 e1 e2 e3 e4
      have hl' := hl
      obtain ⟨a, cap, _, _, rfl, _, _, _⟩ := hl'
      exact ⟨⟨i0, i1, i2, i3, i4, a, cap, l⟩, rfl, hl, ⟨s1, s2, trivial⟩⟩
theorem readEntry {v : Value} {d : DataW H} {ps : List MemPlace} {base : Nat} (h : DataW.Trod enc Tryd.prog w 0 (fun _ => true) true 74 v d ps) (hv : Value.okWide Tryd.prog w .any base 74 v) : ∃ x : Ent, v = .agg x.enc.toArray ∧ x.In w ∧ x.Fits := by
  obtain ⟨cs, rfl, _⟩ := okWide_struct Tryd.underlying74 hv
  obtain ⟨n, hn⟩ := h
  obtain ⟨y, hy, h1, h2⟩ := elEntry _ _ _ hn
  exact ⟨y, by rw [← hy]; rfl, h1, h2⟩

theorem readEntryS {v : Value} {d : DataW H} {ps : List MemPlace} {base : Nat} (h : DataW.Trod enc Tryd.prog w 0 (fun _ => true) true 30 v d ps) (hv : Value.okWide Tryd.prog w .any base 30 v) : ∃ l : List Ent, Sl w Ent.enc 6 v l ∧ Ent.Deep w l ∧ ∀ i, i < l.length → (gd l i).Fits := by
  obtain ⟨l, a, cap, b, off, rfl, h1, h2, h3⟩ := read_slice (fun w y cs => cs = Ent.enc y ∧ Ent.In w y ∧ y.Fits) Tryd.underlying30 (fun n cs x h => elEntry n cs x h) h (okWide_slice Tryd.underlying30 hv)
  refine ⟨l, ⟨a, cap, b, off, rfl, h1, h2, fun i hi => ?_⟩, fun i hi => ?_, fun i hi => ?_⟩
  · obtain ⟨cs, ⟨rfl, _⟩, _, h4, h5⟩ := h3 i hi
    rw [cEntry] at h4 h5
    exact ⟨(h4 (by omega)).1, (h4 (by omega)).2, h5⟩
  · obtain ⟨cs, ⟨_, h6, _⟩, _⟩ := h3 i hi
    exact h6
  · obtain ⟨cs, ⟨_, _, h6⟩, _⟩ := h3 i hi
    exact h6

end
end Go.Proofs.YteainpflmofjaaaDoor
