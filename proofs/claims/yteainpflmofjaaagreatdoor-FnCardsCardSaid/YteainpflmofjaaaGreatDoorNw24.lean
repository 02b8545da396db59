/- Cards: the nearest card, by the program and by the reference. No condition but sizes. -/
import Derived.Test.YteainpflmofjaaaGreatDoorNp24
namespace Go.Proofs.YteainpflmofjaaaGreatDoor
open Go.RowKit
def RetLen (N : Nat) (w : World) (e : Ending) (w' : World) : Prop := ∃ (a : Option Addr) (cap : Nat), e = .returned (.slice a N cap) ∧ Below w.heap.size w w'
theorem ret_nnb {a b c d : Int} {e f : Bool} (h : a = c) (h' : b = d) (h2 : e = f) : Ending.returned (.tuple #[.int .i64 a, .int .i64 b, .bool e]) = .returned (.tuple #[.int .i64 c, .int .i64 d, .bool f]) := by rw [h, h', h2]
theorem retLen {w w' : World} {e : TypeId} {l : List ByteArray} {en : Ending} {N : Nat} (h : RetOwn w e StrE.enc 1 l en w') (hN : l.length = N) : RetLen N w en w' := by
  obtain ⟨v, rfl, o, b⟩ := h
  obtain ⟨a, cap, _, _, rfl, _⟩ := o.sl StrE.len
  exact ⟨a, cap, by rw [hN], b⟩
theorem Crd.lens {l l' : List Crd} (h : l'.map Crd.bare = l.map Crd.bare) (hl : ∀ i, i < l.length → (gd l i).sub.length ≤ 1048576) : ∀ i, i < l'.length → (gd l' i).sub.length ≤ 1048576 := fun i hi => by
  have e : l'.length = l.length := by simpa using congrArg List.length h
  rw [(crd_same h i (by omega)).2.2.1]
  exact hl i (by omega)
theorem nearB_yes {l : List Crd} {n : Int} (h : nearB l n = true) : ∃ i, i < l.length ∧ crdIdx l n = some i ∧ areCrd l = true ∧ 2 ≤ l.length ∧ (gd l i).id = n ∧ nearV l n = nearTo l i l.length := by
  have h' := h
  simp only [nearB, Bool.and_eq_true] at h
  obtain ⟨i, hi⟩ := Option.isSome_iff_exists.1 h.1.2
  obtain ⟨h1, h2, _⟩ := findTo_spec hi
  exact ⟨i, h1, hi, h.1.1, of_decide_eq_true h.2, by simpa using h2, by rw [nearV, if_pos h', hi]; rfl⟩
end Go.Proofs.YteainpflmofjaaaGreatDoor
