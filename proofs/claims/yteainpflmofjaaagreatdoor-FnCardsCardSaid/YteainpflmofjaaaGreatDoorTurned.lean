/- Worlds of which only a stretch of blocks has turned; the text of a mark. General. -/
import Derived.Test.YteainpflmofjaaaGreatDoorStore
import Derived.Test.YteainpflmofjaaaGreatDoorTail
import Derived.Laws.BytesArg
namespace Go.Proofs.YteainpflmofjaaaGreatDoor
open Go.RowKit
/-- Of the blocks that were there only those from lo up to hi may have turned. -/
structure Turned (lo hi : Nat) (w w' : World) : Prop where
  os : w'.os = w.os
  tape : w'.tape = w.tape
  output : w'.output = w.output
  size : w.heap.size ≤ w'.heap.size
  block : ∀ b, b < w.heap.size → (b < lo ∨ hi ≤ b) → w'.heap[b]? = w.heap[b]?
theorem Turned.refl (lo hi : Nat) (w : World) : Turned lo hi w w := ⟨rfl, rfl, rfl, Nat.le_refl _, fun _ _ _ => rfl⟩
theorem Turned.trans {lo hi : Nat} {a b c : World} (h : Turned lo hi a b) (k : Turned lo hi b c) : Turned lo hi a c :=
  ⟨k.os.trans h.os, k.tape.trans h.tape, k.output.trans h.output, Nat.le_trans h.size k.size, fun i hi ho => (k.block i (Nat.lt_of_lt_of_le hi h.size) ho).trans (h.block i hi ho)⟩
theorem Turned.of_below {lo hi : Nat} {w w' : World} (h : Below w.heap.size w w') : Turned lo hi w w' := ⟨h.os, h.tape, h.output, h.size, fun b hb _ => h.block b hb⟩
theorem Turned.of_grown {lo hi : Nat} {w w' : World} {row : Option Nat} (h : w.grownBy w' row) (hr : ∀ g, row = some g → lo ≤ g ∧ g < hi) : Turned lo hi w w' :=
  ⟨h.os, h.tape, h.output, h.size, fun b hb ho => h.block b hb (fun e => by have := hr b e.symm; omega)⟩
theorem Turned.wide {lo hi lo' hi' : Nat} {w w' : World} (h : Turned lo hi w w') (h1 : lo' ≤ lo) (h2 : hi ≤ hi') : Turned lo' hi' w w' :=
  ⟨h.os, h.tape, h.output, h.size, fun b hb ho => h.block b hb (by omega)⟩
theorem Turned.set {lo hi : Nat} {w w' : World} (h : Turned lo hi w w') {g o : Nat} (h1 : lo ≤ g) (h2 : g < hi) (u : Value) : Turned lo hi w (w'.setCell ⟨g, o, none⟩ u) :=
  h.trans (Turned.of_grown (row := some g) (only_setCell (World.grownBy.refl _ _) ⟨g, o, none⟩ rfl u) (fun x hx => by injection hx with hx; omega))
theorem Below.turned {B lo hi : Nat} {a w w' : World} (h : Below B a w) (hg : Turned lo hi w w') (hB : B ≤ w.heap.size) (hlo : B ≤ lo) : Below B a w' :=
  ⟨hg.os.trans h.os, hg.tape.trans h.tape, hg.output.trans h.output, Nat.le_trans h.size hg.size, fun k hk => (hg.block k (by omega) (by omega)).trans (h.block k hk)⟩
theorem Own.turned {α : Type} {w w' : World} {z lo hi : Nat} {e : TypeId} {enc : α → List Value} {k : Nat} {v : Value} {l : List α} (h : Own w z e enc k v l) (hg : Turned lo hi w w') (hv : ∀ g, v.ownBlock = some g → g < lo ∨ hi ≤ g) : Own w' z e enc k v l := by
  refine ⟨h.1, ?_⟩
  rcases h.2 with hn | ⟨g, cap, cur, rfl, hlo, hgg, rest⟩
  · exact .inl hn
  · exact .inr ⟨g, cap, cur, rfl, hlo, (hg.block g (Array.getElem?_eq_some_iff.1 hgg).1 (hv g rfl)).trans hgg, rest⟩
/-! ### the text of a mark -/
def digB (n : Int) : ByteArray := ⟨#[UInt8.ofNat (48 + n % 10).toNat]⟩
/-- the digits of k ahead of o -/
def digs : Nat → Int → ByteArray → ByteArray
  | 0, _, o => o
  | f + 1, k, o => if 0 < k then digs f (k / 10) (digB k ++ o) else o
/-- the text that marks with k -/
def markT (k : Int) : ByteArray := ⟨#[109]⟩ ++ digs 20 k ⟨#[]⟩
theorem digs_done (f : Nat) (o : ByteArray) : digs f 0 o = o := by cases f <;> simp [digs]
theorem digs_step {f : Nat} {k : Int} {o : ByteArray} (h : 0 < k) : digs (f + 1) k o = digs f (k / 10) (digB k ++ o) := by simp [digs, h]
end Go.Proofs.YteainpflmofjaaaGreatDoor
