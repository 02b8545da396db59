/- Cards drawn from bytes: the arguments of the laws. No condition but sizes. -/
import Derived.Test.YteainpflmofjaaaGreatDoorDc24
import Derived.Test.YteainpflmofjaaaGreatDoorBr
import Derived.Outline
import Derived.OwnWalk
namespace Go.Proofs.YteainpflmofjaaaGreatDoor
open Go.RowKit
/-- cards that read as l, none of them large -/
structure KD (w : World) (v : Value) (l : List Crd) : Prop where
  sl : Sl w Crd.enc 3 v l
  deep : Crd.Deep w l
  fits : ∀ i, i < l.length → StrE.Fits (gd l i).sub
  sub : ∀ i, i < l.length → (gd l i).sub.length ≤ 16
  len : l.length ≤ 13
theorem KD.mono {w w' : World} {v : Value} {l : List Crd} (h : KD w v l) (hb : Below w.heap.size w w') : KD w' v l := ⟨h.sl.mono hb, h.deep.mono hb, h.fits, h.sub, h.len⟩
theorem KD.subs {w : World} {v : Value} {l : List Crd} (h : KD w v l) : ∀ i, i < l.length → (gd l i).sub.length ≤ 1048576 := fun i hi => Nat.le_trans (h.sub i hi) (by omega)
theorem KSt.kd {w0 w : World} {B m N : Nat} {v : Value} {l : List Crd} (h : KSt w0 w B v l m N) (hN : N ≤ 13) : KD w v l :=
  ⟨KSt.sl h, KSt.deep h, KSt.fits h, fun i hi => (h.2 i hi).2.2.1, Nat.le_trans h.len hN⟩
theorem KSt.sls {w0 w : World} {B m N : Nat} {v : Value} {l : List Crd} (h : KSt w0 w B v l m N) : ∀ w', w.grownBy w' (some B) → Sl w' Crd.enc 3 v l := fun w' hg =>
  (own_keep h.own hg (fun b hb e => by have h1 := (h.own.bounds b hb).1; have h2 := h.blt; injection e with e; omega)).sl Crd.len
theorem KSt.drawn {w w' : World} {o : Obj} {B m N : Nat} {v : Value} {l : List Crd} (hB : B = w.heap.size) (h : KSt (w.alloc o) w' B v l m N) (hN : N ≤ 13) : KD w' v l ∧ Below w.heap.size w w' := by
  subst hB
  exact ⟨KSt.kd h hN, below_of_grown h.gr⟩
def DrawK1 (w : World) (e : Ending) (w' : World) : Prop := ∃ (v : Value) (l : List Crd) (a : Int), e = .returned (.tuple #[v, .int .i64 a]) ∧ KD w' v l ∧ Below w.heap.size w w'
def DrawK2 (w : World) (e : Ending) (w' : World) : Prop := ∃ (v : Value) (l : List Crd) (a b : Int), e = .returned (.tuple #[v, .int .i64 a, .int .i64 b]) ∧ KD w' v l ∧ Below w.heap.size w w'
def DrawKS (w : World) (e : Ending) (w' : World) : Prop := ∃ (v : Value) (l : List Crd) (s : ByteArray), e = .returned (.tuple #[v, .string s]) ∧ KD w' v l ∧ s.size ≤ 12 ∧ Below w.heap.size w w'
def DrawKIS (w : World) (e : Ending) (w' : World) : Prop := ∃ (v : Value) (l : List Crd) (a : Int) (s : ByteArray), e = .returned (.tuple #[v, .int .i64 a, .string s]) ∧ KD w' v l ∧ s.size ≤ 12 ∧ Below w.heap.size w w'
end Go.Proofs.YteainpflmofjaaaGreatDoor
