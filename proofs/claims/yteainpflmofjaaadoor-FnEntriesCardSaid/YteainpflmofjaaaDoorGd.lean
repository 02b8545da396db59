/- Slices of slices of numbers, as results: comparison, marks, the look at marks. No condition but sizes. -/
import Derived.Test.YteainpflmofjaaaDoorPn
import Derived.Test.YteainpflmofjaaaDoorNst
namespace Go.Proofs.YteainpflmofjaaaDoor
open Go.RowKit
/-- the header of a slice of numbers, and what it reads as -/
structure Rw where
  a : Option Addr
  cap : Nat
  sub : List Int
instance : Inhabited Rw := ⟨⟨none, 0, []⟩⟩
def Rw.enc (x : Rw) : List Value := [.slice x.a x.sub.length x.cap]
theorem Rw.len (x : Rw) : x.enc.length = 1 := rfl
theorem Rw.one (x : Rw) : ∀ u ∈ x.enc, u.oneCell' = true := fun u hu => by simp [Rw.enc] at hu; subst hu; rfl
theorem Rw.at {w : World} {a : Option Addr} {b off : Nat} {l : List Rw} (h : Cells w Rw.enc 1 a b off l) (i : Nat) (hi : i < l.length) : a = some ⟨b, off, none⟩ ∧ b < w.heap.size ∧
    w.cell? ⟨b, off + i, none⟩ = some (.slice (gd l i).a (gd l i).sub.length (gd l i).cap) := by
  obtain ⟨ha, hb, c⟩ := h i hi
  have c0 := c 0 _ rfl
  rw [Nat.mul_one, Nat.add_zero] at c0
  exact ⟨ha, hb, c0⟩
def Rw.In (w : World) (x : Rw) : Prop := Sl w IntE.enc 1 (.slice x.a x.sub.length x.cap) x.sub
theorem Rw.In.mono {w w' : World} {x : Rw} (h : x.In w) (hb : Below w.heap.size w w') : x.In w' := Sl.mono h hb
def Rw.Deep (w : World) (l : List Rw) : Prop := ∀ i, i < l.length → (gd l i).In w
theorem Rw.Deep.mono {w w' : World} {l : List Rw} (h : Rw.Deep w l) (hb : Below w.heap.size w w') : Rw.Deep w' l := fun i hi => (h i hi).mono hb
def Rw.hv (x : Rw) : Value := .slice x.a x.sub.length x.cap
abbrev Rw.OwnN (w : World) (lo hi : Nat) (v : Value) (l : List Rw) : Prop := NOwn w lo hi 49 Rw.enc 1 3 IntE.enc Rw.hv Rw.sub v l
theorem Rw.OwnN.deep {w : World} {lo hi : Nat} {v : Value} {l : List Rw} (h : Rw.OwnN w lo hi v l) : Rw.Deep w l := fun i hi => (h.inn i hi).sl IntE.len
theorem Rw.OwnN.sl {w : World} {lo hi : Nat} {v : Value} {l : List Rw} (h : Rw.OwnN w lo hi v l) : Sl w Rw.enc 1 v l := h.own.sl Rw.len
/-- a call that hands back a new slice of slices, and whether -/
def RetGrid (w : World) (ll : List (List Int)) (ok : Bool) (e : Ending) (w' : World) : Prop := ∃ (v : Value) (l : List Rw), e = .returned (.tuple #[v, .bool ok]) ∧ Rw.OwnN w' w.heap.size w'.heap.size v l ∧ l.map Rw.sub = ll ∧ Below w.heap.size w w'
def Rw.mrk (k : Int) (x : Rw) : Rw := { x with sub := IntE.marks k x.sub.length }
def Rw.nxt (k : Int) (x : Rw) : Int := k + (x.sub.length : Int)
theorem Rw.sub_at {l l' : List Rw} (h : l.map Rw.sub = l'.map Rw.sub) (i : Nat) (hi : i < l.length) : i < l'.length ∧ (gd l i).sub = (gd l' i).sub := by
  have e : l.length = l'.length := by simpa using congrArg List.length h
  refine ⟨by omega, ?_⟩
  have h1 : (l.map Rw.sub)[i]? = (l'.map Rw.sub)[i]? := by rw [h]
  rw [List.getElem?_map, List.getElem?_map, gd_eq hi, gd_eq (by omega : i < l'.length)] at h1
  simpa using h1
theorem Rw.kAt_le {k0 : Int} {l : List Rw} (hls : ∀ i, i < l.length → (gd l i).sub.length ≤ 1048577) : ∀ i, i ≤ l.length → k0 ≤ kAt Rw.nxt k0 l i ∧ kAt Rw.nxt k0 l i ≤ k0 + 2000000 * (i : Int) :=
  kAt_bound (nx := Rw.nxt) (k := k0) (l := l) (c := 2000000) (fun k i hi => by have := hls i hi; unfold Rw.nxt; omega)
theorem Rw.kb {k0 : Int} {l : List Rw} (hls : ∀ i, i < l.length → (gd l i).sub.length ≤ 1048577) : k0 ≤ kAt Rw.nxt k0 l l.length ∧ kAt Rw.nxt k0 l l.length ≤ k0 + 2000000 * (l.length : Int) := Rw.kAt_le hls l.length (Nat.le_refl _)
theorem Rw.lnB {l : List Rw} {B : List (List Int)} (h : l.map Rw.sub = B) (hB : B.length ≤ 1048577 ∧ ∀ x, x ∈ B → x.length ≤ 1048577) : l.length ≤ 1048577 ∧ ∀ i, i < l.length → (gd l i).sub.length ≤ 1048577 := by
  subst h
  rw [List.length_map] at hB
  refine ⟨hB.1, fun i hi => hB.2 _ (List.mem_map.2 ⟨gd l i, ?_, rfl⟩)⟩
  rw [gd_get hi]; exact List.getElem_mem hi
end Go.Proofs.YteainpflmofjaaaDoor
