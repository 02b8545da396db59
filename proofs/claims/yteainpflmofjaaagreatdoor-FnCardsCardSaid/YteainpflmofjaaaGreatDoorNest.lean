/- Helpers at []string and at structs that hold one slice: contracts of to.., sz.., eq... No condition but sizes. -/
import Derived.Test.YteainpflmofjaaaGreatDoorTypes
import Derived.Test.YteainpflmofjaaaGreatDoorMore
import Derived.Test.YteainpflmofjaaaGreatDoorHeld
namespace Go.Proofs.YteainpflmofjaaaGreatDoor
open Go.RowKit
/-- what a count of sizes hands back -/
def SzPost (C : Prop) (left : Int) (w : World) (e : Ending) (w' : World) : Prop := Below w.heap.size w w' ∧ ∃ r : Int, e = .returned (.int .i64 r) ∧ (r = -1 ∨ (0 ≤ r ∧ r ≤ left ∧ C))
theorem Fill.swap {w : World} {lo : Nat} {e : TypeId} {k n : Nat} {v : Value} {F F' : List Value} {m : Nat} (h : Fill w lo e k v n F m) (hl : F'.length = n * k) (hf : ∀ j, j < m → F'[j]? = F[j]?) : Fill w lo e k v n F' m := by
  obtain ⟨_, xs, ho, hx⟩ := h
  exact ⟨hl, xs, ho, fun j hj => (hx j hj).trans (hf j hj).symm⟩
theorem gd_set {α : Type} [Inhabited α] {l : List α} {k i : Nat} {y : α} (hk : k < l.length) : gd (l.set k y) i = if i = k then y else gd l i := by
  simp only [gd, List.getD, List.getElem?_set]
  by_cases h : k = i
  · subst h; simp [hk]
  · simp [h, Ne.symm h]
theorem set_flat {α : Type} [Inhabited α] {enc : α → List Value} {K : Nat} (hK : ∀ x, (enc x).length = K) {l : List α} {k : Nat} {y : α} (hk : k < l.length) (j : Nat) (hj : j < k * K) : ((l.set k y).flatMap enc)[j]? = (l.flatMap enc)[j]? := by
  have hK0 : 0 < K := by rcases Nat.eq_zero_or_pos K with h0 | h0; · subst h0; omega
                         · exact h0
  have hi : j / K < k := by rw [Nat.div_lt_iff_lt_mul hK0]; exact hj
  have hm := Nat.mod_lt j hK0
  have e : j / K * K + j % K = j := by rw [Nat.mul_comm]; exact Nat.div_add_mod j K
  have h1 := flat_get hK (l.set k y) (j / K) (j % K) (by simp; omega) hm
  have h2 := flat_get hK l (j / K) (j % K) (by omega) hm
  rw [e] at h1 h2
  rw [h1, h2, gd_set hk, if_neg (by omega)]
theorem grown_ext {W W3 : World} {p : Gap} {row : Option Nat} (h : W.grownBy W3 row) (hs : W3.heap.size = W.heap.size) : (ext W p).grownBy (ext W3 p) row := by
  refine ⟨h.os, h.tape, h.output, by simp [hs], fun i hi hne => ?_⟩
  simp only [ext, Array.getElem?_append, hs]
  by_cases hk : i < W.heap.size
  · rw [if_pos hk, if_pos hk]; exact h.block i hk hne
  · rw [if_neg hk, if_neg hk]
theorem ball_succ {Q : Nat → Prop} {k : Nat} (h : ∀ i, i < k → Q i) (hk : Q k) : ∀ i, i < k + 1 → Q i := fun i hi => by
  rcases Nat.lt_or_eq_of_le (Nat.lt_succ_iff.1 hi) with h1 | rfl
  · exact h i h1
  · exact hk
theorem map_same {α β : Type} [Inhabited α] {f : α → β} {l l' : List α} (hl : l'.length = l.length) (h : ∀ i, i < l.length → f (gd l' i) = f (gd l i)) : l'.map f = l.map f := by
  apply List.ext_getElem
  · simp [hl]
  · intro i h1 h2
    have h3 : i < l.length := by simpa using h2
    have := h i h3
    rw [gd_get (by omega), gd_get h3] at this
    simpa using this
theorem map_same_at {α β : Type} [Inhabited α] {f : α → β} {l l' : List α} (h : l'.map f = l.map f) (i : Nat) (hi : i < l.length) : l'.length = l.length ∧ f (gd l' i) = f (gd l i) := by
  have hl : l'.length = l.length := by simpa using congrArg List.length h
  refine ⟨hl, ?_⟩
  have h2 : (l'.map f)[i]? = (l.map f)[i]? := by rw [h]
  simp only [List.getElem?_map, gd_eq (show i < l'.length by omega), gd_eq hi, Option.map_some] at h2
  exact Option.some.inj h2

def StrE.enc (x : ByteArray) : List Value := [.string x]
theorem StrE.len (x : ByteArray) : (StrE.enc x).length = 1 := rfl
theorem StrE.one (x : ByteArray) : ∀ u ∈ StrE.enc x, u.oneCell' = true := fun u hu => by simp [StrE.enc] at hu; subst hu; rfl
theorem StrE.at {w : World} {a : Option Addr} {b off : Nat} {l : List ByteArray} (h : Cells w StrE.enc 1 a b off l) (i : Nat) (hi : i < l.length) : a = some ⟨b, off, none⟩ ∧ b < w.heap.size ∧
    w.cell? ⟨b, off + i, none⟩ = some (.string (gd l i)) := by
  obtain ⟨ha, hb, c⟩ := h i hi
  have c0 := c 0 _ rfl
  rw [Nat.mul_one, Nat.add_zero] at c0
  exact ⟨ha, hb, c0⟩
def StrE.Short (l : List ByteArray) : Prop := l.length ≤ 1048576 ∧ ∀ i, i < l.length → (gd l i).size ≤ 1048576
def StrE.Fits (l : List ByteArray) : Prop := ∀ i, i < l.length → (gd l i).size ≤ maxLen

def IntE.Short (l : List Int) : Prop := l.length ≤ 1048576
def IntE.Fits (_ : List Int) : Prop := True

structure Crd where
  id : Int
  yr : Int
  a : Option Addr
  cap : Nat
  sub : List ByteArray
instance : Inhabited Crd := ⟨⟨0, 0, none, 0, []⟩⟩
def Crd.enc (x : Crd) : List Value := [.int .i64 x.id, .int .i64 x.yr, .slice x.a x.sub.length x.cap]
theorem Crd.len (x : Crd) : x.enc.length = 3 := rfl
theorem Crd.one (x : Crd) : ∀ u ∈ x.enc, u.oneCell' = true := fun u hu => by simp [Crd.enc] at hu; rcases hu with hu | hu | hu <;> (subst hu; rfl)
theorem Crd.at {w : World} {a : Option Addr} {b off : Nat} {l : List Crd} (h : Cells w Crd.enc 3 a b off l) (i : Nat) (hi : i < l.length) : a = some ⟨b, off, none⟩ ∧ b < w.heap.size ∧
    w.cell? ⟨b, off + i * 3, none⟩ = some (.int .i64 (gd l i).id) ∧
    w.cell? ⟨b, off + i * 3 + 1, none⟩ = some (.int .i64 (gd l i).yr) ∧
    w.cell? ⟨b, off + i * 3 + 2, none⟩ = some (.slice (gd l i).a (gd l i).sub.length (gd l i).cap) := by
  obtain ⟨ha, hb, c⟩ := h i hi
  exact ⟨ha, hb, c 0 _ rfl, c 1 _ rfl, c 2 _ rfl⟩

/-- what the slice in x reads as -/
def Crd.In (w : World) (x : Crd) : Prop := Sl w StrE.enc 1 (.slice x.a x.sub.length x.cap) x.sub
theorem Crd.In.mono {w w' : World} {x : Crd} (h : x.In w) (hb : Below w.heap.size w w') : x.In w' := Sl.mono h hb
def Crd.Deep (w : World) (l : List Crd) : Prop := ∀ i, i < l.length → (gd l i).In w
theorem Crd.Deep.mono {w w' : World} {l : List Crd} (h : Crd.Deep w l) (hb : Below w.heap.size w w') : Crd.Deep w' l := fun i hi => (h i hi).mono hb
def Crd.bare (x : Crd) : Crd := { x with a := none, cap := 0 }
def Crd.Short (x : Crd) : Prop := StrE.Short x.sub
def Crd.Fits (x : Crd) : Prop := StrE.Fits x.sub
theorem Crd.sub_eq {x y : Crd} (h : x.bare = y.bare) : x.id = y.id ∧ x.yr = y.yr ∧ x.sub = y.sub := by
  simp only [Crd.bare, Crd.mk.injEq] at h
  simp_all
theorem Crd.fits {l l' : List Crd} (h : l'.map Crd.bare = l.map Crd.bare) (hf : ∀ i, i < l.length → (gd l i).Fits) : ∀ i, i < l'.length → (gd l' i).Fits := fun i hi => by
  have hl : l'.length = l.length := by simpa using congrArg List.length h
  have e := (map_same_at h i (by omega)).2
  have := hf i (by omega)
  exact (congrArg Crd.Fits e : (gd l' i).bare.Fits = (gd l i).bare.Fits) ▸ this
/-- a call that hands back a struct with a slice of its own -/
def Crd.Ret (w : World) (x : Crd) (e : Ending) (w' : World) : Prop := ∃ (a' : Option Addr) (cap' : Nat), e = .returned (.agg #[.int .i64 x.id, .int .i64 x.yr, .slice a' x.sub.length cap']) ∧ Own w' w.heap.size 9 StrE.enc 1 (.slice a' x.sub.length cap') x.sub ∧ Below w.heap.size w w'
/-- a slice of the call's own, each of its elements with a slice of its own -/
def Crd.OwnS (w : World) (lo : Nat) (v : Value) (l : List Crd) : Prop := Own w lo 34 Crd.enc 3 v l ∧ ∃ g, lo ≤ g ∧ g < w.heap.size ∧ (∀ b, v.ownBlock = some b → b = g) ∧
  (∀ i, i < l.length → Own w (g + 1) 9 StrE.enc 1 (.slice (gd l i).a (gd l i).sub.length (gd l i).cap) (gd l i).sub) ∧
  ∀ i j b b', i < j → j < l.length → (Value.slice (gd l i).a (gd l i).sub.length (gd l i).cap).ownBlock = some b → (Value.slice (gd l j).a (gd l j).sub.length (gd l j).cap).ownBlock = some b' → b < b'
theorem Crd.OwnS.sl {w : World} {lo : Nat} {v : Value} {l : List Crd} (h : Crd.OwnS w lo v l) : Sl w Crd.enc 3 v l := h.1.sl Crd.len
theorem Crd.OwnS.deep {w : World} {lo : Nat} {v : Value} {l : List Crd} (h : Crd.OwnS w lo v l) : Crd.Deep w l := fun i hi => by
  obtain ⟨g, _, _, _, h2, _⟩ := h.2
  exact (h2 i hi).sl StrE.len
theorem Crd.OwnS.mono {w w' : World} {lo : Nat} {v : Value} {l : List Crd} (h : Crd.OwnS w lo v l) (hb : Below w.heap.size w w') : Crd.OwnS w' lo v l := by
  obtain ⟨h1, g, h2, h3, h4, h5, h6⟩ := h
  exact ⟨h1.mono hb, g, h2, Nat.lt_of_lt_of_le h3 hb.size, h4, fun i hi => (h5 i hi).mono hb, h6⟩
/-- a call that hands back such a slice that reads as l does -/
def Crd.RetS (w : World) (l : List Crd) (e : Ending) (w' : World) : Prop := ∃ (v' : Value) (l' : List Crd), e = .returned v' ∧ Crd.OwnS w' w.heap.size v' l' ∧ l'.map Crd.bare = l.map Crd.bare ∧ Below w.heap.size w w'

end Go.Proofs.YteainpflmofjaaaGreatDoor
