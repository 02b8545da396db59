/- Marks on copies: strings, slices of strings, slices of structs that hold a slice. No condition but sizes. -/
import Derived.Test.YteainpflmofjaaaGreatDoorNst
namespace Go.Proofs.YteainpflmofjaaaGreatDoor
open Go.RowKit

def Crd.hv (x : Crd) : Value := .slice x.a x.sub.length x.cap
abbrev Crd.OwnN (w : World) (lo hi : Nat) (v : Value) (l : List Crd) : Prop := NOwn w lo hi 34 Crd.enc 3 9 StrE.enc Crd.hv Crd.sub v l
theorem Crd.OwnS.nown {w : World} {lo : Nat} {v : Value} {l : List Crd} (h : Crd.OwnS w lo v l) : Crd.OwnN w lo w.heap.size v l := by
  obtain ⟨h1, g, h2, h3, h4, h5, h6⟩ := h
  refine ⟨h1, fun b hb => (h1.bounds b hb).2, fun i hi => ⟨(h5 i hi).lower (by omega), fun b hb => ⟨((h5 i hi).bounds b hb).2, fun e => ?_⟩⟩, fun i j b hij hj hb hb' => ?_⟩
  · have e1 := h4 b e
    have e2 := ((h5 i hi).bounds b hb).1
    omega
  · have := h6 i j b b hij hj hb hb'
    omega
theorem Crd.OwnN.deep {w : World} {lo hi : Nat} {v : Value} {l : List Crd} (h : Crd.OwnN w lo hi v l) : Crd.Deep w l := fun i hi => (h.inn i hi).sl StrE.len
theorem Crd.lns {l l' : List Crd} (h : l'.map Crd.bare = l.map Crd.bare) (hl : ∀ i, i < l.length → (gd l i).sub.length ≤ 1048576) : ∀ i, i < l'.length → (gd l' i).sub.length ≤ 1048577 := fun i hi => by
  have e : l'.length = l.length := by simpa using congrArg List.length h
  have h1 := Crd.sub_eq (map_same_at h i (by omega)).2
  have h2 := hl i (by omega)
  have h3 : (gd l' i).sub = (gd l i).sub := h1.2.2
  rw [h3]; omega
theorem Crd.lnB {l B : List Crd} (h : l.map Crd.bare = B) (hB : B.length ≤ 1048577 ∧ ∀ i, i < B.length → (gd B i).sub.length ≤ 1048577) : l.length ≤ 1048577 ∧ ∀ i, i < l.length → (gd l i).sub.length ≤ 1048577 := by
  subst h
  rw [List.length_map] at hB
  refine ⟨hB.1, fun i hi => ?_⟩
  have := hB.2 i hi
  have e : gd (l.map Crd.bare) i = (gd l i).bare := by simp [gd, hi]
  rw [e] at this
  exact this
theorem Crd.lnq {l l' : List Crd} (h : l'.map Crd.bare = l.map Crd.bare) {n : Nat} (hl : l.length ≤ n) : l'.length ≤ n := by
  have e : l'.length = l.length := by simpa using congrArg List.length h
  omega

end Go.Proofs.YteainpflmofjaaaGreatDoor
