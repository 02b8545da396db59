/- Slices of the call's own whose elements hold slices of the call's own, all blocks between two bounds; marks on them. General. -/
import Derived.Test.YteainpflmofjaaaGreatDoorTurned
import Derived.Test.YteainpflmofjaaaGreatDoorNest
namespace Go.Proofs.YteainpflmofjaaaGreatDoor
open Go.RowKit
section
variable {α β : Type} [Inhabited α]
/-- The slice v reads as l; it and the slices of its elements are the call's own, in blocks from lo up to hi, no two of them the same. -/
def NOwn (w : World) (lo hi : Nat) (tE : TypeId) (enc : α → List Value) (K : Nat) (tI : TypeId) (encI : β → List Value) (hv : α → Value) (sub : α → List β) (v : Value) (l : List α) : Prop :=
  Own w lo tE enc K v l ∧ (∀ b, v.ownBlock = some b → b < hi) ∧
  (∀ i, i < l.length → Own w lo tI encI 1 (hv (gd l i)) (sub (gd l i)) ∧ ∀ b, (hv (gd l i)).ownBlock = some b → b < hi ∧ v.ownBlock ≠ some b) ∧
  ∀ i j b, i < j → j < l.length → (hv (gd l i)).ownBlock = some b → (hv (gd l j)).ownBlock ≠ some b
variable {tE tI : TypeId} {enc : α → List Value} {K : Nat} {encI : β → List Value} {hv : α → Value} {sub : α → List β}
theorem NOwn.own {w : World} {lo hi : Nat} {v : Value} {l : List α} (h : NOwn w lo hi tE enc K tI encI hv sub v l) : Own w lo tE enc K v l := h.1
theorem NOwn.inn {w : World} {lo hi : Nat} {v : Value} {l : List α} (h : NOwn w lo hi tE enc K tI encI hv sub v l) (i : Nat) (hi' : i < l.length) : Own w lo tI encI 1 (hv (gd l i)) (sub (gd l i)) := (h.2.2.1 i hi').1
theorem NOwn.mono {w w' : World} {lo hi : Nat} {v : Value} {l : List α} (h : NOwn w lo hi tE enc K tI encI hv sub v l) (hb : Below w.heap.size w w') : NOwn w' lo hi tE enc K tI encI hv sub v l :=
  ⟨h.1.mono hb, h.2.1, fun i hi' => ⟨(h.2.2.1 i hi').1.mono hb, (h.2.2.1 i hi').2⟩, h.2.2.2⟩
theorem NOwn.wide {w : World} {lo hi lo' hi' : Nat} {v : Value} {l : List α} (h : NOwn w lo hi tE enc K tI encI hv sub v l) (h1 : lo' ≤ lo) (h2 : hi ≤ hi') : NOwn w lo' hi' tE enc K tI encI hv sub v l :=
  ⟨h.1.lower h1, fun b hb => Nat.lt_of_lt_of_le (h.2.1 b hb) h2, fun i hi' => ⟨(h.2.2.1 i hi').1.lower h1, fun b hb => ⟨Nat.lt_of_lt_of_le ((h.2.2.1 i hi').2 b hb).1 h2, ((h.2.2.1 i hi').2 b hb).2⟩⟩, h.2.2.2⟩
/-- what turns other blocks leaves it -/
theorem NOwn.turned {w w' : World} {lo hi lo' hi' : Nat} {v : Value} {l : List α} (h : NOwn w lo hi tE enc K tI encI hv sub v l) (hg : Turned lo' hi' w w') (hd : hi ≤ lo' ∨ hi' ≤ lo) : NOwn w' lo hi tE enc K tI encI hv sub v l := by
  refine ⟨h.1.turned hg fun g hgv => ?_, h.2.1, fun i hi2 => ⟨(h.2.2.1 i hi2).1.turned hg fun g hgv => ?_, (h.2.2.1 i hi2).2⟩, h.2.2.2⟩
  · have h1 := h.2.1 g hgv
    have h2 := (h.1.bounds g hgv).1
    omega
  · have h1 := ((h.2.2.1 i hi2).2 g hgv).1
    have h2 := ((h.2.2.1 i hi2).1.bounds g hgv).1
    omega
/-- a header cell of one element turned -/
theorem NOwn.store (hk : ∀ x, (enc x).length = K) {w : World} {lo hi : Nat} {g n cap : Nat} {l : List α} (h : NOwn w lo hi tE enc K tI encI hv sub (.slice (some ⟨g, 0, none⟩) n cap) l) (i : Nat) (hi' : i < l.length) (y : α) (j : Nat) (hj : j < K) (u : Value)
    (hy : enc y = (enc (gd l i)).set j u) (h1 : hv y = hv (gd l i)) (h2 : sub y = sub (gd l i)) : NOwn (w.setCell ⟨g, i * K + j, none⟩ u) lo hi tE enc K tI encI hv sub (.slice (some ⟨g, 0, none⟩) n cap) (l.set i y) := by
  have hg : w.grownBy (w.setCell ⟨g, i * K + j, none⟩ u) (some g) := only_setCell (World.grownBy.refl _ _) _ rfl _
  have e1 : ∀ m, m < l.length → hv (gd (l.set i y) m) = hv (gd l m) ∧ sub (gd (l.set i y) m) = sub (gd l m) := fun m hm => by
    by_cases e : i = m
    · subst e; rw [gd_set_at hi']; exact ⟨h1, h2⟩
    · rw [gd_set_ne e]; exact ⟨rfl, rfl⟩
  refine ⟨h.1.store hk i hi' y j hj u hy, h.2.1, fun m hm => ?_, fun a b c hab hb => ?_⟩
  · rw [List.length_set] at hm
    obtain ⟨e2, e3⟩ := e1 m hm
    rw [e2, e3]
    refine ⟨(h.2.2.1 m hm).1.kept hg ?_, (h.2.2.1 m hm).2⟩
    cases hb : (hv (gd l m)).ownBlock with
    | none => exact .inl rfl
    | some b => exact .inr (fun e => ((h.2.2.1 m hm).2 b hb).2 (show some g = some b from e.symm))
  · rw [List.length_set] at hb
    rw [(e1 a (by omega)).1, (e1 b hb).1]
    exact h.2.2.2 a b c hab hb
/-- the slice of one element turned, its header as it was -/
theorem NOwn.inner {w w' : World} {lo hi : Nat} {v : Value} {l : List α} (h : NOwn w lo hi tE enc K tI encI hv sub v l) (i : Nat) (hi' : i < l.length) (y : α) (he : enc y = enc (gd l i)) (h1 : hv y = hv (gd l i))
    (ho : Own w' lo tI encI 1 (hv y) (sub y)) (hg : w.grownBy w' (hv y).ownBlock) : NOwn w' lo hi tE enc K tI encI hv sub v (l.set i y) := by
  have hfl : (l.set i y).flatMap enc = l.flatMap enc := by
    rw [List.flatMap_def, List.flatMap_def]
    congr 1
    apply List.ext_getElem
    · simp
    · intro m h3 h4
      simp only [List.getElem_map, List.getElem_set]
      split
      · rename_i e
        subst e
        rw [he, gd_get hi']
      · rfl
  refine ⟨?_, h.2.1, fun m hm => ?_, fun a b c hab hb => ?_⟩
  · have h3 : Own w' lo tE enc K v l := h.1.kept hg (by
      cases hb : v.ownBlock with
      | none => exact .inl rfl
      | some b => exact .inr (fun e => ((h.2.2.1 i hi').2 b (by rw [← h1]; exact e.symm)).2 hb))
    show World.ownsRow _ lo tE K _ (l.set i y).length ((l.set i y).flatMap enc)
    rw [hfl, List.length_set]
    exact h3
  · rw [List.length_set] at hm
    by_cases e : i = m
    · subst e
      rw [gd_set_at hi']
      refine ⟨ho, ?_⟩
      rw [h1]
      exact (h.2.2.1 i hm).2
    · rw [gd_set_ne e]
      refine ⟨(h.2.2.1 m hm).1.kept hg ?_, (h.2.2.1 m hm).2⟩
      cases hb : (hv (gd l m)).ownBlock with
      | none => exact .inl rfl
      | some b =>
        refine .inr fun e2 => ?_
        rw [h1] at e2
        rcases Nat.lt_or_gt_of_ne e with hlt | hlt
        · exact h.2.2.2 i m b hlt hm e2.symm hb
        · exact h.2.2.2 m i b hlt hi' hb e2.symm
  · rw [List.length_set] at hb
    have e1 : ∀ m, m < l.length → hv (gd (l.set i y) m) = hv (gd l m) := fun m hm => by
      by_cases e : i = m
      · subst e; rw [gd_set_at hi', h1]
      · rw [gd_set_ne e]
    rw [e1 a (by omega), e1 b hb]
    exact h.2.2.2 a b c hab hb
theorem NOwn.storeAt (hk : ∀ x, (enc x).length = K) {w : World} {lo hi : Nat} {g n cap : Nat} {l : List α} {i : Nat} {x : α} (h : NOwn w lo hi tE enc K tI encI hv sub (.slice (some ⟨g, 0, none⟩) n cap) (l.set i x)) (hi' : i < l.length) (y : α) (j : Nat) (hj : j < K) (u : Value)
    (hy : enc y = (enc x).set j u) (h1 : hv y = hv x) (h2 : sub y = sub x) : NOwn (w.setCell ⟨g, i * K + j, none⟩ u) lo hi tE enc K tI encI hv sub (.slice (some ⟨g, 0, none⟩) n cap) (l.set i y) := by
  have := h.store hk i (by simpa using hi') y j hj u (by rw [gd_set_at hi']; exact hy) (by rw [gd_set_at hi']; exact h1) (by rw [gd_set_at hi']; exact h2)
  rwa [List.set_set] at this
theorem NOwn.innerAt {w w' : World} {lo hi : Nat} {v : Value} {l : List α} {i : Nat} {x : α} (h : NOwn w lo hi tE enc K tI encI hv sub v (l.set i x)) (hi' : i < l.length) (y : α) (he : enc y = enc x) (h1 : hv y = hv x)
    (ho : Own w' lo tI encI 1 (hv y) (sub y)) (hg : w.grownBy w' (hv y).ownBlock) : NOwn w' lo hi tE enc K tI encI hv sub v (l.set i y) := by
  have := h.inner i (by simpa using hi') y (by rw [gd_set_at hi']; exact he) (by rw [gd_set_at hi']; exact h1) ho hg
  rwa [List.set_set] at this
theorem NOwn.innAt {w : World} {lo hi : Nat} {v : Value} {l : List α} {i : Nat} {x : α} (h : NOwn w lo hi tE enc K tI encI hv sub v (l.set i x)) (hi' : i < l.length) : Own w lo tI encI 1 (hv x) (sub x) ∧ ∀ b, (hv x).ownBlock = some b → lo ≤ b ∧ b < hi := by
  have h1 := h.2.2.1 i (by simpa using hi')
  rw [gd_set_at hi'] at h1
  exact ⟨h1.1, fun b hb => ⟨(h1.1.bounds b hb).1, (h1.2 b hb).1⟩⟩
end
/-! ### marks, one element behind the other -/
section
variable {α : Type} [Inhabited α]
/-- the number with which the marks of element i begin -/
def kAt (nx : Int → α → Int) (k : Int) (l : List α) : Nat → Int
  | 0 => k
  | i + 1 => nx (kAt nx k l i) (gd l i)
/-- the elements marked -/
def marksL (nx : Int → α → Int) (mk : Int → α → α) (k : Int) (l : List α) : List α := (List.range l.length).map fun i => mk (kAt nx k l i) (gd l i)
theorem marksL_len (nx : Int → α → Int) (mk : Int → α → α) (k : Int) (l : List α) : (marksL nx mk k l).length = l.length := by simp [marksL]
theorem marksL_at (nx : Int → α → Int) (mk : Int → α → α) (k : Int) (l : List α) {i : Nat} (h : i < l.length) : gd (marksL nx mk k l) i = mk (kAt nx k l i) (gd l i) := by simp [marksL, gd, h]
theorem kAt_bound {nx : Int → α → Int} {k : Int} {l : List α} {c : Int} (h : ∀ (k : Int) i, i < l.length → k ≤ nx k (gd l i) ∧ nx k (gd l i) ≤ k + c) : ∀ i, i ≤ l.length → k ≤ kAt nx k l i ∧ kAt nx k l i ≤ k + c * (i : Int)
  | 0, _ => by simp [kAt]
  | i + 1, hi => by
    have h1 := kAt_bound (k := k) h i (by omega)
    have h2 := h (kAt nx k l i) i (by omega)
    have h3 : c * ((i + 1 : Nat) : Int) = c * (i : Int) + c := by rw [Int.natCast_add, Int.mul_add]; simp
    rw [h3]
    show k ≤ nx (kAt nx k l i) (gd l i) ∧ nx (kAt nx k l i) (gd l i) ≤ _
    omega
theorem gd_ext {l l' : List α} (hl : l'.length = l.length) (h : ∀ i, i < l.length → gd l' i = gd l i) : l' = l := by
  have := map_same (f := fun x : α => x) hl h
  simpa using this
end
end Go.Proofs.YteainpflmofjaaaGreatDoor
