/- Slices whose elements hold slices, all the call's own: elements picked, an element's slice cut. General. -/
import Derived.Test.YteainpflmofjaaaGreatDoorDf
namespace Go.Proofs.YteainpflmofjaaaGreatDoor
open Go.RowKit
section
variable {α β : Type} [Inhabited α] {tE tI : TypeId} {enc : α → List Value} {K : Nat} {encI : β → List Value} {hv : α → Value} {sub : α → List β}
theorem gd_mem {l : List α} {i : Nat} (h : i < l.length) : gd l i ∈ l := by rw [gd_get h]; exact List.getElem_mem h
/-- picked elements, in the same block -/
theorem NOwn.pick {w w' : World} {lo hi : Nat} {v v' : Value} {l : List α} (h : NOwn w lo hi tE enc K tI encI hv sub v l) (p : Nat → Bool) (ho : Own w' lo tE enc K v' (pickG p (gd l) l.length)) (hb : v'.ownBlock = v.ownBlock) (hg : w.grownBy w' v.ownBlock) :
    NOwn w' lo hi tE enc K tI encI hv sub v' (pickG p (gd l) l.length) := by
  have hs := pickG_sub p l l.length (Nat.le_refl _)
  rw [List.take_length] at hs
  generalize pickG p (gd l) l.length = r at ho hs
  have hat : ∀ i, i < r.length → ∃ m, m < l.length ∧ gd r i = gd l m := fun i hi => by
    obtain ⟨m, hm, e⟩ := List.mem_iff_getElem.1 (hs.subset (gd_mem hi))
    exact ⟨m, hm, by rw [← e, gd_get hm]⟩
  refine ⟨ho, fun b hb' => h.2.1 b (by rw [← hb]; exact hb'), fun i hi => ?_, ?_⟩
  · obtain ⟨m, hm, e⟩ := hat i hi
    rw [e]
    obtain ⟨h1, h2⟩ := h.2.2.1 m hm
    refine ⟨h1.kept hg ?_, fun b hb' => ⟨(h2 b hb').1, by rw [hb]; exact (h2 b hb').2⟩⟩
    cases hbm : (hv (gd l m)).ownBlock with
    | none => exact .inl rfl
    | some b => exact .inr (fun e2 => (h2 b hbm).2 e2.symm)
  · have hp : l.Pairwise (fun x y => ∀ b, (hv x).ownBlock = some b → (hv y).ownBlock ≠ some b) := by
      rw [List.pairwise_iff_getElem]
      intro i j hi hj hij b hb'
      have := h.2.2.2 i j b hij hj (by rw [gd_get hi]; exact hb')
      rwa [gd_get hj] at this
    have hr := hp.sublist hs
    rw [List.pairwise_iff_getElem] at hr
    intro i j b hij hj hb'
    rw [gd_get (show i < r.length by omega)] at hb'
    rw [gd_get hj]
    exact hr i j (by omega) hj hij b hb'
/-- the slice of one element turned, its header with it -/
theorem NOwn.reslice (hk : ∀ x, (enc x).length = K) {w w1 : World} {lo hi : Nat} {g n cap : Nat} {l : List α} (h : NOwn w lo hi tE enc K tI encI hv sub (.slice (some ⟨g, 0, none⟩) n cap) l) (i : Nat) (hi' : i < l.length) (y : α) (j : Nat) (hj : j < K) (u : Value)
    (hy : enc y = (enc (gd l i)).set j u) (hb : (hv y).ownBlock = (hv (gd l i)).ownBlock) (ho : Own w1 lo tI encI 1 (hv y) (sub y)) (hg : w.grownBy w1 (hv (gd l i)).ownBlock) :
    NOwn (w1.setCell ⟨g, i * K + j, none⟩ u) lo hi tE enc K tI encI hv sub (.slice (some ⟨g, 0, none⟩) n cap) (l.set i y) := by
  have hgo : ∀ b, (hv (gd l i)).ownBlock = some b → b ≠ g := fun b hb' e => ((h.2.2.1 i hi').2 b hb').2 (by rw [e]; rfl)
  have h1 : Own w1 lo tE enc K (.slice (some ⟨g, 0, none⟩) n cap) l := h.1.kept hg (by
    refine .inr fun e => ?_
    exact hgo g e.symm rfl)
  have hs : w1.grownBy (w1.setCell ⟨g, i * K + j, none⟩ u) (some g) := only_setCell (World.grownBy.refl _ _) _ rfl _
  have kept2 : ∀ {v : Value} {s : List β}, Own w1 lo tI encI 1 v s → (∀ b, v.ownBlock = some b → b ≠ g) → Own (w1.setCell ⟨g, i * K + j, none⟩ u) lo tI encI 1 v s := fun ho2 hne => ho2.kept hs (by
    cases hbv : Value.ownBlock _ with
    | none => exact .inl rfl
    | some b => exact .inr (fun e => hne b hbv (by injection e)))
  have e1 : ∀ m, m < l.length → m ≠ i → gd (l.set i y) m = gd l m := fun m _ hm => gd_set_ne (Ne.symm hm) y
  refine ⟨h1.store hk i hi' y j hj u hy, h.2.1, fun m hm => ?_, fun a b c hab hb2 => ?_⟩
  · rw [List.length_set] at hm
    by_cases e : m = i
    · subst e
      rw [gd_set_at hi', hb]
      exact ⟨kept2 ho (by rw [hb]; exact hgo), (h.2.2.1 m hm).2⟩
    · rw [e1 m hm e]
      have h2 := h.2.2.1 m hm
      refine ⟨kept2 (h2.1.kept hg ?_) (fun b hbm e3 => (h2.2 b hbm).2 (by rw [e3]; rfl)), h2.2⟩
      cases hbm : (hv (gd l m)).ownBlock with
      | none => exact .inl rfl
      | some b =>
        refine .inr fun e2 => ?_
        rcases Nat.lt_or_gt_of_ne e with hlt | hlt
        · exact h.2.2.2 m i b hlt hi' hbm e2.symm
        · exact h.2.2.2 i m b hlt hm e2.symm hbm
  · rw [List.length_set] at hb2
    have e4 : ∀ m, m < l.length → (hv (gd (l.set i y) m)).ownBlock = (hv (gd l m)).ownBlock := fun m hm => by
      by_cases e : m = i
      · subst e; rw [gd_set_at hi', hb]
      · rw [e1 m hm e]
    rw [e4 a (by omega), e4 b hb2]
    exact h.2.2.2 a b c hab hb2
end
end Go.Proofs.YteainpflmofjaaaGreatDoor
