/- A slice whose elements hold slices: the slice of one element turned and grown, its header with it. General. -/
import Derived.Test.YteainpflmofjaaaDoorPn
namespace Go.Proofs.YteainpflmofjaaaDoor
open Go.RowKit
section
variable {α β : Type} [Inhabited α] {tE tI : TypeId} {enc : α → List Value} {K : Nat} {encI : β → List Value} {hv : α → Value} {sub : α → List β}
/-- the slice of one element turned and grown, its header with it -/
theorem NOwn.regrow (hk : ∀ x, (enc x).length = K) {w w1 : World} {lo hi : Nat} {g n cap : Nat} {l : List α} (h : NOwn w lo hi tE enc K tI encI hv sub (.slice (some ⟨g, 0, none⟩) n cap) l) (i : Nat) (hi' : i < l.length) (y : α) (j : Nat) (hj : j < K) (u : Value)
    (hy : enc y = (enc (gd l i)).set j u) (hat : (hv y).ownBlock = (hv (gd l i)).ownBlock ∨ (hv y).ownBlock = some hi) (ho : Own w1 lo tI encI 1 (hv y) (sub y)) (hg : w.grownBy w1 (hv (gd l i)).ownBlock) :
    NOwn (w1.setCell ⟨g, i * K + j, none⟩ u) lo (hi + 1) tE enc K tI encI hv sub (.slice (some ⟨g, 0, none⟩) n cap) (l.set i y) := by
  have hghi : g < hi := h.2.1 g rfl
  have hgo : ∀ b, (hv (gd l i)).ownBlock = some b → b ≠ g := fun b hb' e => ((h.2.2.1 i hi').2 b hb').2 (by rw [e]; rfl)
  have hgy : ∀ b, (hv y).ownBlock = some b → b ≠ g := fun b hb' => by
    rcases hat with e | e
    · exact hgo b (by rw [← e]; exact hb')
    · rw [e] at hb'; injection hb' with hb'; omega
  have h1 : Own w1 lo tE enc K (.slice (some ⟨g, 0, none⟩) n cap) l := h.1.kept hg (by
    refine .inr fun e => ?_
    exact hgo g e.symm rfl)
  have hs : w1.grownBy (w1.setCell ⟨g, i * K + j, none⟩ u) (some g) := only_setCell (World.grownBy.refl _ _) _ rfl _
  have kept2 : ∀ {v : Value} {s : List β}, Own w1 lo tI encI 1 v s → (∀ b, v.ownBlock = some b → b ≠ g) → Own (w1.setCell ⟨g, i * K + j, none⟩ u) lo tI encI 1 v s := fun ho2 hne => ho2.kept hs (by
    cases hbv : Value.ownBlock _ with
    | none => exact .inl rfl
    | some b => exact .inr (fun e => hne b hbv (by injection e)))
  have e1 : ∀ m, m < l.length → m ≠ i → gd (l.set i y) m = gd l m := fun m _ hm => gd_set_ne (Ne.symm hm) y
  refine ⟨h1.store hk i hi' y j hj u hy, fun b hb => Nat.lt_succ_of_lt (h.2.1 b hb), fun m hm => ?_, fun a b c hab hb2 => ?_⟩
  · rw [List.length_set] at hm
    by_cases e : m = i
    · subst e
      rw [gd_set_at hi']
      refine ⟨kept2 ho hgy, fun b hb => ⟨?_, fun e3 => hgy b hb (by injection e3 with e3; exact e3.symm)⟩⟩
      rcases hat with e | e
      · have := ((h.2.2.1 m hm).2 b (by rw [← e]; exact hb)).1
        omega
      · rw [e] at hb; injection hb with hb; omega
    · rw [e1 m hm e]
      have h2 := h.2.2.1 m hm
      refine ⟨kept2 (h2.1.kept hg ?_) (fun b hbm e3 => (h2.2 b hbm).2 (by rw [e3]; rfl)), fun b hb => ⟨Nat.lt_succ_of_lt (h2.2 b hb).1, (h2.2 b hb).2⟩⟩
      cases hbm : (hv (gd l m)).ownBlock with
      | none => exact .inl rfl
      | some b =>
        refine .inr fun e2 => ?_
        rcases Nat.lt_or_gt_of_ne e with hlt | hlt
        · exact h.2.2.2 m i b hlt hi' hbm e2.symm
        · exact h.2.2.2 i m b hlt hm e2.symm hbm
  · rw [List.length_set] at hb2
    have bnd : ∀ m, m < l.length → ∀ q, (hv (gd l m)).ownBlock = some q → q < hi := fun m hm q hq => ((h.2.2.1 m hm).2 q hq).1
    by_cases ea : a = i
    · subst ea
      have hbi : b ≠ a := by omega
      rw [gd_set_at hi', e1 b hb2 hbi]
      intro hc hc2
      rcases hat with e | e
      · exact h.2.2.2 a b c hab hb2 (by rw [← e]; exact hc) hc2
      · rw [e] at hc; injection hc with hc
        have := bnd b hb2 c hc2
        omega
    · by_cases eb : b = i
      · subst eb
        rw [gd_set_at hi', e1 a (by omega) ea]
        intro hc hc2
        rcases hat with e | e
        · exact h.2.2.2 a b c hab hb2 hc (by rw [← e]; exact hc2)
        · rw [e] at hc2; injection hc2 with hc2
          have := bnd a (by omega) c hc
          omega
      · rw [e1 a (by omega) ea, e1 b hb2 eb]
        exact h.2.2.2 a b c hab hb2
end
theorem NOwn.tight {α β : Type} [Inhabited α] {tE tI : TypeId} {enc : α → List Value} {K : Nat} {encI : β → List Value} {hv : α → Value} {sub : α → List β} {w : World} {lo hi : Nat} {v : Value} {l : List α} (h : NOwn w lo hi tE enc K tI encI hv sub v l) : NOwn w lo w.heap.size tE enc K tI encI hv sub v l :=
  ⟨h.1, fun b hb => (h.1.bounds b hb).2, fun i hi' => ⟨(h.2.2.1 i hi').1, fun b hb => ⟨((h.2.2.1 i hi').1.bounds b hb).2, ((h.2.2.1 i hi').2 b hb).2⟩⟩, h.2.2.2⟩
end Go.Proofs.YteainpflmofjaaaDoor
