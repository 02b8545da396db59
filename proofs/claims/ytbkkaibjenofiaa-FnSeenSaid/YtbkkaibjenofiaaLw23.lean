/- Headings: the lowest above two is that of the two in the other order. Plain. No condition. -/
import Derived.Test.YtbkkaibjenofiaaHl23
import Derived.Test.YtbkkaibjenofiaaSp23
namespace Go.Proofs.Ytbkkaibjenofiaa
open Go.RowKit
/-! ### the lowest above two -/
theorem up_tail {l : List Hdg} (h : areHd l = true) : ∀ k, k < l.length → ∀ x, x ∈ upL l (gd l k).id → (x ≤ (gd l k).id ∧ 1 ≤ x) ∧ ∀ y, y ∈ upL l (gd l k).id → y ≤ x → y ∈ upL l x := by
  intro k
  induction k using Nat.strongRecOn with
  | _ k ih =>
    intro hk x hx
    rw [upL_split h hk] at hx
    have hh := hdHead_b (areHd_heads h k hk)
    rcases List.mem_cons.1 hx with rfl | hx
    · exact ⟨⟨Int.le_refl _, hh.1⟩, fun y hy _ => hy⟩
    · rcases upL_next h hk with hu | ⟨j, hj, he⟩
      · rw [hu, upL_zero] at hx; cases hx
      · rw [← he] at hx
        obtain ⟨h1, h2⟩ := ih j hj (by omega) x hx
        have hlt := hd_up (areHd_heads h) j k hj hk
        refine ⟨by omega, fun y hy hyx => ?_⟩
        rw [upL_split h hk, ← he] at hy
        rcases List.mem_cons.1 hy with rfl | hy
        · omega
        · exact h2 y hy hyx
theorem up_desc {l : List Hdg} (h : areHd l = true) : ∀ k, k < l.length → (upL l (gd l k).id).Pairwise (fun a b => b < a) := by
  intro k
  induction k using Nat.strongRecOn with
  | _ k ih =>
    intro hk
    rw [upL_split h hk]
    rcases upL_next h hk with hu | ⟨j, hj, he⟩
    · rw [hu, upL_zero]; simp
    · rw [← he, List.pairwise_cons]
      refine ⟨fun y hy => ?_, ih j hj (by omega)⟩
      have := (up_tail h j (by omega) y hy).1
      have hlt := hd_up (areHd_heads h) j k hj hk
      omega
theorem low_first {l : List Hdg} {a b : Int} {k : Nat} (ha : (upL l a).Pairwise (fun a b => b < a)) (h : lowAt l a b = some k) : gd (upL l a) k ∈ upL l a ∧ gd (upL l a) k ∈ upL l b ∧ ∀ y, y ∈ upL l a → y ∈ upL l b → y ≤ gd (upL l a) k := by
  obtain ⟨hk, h1, h2⟩ := findTo_spec h
  refine ⟨mem_gd.2 ⟨k, hk, rfl⟩, hasI_mem.1 h1, fun y hy hyb => ?_⟩
  obtain ⟨i, hi, rfl⟩ := mem_gd.1 hy
  rcases Nat.lt_trichotomy i k with hlt | rfl | hlt
  · have := h2 i hlt
    rw [hasI_mem.2 hyb] at this; cases this
  · exact Int.le_refl _
  · have := List.pairwise_iff_getElem.1 ha k i hk hi hlt
    rw [gd_get hk, gd_get hi]
    omega
theorem low_none {l : List Hdg} {a b : Int} (h : lowAt l a b = none) : ∀ y, y ∈ upL l a → y ∉ upL l b := fun y hy hyb => by
  obtain ⟨i, hi, rfl⟩ := mem_gd.1 hy
  have := findTo_none_spec h i hi
  rw [hasI_mem.2 hyb] at this; cases this
/-- the lowest above two, in either order -/
theorem low_swap (l : List Hdg) (a b : Int) : lowV l b a = lowV l a b ∧ lowB l b a = lowB l a b := by
  cases hg : lowG l a b
  · have hg2 : lowG l b a = false := by rw [lowG, Bool.and_comm]; exact hg
    have e1 : lowB l a b = false := by rw [lowB, hg]; rfl
    have e2 : lowB l b a = false := by rw [lowB, hg2]; rfl
    rw [low_no e1, low_no e2, e1, e2]
    exact ⟨rfl, rfl⟩
  · have hg2 : lowG l b a = true := by rw [lowG, Bool.and_comm]; exact hg
    have hab : isHd l a = true ∧ isHd l b = true := by simpa [lowG] using hg
    have desc : ∀ n, isHd l n = true → (upL l n).Pairwise (fun a b => b < a) := fun n hn => by
      have hA := (isHd_some hn).1
      have hs : (hdIdx l n).isSome = true := by unfold isHd at hn; simp at hn; exact hn.2
      obtain ⟨k, hk⟩ := Option.isSome_iff_exists.1 hs
      obtain ⟨hkl, he⟩ := hdIdx_some hk
      rw [← he]
      exact up_desc hA k hkl
    have da := desc a hab.1
    have db := desc b hab.2
    cases h1 : lowAt l a b with
    | none =>
      cases h2 : lowAt l b a with
      | none =>
        have e1 : lowB l a b = false := by rw [lowB, h1]; simp
        have e2 : lowB l b a = false := by rw [lowB, h2]; simp
        rw [low_no e1, low_no e2, e1, e2]
        exact ⟨rfl, rfl⟩
      | some k =>
        obtain ⟨m1, m2, -⟩ := low_first db h2
        exact absurd m1 (low_none h1 _ m2)
    | some k =>
      obtain ⟨m1, m2, m3⟩ := low_first da h1
      cases h2 : lowAt l b a with
      | none => exact absurd m1 (low_none h2 _ m2)
      | some k' =>
        obtain ⟨n1, n2, n3⟩ := low_first db h2
        obtain ⟨e1, e2⟩ := low_yes hg h1
        obtain ⟨e3, e4⟩ := low_yes hg2 h2
        rw [e1, e2, e3, e4]
        have p1 := m3 _ n2 n1
        have p2 := n3 _ m2 m1
        exact ⟨by omega, rfl⟩
end Go.Proofs.Ytbkkaibjenofiaa
