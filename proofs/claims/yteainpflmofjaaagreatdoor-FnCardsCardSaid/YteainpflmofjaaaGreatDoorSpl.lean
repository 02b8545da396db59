/- The reader of choices: a text with a byte more, less, or another one. General. No condition but sizes. -/
import Derived.Test.YteainpflmofjaaaGreatDoorCs
import Derived.Outline
namespace Go.Proofs.YteainpflmofjaaaGreatDoor
open Go.RowKit
theorem only_extS {a w : World} {r : Option Nat} {p : Gap} (h : a.grownBy w r) : a.grownBy (ext w p) r := only_trans h (only_of_below (below_ext _ _) _)
set_option maxHeartbeats 4000000 in
set_option maxRecDepth 100000 in
theorem spoilt_c (w : World) (B m : Nat) (t s : ByteArray) (h : Cur w B m) (hm : m ≤ 100000000) (ht : t.size ≤ 100000) (hs0 : 1 ≤ s.size) (hs : s.size ≤ 100) : Calls Tryz.prog 57 #[.pointer (some ⟨B, 0, none⟩), .string t, .string s] w (CurS w B (m + 6) (fun x => x.size ≤ t.size + 1)) := by
  have h := Lib.hid h
  have hs1 : (1 : Int) ≤ (s.size : Int) := by omega
  cases h0 : t.toList.isEmpty
  · have ht0 : 0 < t.size := by
      rcases Nat.eq_zero_or_pos t.size with e | e
      · have : t.toList.length = 0 := by rw [ByteArray.toList_eq]; simpa using e
        rw [List.isEmpty_eq_false_iff] at h0
        exact absurd (List.length_eq_zero_iff.1 this) h0
      · exact e
    go_enter Tryz.func57, Tryz.ntmps57
    go_wp2_with fail
    refine (pick_c _ B m _ h.out (by omega) (by omega)).mono ?_
    rintro e w1 ⟨p, hp, rfl, C1, g1⟩
    obtain ⟨k, rfl⟩ : ∃ k : Nat, p = (k : Int) := ⟨p.toNat, by have := hp.1; omega⟩
    have hk : k < t.size := by
      rcases Nat.lt_or_ge 1 t.size with h1 | h1
      · have := hp.2.1 (by omega); omega
      · have := hp.2.2 (by omega); omega
    clear hp
    replace C1 := Lib.hid C1
    replace g1 := Lib.hid g1
    go_wp2_with fail
    refine (pick_c _ B _ _ C1.out (by omega) (by omega)).mono ?_
    rintro e w2 ⟨p, hp, rfl, C2, g2⟩
    obtain ⟨j, rfl⟩ : ∃ j : Nat, p = (j : Int) := ⟨p.toNat, by have := hp.1; omega⟩
    have hj : j < s.size := by
      rcases Nat.lt_or_ge 1 s.size with h1 | h1
      · have := hp.2.1 (by omega); omega
      · have := hp.2.2 (by omega); omega
    clear hp
    have G2 := Lib.hid (only_trans g1.out g2)
    replace C2 := Lib.hid C2
    clear g1 g2 C1
    have hch : ((s.extract j s.size).extract 0 1).size ≤ 1 := by simp only [ByteArray.size_extract]; omega
    go_wp2_with fail
    generalize (s.extract j s.size).extract 0 1 = ch at hch ⊢
    refine (pick_c _ B _ 3 C2.out (by omega) (by omega)).mono ?_
    rintro e w3 ⟨p, -, rfl, C3, g3⟩
    have G3 := Lib.hid (only_trans G2.out g3)
    replace C3 := Lib.hid C3
    clear g3 C2 G2
    have hk1 : (k : Int) + 1 ≤ (t.size : Int) := by omega
    have hk2 : (k : Int) ≤ (t.size : Int) := by omega
    by_cases hp0 : p = 0
    · subst hp0
      go_wp2_with fail
      refine wp_region_ext (by kernel_rfl) (by kernel_rfl) ?_
      repeat (any_goals (first | go_big_quiet_step (fail)))
      (refine wpQuiet_nil ?_)
      (rintro _ ⟨q, rfl⟩)
      go_wp2_with fail
      go_ret
      exact ⟨_, by simp only [ByteArray.size_append, ByteArray.size_extract]; omega, rfl, (C3.out.mono (below_ext _ _)).le (by omega), only_extS G3.out⟩
    have hp0' : (p == 0) = false := by simpa using hp0
    by_cases hp1 : p = 1
    · subst hp1
      go_wp2_with fail
      refine wp_region_ext (by kernel_rfl) (by kernel_rfl) ?_
      repeat (any_goals (first | go_big_quiet_step (fail)))
      (refine wpQuiet_nil ?_)
      (rintro _ ⟨q, rfl⟩)
      go_wp2_with fail
      go_ret
      exact ⟨_, by simp only [ByteArray.size_append, ByteArray.size_extract]; omega, rfl, (C3.out.mono (below_ext _ _)).le (by omega), only_extS G3.out⟩
    have hp1' : (p == 1) = false := by simpa using hp1
    clear hp0 hp1
    go_wp2_with fail
    refine wp_region_ext (by kernel_rfl) (by kernel_rfl) ?_
    repeat (any_goals (first | go_big_quiet_step (fail)))
    (refine wpQuiet_nil ?_)
    (rintro _ ⟨q, rfl⟩)
    go_wp2_with fail
    go_ret
    exact ⟨_, by simp only [ByteArray.size_append, ByteArray.size_extract]; omega, rfl, (C3.out.mono (below_ext _ _)).le (by omega), only_extS G3.out⟩
  · go_enter Tryz.func57, Tryz.ntmps57
    go_wp2_with fail
    go_ret
    exact ⟨s.extract 0 1, by simp only [ByteArray.size_extract]; omega, rfl, h.out.le (by omega), World.grownBy.refl _ _⟩
end Go.Proofs.YteainpflmofjaaaGreatDoor
