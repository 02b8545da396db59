/- Entries: two of them that are alike (the walks). No condition but sizes. -/
import Derived.Test.YteainpflmofjaaaDoorAm25
namespace Go.Proofs.YteainpflmofjaaaDoor
open Go.RowKit
set_option maxHeartbeats 400000 in
theorem l1Least_c (x y : Int) (w : World) : Calls Tryd.prog 91 #[.int .i64 x, .int .i64 y] w fun e w' => e = .returned (.int .i64 (leastI x y)) ∧ w = w' := by
  unfold leastI
  by_cases hxy : x < y
  all_goals
    go_enter Tryd.func91, Tryd.ntmps91
    go_wp2_with fail
    go_ret
    exact ⟨ret_int (by simp), rfl⟩
set_option maxHeartbeats 400000 in
theorem l1Most_c (x y : Int) (w : World) : Calls Tryd.prog 92 #[.int .i64 x, .int .i64 y] w fun e w' => e = .returned (.int .i64 (mostI x y)) ∧ w = w' := by
  unfold mostI
  rcases Int.lt_trichotomy x y with hxy | hxy | hxy
  · have h2 : ¬ y < x := by omega
    go_enter Tryd.func92, Tryd.ntmps92
    go_wp2_with fail
    go_ret
    exact ⟨ret_int (by first | rfl | (simp; done) | (simp; omega)), rfl⟩
  · subst hxy
    go_enter Tryd.func92, Tryd.ntmps92
    go_wp2_with fail
    go_ret
    exact ⟨ret_int (by simp), rfl⟩
  · have h2 : ¬ x < y := by omega
    go_enter Tryd.func92, Tryd.ntmps92
    go_wp2_with fail
    go_ret
    exact ⟨ret_int (by first | rfl | (simp; done) | (rw [if_neg (by omega)]) | (simp; omega)), rfl⟩
def prP (l : List Ent) (a b : Int) : Int := if prGood l a b then (prI l a b : Int) else 0
def prQ (l : List Ent) (a b : Int) : Int := if prGood l a b then (prK l a b : Int) else 0
set_option maxHeartbeats 2000000 in
theorem l25Pair_c (v : Value) (l : List Ent) (x y : Int) (w : World) (h : Sl w Ent.enc 6 v l) (hd : Ent.Deep w l) (hs : ∀ i, i < l.length → (gd l i).Fits) : Calls Tryd.prog 49 #[v, .int .i64 x, .int .i64 y] w fun e w' => e = .returned (.tuple #[.int .i64 (prP l x y), .int .i64 (prQ l x y), .bool (prGood l x y)]) ∧ Below w.heap.size w w' := by
  have hG := prGood_spec l x y
  have hE := Lib.hid (fun n W (hB : Below w.heap.size w W) => l25Find_c v l n W (h.mono hB))
  have hA := Lib.hid (fun W (hB : Below w.heap.size w W) => l25Good_c v l W (h.mono hB) (hd.mono hB) hs)
  cases hg : prGood l x y
  · have h1 := Lib.hid (show prP l x y = 0 by simp [prP, hg])
    have h2 := Lib.hid (show prQ l x y = 0 by simp [prQ, hg])
    rw [hg] at hG
    have hway : areEnt l = false ∨ (areEnt l = true ∧ idxInt (entIdx l x) < 0) ∨ (areEnt l = true ∧ ¬ idxInt (entIdx l x) < 0 ∧ idxInt (entIdx l y) < 0) ∨ (areEnt l = true ∧ ¬ idxInt (entIdx l x) < 0 ∧ ¬ idxInt (entIdx l y) < 0 ∧ idxInt (entIdx l x) = idxInt (entIdx l y)) := by
      generalize idxInt (entIdx l x) = p at *
      generalize idxInt (entIdx l y) = q at *
      cases hA : areEnt l
      · exact .inl rfl
      · rw [hA] at hG
        by_cases c1 : p < 0
        · exact .inr (.inl ⟨rfl, c1⟩)
        · by_cases c2 : q < 0
          · exact .inr (.inr (.inl ⟨rfl, c1, c2⟩))
          · refine .inr (.inr (.inr ⟨rfl, c1, c2, ?_⟩))
            simp at hG
            omega
    clear hG
    rcases hway with h3 | ⟨h3, h4⟩ | ⟨h3, h4, h5⟩ | ⟨h3, h4, h5, h6⟩
    all_goals
      go_enter Tryd.func49, Tryd.ntmps49
      go_wp2_with (first | (go_at_call 90; refine (hE.out _ _ (by repeat' (first | exact Below.refl _ _ | with_reducible assumption | refine bext ?_ ?_ _ | refine Below.alloc ?_ ?_ _ | refine Below.setCell ?_ ?_ _ | refine Below.drew ?_ | (simp; done) | (have hbz := hb.size; first | omega | (simp; omega)) | (simp; omega) | omega))).mono ?_; rintro e w' ⟨rfl, rfl⟩) | (go_at_call 64; refine (hA.out _ (by repeat' (first | exact Below.refl _ _ | with_reducible assumption | refine bext ?_ ?_ _ | refine Below.alloc ?_ ?_ _ | refine Below.setCell ?_ ?_ _ | refine Below.drew ?_ | (simp; done) | (have hbz := hb.size; first | omega | (simp; omega)) | (simp; omega) | omega))).mono ?_; rintro e w' ⟨rfl, hbq⟩; obtain ⟨p, rfl⟩ := ext_of_below hbq; clear hbq))
      go_ret3
      exact ⟨by rw [h1.out, h2.out]; rfl, (by repeat' (first | exact Below.refl _ _ | with_reducible assumption | refine bext ?_ ?_ _ | refine Below.alloc ?_ ?_ _ | refine Below.setCell ?_ ?_ _ | refine Below.drew ?_ | (simp; done) | (have hbz := hb.size; first | omega | (simp; omega)) | (simp; omega) | omega))⟩
  · have h1 := Lib.hid (show prP l x y = prI l x y by simp [prP, hg])
    have h2 := Lib.hid (show prQ l x y = prK l x y by simp [prQ, hg])
    have hO := Lib.hid (pr_order hg)
    rw [hg] at hG
    have hway : areEnt l = true ∧ ¬ idxInt (entIdx l x) < 0 ∧ ¬ idxInt (entIdx l y) < 0 ∧ ¬ idxInt (entIdx l x) = idxInt (entIdx l y) := by
      generalize idxInt (entIdx l x) = p at *
      generalize idxInt (entIdx l y) = q at *
      have := hG.symm
      simp only [Bool.and_eq_true, decide_eq_true_eq] at this
      exact ⟨this.1.1.1, by omega, by omega, this.2⟩
    clear hG
    obtain ⟨h3, h4, h5, h6⟩ := hway
    have k4 : decide (idxInt (entIdx l x) < 0) = false := by simpa using h4
    have k5 : decide (idxInt (entIdx l y) < 0) = false := by simpa using h5
    have k6 : (idxInt (entIdx l x) == idxInt (entIdx l y)) = false := by simpa using h6
    clear h4 h5 h6
    go_enter Tryd.func49, Tryd.ntmps49
    go_wp2_with (first | (go_at_call 90; refine (hE.out _ _ (by repeat' (first | exact Below.refl _ _ | with_reducible assumption | refine bext ?_ ?_ _ | refine Below.alloc ?_ ?_ _ | refine Below.setCell ?_ ?_ _ | refine Below.drew ?_ | (simp; done) | (have hbz := hb.size; first | omega | (simp; omega)) | (simp; omega) | omega))).mono ?_; rintro e w' ⟨rfl, rfl⟩) | (go_at_call 64; refine (hA.out _ (by repeat' (first | exact Below.refl _ _ | with_reducible assumption | refine bext ?_ ?_ _ | refine Below.alloc ?_ ?_ _ | refine Below.setCell ?_ ?_ _ | refine Below.drew ?_ | (simp; done) | (have hbz := hb.size; first | omega | (simp; omega)) | (simp; omega) | omega))).mono ?_; rintro e w' ⟨rfl, hbq⟩; obtain ⟨p, rfl⟩ := ext_of_below hbq; clear hbq) | (go_at_call 91; refine (l1Least_c _ _ _).mono ?_; rintro e w' ⟨rfl, rfl⟩) | (go_at_call 92; refine (l1Most_c _ _ _).mono ?_; rintro e w' ⟨rfl, rfl⟩))
    go_ret3
    exact ⟨by rw [h1.out, h2.out, ← hO.out.1, ← hO.out.2]; rfl, (by repeat' (first | exact Below.refl _ _ | with_reducible assumption | refine bext ?_ ?_ _ | refine Below.alloc ?_ ?_ _ | refine Below.setCell ?_ ?_ _ | refine Below.drew ?_ | (simp; done) | (have hbz := hb.size; first | omega | (simp; omega)) | (simp; omega) | omega))⟩
end Go.Proofs.YteainpflmofjaaaDoor
