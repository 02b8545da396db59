/- Entries: the pair that is asked for, by the program and by the reference. No condition but sizes. -/
import Derived.Test.YteainpflmofjaaaDoorAl25
import Derived.OwnWalk
namespace Go.Proofs.YteainpflmofjaaaDoor
open Go.RowKit
theorem idx_nn (o : Option Nat) : decide (0 ≤ idxInt o) = o.isSome := by cases o <;> simp [idxInt]
def leastI (p q : Int) : Int := if p < q then p else q
def mostI (p q : Int) : Int := if p < q then q else p
theorem prGood_eq (l : List Ent) (a b : Int) : prGood l a b = (areEnt l && decide (0 ≤ idxInt (entIdx l (min a b))) && decide (0 ≤ idxInt (entIdx l (max a b))) && decide (idxInt (entIdx l (min a b)) ≠ idxInt (entIdx l (max a b)))) := by
  rw [idx_nn, idx_nn]; rfl
theorem prGood_spec (l : List Ent) (a b : Int) : prGood l a b = (areEnt l && decide (0 ≤ idxInt (entIdx l a)) && decide (0 ≤ idxInt (entIdx l b)) && decide (idxInt (entIdx l a) ≠ idxInt (entIdx l b))) := by
  rw [prGood_eq]
  rcases Int.le_total a b with h | h
  · rw [Int.min_eq_left h, Int.max_eq_right h]
  · rw [Int.min_eq_right h, Int.max_eq_left h]
    have : decide (idxInt (entIdx l b) ≠ idxInt (entIdx l a)) = decide (idxInt (entIdx l a) ≠ idxInt (entIdx l b)) := decide_eq_decide.2 ⟨Ne.symm, Ne.symm⟩
    rw [this]
    cases areEnt l <;> cases decide (0 ≤ idxInt (entIdx l b)) <;> cases decide (0 ≤ idxInt (entIdx l a)) <;> rfl
theorem pr_order {l : List Ent} {a b : Int} (h : prGood l a b = true) : leastI (idxInt (entIdx l a)) (idxInt (entIdx l b)) = (prI l a b : Int) ∧ mostI (idxInt (entIdx l a)) (idxInt (entIdx l b)) = (prK l a b : Int) := by
  obtain ⟨hA, h1, h2, h3, h4⟩ := pr_some h
  have g1 := (entIdx_some h1).2
  have g2 := (entIdx_some h2).2
  have hlt := areEnt_lt hA
  have hne : prI l a b ≠ prK l a b := by
    intro he
    rw [prGood_eq, h1, h2, he] at h
    simp at h
  have hle : min a b ≤ max a b := by omega
  have hik : prI l a b < prK l a b := by
    rcases Nat.lt_trichotomy (prI l a b) (prK l a b) with h5 | h5 | h5
    · exact h5
    · exact absurd h5 hne
    · have := hlt _ _ h5 h3
      omega
  rcases Int.le_total a b with hh | hh
  · rw [Int.min_eq_left hh] at h1
    rw [Int.max_eq_right hh] at h2
    rw [h1, h2]
    have hI : (prI l a b : Int) < prK l a b := by omega
    exact ⟨if_pos hI, if_pos hI⟩
  · rw [Int.min_eq_right hh] at h1
    rw [Int.max_eq_left hh] at h2
    rw [h1, h2]
    have hI : ¬ (prK l a b : Int) < prI l a b := by omega
    exact ⟨if_neg hI, if_neg hI⟩
set_option maxHeartbeats 2000000 in
set_option maxRecDepth 100000 in
theorem pairOf_c (v : Value) (l : List Ent) (x y : Int) (w : World) (h : Sl w Ent.enc 6 v l) (hd : Ent.Deep w l) (hs : ∀ i, i < l.length → (gd l i).Fits) : Calls Tryd.prog 52 #[v, .int .i64 x, .int .i64 y] w fun e w' => e = .returned (.tuple #[.int .i64 (idxInt (entIdx l (min x y))), .int .i64 (idxInt (entIdx l (max x y))), .bool (prGood l x y)]) ∧ Below w.heap.size w w' := by
  have hG := Lib.hid (prGood_eq l x y)
  have hE1 := Lib.hid (fun W (hB : Below w.heap.size w W) => entryAt_c v l (min x y) W (h.mono hB))
  have hE2 := Lib.hid (fun W (hB : Below w.heap.size w W) => entryAt_c v l (max x y) W (h.mono hB))
  have hA := Lib.hid (fun W (hB : Below w.heap.size w W) => areEntries_c v l W (h.mono hB) (hd.mono hB) hs)
  have hPQ := Lib.hid (show x = y → idxInt (entIdx l (min x y)) = idxInt (entIdx l (max x y)) from by rintro rfl; rw [Int.min_self, Int.max_self])
  generalize idxInt (entIdx l (min x y)) = p at hG hE1 hPQ ⊢
  generalize idxInt (entIdx l (max x y)) = q at hG hE2 hPQ ⊢
  generalize prGood l x y = r at hG ⊢
  generalize areEnt l = ok at hG hA
  have hway : (ok = false ∧ r = false) ∨ (ok = true ∧ ¬ 0 ≤ p ∧ r = false) ∨ (ok = true ∧ 0 ≤ p ∧ ¬ 0 ≤ q ∧ r = false) ∨ (ok = true ∧ 0 ≤ p ∧ 0 ≤ q ∧ p = q ∧ r = false) ∨ (ok = true ∧ 0 ≤ p ∧ 0 ≤ q ∧ p ≠ q ∧ r = true) := by
    rw [hG.out]
    cases ok
    · exact .inl ⟨rfl, rfl⟩
    · by_cases hp : 0 ≤ p <;> by_cases hq : 0 ≤ q <;> by_cases hpq : p = q <;> simp [hp, hq, hpq]
      all_goals omega
  clear hG
  have hxy : (x < y ∧ min x y = x ∧ max x y = y) ∨ (x = y ∧ min x y = x ∧ max x y = x) ∨ (y < x ∧ min x y = y ∧ max x y = x) := by omega
  rcases hxy with ⟨hxy, e1, e2⟩ | ⟨hxy, e1, e2⟩ | ⟨hxy, e1, e2⟩ <;> rw [e1] at hE1 <;> rw [e2] at hE2 <;> clear e1 e2 <;> rcases hway with ⟨rfl, rfl⟩ | ⟨rfl, hp, rfl⟩ | ⟨rfl, hp, hq, rfl⟩ | ⟨rfl, hp, hq, hpq, rfl⟩ | ⟨rfl, hp, hq, hpq, rfl⟩
  all_goals try (have hq' := hPQ.out hxy; subst hq'; subst hxy)
  all_goals try (exact absurd rfl hpq)
  all_goals clear hPQ
  all_goals
    go_enter Tryd.func52, Tryd.ntmps52
    go_wp2_with (first | (go_at_call 94; refine (hE1.out _ (by repeat' (first | exact Below.refl _ _ | with_reducible assumption | refine bext ?_ ?_ _ | refine Below.alloc ?_ ?_ _ | refine Below.setCell ?_ ?_ _ | refine Below.drew ?_ | (simp; done) | (have hbz := hb.size; first | omega | (simp; omega)) | (simp; omega) | omega))).mono ?_; rintro e w' ⟨rfl, hbq⟩; obtain ⟨p, rfl⟩ := ext_of_below hbq; clear hbq) | (go_at_call 94; refine (hE2.out _ (by repeat' (first | exact Below.refl _ _ | with_reducible assumption | refine bext ?_ ?_ _ | refine Below.alloc ?_ ?_ _ | refine Below.setCell ?_ ?_ _ | refine Below.drew ?_ | (simp; done) | (have hbz := hb.size; first | omega | (simp; omega)) | (simp; omega) | omega))).mono ?_; rintro e w' ⟨rfl, hbq⟩; obtain ⟨p, rfl⟩ := ext_of_below hbq; clear hbq) | (go_at_call 59; refine (hA.out _ (by repeat' (first | exact Below.refl _ _ | with_reducible assumption | refine bext ?_ ?_ _ | refine Below.alloc ?_ ?_ _ | refine Below.setCell ?_ ?_ _ | refine Below.drew ?_ | (simp; done) | (have hbz := hb.size; first | omega | (simp; omega)) | (simp; omega) | omega))).mono ?_; rintro e w' ⟨rfl, hbq⟩; obtain ⟨p, rfl⟩ := ext_of_below hbq; clear hbq))
    go_ret3
    refine ⟨?_, (by repeat' (first | exact Below.refl _ _ | with_reducible assumption | refine bext ?_ ?_ _ | refine Below.alloc ?_ ?_ _ | refine Below.setCell ?_ ?_ _ | refine Below.drew ?_ | (simp; done) | (have hbz := hb.size; first | omega | (simp; omega)) | (simp; omega) | omega))⟩
    first | rfl | (simp [*]; done) | (simp_all; done)
end Go.Proofs.YteainpflmofjaaaDoor
