/- Rising numbers, what is among numbers: by the program and by the reference. General. -/
import Derived.Test.YteainpflmofjaaaDoorFind
import Derived.Test.YteainpflmofjaaaDoorBnd
import Derived.Outline
namespace Go.Proofs.YteainpflmofjaaaDoor
open Go.RowKit
@[go_sem] theorem lt_add_one2 (a c0 c1 : Nat) : a < a + 1 + c0 + c1 := by omega
@[go_sem] theorem le_add_one2 (a c0 c1 : Nat) : a ≤ a + 1 + c0 + c1 := by omega
@[go_sem] theorem lt_add_one3 (a c0 c1 c2 : Nat) : a < a + 1 + c0 + c1 + c2 := by omega
@[go_sem] theorem le_add_one3 (a c0 c1 c2 : Nat) : a ≤ a + 1 + c0 + c1 + c2 := by omega
@[go_sem] theorem lt_add_one4 (a c0 c1 c2 c3 : Nat) : a < a + 1 + c0 + c1 + c2 + c3 := by omega
@[go_sem] theorem le_add_one4 (a c0 c1 c2 c3 : Nat) : a ≤ a + 1 + c0 + c1 + c2 + c3 := by omega
@[go_sem] theorem lt_add_one5 (a c0 c1 c2 c3 c4 : Nat) : a < a + 1 + c0 + c1 + c2 + c3 + c4 := by omega
@[go_sem] theorem le_add_one5 (a c0 c1 c2 c3 c4 : Nat) : a ≤ a + 1 + c0 + c1 + c2 + c3 + c4 := by omega
@[go_sem] theorem lt_add_one6 (a c0 c1 c2 c3 c4 c5 : Nat) : a < a + 1 + c0 + c1 + c2 + c3 + c4 + c5 := by omega
@[go_sem] theorem le_add_one6 (a c0 c1 c2 c3 c4 c5 : Nat) : a ≤ a + 1 + c0 + c1 + c2 + c3 + c4 + c5 := by omega
@[go_sem] theorem lt_add_one7 (a c0 c1 c2 c3 c4 c5 c6 : Nat) : a < a + 1 + c0 + c1 + c2 + c3 + c4 + c5 + c6 := by omega
@[go_sem] theorem le_add_one7 (a c0 c1 c2 c3 c4 c5 c6 : Nat) : a ≤ a + 1 + c0 + c1 + c2 + c3 + c4 + c5 + c6 := by omega
@[go_sem] theorem lt_add_one8 (a c0 c1 c2 c3 c4 c5 c6 c7 : Nat) : a < a + 1 + c0 + c1 + c2 + c3 + c4 + c5 + c6 + c7 := by omega
@[go_sem] theorem le_add_one8 (a c0 c1 c2 c3 c4 c5 c6 c7 : Nat) : a ≤ a + 1 + c0 + c1 + c2 + c3 + c4 + c5 + c6 + c7 := by omega
theorem all_and (f g : Nat → Bool) (n : Nat) : allTo (fun i => f i && g i) n = (allTo f n && allTo g n) := by
  rw [Bool.eq_iff_iff, Bool.and_eq_true, allTo_iff, allTo_iff, allTo_iff]
  constructor
  · intro h; exact ⟨fun i hi => by have := h i hi; simp at this; exact this.1, fun i hi => by have := h i hi; simp at this; exact this.2⟩
  · intro h i hi; simp [h.1 i hi, h.2 i hi]
theorem all_congr {p q : Nat → Bool} {n : Nat} (h : ∀ i, i < n → p i = q i) : allTo p n = allTo q n := by
  rw [Bool.eq_iff_iff, allTo_iff, allTo_iff]
  exact ⟨fun k i hi => (h i hi) ▸ k i hi, fun k i hi => (h i hi).symm ▸ k i hi⟩
theorem find_congr {p q : Nat → Bool} : ∀ {n : Nat}, (∀ i, i < n → p i = q i) → findTo p n = findTo q n
  | 0, _ => rfl
  | n + 1, h => by
    have h1 := find_congr (n := n) (fun i hi => h i (by omega))
    rw [findTo, findTo, h1, h n (by omega)]
theorem find_isSome {p : Nat → Bool} {n : Nat} : (findTo p n).isSome = !allTo (fun i => !p i) n := by
  cases h : findTo p n with
  | none =>
    have := findTo_none_spec h
    simp only [Option.isSome_none, Bool.false_eq, Bool.not_eq_false']
    exact allTo_true (fun i hi => by simp [this i hi])
  | some k =>
    obtain ⟨h1, h2, _⟩ := findTo_spec h
    simp only [Option.isSome_some, Bool.true_eq, Bool.not_eq_true']
    exact allTo_false k h1 (by simp [h2])
def riseAt (l : List Int) (i : Nat) : Bool := i == 0 || decide (gd l (i - 1) < gd l i)
def rising (l : List Int) : Bool := allTo (riseAt l) l.length
/-- the number is among them -/
def hasI (l : List Int) (n : Int) : Bool := (findTo (fun i => gd l i == n) l.length).isSome
theorem hasI_iff {l : List Int} {n : Int} : hasI l n = true ↔ ∃ i, i < l.length ∧ gd l i = n := by
  unfold hasI
  rw [find_isSome]
  simp only [Bool.not_eq_true', Bool.eq_false_iff, Ne, allTo_iff, beq_iff_eq]
  constructor
  · intro h
    by_cases hh : ∃ i, i < l.length ∧ gd l i = n
    · exact hh
    · exact absurd (fun i hi he => hh ⟨i, hi, he⟩) h
  · rintro ⟨i, hi, he⟩ h
    exact h i hi he
theorem hasI_no {l : List Int} {n : Int} (h : ∀ i, i < l.length → gd l i ≠ n) : hasI l n = false := by
  rw [Bool.eq_false_iff, Ne, hasI_iff]; rintro ⟨i, hi, he⟩; exact h i hi he
set_option maxHeartbeats 1000000 in
theorem isRising_c (v : Value) (l : List Int) (w : World) (h : Sl w IntE.enc 1 v l) : Calls Tryd.prog 76 #[v] w fun e w' => e = .returned (.bool (rising l)) ∧ Below w.heap.size w w' := by
  obtain ⟨a, cap, b, off, rfl, hlc, hm, hc⟩ := h
  unfold maxLen at hm
  go_enter Tryd.func76, Tryd.ntmps76
  go_wp2_with fail
  go_loopw [3] (fun i wr => ∃ k : Nat, i = .int .i64 ((k : Int) + 1) ∧ (k ≤ l.length) ∧ Hid (∀ i, i ≤ k → i < l.length → riseAt l i = true) ∧ Below w.heap.size w wr) (fun i _ => l.length - (intOf i).toNat)
  case atStart =>
    refine ⟨0, rfl, Nat.zero_le _, fun i hi _ => ?_, Below.refl _ _⟩
    obtain rfl : i = 0 := by omega
    rfl
  case round =>
    obtain ⟨k, rfl, hk, hall, hb⟩ := hrel
    by_cases hlt : (k : Int) + 1 < l.length
    · obtain ⟨rfl, hbw, d0⟩ := IntE.at (hc.mono hb) k (by omega)
      obtain ⟨_, _, c0⟩ := IntE.at (hc.mono hb) (k + 1) (by omega)
      have e1 : ((k : Int) + 1).toNat = k + 1 := by omega
      have e2 : ((k : Int) + 1 - 1).toNat = k := by omega
      by_cases hlr : gd l k < gd l (k + 1)
      · have ho := Lib.hid (show riseAt l (k + 1) = true by simp [riseAt, hlr])
        go_wp2_with fail
        refine wp_region_ext (by kernel_rfl) (by kernel_rfl) ?_
        repeat (any_goals (first | go_big_quiet_step (fail)))
        (refine wpQuiet_nil ?_)
        (rintro _ ⟨q, rfl⟩)
        go_wp2_with fail
        go_roundw
        case rel => exact ⟨k + 1, by go_num, by omega, fun i hi hl => (by
          rcases Nat.lt_or_eq_of_le hi with h1 | rfl
          · exact hall.out i (by omega) hl
          · exact ho.out), (by repeat' (first | exact Below.refl _ _ | with_reducible assumption | refine bext ?_ ?_ _ | refine Below.alloc ?_ ?_ _ | refine Below.setCell ?_ ?_ _ | refine Below.drew ?_ | (simp; done) | (have hbz := hb.size; first | omega | (simp; omega)) | (simp; omega) | omega))⟩
        case measure => simp [intOf]; omega
      · have ho := Lib.hid (show riseAt l (k + 1) = false by simp [riseAt, hlr])
        go_wp2_with fail
        refine wp_region_ext (by kernel_rfl) (by kernel_rfl) ?_
        repeat (any_goals (first | go_big_quiet_step (fail)))
        (refine wpQuiet_nil ?_)
        (rintro _ ⟨q, rfl⟩)
        go_wp2_with fail
        go_ret
        exact ⟨ret_bool (allTo_false (f := riseAt l) (k + 1) (by omega) ho.out).symm, (by repeat' (first | exact Below.refl _ _ | with_reducible assumption | refine bext ?_ ?_ _ | refine Below.alloc ?_ ?_ _ | refine Below.setCell ?_ ?_ _ | refine Below.drew ?_ | (simp; done) | (have hbz := hb.size; first | omega | (simp; omega)) | (simp; omega) | omega))⟩
    · have he := Lib.hid (show rising l = true from allTo_true fun i hi => hall.out i (by omega) hi)
      go_wp2_with fail
      go_ret
      exact ⟨ret_bool he.out.symm, hb⟩
set_option maxHeartbeats 1000000 in
theorem l1Rising_c (v : Value) (l : List Int) (lo hi : Int) (w : World) (h : Sl w IntE.enc 1 v l) : Calls Tryd.prog 109 #[v, .int .i64 lo, .int .i64 hi] w fun e w' => e = .returned (.bool (allTo (fun i => inB (gd l i) lo hi && riseAt l i) l.length)) ∧ Below w.heap.size w w' := by
  obtain ⟨a, cap, b, off, rfl, hlc, hm, hc⟩ := h
  unfold maxLen at hm
  go_enter Tryd.func109, Tryd.ntmps109
  go_wp2_with fail
  go_loopw [7] (fun i wr => ∃ k : Nat, k ≤ l.length ∧ i = .int .i64 k ∧ Hid (∀ i, i < k → (inB (gd l i) lo hi && riseAt l i) = true) ∧ Below w.heap.size w wr) (fun i _ => l.length - (intOf i).toNat)
  case atStart => exact ⟨0, Nat.zero_le _, rfl, fun i hi => by omega, Below.refl _ _⟩
  case round =>
    obtain ⟨k, hk, rfl, hall, hb⟩ := hrel
    by_cases hlt : k < l.length
    · obtain ⟨rfl, hbw, c0⟩ := IntE.at (hc.mono hb) k hlt
      cases hin : inB (gd l k) lo hi
      · have ho := Lib.hid (show (inB (gd l k) lo hi && riseAt l k) = false by simp [hin])
        go_wp2_with fail
        refine wp_region_ext (by kernel_rfl) (by kernel_rfl) ?_
        repeat (any_goals (first | go_big_quiet_step ((go_at_call 36; exact Calls.ext_same (l1In_c _ _ _ _)))))
        (refine wpQuiet_nil ?_)
        (rintro _ ⟨q, rfl⟩)
        go_wp2_with fail
        go_ret
        exact ⟨ret_bool (allTo_false (f := fun i => inB (gd l i) lo hi && riseAt l i) k hlt ho.out).symm, (by repeat' (first | exact Below.refl _ _ | with_reducible assumption | refine bext ?_ ?_ _ | refine Below.alloc ?_ ?_ _ | refine Below.setCell ?_ ?_ _ | refine Below.drew ?_ | (simp; done) | (have hbz := hb.size; first | omega | (simp; omega)) | (simp; omega) | omega))⟩
      · rcases Nat.eq_zero_or_pos k with h0 | h0
        · have ho := Lib.hid (show (inB (gd l k) lo hi && riseAt l k) = true by rw [hin]; simp [riseAt, h0])
          have hz : ¬ 0 < k := by omega
          clear h0
          go_wp2_with fail
          refine wp_region_ext (by kernel_rfl) (by kernel_rfl) ?_
          repeat (any_goals (first | go_big_quiet_step ((go_at_call 36; exact Calls.ext_same (l1In_c _ _ _ _)))))
          (refine wpQuiet_nil ?_)
          (rintro _ ⟨q, rfl⟩)
          go_wp2_with fail
          go_roundw
          case rel => exact ⟨k + 1, by omega, by go_num, upto_succ (f := fun i => inB (gd l i) lo hi && riseAt l i) hall.out ho.out, (by repeat' (first | exact Below.refl _ _ | with_reducible assumption | refine bext ?_ ?_ _ | refine Below.alloc ?_ ?_ _ | refine Below.setCell ?_ ?_ _ | refine Below.drew ?_ | (simp; done) | (have hbz := hb.size; first | omega | (simp; omega)) | (simp; omega) | omega))⟩
          case measure => simp [intOf]; omega
        · obtain ⟨j, rfl⟩ : ∃ j, k = j + 1 := ⟨k - 1, by omega⟩
          obtain ⟨_, _, d0⟩ := IntE.at (hc.mono hb) j (by omega)
          by_cases hlr : gd l j < gd l (j + 1)
          · have ho := Lib.hid (show (inB (gd l (j + 1)) lo hi && riseAt l (j + 1)) = true by simp [hin, riseAt, hlr])
            go_wp2_with fail
            refine wp_region_ext (by kernel_rfl) (by kernel_rfl) ?_
            repeat (any_goals (first | go_big_quiet_step ((go_at_call 36; exact Calls.ext_same (l1In_c _ _ _ _)))))
            (refine wpQuiet_nil ?_)
            (rintro _ ⟨q, rfl⟩)
            go_wp2_with fail
            go_roundw
            case rel => exact ⟨j + 1 + 1, by omega, by go_num, upto_succ (f := fun i => inB (gd l i) lo hi && riseAt l i) hall.out ho.out, (by repeat' (first | exact Below.refl _ _ | with_reducible assumption | refine bext ?_ ?_ _ | refine Below.alloc ?_ ?_ _ | refine Below.setCell ?_ ?_ _ | refine Below.drew ?_ | (simp; done) | (have hbz := hb.size; first | omega | (simp; omega)) | (simp; omega) | omega))⟩
            case measure => simp [intOf]; omega
          · have ho := Lib.hid (show (inB (gd l (j + 1)) lo hi && riseAt l (j + 1)) = false by simp [riseAt, hlr])
            go_wp2_with fail
            refine wp_region_ext (by kernel_rfl) (by kernel_rfl) ?_
            repeat (any_goals (first | go_big_quiet_step ((go_at_call 36; exact Calls.ext_same (l1In_c _ _ _ _)))))
            (refine wpQuiet_nil ?_)
            (rintro _ ⟨q, rfl⟩)
            go_wp2_with fail
            go_ret
            exact ⟨ret_bool (allTo_false (f := fun i => inB (gd l i) lo hi && riseAt l i) (j + 1) hlt ho.out).symm, (by repeat' (first | exact Below.refl _ _ | with_reducible assumption | refine bext ?_ ?_ _ | refine Below.alloc ?_ ?_ _ | refine Below.setCell ?_ ?_ _ | refine Below.drew ?_ | (simp; done) | (have hbz := hb.size; first | omega | (simp; omega)) | (simp; omega) | omega))⟩
    · obtain rfl : k = l.length := by omega
      have he := Lib.hid (allTo_true hall.out)
      go_wp2_with fail
      go_ret
      exact ⟨ret_bool he.out.symm, hb⟩
set_option maxHeartbeats 400000 in
theorem l1Has_c (v : Value) (l : List Int) (n : Int) (w : World) (h : Sl w IntE.enc 1 v l) : Calls Tryd.prog 106 #[v, .int .i64 n] w fun e w' => e = .returned (.bool (hasI l n)) ∧ w = w' := by
  obtain ⟨a, cap, b, off, rfl, hlc, hm, hc⟩ := h
  unfold maxLen at hm
  go_enter Tryd.func106, Tryd.ntmps106
  go_wp2_with fail
  go_loop [5] (fun i => ∃ k : Nat, k ≤ l.length ∧ i = .int .i64 k ∧ Hid (∀ i, i < k → (gd l i == n) = false)) (fun i => l.length - (intOf i).toNat)
  case atStart => exact ⟨0, Nat.zero_le _, rfl, fun i hi => by omega⟩
  case round =>
    obtain ⟨k, hk, rfl, hall⟩ := hrel
    by_cases hlt : k < l.length
    · obtain ⟨rfl, hbw, c0⟩ := IntE.at hc k hlt
      by_cases hq : gd l k = n
      · have ho := Lib.hid (show (gd l k == n) = true by simp [hq])
        go_wp2_with fail
        go_ret
        exact ⟨ret_bool (by unfold hasI; rw [findTo_some (f := fun i => gd l i == n) hall.out ho.out hlt]; rfl), rfl⟩
      · have ho := Lib.hid (show (gd l k == n) = false by simp [hq])
        go_wp2_with fail
        go_round
        case rel => exact ⟨k + 1, by omega, by go_num, upto_succ hall.out ho.out⟩
        case measure => simp [intOf]; omega
    · obtain rfl : k = l.length := by omega
      go_wp2_with fail
      go_ret
      exact ⟨ret_bool (by unfold hasI; rw [findTo_none (f := fun i => gd l i == n) hall.out]; rfl), rfl⟩
end Go.Proofs.YteainpflmofjaaaDoor
