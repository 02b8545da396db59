/- t -/
import Derived.Test.YthibchaiaedboaaDoorIp20
import Derived.Test.YthibchaiaedboaaDoorBnd
import Derived.Test.YthibchaiaedboaaDoorHeld
import Derived.Outline
namespace Go.Proofs.YthibchaiaedboaaDoor
open Go.RowKit
theorem l20Sheet_c (x : Int) (w : World) : Calls Tryd.prog 62 #[.int .i64 x] w fun e w' => e = .returned (.bool (inB x 1 999)) ∧ w = w' := by
  go_enter Tryd.func62, Tryd.ntmps62
  go_wp2_with (go_at_call 64; refine (l1In_c _ _ _ _).mono ?_; rintro e w' ⟨rfl, rfl⟩)
  go_ret
  exact ⟨rfl, rfl⟩
set_option maxHeartbeats 400000 in
theorem l20One_c (x : Iss) (w : World) : Calls Tryd.prog 69 #[.agg x.enc.toArray] w fun e w' => e = .returned (.bool (issOk x)) ∧ Below w.heap.size w w' := by
  obtain ⟨s, n, fr, un⟩ := x
  show Calls Tryd.prog 69 #[.agg #[.int .i64 s, .int .i64 n, .int .i64 fr, .int .i64 un]] w _
  go_enter Tryd.func69, Tryd.ntmps69
  go_wp2_with (first | (go_at_call 64; refine (l1In_c _ _ _ _).mono ?_; rintro e w' ⟨rfl, rfl⟩) | (go_at_call 62; refine (l20Sheet_c _ _).mono ?_; rintro e w' ⟨rfl, rfl⟩) | (go_at_call 57; refine (l2Day_c _ _).mono ?_; rintro e w' ⟨rfl, rfl⟩))
  all_goals go_ret
  all_goals refine ⟨ret_bool ?_, by go_grown⟩
  all_goals simp_all [issOk]
theorem issOk_alt (x : Iss) : issOk x = (inB x.s 1 999 && inB x.n 1 99 && inB x.fr 0 4000 && inB x.un 0 4000 && decide (x.fr ≤ x.un)) := by
  rw [Bool.eq_iff_iff]
  simp only [issOk, Bool.and_eq_true, inB_iff, decide_eq_true_eq]
  omega
set_option maxHeartbeats 400000 in
theorem isIssue_c (x : Iss) (w : World) : Calls Tryd.prog 26 #[.agg x.enc.toArray] w fun e w' => e = .returned (.bool (issOk x)) ∧ Below w.heap.size w w' := by
  rw [issOk_alt]
  obtain ⟨s, n, fr, un⟩ := x
  show Calls Tryd.prog 26 #[.agg #[.int .i64 s, .int .i64 n, .int .i64 fr, .int .i64 un]] w _
  go_enter Tryd.func26, Tryd.ntmps26
  go_wp2_with (first | (go_at_call 73; refine (within_c _ _ _ _).mono ?_; rintro e w' ⟨rfl, rfl⟩) | (go_at_call 60; refine (isId_c _ _).mono ?_; rintro e w' ⟨rfl, rfl⟩) | (go_at_call 52; refine (isDay_c _ _).mono ?_; rintro e w' ⟨rfl, rfl⟩))
  all_goals go_ret
  all_goals refine ⟨ret_bool ?_, by go_grown⟩
  all_goals simp_all
theorem isNaNInt_c (x : Int) (w : World) : Calls Tryd.prog 133 #[.int .i64 x] w fun e w' => e = .returned (.bool false) ∧ w = w' := by
  go_enter Tryd.func133, Tryd.ntmps133
  go_wp2_with fail
  go_ret
  exact ⟨rfl, rfl⟩
set_option maxHeartbeats 400000 in
theorem cmpInt_c (a b : Int) (w : World) : Calls Tryd.prog 107 #[.int .i64 a, .int .i64 b] w fun e w' => e = .returned (.int .i64 (cmpInt a b)) ∧ w = w' := by
  go_enter Tryd.func107, Tryd.ntmps107
  go_wp2_with (go_at_call 133; refine (isNaNInt_c _ _).mono ?_; rintro e w' ⟨rfl, rfl⟩)
  all_goals go_ret
  all_goals refine ⟨ret_int ?_, rfl⟩
  all_goals unfold cmpInt
  all_goals (repeat' split) <;> (try omega) <;> simp_all
  all_goals omega
def orInts (l : List Int) : Int := match findTo (fun i => decide (gd l i ≠ 0)) l.length with
  | some k => gd l k
  | none => 0
set_option maxHeartbeats 400000 in
theorem orInts_c (v : Value) (l : List Int) (w : World) (h : Sl w IntE.enc 1 v l) : Calls Tryd.prog 106 #[v] w fun e w' => e = .returned (.int .i64 (orInts l)) ∧ w = w' := by
  obtain ⟨a, cap, b, off, rfl, hlc, hm, hc⟩ := h
  unfold maxLen at hm
  go_enter Tryd.func106, Tryd.ntmps106
  go_wp2_with fail
  go_loop [8] (fun i => ∃ k : Nat, k ≤ l.length ∧ i = .int .i64 k ∧ Hid (∀ i, i < k → decide (gd l i ≠ 0) = false)) (fun i => l.length - (intOf i).toNat)
  case atStart => exact ⟨0, Nat.zero_le _, rfl, fun i hi => by omega⟩
  case round =>
    obtain ⟨k, hk, rfl, hall⟩ := hrel
    by_cases hlt : k < l.length
    · obtain ⟨rfl, hbw, c0⟩ := IntE.at hc k hlt
      by_cases hz : gd l k = 0
      · have ho := Lib.hid hz
        go_wp2_with fail
        go_round
        case rel => exact ⟨k + 1, by omega, by go_num, upto_succ hall.out (by simp [ho.out])⟩
        case measure => simp [intOf]; omega
      · have ho := Lib.hid hz
        go_wp2_with fail
        go_ret
        exact ⟨ret_int (by unfold orInts; rw [findTo_some (f := fun i => decide (gd l i ≠ 0)) hall.out (by simp [ho.out]) hlt]), rfl⟩
    · obtain rfl : k = l.length := by omega
      go_wp2_with fail
      go_ret
      exact ⟨ret_int (by unfold orInts; rw [findTo_none (f := fun i => decide (gd l i ≠ 0)) hall.out]), rfl⟩
theorem orTwo (a b : Int) : orInts [a, b] = if a = 0 then b else a := by
  by_cases h : a = 0
  · subst h
    by_cases h2 : b = 0
    · subst h2; rfl
    · rw [if_pos rfl]; simp [orInts, findTo, gd, h2]
  · rw [if_neg h]
    simp [orInts, findTo, gd, h]
theorem sl_two {W : World} {b : Nat} (x y : Int) (h0 : W.cell? ⟨b, 0, none⟩ = some (.int .i64 x)) (h1 : W.cell? ⟨b, 1, none⟩ = some (.int .i64 y)) : Sl W IntE.enc 1 (.slice (some ⟨b, 0, none⟩) 2 2) [x, y] :=
  ⟨_, 2, b, 0, rfl, Nat.le_refl _, by unfold maxLen; omega, fun i hi => ⟨rfl, block_lt_of_cell h0, fun j v hv => by
    rcases i with _ | _ | i
    · rcases j with _ | j
      · simp [IntE.enc, gd] at hv; subst hv; exact h0
      · simp [IntE.enc] at hv
    · rcases j with _ | j
      · simp [IntE.enc, gd] at hv; subst hv; exact h1
      · simp [IntE.enc] at hv
    · simp at hi; omega⟩⟩
set_option maxHeartbeats 400000 in
theorem compareIssues_c (x y : Iss) (w : World) : Calls Tryd.prog 59 #[.agg x.enc.toArray, .agg y.enc.toArray] w fun e w' => e = .returned (.int .i64 (issCmp x y)) ∧ Below w.heap.size w w' := by
  have hx : issCmp x y = orInts [cmpInt x.s y.s, cmpInt x.n y.n] := by rw [orTwo]; rfl
  rw [hx]
  clear hx
  obtain ⟨xs, xn, xf, xu⟩ := x
  obtain ⟨ys, yn, yf, yu⟩ := y
  have bx := Lib.hid (BoxAt.new w [.int .i64 xs, .int .i64 xn, .int .i64 xf, .int .i64 xu] 41)
  have A0 := below_alloc w (.cells ([.int .i64 xs, .int .i64 xn, .int .i64 xf, .int .i64 xu] : List Value).toArray 41)
  show Calls Tryd.prog 59 #[.agg #[.int .i64 xs, .int .i64 xn, .int .i64 xf, .int .i64 xu], .agg #[.int .i64 ys, .int .i64 yn, .int .i64 yf, .int .i64 yu]] w _
  go_enter Tryd.func59, Tryd.ntmps59
  go_wp2_with fail
  refine wpAt fun W0 e0 => ?_
  have hs : W0.cell? ⟨w.heap.size, 0, none⟩ = some (.int .i64 xs) ∧ W0.cell? ⟨w.heap.size, 1, none⟩ = some (.int .i64 xn) ∧ W0.cell? ⟨w.heap.size + 1, 0, none⟩ = some (.int .i64 ys) ∧ W0.cell? ⟨w.heap.size + 1, 1, none⟩ = some (.int .i64 yn) ∧ w.heap.size ≤ W0.heap.size := by rw [e0]; simp; omega
  have B0 : Below w.heap.size w W0 := by rw [e0]; go_grown
  clear e0
  obtain ⟨h0, h1, h2, h3, h4⟩ := hs
  have hH : (Below w.heap.size w W0.drew ∧ w.heap.size ≤ W0.drew.heap.size) ∧ W0.drew.cell? ⟨w.heap.size, 0, none⟩ = some (.int .i64 xs) ∧ W0.drew.cell? ⟨w.heap.size, 1, none⟩ = some (.int .i64 xn) ∧ W0.drew.cell? ⟨w.heap.size + 1, 0, none⟩ = some (.int .i64 ys) ∧ W0.drew.cell? ⟨w.heap.size + 1, 1, none⟩ = some (.int .i64 yn) := ⟨⟨B0.drew, h4⟩, h0, h1, h2, h3⟩
  go_region_held3 (fun W => (Below w.heap.size w W ∧ w.heap.size ≤ W.heap.size) ∧ W.cell? ⟨w.heap.size, 0, none⟩ = some (.int .i64 xs) ∧ W.cell? ⟨w.heap.size, 1, none⟩ = some (.int .i64 xn) ∧ W.cell? ⟨w.heap.size + 1, 0, none⟩ = some (.int .i64 ys) ∧ W.cell? ⟨w.heap.size + 1, 1, none⟩ = some (.int .i64 yn)) (first | assumption | refine keep4 (below_alloc _ _) (by assumption)) (first | (go_at_call 107; refine (cmpInt_c _ _ _).mono ?_; rintro e w' ⟨rfl, rfl⟩) | (go_at_call 106; refine (orInts_c _ [cmpInt xs ys, cmpInt xn yn] _ (sl_two _ _ (by simp) (by simp))).mono ?_; rintro e w' ⟨rfl, rfl⟩))
  go_wp2_with fail
  go_ret
  exact ⟨rfl, And.left (And.left (by assumption : (Below w.heap.size w _ ∧ _) ∧ _))⟩
set_option maxHeartbeats 1000000 in
theorem areIssues_c (v : Value) (l : List Iss) (w : World) (h : Sl w Iss.enc 4 v l) : Calls Tryd.prog 11 #[v] w fun e w' => e = .returned (.bool (areIss l)) ∧ Below w.heap.size w w' := by
  obtain ⟨a, cap, b, off, rfl, hlc, hm, hc⟩ := h
  unfold maxLen at hm
  go_enter Tryd.func11, Tryd.ntmps11
  go_wp2_with fail
  go_loopw [7] (fun i wr => ∃ k : Nat, k ≤ l.length ∧ i = .int .i64 k ∧ Hid (∀ i, i < k → issAt l i = true) ∧ Below w.heap.size w wr) (fun i _ => l.length - (intOf i).toNat)
  case atStart => exact ⟨0, Nat.zero_le _, rfl, fun i hi => by omega, Below.refl _ _⟩
  case round =>
    obtain ⟨k, hk, rfl, hall, hb⟩ := hrel
    by_cases hlt : k < l.length
    · obtain ⟨rfl, hbw, c0, c1, c2, c3⟩ := Iss.at (hc.mono hb) k hlt
      have d0 := fun (h0 : 0 < k) => (Iss.at (hc.mono hb) (k - 1) (by omega)).2.2.1
      have d1 := fun (h0 : 0 < k) => (Iss.at (hc.mono hb) (k - 1) (by omega)).2.2.2.1
      have d2 := fun (h0 : 0 < k) => (Iss.at (hc.mono hb) (k - 1) (by omega)).2.2.2.2.1
      have d3 := fun (h0 : 0 < k) => (Iss.at (hc.mono hb) (k - 1) (by omega)).2.2.2.2.2
      rcases iss_ways l k hall.out with ⟨hd, ho⟩ | ⟨hd, hk0, ho⟩ | ⟨hd, hk0, hp, h2, ho⟩ | ⟨hd, hk0, hp, h2, ho⟩
      all_goals
        go_wp2_with fail
        refine wp_region_ext (by kernel_rfl) (by kernel_rfl) ?_
        repeat (any_goals (first | go_big_quiet_step ((first | (go_at_call 26; exact Calls.ext_of (isIssue_c (gd l k) _)) | (go_at_call 59; exact Calls.ext_of (compareIssues_c (gd l (k - 1)) (gd l k) _))))))
        (refine wpQuiet_nil ?_)
        (rintro _ ⟨q, rfl⟩)
        go_wp2_with fail
      all_goals first
        | (go_ret
           exact ⟨ret_bool (areIss_no k hlt ho.out).symm, (by repeat' (first | exact Below.refl _ _ | with_reducible assumption | refine bext ?_ ?_ _ | refine Below.alloc ?_ ?_ _ | refine Below.setCell ?_ ?_ _ | refine Below.drew ?_ | (simp; done) | (have hbz := hb.size; first | omega | (simp; omega)) | (simp; omega) | omega))⟩)
        | (go_roundw
           case rel => exact ⟨k + 1, by omega, by go_num, upto_succ hall.out ho.out, (by repeat' (first | exact Below.refl _ _ | with_reducible assumption | refine bext ?_ ?_ _ | refine Below.alloc ?_ ?_ _ | refine Below.setCell ?_ ?_ _ | refine Below.drew ?_ | (simp; done) | (have hbz := hb.size; first | omega | (simp; omega)) | (simp; omega) | omega))⟩
           case measure => simp [intOf]; omega)
    · obtain rfl : k = l.length := by omega
      have he := Lib.hid (areIss_end hall.out)
      go_wp2_with fail
      go_ret
      exact ⟨ret_bool (by rw [he.out]; simp; omega), hb⟩
set_option maxHeartbeats 1000000 in
theorem l20Good_c (v : Value) (l : List Iss) (w : World) (h : Sl w Iss.enc 4 v l) : Calls Tryd.prog 56 #[v] w fun e w' => e = .returned (.bool (areIss l)) ∧ Below w.heap.size w w' := by
  obtain ⟨a, cap, b, off, rfl, hlc, hm, hc⟩ := h
  unfold maxLen at hm
  go_enter Tryd.func56, Tryd.ntmps56
  go_wp2_with fail
  go_loopw [3] (fun i wr => ∃ k : Nat, k ≤ l.length ∧ i = .int .i64 k ∧ Hid (∀ i, i < k → issAt l i = true) ∧ Below w.heap.size w wr) (fun i _ => l.length - (intOf i).toNat)
  case atStart => exact ⟨0, Nat.zero_le _, rfl, fun i hi => by omega, Below.refl _ _⟩
  case round =>
    obtain ⟨k, hk, rfl, hall, hb⟩ := hrel
    by_cases hlt : k < l.length
    · obtain ⟨rfl, hbw, c0, c1, c2, c3⟩ := Iss.at (hc.mono hb) k hlt
      have d0 := fun (h0 : 0 < k) => (Iss.at (hc.mono hb) (k - 1) (by omega)).2.2.1
      have d1 := fun (h0 : 0 < k) => (Iss.at (hc.mono hb) (k - 1) (by omega)).2.2.2.1
      have d2 := fun (h0 : 0 < k) => (Iss.at (hc.mono hb) (k - 1) (by omega)).2.2.2.2.1
      have d3 := fun (h0 : 0 < k) => (Iss.at (hc.mono hb) (k - 1) (by omega)).2.2.2.2.2
      rcases iss_ways l k hall.out with ⟨hd, ho⟩ | ⟨hd, hk0, ho⟩ | ⟨hd, hk0, hp, h2, ho⟩ | ⟨hd, hk0, hp, h2, ho⟩
      case' inr.inr.inl => rw [issCmp_hund hp hd] at h2
      case' inr.inr.inr => rw [issCmp_hund hp hd] at h2
      case' inr.inr.inl => obtain ⟨a1, a2, a3, a4, -⟩ := issOk_b hp
      case' inr.inr.inr => obtain ⟨a1, a2, a3, a4, -⟩ := issOk_b hp
      case' inr.inr.inl => obtain ⟨e1, e2, e3, e4, -⟩ := issOk_b hd
      case' inr.inr.inr => obtain ⟨e1, e2, e3, e4, -⟩ := issOk_b hd
      all_goals
        go_wp2_with fail
        refine wp_region_ext (by kernel_rfl) (by kernel_rfl) ?_
        repeat (any_goals (first | go_big_quiet_step ((go_at_call 69; exact Calls.ext_of (l20One_c (gd l k) _)))))
        (refine wpQuiet_nil ?_)
        (rintro _ ⟨q, rfl⟩)
        go_wp2_with fail
      all_goals first
        | (go_ret
           exact ⟨ret_bool (areIss_no k hlt ho.out).symm, (by repeat' (first | exact Below.refl _ _ | with_reducible assumption | refine bext ?_ ?_ _ | refine Below.alloc ?_ ?_ _ | refine Below.setCell ?_ ?_ _ | refine Below.drew ?_ | (simp; done) | (have hbz := hb.size; first | omega | (simp; omega)) | (simp; omega) | omega))⟩)
        | (go_roundw
           case rel => exact ⟨k + 1, by omega, by go_num, upto_succ hall.out ho.out, (by repeat' (first | exact Below.refl _ _ | with_reducible assumption | refine bext ?_ ?_ _ | refine Below.alloc ?_ ?_ _ | refine Below.setCell ?_ ?_ _ | refine Below.drew ?_ | (simp; done) | (have hbz := hb.size; first | omega | (simp; omega)) | (simp; omega) | omega))⟩
           case measure => simp [intOf]; omega)
    · obtain rfl : k = l.length := by omega
      have he := Lib.hid (areIss_end hall.out)
      go_wp2_with fail
      go_ret
      exact ⟨ret_bool (by rw [he.out]; simp; omega), hb⟩
end Go.Proofs.YthibchaiaedboaaDoor
