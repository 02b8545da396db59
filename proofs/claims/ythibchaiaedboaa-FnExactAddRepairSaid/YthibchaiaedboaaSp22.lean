/- Repairs: what is a damage, a list of damages, of repairs; the contracts of the reference's and the program's functions. No condition but what a slice may hold. -/
import Derived.Test.YthibchaiaedboaaTypes
namespace Go.Proofs.Ythibchaiaedboaa
open Go.RowKit

def dmgOk (x : Dmg) : Bool := inB x.s 1 999 && inB x.t 0 50 && inB x.f 0 50 && inB x.st 0 100
def dmgGrade (x : Dmg) : Int := 2 * x.t + x.f + x.st
theorem dmgOk_b {x : Dmg} (h : dmgOk x = true) : 1 ≤ x.s ∧ x.s ≤ 999 ∧ 0 ≤ x.t ∧ x.t ≤ 50 ∧ 0 ≤ x.f ∧ x.f ≤ 50 ∧ 0 ≤ x.st ∧ x.st ≤ 100 := by
  simp only [dmgOk, Bool.and_eq_true, inB_iff] at h; omega
def dmgAt (l : List Dmg) (i : Nat) : Bool := dmgOk (gd l i) && (i == 0 || decide ((gd l (i - 1)).s < (gd l i).s))
def areDmg (l : List Dmg) : Bool := allTo (dmgAt l) l.length && decide (l.length ≤ 10)
theorem areDmg_no {l : List Dmg} (k : Nat) (hk : k < l.length) (h : dmgAt l k = false) : areDmg l = false := by simp [areDmg, allTo_false k hk h]
theorem areDmg_end {l : List Dmg} (h : ∀ i, i < l.length → dmgAt l i = true) : areDmg l = decide (l.length ≤ 10) := by simp [areDmg, allTo_true h]

/-! ### bounds -/
set_option maxHeartbeats 400000 in
theorem l1In_c (x a b : Int) (w : World) : Calls Try.prog 119 #[.int .i64 x, .int .i64 a, .int .i64 b] w fun e w' => e = .returned (.bool (inB x a b)) ∧ w = w' := by
  unfold inB
  go_enter Try.func119, Try.ntmps119
  go_wp2
  all_goals go_ret
  all_goals first | (simp_all; done) | (simp_all; omega)
set_option maxHeartbeats 400000 in
theorem within_c (x a b : Int) (w : World) : Calls Try.prog 118 #[.int .i64 x, .int .i64 a, .int .i64 b] w fun e w' => e = .returned (.bool (inB x a b)) ∧ w = w' := by
  unfold inB
  go_enter Try.func118, Try.ntmps118
  go_wp2
  all_goals go_ret
  all_goals first | (simp_all; done) | (simp_all; omega)
theorem isId_c (x : Int) (w : World) : Calls Try.prog 110 #[.int .i64 x] w fun e w' => e = .returned (.bool (inB x 1 999)) ∧ w = w' := by
  go_enter Try.func110, Try.ntmps110
  go_wp2_with (go_at_call 118; refine (within_c _ _ _ _).mono ?_; rintro e w' ⟨rfl, rfl⟩)
  go_ret
  exact ⟨rfl, rfl⟩
theorem isDay_c (x : Int) (w : World) : Calls Try.prog 111 #[.int .i64 x] w fun e w' => e = .returned (.bool (inB x 0 4000)) ∧ w = w' := by
  go_enter Try.func111, Try.ntmps111
  go_wp2_with (go_at_call 118; refine (within_c _ _ _ _).mono ?_; rintro e w' ⟨rfl, rfl⟩)
  go_ret
  exact ⟨rfl, rfl⟩
theorem l2Day_c (x : Int) (w : World) : Calls Try.prog 176 #[.int .i64 x] w fun e w' => e = .returned (.bool (inB x 0 4000)) ∧ w = w' := by
  go_enter Try.func176, Try.ntmps176
  go_wp2_with (go_at_call 119; refine (l1In_c _ _ _ _).mono ?_; rintro e w' ⟨rfl, rfl⟩)
  go_ret
  exact ⟨rfl, rfl⟩

/-! ### one damage -/
set_option maxHeartbeats 400000 in
theorem l22One_c (x : Dmg) (w : World) : Calls Try.prog 215 #[.agg x.enc.toArray] w fun e w' => e = .returned (.bool (dmgOk x)) ∧ Below w.heap.size w w' := by
  obtain ⟨s, t, f, st⟩ := x
  show Calls Try.prog 215 #[.agg #[.int .i64 s, .int .i64 t, .int .i64 f, .int .i64 st]] w _
  go_enter Try.func215, Try.ntmps215
  go_wp2_with (go_at_call 119; refine (l1In_c _ _ _ _).mono ?_; rintro e w' ⟨rfl, rfl⟩)
  all_goals go_ret
  all_goals refine ⟨ret_bool ?_, by go_grown⟩
  all_goals simp_all [dmgOk]
set_option maxHeartbeats 400000 in
theorem isDamage_c (x : Dmg) (w : World) : Calls Try.prog 216 #[.agg x.enc.toArray] w fun e w' => e = .returned (.bool (dmgOk x)) ∧ Below w.heap.size w w' := by
  obtain ⟨s, t, f, st⟩ := x
  show Calls Try.prog 216 #[.agg #[.int .i64 s, .int .i64 t, .int .i64 f, .int .i64 st]] w _
  go_enter Try.func216, Try.ntmps216
  go_wp2_with (first | (go_at_call 118; refine (within_c _ _ _ _).mono ?_; rintro e w' ⟨rfl, rfl⟩) | (go_at_call 110; refine (isId_c _ _).mono ?_; rintro e w' ⟨rfl, rfl⟩))
  all_goals go_ret
  all_goals refine ⟨ret_bool ?_, by go_grown⟩
  all_goals simp_all [dmgOk]

/-! ### lists of damages -/
theorem dmg_ways (l : List Dmg) (k : Nat) : (dmgOk (gd l k) = false ∧ Hid (dmgAt l k = false)) ∨ (dmgOk (gd l k) = true ∧ ¬ 0 < k ∧ Hid (dmgAt l k = true)) ∨
    (dmgOk (gd l k) = true ∧ 0 < k ∧ (gd l (k - 1)).s < (gd l k).s ∧ Hid (dmgAt l k = true)) ∨ (dmgOk (gd l k) = true ∧ 0 < k ∧ ¬ (gd l (k - 1)).s < (gd l k).s ∧ Hid (dmgAt l k = false)) := by
  unfold Hid
  cases h : dmgOk (gd l k)
  · exact .inl ⟨rfl, by simp [dmgAt, h]⟩
  · by_cases h0 : 0 < k
    · by_cases h1 : (gd l (k - 1)).s < (gd l k).s
      · exact .inr (.inr (.inl ⟨rfl, h0, h1, by simp [dmgAt, h, h1]⟩))
      · exact .inr (.inr (.inr ⟨rfl, h0, h1, by simp [dmgAt, h, h1]; omega⟩))
    · exact .inr (.inl ⟨rfl, h0, by simp [dmgAt, h]; omega⟩)
set_option maxHeartbeats 1000000 in
theorem areDamages_c (v : Value) (l : List Dmg) (w : World) (h : Sl w Dmg.enc 4 v l) : Calls Try.prog 187 #[v] w fun e w' => e = .returned (.bool (areDmg l)) ∧ Below w.heap.size w w' := by
  obtain ⟨a, cap, b, off, rfl, hlc, hm, hc⟩ := h
  unfold maxLen at hm
  go_enter Try.func187, Try.ntmps187
  go_wp2_with fail
  go_loopw [7] (fun i wr => ∃ k : Nat, k ≤ l.length ∧ i = .int .i64 k ∧ Hid (∀ i, i < k → dmgAt l i = true) ∧ Below w.heap.size w wr) (fun i _ => l.length - (intOf i).toNat)
  case atStart => exact ⟨0, Nat.zero_le _, rfl, fun i hi => by omega, Below.refl _ _⟩
  case round =>
    obtain ⟨k, hk, rfl, hall, hb⟩ := hrel
    by_cases hlt : k < l.length
    · obtain ⟨rfl, hbw, c0, c1, c2, c3⟩ := Dmg.at (hc.mono hb) k hlt
      have d0 := fun (h0 : 0 < k) => (Dmg.at (hc.mono hb) (k - 1) (by omega)).2.2.1
      rcases dmg_ways l k with ⟨hd, ho⟩ | ⟨hd, hk0, ho⟩ | ⟨hd, hk0, h2, ho⟩ | ⟨hd, hk0, h2, ho⟩
      all_goals
        go_wp2_with fail
        refine wp_region_ext (by kernel_rfl) (by kernel_rfl) ?_
        repeat (any_goals (first | go_big_quiet_step ((go_at_call 216; exact Calls.ext_of (isDamage_c (gd l k) _)))))
        (refine wpQuiet_nil ?_)
        (rintro _ ⟨q, rfl⟩)
        go_wp2_with fail
      all_goals first
        | (go_ret
           exact ⟨ret_bool (areDmg_no k hlt ho.out).symm, (by repeat' (first | exact Below.refl _ _ | with_reducible assumption | refine bext ?_ ?_ _ | refine Below.alloc ?_ ?_ _ | refine Below.setCell ?_ ?_ _ | refine Below.drew ?_ | (simp; done) | (have hbz := hb.size; first | omega | (simp; omega)) | (simp; omega) | omega))⟩)
        | (go_roundw
           case rel => exact ⟨k + 1, by omega, by go_num, upto_succ hall.out ho.out, (by repeat' (first | exact Below.refl _ _ | with_reducible assumption | refine bext ?_ ?_ _ | refine Below.alloc ?_ ?_ _ | refine Below.setCell ?_ ?_ _ | refine Below.drew ?_ | (simp; done) | (have hbz := hb.size; first | omega | (simp; omega)) | (simp; omega) | omega))⟩
           case measure => simp [intOf]; omega)
    · obtain rfl : k = l.length := by omega
      have he := Lib.hid (areDmg_end hall.out)
      go_wp2_with fail
      go_ret
      exact ⟨ret_bool (by rw [he.out]; simp; omega), hb⟩
set_option maxHeartbeats 1000000 in
theorem l22Damages_c (v : Value) (l : List Dmg) (w : World) (h : Sl w Dmg.enc 4 v l) : Calls Try.prog 184 #[v] w fun e w' => e = .returned (.bool (areDmg l)) ∧ Below w.heap.size w w' := by
  obtain ⟨a, cap, b, off, rfl, hlc, hm, hc⟩ := h
  unfold maxLen at hm
  go_enter Try.func184, Try.ntmps184
  go_wp2_with fail
  go_loopw [3] (fun i wr => ∃ k : Nat, k ≤ l.length ∧ i = .int .i64 k ∧ Hid (∀ i, i < k → dmgAt l i = true) ∧ Below w.heap.size w wr) (fun i _ => l.length - (intOf i).toNat)
  case atStart => exact ⟨0, Nat.zero_le _, rfl, fun i hi => by omega, Below.refl _ _⟩
  case round =>
    obtain ⟨k, hk, rfl, hall, hb⟩ := hrel
    by_cases hlt : k < l.length
    · obtain ⟨rfl, hbw, c0, c1, c2, c3⟩ := Dmg.at (hc.mono hb) k hlt
      have d0 := fun (h0 : 0 < k) => (Dmg.at (hc.mono hb) (k - 1) (by omega)).2.2.1
      rcases dmg_ways l k with ⟨hd, ho⟩ | ⟨hd, hk0, ho⟩ | ⟨hd, hk0, h2, ho⟩ | ⟨hd, hk0, h2, ho⟩
      all_goals
        go_wp2_with fail
        refine wp_region_ext (by kernel_rfl) (by kernel_rfl) ?_
        repeat (any_goals (first | go_big_quiet_step ((go_at_call 215; exact Calls.ext_of (l22One_c (gd l k) _)))))
        (refine wpQuiet_nil ?_)
        (rintro _ ⟨q, rfl⟩)
        go_wp2_with fail
      all_goals first
        | (go_ret
           exact ⟨ret_bool (areDmg_no k hlt ho.out).symm, (by repeat' (first | exact Below.refl _ _ | with_reducible assumption | refine bext ?_ ?_ _ | refine Below.alloc ?_ ?_ _ | refine Below.setCell ?_ ?_ _ | refine Below.drew ?_ | (simp; done) | (have hbz := hb.size; first | omega | (simp; omega)) | (simp; omega) | omega))⟩)
        | (go_roundw
           case rel => exact ⟨k + 1, by omega, by go_num, upto_succ hall.out ho.out, (by repeat' (first | exact Below.refl _ _ | with_reducible assumption | refine bext ?_ ?_ _ | refine Below.alloc ?_ ?_ _ | refine Below.setCell ?_ ?_ _ | refine Below.drew ?_ | (simp; done) | (have hbz := hb.size; first | omega | (simp; omega)) | (simp; omega) | omega))⟩
           case measure => simp [intOf]; omega)
    · obtain rfl : k = l.length := by omega
      have he := Lib.hid (areDmg_end hall.out)
      go_wp2_with fail
      go_ret
      exact ⟨ret_bool (by rw [he.out]; simp; omega), hb⟩
end Go.Proofs.Ythibchaiaedboaa
