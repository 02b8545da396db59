/- Repairs: what is a damage, a list of damages, of repairs; the contracts of the reference's and the program's functions. No condition but what a slice may hold. -/
import Derived.Test.YtkneockpbfamkaaTypes
namespace Go.Proofs.Ytkneockpbfamkaa
open Go.RowKit

def dmgOk (x : Dmg) : Bool := inB x.s 1 999 && inB x.t 0 50 && inB x.f 0 50 && inB x.st 0 100
def dmgGrade (x : Dmg) : Int := 2 * x.t + x.f + x.st
theorem dmgOk_b {x : Dmg} (h : dmgOk x = true) : 1 ≤ x.s ∧ x.s ≤ 999 ∧ 0 ≤ x.t ∧ x.t ≤ 50 ∧ 0 ≤ x.f ∧ x.f ≤ 50 ∧ 0 ≤ x.st ∧ x.st ≤ 100 := by
  simp only [dmgOk, Bool.and_eq_true, inB_iff] at h; omega
def dmgAt (l : List Dmg) (i : Nat) : Bool := dmgOk (gd l i) && (i == 0 || decide ((gd l (i - 1)).s < (gd l i).s))
def areDmg (l : List Dmg) : Bool := allTo (dmgAt l) l.length && decide (l.length ≤ 10)
theorem areDmg_no {l : List Dmg} (k : Nat) (hk : k < l.length) (h : dmgAt l k = false) : areDmg l = false := by simp [areDmg, allTo_false k hk h]
theorem areDmg_end {l : List Dmg} (h : ∀ i, i < l.length → dmgAt l i = true) : areDmg l = decide (l.length ≤ 10) := by simp [areDmg, allTo_true h]

/-! ### bounds -/
set_option maxHeartbeats 400000 in
theorem l1In_c (x a b : Int) (w : World) : Calls Try.prog 50 #[.int .i64 x, .int .i64 a, .int .i64 b] w fun e w' => e = .returned (.bool (inB x a b)) ∧ w = w' := by
  unfold inB
  go_enter Try.func50, Try.ntmps50
  go_wp2
  all_goals go_ret
  all_goals first | (simp_all; done) | (simp_all; omega)
set_option maxHeartbeats 400000 in
theorem within_c (x a b : Int) (w : World) : Calls Try.prog 43 #[.int .i64 x, .int .i64 a, .int .i64 b] w fun e w' => e = .returned (.bool (inB x a b)) ∧ w = w' := by
  unfold inB
  go_enter Try.func43, Try.ntmps43
  go_wp2
  all_goals go_ret
  all_goals first | (simp_all; done) | (simp_all; omega)
theorem isId_c (x : Int) (w : World) : Calls Try.prog 51 #[.int .i64 x] w fun e w' => e = .returned (.bool (inB x 1 999)) ∧ w = w' := by
  go_enter Try.func51, Try.ntmps51
  go_wp2_with (go_at_call 43; refine (within_c _ _ _ _).mono ?_; rintro e w' ⟨rfl, rfl⟩)
  go_ret
  exact ⟨rfl, rfl⟩
theorem isDay_c (x : Int) (w : World) : Calls Try.prog 44 #[.int .i64 x] w fun e w' => e = .returned (.bool (inB x 0 4000)) ∧ w = w' := by
  go_enter Try.func44, Try.ntmps44
  go_wp2_with (go_at_call 43; refine (within_c _ _ _ _).mono ?_; rintro e w' ⟨rfl, rfl⟩)
  go_ret
  exact ⟨rfl, rfl⟩
theorem l2Day_c (x : Int) (w : World) : Calls Try.prog 53 #[.int .i64 x] w fun e w' => e = .returned (.bool (inB x 0 4000)) ∧ w = w' := by
  go_enter Try.func53, Try.ntmps53
  go_wp2_with (go_at_call 50; refine (l1In_c _ _ _ _).mono ?_; rintro e w' ⟨rfl, rfl⟩)
  go_ret
  exact ⟨rfl, rfl⟩

/-! ### one damage -/
set_option maxHeartbeats 400000 in
theorem l22One_c (x : Dmg) (w : World) : Calls Try.prog 35 #[.agg x.enc.toArray] w fun e w' => e = .returned (.bool (dmgOk x)) ∧ Below w.heap.size w w' := by
  obtain ⟨s, t, f, st⟩ := x
  show Calls Try.prog 35 #[.agg #[.int .i64 s, .int .i64 t, .int .i64 f, .int .i64 st]] w _
  go_enter Try.func35, Try.ntmps35
  go_wp2_with (go_at_call 50; refine (l1In_c _ _ _ _).mono ?_; rintro e w' ⟨rfl, rfl⟩)
  all_goals go_ret
  all_goals refine ⟨ret_bool ?_, by go_grown⟩
  all_goals simp_all [dmgOk]
set_option maxHeartbeats 400000 in
theorem isDamage_c (x : Dmg) (w : World) : Calls Try.prog 37 #[.agg x.enc.toArray] w fun e w' => e = .returned (.bool (dmgOk x)) ∧ Below w.heap.size w w' := by
  obtain ⟨s, t, f, st⟩ := x
  show Calls Try.prog 37 #[.agg #[.int .i64 s, .int .i64 t, .int .i64 f, .int .i64 st]] w _
  go_enter Try.func37, Try.ntmps37
  go_wp2_with (first | (go_at_call 43; refine (within_c _ _ _ _).mono ?_; rintro e w' ⟨rfl, rfl⟩) | (go_at_call 51; refine (isId_c _ _).mono ?_; rintro e w' ⟨rfl, rfl⟩))
  all_goals go_ret
  all_goals refine ⟨ret_bool ?_, by go_grown⟩
  all_goals simp_all [dmgOk]
set_option maxHeartbeats 400000 in
theorem l22Grade_c (x : Dmg) (w : World) (h : dmgOk x = true) : Calls Try.prog 36 #[.agg x.enc.toArray] w fun e w' => e = .returned (.int .i64 (dmgGrade x)) ∧ Below w.heap.size w w' := by
  have hb := dmgOk_b h
  clear h
  obtain ⟨s, t, f, st⟩ := x
  obtain ⟨h1, h2, h3, h4, h5, h6, h7, h8⟩ := hb
  simp only at h1 h2 h3 h4 h5 h6 h7 h8
  show Calls Try.prog 36 #[.agg #[.int .i64 s, .int .i64 t, .int .i64 f, .int .i64 st]] w _
  go_enter Try.func36, Try.ntmps36
  go_wp2
  go_ret
  exact ⟨rfl, by go_grown⟩

/-! ### lists of damages -/
theorem dmg_ways (l : List Dmg) (k : Nat) : (dmgOk (gd l k) = false ∧ Hid (dmgAt l k = false)) ∨ (dmgOk (gd l k) = true ∧ ¬ 0 < k ∧ Hid (dmgAt l k = true)) ∨
    (dmgOk (gd l k) = true ∧ 0 < k ∧ (gd l (k - 1)).s < (gd l k).s ∧ Hid (dmgAt l k = true)) ∨ (dmgOk (gd l k) = true ∧ 0 < k ∧ ¬ (gd l (k - 1)).s < (gd l k).s ∧ Hid (dmgAt l k = false)) := by
  unfold Hid
  cases h : dmgOk (gd l k)
  · exact .inl ⟨rfl, by simp [dmgAt, h]⟩
  · by_cases h0 : 0 < k
    · by_cases h1 : (gd l (k - 1)).s < (gd l k).s
      · exact .inr (.inr (.inl ⟨rfl, h0, h1, by simp [dmgAt, h, h1]⟩))
      · exact .inr (.inr (.inr ⟨rfl, h0, h1, by simp [dmgAt, h, h1]; omega⟩))
    · exact .inr (.inl ⟨rfl, h0, by simp [dmgAt, h]; omega⟩)
set_option maxHeartbeats 1000000 in
theorem areDamages_c (v : Value) (l : List Dmg) (w : World) (h : Sl w Dmg.enc 4 v l) : Calls Try.prog 15 #[v] w fun e w' => e = .returned (.bool (areDmg l)) ∧ Below w.heap.size w w' := by
  obtain ⟨a, cap, b, off, rfl, hlc, hm, hc⟩ := h
  unfold maxLen at hm
  go_enter Try.func15, Try.ntmps15
  go_wp2_with fail
  go_loopw [7] (fun i wr => ∃ k : Nat, k ≤ l.length ∧ i = .int .i64 k ∧ Hid (∀ i, i < k → dmgAt l i = true) ∧ Below w.heap.size w wr) (fun i _ => l.length - (intOf i).toNat)
  case atStart => exact ⟨0, Nat.zero_le _, rfl, fun i hi => by omega, Below.refl _ _⟩
  case round =>
    obtain ⟨k, hk, rfl, hall, hb⟩ := hrel
    by_cases hlt : k < l.length
    · obtain ⟨rfl, hbw, c0, c1, c2, c3⟩ := Dmg.at (hc.mono hb) k hlt
      have d0 := fun (h0 : 0 < k) => (Dmg.at (hc.mono hb) (k - 1) (by omega)).2.2.1
      rcases dmg_ways l k with ⟨hd, ho⟩ | ⟨hd, hk0, ho⟩ | ⟨hd, hk0, h2, ho⟩ | ⟨hd, hk0, h2, ho⟩
      all_goals
        go_wp2_with fail
        refine wp_region_ext (by kernel_rfl) (by kernel_rfl) ?_
        repeat (any_goals (first | go_big_quiet_step ((go_at_call 37; exact Calls.ext_of (isDamage_c (gd l k) _)))))
        (refine wpQuiet_nil ?_)
        (rintro _ ⟨q, rfl⟩)
        go_wp2_with fail
      all_goals first
        | (go_ret
           exact ⟨ret_bool (areDmg_no k hlt ho.out).symm, (by repeat' (first | exact Below.refl _ _ | with_reducible assumption | refine bext ?_ ?_ _ | refine Below.alloc ?_ ?_ _ | refine Below.setCell ?_ ?_ _ | refine Below.drew ?_ | (simp; done) | (have hbz := hb.size; first | omega | (simp; omega)) | (simp; omega) | omega))⟩)
        | (go_roundw
           case rel => exact ⟨k + 1, by omega, by go_num, upto_succ hall.out ho.out, (by repeat' (first | exact Below.refl _ _ | with_reducible assumption | refine bext ?_ ?_ _ | refine Below.alloc ?_ ?_ _ | refine Below.setCell ?_ ?_ _ | refine Below.drew ?_ | (simp; done) | (have hbz := hb.size; first | omega | (simp; omega)) | (simp; omega) | omega))⟩
           case measure => simp [intOf]; omega)
    · obtain rfl : k = l.length := by omega
      have he := Lib.hid (areDmg_end hall.out)
      go_wp2_with fail
      go_ret
      exact ⟨ret_bool (by rw [he.out]; simp; omega), hb⟩
set_option maxHeartbeats 1000000 in
theorem l22Damages_c (v : Value) (l : List Dmg) (w : World) (h : Sl w Dmg.enc 4 v l) : Calls Try.prog 39 #[v] w fun e w' => e = .returned (.bool (areDmg l)) ∧ Below w.heap.size w w' := by
  obtain ⟨a, cap, b, off, rfl, hlc, hm, hc⟩ := h
  unfold maxLen at hm
  go_enter Try.func39, Try.ntmps39
  go_wp2_with fail
  go_loopw [3] (fun i wr => ∃ k : Nat, k ≤ l.length ∧ i = .int .i64 k ∧ Hid (∀ i, i < k → dmgAt l i = true) ∧ Below w.heap.size w wr) (fun i _ => l.length - (intOf i).toNat)
  case atStart => exact ⟨0, Nat.zero_le _, rfl, fun i hi => by omega, Below.refl _ _⟩
  case round =>
    obtain ⟨k, hk, rfl, hall, hb⟩ := hrel
    by_cases hlt : k < l.length
    · obtain ⟨rfl, hbw, c0, c1, c2, c3⟩ := Dmg.at (hc.mono hb) k hlt
      have d0 := fun (h0 : 0 < k) => (Dmg.at (hc.mono hb) (k - 1) (by omega)).2.2.1
      rcases dmg_ways l k with ⟨hd, ho⟩ | ⟨hd, hk0, ho⟩ | ⟨hd, hk0, h2, ho⟩ | ⟨hd, hk0, h2, ho⟩
      all_goals
        go_wp2_with fail
        refine wp_region_ext (by kernel_rfl) (by kernel_rfl) ?_
        repeat (any_goals (first | go_big_quiet_step ((go_at_call 35; exact Calls.ext_of (l22One_c (gd l k) _)))))
        (refine wpQuiet_nil ?_)
        (rintro _ ⟨q, rfl⟩)
        go_wp2_with fail
      all_goals first
        | (go_ret
           exact ⟨ret_bool (areDmg_no k hlt ho.out).symm, (by repeat' (first | exact Below.refl _ _ | with_reducible assumption | refine bext ?_ ?_ _ | refine Below.alloc ?_ ?_ _ | refine Below.setCell ?_ ?_ _ | refine Below.drew ?_ | (simp; done) | (have hbz := hb.size; first | omega | (simp; omega)) | (simp; omega) | omega))⟩)
        | (go_roundw
           case rel => exact ⟨k + 1, by omega, by go_num, upto_succ hall.out ho.out, (by repeat' (first | exact Below.refl _ _ | with_reducible assumption | refine bext ?_ ?_ _ | refine Below.alloc ?_ ?_ _ | refine Below.setCell ?_ ?_ _ | refine Below.drew ?_ | (simp; done) | (have hbz := hb.size; first | omega | (simp; omega)) | (simp; omega) | omega))⟩
           case measure => simp [intOf]; omega)
    · obtain rfl : k = l.length := by omega
      have he := Lib.hid (areDmg_end hall.out)
      go_wp2_with fail
      go_ret
      exact ⟨ret_bool (by rw [he.out]; simp; omega), hb⟩
theorem specAreDamages_c (v : Value) (l : List Dmg) (w : World) (h : Sl w Dmg.enc 4 v l) : Calls Try.prog 13 #[v] w fun e w' => e = .returned (.bool (areDmg l)) ∧ Below w.heap.size w w' := by
  go_enter Try.func13, Try.ntmps13
  go_wp2_with (go_at_call 39; refine (l22Damages_c v l w h).mono ?_)
  rintro e w' ⟨rfl, hb⟩
  go_wp2
  go_ret
  exact ⟨rfl, hb⟩
end Go.Proofs.Ytkneockpbfamkaa
