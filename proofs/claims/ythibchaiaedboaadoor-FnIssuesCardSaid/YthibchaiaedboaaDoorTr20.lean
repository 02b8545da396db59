/- Issues: the number that is true on a day, by the program and by the reference. No condition but what a slice may hold. -/
import Derived.Test.YthibchaiaedboaaDoorIs20
namespace Go.Proofs.YthibchaiaedboaaDoor
open Go.RowKit
set_option maxHeartbeats 400000 in
theorem l1Most_c (a b : Int) (w : World) : Calls Tryd.prog 105 #[.int .i64 a, .int .i64 b] w fun e w' => e = .returned (.int .i64 (if a > b then a else b)) ∧ w = w' := by
  go_enter Tryd.func105, Tryd.ntmps105
  by_cases h : b < a
  all_goals
    go_wp2_with fail
    go_ret
    refine ⟨ret_int ?_, rfl⟩
    rfl
set_option maxHeartbeats 1000000 in
theorem trueOn_c (v : Value) (l : List Iss) (s d : Int) (w : World) (h : Sl w Iss.enc 4 v l) : Calls Tryd.prog 55 #[v, .int .i64 s, .int .i64 d] w fun e w' => e = .returned (.int .i64 (trueN l s d)) ∧ Below w.heap.size w w' := by
  obtain ⟨a, cap, b, off, rfl, hlc, hm, hc⟩ := h
  unfold maxLen at hm
  unfold trueN
  go_enter Tryd.func55, Tryd.ntmps55
  go_wp2_with fail
  go_loopw [7, 12] (fun n i wr => ∃ k : Nat, k ≤ l.length ∧ i = .int .i64 k ∧ n = .int .i64 (lastN l s d k) ∧ Below w.heap.size w wr) (fun _ i _ => l.length - (intOf i).toNat)
  case atStart => exact ⟨0, Nat.zero_le _, rfl, rfl, Below.refl _ _⟩
  case round =>
    obtain ⟨k, hk, rfl, rfl, hb⟩ := hrel
    by_cases hlt : k < l.length
    · obtain ⟨rfl, hbw, c0, c1, c2, c3⟩ := Iss.at (hc.mono hb) k hlt
      rcases on_ways (gd l k) s d with ⟨h1, ho⟩ | ⟨h1, h2, ho⟩ | ⟨h1, h2, ho⟩
      all_goals
        first | have HL := Lib.hid (lastN_no ho) | have HL := Lib.hid (lastN_yes ho)
        clear ho
        go_wp2_with (go_at_call 73; refine (within_c _ _ _ _).mono ?_; rintro e w' ⟨rfl, rfl⟩)
        go_roundw
        case rel => exact ⟨k + 1, by omega, by go_num, by rw [HL.out], (by repeat' (first | exact Below.refl _ _ | with_reducible assumption | refine bext ?_ ?_ _ | refine Below.alloc ?_ ?_ _ | refine Below.setCell ?_ ?_ _ | refine Below.drew ?_ | (simp; done) | (have hbz := hb.size; first | omega | (simp; omega)) | (simp; omega) | omega))⟩
        case measure => simp [intOf]; omega
    · obtain rfl : k = l.length := by omega
      go_wp2_with fail
      go_ret
      exact ⟨rfl, hb⟩
set_option maxHeartbeats 1000000 in
theorem l20True_c (v : Value) (l : List Iss) (s d : Int) (w : World) (h : Sl w Iss.enc 4 v l) : Calls Tryd.prog 58 #[v, .int .i64 s, .int .i64 d] w fun e w' => e = .returned (.int .i64 (mostN l s d l.length)) ∧ Below w.heap.size w w' := by
  obtain ⟨a, cap, b, off, rfl, hlc, hm, hc⟩ := h
  unfold maxLen at hm
  go_enter Tryd.func58, Tryd.ntmps58
  go_wp2_with fail
  go_loopw [7, 8] (fun n i wr => ∃ k : Nat, k ≤ l.length ∧ i = .int .i64 k ∧ n = .int .i64 (mostN l s d k) ∧ Below w.heap.size w wr) (fun _ i _ => l.length - (intOf i).toNat)
  case atStart => exact ⟨0, Nat.zero_le _, rfl, rfl, Below.refl _ _⟩
  case round =>
    obtain ⟨k, hk, rfl, rfl, hb⟩ := hrel
    by_cases hlt : k < l.length
    · obtain ⟨rfl, hbw, c0, c1, c2, c3⟩ := Iss.at (hc.mono hb) k hlt
      rcases on_ways (gd l k) s d with ⟨h1, ho⟩ | ⟨h1, h2, ho⟩ | ⟨h1, h2, ho⟩
      all_goals
        first | have HL := Lib.hid (mostN_no ho) | have HL := Lib.hid (mostN_yes ho)
        clear ho
        go_wp2_with (first | (go_at_call 64; refine (l1In_c _ _ _ _).mono ?_; rintro e w' ⟨rfl, rfl⟩) | (go_at_call 105; refine (l1Most_c _ _ _).mono ?_; rintro e w' ⟨rfl, rfl⟩))
        go_roundw
        case rel => exact ⟨k + 1, by omega, by go_num, by rw [HL.out], (by repeat' (first | exact Below.refl _ _ | with_reducible assumption | refine bext ?_ ?_ _ | refine Below.alloc ?_ ?_ _ | refine Below.setCell ?_ ?_ _ | refine Below.drew ?_ | (simp; done) | (have hbz := hb.size; first | omega | (simp; omega)) | (simp; omega) | omega))⟩
        case measure => simp [intOf]; omega
    · obtain rfl : k = l.length := by omega
      go_wp2_with fail
      go_ret
      exact ⟨rfl, hb⟩
theorem l20TrueN_c (v : Value) (l : List Iss) (s d : Int) (w : World) (h : Sl w Iss.enc 4 v l) (hA : areIss l = true) : Calls Tryd.prog 58 #[v, .int .i64 s, .int .i64 d] w fun e w' => e = .returned (.int .i64 (trueN l s d)) ∧ Below w.heap.size w w' := by
  have := l20True_c v l s d w h
  rwa [trueN_most hA] at this
end Go.Proofs.YthibchaiaedboaaDoor
