/- Issues: the true issue, the first gap, the days of change: by the program and by the reference. No condition but what a slice may hold. -/
import Derived.Test.YthibchaiaedboaaDoorTr20
namespace Go.Proofs.YthibchaiaedboaaDoor
open Go.RowKit
theorem ret_sl_bool {v : Value} {b d : Bool} (h : b = d) : Ending.returned (.tuple #[v, .bool b]) = .returned (.tuple #[v, .bool d]) := by rw [h]

set_option maxHeartbeats 1000000 in
theorem trueIssue_c (v : Value) (l : List Iss) (s d : Int) (w : World) (h : Sl w Iss.enc 4 v l) : Calls Tryd.prog 13 #[v, .int .i64 s, .int .i64 d] w fun e w' => e = .returned (.tuple #[.int .i64 (trueI l s d), .bool (decide (0 < trueI l s d))]) ∧ Below w.heap.size w w' := by
  have HA := Lib.hid (areIssues_c v l w h)
  cases hA : areIss l
  case' true =>
    have HT := Lib.hid hA
    cases hs : inB s 1 999
    case' true => cases hd : inB d 0 4000
  case' true.true.true =>
    have hg := Lib.hid (trueI_yes (show sdGood l s d = true by simp [sdGood, hA, hs, hd]))
    rw [hA] at HA
    clear hA
    go_enter Tryd.func13, Tryd.ntmps13
    go_wp2_with (first | (go_at_call 11; refine HA.out.mono ?_; rintro e w1 ⟨rfl, hb1⟩) | (go_at_call 60; refine (isId_c _ _).mono ?_; rintro e w' ⟨rfl, rfl⟩) | (go_at_call 52; refine (isDay_c _ _).mono ?_; rintro e w' ⟨rfl, rfl⟩) | (go_at_call 55; refine (trueOn_c _ l _ _ _ (h.mono hb1)).mono ?_; rintro e w2 ⟨rfl, hb2⟩))
    go_ret2
    exact ⟨ret_int_bool hg.out.symm (by rw [hg.out]), btrans hb1 hb2⟩
  all_goals
    have hg := Lib.hid (trueI_no (show sdGood l s d = false by simp [sdGood, *]))
    rw [hA] at HA
    clear hA
    go_enter Tryd.func13, Tryd.ntmps13
    go_wp2_with (first | (go_at_call 11; refine HA.out.mono ?_; rintro e w1 ⟨rfl, hb1⟩) | (go_at_call 60; refine (isId_c _ _).mono ?_; rintro e w' ⟨rfl, rfl⟩) | (go_at_call 52; refine (isDay_c _ _).mono ?_; rintro e w' ⟨rfl, rfl⟩))
    go_ret2
    exact ⟨ret_int_bool hg.out.symm (by rw [hg.out]; rfl), hb1⟩
set_option maxHeartbeats 1000000 in
theorem firstGap_c (v : Value) (l : List Iss) (s f u : Int) (w : World) (h : Sl w Iss.enc 4 v l) : Calls Tryd.prog 17 #[v, .int .i64 s, .int .i64 f, .int .i64 u] w fun e w' => e = .returned (.tuple #[.int .i64 (gapD l s f u), .bool (gapK l s f u).isSome]) ∧ Below w.heap.size w w' := by
  have HA := Lib.hid (areIssues_c v l w h)
  rcases gapP_ways l s f u with ⟨hA, hg⟩ | ⟨hA, hs, hg⟩ | ⟨hA, hs, hf, hg⟩ | ⟨hA, hs, hf, hu, hg⟩ | ⟨hA, hs, hf, hu, hfu, hg⟩ | ⟨hA, hs, hf, hu, hfu, hg⟩
  case' inr.inr.inr.inr.inr =>
    have HT := Lib.hid hA
    obtain ⟨b1, b2, b3, b4⟩ := gapGood_b hg.out
    rw [hA] at HA
    clear hA
    go_enter Tryd.func17, Tryd.ntmps17
    go_wp2_with (first | (go_at_call 11; refine HA.out.mono ?_; rintro e w1 ⟨rfl, hb1⟩) | (go_at_call 60; refine (isId_c _ _).mono ?_; rintro e w' ⟨rfl, rfl⟩) | (go_at_call 52; refine (isDay_c _ _).mono ?_; rintro e w' ⟨rfl, rfl⟩))
    go_loopw [10] (fun i wr => ∃ k : Nat, k ≤ (u - f + 1).toNat ∧ i = .int .i64 (f + (k : Int)) ∧ Hid (∀ i, i < k → gapAt l s f i = false) ∧ Below w.heap.size w wr) (fun i _ => (u + 1 - intOf i).toNat)
    case atStart => exact ⟨0, Nat.zero_le _, by simp, fun i hi => by omega, hb1⟩
    case round =>
      obtain ⟨k, hk, rfl, hall, hb⟩ := hrel
      by_cases hlt : f + (k : Int) ≤ u
      · have hkn : k < (u - f + 1).toNat := by omega
        by_cases hz : trueN l s (f + (k : Int)) = 0
        · have HG := Lib.hid (gapD_some (gapK_some hg.out hall.out (by simp [gapAt, hz]) hkn))
          go_wp2_with (go_at_call 55; refine (trueOn_c _ l _ _ _ (h.mono hb)).mono ?_; rintro e w2 ⟨rfl, hb2⟩)
          go_ret2
          exact ⟨ret_int_bool HG.out.1.symm HG.out.2.symm, hb.trans (hb2.mono hb.size)⟩
        · have ho := Lib.hid (show gapAt l s f k = false by simp [gapAt, hz])
          go_wp2_with (go_at_call 55; refine (trueOn_c _ l _ _ _ (h.mono hb)).mono ?_; rintro e w2 ⟨rfl, hb2⟩)
          go_roundw
          case rel => exact ⟨k + 1, by omega, congrArg (Value.int .i64) (by omega), upto_succ hall.out ho.out, hb.trans (hb2.mono hb.size)⟩
          case measure => simp [intOf]; omega
      · have hkn : k = (u - f + 1).toNat := by omega
        have HG := Lib.hid (gapD_none (gapK_none hg.out (by rw [← hkn]; exact hall.out)))
        clear hkn
        go_wp2_with fail
        go_ret2
        exact ⟨ret_int_bool HG.out.1.symm HG.out.2.symm, hb⟩
  all_goals
    have hg := Lib.hid (gapD_none (gapK_no hg.out))
    rw [hA] at HA
    clear hA
    go_enter Tryd.func17, Tryd.ntmps17
    go_wp2_with (first | (go_at_call 11; refine HA.out.mono ?_; rintro e w1 ⟨rfl, hb1⟩) | (go_at_call 60; refine (isId_c _ _).mono ?_; rintro e w' ⟨rfl, rfl⟩) | (go_at_call 52; refine (isDay_c _ _).mono ?_; rintro e w' ⟨rfl, rfl⟩))
    go_ret2
    exact ⟨ret_int_bool hg.out.1.symm hg.out.2.symm, hb1⟩
set_option maxHeartbeats 1000000 in
theorem specTrueIssue_c (v : Value) (l : List Iss) (s d : Int) (w : World) (h : Sl w Iss.enc 4 v l) : Calls Tryd.prog 15 #[v, .int .i64 s, .int .i64 d] w fun e w' => e = .returned (.tuple #[.int .i64 (trueI l s d), .bool (decide (0 < trueI l s d))]) ∧ Below w.heap.size w w' := by
  have HA := Lib.hid (l20Good_c v l w h)
  cases hA : areIss l
  case' true =>
    have HT := Lib.hid hA
    cases hs : inB s 1 999
    case' true => cases hd : inB d 0 4000
  case' true.true.true =>
    have hg := Lib.hid (trueI_yes (show sdGood l s d = true by simp [sdGood, hA, hs, hd]))
    rw [hA] at HA
    clear hA
    go_enter Tryd.func15, Tryd.ntmps15
    go_wp2_with (first | (go_at_call 56; refine HA.out.mono ?_; rintro e w1 ⟨rfl, hb1⟩) | (go_at_call 62; refine (l20Sheet_c _ _).mono ?_; rintro e w' ⟨rfl, rfl⟩) | (go_at_call 57; refine (l2Day_c _ _).mono ?_; rintro e w' ⟨rfl, rfl⟩) | (go_at_call 64; refine (l1In_c _ _ _ _).mono ?_; rintro e w' ⟨rfl, rfl⟩) | (go_at_call 58; refine (l20TrueN_c _ l _ _ _ (h.mono hb1) HT.out).mono ?_; rintro e w2 ⟨rfl, hb2⟩))
    go_ret2
    exact ⟨ret_int_bool hg.out.symm (by rw [hg.out]), btrans hb1 hb2⟩
  all_goals
    have hg := Lib.hid (trueI_no (show sdGood l s d = false by simp [sdGood, *]))
    rw [hA] at HA
    clear hA
    go_enter Tryd.func15, Tryd.ntmps15
    go_wp2_with (first | (go_at_call 56; refine HA.out.mono ?_; rintro e w1 ⟨rfl, hb1⟩) | (go_at_call 62; refine (l20Sheet_c _ _).mono ?_; rintro e w' ⟨rfl, rfl⟩) | (go_at_call 57; refine (l2Day_c _ _).mono ?_; rintro e w' ⟨rfl, rfl⟩) | (go_at_call 64; refine (l1In_c _ _ _ _).mono ?_; rintro e w' ⟨rfl, rfl⟩))
    go_ret2
    exact ⟨ret_int_bool hg.out.symm (by rw [hg.out]; rfl), hb1⟩
set_option maxHeartbeats 1000000 in
theorem specFirstGap_c (v : Value) (l : List Iss) (s f u : Int) (w : World) (h : Sl w Iss.enc 4 v l) : Calls Tryd.prog 18 #[v, .int .i64 s, .int .i64 f, .int .i64 u] w fun e w' => e = .returned (.tuple #[.int .i64 (gapD l s f u), .bool (gapK l s f u).isSome]) ∧ Below w.heap.size w w' := by
  have HA := Lib.hid (l20Good_c v l w h)
  rcases gapS_ways l s f u with ⟨hA, hg⟩ | ⟨hA, hs, hg⟩ | ⟨hA, hs, hf, hg⟩ | ⟨hA, hs, hf, hu, hg⟩ | ⟨hA, hs, hf, hu, hg⟩
  case' inr.inr.inr.inr =>
    have HT := Lib.hid hA
    obtain ⟨b1, b2, b3, b4⟩ := gapGood_b hg.out
    rw [hA] at HA
    clear hA
    go_enter Tryd.func18, Tryd.ntmps18
    go_wp2_with (first | (go_at_call 56; refine HA.out.mono ?_; rintro e w1 ⟨rfl, hb1⟩) | (go_at_call 62; refine (l20Sheet_c _ _).mono ?_; rintro e w' ⟨rfl, rfl⟩) | (go_at_call 57; refine (l2Day_c _ _).mono ?_; rintro e w' ⟨rfl, rfl⟩) | (go_at_call 64; refine (l1In_c _ _ _ _).mono ?_; rintro e w' ⟨rfl, rfl⟩))
    go_loopw [10] (fun i wr => ∃ k : Nat, k ≤ (u - f + 1).toNat ∧ i = .int .i64 (f + (k : Int)) ∧ Hid (∀ i, i < k → gapAt l s f i = false) ∧ Below w.heap.size w wr) (fun i _ => (u + 1 - intOf i).toNat)
    case atStart => exact ⟨0, Nat.zero_le _, by simp, fun i hi => by omega, hb1⟩
    case round =>
      obtain ⟨k, hk, rfl, hall, hb⟩ := hrel
      by_cases hlt : f + (k : Int) ≤ u
      · have hkn : k < (u - f + 1).toNat := by omega
        by_cases hz : trueN l s (f + (k : Int)) = 0
        · have HG := Lib.hid (gapD_some (gapK_some hg.out hall.out (by simp [gapAt, hz]) hkn))
          go_wp2_with (go_at_call 58; refine (l20TrueN_c _ l _ _ _ (h.mono hb) HT.out).mono ?_; rintro e w2 ⟨rfl, hb2⟩)
          go_ret2
          exact ⟨ret_int_bool HG.out.1.symm HG.out.2.symm, hb.trans (hb2.mono hb.size)⟩
        · have ho := Lib.hid (show gapAt l s f k = false by simp [gapAt, hz])
          go_wp2_with (go_at_call 58; refine (l20TrueN_c _ l _ _ _ (h.mono hb) HT.out).mono ?_; rintro e w2 ⟨rfl, hb2⟩)
          go_roundw
          case rel => exact ⟨k + 1, by omega, congrArg (Value.int .i64) (by omega), upto_succ hall.out ho.out, hb.trans (hb2.mono hb.size)⟩
          case measure => simp [intOf]; omega
      · have hkn : k = (u - f + 1).toNat := by omega
        have HG := Lib.hid (gapD_none (gapK_none hg.out (by rw [← hkn]; exact hall.out)))
        clear hkn
        go_wp2_with fail
        go_ret2
        exact ⟨ret_int_bool HG.out.1.symm HG.out.2.symm, hb⟩
  all_goals
    have hg := Lib.hid (gapD_none (gapK_no hg.out))
    rw [hA] at HA
    clear hA
    go_enter Tryd.func18, Tryd.ntmps18
    go_wp2_with (first | (go_at_call 56; refine HA.out.mono ?_; rintro e w1 ⟨rfl, hb1⟩) | (go_at_call 62; refine (l20Sheet_c _ _).mono ?_; rintro e w' ⟨rfl, rfl⟩) | (go_at_call 57; refine (l2Day_c _ _).mono ?_; rintro e w' ⟨rfl, rfl⟩) | (go_at_call 64; refine (l1In_c _ _ _ _).mono ?_; rintro e w' ⟨rfl, rfl⟩))
    go_ret2
    exact ⟨ret_int_bool hg.out.1.symm hg.out.2.symm, hb1⟩
end Go.Proofs.YthibchaiaedboaaDoor
