/- Issues: the true issue, the first gap, the days of change: by the program and by the reference. No condition but what a slice may hold. -/
import Derived.Test.YtcnbmephffphgaaTr20
namespace Go.Proofs.Ytcnbmephffphgaa
open Go.RowKit
theorem ret_sl_bool {v : Value} {b d : Bool} (h : b = d) : Ending.returned (.tuple #[v, .bool b]) = .returned (.tuple #[v, .bool d]) := by rw [h]

set_option maxHeartbeats 1000000 in
theorem trueIssue_c (v : Value) (l : List Iss) (s d : Int) (w : World) (h : Sl w Iss.enc 4 v l) : Calls Try.prog 15 #[v, .int .i64 s, .int .i64 d] w fun e w' => e = .returned (.tuple #[.int .i64 (trueI l s d), .bool (decide (0 < trueI l s d))]) ∧ Below w.heap.size w w' := by
  have HA := Lib.hid (areIssues_c v l w h)
  cases hA : areIss l
  case' true =>
    have HT := Lib.hid hA
    cases hs : inB s 1 999
    case' true => cases hd : inB d 0 4000
  case' true.true.true =>
    have hg := Lib.hid (trueI_yes (show sdGood l s d = true by simp [sdGood, hA, hs, hd]))
    rw [hA] at HA
    clear hA
    go_enter Try.func15, Try.ntmps15
    go_wp2_with (first | (go_at_call 51; refine HA.out.mono ?_; rintro e w1 ⟨rfl, hb1⟩) | (go_at_call 52; refine (isId_c _ _).mono ?_; rintro e w' ⟨rfl, rfl⟩) | (go_at_call 53; refine (isDay_c _ _).mono ?_; rintro e w' ⟨rfl, rfl⟩) | (go_at_call 54; refine (trueOn_c _ l _ _ _ (h.mono hb1)).mono ?_; rintro e w2 ⟨rfl, hb2⟩))
    go_ret2
    exact ⟨ret_int_bool hg.out.symm (by rw [hg.out]), btrans hb1 hb2⟩
  all_goals
    have hg := Lib.hid (trueI_no (show sdGood l s d = false by simp [sdGood, *]))
    rw [hA] at HA
    clear hA
    go_enter Try.func15, Try.ntmps15
    go_wp2_with (first | (go_at_call 51; refine HA.out.mono ?_; rintro e w1 ⟨rfl, hb1⟩) | (go_at_call 52; refine (isId_c _ _).mono ?_; rintro e w' ⟨rfl, rfl⟩) | (go_at_call 53; refine (isDay_c _ _).mono ?_; rintro e w' ⟨rfl, rfl⟩))
    go_ret2
    exact ⟨ret_int_bool hg.out.symm (by rw [hg.out]; rfl), hb1⟩
set_option maxHeartbeats 1000000 in
theorem firstGap_c (v : Value) (l : List Iss) (s f u : Int) (w : World) (h : Sl w Iss.enc 4 v l) : Calls Try.prog 18 #[v, .int .i64 s, .int .i64 f, .int .i64 u] w fun e w' => e = .returned (.tuple #[.int .i64 (gapD l s f u), .bool (gapK l s f u).isSome]) ∧ Below w.heap.size w w' := by
  have HA := Lib.hid (areIssues_c v l w h)
  rcases gapP_ways l s f u with ⟨hA, hg⟩ | ⟨hA, hs, hg⟩ | ⟨hA, hs, hf, hg⟩ | ⟨hA, hs, hf, hu, hg⟩ | ⟨hA, hs, hf, hu, hfu, hg⟩ | ⟨hA, hs, hf, hu, hfu, hg⟩
  case' inr.inr.inr.inr.inr =>
    have HT := Lib.hid hA
    obtain ⟨b1, b2, b3, b4⟩ := gapGood_b hg.out
    rw [hA] at HA
    clear hA
    go_enter Try.func18, Try.ntmps18
    go_wp2_with (first | (go_at_call 51; refine HA.out.mono ?_; rintro e w1 ⟨rfl, hb1⟩) | (go_at_call 52; refine (isId_c _ _).mono ?_; rintro e w' ⟨rfl, rfl⟩) | (go_at_call 53; refine (isDay_c _ _).mono ?_; rintro e w' ⟨rfl, rfl⟩))
    go_loopw [10] (fun i wr => ∃ k : Nat, k ≤ (u - f + 1).toNat ∧ i = .int .i64 (f + (k : Int)) ∧ Hid (∀ i, i < k → gapAt l s f i = false) ∧ Below w.heap.size w wr) (fun i _ => (u + 1 - intOf i).toNat)
    case atStart => exact ⟨0, Nat.zero_le _, by simp, fun i hi => by omega, hb1⟩
    case round =>
      obtain ⟨k, hk, rfl, hall, hb⟩ := hrel
      by_cases hlt : f + (k : Int) ≤ u
      · have hkn : k < (u - f + 1).toNat := by omega
        by_cases hz : trueN l s (f + (k : Int)) = 0
        · have HG := Lib.hid (gapD_some (gapK_some hg.out hall.out (by simp [gapAt, hz]) hkn))
          go_wp2_with (go_at_call 54; refine (trueOn_c _ l _ _ _ (h.mono hb)).mono ?_; rintro e w2 ⟨rfl, hb2⟩)
          go_ret2
          exact ⟨ret_int_bool HG.out.1.symm HG.out.2.symm, hb.trans (hb2.mono hb.size)⟩
        · have ho := Lib.hid (show gapAt l s f k = false by simp [gapAt, hz])
          go_wp2_with (go_at_call 54; refine (trueOn_c _ l _ _ _ (h.mono hb)).mono ?_; rintro e w2 ⟨rfl, hb2⟩)
          go_roundw
          case rel => exact ⟨k + 1, by omega, congrArg (Value.int .i64) (by omega), upto_succ hall.out ho.out, hb.trans (hb2.mono hb.size)⟩
          case measure => simp [intOf]; omega
      · have hkn : k = (u - f + 1).toNat := by omega
        have HG := Lib.hid (gapD_none (gapK_none hg.out (by rw [← hkn]; exact hall.out)))
        clear hkn
        go_wp2_with fail
        go_ret2
        exact ⟨ret_int_bool HG.out.1.symm HG.out.2.symm, hb⟩
  all_goals
    have hg := Lib.hid (gapD_none (gapK_no hg.out))
    rw [hA] at HA
    clear hA
    go_enter Try.func18, Try.ntmps18
    go_wp2_with (first | (go_at_call 51; refine HA.out.mono ?_; rintro e w1 ⟨rfl, hb1⟩) | (go_at_call 52; refine (isId_c _ _).mono ?_; rintro e w' ⟨rfl, rfl⟩) | (go_at_call 53; refine (isDay_c _ _).mono ?_; rintro e w' ⟨rfl, rfl⟩))
    go_ret2
    exact ⟨ret_int_bool hg.out.1.symm hg.out.2.symm, hb1⟩
set_option maxHeartbeats 1000000 in
set_option maxRecDepth 20000 in
theorem changesOf_c (v : Value) (l : List Iss) (s : Int) (w : World) (h : Sl w Iss.enc 4 v l) : Calls Try.prog 20 #[v, .int .i64 s] w (RetSlB w 3 IntE.enc 1 (chgR l s) (chgGood l s)) := by
  have b0 : Below w.heap.size w w := Below.refl _ _
  have HA := Lib.hid (areIssues_c v l w h)
  cases hA : areIss l
  case' true =>
    have HT := Lib.hid hA
    cases hs : inB s 1 999
  case' true.true =>
    have hg : chgGood l s = true := by simp [chgGood, hA, hs]
    rw [hg, chgR_yes hg]
    clear hg
    rw [hA] at HA
    clear hA
    obtain ⟨i, hi, hz0, hz1, hz2⟩ := info_parts (show (Try.prog.info? 3).map (fun i => (i.zero, i.size, i.bytes)) = some (some (.int .i64 0), 1, 8) by kernel_rfl)
    go_enter Try.func20, Try.ntmps20
    go_wp2_with (first | (go_at_call 51; refine HA.out.mono ?_; rintro e w1 ⟨rfl, hb1⟩) | (go_at_call 52; refine (isId_c _ _).mono ?_; rintro e w' ⟨rfl, rfl⟩) | (go_at_call 53; refine (isDay_c _ _).mono ?_; rintro e w' ⟨rfl, rfl⟩))
    have hO : Own w1 w.heap.size 3 IntE.enc 1 _ (chgs l s 0) := Own.nil _ _ _ _ _
    have hb1 := btrans b0 hb1
    clear b0 HA
    go_loopw [6, 7] (fun v i wr => ∃ k : Nat, k ≤ 4000 ∧ i = .int .i64 ((k : Int) + 1) ∧ Hid (Own wr w.heap.size 3 IntE.enc 1 v (chgs l s k)) ∧ Below w.heap.size w wr) (fun _ i _ => (4001 - intOf i).toNat)
    case atStart => exact ⟨0, by omega, rfl, hO, hb1⟩
    case round =>
      obtain ⟨k, hk, rfl, ho, hb⟩ := hrel
      by_cases hlt : k < 4000
      · have hin : inB ((k : Int) + 1) 0 4000 = true := inB_iff.2 ⟨by omega, by omega⟩
        have hul := chgs_len l s k
        by_cases hc : trueN l s ((k : Int) + 1) = trueN l s (k : Int)
        · have hun := Lib.hid (chgs_no (show chgAt l s k = false by simp [chgAt, hc]))
          go_wp2_with (first | (go_at_call 54; refine (trueOn_c _ l _ _ _ (h.mono (by first | exact hb | exact bext hb hb.size _))).mono ?_; rintro e w2 ⟨rfl, hb2⟩; obtain ⟨p2, rfl⟩ := ext_of_below hb2; clear hb2) | (go_at_call 53; refine (isDay_c _ _).mono ?_; rintro e w' ⟨rfl, rfl⟩))
          go_roundw
          case rel => exact ⟨k + 1, by omega, congrArg (Value.int .i64) (by omega), by rw [hun.out]; exact ho.out.mono (by repeat' (first | exact Below.refl _ _ | with_reducible assumption | refine bext ?_ ?_ _ | refine Below.alloc ?_ ?_ _ | refine Below.setCell ?_ ?_ _ | refine Below.drew ?_ | (simp; done) | (have hbz := hb.size; first | omega | (simp; omega)) | (simp; omega) | omega)), (by repeat' (first | exact Below.refl _ _ | with_reducible assumption | refine bext ?_ ?_ _ | refine Below.alloc ?_ ?_ _ | refine Below.setCell ?_ ?_ _ | refine Below.drew ?_ | (simp; done) | (have hbz := hb.size; first | omega | (simp; omega)) | (simp; omega) | omega))⟩
          case measure => simp [intOf]; omega
        · have hun := Lib.hid (chgs_yes (show chgAt l s k = true by simp [chgAt, hc]))
          go_wp2_with (first | (go_at_call 54; refine (trueOn_c _ l _ _ _ (h.mono (by first | exact hb | exact bext hb hb.size _))).mono ?_; rintro e w2 ⟨rfl, hb2⟩; obtain ⟨p2, rfl⟩ := ext_of_below hb2; clear hb2) | (go_at_call 53; refine (isDay_c _ _).mono ?_; rintro e w' ⟨rfl, rfl⟩) | (at_builtin; refine wpList_push IntE.len IntE.one rfl _ _ 32 rfl w.heap.size 3 i _ 8 Try.underlying32 hi hz0 hz1 hz2 rfl (by omega) _ (chgs l s k) rfl (ho.out.mono (by repeat' (first | exact Below.refl _ _ | with_reducible assumption | refine bext ?_ ?_ _ | refine Below.alloc ?_ ?_ _ | refine Below.setCell ?_ ?_ _ | refine Below.drew ?_ | (simp; done) | (have hbz := hb.size; first | omega | (simp; omega)) | (simp; omega) | omega))) _ 1 ((k : Int) + 1) rfl (fun j u hu => new_cells _ [.int .i64 ((k : Int) + 1)] _ _ (by simp) j u hu) (by unfold maxLen; omega) (by omega) (by have := hb.size; simp; omega) ?_))
          intro v' w3 ho2 hg2
          have hb2 := below_push (lo := w.heap.size) (B := w.heap.size) (a := w) (by repeat' (first | exact Below.refl _ _ | with_reducible assumption | refine bext ?_ ?_ _ | refine Below.alloc ?_ ?_ _ | refine Below.setCell ?_ ?_ _ | refine Below.drew ?_ | (simp; done) | (have hbz := hb.size; first | omega | (simp; omega)) | (simp; omega) | omega)) (ho.out.mono (by repeat' (first | exact Below.refl _ _ | with_reducible assumption | refine bext ?_ ?_ _ | refine Below.alloc ?_ ?_ _ | refine Below.setCell ?_ ?_ _ | refine Below.drew ?_ | (simp; done) | (have hbz := hb.size; first | omega | (simp; omega)) | (simp; omega) | omega))) hg2 (Nat.le_refl _) (by have := hb.size; simp; omega)
          go_wp2_with fail
          go_roundw
          case rel => exact ⟨k + 1, by omega, congrArg (Value.int .i64) (by omega), by rw [hun.out]; exact ho2, hb2⟩
          case measure => simp [intOf]; omega
      · have hk4 := Lib.hid (show k = 4000 by omega)
        have hin : inB ((k : Int) + 1) 0 4000 = false := by rw [Bool.eq_false_iff]; intro hx; have := inB_iff.1 hx; omega
        go_wp2_with (first | fail | (go_at_call 53; refine (isDay_c _ _).mono ?_; rintro e w' ⟨rfl, rfl⟩))
        go_ret2
        exact ⟨_, rfl, by rw [← hk4.out]; exact ho.out, hb⟩
  all_goals
    have hg : chgGood l s = false := by simp [chgGood, *]
    rw [hg, chgR_no hg]
    clear hg
    rw [hA] at HA
    clear hA
    go_enter Try.func20, Try.ntmps20
    go_wp2_with (first | (go_at_call 51; refine HA.out.mono ?_; rintro e w1 ⟨rfl, hb1⟩) | (go_at_call 52; refine (isId_c _ _).mono ?_; rintro e w' ⟨rfl, rfl⟩) | (go_at_call 53; refine (isDay_c _ _).mono ?_; rintro e w' ⟨rfl, rfl⟩))
    go_ret2
    exact ⟨_, rfl, Own.nil _ _ _ _ _, btrans b0 hb1⟩
set_option maxHeartbeats 1000000 in
theorem specTrueIssue_c (v : Value) (l : List Iss) (s d : Int) (w : World) (h : Sl w Iss.enc 4 v l) : Calls Try.prog 13 #[v, .int .i64 s, .int .i64 d] w fun e w' => e = .returned (.tuple #[.int .i64 (trueI l s d), .bool (decide (0 < trueI l s d))]) ∧ Below w.heap.size w w' := by
  have HA := Lib.hid (l20Good_c v l w h)
  cases hA : areIss l
  case' true =>
    have HT := Lib.hid hA
    cases hs : inB s 1 999
    case' true => cases hd : inB d 0 4000
  case' true.true.true =>
    have hg := Lib.hid (trueI_yes (show sdGood l s d = true by simp [sdGood, hA, hs, hd]))
    rw [hA] at HA
    clear hA
    go_enter Try.func13, Try.ntmps13
    go_wp2_with (first | (go_at_call 47; refine HA.out.mono ?_; rintro e w1 ⟨rfl, hb1⟩) | (go_at_call 48; refine (l20Sheet_c _ _).mono ?_; rintro e w' ⟨rfl, rfl⟩) | (go_at_call 49; refine (l2Day_c _ _).mono ?_; rintro e w' ⟨rfl, rfl⟩) | (go_at_call 56; refine (l1In_c _ _ _ _).mono ?_; rintro e w' ⟨rfl, rfl⟩) | (go_at_call 50; refine (l20TrueN_c _ l _ _ _ (h.mono hb1) HT.out).mono ?_; rintro e w2 ⟨rfl, hb2⟩))
    go_ret2
    exact ⟨ret_int_bool hg.out.symm (by rw [hg.out]), btrans hb1 hb2⟩
  all_goals
    have hg := Lib.hid (trueI_no (show sdGood l s d = false by simp [sdGood, *]))
    rw [hA] at HA
    clear hA
    go_enter Try.func13, Try.ntmps13
    go_wp2_with (first | (go_at_call 47; refine HA.out.mono ?_; rintro e w1 ⟨rfl, hb1⟩) | (go_at_call 48; refine (l20Sheet_c _ _).mono ?_; rintro e w' ⟨rfl, rfl⟩) | (go_at_call 49; refine (l2Day_c _ _).mono ?_; rintro e w' ⟨rfl, rfl⟩) | (go_at_call 56; refine (l1In_c _ _ _ _).mono ?_; rintro e w' ⟨rfl, rfl⟩))
    go_ret2
    exact ⟨ret_int_bool hg.out.symm (by rw [hg.out]; rfl), hb1⟩
set_option maxHeartbeats 1000000 in
theorem specFirstGap_c (v : Value) (l : List Iss) (s f u : Int) (w : World) (h : Sl w Iss.enc 4 v l) : Calls Try.prog 17 #[v, .int .i64 s, .int .i64 f, .int .i64 u] w fun e w' => e = .returned (.tuple #[.int .i64 (gapD l s f u), .bool (gapK l s f u).isSome]) ∧ Below w.heap.size w w' := by
  have HA := Lib.hid (l20Good_c v l w h)
  rcases gapS_ways l s f u with ⟨hA, hg⟩ | ⟨hA, hs, hg⟩ | ⟨hA, hs, hf, hg⟩ | ⟨hA, hs, hf, hu, hg⟩ | ⟨hA, hs, hf, hu, hg⟩
  case' inr.inr.inr.inr =>
    have HT := Lib.hid hA
    obtain ⟨b1, b2, b3, b4⟩ := gapGood_b hg.out
    rw [hA] at HA
    clear hA
    go_enter Try.func17, Try.ntmps17
    go_wp2_with (first | (go_at_call 47; refine HA.out.mono ?_; rintro e w1 ⟨rfl, hb1⟩) | (go_at_call 48; refine (l20Sheet_c _ _).mono ?_; rintro e w' ⟨rfl, rfl⟩) | (go_at_call 49; refine (l2Day_c _ _).mono ?_; rintro e w' ⟨rfl, rfl⟩) | (go_at_call 56; refine (l1In_c _ _ _ _).mono ?_; rintro e w' ⟨rfl, rfl⟩))
    go_loopw [10] (fun i wr => ∃ k : Nat, k ≤ (u - f + 1).toNat ∧ i = .int .i64 (f + (k : Int)) ∧ Hid (∀ i, i < k → gapAt l s f i = false) ∧ Below w.heap.size w wr) (fun i _ => (u + 1 - intOf i).toNat)
    case atStart => exact ⟨0, Nat.zero_le _, by simp, fun i hi => by omega, hb1⟩
    case round =>
      obtain ⟨k, hk, rfl, hall, hb⟩ := hrel
      by_cases hlt : f + (k : Int) ≤ u
      · have hkn : k < (u - f + 1).toNat := by omega
        by_cases hz : trueN l s (f + (k : Int)) = 0
        · have HG := Lib.hid (gapD_some (gapK_some hg.out hall.out (by simp [gapAt, hz]) hkn))
          go_wp2_with (go_at_call 50; refine (l20TrueN_c _ l _ _ _ (h.mono hb) HT.out).mono ?_; rintro e w2 ⟨rfl, hb2⟩)
          go_ret2
          exact ⟨ret_int_bool HG.out.1.symm HG.out.2.symm, hb.trans (hb2.mono hb.size)⟩
        · have ho := Lib.hid (show gapAt l s f k = false by simp [gapAt, hz])
          go_wp2_with (go_at_call 50; refine (l20TrueN_c _ l _ _ _ (h.mono hb) HT.out).mono ?_; rintro e w2 ⟨rfl, hb2⟩)
          go_roundw
          case rel => exact ⟨k + 1, by omega, congrArg (Value.int .i64) (by omega), upto_succ hall.out ho.out, hb.trans (hb2.mono hb.size)⟩
          case measure => simp [intOf]; omega
      · have hkn : k = (u - f + 1).toNat := by omega
        have HG := Lib.hid (gapD_none (gapK_none hg.out (by rw [← hkn]; exact hall.out)))
        clear hkn
        go_wp2_with fail
        go_ret2
        exact ⟨ret_int_bool HG.out.1.symm HG.out.2.symm, hb⟩
  all_goals
    have hg := Lib.hid (gapD_none (gapK_no hg.out))
    rw [hA] at HA
    clear hA
    go_enter Try.func17, Try.ntmps17
    go_wp2_with (first | (go_at_call 47; refine HA.out.mono ?_; rintro e w1 ⟨rfl, hb1⟩) | (go_at_call 48; refine (l20Sheet_c _ _).mono ?_; rintro e w' ⟨rfl, rfl⟩) | (go_at_call 49; refine (l2Day_c _ _).mono ?_; rintro e w' ⟨rfl, rfl⟩) | (go_at_call 56; refine (l1In_c _ _ _ _).mono ?_; rintro e w' ⟨rfl, rfl⟩))
    go_ret2
    exact ⟨ret_int_bool hg.out.1.symm hg.out.2.symm, hb1⟩
set_option maxHeartbeats 1000000 in
set_option maxRecDepth 20000 in
theorem specChangesOf_c (v : Value) (l : List Iss) (s : Int) (w : World) (h : Sl w Iss.enc 4 v l) : Calls Try.prog 19 #[v, .int .i64 s] w (RetSlB w 3 IntE.enc 1 (chgR l s) (chgGood l s)) := by
  have b0 : Below w.heap.size w (w.alloc (.cells #[] 3)) := below_alloc _ _
  have HA := Lib.hid (l20Good_c v l _ (h.mono b0))
  cases hA : areIss l
  case' true =>
    have HT := Lib.hid hA
    cases hs : inB s 1 999
  case' true.true =>
    have hg : chgGood l s = true := by simp [chgGood, hA, hs]
    rw [hg, chgR_yes hg]
    clear hg
    rw [hA] at HA
    clear hA
    obtain ⟨i, hi, hz0, hz1, hz2⟩ := info_parts (show (Try.prog.info? 3).map (fun i => (i.zero, i.size, i.bytes)) = some (some (.int .i64 0), 1, 8) by kernel_rfl)
    go_enter Try.func19, Try.ntmps19
    go_wp2_with (first | (go_at_call 47; refine HA.out.mono ?_; rintro e w1 ⟨rfl, hb1⟩) | (go_at_call 48; refine (l20Sheet_c _ _).mono ?_; rintro e w' ⟨rfl, rfl⟩) | (go_at_call 49; refine (l2Day_c _ _).mono ?_; rintro e w' ⟨rfl, rfl⟩) | (go_at_call 56; refine (l1In_c _ _ _ _).mono ?_; rintro e w' ⟨rfl, rfl⟩))
    have hO : Own w1 w.heap.size 3 IntE.enc 1 _ (chgs l s 0) := (Own.empty w _ _ _ _ (Nat.le_refl _)).mono hb1
    have hb1 := btrans b0 hb1
    clear b0 HA
    go_loopw [6, 7] (fun v i wr => ∃ k : Nat, k ≤ 4000 ∧ i = .int .i64 ((k : Int) + 1) ∧ Hid (Own wr w.heap.size 3 IntE.enc 1 v (chgs l s k)) ∧ Below w.heap.size w wr) (fun _ i _ => (4001 - intOf i).toNat)
    case atStart => exact ⟨0, by omega, rfl, hO, hb1⟩
    case round =>
      obtain ⟨k, hk, rfl, ho, hb⟩ := hrel
      by_cases hlt : k < 4000
      · have hin := True.intro
        have hul := chgs_len l s k
        by_cases hc : trueN l s ((k : Int) + 1) = trueN l s (k : Int)
        · have hun := Lib.hid (chgs_no (show chgAt l s k = false by simp [chgAt, hc]))
          go_wp2_with (first | (go_at_call 50; refine (l20TrueN_c _ l _ _ _ (h.mono (by first | exact hb | exact bext hb hb.size _)) HT.out).mono ?_; rintro e w2 ⟨rfl, hb2⟩; obtain ⟨p2, rfl⟩ := ext_of_below hb2; clear hb2))
          go_roundw
          case rel => exact ⟨k + 1, by omega, congrArg (Value.int .i64) (by omega), by rw [hun.out]; exact ho.out.mono (by repeat' (first | exact Below.refl _ _ | with_reducible assumption | refine bext ?_ ?_ _ | refine Below.alloc ?_ ?_ _ | refine Below.setCell ?_ ?_ _ | refine Below.drew ?_ | (simp; done) | (have hbz := hb.size; first | omega | (simp; omega)) | (simp; omega) | omega)), (by repeat' (first | exact Below.refl _ _ | with_reducible assumption | refine bext ?_ ?_ _ | refine Below.alloc ?_ ?_ _ | refine Below.setCell ?_ ?_ _ | refine Below.drew ?_ | (simp; done) | (have hbz := hb.size; first | omega | (simp; omega)) | (simp; omega) | omega))⟩
          case measure => simp [intOf]; omega
        · have hun := Lib.hid (chgs_yes (show chgAt l s k = true by simp [chgAt, hc]))
          go_wp2_with (first | (go_at_call 50; refine (l20TrueN_c _ l _ _ _ (h.mono (by first | exact hb | exact bext hb hb.size _)) HT.out).mono ?_; rintro e w2 ⟨rfl, hb2⟩; obtain ⟨p2, rfl⟩ := ext_of_below hb2; clear hb2) | (at_builtin; refine wpList_push IntE.len IntE.one rfl _ _ 32 rfl w.heap.size 3 i _ 8 Try.underlying32 hi hz0 hz1 hz2 rfl (by omega) _ (chgs l s k) rfl (ho.out.mono (by repeat' (first | exact Below.refl _ _ | with_reducible assumption | refine bext ?_ ?_ _ | refine Below.alloc ?_ ?_ _ | refine Below.setCell ?_ ?_ _ | refine Below.drew ?_ | (simp; done) | (have hbz := hb.size; first | omega | (simp; omega)) | (simp; omega) | omega))) _ 1 ((k : Int) + 1) rfl (fun j u hu => new_cells _ [.int .i64 ((k : Int) + 1)] _ _ (by simp) j u hu) (by unfold maxLen; omega) (by omega) (by have := hb.size; simp; omega) ?_))
          intro v' w3 ho2 hg2
          have hb2 := below_push (lo := w.heap.size) (B := w.heap.size) (a := w) (by repeat' (first | exact Below.refl _ _ | with_reducible assumption | refine bext ?_ ?_ _ | refine Below.alloc ?_ ?_ _ | refine Below.setCell ?_ ?_ _ | refine Below.drew ?_ | (simp; done) | (have hbz := hb.size; first | omega | (simp; omega)) | (simp; omega) | omega)) (ho.out.mono (by repeat' (first | exact Below.refl _ _ | with_reducible assumption | refine bext ?_ ?_ _ | refine Below.alloc ?_ ?_ _ | refine Below.setCell ?_ ?_ _ | refine Below.drew ?_ | (simp; done) | (have hbz := hb.size; first | omega | (simp; omega)) | (simp; omega) | omega))) hg2 (Nat.le_refl _) (by have := hb.size; simp; omega)
          go_wp2_with fail
          go_roundw
          case rel => exact ⟨k + 1, by omega, congrArg (Value.int .i64) (by omega), by rw [hun.out]; exact ho2, hb2⟩
          case measure => simp [intOf]; omega
      · have hk4 := Lib.hid (show k = 4000 by omega)
        have hin := True.intro
        go_wp2_with (first | fail)
        go_ret2
        exact ⟨_, rfl, by rw [← hk4.out]; exact ho.out, hb⟩
  all_goals
    have hg : chgGood l s = false := by simp [chgGood, *]
    rw [hg, chgR_no hg]
    clear hg
    rw [hA] at HA
    clear hA
    go_enter Try.func19, Try.ntmps19
    go_wp2_with (first | (go_at_call 47; refine HA.out.mono ?_; rintro e w1 ⟨rfl, hb1⟩) | (go_at_call 48; refine (l20Sheet_c _ _).mono ?_; rintro e w' ⟨rfl, rfl⟩) | (go_at_call 49; refine (l2Day_c _ _).mono ?_; rintro e w' ⟨rfl, rfl⟩) | (go_at_call 56; refine (l1In_c _ _ _ _).mono ?_; rintro e w' ⟨rfl, rfl⟩))
    go_ret2
    exact ⟨_, rfl, (Own.empty w _ _ _ _ (Nat.le_refl _)).mono hb1, btrans b0 hb1⟩
end Go.Proofs.Ytcnbmephffphgaa
