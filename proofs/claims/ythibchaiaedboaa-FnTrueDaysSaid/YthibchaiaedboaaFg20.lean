/- Issues: the true issue, the first gap, the days of change: by the program and by the reference. No condition but what a slice may hold. -/
import Derived.Test.YthibchaiaedboaaTr20
namespace Go.Proofs.Ythibchaiaedboaa
open Go.RowKit
theorem ret_sl_bool {v : Value} {b d : Bool} (h : b = d) : Ending.returned (.tuple #[v, .bool b]) = .returned (.tuple #[v, .bool d]) := by rw [h]

set_option maxHeartbeats 1000000 in
theorem trueIssue_c (v : Value) (l : List Iss) (s d : Int) (w : World) (h : Sl w Iss.enc 4 v l) : Calls Try.prog 24 #[v, .int .i64 s, .int .i64 d] w fun e w' => e = .returned (.tuple #[.int .i64 (trueI l s d), .bool (decide (0 < trueI l s d))]) ∧ Below w.heap.size w w' := by
  have HA := Lib.hid (areIssues_c v l w h)
  cases hA : areIss l
  case' true =>
    have HT := Lib.hid hA
    cases hs : inB s 1 999
    case' true => cases hd : inB d 0 4000
  case' true.true.true =>
    have hg := Lib.hid (trueI_yes (show sdGood l s d = true by simp [sdGood, hA, hs, hd]))
    rw [hA] at HA
    clear hA
    go_enter Try.func24, Try.ntmps24
    go_wp2_with (first | (go_at_call 100; refine HA.out.mono ?_; rintro e w1 ⟨rfl, hb1⟩) | (go_at_call 110; refine (isId_c _ _).mono ?_; rintro e w' ⟨rfl, rfl⟩) | (go_at_call 111; refine (isDay_c _ _).mono ?_; rintro e w' ⟨rfl, rfl⟩) | (go_at_call 112; refine (trueOn_c _ l _ _ _ (h.mono hb1)).mono ?_; rintro e w2 ⟨rfl, hb2⟩))
    go_ret2
    exact ⟨ret_int_bool hg.out.symm (by rw [hg.out]), btrans hb1 hb2⟩
  all_goals
    have hg := Lib.hid (trueI_no (show sdGood l s d = false by simp [sdGood, *]))
    rw [hA] at HA
    clear hA
    go_enter Try.func24, Try.ntmps24
    go_wp2_with (first | (go_at_call 100; refine HA.out.mono ?_; rintro e w1 ⟨rfl, hb1⟩) | (go_at_call 110; refine (isId_c _ _).mono ?_; rintro e w' ⟨rfl, rfl⟩) | (go_at_call 111; refine (isDay_c _ _).mono ?_; rintro e w' ⟨rfl, rfl⟩))
    go_ret2
    exact ⟨ret_int_bool hg.out.symm (by rw [hg.out]; rfl), hb1⟩
set_option maxHeartbeats 1000000 in
set_option maxRecDepth 20000 in
theorem changesOf_c (v : Value) (l : List Iss) (s : Int) (w : World) (h : Sl w Iss.enc 4 v l) : Calls Try.prog 28 #[v, .int .i64 s] w (RetSlB w 3 IntE.enc 1 (chgR l s) (chgGood l s)) := by
  have b0 : Below w.heap.size w w := Below.refl _ _
  have HA := Lib.hid (areIssues_c v l w h)
  cases hA : areIss l
  case' true =>
    have HT := Lib.hid hA
    cases hs : inB s 1 999
  case' true.true =>
    have hg : chgGood l s = true := by simp [chgGood, hA, hs]
    rw [hg, chgR_yes hg]
    clear hg
    rw [hA] at HA
    clear hA
    obtain ⟨i, hi, hz0, hz1, hz2⟩ := info_parts (show (Try.prog.info? 3).map (fun i => (i.zero, i.size, i.bytes)) = some (some (.int .i64 0), 1, 8) by kernel_rfl)
    go_enter Try.func28, Try.ntmps28
    go_wp2_with (first | (go_at_call 100; refine HA.out.mono ?_; rintro e w1 ⟨rfl, hb1⟩) | (go_at_call 110; refine (isId_c _ _).mono ?_; rintro e w' ⟨rfl, rfl⟩) | (go_at_call 111; refine (isDay_c _ _).mono ?_; rintro e w' ⟨rfl, rfl⟩))
    have hO : Own w1 w.heap.size 3 IntE.enc 1 _ (chgs l s 0) := Own.nil _ _ _ _ _
    have hb1 := btrans b0 hb1
    clear b0 HA
    go_loopw [6, 7] (fun v i wr => ∃ k : Nat, k ≤ 4000 ∧ i = .int .i64 ((k : Int) + 1) ∧ Hid (Own wr w.heap.size 3 IntE.enc 1 v (chgs l s k)) ∧ Below w.heap.size w wr) (fun _ i _ => (4001 - intOf i).toNat)
    case atStart => exact ⟨0, by omega, rfl, hO, hb1⟩
    case round =>
      obtain ⟨k, hk, rfl, ho, hb⟩ := hrel
      by_cases hlt : k < 4000
      · have hin : inB ((k : Int) + 1) 0 4000 = true := inB_iff.2 ⟨by omega, by omega⟩
        have hul := chgs_len l s k
        by_cases hc : trueN l s ((k : Int) + 1) = trueN l s (k : Int)
        · have hun := Lib.hid (chgs_no (show chgAt l s k = false by simp [chgAt, hc]))
          go_wp2_with (first | (go_at_call 112; refine (trueOn_c _ l _ _ _ (h.mono (by first | exact hb | exact bext hb hb.size _))).mono ?_; rintro e w2 ⟨rfl, hb2⟩; obtain ⟨p2, rfl⟩ := ext_of_below hb2; clear hb2) | (go_at_call 111; refine (isDay_c _ _).mono ?_; rintro e w' ⟨rfl, rfl⟩))
          go_roundw
          case rel => exact ⟨k + 1, by omega, congrArg (Value.int .i64) (by omega), by rw [hun.out]; exact ho.out.mono (by repeat' (first | exact Below.refl _ _ | with_reducible assumption | refine bext ?_ ?_ _ | refine Below.alloc ?_ ?_ _ | refine Below.setCell ?_ ?_ _ | refine Below.drew ?_ | (simp; done) | (have hbz := hb.size; first | omega | (simp; omega)) | (simp; omega) | omega)), (by repeat' (first | exact Below.refl _ _ | with_reducible assumption | refine bext ?_ ?_ _ | refine Below.alloc ?_ ?_ _ | refine Below.setCell ?_ ?_ _ | refine Below.drew ?_ | (simp; done) | (have hbz := hb.size; first | omega | (simp; omega)) | (simp; omega) | omega))⟩
          case measure => simp [intOf]; omega
        · have hun := Lib.hid (chgs_yes (show chgAt l s k = true by simp [chgAt, hc]))
          go_wp2_with (first | (go_at_call 112; refine (trueOn_c _ l _ _ _ (h.mono (by first | exact hb | exact bext hb hb.size _))).mono ?_; rintro e w2 ⟨rfl, hb2⟩; obtain ⟨p2, rfl⟩ := ext_of_below hb2; clear hb2) | (go_at_call 111; refine (isDay_c _ _).mono ?_; rintro e w' ⟨rfl, rfl⟩) | (at_builtin; refine wpList_push IntE.len IntE.one rfl _ _ 49 rfl w.heap.size 3 i _ 8 Try.underlying49 hi hz0 hz1 hz2 rfl (by omega) _ (chgs l s k) rfl (ho.out.mono (by repeat' (first | exact Below.refl _ _ | with_reducible assumption | refine bext ?_ ?_ _ | refine Below.alloc ?_ ?_ _ | refine Below.setCell ?_ ?_ _ | refine Below.drew ?_ | (simp; done) | (have hbz := hb.size; first | omega | (simp; omega)) | (simp; omega) | omega))) _ 1 ((k : Int) + 1) rfl (fun j u hu => new_cells _ [.int .i64 ((k : Int) + 1)] _ _ (by simp) j u hu) (by unfold maxLen; omega) (by omega) (by have := hb.size; simp; omega) ?_))
          intro v' w3 ho2 hg2
          have hb2 := below_push (lo := w.heap.size) (B := w.heap.size) (a := w) (by repeat' (first | exact Below.refl _ _ | with_reducible assumption | refine bext ?_ ?_ _ | refine Below.alloc ?_ ?_ _ | refine Below.setCell ?_ ?_ _ | refine Below.drew ?_ | (simp; done) | (have hbz := hb.size; first | omega | (simp; omega)) | (simp; omega) | omega)) (ho.out.mono (by repeat' (first | exact Below.refl _ _ | with_reducible assumption | refine bext ?_ ?_ _ | refine Below.alloc ?_ ?_ _ | refine Below.setCell ?_ ?_ _ | refine Below.drew ?_ | (simp; done) | (have hbz := hb.size; first | omega | (simp; omega)) | (simp; omega) | omega))) hg2 (Nat.le_refl _) (by have := hb.size; simp; omega)
          go_wp2_with fail
          go_roundw
          case rel => exact ⟨k + 1, by omega, congrArg (Value.int .i64) (by omega), by rw [hun.out]; exact ho2, hb2⟩
          case measure => simp [intOf]; omega
      · have hk4 := Lib.hid (show k = 4000 by omega)
        have hin : inB ((k : Int) + 1) 0 4000 = false := by rw [Bool.eq_false_iff]; intro hx; have := inB_iff.1 hx; omega
        go_wp2_with (first | fail | (go_at_call 111; refine (isDay_c _ _).mono ?_; rintro e w' ⟨rfl, rfl⟩))
        go_ret2
        exact ⟨_, rfl, by rw [← hk4.out]; exact ho.out, hb⟩
  all_goals
    have hg : chgGood l s = false := by simp [chgGood, *]
    rw [hg, chgR_no hg]
    clear hg
    rw [hA] at HA
    clear hA
    go_enter Try.func28, Try.ntmps28
    go_wp2_with (first | (go_at_call 100; refine HA.out.mono ?_; rintro e w1 ⟨rfl, hb1⟩) | (go_at_call 110; refine (isId_c _ _).mono ?_; rintro e w' ⟨rfl, rfl⟩) | (go_at_call 111; refine (isDay_c _ _).mono ?_; rintro e w' ⟨rfl, rfl⟩))
    go_ret2
    exact ⟨_, rfl, Own.nil _ _ _ _ _, btrans b0 hb1⟩
set_option maxHeartbeats 1000000 in
set_option maxRecDepth 20000 in
theorem specChangesOf_c (v : Value) (l : List Iss) (s : Int) (w : World) (h : Sl w Iss.enc 4 v l) : Calls Try.prog 29 #[v, .int .i64 s] w (RetSlB w 3 IntE.enc 1 (chgR l s) (chgGood l s)) := by
  have b0 : Below w.heap.size w (w.alloc (.cells #[] 3)) := below_alloc _ _
  have HA := Lib.hid (l20Good_c v l _ (h.mono b0))
  cases hA : areIss l
  case' true =>
    have HT := Lib.hid hA
    cases hs : inB s 1 999
  case' true.true =>
    have hg : chgGood l s = true := by simp [chgGood, hA, hs]
    rw [hg, chgR_yes hg]
    clear hg
    rw [hA] at HA
    clear hA
    obtain ⟨i, hi, hz0, hz1, hz2⟩ := info_parts (show (Try.prog.info? 3).map (fun i => (i.zero, i.size, i.bytes)) = some (some (.int .i64 0), 1, 8) by kernel_rfl)
    go_enter Try.func29, Try.ntmps29
    go_wp2_with (first | (go_at_call 98; refine HA.out.mono ?_; rintro e w1 ⟨rfl, hb1⟩) | (go_at_call 115; refine (l20Sheet_c _ _).mono ?_; rintro e w' ⟨rfl, rfl⟩) | (go_at_call 176; refine (l2Day_c _ _).mono ?_; rintro e w' ⟨rfl, rfl⟩) | (go_at_call 119; refine (l1In_c _ _ _ _).mono ?_; rintro e w' ⟨rfl, rfl⟩))
    have hO : Own w1 w.heap.size 3 IntE.enc 1 _ (chgs l s 0) := (Own.empty w _ _ _ _ (Nat.le_refl _)).mono hb1
    have hb1 := btrans b0 hb1
    clear b0 HA
    go_loopw [6, 7] (fun v i wr => ∃ k : Nat, k ≤ 4000 ∧ i = .int .i64 ((k : Int) + 1) ∧ Hid (Own wr w.heap.size 3 IntE.enc 1 v (chgs l s k)) ∧ Below w.heap.size w wr) (fun _ i _ => (4001 - intOf i).toNat)
    case atStart => exact ⟨0, by omega, rfl, hO, hb1⟩
    case round =>
      obtain ⟨k, hk, rfl, ho, hb⟩ := hrel
      by_cases hlt : k < 4000
      · have hin := True.intro
        have hul := chgs_len l s k
        by_cases hc : trueN l s ((k : Int) + 1) = trueN l s (k : Int)
        · have hun := Lib.hid (chgs_no (show chgAt l s k = false by simp [chgAt, hc]))
          go_wp2_with (first | (go_at_call 116; refine (l20TrueN_c _ l _ _ _ (h.mono (by first | exact hb | exact bext hb hb.size _)) HT.out).mono ?_; rintro e w2 ⟨rfl, hb2⟩; obtain ⟨p2, rfl⟩ := ext_of_below hb2; clear hb2))
          go_roundw
          case rel => exact ⟨k + 1, by omega, congrArg (Value.int .i64) (by omega), by rw [hun.out]; exact ho.out.mono (by repeat' (first | exact Below.refl _ _ | with_reducible assumption | refine bext ?_ ?_ _ | refine Below.alloc ?_ ?_ _ | refine Below.setCell ?_ ?_ _ | refine Below.drew ?_ | (simp; done) | (have hbz := hb.size; first | omega | (simp; omega)) | (simp; omega) | omega)), (by repeat' (first | exact Below.refl _ _ | with_reducible assumption | refine bext ?_ ?_ _ | refine Below.alloc ?_ ?_ _ | refine Below.setCell ?_ ?_ _ | refine Below.drew ?_ | (simp; done) | (have hbz := hb.size; first | omega | (simp; omega)) | (simp; omega) | omega))⟩
          case measure => simp [intOf]; omega
        · have hun := Lib.hid (chgs_yes (show chgAt l s k = true by simp [chgAt, hc]))
          go_wp2_with (first | (go_at_call 116; refine (l20TrueN_c _ l _ _ _ (h.mono (by first | exact hb | exact bext hb hb.size _)) HT.out).mono ?_; rintro e w2 ⟨rfl, hb2⟩; obtain ⟨p2, rfl⟩ := ext_of_below hb2; clear hb2) | (at_builtin; refine wpList_push IntE.len IntE.one rfl _ _ 49 rfl w.heap.size 3 i _ 8 Try.underlying49 hi hz0 hz1 hz2 rfl (by omega) _ (chgs l s k) rfl (ho.out.mono (by repeat' (first | exact Below.refl _ _ | with_reducible assumption | refine bext ?_ ?_ _ | refine Below.alloc ?_ ?_ _ | refine Below.setCell ?_ ?_ _ | refine Below.drew ?_ | (simp; done) | (have hbz := hb.size; first | omega | (simp; omega)) | (simp; omega) | omega))) _ 1 ((k : Int) + 1) rfl (fun j u hu => new_cells _ [.int .i64 ((k : Int) + 1)] _ _ (by simp) j u hu) (by unfold maxLen; omega) (by omega) (by have := hb.size; simp; omega) ?_))
          intro v' w3 ho2 hg2
          have hb2 := below_push (lo := w.heap.size) (B := w.heap.size) (a := w) (by repeat' (first | exact Below.refl _ _ | with_reducible assumption | refine bext ?_ ?_ _ | refine Below.alloc ?_ ?_ _ | refine Below.setCell ?_ ?_ _ | refine Below.drew ?_ | (simp; done) | (have hbz := hb.size; first | omega | (simp; omega)) | (simp; omega) | omega)) (ho.out.mono (by repeat' (first | exact Below.refl _ _ | with_reducible assumption | refine bext ?_ ?_ _ | refine Below.alloc ?_ ?_ _ | refine Below.setCell ?_ ?_ _ | refine Below.drew ?_ | (simp; done) | (have hbz := hb.size; first | omega | (simp; omega)) | (simp; omega) | omega))) hg2 (Nat.le_refl _) (by have := hb.size; simp; omega)
          go_wp2_with fail
          go_roundw
          case rel => exact ⟨k + 1, by omega, congrArg (Value.int .i64) (by omega), by rw [hun.out]; exact ho2, hb2⟩
          case measure => simp [intOf]; omega
      · have hk4 := Lib.hid (show k = 4000 by omega)
        have hin := True.intro
        go_wp2_with (first | fail)
        go_ret2
        exact ⟨_, rfl, by rw [← hk4.out]; exact ho.out, hb⟩
  all_goals
    have hg : chgGood l s = false := by simp [chgGood, *]
    rw [hg, chgR_no hg]
    clear hg
    rw [hA] at HA
    clear hA
    go_enter Try.func29, Try.ntmps29
    go_wp2_with (first | (go_at_call 98; refine HA.out.mono ?_; rintro e w1 ⟨rfl, hb1⟩) | (go_at_call 115; refine (l20Sheet_c _ _).mono ?_; rintro e w' ⟨rfl, rfl⟩) | (go_at_call 176; refine (l2Day_c _ _).mono ?_; rintro e w' ⟨rfl, rfl⟩) | (go_at_call 119; refine (l1In_c _ _ _ _).mono ?_; rintro e w' ⟨rfl, rfl⟩))
    go_ret2
    exact ⟨_, rfl, (Own.empty w _ _ _ _ (Nat.le_refl _)).mono hb1, btrans b0 hb1⟩
end Go.Proofs.Ythibchaiaedboaa
