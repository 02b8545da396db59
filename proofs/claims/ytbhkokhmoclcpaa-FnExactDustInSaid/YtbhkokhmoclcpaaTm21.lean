/- Chests: the map on top, the maps above one, the steps to open: by the program and by the reference. No condition but what a slice may hold. -/
import Derived.Test.YtbhkokhmoclcpaaSg21
namespace Go.Proofs.Ytbhkokhmoclcpaa
open Go.RowKit
def topB (c : Cst) (l : List Int) : Bool := areCh c l && decide (0 < l.length)
def topN (c : Cst) (l : List Int) : Int := if topB c l then gd l (l.length - 1) else 0
def aboveB (c : Cst) (l : List Int) (n : Int) : Bool := areCh c l && (findTo (fun i => gd l i == n) l.length).isSome
def aboveN (c : Cst) (l : List Int) (n : Int) : Int := if aboveB c l n then (l.length : Int) - 1 - idxInt (findTo (fun i => gd l i == n) l.length) else 0
def openN (c : Cst) (l : List Int) : Int := if areCh c l then (if c.st = 1 then 0 else if c.st = 0 then 1 else 2) else 0
theorem areCh_st {c : Cst} {l : List Int} (h : areCh c l = true) : c.st = 0 ∨ c.st = 1 ∨ c.st = 2 := by
  simp only [areCh, tailB, Bool.and_eq_true] at h
  have := inB_iff.1 h.2.1.1.1.1.1.1
  omega
theorem ret_nb {a c : Int} {b d : Bool} (h : a = c) (h' : b = d) : Ending.returned (.tuple #[.int .i64 a, .bool b]) = .returned (.tuple #[.int .i64 c, .bool d]) := by rw [h, h']
set_option maxHeartbeats 1000000 in
theorem specTopMap_c (c : Cst) (v : Value) (l : List Int) (w : World) (h : Sl w IntE.enc 1 v l) : Calls Try.prog 13 #[cval c v] w fun e w' => e = .returned (.tuple #[.int .i64 (topN c l), .bool (topB c l)]) ∧ Below w.heap.size w w' := by
  have H := fun w h => l21Good_c c v l w h
  have h0 := Lib.hid h
  obtain ⟨a, cap, b, off, rfl, hlc, hm, hc⟩ := h
  unfold maxLen at hm
  unfold cval at H ⊢
  by_cases hl : 0 < l.length
  · obtain ⟨ha, hbw, c0⟩ := IntE.at hc (l.length - 1) (by omega)
    subst ha
    have hcast : ((l.length - 1 : Nat) : Int) = (l.length : Int) - 1 := by omega
    cases hd : areCh c l
    all_goals
      have hB : Hid (topB c l = _) := (show topB c l = (_ && _) by rw [topB, hd])
      have hN : Hid (topN c l = if topB c l then _ else _) := rfl
      rw [hd] at H
      replace H := Lib.hid H
      clear hd
      go_enter Try.func13, Try.ntmps13
      go_wp2_with (go_at_call 22; refine (H.out _ (h0.out.mono (below_alloc _ _))).mono ?_; rintro e w' ⟨rfl, hbq⟩; obtain ⟨p, rfl⟩ := ext_of_below hbq; clear hbq)
      all_goals go_returns
      all_goals refine ⟨ret_nb ?_ ?_, bext (below_alloc _ _) (by simp) _⟩
      all_goals (first | rw [hN.out, hB.out] | rw [hB.out])
      all_goals simp_all
  · obtain rfl := List.eq_nil_of_length_eq_zero (show l.length = 0 by omega)
    cases hd : areCh c []
    all_goals
      have hB : Hid (topB c [] = false) := (show topB c [] = false by simp [topB])
      have hN : Hid (topN c [] = if topB c [] then _ else _) := rfl
      rw [hd] at H
      replace H := Lib.hid H
      clear hd
      go_enter Try.func13, Try.ntmps13
      go_wp2_with (go_at_call 22; refine (H.out _ (h0.out.mono (below_alloc _ _))).mono ?_; rintro e w' ⟨rfl, hbq⟩; obtain ⟨p, rfl⟩ := ext_of_below hbq; clear hbq)
      all_goals go_returns
      all_goals refine ⟨ret_nb ?_ ?_, bext (below_alloc _ _) (by simp) _⟩
      all_goals (first | rw [hN.out, hB.out] | rw [hB.out])
      all_goals simp_all
set_option maxHeartbeats 1000000 in
theorem specMapsAbove_c (c : Cst) (v : Value) (l : List Int) (n : Int) (w : World) (h : Sl w IntE.enc 1 v l) : Calls Try.prog 15 #[cval c v, .int .i64 n] w fun e w' => e = .returned (.tuple #[.int .i64 (aboveN c l n), .bool (aboveB c l n)]) ∧ Below w.heap.size w w' := by
  have H := fun w h => l21Good_c c v l w h
  have G := fun w h => l21Find_c v l n w h
  have h0 := Lib.hid h
  obtain ⟨a, cap, b, off, rfl, hlc, hm, hc⟩ := h
  unfold maxLen at hm
  unfold cval at H ⊢
  have hf : ∀ k, findTo (fun i => gd l i == n) l.length = some k → k < l.length := fun k hk => (findTo_spec hk).1
  have hB : Hid (aboveB c l n = (areCh c l && (findTo (fun i => gd l i == n) l.length).isSome)) := rfl
  have hN : Hid (aboveN c l n = if aboveB c l n then (l.length : Int) - 1 - idxInt (findTo (fun i => gd l i == n) l.length) else 0) := rfl
  cases hd : areCh c l
  all_goals
    rw [hd] at H hB
    replace H := Lib.hid H
    clear hd
    cases hk : findTo (fun i => gd l i == n) l.length
    all_goals
      rw [hk] at G hN hB
      simp only [idxInt] at G
      try have hkl := hf _ hk
      replace G := Lib.hid G
      clear hk
      go_enter Try.func15, Try.ntmps15
      go_wp2_with (first | (go_at_call 30; refine (G.out _ (h0.out.mono (below_alloc _ _))).mono ?_; rintro e w' ⟨rfl, rfl⟩) | (go_at_call 22; refine (H.out _ (h0.out.mono (below_alloc _ _))).mono ?_; rintro e w' ⟨rfl, hbq⟩; obtain ⟨p, rfl⟩ := ext_of_below hbq; clear hbq))
      all_goals go_returns
      all_goals refine ⟨ret_nb ?_ ?_, bext (below_alloc _ _) (by simp) _⟩
      all_goals (first | rw [hN.out, hB.out] | rw [hB.out])
      all_goals simp_all [idxInt]
set_option maxHeartbeats 1000000 in
theorem specStepsToOpen_c (c : Cst) (v : Value) (l : List Int) (w : World) (h : Sl w IntE.enc 1 v l) : Calls Try.prog 17 #[cval c v] w fun e w' => e = .returned (.tuple #[.int .i64 (openN c l), .bool (areCh c l)]) ∧ Below w.heap.size w w' := by
  have H := fun w h => l21Good_c c v l w h
  have h0 := Lib.hid h
  obtain ⟨a, cap, b, off, rfl, hlc, hm, hc⟩ := h
  unfold maxLen at hm
  have hN : Hid (openN c l = if areCh c l then (if c.st = 1 then 0 else if c.st = 0 then 1 else 2) else 0) := rfl
  unfold cval at H ⊢
  cases hd : areCh c l
  case false =>
    rw [hd] at H hN
    replace H := Lib.hid H
    clear hd
    go_enter Try.func17, Try.ntmps17
    go_wp2_with (go_at_call 22; refine (H.out _ (h0.out.mono (below_alloc _ _))).mono ?_; rintro e w' ⟨rfl, hbq⟩; obtain ⟨p, rfl⟩ := ext_of_below hbq; clear hbq)
    go_returns
    exact ⟨ret_nb (by rw [hN.out]; rfl) rfl, by first | exact bext (below_alloc _ _) (by simp) _ | (go_grown; all_goals first | exact bext (below_alloc _ _) (by simp) _ | simp)⟩
  case true =>
    have hst := areCh_st hd
    rw [hd] at H hN
    rcases hst with e | e | e
    all_goals
      rw [e] at H hN
      rw [e]
      replace H := Lib.hid H
      clear hd
      go_enter Try.func17, Try.ntmps17
      go_wp2_with (go_at_call 22; refine (H.out _ (h0.out.mono (below_alloc _ _))).mono ?_; rintro e w' ⟨rfl, hbq⟩; obtain ⟨p, rfl⟩ := ext_of_below hbq; clear hbq)
      go_returns
      exact ⟨ret_nb (by rw [hN.out]; simp) rfl, by first | exact bext (below_alloc _ _) (by simp) _ | (go_grown; all_goals first | exact bext (below_alloc _ _) (by simp) _ | simp)⟩
set_option maxHeartbeats 1000000 in
theorem topMap_c (c : Cst) (v : Value) (l : List Int) (w : World) (h : Sl w IntE.enc 1 v l) : Calls Try.prog 14 #[cval c v] w fun e w' => e = .returned (.tuple #[.int .i64 (topN c l), .bool (topB c l)]) ∧ Below w.heap.size w w' := by
  have H := fun w h => isChest_c c v l w h
  have h0 := Lib.hid h
  obtain ⟨a, cap, b, off, rfl, hlc, hm, hc⟩ := h
  unfold maxLen at hm
  unfold cval at H ⊢
  by_cases hl : 0 < l.length
  · obtain ⟨ha, hbw, c0⟩ := IntE.at hc (l.length - 1) (by omega)
    subst ha
    have hcast : ((l.length - 1 : Nat) : Int) = (l.length : Int) - 1 := by omega
    cases hd : areCh c l
    all_goals
      have hB : Hid (topB c l = _) := (show topB c l = (_ && _) by rw [topB, hd])
      have hN : Hid (topN c l = if topB c l then _ else _) := rfl
      rw [hd] at H
      replace H := Lib.hid H
      clear hd
      go_enter Try.func14, Try.ntmps14
      go_wp2_with (go_at_call 11; refine (H.out _ (h0.out.mono (below_alloc _ _))).mono ?_; rintro e w' ⟨rfl, hbq⟩; obtain ⟨p, rfl⟩ := ext_of_below hbq; clear hbq)
      all_goals go_returns
      all_goals refine ⟨ret_nb ?_ ?_, bext (below_alloc _ _) (by simp) _⟩
      all_goals (first | rw [hN.out, hB.out] | rw [hB.out])
      all_goals simp_all
  · obtain rfl := List.eq_nil_of_length_eq_zero (show l.length = 0 by omega)
    cases hd : areCh c []
    all_goals
      have hB : Hid (topB c [] = false) := (show topB c [] = false by simp [topB])
      have hN : Hid (topN c [] = if topB c [] then _ else _) := rfl
      rw [hd] at H
      replace H := Lib.hid H
      clear hd
      go_enter Try.func14, Try.ntmps14
      go_wp2_with (go_at_call 11; refine (H.out _ (h0.out.mono (below_alloc _ _))).mono ?_; rintro e w' ⟨rfl, hbq⟩; obtain ⟨p, rfl⟩ := ext_of_below hbq; clear hbq)
      all_goals go_returns
      all_goals refine ⟨ret_nb ?_ ?_, bext (below_alloc _ _) (by simp) _⟩
      all_goals (first | rw [hN.out, hB.out] | rw [hB.out])
      all_goals simp_all
set_option maxHeartbeats 1000000 in
theorem mapsAbove_c (c : Cst) (v : Value) (l : List Int) (n : Int) (w : World) (h : Sl w IntE.enc 1 v l) : Calls Try.prog 16 #[cval c v, .int .i64 n] w fun e w' => e = .returned (.tuple #[.int .i64 (aboveN c l n), .bool (aboveB c l n)]) ∧ Below w.heap.size w w' := by
  have H := fun w h => isChest_c c v l w h
  have G := fun w h => index_c v l n w h
  have h0 := Lib.hid h
  obtain ⟨a, cap, b, off, rfl, hlc, hm, hc⟩ := h
  unfold maxLen at hm
  unfold cval at H ⊢
  have hf : ∀ k, findTo (fun i => gd l i == n) l.length = some k → k < l.length := fun k hk => (findTo_spec hk).1
  have hB : Hid (aboveB c l n = (areCh c l && (findTo (fun i => gd l i == n) l.length).isSome)) := rfl
  have hN : Hid (aboveN c l n = if aboveB c l n then (l.length : Int) - 1 - idxInt (findTo (fun i => gd l i == n) l.length) else 0) := rfl
  cases hd : areCh c l
  all_goals
    rw [hd] at H hB
    replace H := Lib.hid H
    clear hd
    cases hk : findTo (fun i => gd l i == n) l.length
    all_goals
      rw [hk] at G hN hB
      simp only [idxInt] at G
      try have hkl := hf _ hk
      replace G := Lib.hid G
      clear hk
      go_enter Try.func16, Try.ntmps16
      go_wp2_with (first | (go_at_call 31; refine (G.out _ (h0.out.mono (below_alloc _ _))).mono ?_; rintro e w' ⟨rfl, rfl⟩) | (go_at_call 11; refine (H.out _ (h0.out.mono (below_alloc _ _))).mono ?_; rintro e w' ⟨rfl, hbq⟩; obtain ⟨p, rfl⟩ := ext_of_below hbq; clear hbq))
      all_goals go_returns
      all_goals refine ⟨ret_nb ?_ ?_, bext (below_alloc _ _) (by simp) _⟩
      all_goals (first | rw [hN.out, hB.out] | rw [hB.out])
      all_goals simp_all [idxInt]
set_option maxHeartbeats 1000000 in
theorem stepsToOpen_c (c : Cst) (v : Value) (l : List Int) (w : World) (h : Sl w IntE.enc 1 v l) : Calls Try.prog 18 #[cval c v] w fun e w' => e = .returned (.tuple #[.int .i64 (openN c l), .bool (areCh c l)]) ∧ Below w.heap.size w w' := by
  have H := fun w h => isChest_c c v l w h
  have h0 := Lib.hid h
  obtain ⟨a, cap, b, off, rfl, hlc, hm, hc⟩ := h
  unfold maxLen at hm
  have hN : Hid (openN c l = if areCh c l then (if c.st = 1 then 0 else if c.st = 0 then 1 else 2) else 0) := rfl
  unfold cval at H ⊢
  cases hd : areCh c l
  case false =>
    rw [hd] at H hN
    replace H := Lib.hid H
    clear hd
    go_enter Try.func18, Try.ntmps18
    go_wp2_with (go_at_call 11; refine (H.out _ (h0.out.mono (below_alloc _ _))).mono ?_; rintro e w' ⟨rfl, hbq⟩; obtain ⟨p, rfl⟩ := ext_of_below hbq; clear hbq)
    go_returns
    exact ⟨ret_nb (by rw [hN.out]; rfl) rfl, by first | exact bext (below_alloc _ _) (by simp) _ | (go_grown; all_goals first | exact bext (below_alloc _ _) (by simp) _ | simp)⟩
  case true =>
    have hst := areCh_st hd
    rw [hd] at H hN
    rcases hst with e | e | e
    all_goals
      rw [e] at H hN
      rw [e]
      replace H := Lib.hid H
      clear hd
      go_enter Try.func18, Try.ntmps18
      go_wp2_with (go_at_call 11; refine (H.out _ (h0.out.mono (below_alloc _ _))).mono ?_; rintro e w' ⟨rfl, hbq⟩; obtain ⟨p, rfl⟩ := ext_of_below hbq; clear hbq)
      go_returns
      exact ⟨ret_nb (by rw [hN.out]; simp) rfl, by first | exact bext (below_alloc _ _) (by simp) _ | (go_grown; all_goals first | exact bext (below_alloc _ _) (by simp) _ | simp)⟩
end Go.Proofs.Ytbhkokhmoclcpaa
