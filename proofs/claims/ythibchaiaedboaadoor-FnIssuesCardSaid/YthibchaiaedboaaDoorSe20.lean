/- Issues: where an issue stands, by the program (a binary search) and by the reference; a copy of a list. No condition but what a slice may hold. -/
import Derived.Test.YthibchaiaedboaaDoorTr20
import Derived.Test.YthibchaiaedboaaDoorTp20
import Derived.Test.YthibchaiaedboaaDoorCat
import Derived.Lib.SliceRun
import Derived.Outline
namespace Go.Proofs.YthibchaiaedboaaDoor
open Go.RowKit
theorem Iss.one (x : Iss) : ∀ u ∈ x.enc, u.oneCell' = true := by intro u hu; simp [Iss.enc] at hu; rcases hu with rfl | rfl | rfl | rfl <;> rfl
set_option maxHeartbeats 1000000 in
theorem cloneIssue_c (v : Value) (l : List Iss) (w : World) (h : Sl w Iss.enc 4 v l) (hl : l.length ≤ 1048576) : Calls Tryd.prog 67 #[v] w (RetOwn w 41 Iss.enc 4 l) := by
  obtain ⟨i, hi, hz0, hz1, hz2⟩ := info_parts (show (Tryd.prog.info? 41).map (fun i => (i.zero, i.size, i.bytes)) = some (some (.agg #[.int .i64 0, .int .i64 0, .int .i64 0, .int .i64 0]), 4, 32) by kernel_rfl)
  have hq : ∀ (w : World) (a : Option Addr) (n c n' c' : Nat), (binOp .eql 24 (.slice a n c) (.slice none n' c')).run Tryd.prog w = .ok (.bool a.isNone) w := fun w a n c n' c' => Lib.run_eql_slice_nil w _ _ a n c n' c' Tryd.underlying24
  have h0 := h
  obtain ⟨a, cap, b, off, rfl, hlc, hm, hc⟩ := h0
  rcases a with _ | a
  · have hl0 : l = [] := by
      cases l with
      | nil => rfl
      | cons x l => have := (hc 0 (by simp)).1; cases this
    subst hl0
    go_enter Tryd.func67, Tryd.ntmps67
    go_wp2_with fail
    go_ret
    exact ⟨_, rfl, Own.nil _ _ _ _ _, Below.refl _ _⟩
  · go_enter Tryd.func67, Tryd.ntmps67
    go_wp2_with (at_builtin; refine wpList_cat Iss.len Iss.one rfl _ _ 24 rfl w.heap.size 41 i _ 32 Tryd.underlying24 hi hz0 hz1 hz2 rfl (by omega) _ [] rfl (Own.empty w _ _ _ _ (Nat.le_refl _)) _ l rfl (h.mono (below_alloc _ _)) (by simp [maxLen]; omega) (by simp; omega) (by simp) ?_)
    intro v' w' h2 h3
    go_wp2_with fail
    go_ret
    exact ⟨v', rfl, by simpa using h2, (below_alloc _ _).grown h3 (by simp) (fun g hg => (Own.empty w w.heap.size 41 Iss.enc 4 (Nat.le_refl _)).bounds g hg |>.1)⟩
/-- a binary search among issues: a place and whether it is hit -/
def SearchRet (l : List Iss) (t : Iss) (w : World) (e : Ending) (w' : World) : Prop := ∃ k : Nat, searchAt l t k ∧ e = .returned (.tuple #[.int .i64 k, .bool (searchHit l t k)]) ∧ Below w.heap.size w w'
set_option maxHeartbeats 2000000 in
theorem searchIssue_c (v : Value) (l : List Iss) (t : Iss) (w : World) (h : Sl w Iss.enc 4 v l) (hl : l.length ≤ 1048576) :
    Calls Tryd.prog 108 #[v, .agg #[.int .i64 t.s, .int .i64 t.n, .int .i64 t.fr, .int .i64 t.un], .func (.func 59) #[] #[]] w (SearchRet l t w) := by
  obtain ⟨a, cap, b, off, rfl, hlc, hm, hc⟩ := h
  unfold maxLen at hm
  go_enter Tryd.func108, Tryd.ntmps108
  go_wp2_with fail
  refine wpAt fun W0 e0 => ?_
  have B0 : Below w.heap.size w W0 := by rw [e0]; go_grown
  have hs : W0.cell? ⟨w.heap.size, 0, none⟩ = some (.int .i64 t.s) ∧ W0.cell? ⟨w.heap.size, 1, none⟩ = some (.int .i64 t.n) ∧ W0.cell? ⟨w.heap.size, 2, none⟩ = some (.int .i64 t.fr) ∧ W0.cell? ⟨w.heap.size, 3, none⟩ = some (.int .i64 t.un) ∧ w.heap.size < W0.heap.size := by rw [e0]; simp
  clear e0
  obtain ⟨c0, c1, c2, c3, hz⟩ := hs
  go_loopw [9, 10] (fun u v wr => ∃ i j : Nat, u = .int .i64 i ∧ v = .int .i64 j ∧ i ≤ j ∧ j ≤ l.length ∧ Hid ((0 < i → issCmp (gd l (i - 1)) t < 0) ∧ (j < l.length → 0 ≤ issCmp (gd l j) t)) ∧ Below W0.heap.size W0 wr) (fun u v _ => (intOf v - intOf u).toNat)
  case atStart => exact ⟨0, l.length, rfl, rfl, Nat.zero_le _, Nat.le_refl _, ⟨fun h => by omega, fun h => by omega⟩, Below.refl _ _⟩
  case round =>
    obtain ⟨i, j, rfl, rfl, hij, hjl, hh, hb⟩ := hrel
    have hzz := hb.size
    have hzw : w.heap.size < wr.heap.size := by omega
    have c0 := (hb.cell (p := ⟨w.heap.size, 0, none⟩) hz).trans c0
    have c1 := (hb.cell (p := ⟨w.heap.size, 1, none⟩) hz).trans c1
    have c2 := (hb.cell (p := ⟨w.heap.size, 2, none⟩) hz).trans c2
    have c3 := (hb.cell (p := ⟨w.heap.size, 3, none⟩) hz).trans c3
    have hbw : Below w.heap.size w wr := B0.trans (hb.mono (by omega))
    by_cases hlt : i < j
    · obtain ⟨m, hm2, hm3, hm4⟩ : ∃ m : Nat, ((i : Int) + (j : Int)) / 2 = (m : Int) ∧ i ≤ m ∧ m < j := ⟨(i + j) / 2, by omega, by omega, by omega⟩
      obtain ⟨rfl, hbl, e0, e1, e2, e3⟩ := Iss.at (hc.mono hbw) m (by omega)
      by_cases hcm : issCmp (gd l m) t < 0
      · have hn := Lib.hid hcm
        go_wp2_with fail
        refine wp_region_ext (by kernel_rfl) (by kernel_rfl) ?_
        repeat (any_goals (first | go_big_quiet_step ((go_at_call 59; exact Calls.ext_of (compareIssues_c (gd l m) t _)))))
        (refine wpQuiet_nil ?_)
        (rintro _ ⟨q, rfl⟩)
        go_wp2_with fail
        go_roundw
        case rel => exact ⟨m + 1, j, by go_num, rfl, by omega, hjl, ⟨fun _ => by simpa using hn.out, hh.out.2⟩, (by repeat' (first | exact Below.refl _ _ | with_reducible assumption | refine bext ?_ ?_ _ | refine Below.alloc ?_ ?_ _ | refine Below.setCell ?_ ?_ _ | refine Below.drew ?_ | (simp; done) | (have hbz := hb.size; first | omega | (simp; omega)) | (simp; omega) | omega))⟩
        case measure => simp [intOf]; omega
      · have hn := Lib.hid hcm
        go_wp2_with fail
        refine wp_region_ext (by kernel_rfl) (by kernel_rfl) ?_
        repeat (any_goals (first | go_big_quiet_step ((go_at_call 59; exact Calls.ext_of (compareIssues_c (gd l m) t _)))))
        (refine wpQuiet_nil ?_)
        (rintro _ ⟨q, rfl⟩)
        go_wp2_with fail
        go_roundw
        case rel => exact ⟨i, m, rfl, rfl, hm3, by omega, ⟨hh.out.1, fun _ => by have := hn.out; omega⟩, (by repeat' (first | exact Below.refl _ _ | with_reducible assumption | refine bext ?_ ?_ _ | refine Below.alloc ?_ ?_ _ | refine Below.setCell ?_ ?_ _ | refine Below.drew ?_ | (simp; done) | (have hbz := hb.size; first | omega | (simp; omega)) | (simp; omega) | omega))⟩
        case measure => simp [intOf]; omega
    · obtain rfl : i = j := by omega
      have hS : Hid (searchAt l t i) := ⟨hjl, hh.out⟩
      clear hh
      by_cases hil : i < l.length
      · obtain ⟨rfl, hbl, e0, e1, e2, e3⟩ := Iss.at (hc.mono hbw) i hil
        have hr := Lib.hid (show decide (issCmp (gd l i) t = 0) = searchHit l t i by simp [searchHit, hil])
        go_wp2_with fail
        refine wp_region_ext (by kernel_rfl) (by kernel_rfl) ?_
        repeat (any_goals (first | go_big_quiet_step ((go_at_call 59; exact Calls.ext_of (compareIssues_c (gd l i) t _)))))
        (refine wpQuiet_nil ?_)
        (rintro _ ⟨q, rfl⟩)
        go_wp2_with fail
        go_ret2
        exact ⟨i, hS.out, ret_int_bool rfl (by rw [← hr.out]; rfl), (by repeat' (first | exact Below.refl _ _ | with_reducible assumption | refine bext ?_ ?_ _ | refine Below.alloc ?_ ?_ _ | refine Below.setCell ?_ ?_ _ | refine Below.drew ?_ | (simp; done) | (have hbz := hb.size; first | omega | (simp; omega)) | (simp; omega) | omega))⟩
      · have hr := Lib.hid (show searchHit l t i = false by simp [searchHit, hil])
        go_wp2_with fail
        refine wp_region_ext (by kernel_rfl) (by kernel_rfl) ?_
        repeat (any_goals (first | go_big_quiet_step (fail)))
        (refine wpQuiet_nil ?_)
        (rintro _ ⟨q, rfl⟩)
        go_wp2_with fail
        go_ret2
        exact ⟨i, hS.out, ret_int_bool rfl hr.out.symm, (by repeat' (first | exact Below.refl _ _ | with_reducible assumption | refine bext ?_ ?_ _ | refine Below.alloc ?_ ?_ _ | refine Below.setCell ?_ ?_ _ | refine Below.drew ?_ | (simp; done) | (have hbz := hb.size; first | omega | (simp; omega)) | (simp; omega) | omega))⟩
end Go.Proofs.YthibchaiaedboaaDoor
