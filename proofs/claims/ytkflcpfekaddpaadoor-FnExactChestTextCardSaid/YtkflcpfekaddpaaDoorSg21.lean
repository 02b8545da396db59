/- Chests: what a valid chest is by the reference. No condition but what a slice may hold. -/
import Derived.Test.YtkflcpfekaddpaaDoorIc21
namespace Go.Proofs.YtkflcpfekaddpaaDoor
open Go.RowKit
theorem find_here (l : List Int) (k : Nat) (hk : k < l.length) (h : (findTo (fun i => gd l i == gd l k) k).isSome = false) : findTo (fun i => gd l i == gd l k) l.length = some k := by
  cases h' : findTo (fun i => gd l i == gd l k) k with
  | none => exact findTo_some (f := fun i => gd l i == gd l k) (k := k) (findTo_none_spec h') (by simp) hk
  | some j => rw [h'] at h; cases h
theorem find_ahead (l : List Int) (k : Nat) (hk : k < l.length) (h : (findTo (fun i => gd l i == gd l k) k).isSome = true) : ∃ j : Nat, j < k ∧ findTo (fun i => gd l i == gd l k) l.length = some j := by
  cases h' : findTo (fun i => gd l i == gd l k) k with
  | none => rw [h'] at h; cases h
  | some j =>
    obtain ⟨h1, h2, h3⟩ := findTo_spec h'
    exact ⟨j, h1, findTo_some (f := fun i => gd l i == gd l k) (k := j) h3 h2 (by omega)⟩
set_option maxHeartbeats 2000000 in
theorem l21Good_c (c : Cst) (v : Value) (l : List Int) (w : World) (h : Sl w IntE.enc 1 v l) : Calls Tryd.prog 91 #[cval c v] w fun e w' => e = .returned (.bool (areCh c l)) ∧ Below w.heap.size w w' := by
  have h0 := h
  obtain ⟨a, cap, b, off, rfl, hlc, hm, hc⟩ := h
  unfold maxLen at hm
  unfold cval
  go_enter Tryd.func91, Tryd.ntmps91
  go_wp2_with fail
  go_loopw [3] (fun i wr => ∃ k : Nat, k ≤ l.length ∧ k ≤ 11 ∧ i = .int .i64 k ∧ Hid (∀ i, i < k → stkAt l i = true) ∧ Hid (BoxAt wr w.heap.size [.int .i64 c.st, .int .i64 c.key, .slice a l.length cap, .int .i64 c.du, .int .i64 c.la, .int .i64 c.gi]) ∧ Below w.heap.size w wr) (fun i _ => l.length - (intOf i).toNat)
  case atStart => exact ⟨0, Nat.zero_le _, by omega, rfl, fun i hi => by omega, BoxAt.new _ _ _, below_alloc _ _⟩
  case round =>
    obtain ⟨k, hk, hk11, rfl, hall, hbx, hb⟩ := hrel
    obtain ⟨hB, y0, y1, y2, y3, y4, y5⟩ : w.heap.size < wr.heap.size ∧ wr.cell? ⟨_, 0, none⟩ = some (.int .i64 c.st) ∧ wr.cell? ⟨_, 1, none⟩ = some (.int .i64 c.key) ∧ wr.cell? ⟨_, 2, none⟩ = some (.slice a l.length cap) ∧ wr.cell? ⟨_, 3, none⟩ = some (.int .i64 c.du) ∧ wr.cell? ⟨_, 4, none⟩ = some (.int .i64 c.la) ∧ wr.cell? ⟨_, 5, none⟩ = some (.int .i64 c.gi) :=
      ⟨hbx.out.1, hbx.out.2 0 _ rfl, hbx.out.2 1 _ rfl, hbx.out.2 2 _ rfl, hbx.out.2 3 _ rfl, hbx.out.2 4 _ rfl, hbx.out.2 5 _ rfl⟩
    by_cases hlt : k < l.length ∧ k ≤ 10
    · obtain ⟨hlt, hk10⟩ := hlt
      obtain ⟨ha, hbw, c0⟩ := IntE.at (hc.mono hb) k hlt
      subst ha
      have hT := Lib.hid (h0.mono hb)
      have hC := fun p => l21Find_c _ l (gd l k) (ext wr p) (hT.out.mono (below_ext wr p))
      cases h1 : inB (gd l k) 1 999
      · have ho : Hid (stkAt l k = false) := by show _ = _; simp [stkAt, h1]
        replace hC := Lib.hid hC
        go_wp2_with fail
        refine wp_region_ext (by kernel_rfl) (by kernel_rfl) ?_
        repeat (any_goals (first | go_big_quiet_step (first | (go_at_call 83; exact Calls.ext_same (l1In_c _ _ _ _)) | (go_at_call 132; exact Calls.ext_same (hC.out _)))))
        all_goals
          refine wpQuiet_nil ?_
          rintro _ ⟨q, rfl⟩
          go_wp2_with fail
          go_ret
          exact ⟨ret_bool (areCh_no k hlt ho.out).symm, bext hb hb.size _⟩
      · cases h2 : (findTo (fun i => gd l i == gd l k) k).isSome
        · have ho : Hid (stkAt l k = true) := by show _ = _; simp [stkAt, h1, h2]
          rw [find_here l k hlt h2] at hC
          replace hC := Lib.hid (show ∀ p : Gap, Calls Tryd.prog 132 _ (ext wr p) fun e w' => e = .returned (.int .i64 (k : Int)) ∧ ext wr p = w' from hC)
          clear h2
          go_wp2_with fail
          refine wp_region_ext (by kernel_rfl) (by kernel_rfl) ?_
          repeat (any_goals (first | go_big_quiet_step (first | (go_at_call 83; exact Calls.ext_same (l1In_c _ _ _ _)) | (go_at_call 132; exact Calls.ext_same (hC.out _)))))
          all_goals
            refine wpQuiet_nil ?_
            rintro _ ⟨q, rfl⟩
            go_wp2_with fail
            go_roundw
            case rel => exact ⟨k + 1, by omega, by omega, by go_num, upto_succ hall.out ho.out, hbx.out.mono (below_ext _ _), bext hb hb.size _⟩
            case measure => simp [intOf]; omega
        · have ho : Hid (stkAt l k = false) := by show _ = _; simp [stkAt, h1, h2]
          obtain ⟨j, hj, e⟩ := find_ahead l k hlt h2
          rw [e] at hC
          replace hC := Lib.hid (show ∀ p : Gap, Calls Tryd.prog 132 _ (ext wr p) fun e w' => e = .returned (.int .i64 (j : Int)) ∧ ext wr p = w' from hC)
          have hne : ((j : Int) == (k : Int)) = false := by simp; omega
          clear h2 e
          go_wp2_with fail
          refine wp_region_ext (by kernel_rfl) (by kernel_rfl) ?_
          repeat (any_goals (first | go_big_quiet_step (first | (go_at_call 83; exact Calls.ext_same (l1In_c _ _ _ _)) | (go_at_call 132; exact Calls.ext_same (hC.out _)))))
          all_goals
            refine wpQuiet_nil ?_
            rintro _ ⟨q, rfl⟩
            go_wp2_with fail
            go_ret
            exact ⟨ret_bool (areCh_no k hlt ho.out).symm, bext hb hb.size _⟩
    · by_cases h10 : l.length ≤ 10
      · obtain rfl : k = l.length := by omega
        have he := Lib.hid (areCh_end (c := c) hall.out)
        clear hall hc h0
        cases h1 : inB c.la 0 9999 <;> cases h2 : inB c.gi 0 9999
        case true.true =>
          obtain ⟨q1, q2⟩ := inB_iff.1 h1
          obtain ⟨q3, q4⟩ := inB_iff.1 h2
          go_wp2_with (go_at_call 83; refine (l1In_c _ _ _ _).mono ?_; rintro e w' ⟨rfl, rfl⟩)
          all_goals go_ret
          all_goals refine ⟨ret_bool ?_, hb⟩
          all_goals rw [he.out]
          all_goals first | (simp_all [tailB, keyB]; done) | (simp_all [tailB, keyB]; intros; omega) | (simp_all [tailB, keyB]; omega)
        all_goals
          go_wp2_with (go_at_call 83; refine (l1In_c _ _ _ _).mono ?_; rintro e w' ⟨rfl, rfl⟩)
          all_goals go_ret
          all_goals refine ⟨ret_bool ?_, hb⟩
          all_goals rw [he.out]
          all_goals first | (simp_all [tailB, keyB]; done) | (simp_all [tailB, keyB]; intros; omega) | (simp_all [tailB, keyB]; omega)
      · obtain ⟨rfl, h11⟩ : k = 11 ∧ 10 < l.length := by omega
        have he := Lib.hid (areCh_long (c := c) h10)
        clear hall hc h0
        go_wp2_with (go_at_call 83; refine (l1In_c _ _ _ _).mono ?_; rintro e w' ⟨rfl, rfl⟩)
        all_goals go_ret
        all_goals refine ⟨ret_bool ?_, hb⟩
        all_goals rw [he.out]
        all_goals first | done | (simp_all; done) | (simp_all; omega)
end Go.Proofs.YtkflcpfekaddpaaDoor
