/- Repairs: what proper repairs are, by the reference. No condition but what a slice may hold. -/
import Derived.Test.YthibchaiaedboaaSr22
namespace Go.Proofs.Ythibchaiaedboaa
open Go.RowKit
set_option maxHeartbeats 2000000 in
theorem l22Good_c (vd vr : Value) (dl : List Dmg) (rl : List Rep) (w : World) (hd : Sl w Dmg.enc 4 vd dl) (hr : Sl w Rep.enc 3 vr rl) : Calls Try.prog 120 #[vd, vr] w fun e w' => e = .returned (.bool (areRep dl rl)) ∧ Below w.heap.size w w' := by
  have hr0 := hr
  obtain ⟨a, cap, b, off, rfl, hlc, hm, hc⟩ := hr
  unfold maxLen at hm
  have HA := Lib.hid (l22Damages_c vd dl w hd)
  cases hA : areDmg dl
  · rw [hA] at HA
    have hno : Hid (areRep dl rl = false) := by show areRep dl rl = false; simp [areRep, hA]
    clear hA
    go_enter Try.func120, Try.ntmps120
    go_wp2_with (go_at_call 184; refine HA.out.mono ?_; rintro e w' ⟨rfl, hb⟩)
    go_ret
    exact ⟨ret_bool hno.out.symm, hb⟩
  rw [hA] at HA
  have hyes : Hid (rl.length ≤ 12 → (∀ i, i < rl.length → repAt dl rl i = true) → areRep dl rl = true) := fun h12 h => by simp [areRep, hA, h12, allTo_true h]
  have hno : Hid (¬ rl.length ≤ 12 → areRep dl rl = false) := fun h => by simp [areRep, h]
  clear hA
  go_enter Try.func120, Try.ntmps120
  go_wp2_with (go_at_call 184; refine HA.out.mono ?_; rintro e w1 ⟨rfl, hb1⟩)
  go_loopw [5] (fun i wr => ∃ k : Nat, k ≤ rl.length ∧ k ≤ 13 ∧ i = .int .i64 k ∧ Hid (∀ i, i < k → repAt dl rl i = true) ∧ Below w.heap.size w wr) (fun i _ => rl.length - (intOf i).toNat)
  case atStart => exact ⟨0, Nat.zero_le _, by omega, rfl, fun i hi => by omega, hb1⟩
  case round =>
    obtain ⟨k, hk, hk13, rfl, hall, hb⟩ := hrel
    by_cases hlt : k < rl.length
    · by_cases h13 : k ≤ 12
      · obtain ⟨rfl, hbw, c0, c1, c2⟩ := Rep.at (hc.mono hb) k hlt
        have d0 := fun (h0 : 0 < k) => (Rep.at (hc.mono hb) (k - 1) (by omega)).2.2.2.2
        have hD := Lib.hid (hd.mono hb)
        have hT := Lib.hid ((hr0.mono hb).take (n := k) (by omega))
        clear hc hr0 HA
        rcases rep_ways dl rl k with ⟨w0, ho⟩ | ⟨w0, w1, ho⟩ | ⟨w0, w1, w2, ho⟩ | ⟨w0, w1, w2, w3, hbs⟩ | ⟨w0, w1, w2, w3, w4, hbs⟩ | ⟨w0, w1, w2, w3, w4, ho⟩
        case inr.inr.inr.inl =>
          rcases rep_rest dl rl k hbs.out with ⟨w5, w6, ho⟩ | ⟨w5, w7, w6, ho⟩ | ⟨w5, w7, w6, ho⟩
          all_goals
            go_wp2_with fail
            refine wp_region_ext (by kernel_rfl) (by kernel_rfl) ?_
            repeat (any_goals (first | go_big_quiet_step ((first | (go_at_call 185; exact Calls.ext_same (l22Find_c _ dl _ _ (hD.out.mono (by repeat' (first | exact Below.refl _ _ | with_reducible assumption | refine bext ?_ ?_ _ | refine Below.alloc ?_ ?_ _ | refine Below.setCell ?_ ?_ _ | refine Below.drew ?_ | (simp; done) | (have hbz := hb.size; first | omega | (simp; omega)) | (simp; omega) | omega))))) | (go_at_call 119; exact Calls.ext_same (l1In_c _ _ _ _)) | (go_at_call 176; exact Calls.ext_same (l2Day_c _ _))))))
            (refine wpQuiet_nil ?_)
            (rintro _ ⟨q, rfl⟩)
            go_wp2_with fail
            refine wp_region_ext (by kernel_rfl) (by kernel_rfl) ?_
            repeat (any_goals (first | go_big_quiet_step ((go_at_call 186; exact Calls.ext_same (l22Lined_c _ (rl.take k) _ _ (hT.out.mono (by repeat' (first | exact Below.refl _ _ | with_reducible assumption | refine bext ?_ ?_ _ | refine Below.alloc ?_ ?_ _ | refine Below.setCell ?_ ?_ _ | refine Below.drew ?_ | (simp; done) | (have hbz := hb.size; first | omega | (simp; omega)) | (simp; omega) | omega))))))))
            refine wpQuiet_nil ?_
            rintro _ ⟨q2, rfl⟩
            go_wp2_with fail
          all_goals first
            | (go_ret
               exact ⟨ret_bool (areRep_no k hlt ho.out).symm, (by repeat' (first | exact Below.refl _ _ | with_reducible assumption | refine bext ?_ ?_ _ | refine Below.alloc ?_ ?_ _ | refine Below.setCell ?_ ?_ _ | refine Below.drew ?_ | (simp; done) | (have hbz := hb.size; first | omega | (simp; omega)) | (simp; omega) | omega))⟩)
            | (go_roundw
               case rel => exact ⟨k + 1, by omega, by omega, by go_num, upto_succ hall.out ho.out, (by repeat' (first | exact Below.refl _ _ | with_reducible assumption | refine bext ?_ ?_ _ | refine Below.alloc ?_ ?_ _ | refine Below.setCell ?_ ?_ _ | refine Below.drew ?_ | (simp; done) | (have hbz := hb.size; first | omega | (simp; omega)) | (simp; omega) | omega))⟩
               case measure => simp [intOf]; omega)
        case inr.inr.inr.inr.inl =>
          rcases rep_rest dl rl k hbs.out with ⟨w5, w6, ho⟩ | ⟨w5, w7, w6, ho⟩ | ⟨w5, w7, w6, ho⟩
          all_goals
            go_wp2_with fail
            refine wp_region_ext (by kernel_rfl) (by kernel_rfl) ?_
            repeat (any_goals (first | go_big_quiet_step ((first | (go_at_call 185; exact Calls.ext_same (l22Find_c _ dl _ _ (hD.out.mono (by repeat' (first | exact Below.refl _ _ | with_reducible assumption | refine bext ?_ ?_ _ | refine Below.alloc ?_ ?_ _ | refine Below.setCell ?_ ?_ _ | refine Below.drew ?_ | (simp; done) | (have hbz := hb.size; first | omega | (simp; omega)) | (simp; omega) | omega))))) | (go_at_call 119; exact Calls.ext_same (l1In_c _ _ _ _)) | (go_at_call 176; exact Calls.ext_same (l2Day_c _ _))))))
            (refine wpQuiet_nil ?_)
            (rintro _ ⟨q, rfl⟩)
            go_wp2_with fail
            refine wp_region_ext (by kernel_rfl) (by kernel_rfl) ?_
            repeat (any_goals (first | go_big_quiet_step ((go_at_call 186; exact Calls.ext_same (l22Lined_c _ (rl.take k) _ _ (hT.out.mono (by repeat' (first | exact Below.refl _ _ | with_reducible assumption | refine bext ?_ ?_ _ | refine Below.alloc ?_ ?_ _ | refine Below.setCell ?_ ?_ _ | refine Below.drew ?_ | (simp; done) | (have hbz := hb.size; first | omega | (simp; omega)) | (simp; omega) | omega))))))))
            refine wpQuiet_nil ?_
            rintro _ ⟨q2, rfl⟩
            go_wp2_with fail
          all_goals first
            | (go_ret
               exact ⟨ret_bool (areRep_no k hlt ho.out).symm, (by repeat' (first | exact Below.refl _ _ | with_reducible assumption | refine bext ?_ ?_ _ | refine Below.alloc ?_ ?_ _ | refine Below.setCell ?_ ?_ _ | refine Below.drew ?_ | (simp; done) | (have hbz := hb.size; first | omega | (simp; omega)) | (simp; omega) | omega))⟩)
            | (go_roundw
               case rel => exact ⟨k + 1, by omega, by omega, by go_num, upto_succ hall.out ho.out, (by repeat' (first | exact Below.refl _ _ | with_reducible assumption | refine bext ?_ ?_ _ | refine Below.alloc ?_ ?_ _ | refine Below.setCell ?_ ?_ _ | refine Below.drew ?_ | (simp; done) | (have hbz := hb.size; first | omega | (simp; omega)) | (simp; omega) | omega))⟩
               case measure => simp [intOf]; omega)
        all_goals
          go_wp2_with fail
          refine wp_region_ext (by kernel_rfl) (by kernel_rfl) ?_
          repeat (any_goals (first | go_big_quiet_step ((first | (go_at_call 185; exact Calls.ext_same (l22Find_c _ dl _ _ (hD.out.mono (by repeat' (first | exact Below.refl _ _ | with_reducible assumption | refine bext ?_ ?_ _ | refine Below.alloc ?_ ?_ _ | refine Below.setCell ?_ ?_ _ | refine Below.drew ?_ | (simp; done) | (have hbz := hb.size; first | omega | (simp; omega)) | (simp; omega) | omega))))) | (go_at_call 119; exact Calls.ext_same (l1In_c _ _ _ _)) | (go_at_call 176; exact Calls.ext_same (l2Day_c _ _))))))
          (refine wpQuiet_nil ?_)
          (rintro _ ⟨q, rfl⟩)
          go_wp2_with fail
          go_ret
          exact ⟨ret_bool (areRep_no k hlt ho.out).symm, (by repeat' (first | exact Below.refl _ _ | with_reducible assumption | refine bext ?_ ?_ _ | refine Below.alloc ?_ ?_ _ | refine Below.setCell ?_ ?_ _ | refine Below.drew ?_ | (simp; done) | (have hbz := hb.size; first | omega | (simp; omega)) | (simp; omega) | omega))⟩
      · have he := Lib.hid (hno.out (by omega))
        go_wp2_with fail
        go_ret
        exact ⟨ret_bool (by rw [he.out]; simp; omega), hb⟩
    · obtain rfl : k = rl.length := by omega
      by_cases h12 : rl.length ≤ 12
      · have he := Lib.hid (hyes.out h12 hall.out)
        go_wp2_with fail
        go_ret
        exact ⟨ret_bool (by rw [he.out]; simp; omega), hb⟩
      · have he := Lib.hid (hno.out h12)
        go_wp2_with fail
        go_ret
        exact ⟨ret_bool (by rw [he.out]; simp; omega), hb⟩
end Go.Proofs.Ythibchaiaedboaa
