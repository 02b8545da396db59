/- Repairs: what proper repairs are, by the program and by the reference. No condition but what a slice may hold. -/
import Derived.Test.YthibchaiaedboaaSq22
namespace Go.Proofs.Ythibchaiaedboaa
open Go.RowKit

theorem Sl.take {α : Type} [Inhabited α] {w : World} {enc : α → List Value} {k n cap : Nat} {a : Option Addr} {l : List α} (h : Sl w enc k (.slice a l.length cap) l) (hn : n ≤ l.length) : Sl w enc k (.slice a n cap) (l.take n) := by
  obtain ⟨a', cap', b, off, hv, h1, h2, hc⟩ := h
  injection hv with e1 e2 e3
  subst e1 e3
  have hl : (l.take n).length = n := by simp; omega
  refine ⟨a, cap, b, off, by rw [hl], by omega, h2, fun i hi => ?_⟩
  rw [hl] at hi
  obtain ⟨x, y, z⟩ := hc i (by omega)
  rw [gd_take hi]
  exact ⟨x, y, z⟩
theorem rep_rest (dl : List Dmg) (rl : List Rep) (k : Nat) (hb : repBase dl rl k = true) : (decide (3 ≤ (gd rl k).wk) = false ∧ decide (2 < (gd rl k).wk) = false ∧ Hid (repAt dl rl k = true)) ∨
    (3 ≤ (gd rl k).wk ∧ 2 < (gd rl k).wk ∧ lined (rl.take k) (gd rl k).s = false ∧ Hid (repAt dl rl k = true)) ∨
    (3 ≤ (gd rl k).wk ∧ 2 < (gd rl k).wk ∧ lined (rl.take k) (gd rl k).s = true ∧ Hid (repAt dl rl k = false)) := by
  unfold Hid
  by_cases h : 3 ≤ (gd rl k).wk
  · have h2 : 2 < (gd rl k).wk := by omega
    cases hl : lined (rl.take k) (gd rl k).s
    · exact .inr (.inl ⟨h, h2, rfl, by simp [repAt, hb, hl]⟩)
    · exact .inr (.inr ⟨h, h2, rfl, by simp [repAt, hl, h]⟩)
  · exact .inl ⟨by simpa using h, by simp; omega, by simp [repAt, hb, h]⟩
theorem rep_ways (dl : List Dmg) (rl : List Rep) (k : Nat) :
    (decide (idxInt (findDmg dl (gd rl k).s) < 0) = true ∧ Hid (repAt dl rl k = false)) ∨
    (decide (idxInt (findDmg dl (gd rl k).s) < 0) = false ∧ inB (gd rl k).wk 1 4 = false ∧ Hid (repAt dl rl k = false)) ∨
    (decide (idxInt (findDmg dl (gd rl k).s) < 0) = false ∧ inB (gd rl k).wk 1 4 = true ∧ inB (gd rl k).d 0 4000 = false ∧ Hid (repAt dl rl k = false)) ∨
    (decide (idxInt (findDmg dl (gd rl k).s) < 0) = false ∧ inB (gd rl k).wk 1 4 = true ∧ inB (gd rl k).d 0 4000 = true ∧ ¬ 0 < k ∧ Hid (repBase dl rl k = true)) ∨
    (decide (idxInt (findDmg dl (gd rl k).s) < 0) = false ∧ inB (gd rl k).wk 1 4 = true ∧ inB (gd rl k).d 0 4000 = true ∧ 0 < k ∧ ¬ (gd rl k).d < (gd rl (k - 1)).d ∧ Hid (repBase dl rl k = true)) ∨
    (decide (idxInt (findDmg dl (gd rl k).s) < 0) = false ∧ inB (gd rl k).wk 1 4 = true ∧ inB (gd rl k).d 0 4000 = true ∧ 0 < k ∧ (gd rl k).d < (gd rl (k - 1)).d ∧ Hid (repAt dl rl k = false)) := by
  unfold Hid
  cases hf : findDmg dl (gd rl k).s with
  | none => exact .inl ⟨by simp [idxInt], by simp [repAt, repBase, hf]⟩
  | some j =>
    refine .inr ?_
    have hx : decide (idxInt (some j) < 0) = false := by rw [decide_eq_false_iff_not]; simp only [idxInt]; omega
    cases h1 : inB (gd rl k).wk 1 4
    · exact .inl ⟨hx, rfl, by simp [repAt, repBase, h1]⟩
    refine .inr ?_
    cases h2 : inB (gd rl k).d 0 4000
    · exact .inl ⟨hx, rfl, rfl, by simp [repAt, repBase, h2]⟩
    refine .inr ?_
    by_cases h0 : 0 < k
    · refine .inr ?_
      by_cases h3 : (gd rl k).d < (gd rl (k - 1)).d
      · exact .inr ⟨hx, rfl, rfl, h0, h3, by simp [repAt, repBase]; omega⟩
      · exact .inl ⟨hx, rfl, rfl, h0, h3, by simp [repBase, hf, h1, h2]; omega⟩
    · exact .inl ⟨hx, rfl, rfl, h0, by simp [repBase, hf, h1, h2]; omega⟩
theorem areRep_no {dl : List Dmg} {rl : List Rep} (k : Nat) (hk : k < rl.length) (h : repAt dl rl k = false) : areRep dl rl = false := by simp [areRep, allTo_false k hk h]

set_option maxHeartbeats 2000000 in
theorem areRepairs_c (vd vr : Value) (dl : List Dmg) (rl : List Rep) (w : World) (hd : Sl w Dmg.enc 4 vd dl) (hr : Sl w Rep.enc 3 vr rl) : Calls Try.prog 122 #[vd, vr] w fun e w' => e = .returned (.bool (areRep dl rl)) ∧ Below w.heap.size w w' := by
  have hr0 := hr
  obtain ⟨a, cap, b, off, rfl, hlc, hm, hc⟩ := hr
  unfold maxLen at hm
  have HA := Lib.hid (areDamages_c vd dl w hd)
  cases hA : areDmg dl
  · rw [hA] at HA
    have hno : Hid (areRep dl rl = false) := by show areRep dl rl = false; simp [areRep, hA]
    clear hA
    go_enter Try.func122, Try.ntmps122
    go_wp2_with (go_at_call 187; refine HA.out.mono ?_; rintro e w' ⟨rfl, hb⟩)
    go_ret
    exact ⟨ret_bool hno.out.symm, hb⟩
  rw [hA] at HA
  by_cases h12 : rl.length ≤ 12
  · have hyes : Hid ((∀ i, i < rl.length → repAt dl rl i = true) → areRep dl rl = true) := fun h => by simp [areRep, hA, h12, allTo_true h]
    clear hA
    go_enter Try.func122, Try.ntmps122
    go_wp2_with (go_at_call 187; refine HA.out.mono ?_; rintro e w1 ⟨rfl, hb1⟩)
    go_loopw [17] (fun i wr => ∃ k : Nat, k ≤ rl.length ∧ i = .int .i64 k ∧ Hid (∀ i, i < k → repAt dl rl i = true) ∧ Below w.heap.size w wr) (fun i _ => rl.length - (intOf i).toNat)
    case atStart => exact ⟨0, Nat.zero_le _, rfl, fun i hi => by omega, hb1⟩
    case round =>
      obtain ⟨k, hk, rfl, hall, hb⟩ := hrel
      by_cases hlt : k < rl.length
      · obtain ⟨rfl, hbw, c0, c1, c2⟩ := Rep.at (hc.mono hb) k hlt
        have d0 := fun (h0 : 0 < k) => (Rep.at (hc.mono hb) (k - 1) (by omega)).2.2.2.2
        have hD := Lib.hid (hd.mono hb)
        have hT := Lib.hid ((hr0.mono hb).take (n := k) (by omega))
        clear hc hr0 HA
        rcases rep_ways dl rl k with ⟨w0, ho⟩ | ⟨w0, w1, ho⟩ | ⟨w0, w1, w2, ho⟩ | ⟨w0, w1, w2, w3, hbs⟩ | ⟨w0, w1, w2, w3, w4, hbs⟩ | ⟨w0, w1, w2, w3, w4, ho⟩
        case inr.inr.inr.inl =>
          rcases rep_rest dl rl k hbs.out with ⟨w5, w6, ho⟩ | ⟨w5, w7, w6, ho⟩ | ⟨w5, w7, w6, ho⟩
          all_goals
            go_wp2_with fail
            refine wp_region_ext (by kernel_rfl) (by kernel_rfl) ?_
            repeat (any_goals (first | go_big_quiet_step ((first | (go_at_call 188; exact Calls.ext_of (damageAt_c _ dl _ _ (hD.out.mono (by repeat' (first | exact Below.refl _ _ | with_reducible assumption | refine bext ?_ ?_ _ | refine Below.alloc ?_ ?_ _ | refine Below.setCell ?_ ?_ _ | refine Below.drew ?_ | (simp; done) | (have hbz := hb.size; first | omega | (simp; omega)) | (simp; omega) | omega))))) | (go_at_call 118; exact Calls.ext_same (within_c _ _ _ _)) | (go_at_call 111; exact Calls.ext_same (isDay_c _ _))))))
            (refine wpQuiet_nil ?_)
            (rintro _ ⟨q, rfl⟩)
            go_wp2_with fail
            refine wp_region_ext (by kernel_rfl) (by kernel_rfl) ?_
            repeat (any_goals (first | go_big_quiet_step ((go_at_call 189; exact Calls.ext_of (isLined_c _ (rl.take k) _ _ (hT.out.mono (by repeat' (first | exact Below.refl _ _ | with_reducible assumption | refine bext ?_ ?_ _ | refine Below.alloc ?_ ?_ _ | refine Below.setCell ?_ ?_ _ | refine Below.drew ?_ | (simp; done) | (have hbz := hb.size; first | omega | (simp; omega)) | (simp; omega) | omega))))))))
            refine wpQuiet_nil ?_
            rintro _ ⟨q2, rfl⟩
            go_wp2_with fail
          all_goals first
            | (go_ret
               exact ⟨ret_bool (areRep_no k hlt ho.out).symm, (by repeat' (first | exact Below.refl _ _ | with_reducible assumption | refine bext ?_ ?_ _ | refine Below.alloc ?_ ?_ _ | refine Below.setCell ?_ ?_ _ | refine Below.drew ?_ | (simp; done) | (have hbz := hb.size; first | omega | (simp; omega)) | (simp; omega) | omega))⟩)
            | (go_roundw
               case rel => exact ⟨k + 1, by omega, by go_num, upto_succ hall.out ho.out, (by repeat' (first | exact Below.refl _ _ | with_reducible assumption | refine bext ?_ ?_ _ | refine Below.alloc ?_ ?_ _ | refine Below.setCell ?_ ?_ _ | refine Below.drew ?_ | (simp; done) | (have hbz := hb.size; first | omega | (simp; omega)) | (simp; omega) | omega))⟩
               case measure => simp [intOf]; omega)
        case inr.inr.inr.inr.inl =>
          rcases rep_rest dl rl k hbs.out with ⟨w5, w6, ho⟩ | ⟨w5, w7, w6, ho⟩ | ⟨w5, w7, w6, ho⟩
          all_goals
            go_wp2_with fail
            refine wp_region_ext (by kernel_rfl) (by kernel_rfl) ?_
            repeat (any_goals (first | go_big_quiet_step ((first | (go_at_call 188; exact Calls.ext_of (damageAt_c _ dl _ _ (hD.out.mono (by repeat' (first | exact Below.refl _ _ | with_reducible assumption | refine bext ?_ ?_ _ | refine Below.alloc ?_ ?_ _ | refine Below.setCell ?_ ?_ _ | refine Below.drew ?_ | (simp; done) | (have hbz := hb.size; first | omega | (simp; omega)) | (simp; omega) | omega))))) | (go_at_call 118; exact Calls.ext_same (within_c _ _ _ _)) | (go_at_call 111; exact Calls.ext_same (isDay_c _ _))))))
            (refine wpQuiet_nil ?_)
            (rintro _ ⟨q, rfl⟩)
            go_wp2_with fail
            refine wp_region_ext (by kernel_rfl) (by kernel_rfl) ?_
            repeat (any_goals (first | go_big_quiet_step ((go_at_call 189; exact Calls.ext_of (isLined_c _ (rl.take k) _ _ (hT.out.mono (by repeat' (first | exact Below.refl _ _ | with_reducible assumption | refine bext ?_ ?_ _ | refine Below.alloc ?_ ?_ _ | refine Below.setCell ?_ ?_ _ | refine Below.drew ?_ | (simp; done) | (have hbz := hb.size; first | omega | (simp; omega)) | (simp; omega) | omega))))))))
            refine wpQuiet_nil ?_
            rintro _ ⟨q2, rfl⟩
            go_wp2_with fail
          all_goals first
            | (go_ret
               exact ⟨ret_bool (areRep_no k hlt ho.out).symm, (by repeat' (first | exact Below.refl _ _ | with_reducible assumption | refine bext ?_ ?_ _ | refine Below.alloc ?_ ?_ _ | refine Below.setCell ?_ ?_ _ | refine Below.drew ?_ | (simp; done) | (have hbz := hb.size; first | omega | (simp; omega)) | (simp; omega) | omega))⟩)
            | (go_roundw
               case rel => exact ⟨k + 1, by omega, by go_num, upto_succ hall.out ho.out, (by repeat' (first | exact Below.refl _ _ | with_reducible assumption | refine bext ?_ ?_ _ | refine Below.alloc ?_ ?_ _ | refine Below.setCell ?_ ?_ _ | refine Below.drew ?_ | (simp; done) | (have hbz := hb.size; first | omega | (simp; omega)) | (simp; omega) | omega))⟩
               case measure => simp [intOf]; omega)
        all_goals
          go_wp2_with fail
          refine wp_region_ext (by kernel_rfl) (by kernel_rfl) ?_
          repeat (any_goals (first | go_big_quiet_step ((first | (go_at_call 188; exact Calls.ext_of (damageAt_c _ dl _ _ (hD.out.mono (by repeat' (first | exact Below.refl _ _ | with_reducible assumption | refine bext ?_ ?_ _ | refine Below.alloc ?_ ?_ _ | refine Below.setCell ?_ ?_ _ | refine Below.drew ?_ | (simp; done) | (have hbz := hb.size; first | omega | (simp; omega)) | (simp; omega) | omega))))) | (go_at_call 118; exact Calls.ext_same (within_c _ _ _ _)) | (go_at_call 111; exact Calls.ext_same (isDay_c _ _))))))
          (refine wpQuiet_nil ?_)
          (rintro _ ⟨q, rfl⟩)
          go_wp2_with fail
          go_ret
          exact ⟨ret_bool (areRep_no k hlt ho.out).symm, (by repeat' (first | exact Below.refl _ _ | with_reducible assumption | refine bext ?_ ?_ _ | refine Below.alloc ?_ ?_ _ | refine Below.setCell ?_ ?_ _ | refine Below.drew ?_ | (simp; done) | (have hbz := hb.size; first | omega | (simp; omega)) | (simp; omega) | omega))⟩
      · obtain rfl : k = rl.length := by omega
        go_wp2_with fail
        go_ret
        exact ⟨ret_bool (hyes.out hall.out).symm, hb⟩
  · have hno : Hid (areRep dl rl = false) := by show areRep dl rl = false; simp [areRep, h12]
    clear hA
    go_enter Try.func122, Try.ntmps122
    go_wp2_with (go_at_call 187; refine HA.out.mono ?_; rintro e w' ⟨rfl, hb⟩)
    go_ret
    exact ⟨ret_bool hno.out.symm, hb⟩
end Go.Proofs.Ythibchaiaedboaa
