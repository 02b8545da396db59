/- Repairs: how many repairs are of each work. No condition but what a slice may hold. -/
import Derived.Test.YtkneockpbfamkaaSs22
import Derived.Test.YtkneockpbfamkaaMore
namespace Go.Proofs.Ytkneockpbfamkaa
open Go.RowKit
def cw (l : List Rep) (j : Int) : Int := (l.filter fun x => x.wk == j).length
def cnts (l : List Rep) : List Int := [cw l 1, cw l 2, cw l 3, cw l 4]
theorem cw_snoc (l : List Rep) (x : Rep) (j : Int) : cw (l ++ [x]) j = cw l j + if x.wk = j then 1 else 0 := by
  unfold cw
  rw [List.filter_append]
  by_cases h : x.wk = j <;> simp [h]
theorem cw_b (l : List Rep) (j : Int) : 0 ≤ cw l j ∧ cw l j ≤ l.length := by
  unfold cw; exact ⟨by omega, by have := List.length_filter_le (fun x : Rep => x.wk == j) l; omega⟩
def countsR (dl : List Dmg) (rl : List Rep) : List Int := if areRep dl rl then cnts rl else []
theorem countsR_no {dl : List Dmg} {rl : List Rep} (h : areRep dl rl = false) : countsR dl rl = [] := by simp [countsR, h]
theorem countsR_yes {dl : List Dmg} {rl : List Rep} (h : areRep dl rl = true) : countsR dl rl = cnts rl := by simp [countsR, h]
theorem countsR_len (dl : List Dmg) (rl : List Rep) : (countsR dl rl).length ≤ 10000000 := by unfold countsR; split <;> simp [cnts]
theorem areRep_spec {dl : List Dmg} {rl : List Rep} (h : areRep dl rl = true) : rl.length ≤ 12 ∧ (∀ i, i < rl.length → 1 ≤ (gd rl i).wk ∧ (gd rl i).wk ≤ 4) := by
  simp only [areRep, Bool.and_eq_true, decide_eq_true_eq, allTo_iff] at h
  refine ⟨h.2.1, fun i hi => ?_⟩
  have := h.2.2 i hi
  simp only [repAt, repBase, Bool.and_eq_true, inB_iff] at this
  exact this.1.1.1.2
theorem cnts_step {l : List Rep} {k : Nat} (hk : k < l.length) (xs : List Int) (h1 : cw (l.take k) 1 + (if (gd l k).wk = 1 then 1 else 0) = xs.getD 0 0) (h2 : cw (l.take k) 2 + (if (gd l k).wk = 2 then 1 else 0) = xs.getD 1 0)
    (h3 : cw (l.take k) 3 + (if (gd l k).wk = 3 then 1 else 0) = xs.getD 2 0) (h4 : cw (l.take k) 4 + (if (gd l k).wk = 4 then 1 else 0) = xs.getD 3 0) (hl : xs.length = 4) : cnts (l.take (k + 1)) = xs := by
  rw [take_succ_gd hk]
  match xs, hl with
  | [a, b, c, d], _ =>
    simp only [cnts, cw_snoc]
    simp at h1 h2 h3 h4
    rw [h1, h2, h3, h4]
set_option maxHeartbeats 1000000 in
theorem countWorks_c (vd vr : Value) (dl : List Dmg) (rl : List Rep) (w : World) (hd : Sl w Dmg.enc 4 vd dl) (hr : Sl w Rep.enc 3 vr rl) : Calls Try.prog 29 #[vd, vr] w (RetSlB w 3 IntE.enc 1 (countsR dl rl) (areRep dl rl)) := by
  have HA := Lib.hid (areRepairs_c vd vr dl rl w hd hr)
  cases hA : areRep dl rl
  · rw [hA] at HA
    rw [countsR_no hA]
    clear hA
    go_enter Try.func29, Try.ntmps29
    go_wp2_with (go_at_call 20; refine HA.out.mono ?_; rintro e w' ⟨rfl, hb⟩)
    go_ret2
    exact ⟨_, rfl, Own.nil _ _ _ _ _, hb⟩
  · rw [hA] at HA
    rw [countsR_yes hA]
    obtain ⟨hl12, hwk⟩ := areRep_spec hA
    have HW := Lib.hid hwk
    clear hA hwk
    obtain ⟨a, cap, b, off, rfl, hlc, hm, hc⟩ := hr
    obtain ⟨i, hi, hz0, hz1, hz2⟩ := info_parts (show (Try.prog.info? 3).map (fun i => (i.zero, i.size, i.bytes)) = some (some (.int .i64 0), 1, 8) by kernel_rfl)
    go_enter Try.func29, Try.ntmps29
    go_wp2_with (first | (go_at_call 20; refine HA.out.mono ?_; rintro e w1 ⟨rfl, hb1⟩) | (at_make; refine wpList_make_full _ rfl _ _ 52 rfl w.heap.size 3 i _ 1 Try.underlying52 hi hz0 hz1 _ _ _ _ 4 rfl rfl rfl rfl (by rw [hz2]; omega) (by unfold maxLen; omega) hb1.size ?_))
    intro w2 hown hgr
    have hb2 := hb1.grown hgr hb1.size (fun k hk => by cases hk)
    go_wp2_with fail
    have ho1 : Hid (Own w2 w.heap.size 3 IntE.enc 1 (.slice (some ⟨w1.heap.size, 0, none⟩) 4 4) (cnts (rl.take 0))) := by rw [toList_madeCells_one] at hown; exact hown
    clear hown hgr
    unfold maxLen at hm
    go_loopw [16] (fun i wr => ∃ k : Nat, k ≤ rl.length ∧ i = .int .i64 k ∧ Hid (Own wr w.heap.size 3 IntE.enc 1 (.slice (some ⟨w1.heap.size, 0, none⟩) 4 4) (cnts (rl.take k))) ∧ Below w.heap.size w wr) (fun i _ => rl.length - (intOf i).toNat)
    case atStart => exact ⟨0, Nat.zero_le _, rfl, ho1, hb2⟩
    case round =>
      obtain ⟨k, hk, rfl, ho, hb⟩ := hrel
      by_cases hlt : k < rl.length
      · obtain ⟨rfl, hbw, c0, c1, c2⟩ := Rep.at (hc.mono hb) k hlt
        have hg := ho.out.bounds w1.heap.size rfl
        obtain ⟨hg1, hg2⟩ := hg
        obtain ⟨hw1, hw4⟩ := HW.out k hlt
        have d0 := ho.out.cellAt 0 (by simp)
        have d1 := ho.out.cellAt 1 (by simp)
        have d2 := ho.out.cellAt 2 (by simp)
        have d3 := ho.out.cellAt 3 (by simp)
        simp only [cnts, IntE.enc, List.flatMap_cons, List.flatMap_nil, List.cons_append, List.nil_append, List.append_nil, List.getElem?_cons_zero, List.getElem?_cons_succ] at d0 d1 d2 d3
        have z0 := ho.out.frozenAt 0
        have z1 := ho.out.frozenAt 1
        have z2 := ho.out.frozenAt 2
        have z3 := ho.out.frozenAt 3
        have e1 := cw_b (rl.take k) 1
        have e2 := cw_b (rl.take k) 2
        have e3 := cw_b (rl.take k) 3
        have e4 := cw_b (rl.take k) 4
        have el : (rl.take k).length ≤ 12 := by simp; omega
        obtain hwk | hwk | hwk | hwk : (gd rl k).wk = 1 ∨ (gd rl k).wk = 2 ∨ (gd rl k).wk = 3 ∨ (gd rl k).wk = 4 := by omega
        · have hx := Lib.hid (cnts_step hlt [cw (rl.take k) 1 + 1, cw (rl.take k) 2, cw (rl.take k) 3, cw (rl.take k) 4] (by simp [hwk]) (by simp [hwk]) (by simp [hwk]) (by simp [hwk]) rfl)
          have hst := Lib.hid (ho.out.stored 0 (.int .i64 (cw (rl.take k) 1 + 1))).1
          go_wp2_with fail
          go_roundw
          case rel =>
            refine ⟨k + 1, by omega, by go_num, ?_, (hb.setCell hg1 _).alloc (by simp; exact hb.size) _⟩
            rw [hx.out]
            exact Own.mono (l := [cw (rl.take k) 1 + 1, cw (rl.take k) 2, cw (rl.take k) 3, cw (rl.take k) 4]) hst.out (below_alloc _ _)
          case measure => simp [intOf]; omega
        · have hx := Lib.hid (cnts_step hlt [cw (rl.take k) 1, cw (rl.take k) 2 + 1, cw (rl.take k) 3, cw (rl.take k) 4] (by simp [hwk]) (by simp [hwk]) (by simp [hwk]) (by simp [hwk]) rfl)
          have hst := Lib.hid (ho.out.stored 1 (.int .i64 (cw (rl.take k) 2 + 1))).1
          go_wp2_with fail
          go_roundw
          case rel =>
            refine ⟨k + 1, by omega, by go_num, ?_, (hb.setCell hg1 _).alloc (by simp; exact hb.size) _⟩
            rw [hx.out]
            exact Own.mono (l := [cw (rl.take k) 1, cw (rl.take k) 2 + 1, cw (rl.take k) 3, cw (rl.take k) 4]) hst.out (below_alloc _ _)
          case measure => simp [intOf]; omega
        · have hx := Lib.hid (cnts_step hlt [cw (rl.take k) 1, cw (rl.take k) 2, cw (rl.take k) 3 + 1, cw (rl.take k) 4] (by simp [hwk]) (by simp [hwk]) (by simp [hwk]) (by simp [hwk]) rfl)
          have hst := Lib.hid (ho.out.stored 2 (.int .i64 (cw (rl.take k) 3 + 1))).1
          go_wp2_with fail
          go_roundw
          case rel =>
            refine ⟨k + 1, by omega, by go_num, ?_, (hb.setCell hg1 _).alloc (by simp; exact hb.size) _⟩
            rw [hx.out]
            exact Own.mono (l := [cw (rl.take k) 1, cw (rl.take k) 2, cw (rl.take k) 3 + 1, cw (rl.take k) 4]) hst.out (below_alloc _ _)
          case measure => simp [intOf]; omega
        · have hx := Lib.hid (cnts_step hlt [cw (rl.take k) 1, cw (rl.take k) 2, cw (rl.take k) 3, cw (rl.take k) 4 + 1] (by simp [hwk]) (by simp [hwk]) (by simp [hwk]) (by simp [hwk]) rfl)
          have hst := Lib.hid (ho.out.stored 3 (.int .i64 (cw (rl.take k) 4 + 1))).1
          go_wp2_with fail
          go_roundw
          case rel =>
            refine ⟨k + 1, by omega, by go_num, ?_, (hb.setCell hg1 _).alloc (by simp; exact hb.size) _⟩
            rw [hx.out]
            exact Own.mono (l := [cw (rl.take k) 1, cw (rl.take k) 2, cw (rl.take k) 3, cw (rl.take k) 4 + 1]) hst.out (below_alloc _ _)
          case measure => simp [intOf]; omega
      · obtain rfl : k = rl.length := by omega
        have ho : Hid (Own wr w.heap.size 3 IntE.enc 1 (.slice (some ⟨w1.heap.size, 0, none⟩) 4 4) (cnts rl)) := by rw [List.take_length] at ho; exact ho
        go_wp2_with fail
        go_ret2
        exact ⟨_, rfl, ho.out, hb⟩
set_option maxHeartbeats 1000000 in
theorem specCountWorks_c (vd vr : Value) (dl : List Dmg) (rl : List Rep) (w : World) (hd : Sl w Dmg.enc 4 vd dl) (hr : Sl w Rep.enc 3 vr rl) : Calls Try.prog 28 #[vd, vr] w (RetSlB w 3 IntE.enc 1 (countsR dl rl) (areRep dl rl)) := by
  have HA := Lib.hid (l22Good_c vd vr dl rl w hd hr)
  cases hA : areRep dl rl
  · rw [hA] at HA
    rw [countsR_no hA]
    clear hA
    go_enter Try.func28, Try.ntmps28
    go_wp2_with (go_at_call 41; refine HA.out.mono ?_; rintro e w' ⟨rfl, hb⟩)
    go_ret2
    exact ⟨_, rfl, Own.empty _ _ _ _ _ hb.size, hb.alloc hb.size _⟩
  · rw [hA] at HA
    rw [countsR_yes hA]
    obtain ⟨hl12, hwk⟩ := areRep_spec hA
    have HW := Lib.hid hwk
    clear hA hwk
    obtain ⟨a, cap, b, off, rfl, hlc, hm, hc⟩ := hr
    obtain ⟨i, hi, hz0, hz1, hz2⟩ := info_parts (show (Try.prog.info? 3).map (fun i => (i.zero, i.size, i.bytes)) = some (some (.int .i64 0), 1, 8) by kernel_rfl)
    go_enter Try.func28, Try.ntmps28
    go_wp2_with (first | (go_at_call 41; refine HA.out.mono ?_; rintro e w1 ⟨rfl, hb1⟩) | (at_make; refine wpList_make_full _ rfl _ _ 52 rfl w.heap.size 3 i _ 1 Try.underlying52 hi hz0 hz1 _ _ _ _ 4 rfl rfl rfl rfl (by rw [hz2]; omega) (by unfold maxLen; omega) hb1.size ?_))
    intro w2 hown hgr
    have hb2 := hb1.grown hgr hb1.size (fun k hk => by cases hk)
    go_wp2_with fail
    have ho1 : Hid (Own w2 w.heap.size 3 IntE.enc 1 (.slice (some ⟨w1.heap.size, 0, none⟩) 4 4) (cnts (rl.take 0))) := by rw [toList_madeCells_one] at hown; exact hown
    clear hown hgr
    unfold maxLen at hm
    go_loopw [7] (fun i wr => ∃ k : Nat, k ≤ rl.length ∧ i = .int .i64 k ∧ Hid (Own wr w.heap.size 3 IntE.enc 1 (.slice (some ⟨w1.heap.size, 0, none⟩) 4 4) (cnts (rl.take k))) ∧ Below w.heap.size w wr) (fun i _ => rl.length - (intOf i).toNat)
    case atStart => exact ⟨0, Nat.zero_le _, rfl, ho1, hb2⟩
    case round =>
      obtain ⟨k, hk, rfl, ho, hb⟩ := hrel
      by_cases hlt : k < rl.length
      · obtain ⟨rfl, hbw, c0, c1, c2⟩ := Rep.at (hc.mono hb) k hlt
        have hg := ho.out.bounds w1.heap.size rfl
        obtain ⟨hg1, hg2⟩ := hg
        obtain ⟨hw1, hw4⟩ := HW.out k hlt
        have d0 := ho.out.cellAt 0 (by simp)
        have d1 := ho.out.cellAt 1 (by simp)
        have d2 := ho.out.cellAt 2 (by simp)
        have d3 := ho.out.cellAt 3 (by simp)
        simp only [cnts, IntE.enc, List.flatMap_cons, List.flatMap_nil, List.cons_append, List.nil_append, List.append_nil, List.getElem?_cons_zero, List.getElem?_cons_succ] at d0 d1 d2 d3
        have z0 := ho.out.frozenAt 0
        have z1 := ho.out.frozenAt 1
        have z2 := ho.out.frozenAt 2
        have z3 := ho.out.frozenAt 3
        have e1 := cw_b (rl.take k) 1
        have e2 := cw_b (rl.take k) 2
        have e3 := cw_b (rl.take k) 3
        have e4 := cw_b (rl.take k) 4
        have el : (rl.take k).length ≤ 12 := by simp; omega
        obtain hwk | hwk | hwk | hwk : (gd rl k).wk = 1 ∨ (gd rl k).wk = 2 ∨ (gd rl k).wk = 3 ∨ (gd rl k).wk = 4 := by omega
        · have hx := Lib.hid (cnts_step hlt [cw (rl.take k) 1 + 1, cw (rl.take k) 2, cw (rl.take k) 3, cw (rl.take k) 4] (by simp [hwk]) (by simp [hwk]) (by simp [hwk]) (by simp [hwk]) rfl)
          have hst := Lib.hid (ho.out.stored 0 (.int .i64 (cw (rl.take k) 1 + 1))).1
          go_wp2_with fail
          go_roundw
          case rel =>
            refine ⟨k + 1, by omega, by go_num, ?_, hb.setCell hg1 _⟩
            rw [hx.out]
            exact hst.out
          case measure => simp [intOf]; omega
        · have hx := Lib.hid (cnts_step hlt [cw (rl.take k) 1, cw (rl.take k) 2 + 1, cw (rl.take k) 3, cw (rl.take k) 4] (by simp [hwk]) (by simp [hwk]) (by simp [hwk]) (by simp [hwk]) rfl)
          have hst := Lib.hid (ho.out.stored 1 (.int .i64 (cw (rl.take k) 2 + 1))).1
          go_wp2_with fail
          go_roundw
          case rel =>
            refine ⟨k + 1, by omega, by go_num, ?_, hb.setCell hg1 _⟩
            rw [hx.out]
            exact hst.out
          case measure => simp [intOf]; omega
        · have hx := Lib.hid (cnts_step hlt [cw (rl.take k) 1, cw (rl.take k) 2, cw (rl.take k) 3 + 1, cw (rl.take k) 4] (by simp [hwk]) (by simp [hwk]) (by simp [hwk]) (by simp [hwk]) rfl)
          have hst := Lib.hid (ho.out.stored 2 (.int .i64 (cw (rl.take k) 3 + 1))).1
          go_wp2_with fail
          go_roundw
          case rel =>
            refine ⟨k + 1, by omega, by go_num, ?_, hb.setCell hg1 _⟩
            rw [hx.out]
            exact hst.out
          case measure => simp [intOf]; omega
        · have hx := Lib.hid (cnts_step hlt [cw (rl.take k) 1, cw (rl.take k) 2, cw (rl.take k) 3, cw (rl.take k) 4 + 1] (by simp [hwk]) (by simp [hwk]) (by simp [hwk]) (by simp [hwk]) rfl)
          have hst := Lib.hid (ho.out.stored 3 (.int .i64 (cw (rl.take k) 4 + 1))).1
          go_wp2_with fail
          go_roundw
          case rel =>
            refine ⟨k + 1, by omega, by go_num, ?_, hb.setCell hg1 _⟩
            rw [hx.out]
            exact hst.out
          case measure => simp [intOf]; omega
      · obtain rfl : k = rl.length := by omega
        have ho : Hid (Own wr w.heap.size 3 IntE.enc 1 (.slice (some ⟨w1.heap.size, 0, none⟩) 4 4) (cnts rl)) := by rw [List.take_length] at ho; exact ho
        go_wp2_with fail
        go_ret2
        exact ⟨_, rfl, ho.out, hb⟩
end Go.Proofs.Ytkneockpbfamkaa
