/- Repairs: the sheets without a repair. No condition but what a slice may hold. -/
import Derived.Test.YtkneockpbfamkaaCw22
import Derived.Test.YtkneockpbfamkaaG22
namespace Go.Proofs.Ytkneockpbfamkaa
open Go.RowKit
def hasRep (rl : List Rep) (s : Int) : Bool := (findTo (fun i => (gd rl i).s == s) rl.length).isSome
def untB (rl : List Rep) (x : Dmg) : Bool := decide (0 < dmgGrade x) && !hasRep rl x.s
def unts (rl : List Rep) (l : List Dmg) : List Int := (l.filter (untB rl)).map (·.s)
theorem unts_yes {rl : List Rep} {l : List Dmg} {k : Nat} (hk : k < l.length) (h : untB rl (gd l k) = true) : unts rl (l.take (k + 1)) = unts rl (l.take k) ++ [(gd l k).s] := by
  rw [take_succ_gd hk]; simp [unts, List.filter_append, h]
theorem unts_no {rl : List Rep} {l : List Dmg} {k : Nat} (hk : k < l.length) (h : untB rl (gd l k) = false) : unts rl (l.take (k + 1)) = unts rl (l.take k) := by
  rw [take_succ_gd hk]; simp [unts, List.filter_append, h]
theorem unts_len (rl : List Rep) (l : List Dmg) : (unts rl l).length ≤ l.length := by unfold unts; rw [List.length_map]; exact List.length_filter_le _ _
def untR (dl : List Dmg) (rl : List Rep) : List Int := if areRep dl rl then unts rl dl else []
theorem untR_no {dl : List Dmg} {rl : List Rep} (h : areRep dl rl = false) : untR dl rl = [] := by simp [untR, h]
theorem untR_yes {dl : List Dmg} {rl : List Rep} (h : areRep dl rl = true) : untR dl rl = unts rl dl := by simp [untR, h]
theorem areRep_dmg {dl : List Dmg} {rl : List Rep} (h : areRep dl rl = true) : dl.length ≤ 10 ∧ (∀ i, i < dl.length → dmgOk (gd dl i) = true) := by
  simp only [areRep, areDmg, Bool.and_eq_true, decide_eq_true_eq, allTo_iff] at h
  refine ⟨h.1.2, fun i hi => ?_⟩
  have := h.1.1 i hi
  simp only [dmgAt, Bool.and_eq_true] at this
  exact this.1
theorem untR_len (dl : List Dmg) (rl : List Rep) : (untR dl rl).length ≤ 10000000 := by
  unfold untR
  split
  · rename_i h
    have h1 := (areRep_dmg h).1
    have h2 := unts_len rl dl
    omega
  · simp
theorem IntE.one (x : Int) : ∀ u ∈ IntE.enc x, u.oneCell' = true := by intro u hu; simp [IntE.enc] at hu; subst hu; rfl
set_option maxHeartbeats 400000 in
theorem untouched1_c (x0 x1 x2 s : Int) (b : Nat) (W : World) (hc : W.cell? ⟨b, 0, none⟩ = some (.int .i64 s)) : Calls Try.prog 49 #[.agg #[.int .i64 x0, .int .i64 x1, .int .i64 x2], .pointer (some ⟨b, 0, none⟩)] W fun e w' =>
    e = .returned (.bool (x0 == s)) ∧ Below W.heap.size W w' := by
  have hb := block_lt_of_cell hc
  go_enter Try.func49, Try.ntmps49
  go_wp2
  go_ret
  exact ⟨rfl, by go_grown⟩
theorem hasRep_c (vr : Value) (rl : List Rep) (W : World) (b : Nat) (s : Int) (hr : Sl W Rep.enc 3 vr rl) (hc : W.cell? ⟨b, 0, none⟩ = some (.int .i64 s)) (r : Bool) (hh : hasRep rl s = r) :
    Calls Try.prog 48 #[vr, .func (.func 49) #[] #[.pointer (some ⟨b, 0, none⟩)]] W fun e w' => e = .returned (.bool r) ∧ Below W.heap.size W w' := by
  subst hh
  exact containsFuncRep_c vr rl W 49 #[.pointer (some ⟨b, 0, none⟩)] (fun i => (gd rl i).s == s) hr (fun _ _ => by kernel_rfl) (fun i W' hi hB => untouched1_c _ _ _ s b W' ((hB.cell (p := ⟨b, 0, none⟩) (block_lt_of_cell hc)).trans hc))
set_option maxHeartbeats 1000000 in
theorem untouched_c (vd vr : Value) (dl : List Dmg) (rl : List Rep) (w : World) (hd : Sl w Dmg.enc 4 vd dl) (hr : Sl w Rep.enc 3 vr rl) : Calls Try.prog 34 #[vd, vr] w (RetSlB w 3 IntE.enc 1 (untR dl rl) (areRep dl rl)) := by
  have HA := Lib.hid (areRepairs_c vd vr dl rl w hd hr)
  cases hA : areRep dl rl
  · rw [hA] at HA
    rw [untR_no hA]
    clear hA
    go_enter Try.func34, Try.ntmps34
    go_wp2_with (go_at_call 20; refine HA.out.mono ?_; rintro e w' ⟨rfl, hb⟩)
    go_ret2
    exact ⟨_, rfl, Own.nil _ _ _ _ _, hb⟩
  · rw [hA] at HA
    rw [untR_yes hA]
    obtain ⟨hl10, hok⟩ := areRep_dmg hA
    have HK := Lib.hid hok
    clear hA hok
    obtain ⟨a, cap, b, off, rfl, hlc, hm, hc⟩ := hd
    obtain ⟨i, hi, hz0, hz1, hz2⟩ := info_parts (show (Try.prog.info? 3).map (fun i => (i.zero, i.size, i.bytes)) = some (some (.int .i64 0), 1, 8) by kernel_rfl)
    unfold maxLen at hm
    go_enter Try.func34, Try.ntmps34
    go_wp2_with (go_at_call 20; refine HA.out.mono ?_; rintro e w1 ⟨rfl, hb1⟩)
    go_loopw [6, 15] (fun v i wr => ∃ k : Nat, k ≤ dl.length ∧ i = .int .i64 k ∧ Hid (Own wr w.heap.size 3 IntE.enc 1 v (unts rl (dl.take k))) ∧ Below w.heap.size w wr) (fun _ i _ => dl.length - (intOf i).toNat)
    case atStart => exact ⟨0, Nat.zero_le _, rfl, Own.nil _ _ _ _ _, hb1⟩
    case round =>
      obtain ⟨k, hk, rfl, ho, hb⟩ := hrel
      by_cases hlt : k < dl.length
      · obtain ⟨rfl, hbw, c0, c1, c2, c3⟩ := Dmg.at (hc.mono hb) k hlt
        have hR := Lib.hid (hr.mono hb)
        have HG := Lib.hid (fun w => grade_c (gd dl k) w (HK.out k hlt))
        have hul : (unts rl (dl.take k)).length ≤ 10 := by have := unts_len rl (dl.take k); simp at this; omega
        by_cases hgr : 0 < dmgGrade (gd dl k)
        · cases hh : hasRep rl (gd dl k).s
          · have hun := Lib.hid (unts_yes (rl := rl) hlt (by simp [untB, hgr, hh]))
            go_wp2_with (first | (go_at_call 38; refine (HG.out _).mono ?_; rintro e w' ⟨rfl, hbq⟩; obtain ⟨p, rfl⟩ := ext_of_below hbq; clear hbq) | (go_at_call 48; refine (hasRep_c _ rl _ _ _ (hR.out.mono (by repeat' (first | exact Below.refl _ _ | with_reducible assumption | refine bext ?_ ?_ _ | refine Below.alloc ?_ ?_ _ | refine Below.setCell ?_ ?_ _ | refine Below.drew ?_ | (simp; done) | (have hbz := hb.size; first | omega | (simp; omega)) | (simp; omega) | omega))) (by simp [go_sem]) _ hh).mono ?_; rintro e w' ⟨rfl, hbq⟩; obtain ⟨p, rfl⟩ := ext_of_below hbq; clear hbq) | (at_builtin; refine wpList_push IntE.len IntE.one rfl _ _ 52 rfl w.heap.size 3 i _ 8 Try.underlying52 hi hz0 hz1 hz2 rfl (by omega) _ (unts rl (dl.take k)) rfl (ho.out.mono (by repeat' (first | exact Below.refl _ _ | with_reducible assumption | refine bext ?_ ?_ _ | refine Below.alloc ?_ ?_ _ | refine Below.setCell ?_ ?_ _ | refine Below.drew ?_ | (simp; done) | (have hbz := hb.size; first | omega | (simp; omega)) | (simp; omega) | omega))) _ 1 (gd dl k).s rfl (fun j u hu => new_cells _ [.int .i64 (gd dl k).s] _ _ (by simp) j u hu) (by unfold maxLen; omega) (by omega) (by have := hb.size; simp; omega) ?_))
            intro v' w2 ho2 hg2
            have hb2 := below_push (lo := w.heap.size) (B := w.heap.size) (a := w) (by repeat' (first | exact Below.refl _ _ | with_reducible assumption | refine bext ?_ ?_ _ | refine Below.alloc ?_ ?_ _ | refine Below.setCell ?_ ?_ _ | refine Below.drew ?_ | (simp; done) | (have hbz := hb.size; first | omega | (simp; omega)) | (simp; omega) | omega)) (ho.out.mono (by repeat' (first | exact Below.refl _ _ | with_reducible assumption | refine bext ?_ ?_ _ | refine Below.alloc ?_ ?_ _ | refine Below.setCell ?_ ?_ _ | refine Below.drew ?_ | (simp; done) | (have hbz := hb.size; first | omega | (simp; omega)) | (simp; omega) | omega))) hg2 (Nat.le_refl _) (by have := hb.size; simp; omega)
            go_wp2_with fail
            go_roundw
            case rel => exact ⟨k + 1, by omega, by go_num, by rw [hun.out]; exact ho2, hb2⟩
            case measure => simp [intOf]; omega
          · have hun := Lib.hid (unts_no (rl := rl) hlt (by simp [untB, hh]))
            go_wp2_with (first | (go_at_call 38; refine (HG.out _).mono ?_; rintro e w' ⟨rfl, hbq⟩; obtain ⟨p, rfl⟩ := ext_of_below hbq; clear hbq) | (go_at_call 48; refine (hasRep_c _ rl _ _ _ (hR.out.mono (by repeat' (first | exact Below.refl _ _ | with_reducible assumption | refine bext ?_ ?_ _ | refine Below.alloc ?_ ?_ _ | refine Below.setCell ?_ ?_ _ | refine Below.drew ?_ | (simp; done) | (have hbz := hb.size; first | omega | (simp; omega)) | (simp; omega) | omega))) (by simp [go_sem]) _ hh).mono ?_; rintro e w' ⟨rfl, hbq⟩; obtain ⟨p, rfl⟩ := ext_of_below hbq; clear hbq))
            go_roundw
            case rel => exact ⟨k + 1, by omega, by go_num, by rw [hun.out]; exact ho.out.mono (by repeat' (first | exact Below.refl _ _ | with_reducible assumption | refine bext ?_ ?_ _ | refine Below.alloc ?_ ?_ _ | refine Below.setCell ?_ ?_ _ | refine Below.drew ?_ | (simp; done) | (have hbz := hb.size; first | omega | (simp; omega)) | (simp; omega) | omega)), (by repeat' (first | exact Below.refl _ _ | with_reducible assumption | refine bext ?_ ?_ _ | refine Below.alloc ?_ ?_ _ | refine Below.setCell ?_ ?_ _ | refine Below.drew ?_ | (simp; done) | (have hbz := hb.size; first | omega | (simp; omega)) | (simp; omega) | omega))⟩
            case measure => simp [intOf]; omega
        · have hun := Lib.hid (unts_no (rl := rl) hlt (by simp [untB, hgr]))
          go_wp2_with (first | (go_at_call 38; refine (HG.out _).mono ?_; rintro e w' ⟨rfl, hbq⟩; obtain ⟨p, rfl⟩ := ext_of_below hbq; clear hbq))
          go_roundw
          case rel => exact ⟨k + 1, by omega, by go_num, by rw [hun.out]; exact ho.out.mono (by repeat' (first | exact Below.refl _ _ | with_reducible assumption | refine bext ?_ ?_ _ | refine Below.alloc ?_ ?_ _ | refine Below.setCell ?_ ?_ _ | refine Below.drew ?_ | (simp; done) | (have hbz := hb.size; first | omega | (simp; omega)) | (simp; omega) | omega)), (by repeat' (first | exact Below.refl _ _ | with_reducible assumption | refine bext ?_ ?_ _ | refine Below.alloc ?_ ?_ _ | refine Below.setCell ?_ ?_ _ | refine Below.drew ?_ | (simp; done) | (have hbz := hb.size; first | omega | (simp; omega)) | (simp; omega) | omega))⟩
          case measure => simp [intOf]; omega
      · obtain rfl : k = dl.length := by omega
        rw [List.take_length] at ho
        go_wp2_with fail
        go_ret2
        exact ⟨_, rfl, ho.out, hb⟩

def hasTo (rl : List Rep) (s : Int) (n : Nat) : Bool := (findTo (fun i => (gd rl i).s == s) n).isSome
theorem hasTo_succ (rl : List Rep) (s : Int) (n : Nat) : hasTo rl s (n + 1) = (hasTo rl s n || (gd rl n).s == s) := by
  unfold hasTo
  rw [findTo]
  cases findTo (fun i => (gd rl i).s == s) n <;> cases h : ((gd rl n).s == s) <;> simp
set_option maxHeartbeats 2000000 in
theorem specUntouched_c (vd vr : Value) (dl : List Dmg) (rl : List Rep) (w : World) (hd : Sl w Dmg.enc 4 vd dl) (hr : Sl w Rep.enc 3 vr rl) : Calls Try.prog 33 #[vd, vr] w (RetSlB w 3 IntE.enc 1 (untR dl rl) (areRep dl rl)) := by
  have b0 : Below w.heap.size w (w.alloc (.cells #[] 3)) := below_alloc _ _
  have HA := Lib.hid (l22Good_c vd vr dl rl _ (hd.mono b0) (hr.mono b0))
  cases hA : areRep dl rl
  · rw [hA] at HA
    rw [untR_no hA]
    clear hA
    go_enter Try.func33, Try.ntmps33
    go_wp2_with (go_at_call 41; refine HA.out.mono ?_; rintro e w' ⟨rfl, hb⟩)
    go_ret2
    exact ⟨_, rfl, (Own.empty w _ _ _ _ (Nat.le_refl _)).mono hb, btrans b0 hb⟩
  · rw [hA] at HA
    rw [untR_yes hA]
    obtain ⟨hl10, hok⟩ := areRep_dmg hA
    have hl12 := (areRep_spec hA).1
    have HK := Lib.hid hok
    clear hA hok
    obtain ⟨a, cap, b, off, rfl, hlc, hm, hc⟩ := hd
    obtain ⟨a', cap', b', off', rfl, hlc', hm', hc'⟩ := hr
    obtain ⟨i, hi, hz0, hz1, hz2⟩ := info_parts (show (Try.prog.info? 3).map (fun i => (i.zero, i.size, i.bytes)) = some (some (.int .i64 0), 1, 8) by kernel_rfl)
    unfold maxLen at hm hm'
    go_enter Try.func33, Try.ntmps33
    go_wp2_with (go_at_call 41; refine HA.out.mono ?_; rintro e w1 ⟨rfl, hb1⟩)
    have hO : Hid (Own w1 w.heap.size 3 IntE.enc 1 (.slice (some ⟨w.heap.size, 0, none⟩) 0 0) (unts rl (dl.take 0))) := (Own.empty w _ _ _ _ (Nat.le_refl _)).mono hb1
    have hb1 := btrans b0 hb1
    clear b0 HA
    go_loopw [6, 7] (fun v i wr => ∃ k : Nat, k ≤ dl.length ∧ i = .int .i64 k ∧ Hid (Own wr w.heap.size 3 IntE.enc 1 v (unts rl (dl.take k))) ∧ Below w.heap.size w wr) (fun _ i _ => dl.length - (intOf i).toNat)
    case atStart => exact ⟨0, Nat.zero_le _, rfl, hO, hb1⟩
    case round =>
      obtain ⟨k, hk, rfl, ho, hb⟩ := hrel
      by_cases hlt : k < dl.length
      · obtain ⟨wo, rfl⟩ : ∃ wo : World, wo = wr := ⟨_, rfl⟩
        obtain ⟨rfl, hbw, c0, c1, c2, c3⟩ := Dmg.at (hc.mono hb) k hlt
        have HG := Lib.hid (fun w => l22Grade_c (gd dl k) w (HK.out k hlt))
        have hul : (unts rl (dl.take k)).length ≤ 10 := by have := unts_len rl (dl.take k); simp at this; omega
        go_wp2_with fail
        go_loopw [8, 9] (fun v i wr => ∃ j : Nat, j ≤ rl.length ∧ i = .int .i64 j ∧ v = .bool (hasTo rl (gd dl k).s j) ∧ Below wo.heap.size wo wr) (fun _ i _ => rl.length - (intOf i).toNat)
        case atStart => exact ⟨0, Nat.zero_le _, rfl, rfl, Below.refl _ _⟩
        case round =>
          obtain ⟨j, hj, rfl, rfl, hb3⟩ := hrel
          have hb4 := hb.trans (hb3.mono hb.size)
          by_cases hjl : j < rl.length
          · obtain ⟨rfl, hbw', e0, -, -⟩ := Rep.at (hc'.mono hb4) j hjl
            obtain ⟨-, hbw2, c0, c1, c2, c3⟩ := Dmg.at (hc.mono hb4) k hlt
            have hs := hasTo_succ rl (gd dl k).s j
            cases hq : hasTo rl (gd dl k).s j
            all_goals
              rw [hq] at hs
              have hs := Lib.hid hs
              go_wp2_with fail
              refine wp_region_ext (by kernel_rfl) (by kernel_rfl) ?_
              repeat (any_goals (first | go_big_quiet_step (fail)))
              (refine wpQuiet_nil ?_)
              (rintro _ ⟨q, rfl⟩)
              go_wp2_with fail
              go_roundw
              case rel => exact ⟨j + 1, by omega, by go_num, by rw [hs.out]; simp, bext hb3 hb3.size _⟩
              case measure => simp [intOf]; omega
          · obtain rfl : j = rl.length := by omega
            obtain ⟨-, hbw2, c0, c1, c2, c3⟩ := Dmg.at (hc.mono hb4) k hlt
            cases hh : hasRep rl (gd dl k).s
            · have hh2 : hasTo rl (gd dl k).s rl.length = false := hh
              by_cases hgr : 0 < dmgGrade (gd dl k)
              · have hun := Lib.hid (unts_yes (rl := rl) hlt (by simp [untB, hgr, hh]))
                go_wp2_with (first | (go_at_call 36; refine (HG.out _).mono ?_; rintro e w' ⟨rfl, hbq⟩; obtain ⟨p, rfl⟩ := ext_of_below hbq; clear hbq) | (at_builtin; refine wpList_push IntE.len IntE.one rfl _ _ 52 rfl w.heap.size 3 i _ 8 Try.underlying52 hi hz0 hz1 hz2 rfl (by omega) _ (unts rl (dl.take k)) rfl ((ho.out.mono hb3).mono (by repeat' (first | exact Below.refl _ _ | with_reducible assumption | refine bext ?_ ?_ _ | refine Below.alloc ?_ ?_ _ | refine Below.setCell ?_ ?_ _ | refine Below.drew ?_ | (simp; done) | (have hbz := hb.size; first | omega | (simp; omega)) | (simp; omega) | omega))) _ 1 (gd dl k).s rfl (fun j u hu => new_cells _ [.int .i64 (gd dl k).s] _ _ (by simp) j u hu) (by unfold maxLen; omega) (by omega) (by have := hb4.size; simp; omega) ?_))
                intro v' w2 ho2 hg2
                have hb5 := below_push (lo := w.heap.size) (B := w.heap.size) (a := w) (hb4.trans ((by have hb := hb4; exact (by repeat' (first | exact Below.refl _ _ | with_reducible assumption | refine bext ?_ ?_ _ | refine Below.alloc ?_ ?_ _ | refine Below.setCell ?_ ?_ _ | refine Below.drew ?_ | (simp; done) | (have hbz := hb.size; first | omega | (simp; omega)) | (simp; omega) | omega)) : Below wr.heap.size wr _).mono hb4.size)) ((ho.out.mono hb3).mono (by repeat' (first | exact Below.refl _ _ | with_reducible assumption | refine bext ?_ ?_ _ | refine Below.alloc ?_ ?_ _ | refine Below.setCell ?_ ?_ _ | refine Below.drew ?_ | (simp; done) | (have hbz := hb.size; first | omega | (simp; omega)) | (simp; omega) | omega))) hg2 (Nat.le_refl _) (by have := hb4.size; simp; omega)
                go_wp2_with fail
                go_roundw
                case rel => exact ⟨k + 1, by omega, by go_num, by rw [hun.out]; exact ho2, hb5⟩
                case measure => simp [intOf]; omega
              · have hun := Lib.hid (unts_no (rl := rl) hlt (by simp [untB, hgr]))
                go_wp2_with (first | (go_at_call 36; refine (HG.out _).mono ?_; rintro e w' ⟨rfl, hbq⟩; obtain ⟨p, rfl⟩ := ext_of_below hbq; clear hbq))
                go_roundw
                case rel => exact ⟨k + 1, by omega, by go_num, by rw [hun.out]; exact (ho.out.mono hb3).mono (by repeat' (first | exact Below.refl _ _ | with_reducible assumption | refine bext ?_ ?_ _ | refine Below.alloc ?_ ?_ _ | refine Below.setCell ?_ ?_ _ | refine Below.drew ?_ | (simp; done) | (have hbz := hb.size; first | omega | (simp; omega)) | (simp; omega) | omega)), hb4.trans ((by have hb := hb4; exact (by repeat' (first | exact Below.refl _ _ | with_reducible assumption | refine bext ?_ ?_ _ | refine Below.alloc ?_ ?_ _ | refine Below.setCell ?_ ?_ _ | refine Below.drew ?_ | (simp; done) | (have hbz := hb.size; first | omega | (simp; omega)) | (simp; omega) | omega)) : Below wr.heap.size wr _).mono hb4.size)⟩
                case measure => simp [intOf]; omega
            · have hh2 : hasTo rl (gd dl k).s rl.length = true := hh
              have hun := Lib.hid (unts_no (rl := rl) hlt (by simp [untB, hh]))
              go_wp2_with fail
              go_roundw
              case rel => exact ⟨k + 1, by omega, by go_num, by rw [hun.out]; exact ho.out.mono hb3, hb4⟩
              case measure => simp [intOf]; omega
      · obtain rfl : k = dl.length := by omega
        rw [List.take_length] at ho
        go_wp2_with fail
        go_ret2
        exact ⟨_, rfl, ho.out, hb⟩
end Go.Proofs.Ytkneockpbfamkaa
