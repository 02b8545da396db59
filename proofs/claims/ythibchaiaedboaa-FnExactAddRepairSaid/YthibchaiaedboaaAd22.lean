/- Repairs: one more is written down. By the program and by the reference. No condition but what a slice may hold. -/
import Derived.Test.YthibchaiaedboaaSr22
import Derived.Test.YthibchaiaedboaaSs22
import Derived.Test.YthibchaiaedboaaHeld
import Derived.Test.YthibchaiaedboaaStep
import Derived.Test.YthibchaiaedboaaCk
import Derived.Lib.SliceRun
import Derived.Outline
import Derived.Deep.Cut
import Derived.Deep.RegionHeld3
namespace Go.Proofs.Ythibchaiaedboaa
open Go.RowKit
def arB (dl : List Dmg) (rl : List Rep) (r : Rep) : Bool := areRep dl rl && areRep dl (rl ++ [r])
def arR (dl : List Dmg) (rl : List Rep) (r : Rep) : List Rep := if arB dl rl r then rl ++ [r] else []
theorem arR_len (dl : List Dmg) (rl : List Rep) (r : Rep) : (arR dl rl r).length ≤ 10000000 := by
  rw [arR]
  split
  · rename_i h
    simp only [arB, areRep, Bool.and_eq_true, decide_eq_true_eq] at h
    have := h.2.2.1
    omega
  · simp
theorem arR_no {dl : List Dmg} {rl : List Rep} {r : Rep} (h : arB dl rl r = false) : arR dl rl r = [] := by rw [arR, h]; rfl
theorem arR_yes {dl : List Dmg} {rl : List Rep} {r : Rep} (h : arB dl rl r = true) : arR dl rl r = rl ++ [r] := by rw [arR, h]; rfl
theorem Rep.one (x : Rep) : ∀ u ∈ x.enc, u.oneCell' = true := by intro u hu; simp [Rep.enc] at hu; rcases hu with rfl | rfl | rfl <;> rfl
set_option maxHeartbeats 1000000 in
theorem cloneRep_c (v : Value) (l : List Rep) (w : World) (h : Sl w Rep.enc 3 v l) (hl : l.length ≤ 1048576) : Calls Try.prog 123 #[v] w (RetOwn w 68 Rep.enc 3 l) := by
  obtain ⟨i, hi, hz0, hz1, hz2⟩ := info_parts (show (Try.prog.info? 68).map (fun i => (i.zero, i.size, i.bytes)) = some (some (.agg #[.int .i64 0, .int .i64 0, .int .i64 0]), 3, 24) by kernel_rfl)
  have hq : ∀ (w : World) (a : Option Addr) (n c n' c' : Nat), (binOp .eql 62 (.slice a n c) (.slice none n' c')).run Try.prog w = .ok (.bool a.isNone) w := fun w a n c n' c' => Lib.run_eql_slice_nil w _ _ a n c n' c' Try.underlying62
  have h0 := h
  obtain ⟨a, cap, b, off, rfl, hlc, hm, hc⟩ := h0
  rcases a with _ | a
  · have hl0 : l = [] := by
      cases l with
      | nil => rfl
      | cons x l => have := (hc 0 (by simp)).1; cases this
    subst hl0
    go_enter Try.func123, Try.ntmps123
    go_wp2_with fail
    go_ret
    exact ⟨_, rfl, Own.nil _ _ _ _ _, Below.refl _ _⟩
  · go_enter Try.func123, Try.ntmps123
    go_wp2_with (at_builtin; refine wpList_cat Rep.len Rep.one rfl _ _ 62 rfl w.heap.size 68 i _ 24 Try.underlying62 hi hz0 hz1 hz2 rfl (by omega) _ [] rfl (Own.empty w _ _ _ _ (Nat.le_refl _)) _ l rfl (h.mono (below_alloc _ _)) (by simp [maxLen]; omega) (by simp; omega) (by simp) ?_)
    intro v' w' h2 h3
    go_wp2_with fail
    go_ret
    exact ⟨v', rfl, by simpa using h2, (below_alloc _ _).grown h3 (by simp) (fun g hg => (Own.empty w w.heap.size 68 Rep.enc 3 (Nat.le_refl _)).bounds g hg |>.1)⟩
set_option maxHeartbeats 4000000 in
set_option maxRecDepth 100000 in
theorem addRepair_c (vd vr : Value) (dl : List Dmg) (rl : List Rep) (r : Rep) (w : World) (hd : Sl w Dmg.enc 4 vd dl) (hr : Sl w Rep.enc 3 vr rl) (hl : rl.length ≤ 1048576) : Calls Try.prog 41 #[vd, vr, .agg #[.int .i64 r.s, .int .i64 r.wk, .int .i64 r.d]] w (RetSlB w 68 Rep.enc 3 (arR dl rl r) (arB dl rl r)) := by
  obtain ⟨i, hi, hz0, hz1, hz2⟩ := info_parts (show (Try.prog.info? 68).map (fun i => (i.zero, i.size, i.bytes)) = some (some (.agg #[.int .i64 0, .int .i64 0, .int .i64 0]), 3, 24) by kernel_rfl)
  have HA := Lib.hid (fun W (hb : Below w.heap.size w W) => areRepairs_c vd vr dl rl W (hd.mono hb) (hr.mono hb))
  have HC := Lib.hid (fun W (hb : Below w.heap.size w W) => cloneRep_c vr rl W (hr.mono hb) hl)
  cases hA : areRep dl rl
  · have hB : Hid (arB dl rl r = false) := (show arB dl rl r = false by rw [arB, hA]; rfl)
    have hE := Lib.hid (arR_no hB.out)
    rw [hA] at HA
    clear hA
    obtain ⟨rs, rk, rd⟩ := r
    go_enter Try.func41, Try.ntmps41
    go_wp2_with (go_at_call 122; refine (HA.out _ (by repeat' (first | exact Below.refl _ _ | with_reducible assumption | refine bext ?_ ?_ _ | refine Below.alloc ?_ ?_ _ | refine Below.setCell ?_ ?_ _ | refine Below.drew ?_ | (simp; done) | (have hbz := hb.size; first | omega | (simp; omega)) | (simp; omega) | omega))).mono ?_; rintro e w' ⟨rfl, hbq⟩; obtain ⟨p, rfl⟩ := ext_of_below hbq; clear hbq)
    go_ret2
    rw [hE.out, hB.out]
    exact ⟨_, rfl, Own.nil _ _ _ _ _, (by repeat' (first | exact Below.refl _ _ | with_reducible assumption | refine bext ?_ ?_ _ | refine Below.alloc ?_ ?_ _ | refine Below.setCell ?_ ?_ _ | refine Below.drew ?_ | (simp; done) | (have hbz := hb.size; first | omega | (simp; omega)) | (simp; omega) | omega))⟩
  · have hB : Hid (arB dl rl r = areRep dl (rl ++ [r])) := (show arB dl rl r = _ by rw [arB, hA]; rfl)
    rw [hA] at HA
    clear hA
    have hB2 := hB
    obtain ⟨rs, rk, rd⟩ := r
    have BX0 := Lib.hid (BoxAt.new w [.int .i64 rs, .int .i64 rk, .int .i64 rd] 68)
    go_enter Try.func41, Try.ntmps41
    go_upto_region 3 with (go_at_call 122; refine (HA.out _ (by repeat' (first | exact Below.refl _ _ | with_reducible assumption | refine bext ?_ ?_ _ | refine Below.alloc ?_ ?_ _ | refine Below.setCell ?_ ?_ _ | refine Below.drew ?_ | (simp; done) | (have hbz := hb.size; first | omega | (simp; omega)) | (simp; omega) | omega))).mono ?_; rintro e w' ⟨rfl, hbq⟩; obtain ⟨p, rfl⟩ := ext_of_below hbq; clear hbq)
    refine wpAt fun W1 hW => ?_
    have BW1 : Below w.heap.size w W1 := by rw [hW]; exact (by repeat' (first | exact Below.refl _ _ | with_reducible assumption | refine bext ?_ ?_ _ | refine Below.alloc ?_ ?_ _ | refine Below.setCell ?_ ?_ _ | refine Below.drew ?_ | (simp; done) | (have hbz := hb.size; first | omega | (simp; omega)) | (simp; omega) | omega))
    have X1 : BoxAt W1 w.heap.size [.int .i64 rs, .int .i64 rk, .int .i64 rd] := by rw [hW]; exact BX0.out.mono (by repeat' (first | exact Below.refl _ _ | with_reducible assumption | refine bext ?_ ?_ _ | refine Below.alloc ?_ ?_ _ | refine Below.setCell ?_ ?_ _ | refine Below.drew ?_ | (simp; done) | (have hbz := hb.size; first | omega | (simp; omega)) | (simp; omega) | omega))
    clear hW BX0
    go_cut [8] from 9 (fun s W => Hid (Own W w.heap.size 68 Rep.enc 3 s (rl ++ [⟨rs, rk, rd⟩])) ∧ Below w.heap.size w W)
    case first =>
      have HS : (Below w.heap.size w W1 ∧ w.heap.size ≤ W1.heap.size) ∧ W1.cell? ⟨w.heap.size, 0, none⟩ = some (.int .i64 rs) ∧ W1.cell? ⟨w.heap.size, 1, none⟩ = some (.int .i64 rk) ∧ W1.cell? ⟨w.heap.size, 2, none⟩ = some (.int .i64 rd) := ⟨⟨BW1, BW1.size⟩, X1.2 0 _ rfl, X1.2 1 _ rfl, X1.2 2 _ rfl⟩
      have D := drewOn W1
      have hx1 := X1.1
      have hz1' := BW1.size
      clear BW1 X1
      go_region_held3 (fun W => (Below w.heap.size w W ∧ w.heap.size ≤ W.heap.size) ∧ W.cell? ⟨w.heap.size, 0, none⟩ = some (.int .i64 rs) ∧ W.cell? ⟨w.heap.size, 1, none⟩ = some (.int .i64 rk) ∧ W.cell? ⟨w.heap.size, 2, none⟩ = some (.int .i64 rd)) (first | assumption | (exact keep3 D HS) | (exact keep3 b8 (by assumption)) | (refine keep3 (below_alloc _ _) (by assumption)) | (exact hK9.out) | fail)
        (first | (go_at_call 123; refine (HC.out _ (And.left (And.left (by assumption : (Below w.heap.size w _ ∧ _) ∧ _)))).mono ?_; rintro e w8 ⟨v8, rfl, o8, b8⟩; have hlt8 : ∀ g, v8.ownBlock = some g → w.heap.size < g := fun g hg => Nat.lt_of_lt_of_le (block_lt_of_cell (And.left (And.right (by assumption : (Below w.heap.size w _ ∧ _) ∧ _)))) (o8.bounds g hg).1; have oq := Lib.hid (Own.lower o8 (And.right (And.left (by assumption : (Below w.heap.size w _ ∧ _) ∧ _)))); clear o8) | (refine step_push Rep.len Rep.one (by rfl) (.tmp 14) (.tmp 16) 62 (by rfl) w.heap.size 68 i _ 24 Try.underlying62 hi hz0 hz1 hz2 (by rfl) (by omega) v8 rl (by rfl) (by first | exact oq.out | exact oq.out.mono (below_alloc _ _)) _ 1 ⟨rs, rk, rd⟩ (by rfl) (by omega) (by unfold maxLen; omega) (by first | exact fun j u hu => new_cells _ [.int .i64 rs, .int .i64 rk, .int .i64 rd] _ _ (by simp) j u hu | exact fun j u hu => cellOn b8 (new_cells _ [.int .i64 rs, .int .i64 rk, .int .i64 rd] _ _ (by simp) j u hu)) (by unfold maxLen; omega) (by omega) (And.right (And.left (by assumption : (Below w.heap.size w _ ∧ _) ∧ _))) ?_; intro v' w3 o3 g3; have B3 : Hid (Below w.heap.size w w3) := below_push (lo := w.heap.size) (B := w.heap.size) (a := w) (And.left (And.left (by assumption : (Below w.heap.size w _ ∧ _) ∧ _))) (by first | exact oq.out | exact oq.out.mono (below_alloc _ _)) g3 (Nat.le_refl _) (And.right (And.left (by assumption : (Below w.heap.size w _ ∧ _) ∧ _))); have hK9 : Hid ((Below w.heap.size w w3 ∧ w.heap.size ≤ w3.heap.size) ∧ w3.cell? ⟨w.heap.size, 0, none⟩ = some (.int .i64 rs) ∧ w3.cell? ⟨w.heap.size, 1, none⟩ = some (.int .i64 rk) ∧ w3.cell? ⟨w.heap.size, 2, none⟩ = some (.int .i64 rd)) := ⟨⟨B3.out, B3.out.size⟩, cellGrown (And.left (And.right (by assumption : (Below w.heap.size w _ ∧ _) ∧ _))) g3 (fun e => Nat.lt_irrefl _ (hlt8 _ e.symm)), cellGrown (And.left (And.right (And.right (by assumption : (Below w.heap.size w _ ∧ _) ∧ _)))) g3 (fun e => Nat.lt_irrefl _ (hlt8 _ e.symm)), cellGrown (And.right (And.right (And.right (by assumption : (Below w.heap.size w _ ∧ _) ∧ _)))) g3 (fun e => Nat.lt_irrefl _ (hlt8 _ e.symm))⟩) | fail)
      all_goals
        have oF := Lib.hid o3
        go_wp2_with fail
        go_meet
        case rel => exact ⟨oF.out, B3.out⟩
    case rest =>
      obtain ⟨hO, hBW⟩ := hcut
      have hzc := hBW.size
      have H2 := areRepairs_c vd _ dl (rl ++ [⟨rs, rk, rd⟩]) wc (hd.mono hBW) (hO.out.sl Rep.len)
      cases hG : areRep dl (rl ++ [⟨rs, rk, rd⟩])
      · rw [hG] at H2 hB
        have hE := Lib.hid (arR_no hB.out)
        replace H2 := Lib.hid H2
        go_wp2_with (go_at_call 122; refine (H2.out).mono ?_; rintro e w' ⟨rfl, hbq⟩; obtain ⟨p, rfl⟩ := ext_of_below hbq; clear hbq)
        go_ret2
        rw [hE.out, hB.out]
        exact ⟨_, rfl, Own.nil _ _ _ _ _, bext hBW hBW.size _⟩
      · rw [hG] at H2 hB
        have hE := Lib.hid (arR_yes hB.out)
        replace H2 := Lib.hid H2
        go_wp2_with (go_at_call 122; refine (H2.out).mono ?_; rintro e w' ⟨rfl, hbq⟩; obtain ⟨p, rfl⟩ := ext_of_below hbq; clear hbq)
        go_ret2
        rw [hE.out, hB.out]
        exact ⟨_, rfl, hO.out.mono (below_ext _ _), bext hBW hBW.size _⟩
end Go.Proofs.Ythibchaiaedboaa
