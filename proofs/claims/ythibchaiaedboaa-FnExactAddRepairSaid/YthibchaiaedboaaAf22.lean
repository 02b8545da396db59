/- Repairs: one more is written down, by the reference. No condition but what a slice may hold. -/
import Derived.Test.YthibchaiaedboaaAd22
namespace Go.Proofs.Ythibchaiaedboaa
open Go.RowKit
set_option maxHeartbeats 4000000 in
set_option maxRecDepth 100000 in
theorem specAddRepair_c (vd vr : Value) (dl : List Dmg) (rl : List Rep) (r : Rep) (w : World) (hd : Sl w Dmg.enc 4 vd dl) (hr : Sl w Rep.enc 3 vr rl) (hl : rl.length ≤ 1048576) : Calls Try.prog 37 #[vd, vr, .agg #[.int .i64 r.s, .int .i64 r.wk, .int .i64 r.d]] w (RetSlB w 68 Rep.enc 3 (arR dl rl r) (arB dl rl r)) := by
  obtain ⟨i, hi, hz0, hz1, hz2⟩ := info_parts (show (Try.prog.info? 68).map (fun i => (i.zero, i.size, i.bytes)) = some (some (.agg #[.int .i64 0, .int .i64 0, .int .i64 0]), 3, 24) by kernel_rfl)
  have HA := Lib.hid (fun W (hb : Below w.heap.size w W) => l22Good_c vd vr dl rl W (hd.mono hb) (hr.mono hb))
  obtain ⟨rs, rk, rd⟩ := r
  have BX0 := Lib.hid (BoxAt.new w [.int .i64 rs, .int .i64 rk, .int .i64 rd] 68)
  go_enter Try.func37, Try.ntmps37
  go_upto_region 1 with fail
  refine wpAt fun W1 hW => ?_
  have BW1 : Below w.heap.size w W1 := by rw [hW]; exact (by repeat' (first | exact Below.refl _ _ | with_reducible assumption | refine bext ?_ ?_ _ | refine Below.alloc ?_ ?_ _ | refine Below.setCell ?_ ?_ _ | refine Below.drew ?_ | (simp; done) | (have hbz := hb.size; first | omega | (simp; omega)) | (simp; omega) | omega))
  have X1 : BoxAt W1 w.heap.size [.int .i64 rs, .int .i64 rk, .int .i64 rd] := by rw [hW]; exact BX0.out.mono (by repeat' (first | exact Below.refl _ _ | with_reducible assumption | refine bext ?_ ?_ _ | refine Below.alloc ?_ ?_ _ | refine Below.setCell ?_ ?_ _ | refine Below.drew ?_ | (simp; done) | (have hbz := hb.size; first | omega | (simp; omega)) | (simp; omega) | omega))
  clear hW BX0
  have hz1' := BW1.size
  have HR := Lib.hid (fun W (hb : Below W1.heap.size W1 W) => hr.mono (BW1.trans (hb.mono hz1')))
  go_cut [8] from 9 (fun s W => Hid (Own W w.heap.size 68 Rep.enc 3 s (rl ++ [⟨rs, rk, rd⟩])) ∧ Below w.heap.size w W)
  case first =>
    have y0 := X1.2 0 _ rfl
    have y1 := X1.2 1 _ rfl
    have y2 := X1.2 2 _ rfl
    have hb := Below.refl W1.heap.size W1
    have hx1 := X1.1
    clear X1
    go_region_law (first | (refine step_cat Rep.len Rep.one (by rfl) (.tmp 9) (.tmp 10) 62 (by rfl) W1.heap.size 68 i _ 24 Try.underlying62 hi hz0 hz1 hz2 (by rfl) (by omega) (.slice (some ⟨W1.heap.size, 0, none⟩) 0 0) ([] : List Rep) (by rfl) (by first | exact Own.mono (Own.emptyAt (by simp) (by simp)) (drewOn _) | exact Own.mono (Own.emptyAt (by simp) (by simp)) (btrans (below_alloc _ _) (drewOn _)) | exact Own.emptyAt (by simp) (by simp) | exact Own.mono (Own.emptyAt (by simp) (by simp)) (below_alloc _ _)) _ rl (by rfl) (HR.out _ (by repeat' (first | exact Below.refl _ _ | with_reducible assumption | refine bext ?_ ?_ _ | refine Below.alloc ?_ ?_ _ | refine Below.setCell ?_ ?_ _ | refine Below.drew ?_ | (simp; done) | (have hbz := hb.size; first | omega | (simp; omega)) | (simp; omega) | omega))) (by unfold maxLen; simp; omega) (by simp; omega) (by first | omega | (simp; done) | (simp; omega) | (have hbz := hb.size; first | omega | (simp; omega))) ?_; intro v1 w1 oa ga; have ba := below_push (lo := W1.heap.size) (B := W1.heap.size) (a := W1) (by repeat' (first | exact Below.refl _ _ | with_reducible assumption | refine bext ?_ ?_ _ | refine Below.alloc ?_ ?_ _ | refine Below.setCell ?_ ?_ _ | refine Below.drew ?_ | (simp; done) | (have hbz := hb.size; first | omega | (simp; omega)) | (simp; omega) | omega)) ((by first | exact Own.mono (Own.emptyAt (by simp) (by simp)) (drewOn _) | exact Own.mono (Own.emptyAt (by simp) (by simp)) (btrans (below_alloc _ _) (drewOn _)) | exact Own.emptyAt (by simp) (by simp) | exact Own.mono (Own.emptyAt (by simp) (by simp)) (below_alloc _ _)) : Own _ W1.heap.size 68 Rep.enc 3 (.slice (some ⟨W1.heap.size, 0, none⟩) 0 0) ([] : List Rep)) ga (Nat.le_refl _) (by first | omega | (simp; done) | (simp; omega) | (have hbz := hb.size; first | omega | (simp; omega))); have za := ba.size; have p0 := cellOn ba y0; have p1 := cellOn ba y1; have p2 := cellOn ba y2) | (refine step_cat Rep.len Rep.one (by rfl) (.tmp 9) (.tmp 10) 62 (by rfl) W1.heap.size 68 i _ 24 Try.underlying62 hi hz0 hz1 hz2 (by rfl) (by omega) (.slice (some ⟨W1.heap.size + 1, 0, none⟩) 0 0) ([] : List Rep) (by rfl) (by first | exact Own.mono (Own.emptyAt (by simp) (by simp)) (drewOn _) | exact Own.mono (Own.emptyAt (by simp) (by simp)) (btrans (below_alloc _ _) (drewOn _)) | exact Own.emptyAt (by simp) (by simp) | exact Own.mono (Own.emptyAt (by simp) (by simp)) (below_alloc _ _)) _ rl (by rfl) (HR.out _ (by repeat' (first | exact Below.refl _ _ | with_reducible assumption | refine bext ?_ ?_ _ | refine Below.alloc ?_ ?_ _ | refine Below.setCell ?_ ?_ _ | refine Below.drew ?_ | (simp; done) | (have hbz := hb.size; first | omega | (simp; omega)) | (simp; omega) | omega))) (by unfold maxLen; simp; omega) (by simp; omega) (by first | omega | (simp; done) | (simp; omega) | (have hbz := hb.size; first | omega | (simp; omega))) ?_; intro v1 w1 oa ga; have ba := below_push (lo := W1.heap.size) (B := W1.heap.size) (a := W1) (by repeat' (first | exact Below.refl _ _ | with_reducible assumption | refine bext ?_ ?_ _ | refine Below.alloc ?_ ?_ _ | refine Below.setCell ?_ ?_ _ | refine Below.drew ?_ | (simp; done) | (have hbz := hb.size; first | omega | (simp; omega)) | (simp; omega) | omega)) ((by first | exact Own.mono (Own.emptyAt (by simp) (by simp)) (drewOn _) | exact Own.mono (Own.emptyAt (by simp) (by simp)) (btrans (below_alloc _ _) (drewOn _)) | exact Own.emptyAt (by simp) (by simp) | exact Own.mono (Own.emptyAt (by simp) (by simp)) (below_alloc _ _)) : Own _ W1.heap.size 68 Rep.enc 3 (.slice (some ⟨W1.heap.size + 1, 0, none⟩) 0 0) ([] : List Rep)) ga (Nat.le_refl _) (by first | omega | (simp; done) | (simp; omega) | (have hbz := hb.size; first | omega | (simp; omega))); have za := ba.size; have p0 := cellOn ba y0; have p1 := cellOn ba y1; have p2 := cellOn ba y2) | (refine step_push Rep.len Rep.one (by rfl) (.tmp 11) (.tmp 13) 62 (by rfl) W1.heap.size 68 i _ 24 Try.underlying62 hi hz0 hz1 hz2 (by rfl) (by omega) v1 ([] ++ rl) (by rfl) (oa.mono (by repeat' (first | exact Below.refl _ _ | with_reducible assumption | refine bext ?_ ?_ _ | refine Below.alloc ?_ ?_ _ | refine Below.setCell ?_ ?_ _ | refine Below.drew ?_ | (simp; done) | (have hbz := hb.size; first | omega | (simp; omega)) | (simp; omega) | omega))) _ 1 ⟨rs, rk, rd⟩ (by rfl) (by omega) (by unfold maxLen; omega) (cells3 (by first | (simp; done) | (refine cellGrown ?_ ga ?_ <;> simp [Value.ownBlock]; done)) (by first | (simp; done) | (refine cellGrown ?_ ga ?_ <;> simp [Value.ownBlock]; done)) (by first | (simp; done) | (refine cellGrown ?_ ga ?_ <;> simp [Value.ownBlock]; done))) (by unfold maxLen; simp; omega) (by simp; omega) (by first | omega | (simp; done) | (simp; omega) | (have hbz := hb.size; first | omega | (simp; omega))) ?_; intro v2 w2 ob gb; have bb := below_push (lo := W1.heap.size) (B := W1.heap.size) (a := W1) (Below.trans ba (by repeat' (first | exact Below.refl _ _ | with_reducible assumption | refine bext ?_ ?_ _ | refine Below.alloc ?_ ?_ _ | refine Below.setCell ?_ ?_ _ | refine Below.drew ?_ | (simp; done) | (have hbz := hb.size; first | omega | (simp; omega)) | (simp; omega) | omega))) (oa.mono (by repeat' (first | exact Below.refl _ _ | with_reducible assumption | refine bext ?_ ?_ _ | refine Below.alloc ?_ ?_ _ | refine Below.setCell ?_ ?_ _ | refine Below.drew ?_ | (simp; done) | (have hbz := hb.size; first | omega | (simp; omega)) | (simp; omega) | omega))) gb (Nat.le_refl _) (by first | omega | (simp; done) | (simp; omega) | (have hbz := hb.size; first | omega | (simp; omega)))) | fail)
    all_goals
      have oF := Lib.hid (ob.lower hz1')
      have B3 := Lib.hid (BW1.trans (bb.mono hz1'))
      clear oa ob ga gb ba bb za
      go_wp2_with fail
      go_meet
      case rel => exact ⟨Lib.hid (by simpa using oF.out), B3.out⟩
  case rest =>
    obtain ⟨hO, hBW⟩ := hcut
    have hzc := hBW.size
    have H2 := Lib.hid (fun W (hb : Below wc.heap.size wc W) => l22Good_c vd _ dl (rl ++ [⟨rs, rk, rd⟩]) W (hd.mono (hBW.trans (hb.mono hzc))) ((hO.out.sl Rep.len).mono hb))
    cases hA : areRep dl rl
    · have hB : Hid (arB dl rl ⟨rs, rk, rd⟩ = false) := (show arB dl rl ⟨rs, rk, rd⟩ = false by rw [arB, hA]; rfl)
      have hE := Lib.hid (arR_no hB.out)
      rw [hA] at HA
      clear hA H2
      go_wp2_with (go_at_call 120; refine (HA.out _ (by repeat' (first | exact Below.refl _ _ | with_reducible assumption | refine bext ?_ ?_ _ | refine Below.alloc ?_ ?_ _ | refine Below.setCell ?_ ?_ _ | refine Below.drew ?_ | (simp; done) | (have hbz := hb.size; first | omega | (simp; omega)) | (simp; omega) | omega))).mono ?_; rintro e w' ⟨rfl, hbq⟩; obtain ⟨q, rfl⟩ := ext_of_below hbq; clear hbq)
      go_ret2
      rw [hE.out, hB.out]
      exact ⟨_, rfl, Own.emptyAt (by simp) (by simp; omega), (bext hBW hzc _).trans ((below_alloc _ _).mono (by simp; omega))⟩
    · cases hG : areRep dl (rl ++ [⟨rs, rk, rd⟩])
      · have hB : Hid (arB dl rl ⟨rs, rk, rd⟩ = false) := (show arB dl rl ⟨rs, rk, rd⟩ = false by rw [arB, hA, hG]; rfl)
        have hE := Lib.hid (arR_no hB.out)
        rw [hA] at HA
        rw [hG] at H2
        clear hA hG
        go_wp2_with (first | (go_at_call 120; refine (HA.out _ (by repeat' (first | exact Below.refl _ _ | with_reducible assumption | refine bext ?_ ?_ _ | refine Below.alloc ?_ ?_ _ | refine Below.setCell ?_ ?_ _ | refine Below.drew ?_ | (simp; done) | (have hbz := hb.size; first | omega | (simp; omega)) | (simp; omega) | omega))).mono ?_; rintro e w' ⟨rfl, hbq⟩; obtain ⟨q, rfl⟩ := ext_of_below hbq; clear hbq HA) | (go_at_call 120; refine (H2.out _ (below_ext _ _)).mono ?_; rintro e w' ⟨rfl, hbq⟩; obtain ⟨q2, rfl⟩ := ext_of_below hbq; clear hbq))
        go_ret2
        rw [hE.out, hB.out]
        exact ⟨_, rfl, Own.emptyAt (by simp) (by simp; omega), (bext (bext hBW hzc _) (by simp; omega) _).trans ((below_alloc _ _).mono (by simp; omega))⟩
      · have hB : Hid (arB dl rl ⟨rs, rk, rd⟩ = true) := (show arB dl rl ⟨rs, rk, rd⟩ = true by rw [arB, hA, hG]; rfl)
        have hE := Lib.hid (arR_yes hB.out)
        rw [hA] at HA
        rw [hG] at H2
        clear hA hG
        go_wp2_with (first | (go_at_call 120; refine (HA.out _ (by repeat' (first | exact Below.refl _ _ | with_reducible assumption | refine bext ?_ ?_ _ | refine Below.alloc ?_ ?_ _ | refine Below.setCell ?_ ?_ _ | refine Below.drew ?_ | (simp; done) | (have hbz := hb.size; first | omega | (simp; omega)) | (simp; omega) | omega))).mono ?_; rintro e w' ⟨rfl, hbq⟩; obtain ⟨q, rfl⟩ := ext_of_below hbq; clear hbq HA) | (go_at_call 120; refine (H2.out _ (below_ext _ _)).mono ?_; rintro e w' ⟨rfl, hbq⟩; obtain ⟨q2, rfl⟩ := ext_of_below hbq; clear hbq))
        go_wp2_with fail
        go_ret2
        rw [hE.out, hB.out]
        exact ⟨_, rfl, (hO.out.mono (below_ext _ _)).mono (below_ext _ _), bext (bext hBW hzc _) (by simp; omega) _⟩
end Go.Proofs.Ythibchaiaedboaa
