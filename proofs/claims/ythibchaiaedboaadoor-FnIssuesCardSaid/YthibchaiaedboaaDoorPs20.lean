/- Issues: one is put into a list. By the reference. No condition but what a slice may hold. -/
import Derived.Test.YthibchaiaedboaaDoorTp20
import Derived.Test.YthibchaiaedboaaDoorSe20
import Derived.Test.YthibchaiaedboaaDoorStep
import Derived.Test.YthibchaiaedboaaDoorSd
import Derived.Test.YthibchaiaedboaaDoorCk
import Derived.Outline
import Derived.Deep.Cut
import Derived.Deep.CutBlock
namespace Go.Proofs.YthibchaiaedboaaDoor
open Go.RowKit
theorem l20OneAgg_c (a b c d : Int) (w : World) : Calls Tryd.prog 69 #[.agg #[.int .i64 a, .int .i64 b, .int .i64 c, .int .i64 d]] w fun e w' => e = .returned (.bool (issOk ⟨a, b, c, d⟩)) ∧ Below w.heap.size w w' := l20One_c ⟨a, b, c, d⟩ w
set_option maxHeartbeats 4000000 in
set_option maxRecDepth 100000 in
theorem specPutIssue_c (v : Value) (l : List Iss) (x : Iss) (w : World) (h : Sl w Iss.enc 4 v l) (hl : l.length ≤ 1048576) : Calls Tryd.prog 21 #[v, .agg #[.int .i64 x.s, .int .i64 x.n, .int .i64 x.fr, .int .i64 x.un]] w (RetSlB w 41 Iss.enc 4 (putR l x) (putGood l x)) := by
  obtain ⟨i, hi, hz0, hz1, hz2⟩ := info_parts (show (Tryd.prog.info? 41).map (fun i => (i.zero, i.size, i.bytes)) = some (some (.agg #[.int .i64 0, .int .i64 0, .int .i64 0, .int .i64 0]), 4, 32) by kernel_rfl)
  have HA := Lib.hid (fun W (hb : Below w.heap.size w W) => l20Good_c v l W (h.mono hb))
  obtain ⟨xs, xn, xf, xu⟩ := x
  have BX0 := Lib.hid (BoxAt.new w [.int .i64 xs, .int .i64 xn, .int .i64 xf, .int .i64 xu] 41)
  cases hA : areIss l
  · have hg : putGood l ⟨xs, xn, xf, xu⟩ = false := by simp [putGood, hA]
    have hE := Lib.hid (putR_no hg)
    replace hg := Lib.hid hg
    rw [hA] at HA
    clear hA
    go_enter Tryd.func21, Tryd.ntmps21
    go_wp2_with (go_at_call 56; refine (HA.out _ (by repeat' (first | exact Below.refl _ _ | with_reducible assumption | refine bext ?_ ?_ _ | refine Below.alloc ?_ ?_ _ | refine Below.setCell ?_ ?_ _ | refine Below.drew ?_ | (simp; done) | (have hbz := hb.size; first | omega | (simp; omega)) | (simp; omega) | omega))).mono ?_; rintro e w' ⟨rfl, hbq⟩; obtain ⟨p, rfl⟩ := ext_of_below hbq; clear hbq)
    go_ret2
    rw [hE.out, hg.out]
    exact ⟨_, rfl, Own.emptyAt (by simp) (by simp; omega), (by repeat' (first | exact Below.refl _ _ | with_reducible assumption | refine bext ?_ ?_ _ | refine Below.alloc ?_ ?_ _ | refine Below.setCell ?_ ?_ _ | refine Below.drew ?_ | (simp; done) | (have hbz := hb.size; first | omega | (simp; omega)) | (simp; omega) | omega))⟩
  · have HT := Lib.hid hA
    rw [hA] at HA
    clear hA
    cases hX : issOk ⟨xs, xn, xf, xu⟩
    · have hg := put_bad (l := l) hX
      have hE := Lib.hid (putR_no hg)
      replace hg := Lib.hid hg
      have HX := fun W => l20OneAgg_c xs xn xf xu W
      rw [hX] at HX
      replace HX := Lib.hid HX
      clear hX
      go_enter Tryd.func21, Tryd.ntmps21
      go_wp2_with (first | (go_at_call 56; refine (HA.out _ (by repeat' (first | exact Below.refl _ _ | with_reducible assumption | refine bext ?_ ?_ _ | refine Below.alloc ?_ ?_ _ | refine Below.setCell ?_ ?_ _ | refine Below.drew ?_ | (simp; done) | (have hbz := hb.size; first | omega | (simp; omega)) | (simp; omega) | omega))).mono ?_; rintro e w' ⟨rfl, hbq⟩; obtain ⟨p, rfl⟩ := ext_of_below hbq; clear hbq) | (go_at_call 69; refine (HX.out _).mono ?_; rintro e w' ⟨rfl, hbq⟩; obtain ⟨p, rfl⟩ := ext_of_below hbq; clear hbq))
      go_ret2
      rw [hE.out, hg.out]
      exact ⟨_, rfl, Own.emptyAt (by simp) (by simp; omega), (by repeat' (first | exact Below.refl _ _ | with_reducible assumption | refine bext ?_ ?_ _ | refine Below.alloc ?_ ?_ _ | refine Below.setCell ?_ ?_ _ | refine Below.drew ?_ | (simp; done) | (have hbz := hb.size; first | omega | (simp; omega)) | (simp; omega) | omega))⟩
    · have HX := fun W => l20OneAgg_c xs xn xf xu W
      rw [hX] at HX
      replace HX := Lib.hid HX
      have hXo := Lib.hid hX
      clear hX
      obtain ⟨bx1, bx2, bx3, bx4, -⟩ := issOk_b hXo.out
      simp only at bx1 bx2 bx3 bx4
      obtain ⟨a, cap, b, off, rfl, hlc, hm, hc⟩ := id h
      unfold maxLen at hm
      go_enter Tryd.func21, Tryd.ntmps21
      go_upto_block 0 with (first | (go_at_call 56; refine (HA.out _ (by repeat' (first | exact Below.refl _ _ | with_reducible assumption | refine bext ?_ ?_ _ | refine Below.alloc ?_ ?_ _ | refine Below.setCell ?_ ?_ _ | refine Below.drew ?_ | (simp; done) | (have hbz := hb.size; first | omega | (simp; omega)) | (simp; omega) | omega))).mono ?_; rintro e w' ⟨rfl, hbq⟩; obtain ⟨p, rfl⟩ := ext_of_below hbq; clear hbq) | (go_at_call 69; refine (HX.out _).mono ?_; rintro e w' ⟨rfl, hbq⟩; obtain ⟨p, rfl⟩ := ext_of_below hbq; clear hbq))
      refine wpAt fun W1 hW => ?_
      have BW1 : Below w.heap.size w W1 := by rw [hW]; exact (by repeat' (first | exact Below.refl _ _ | with_reducible assumption | refine bext ?_ ?_ _ | refine Below.alloc ?_ ?_ _ | refine Below.setCell ?_ ?_ _ | refine Below.drew ?_ | (simp; done) | (have hbz := hb.size; first | omega | (simp; omega)) | (simp; omega) | omega))
      have X1 : BoxAt W1 w.heap.size [.int .i64 xs, .int .i64 xn, .int .i64 xf, .int .i64 xu] := by rw [hW]; exact BX0.out.mono (by repeat' (first | exact Below.refl _ _ | with_reducible assumption | refine bext ?_ ?_ _ | refine Below.alloc ?_ ?_ _ | refine Below.setCell ?_ ?_ _ | refine Below.drew ?_ | (simp; done) | (have hbz := hb.size; first | omega | (simp; omega)) | (simp; omega) | omega))
      clear hW BX0
      have hz1' := BW1.size
      go_cut [6] from 18 (fun s W => s = .int .i64 (insPos l ⟨xs, xn, xf, xu⟩ : Int) ∧ Below W1.heap.size W1 W)
      case first =>
        go_wp2_with fail
        go_loopw [6] (fun u wr => ∃ k : Nat, k ≤ l.length ∧ u = .int .i64 k ∧ Hid (∀ q, q < k → issLt (gd l q) ⟨xs, xn, xf, xu⟩ = true) ∧ Below W1.heap.size W1 wr) (fun u _ => l.length - (intOf u).toNat)
        case atStart => exact ⟨0, Nat.zero_le _, rfl, fun q hq => by omega, Below.refl _ _⟩
        case round =>
          obtain ⟨k, hk, rfl, hall, hb⟩ := hrel
          have hzz := hb.size
          have hx1 := X1.1
          have hx2 : w.heap.size < wr.heap.size := by omega
          obtain ⟨y0, y1⟩ : wr.cell? ⟨w.heap.size, 0, none⟩ = some (.int .i64 xs) ∧ wr.cell? ⟨w.heap.size, 1, none⟩ = some (.int .i64 xn) := ⟨cellOn hb (X1.2 0 _ rfl), cellOn hb (X1.2 1 _ rfl)⟩
          by_cases hlt : k < l.length
          · obtain ⟨rfl, hbw, c0, c1, -, -⟩ := Iss.at (hc.mono (BW1.trans (hb.mono hz1'))) k hlt
            have hok := areIss_ok HT.out k hlt
            obtain ⟨e1, e2, e3, e4, -⟩ := issOk_b hok
            cases hcmp : issLt (gd l k) ⟨xs, xn, xf, xu⟩
            · have hpos := Lib.hid (insPos_at hall.out hlt hcmp)
              rw [issLt_hund hok hXo.out] at hcmp
              simp only [decide_eq_false_iff_not] at hcmp
              clear hok
              go_wp2_with fail
              refine wp_region_ext (by kernel_rfl) (by kernel_rfl) ?_
              repeat (any_goals (first | go_big_quiet_step (fail)))
              (refine wpQuiet_nil ?_)
              (rintro _ ⟨q, rfl⟩)
              go_wp2_with fail
              go_meet
              case rel => exact ⟨by rw [hpos.out], (by repeat' (first | exact Below.refl _ _ | with_reducible assumption | refine bext ?_ ?_ _ | refine Below.alloc ?_ ?_ _ | refine Below.setCell ?_ ?_ _ | refine Below.drew ?_ | (simp; done) | (have hbz := hb.size; first | omega | (simp; omega)) | (simp; omega) | omega))⟩
            · have hall2 := Lib.hid (upto_succ hall.out hcmp)
              rw [issLt_hund hok hXo.out] at hcmp
              simp only [decide_eq_true_eq] at hcmp
              clear hok
              go_wp2_with fail
              refine wp_region_ext (by kernel_rfl) (by kernel_rfl) ?_
              repeat (any_goals (first | go_big_quiet_step (fail)))
              (refine wpQuiet_nil ?_)
              (rintro _ ⟨q, rfl⟩)
              go_wp2_with fail
              go_roundw
              case rel => exact ⟨k + 1, by omega, by go_num, hall2.out, (by repeat' (first | exact Below.refl _ _ | with_reducible assumption | refine bext ?_ ?_ _ | refine Below.alloc ?_ ?_ _ | refine Below.setCell ?_ ?_ _ | refine Below.drew ?_ | (simp; done) | (have hbz := hb.size; first | omega | (simp; omega)) | (simp; omega) | omega))⟩
              case measure => simp [intOf]; omega
          · obtain rfl : k = l.length := by omega
            have hpos := Lib.hid (insPos_end hall.out)
            go_wp2_with fail
            refine wp_region_ext (by kernel_rfl) (by kernel_rfl) ?_
            repeat (any_goals (first | go_big_quiet_step (fail)))
            (refine wpQuiet_nil ?_)
            (rintro _ ⟨q, rfl⟩)
            go_wp2_with fail
            go_meet
            case rel => exact ⟨by rw [hpos.out], (by repeat' (first | exact Below.refl _ _ | with_reducible assumption | refine bext ?_ ?_ _ | refine Below.alloc ?_ ?_ _ | refine Below.setCell ?_ ?_ _ | refine Below.drew ?_ | (simp; done) | (have hbz := hb.size; first | omega | (simp; omega)) | (simp; omega) | omega))⟩
      case rest =>
        obtain ⟨rfl, hb⟩ := hcut
        have hbw : Below w.heap.size w wc := BW1.trans (hb.mono hz1')
        have hzw := hbw.size
        have hx0 := X1.1
        have hx1 : w.heap.size < wc.heap.size := by have := hb.size; omega
        obtain ⟨y0, y1, y2, y3⟩ : wc.cell? ⟨w.heap.size, 0, none⟩ = some (.int .i64 xs) ∧ wc.cell? ⟨w.heap.size, 1, none⟩ = some (.int .i64 xn) ∧ wc.cell? ⟨w.heap.size, 2, none⟩ = some (.int .i64 xf) ∧ wc.cell? ⟨w.heap.size, 3, none⟩ = some (.int .i64 xu) := ⟨cellOn hb (X1.2 0 _ rfl), cellOn hb (X1.2 1 _ rfl), cellOn hb (X1.2 2 _ rfl), cellOn hb (X1.2 3 _ rfl)⟩
        have hb := Below.refl wc.heap.size wc
        clear X1 hx0
        have hkl := insPos_le l ⟨xs, xn, xf, xu⟩
        have hPe := Lib.hid (show putL l ⟨xs, xn, xf, xu⟩ = l.take (insPos l ⟨xs, xn, xf, xu⟩) ++ [⟨xs, xn, xf, xu⟩] ++ putRest l ⟨xs, xn, xf, xu⟩ (insPos l ⟨xs, xn, xf, xu⟩) from rfl)
        generalize insPos l ⟨xs, xn, xf, xu⟩ = k at hkl hPe ⊢
        have hkk : k ≤ cap := by omega
        have hkk1 : (k : Int) ≤ (cap : Int) := by omega
        have hkk2 : (k : Int) ≤ (l.length : Int) := by omega
        have hS1 := Lib.hid (fun W (hB : Below wc.heap.size wc W) => (h.mono (hbw.trans (hB.mono hzw))).takeAt (n := k) hkl)
        have h63 : cap ≤ 9223372036854775807 := hm
        by_cases hlt : k < l.length
        · obtain ⟨rfl, -, c0, c1, -, -⟩ := Iss.at (hc.mono hbw) k hlt
          have hbb := (Iss.at (hc.mono hbw) k hlt).2.1
          have hS2 := Lib.hid (fun W (hB : Below wc.heap.size wc W) => (h.mono (hbw.trans (hB.mono hzw))).drop (n := k) hkl)
          have hck : ¬ cap = k := by omega
          have hck2 : ¬ (cap : Int) = (k : Int) := by omega
          have hln : 0 < l.length - k := by omega
          have hln2 : (0 : Int) < ((l.length - k : Nat) : Int) := by omega
          by_cases hsk : (gd l k).s = xs ∧ (gd l k).n = xn
          · have hP : Hid (putL l ⟨xs, xn, xf, xu⟩ = l.take k ++ [⟨xs, xn, xf, xu⟩] ++ l.drop (k + 1)) := by rw [hPe.out, putRest, if_pos ⟨hlt, by simp [sameKey, hsk]⟩]; exact Lib.hid rfl
            obtain ⟨hs1, hs2⟩ := hsk
            rw [hs1] at c0
            rw [hs2] at c1
            clear hs1 hs2
            go_wp2_with fail
            refine wp_region_ext (by kernel_rfl) (by kernel_rfl) ?_
            repeat (any_goals (first | go_big_quiet_step (fail)))
            (refine wpQuiet_nil ?_)
            (rintro _ ⟨q, rfl⟩)
            rcases Classical.em (cap = k + 1) with hc1 | hc1
            · have hS3 : Hid (∀ W, Below wc.heap.size wc W → Sl W Iss.enc 4 (.slice (some ⟨b, off + k * 4, none⟩) 0 0) (l.drop (k + 1))) := fun W _ => by rw [List.drop_of_length_le (by omega)]; exact Sl.none (Nat.zero_le _)
              have hc2 : cap - k = 1 := by omega
              have hl2 : l.length - k = 1 := by omega
              rw [hc2, hl2]
              have hc1h := Lib.hid hc1
              clear hc1
              go_wp2_with fail
              refine wpAt fun W9 e9 => ?_
              have b9 : Below wc.heap.size wc W9 := by rw [e9]; exact (by repeat' (first | exact Below.refl _ _ | with_reducible assumption | refine bext ?_ ?_ _ | refine Below.alloc ?_ ?_ _ | refine Below.setCell ?_ ?_ _ | refine Below.drew ?_ | (simp; done) | (have hbz := hb.size; first | omega | (simp; omega)) | (simp; omega) | omega))
              clear e9
              have hbw9 : Below w.heap.size w W9 := hbw.trans (b9.mono hzw)
              have hzw9 := hbw9.size
              have hx9 : w.heap.size < W9.heap.size := by have := b9.size; omega
              have y0 := cellOn b9 y0
              have y1 := cellOn b9 y1
              have y2 := cellOn b9 y2
              have y3 := cellOn b9 y3
              have hS1 := Lib.hid (fun W (hB : Below W9.heap.size W9 W) => hS1.out W (b9.trans (hB.mono b9.size)))
              have hS3 := Lib.hid (fun W (hB : Below W9.heap.size W9 W) => hS3.out W (b9.trans (hB.mono b9.size)))
              have hb := Below.refl W9.heap.size W9
              go_region_law (first | (refine step_cat Iss.len Iss.one (by rfl) (.tmp 71) (.tmp 74) 24 (by rfl) W9.heap.size 41 i _ 32 Tryd.underlying24 hi hz0 hz1 hz2 (by rfl) (by omega) (.slice (some ⟨W9.heap.size, 0, none⟩) 0 0) ([] : List Iss) (by rfl) (by first | exact Own.mono (Own.emptyAt (by simp) (by simp)) (drewOn _) | exact Own.mono (Own.emptyAt (by simp) (by simp)) (btrans (below_alloc _ _) (drewOn _)) | exact Own.emptyAt (by simp) (by simp) | exact Own.mono (Own.emptyAt (by simp) (by simp)) (below_alloc _ _)) _ (l.take k) (by rfl) (hS1.out _ (by repeat' (first | exact Below.refl _ _ | with_reducible assumption | refine bext ?_ ?_ _ | refine Below.alloc ?_ ?_ _ | refine Below.setCell ?_ ?_ _ | refine Below.drew ?_ | (simp; done) | (have hbz := hb.size; first | omega | (simp; omega)) | (simp; omega) | omega))) (by unfold maxLen; simp; omega) (by simp; omega) (by first | omega | (simp; done) | (simp; omega) | (have hbz := hb.size; first | omega | (simp; omega))) ?_; intro v1 w1 oa ga; have ba := below_push (lo := W9.heap.size) (B := W9.heap.size) (a := W9) (by repeat' (first | exact Below.refl _ _ | with_reducible assumption | refine bext ?_ ?_ _ | refine Below.alloc ?_ ?_ _ | refine Below.setCell ?_ ?_ _ | refine Below.drew ?_ | (simp; done) | (have hbz := hb.size; first | omega | (simp; omega)) | (simp; omega) | omega)) ((by first | exact Own.mono (Own.emptyAt (by simp) (by simp)) (drewOn _) | exact Own.mono (Own.emptyAt (by simp) (by simp)) (btrans (below_alloc _ _) (drewOn _)) | exact Own.emptyAt (by simp) (by simp) | exact Own.mono (Own.emptyAt (by simp) (by simp)) (below_alloc _ _)) : Own _ W9.heap.size 41 Iss.enc 4 (.slice (some ⟨W9.heap.size, 0, none⟩) 0 0) ([] : List Iss)) ga (Nat.le_refl _) (by first | omega | (simp; done) | (simp; omega) | (have hbz := hb.size; first | omega | (simp; omega))); have za := ba.size; have p0 := cellOn ba y0; have p1 := cellOn ba y1; have p2 := cellOn ba y2; have p3 := cellOn ba y3) | (refine step_cat Iss.len Iss.one (by rfl) (.tmp 71) (.tmp 74) 24 (by rfl) W9.heap.size 41 i _ 32 Tryd.underlying24 hi hz0 hz1 hz2 (by rfl) (by omega) (.slice (some ⟨W9.heap.size + 1, 0, none⟩) 0 0) ([] : List Iss) (by rfl) (by first | exact Own.mono (Own.emptyAt (by simp) (by simp)) (drewOn _) | exact Own.mono (Own.emptyAt (by simp) (by simp)) (btrans (below_alloc _ _) (drewOn _)) | exact Own.emptyAt (by simp) (by simp) | exact Own.mono (Own.emptyAt (by simp) (by simp)) (below_alloc _ _)) _ (l.take k) (by rfl) (hS1.out _ (by repeat' (first | exact Below.refl _ _ | with_reducible assumption | refine bext ?_ ?_ _ | refine Below.alloc ?_ ?_ _ | refine Below.setCell ?_ ?_ _ | refine Below.drew ?_ | (simp; done) | (have hbz := hb.size; first | omega | (simp; omega)) | (simp; omega) | omega))) (by unfold maxLen; simp; omega) (by simp; omega) (by first | omega | (simp; done) | (simp; omega) | (have hbz := hb.size; first | omega | (simp; omega))) ?_; intro v1 w1 oa ga; have ba := below_push (lo := W9.heap.size) (B := W9.heap.size) (a := W9) (by repeat' (first | exact Below.refl _ _ | with_reducible assumption | refine bext ?_ ?_ _ | refine Below.alloc ?_ ?_ _ | refine Below.setCell ?_ ?_ _ | refine Below.drew ?_ | (simp; done) | (have hbz := hb.size; first | omega | (simp; omega)) | (simp; omega) | omega)) ((by first | exact Own.mono (Own.emptyAt (by simp) (by simp)) (drewOn _) | exact Own.mono (Own.emptyAt (by simp) (by simp)) (btrans (below_alloc _ _) (drewOn _)) | exact Own.emptyAt (by simp) (by simp) | exact Own.mono (Own.emptyAt (by simp) (by simp)) (below_alloc _ _)) : Own _ W9.heap.size 41 Iss.enc 4 (.slice (some ⟨W9.heap.size + 1, 0, none⟩) 0 0) ([] : List Iss)) ga (Nat.le_refl _) (by first | omega | (simp; done) | (simp; omega) | (have hbz := hb.size; first | omega | (simp; omega))); have za := ba.size; have p0 := cellOn ba y0; have p1 := cellOn ba y1; have p2 := cellOn ba y2; have p3 := cellOn ba y3) | (refine step_push Iss.len Iss.one (by rfl) (.tmp 75) (.tmp 77) 24 (by rfl) W9.heap.size 41 i _ 32 Tryd.underlying24 hi hz0 hz1 hz2 (by rfl) (by omega) v1 ([] ++ l.take k) (by rfl) (oa.mono (by repeat' (first | exact Below.refl _ _ | with_reducible assumption | refine bext ?_ ?_ _ | refine Below.alloc ?_ ?_ _ | refine Below.setCell ?_ ?_ _ | refine Below.drew ?_ | (simp; done) | (have hbz := hb.size; first | omega | (simp; omega)) | (simp; omega) | omega))) _ 1 ⟨xs, xn, xf, xu⟩ (by rfl) (by omega) (by unfold maxLen; omega) (cells4 (by first | (simp; done) | (refine cellGrown ?_ ga ?_ <;> simp [Value.ownBlock]; done)) (by first | (simp; done) | (refine cellGrown ?_ ga ?_ <;> simp [Value.ownBlock]; done)) (by first | (simp; done) | (refine cellGrown ?_ ga ?_ <;> simp [Value.ownBlock]; done)) (by first | (simp; done) | (refine cellGrown ?_ ga ?_ <;> simp [Value.ownBlock]; done))) (by unfold maxLen; simp; omega) (by simp; omega) (by first | omega | (simp; done) | (simp; omega) | (have hbz := hb.size; first | omega | (simp; omega))) ?_; intro v2 w2 ob gb; have bb := below_push (lo := W9.heap.size) (B := W9.heap.size) (a := W9) (Below.trans ba (by repeat' (first | exact Below.refl _ _ | with_reducible assumption | refine bext ?_ ?_ _ | refine Below.alloc ?_ ?_ _ | refine Below.setCell ?_ ?_ _ | refine Below.drew ?_ | (simp; done) | (have hbz := hb.size; first | omega | (simp; omega)) | (simp; omega) | omega))) (oa.mono (by repeat' (first | exact Below.refl _ _ | with_reducible assumption | refine bext ?_ ?_ _ | refine Below.alloc ?_ ?_ _ | refine Below.setCell ?_ ?_ _ | refine Below.drew ?_ | (simp; done) | (have hbz := hb.size; first | omega | (simp; omega)) | (simp; omega) | omega))) gb (Nat.le_refl _) (by first | omega | (simp; done) | (simp; omega) | (have hbz := hb.size; first | omega | (simp; omega))); have zb := bb.size) | (refine step_cat Iss.len Iss.one (by rfl) (.tmp 78) (.tmp 79) 24 (by rfl) W9.heap.size 41 i _ 32 Tryd.underlying24 hi hz0 hz1 hz2 (by rfl) (by omega) v2 (([] ++ l.take k) ++ [⟨xs, xn, xf, xu⟩]) (by rfl) (ob.mono (by repeat' (first | exact Below.refl _ _ | with_reducible assumption | refine bext ?_ ?_ _ | refine Below.alloc ?_ ?_ _ | refine Below.setCell ?_ ?_ _ | refine Below.drew ?_ | (simp; done) | (have hbz := hb.size; first | omega | (simp; omega)) | (simp; omega) | omega))) _ (l.drop (k + 1)) (by rfl) (hS3.out _ (Below.trans bb (by repeat' (first | exact Below.refl _ _ | with_reducible assumption | refine bext ?_ ?_ _ | refine Below.alloc ?_ ?_ _ | refine Below.setCell ?_ ?_ _ | refine Below.drew ?_ | (simp; done) | (have hbz := hb.size; first | omega | (simp; omega)) | (simp; omega) | omega)))) (by unfold maxLen; simp; omega) (by simp; omega) (by first | omega | (simp; done) | (simp; omega) | (have hbz := hb.size; first | omega | (simp; omega))) ?_; intro v3 w3 oc gc; have bc := below_push (lo := W9.heap.size) (B := W9.heap.size) (a := W9) (Below.trans bb (by repeat' (first | exact Below.refl _ _ | with_reducible assumption | refine bext ?_ ?_ _ | refine Below.alloc ?_ ?_ _ | refine Below.setCell ?_ ?_ _ | refine Below.drew ?_ | (simp; done) | (have hbz := hb.size; first | omega | (simp; omega)) | (simp; omega) | omega))) (ob.mono (by repeat' (first | exact Below.refl _ _ | with_reducible assumption | refine bext ?_ ?_ _ | refine Below.alloc ?_ ?_ _ | refine Below.setCell ?_ ?_ _ | refine Below.drew ?_ | (simp; done) | (have hbz := hb.size; first | omega | (simp; omega)) | (simp; omega) | omega))) gc (Nat.le_refl _) (by first | omega | (simp; done) | (simp; omega) | (have hbz := hb.size; first | omega | (simp; omega)))) | fail)
              all_goals
                have hfin := Lib.hid (show (([] ++ l.take k) ++ [⟨xs, xn, xf, xu⟩]) ++ (l.drop (k + 1)) = putL l ⟨xs, xn, xf, xu⟩ by rw [hP.out]; simp)
                rw [hfin.out] at oc
                have B5 : Below w.heap.size w w3 := hbw9.trans (bc.mono hzw9)
                have ho5 := Lib.hid (oc.lower hzw9)
                clear oa ob oc ga gb gc ba bb bc za zb
                have HB := l20Good_c v3 (putL l ⟨xs, xn, xf, xu⟩) w3 (ho5.out.sl Iss.len)
                have hz5 := B5.size
                cases hB : areIss (putL l ⟨xs, xn, xf, xu⟩)
                · have hg : putGood l ⟨xs, xn, xf, xu⟩ = false := by simp [putGood, hB]
                  have hE := Lib.hid (putR_no hg)
                  replace hg := Lib.hid hg
                  rw [hB] at HB
                  clear hB
                  replace HB := Lib.hid HB
                  go_wp2_with (go_at_call 56; refine (HB.out).mono ?_; rintro e w' ⟨rfl, hbq⟩; obtain ⟨p, rfl⟩ := ext_of_below hbq; clear hbq)
                  go_ret2
                  rw [hE.out, hg.out]
                  exact ⟨_, rfl, Own.emptyAt (by simp) (by simp; omega), (bext B5 hz5 _).trans ((below_alloc _ _).mono (by simp; omega))⟩
                · have hg : putGood l ⟨xs, xn, xf, xu⟩ = true := by simp [putGood, hB, HT.out]
                  have hE := Lib.hid (putR_yes hg)
                  replace hg := Lib.hid hg
                  rw [hB] at HB
                  clear hB
                  replace HB := Lib.hid HB
                  go_wp2_with (go_at_call 56; refine (HB.out).mono ?_; rintro e w' ⟨rfl, hbq⟩; obtain ⟨p, rfl⟩ := ext_of_below hbq; clear hbq)
                  go_ret2
                  rw [hE.out, hg.out]
                  exact ⟨_, rfl, ho5.out.mono (below_ext _ _), bext B5 hz5 _⟩
            · have hS3 : Hid (∀ W, Below wc.heap.size wc W → Sl W Iss.enc 4 (.slice (some ⟨b, off + k * 4 + 4, none⟩) (l.length - k - 1) (cap - k - 1)) (l.drop (k + 1))) := fun W hB => by
                have := (h.mono (hbw.trans (hB.mono hzw))).drop (n := k + 1) hlt
                rwa [show off + (k + 1) * 4 = off + k * 4 + 4 by omega, show l.length - (k + 1) = l.length - k - 1 by omega, show cap - (k + 1) = cap - k - 1 by omega] at this
              have hc2 : ¬ (cap - k = 1) := by omega
              go_wp2_with fail
              refine wpAt fun W9 e9 => ?_
              have b9 : Below wc.heap.size wc W9 := by rw [e9]; exact (by repeat' (first | exact Below.refl _ _ | with_reducible assumption | refine bext ?_ ?_ _ | refine Below.alloc ?_ ?_ _ | refine Below.setCell ?_ ?_ _ | refine Below.drew ?_ | (simp; done) | (have hbz := hb.size; first | omega | (simp; omega)) | (simp; omega) | omega))
              clear e9
              have hbw9 : Below w.heap.size w W9 := hbw.trans (b9.mono hzw)
              have hzw9 := hbw9.size
              have hx9 : w.heap.size < W9.heap.size := by have := b9.size; omega
              have y0 := cellOn b9 y0
              have y1 := cellOn b9 y1
              have y2 := cellOn b9 y2
              have y3 := cellOn b9 y3
              have hS1 := Lib.hid (fun W (hB : Below W9.heap.size W9 W) => hS1.out W (b9.trans (hB.mono b9.size)))
              have hS3 := Lib.hid (fun W (hB : Below W9.heap.size W9 W) => hS3.out W (b9.trans (hB.mono b9.size)))
              have hb := Below.refl W9.heap.size W9
              go_region_law (first | (refine step_cat Iss.len Iss.one (by rfl) (.tmp 71) (.tmp 74) 24 (by rfl) W9.heap.size 41 i _ 32 Tryd.underlying24 hi hz0 hz1 hz2 (by rfl) (by omega) (.slice (some ⟨W9.heap.size, 0, none⟩) 0 0) ([] : List Iss) (by rfl) (by first | exact Own.mono (Own.emptyAt (by simp) (by simp)) (drewOn _) | exact Own.mono (Own.emptyAt (by simp) (by simp)) (btrans (below_alloc _ _) (drewOn _)) | exact Own.emptyAt (by simp) (by simp) | exact Own.mono (Own.emptyAt (by simp) (by simp)) (below_alloc _ _)) _ (l.take k) (by rfl) (hS1.out _ (by repeat' (first | exact Below.refl _ _ | with_reducible assumption | refine bext ?_ ?_ _ | refine Below.alloc ?_ ?_ _ | refine Below.setCell ?_ ?_ _ | refine Below.drew ?_ | (simp; done) | (have hbz := hb.size; first | omega | (simp; omega)) | (simp; omega) | omega))) (by unfold maxLen; simp; omega) (by simp; omega) (by first | omega | (simp; done) | (simp; omega) | (have hbz := hb.size; first | omega | (simp; omega))) ?_; intro v1 w1 oa ga; have ba := below_push (lo := W9.heap.size) (B := W9.heap.size) (a := W9) (by repeat' (first | exact Below.refl _ _ | with_reducible assumption | refine bext ?_ ?_ _ | refine Below.alloc ?_ ?_ _ | refine Below.setCell ?_ ?_ _ | refine Below.drew ?_ | (simp; done) | (have hbz := hb.size; first | omega | (simp; omega)) | (simp; omega) | omega)) ((by first | exact Own.mono (Own.emptyAt (by simp) (by simp)) (drewOn _) | exact Own.mono (Own.emptyAt (by simp) (by simp)) (btrans (below_alloc _ _) (drewOn _)) | exact Own.emptyAt (by simp) (by simp) | exact Own.mono (Own.emptyAt (by simp) (by simp)) (below_alloc _ _)) : Own _ W9.heap.size 41 Iss.enc 4 (.slice (some ⟨W9.heap.size, 0, none⟩) 0 0) ([] : List Iss)) ga (Nat.le_refl _) (by first | omega | (simp; done) | (simp; omega) | (have hbz := hb.size; first | omega | (simp; omega))); have za := ba.size; have p0 := cellOn ba y0; have p1 := cellOn ba y1; have p2 := cellOn ba y2; have p3 := cellOn ba y3) | (refine step_cat Iss.len Iss.one (by rfl) (.tmp 71) (.tmp 74) 24 (by rfl) W9.heap.size 41 i _ 32 Tryd.underlying24 hi hz0 hz1 hz2 (by rfl) (by omega) (.slice (some ⟨W9.heap.size + 1, 0, none⟩) 0 0) ([] : List Iss) (by rfl) (by first | exact Own.mono (Own.emptyAt (by simp) (by simp)) (drewOn _) | exact Own.mono (Own.emptyAt (by simp) (by simp)) (btrans (below_alloc _ _) (drewOn _)) | exact Own.emptyAt (by simp) (by simp) | exact Own.mono (Own.emptyAt (by simp) (by simp)) (below_alloc _ _)) _ (l.take k) (by rfl) (hS1.out _ (by repeat' (first | exact Below.refl _ _ | with_reducible assumption | refine bext ?_ ?_ _ | refine Below.alloc ?_ ?_ _ | refine Below.setCell ?_ ?_ _ | refine Below.drew ?_ | (simp; done) | (have hbz := hb.size; first | omega | (simp; omega)) | (simp; omega) | omega))) (by unfold maxLen; simp; omega) (by simp; omega) (by first | omega | (simp; done) | (simp; omega) | (have hbz := hb.size; first | omega | (simp; omega))) ?_; intro v1 w1 oa ga; have ba := below_push (lo := W9.heap.size) (B := W9.heap.size) (a := W9) (by repeat' (first | exact Below.refl _ _ | with_reducible assumption | refine bext ?_ ?_ _ | refine Below.alloc ?_ ?_ _ | refine Below.setCell ?_ ?_ _ | refine Below.drew ?_ | (simp; done) | (have hbz := hb.size; first | omega | (simp; omega)) | (simp; omega) | omega)) ((by first | exact Own.mono (Own.emptyAt (by simp) (by simp)) (drewOn _) | exact Own.mono (Own.emptyAt (by simp) (by simp)) (btrans (below_alloc _ _) (drewOn _)) | exact Own.emptyAt (by simp) (by simp) | exact Own.mono (Own.emptyAt (by simp) (by simp)) (below_alloc _ _)) : Own _ W9.heap.size 41 Iss.enc 4 (.slice (some ⟨W9.heap.size + 1, 0, none⟩) 0 0) ([] : List Iss)) ga (Nat.le_refl _) (by first | omega | (simp; done) | (simp; omega) | (have hbz := hb.size; first | omega | (simp; omega))); have za := ba.size; have p0 := cellOn ba y0; have p1 := cellOn ba y1; have p2 := cellOn ba y2; have p3 := cellOn ba y3) | (refine step_push Iss.len Iss.one (by rfl) (.tmp 75) (.tmp 77) 24 (by rfl) W9.heap.size 41 i _ 32 Tryd.underlying24 hi hz0 hz1 hz2 (by rfl) (by omega) v1 ([] ++ l.take k) (by rfl) (oa.mono (by repeat' (first | exact Below.refl _ _ | with_reducible assumption | refine bext ?_ ?_ _ | refine Below.alloc ?_ ?_ _ | refine Below.setCell ?_ ?_ _ | refine Below.drew ?_ | (simp; done) | (have hbz := hb.size; first | omega | (simp; omega)) | (simp; omega) | omega))) _ 1 ⟨xs, xn, xf, xu⟩ (by rfl) (by omega) (by unfold maxLen; omega) (cells4 (by first | (simp; done) | (refine cellGrown ?_ ga ?_ <;> simp [Value.ownBlock]; done)) (by first | (simp; done) | (refine cellGrown ?_ ga ?_ <;> simp [Value.ownBlock]; done)) (by first | (simp; done) | (refine cellGrown ?_ ga ?_ <;> simp [Value.ownBlock]; done)) (by first | (simp; done) | (refine cellGrown ?_ ga ?_ <;> simp [Value.ownBlock]; done))) (by unfold maxLen; simp; omega) (by simp; omega) (by first | omega | (simp; done) | (simp; omega) | (have hbz := hb.size; first | omega | (simp; omega))) ?_; intro v2 w2 ob gb; have bb := below_push (lo := W9.heap.size) (B := W9.heap.size) (a := W9) (Below.trans ba (by repeat' (first | exact Below.refl _ _ | with_reducible assumption | refine bext ?_ ?_ _ | refine Below.alloc ?_ ?_ _ | refine Below.setCell ?_ ?_ _ | refine Below.drew ?_ | (simp; done) | (have hbz := hb.size; first | omega | (simp; omega)) | (simp; omega) | omega))) (oa.mono (by repeat' (first | exact Below.refl _ _ | with_reducible assumption | refine bext ?_ ?_ _ | refine Below.alloc ?_ ?_ _ | refine Below.setCell ?_ ?_ _ | refine Below.drew ?_ | (simp; done) | (have hbz := hb.size; first | omega | (simp; omega)) | (simp; omega) | omega))) gb (Nat.le_refl _) (by first | omega | (simp; done) | (simp; omega) | (have hbz := hb.size; first | omega | (simp; omega))); have zb := bb.size) | (refine step_cat Iss.len Iss.one (by rfl) (.tmp 78) (.tmp 79) 24 (by rfl) W9.heap.size 41 i _ 32 Tryd.underlying24 hi hz0 hz1 hz2 (by rfl) (by omega) v2 (([] ++ l.take k) ++ [⟨xs, xn, xf, xu⟩]) (by rfl) (ob.mono (by repeat' (first | exact Below.refl _ _ | with_reducible assumption | refine bext ?_ ?_ _ | refine Below.alloc ?_ ?_ _ | refine Below.setCell ?_ ?_ _ | refine Below.drew ?_ | (simp; done) | (have hbz := hb.size; first | omega | (simp; omega)) | (simp; omega) | omega))) _ (l.drop (k + 1)) (by rfl) (hS3.out _ (Below.trans bb (by repeat' (first | exact Below.refl _ _ | with_reducible assumption | refine bext ?_ ?_ _ | refine Below.alloc ?_ ?_ _ | refine Below.setCell ?_ ?_ _ | refine Below.drew ?_ | (simp; done) | (have hbz := hb.size; first | omega | (simp; omega)) | (simp; omega) | omega)))) (by unfold maxLen; simp; omega) (by simp; omega) (by first | omega | (simp; done) | (simp; omega) | (have hbz := hb.size; first | omega | (simp; omega))) ?_; intro v3 w3 oc gc; have bc := below_push (lo := W9.heap.size) (B := W9.heap.size) (a := W9) (Below.trans bb (by repeat' (first | exact Below.refl _ _ | with_reducible assumption | refine bext ?_ ?_ _ | refine Below.alloc ?_ ?_ _ | refine Below.setCell ?_ ?_ _ | refine Below.drew ?_ | (simp; done) | (have hbz := hb.size; first | omega | (simp; omega)) | (simp; omega) | omega))) (ob.mono (by repeat' (first | exact Below.refl _ _ | with_reducible assumption | refine bext ?_ ?_ _ | refine Below.alloc ?_ ?_ _ | refine Below.setCell ?_ ?_ _ | refine Below.drew ?_ | (simp; done) | (have hbz := hb.size; first | omega | (simp; omega)) | (simp; omega) | omega))) gc (Nat.le_refl _) (by first | omega | (simp; done) | (simp; omega) | (have hbz := hb.size; first | omega | (simp; omega)))) | fail)
              all_goals
                have hfin := Lib.hid (show (([] ++ l.take k) ++ [⟨xs, xn, xf, xu⟩]) ++ (l.drop (k + 1)) = putL l ⟨xs, xn, xf, xu⟩ by rw [hP.out]; simp)
                rw [hfin.out] at oc
                have B5 : Below w.heap.size w w3 := hbw9.trans (bc.mono hzw9)
                have ho5 := Lib.hid (oc.lower hzw9)
                clear oa ob oc ga gb gc ba bb bc za zb
                have HB := l20Good_c v3 (putL l ⟨xs, xn, xf, xu⟩) w3 (ho5.out.sl Iss.len)
                have hz5 := B5.size
                cases hB : areIss (putL l ⟨xs, xn, xf, xu⟩)
                · have hg : putGood l ⟨xs, xn, xf, xu⟩ = false := by simp [putGood, hB]
                  have hE := Lib.hid (putR_no hg)
                  replace hg := Lib.hid hg
                  rw [hB] at HB
                  clear hB
                  replace HB := Lib.hid HB
                  go_wp2_with (go_at_call 56; refine (HB.out).mono ?_; rintro e w' ⟨rfl, hbq⟩; obtain ⟨p, rfl⟩ := ext_of_below hbq; clear hbq)
                  go_ret2
                  rw [hE.out, hg.out]
                  exact ⟨_, rfl, Own.emptyAt (by simp) (by simp; omega), (bext B5 hz5 _).trans ((below_alloc _ _).mono (by simp; omega))⟩
                · have hg : putGood l ⟨xs, xn, xf, xu⟩ = true := by simp [putGood, hB, HT.out]
                  have hE := Lib.hid (putR_yes hg)
                  replace hg := Lib.hid hg
                  rw [hB] at HB
                  clear hB
                  replace HB := Lib.hid HB
                  go_wp2_with (go_at_call 56; refine (HB.out).mono ?_; rintro e w' ⟨rfl, hbq⟩; obtain ⟨p, rfl⟩ := ext_of_below hbq; clear hbq)
                  go_ret2
                  rw [hE.out, hg.out]
                  exact ⟨_, rfl, ho5.out.mono (below_ext _ _), bext B5 hz5 _⟩
          · have hP : Hid (putL l ⟨xs, xn, xf, xu⟩ = l.take k ++ [⟨xs, xn, xf, xu⟩] ++ l.drop k) := by
              rw [hPe.out, putRest, if_neg (fun e => hsk (by have := e.2; simpa [sameKey] using this))]; exact Lib.hid rfl
            have hS3 := hS2
            rcases Classical.em ((gd l k).s = xs) with hs1 | hs1
            · have hs2 : ¬ (gd l k).n = xn := fun e => hsk ⟨hs1, e⟩
              rw [hs1] at c0
              have hs3 : ((gd l k).n == xn) = false := by simpa using hs2
              clear hsk hs1
              go_wp2_with fail
              refine wp_region_ext (by kernel_rfl) (by kernel_rfl) ?_
              repeat (any_goals (first | go_big_quiet_step (fail)))
              (refine wpQuiet_nil ?_)
              (rintro _ ⟨q, rfl⟩)
              go_wp2_with fail
              refine wpAt fun W9 e9 => ?_
              have b9 : Below wc.heap.size wc W9 := by rw [e9]; exact (by repeat' (first | exact Below.refl _ _ | with_reducible assumption | refine bext ?_ ?_ _ | refine Below.alloc ?_ ?_ _ | refine Below.setCell ?_ ?_ _ | refine Below.drew ?_ | (simp; done) | (have hbz := hb.size; first | omega | (simp; omega)) | (simp; omega) | omega))
              clear e9
              have hbw9 : Below w.heap.size w W9 := hbw.trans (b9.mono hzw)
              have hzw9 := hbw9.size
              have hx9 : w.heap.size < W9.heap.size := by have := b9.size; omega
              have y0 := cellOn b9 y0
              have y1 := cellOn b9 y1
              have y2 := cellOn b9 y2
              have y3 := cellOn b9 y3
              have hS1 := Lib.hid (fun W (hB : Below W9.heap.size W9 W) => hS1.out W (b9.trans (hB.mono b9.size)))
              have hS3 := Lib.hid (fun W (hB : Below W9.heap.size W9 W) => hS3.out W (b9.trans (hB.mono b9.size)))
              have hb := Below.refl W9.heap.size W9
              go_region_law (first | (refine step_cat Iss.len Iss.one (by rfl) (.tmp 71) (.tmp 74) 24 (by rfl) W9.heap.size 41 i _ 32 Tryd.underlying24 hi hz0 hz1 hz2 (by rfl) (by omega) (.slice (some ⟨W9.heap.size, 0, none⟩) 0 0) ([] : List Iss) (by rfl) (by first | exact Own.mono (Own.emptyAt (by simp) (by simp)) (drewOn _) | exact Own.mono (Own.emptyAt (by simp) (by simp)) (btrans (below_alloc _ _) (drewOn _)) | exact Own.emptyAt (by simp) (by simp) | exact Own.mono (Own.emptyAt (by simp) (by simp)) (below_alloc _ _)) _ (l.take k) (by rfl) (hS1.out _ (by repeat' (first | exact Below.refl _ _ | with_reducible assumption | refine bext ?_ ?_ _ | refine Below.alloc ?_ ?_ _ | refine Below.setCell ?_ ?_ _ | refine Below.drew ?_ | (simp; done) | (have hbz := hb.size; first | omega | (simp; omega)) | (simp; omega) | omega))) (by unfold maxLen; simp; omega) (by simp; omega) (by first | omega | (simp; done) | (simp; omega) | (have hbz := hb.size; first | omega | (simp; omega))) ?_; intro v1 w1 oa ga; have ba := below_push (lo := W9.heap.size) (B := W9.heap.size) (a := W9) (by repeat' (first | exact Below.refl _ _ | with_reducible assumption | refine bext ?_ ?_ _ | refine Below.alloc ?_ ?_ _ | refine Below.setCell ?_ ?_ _ | refine Below.drew ?_ | (simp; done) | (have hbz := hb.size; first | omega | (simp; omega)) | (simp; omega) | omega)) ((by first | exact Own.mono (Own.emptyAt (by simp) (by simp)) (drewOn _) | exact Own.mono (Own.emptyAt (by simp) (by simp)) (btrans (below_alloc _ _) (drewOn _)) | exact Own.emptyAt (by simp) (by simp) | exact Own.mono (Own.emptyAt (by simp) (by simp)) (below_alloc _ _)) : Own _ W9.heap.size 41 Iss.enc 4 (.slice (some ⟨W9.heap.size, 0, none⟩) 0 0) ([] : List Iss)) ga (Nat.le_refl _) (by first | omega | (simp; done) | (simp; omega) | (have hbz := hb.size; first | omega | (simp; omega))); have za := ba.size; have p0 := cellOn ba y0; have p1 := cellOn ba y1; have p2 := cellOn ba y2; have p3 := cellOn ba y3) | (refine step_cat Iss.len Iss.one (by rfl) (.tmp 71) (.tmp 74) 24 (by rfl) W9.heap.size 41 i _ 32 Tryd.underlying24 hi hz0 hz1 hz2 (by rfl) (by omega) (.slice (some ⟨W9.heap.size + 1, 0, none⟩) 0 0) ([] : List Iss) (by rfl) (by first | exact Own.mono (Own.emptyAt (by simp) (by simp)) (drewOn _) | exact Own.mono (Own.emptyAt (by simp) (by simp)) (btrans (below_alloc _ _) (drewOn _)) | exact Own.emptyAt (by simp) (by simp) | exact Own.mono (Own.emptyAt (by simp) (by simp)) (below_alloc _ _)) _ (l.take k) (by rfl) (hS1.out _ (by repeat' (first | exact Below.refl _ _ | with_reducible assumption | refine bext ?_ ?_ _ | refine Below.alloc ?_ ?_ _ | refine Below.setCell ?_ ?_ _ | refine Below.drew ?_ | (simp; done) | (have hbz := hb.size; first | omega | (simp; omega)) | (simp; omega) | omega))) (by unfold maxLen; simp; omega) (by simp; omega) (by first | omega | (simp; done) | (simp; omega) | (have hbz := hb.size; first | omega | (simp; omega))) ?_; intro v1 w1 oa ga; have ba := below_push (lo := W9.heap.size) (B := W9.heap.size) (a := W9) (by repeat' (first | exact Below.refl _ _ | with_reducible assumption | refine bext ?_ ?_ _ | refine Below.alloc ?_ ?_ _ | refine Below.setCell ?_ ?_ _ | refine Below.drew ?_ | (simp; done) | (have hbz := hb.size; first | omega | (simp; omega)) | (simp; omega) | omega)) ((by first | exact Own.mono (Own.emptyAt (by simp) (by simp)) (drewOn _) | exact Own.mono (Own.emptyAt (by simp) (by simp)) (btrans (below_alloc _ _) (drewOn _)) | exact Own.emptyAt (by simp) (by simp) | exact Own.mono (Own.emptyAt (by simp) (by simp)) (below_alloc _ _)) : Own _ W9.heap.size 41 Iss.enc 4 (.slice (some ⟨W9.heap.size + 1, 0, none⟩) 0 0) ([] : List Iss)) ga (Nat.le_refl _) (by first | omega | (simp; done) | (simp; omega) | (have hbz := hb.size; first | omega | (simp; omega))); have za := ba.size; have p0 := cellOn ba y0; have p1 := cellOn ba y1; have p2 := cellOn ba y2; have p3 := cellOn ba y3) | (refine step_push Iss.len Iss.one (by rfl) (.tmp 75) (.tmp 77) 24 (by rfl) W9.heap.size 41 i _ 32 Tryd.underlying24 hi hz0 hz1 hz2 (by rfl) (by omega) v1 ([] ++ l.take k) (by rfl) (oa.mono (by repeat' (first | exact Below.refl _ _ | with_reducible assumption | refine bext ?_ ?_ _ | refine Below.alloc ?_ ?_ _ | refine Below.setCell ?_ ?_ _ | refine Below.drew ?_ | (simp; done) | (have hbz := hb.size; first | omega | (simp; omega)) | (simp; omega) | omega))) _ 1 ⟨xs, xn, xf, xu⟩ (by rfl) (by omega) (by unfold maxLen; omega) (cells4 (by first | (simp; done) | (refine cellGrown ?_ ga ?_ <;> simp [Value.ownBlock]; done)) (by first | (simp; done) | (refine cellGrown ?_ ga ?_ <;> simp [Value.ownBlock]; done)) (by first | (simp; done) | (refine cellGrown ?_ ga ?_ <;> simp [Value.ownBlock]; done)) (by first | (simp; done) | (refine cellGrown ?_ ga ?_ <;> simp [Value.ownBlock]; done))) (by unfold maxLen; simp; omega) (by simp; omega) (by first | omega | (simp; done) | (simp; omega) | (have hbz := hb.size; first | omega | (simp; omega))) ?_; intro v2 w2 ob gb; have bb := below_push (lo := W9.heap.size) (B := W9.heap.size) (a := W9) (Below.trans ba (by repeat' (first | exact Below.refl _ _ | with_reducible assumption | refine bext ?_ ?_ _ | refine Below.alloc ?_ ?_ _ | refine Below.setCell ?_ ?_ _ | refine Below.drew ?_ | (simp; done) | (have hbz := hb.size; first | omega | (simp; omega)) | (simp; omega) | omega))) (oa.mono (by repeat' (first | exact Below.refl _ _ | with_reducible assumption | refine bext ?_ ?_ _ | refine Below.alloc ?_ ?_ _ | refine Below.setCell ?_ ?_ _ | refine Below.drew ?_ | (simp; done) | (have hbz := hb.size; first | omega | (simp; omega)) | (simp; omega) | omega))) gb (Nat.le_refl _) (by first | omega | (simp; done) | (simp; omega) | (have hbz := hb.size; first | omega | (simp; omega))); have zb := bb.size) | (refine step_cat Iss.len Iss.one (by rfl) (.tmp 78) (.tmp 79) 24 (by rfl) W9.heap.size 41 i _ 32 Tryd.underlying24 hi hz0 hz1 hz2 (by rfl) (by omega) v2 (([] ++ l.take k) ++ [⟨xs, xn, xf, xu⟩]) (by rfl) (ob.mono (by repeat' (first | exact Below.refl _ _ | with_reducible assumption | refine bext ?_ ?_ _ | refine Below.alloc ?_ ?_ _ | refine Below.setCell ?_ ?_ _ | refine Below.drew ?_ | (simp; done) | (have hbz := hb.size; first | omega | (simp; omega)) | (simp; omega) | omega))) _ (l.drop k) (by rfl) (hS3.out _ (Below.trans bb (by repeat' (first | exact Below.refl _ _ | with_reducible assumption | refine bext ?_ ?_ _ | refine Below.alloc ?_ ?_ _ | refine Below.setCell ?_ ?_ _ | refine Below.drew ?_ | (simp; done) | (have hbz := hb.size; first | omega | (simp; omega)) | (simp; omega) | omega)))) (by unfold maxLen; simp; omega) (by simp; omega) (by first | omega | (simp; done) | (simp; omega) | (have hbz := hb.size; first | omega | (simp; omega))) ?_; intro v3 w3 oc gc; have bc := below_push (lo := W9.heap.size) (B := W9.heap.size) (a := W9) (Below.trans bb (by repeat' (first | exact Below.refl _ _ | with_reducible assumption | refine bext ?_ ?_ _ | refine Below.alloc ?_ ?_ _ | refine Below.setCell ?_ ?_ _ | refine Below.drew ?_ | (simp; done) | (have hbz := hb.size; first | omega | (simp; omega)) | (simp; omega) | omega))) (ob.mono (by repeat' (first | exact Below.refl _ _ | with_reducible assumption | refine bext ?_ ?_ _ | refine Below.alloc ?_ ?_ _ | refine Below.setCell ?_ ?_ _ | refine Below.drew ?_ | (simp; done) | (have hbz := hb.size; first | omega | (simp; omega)) | (simp; omega) | omega))) gc (Nat.le_refl _) (by first | omega | (simp; done) | (simp; omega) | (have hbz := hb.size; first | omega | (simp; omega)))) | fail)
              all_goals
                have hfin := Lib.hid (show (([] ++ l.take k) ++ [⟨xs, xn, xf, xu⟩]) ++ (l.drop k) = putL l ⟨xs, xn, xf, xu⟩ by rw [hP.out]; simp)
                rw [hfin.out] at oc
                have B5 : Below w.heap.size w w3 := hbw9.trans (bc.mono hzw9)
                have ho5 := Lib.hid (oc.lower hzw9)
                clear oa ob oc ga gb gc ba bb bc za zb
                have HB := l20Good_c v3 (putL l ⟨xs, xn, xf, xu⟩) w3 (ho5.out.sl Iss.len)
                have hz5 := B5.size
                cases hB : areIss (putL l ⟨xs, xn, xf, xu⟩)
                · have hg : putGood l ⟨xs, xn, xf, xu⟩ = false := by simp [putGood, hB]
                  have hE := Lib.hid (putR_no hg)
                  replace hg := Lib.hid hg
                  rw [hB] at HB
                  clear hB
                  replace HB := Lib.hid HB
                  go_wp2_with (go_at_call 56; refine (HB.out).mono ?_; rintro e w' ⟨rfl, hbq⟩; obtain ⟨p, rfl⟩ := ext_of_below hbq; clear hbq)
                  go_ret2
                  rw [hE.out, hg.out]
                  exact ⟨_, rfl, Own.emptyAt (by simp) (by simp; omega), (bext B5 hz5 _).trans ((below_alloc _ _).mono (by simp; omega))⟩
                · have hg : putGood l ⟨xs, xn, xf, xu⟩ = true := by simp [putGood, hB, HT.out]
                  have hE := Lib.hid (putR_yes hg)
                  replace hg := Lib.hid hg
                  rw [hB] at HB
                  clear hB
                  replace HB := Lib.hid HB
                  go_wp2_with (go_at_call 56; refine (HB.out).mono ?_; rintro e w' ⟨rfl, hbq⟩; obtain ⟨p, rfl⟩ := ext_of_below hbq; clear hbq)
                  go_ret2
                  rw [hE.out, hg.out]
                  exact ⟨_, rfl, ho5.out.mono (below_ext _ _), bext B5 hz5 _⟩
            · have hs3 : ((gd l k).s == xs) = false := by simpa using hs1
              clear hsk
              go_wp2_with fail
              refine wp_region_ext (by kernel_rfl) (by kernel_rfl) ?_
              repeat (any_goals (first | go_big_quiet_step (fail)))
              (refine wpQuiet_nil ?_)
              (rintro _ ⟨q, rfl⟩)
              go_wp2_with fail
              refine wpAt fun W9 e9 => ?_
              have b9 : Below wc.heap.size wc W9 := by rw [e9]; exact (by repeat' (first | exact Below.refl _ _ | with_reducible assumption | refine bext ?_ ?_ _ | refine Below.alloc ?_ ?_ _ | refine Below.setCell ?_ ?_ _ | refine Below.drew ?_ | (simp; done) | (have hbz := hb.size; first | omega | (simp; omega)) | (simp; omega) | omega))
              clear e9
              have hbw9 : Below w.heap.size w W9 := hbw.trans (b9.mono hzw)
              have hzw9 := hbw9.size
              have hx9 : w.heap.size < W9.heap.size := by have := b9.size; omega
              have y0 := cellOn b9 y0
              have y1 := cellOn b9 y1
              have y2 := cellOn b9 y2
              have y3 := cellOn b9 y3
              have hS1 := Lib.hid (fun W (hB : Below W9.heap.size W9 W) => hS1.out W (b9.trans (hB.mono b9.size)))
              have hS3 := Lib.hid (fun W (hB : Below W9.heap.size W9 W) => hS3.out W (b9.trans (hB.mono b9.size)))
              have hb := Below.refl W9.heap.size W9
              go_region_law (first | (refine step_cat Iss.len Iss.one (by rfl) (.tmp 71) (.tmp 74) 24 (by rfl) W9.heap.size 41 i _ 32 Tryd.underlying24 hi hz0 hz1 hz2 (by rfl) (by omega) (.slice (some ⟨W9.heap.size, 0, none⟩) 0 0) ([] : List Iss) (by rfl) (by first | exact Own.mono (Own.emptyAt (by simp) (by simp)) (drewOn _) | exact Own.mono (Own.emptyAt (by simp) (by simp)) (btrans (below_alloc _ _) (drewOn _)) | exact Own.emptyAt (by simp) (by simp) | exact Own.mono (Own.emptyAt (by simp) (by simp)) (below_alloc _ _)) _ (l.take k) (by rfl) (hS1.out _ (by repeat' (first | exact Below.refl _ _ | with_reducible assumption | refine bext ?_ ?_ _ | refine Below.alloc ?_ ?_ _ | refine Below.setCell ?_ ?_ _ | refine Below.drew ?_ | (simp; done) | (have hbz := hb.size; first | omega | (simp; omega)) | (simp; omega) | omega))) (by unfold maxLen; simp; omega) (by simp; omega) (by first | omega | (simp; done) | (simp; omega) | (have hbz := hb.size; first | omega | (simp; omega))) ?_; intro v1 w1 oa ga; have ba := below_push (lo := W9.heap.size) (B := W9.heap.size) (a := W9) (by repeat' (first | exact Below.refl _ _ | with_reducible assumption | refine bext ?_ ?_ _ | refine Below.alloc ?_ ?_ _ | refine Below.setCell ?_ ?_ _ | refine Below.drew ?_ | (simp; done) | (have hbz := hb.size; first | omega | (simp; omega)) | (simp; omega) | omega)) ((by first | exact Own.mono (Own.emptyAt (by simp) (by simp)) (drewOn _) | exact Own.mono (Own.emptyAt (by simp) (by simp)) (btrans (below_alloc _ _) (drewOn _)) | exact Own.emptyAt (by simp) (by simp) | exact Own.mono (Own.emptyAt (by simp) (by simp)) (below_alloc _ _)) : Own _ W9.heap.size 41 Iss.enc 4 (.slice (some ⟨W9.heap.size, 0, none⟩) 0 0) ([] : List Iss)) ga (Nat.le_refl _) (by first | omega | (simp; done) | (simp; omega) | (have hbz := hb.size; first | omega | (simp; omega))); have za := ba.size; have p0 := cellOn ba y0; have p1 := cellOn ba y1; have p2 := cellOn ba y2; have p3 := cellOn ba y3) | (refine step_cat Iss.len Iss.one (by rfl) (.tmp 71) (.tmp 74) 24 (by rfl) W9.heap.size 41 i _ 32 Tryd.underlying24 hi hz0 hz1 hz2 (by rfl) (by omega) (.slice (some ⟨W9.heap.size + 1, 0, none⟩) 0 0) ([] : List Iss) (by rfl) (by first | exact Own.mono (Own.emptyAt (by simp) (by simp)) (drewOn _) | exact Own.mono (Own.emptyAt (by simp) (by simp)) (btrans (below_alloc _ _) (drewOn _)) | exact Own.emptyAt (by simp) (by simp) | exact Own.mono (Own.emptyAt (by simp) (by simp)) (below_alloc _ _)) _ (l.take k) (by rfl) (hS1.out _ (by repeat' (first | exact Below.refl _ _ | with_reducible assumption | refine bext ?_ ?_ _ | refine Below.alloc ?_ ?_ _ | refine Below.setCell ?_ ?_ _ | refine Below.drew ?_ | (simp; done) | (have hbz := hb.size; first | omega | (simp; omega)) | (simp; omega) | omega))) (by unfold maxLen; simp; omega) (by simp; omega) (by first | omega | (simp; done) | (simp; omega) | (have hbz := hb.size; first | omega | (simp; omega))) ?_; intro v1 w1 oa ga; have ba := below_push (lo := W9.heap.size) (B := W9.heap.size) (a := W9) (by repeat' (first | exact Below.refl _ _ | with_reducible assumption | refine bext ?_ ?_ _ | refine Below.alloc ?_ ?_ _ | refine Below.setCell ?_ ?_ _ | refine Below.drew ?_ | (simp; done) | (have hbz := hb.size; first | omega | (simp; omega)) | (simp; omega) | omega)) ((by first | exact Own.mono (Own.emptyAt (by simp) (by simp)) (drewOn _) | exact Own.mono (Own.emptyAt (by simp) (by simp)) (btrans (below_alloc _ _) (drewOn _)) | exact Own.emptyAt (by simp) (by simp) | exact Own.mono (Own.emptyAt (by simp) (by simp)) (below_alloc _ _)) : Own _ W9.heap.size 41 Iss.enc 4 (.slice (some ⟨W9.heap.size + 1, 0, none⟩) 0 0) ([] : List Iss)) ga (Nat.le_refl _) (by first | omega | (simp; done) | (simp; omega) | (have hbz := hb.size; first | omega | (simp; omega))); have za := ba.size; have p0 := cellOn ba y0; have p1 := cellOn ba y1; have p2 := cellOn ba y2; have p3 := cellOn ba y3) | (refine step_push Iss.len Iss.one (by rfl) (.tmp 75) (.tmp 77) 24 (by rfl) W9.heap.size 41 i _ 32 Tryd.underlying24 hi hz0 hz1 hz2 (by rfl) (by omega) v1 ([] ++ l.take k) (by rfl) (oa.mono (by repeat' (first | exact Below.refl _ _ | with_reducible assumption | refine bext ?_ ?_ _ | refine Below.alloc ?_ ?_ _ | refine Below.setCell ?_ ?_ _ | refine Below.drew ?_ | (simp; done) | (have hbz := hb.size; first | omega | (simp; omega)) | (simp; omega) | omega))) _ 1 ⟨xs, xn, xf, xu⟩ (by rfl) (by omega) (by unfold maxLen; omega) (cells4 (by first | (simp; done) | (refine cellGrown ?_ ga ?_ <;> simp [Value.ownBlock]; done)) (by first | (simp; done) | (refine cellGrown ?_ ga ?_ <;> simp [Value.ownBlock]; done)) (by first | (simp; done) | (refine cellGrown ?_ ga ?_ <;> simp [Value.ownBlock]; done)) (by first | (simp; done) | (refine cellGrown ?_ ga ?_ <;> simp [Value.ownBlock]; done))) (by unfold maxLen; simp; omega) (by simp; omega) (by first | omega | (simp; done) | (simp; omega) | (have hbz := hb.size; first | omega | (simp; omega))) ?_; intro v2 w2 ob gb; have bb := below_push (lo := W9.heap.size) (B := W9.heap.size) (a := W9) (Below.trans ba (by repeat' (first | exact Below.refl _ _ | with_reducible assumption | refine bext ?_ ?_ _ | refine Below.alloc ?_ ?_ _ | refine Below.setCell ?_ ?_ _ | refine Below.drew ?_ | (simp; done) | (have hbz := hb.size; first | omega | (simp; omega)) | (simp; omega) | omega))) (oa.mono (by repeat' (first | exact Below.refl _ _ | with_reducible assumption | refine bext ?_ ?_ _ | refine Below.alloc ?_ ?_ _ | refine Below.setCell ?_ ?_ _ | refine Below.drew ?_ | (simp; done) | (have hbz := hb.size; first | omega | (simp; omega)) | (simp; omega) | omega))) gb (Nat.le_refl _) (by first | omega | (simp; done) | (simp; omega) | (have hbz := hb.size; first | omega | (simp; omega))); have zb := bb.size) | (refine step_cat Iss.len Iss.one (by rfl) (.tmp 78) (.tmp 79) 24 (by rfl) W9.heap.size 41 i _ 32 Tryd.underlying24 hi hz0 hz1 hz2 (by rfl) (by omega) v2 (([] ++ l.take k) ++ [⟨xs, xn, xf, xu⟩]) (by rfl) (ob.mono (by repeat' (first | exact Below.refl _ _ | with_reducible assumption | refine bext ?_ ?_ _ | refine Below.alloc ?_ ?_ _ | refine Below.setCell ?_ ?_ _ | refine Below.drew ?_ | (simp; done) | (have hbz := hb.size; first | omega | (simp; omega)) | (simp; omega) | omega))) _ (l.drop k) (by rfl) (hS3.out _ (Below.trans bb (by repeat' (first | exact Below.refl _ _ | with_reducible assumption | refine bext ?_ ?_ _ | refine Below.alloc ?_ ?_ _ | refine Below.setCell ?_ ?_ _ | refine Below.drew ?_ | (simp; done) | (have hbz := hb.size; first | omega | (simp; omega)) | (simp; omega) | omega)))) (by unfold maxLen; simp; omega) (by simp; omega) (by first | omega | (simp; done) | (simp; omega) | (have hbz := hb.size; first | omega | (simp; omega))) ?_; intro v3 w3 oc gc; have bc := below_push (lo := W9.heap.size) (B := W9.heap.size) (a := W9) (Below.trans bb (by repeat' (first | exact Below.refl _ _ | with_reducible assumption | refine bext ?_ ?_ _ | refine Below.alloc ?_ ?_ _ | refine Below.setCell ?_ ?_ _ | refine Below.drew ?_ | (simp; done) | (have hbz := hb.size; first | omega | (simp; omega)) | (simp; omega) | omega))) (ob.mono (by repeat' (first | exact Below.refl _ _ | with_reducible assumption | refine bext ?_ ?_ _ | refine Below.alloc ?_ ?_ _ | refine Below.setCell ?_ ?_ _ | refine Below.drew ?_ | (simp; done) | (have hbz := hb.size; first | omega | (simp; omega)) | (simp; omega) | omega))) gc (Nat.le_refl _) (by first | omega | (simp; done) | (simp; omega) | (have hbz := hb.size; first | omega | (simp; omega)))) | fail)
              all_goals
                have hfin := Lib.hid (show (([] ++ l.take k) ++ [⟨xs, xn, xf, xu⟩]) ++ (l.drop k) = putL l ⟨xs, xn, xf, xu⟩ by rw [hP.out]; simp)
                rw [hfin.out] at oc
                have B5 : Below w.heap.size w w3 := hbw9.trans (bc.mono hzw9)
                have ho5 := Lib.hid (oc.lower hzw9)
                clear oa ob oc ga gb gc ba bb bc za zb
                have HB := l20Good_c v3 (putL l ⟨xs, xn, xf, xu⟩) w3 (ho5.out.sl Iss.len)
                have hz5 := B5.size
                cases hB : areIss (putL l ⟨xs, xn, xf, xu⟩)
                · have hg : putGood l ⟨xs, xn, xf, xu⟩ = false := by simp [putGood, hB]
                  have hE := Lib.hid (putR_no hg)
                  replace hg := Lib.hid hg
                  rw [hB] at HB
                  clear hB
                  replace HB := Lib.hid HB
                  go_wp2_with (go_at_call 56; refine (HB.out).mono ?_; rintro e w' ⟨rfl, hbq⟩; obtain ⟨p, rfl⟩ := ext_of_below hbq; clear hbq)
                  go_ret2
                  rw [hE.out, hg.out]
                  exact ⟨_, rfl, Own.emptyAt (by simp) (by simp; omega), (bext B5 hz5 _).trans ((below_alloc _ _).mono (by simp; omega))⟩
                · have hg : putGood l ⟨xs, xn, xf, xu⟩ = true := by simp [putGood, hB, HT.out]
                  have hE := Lib.hid (putR_yes hg)
                  replace hg := Lib.hid hg
                  rw [hB] at HB
                  clear hB
                  replace HB := Lib.hid HB
                  go_wp2_with (go_at_call 56; refine (HB.out).mono ?_; rintro e w' ⟨rfl, hbq⟩; obtain ⟨p, rfl⟩ := ext_of_below hbq; clear hbq)
                  go_ret2
                  rw [hE.out, hg.out]
                  exact ⟨_, rfl, ho5.out.mono (below_ext _ _), bext B5 hz5 _⟩
        · obtain rfl : k = l.length := by omega
          have hP : Hid (putL l ⟨xs, xn, xf, xu⟩ = l.take l.length ++ [⟨xs, xn, xf, xu⟩] ++ l.drop l.length) := by
            rw [hPe.out, putRest, if_neg (fun e => hlt e.1)]; exact Lib.hid rfl
          have hS3 : Hid (∀ W, Below wc.heap.size wc W → ∀ (a : Option Addr) (c : Nat), c ≤ maxLen → Sl W Iss.enc 4 (.slice a 0 c) (l.drop l.length)) := fun W _ a c hc => by rw [List.drop_length]; exact Sl.none hc
          by_cases hck : cap = l.length
          · subst hck
            rcases a with _ | ⟨ab, ao, asp⟩
            all_goals
              go_wp2_with fail
              refine wp_region_ext (by kernel_rfl) (by kernel_rfl) ?_
              repeat (any_goals (first | go_big_quiet_step (fail)))
              (refine wpQuiet_nil ?_)
              (rintro _ ⟨q, rfl⟩)
              go_wp2_with fail
              refine wpAt fun W9 e9 => ?_
              have b9 : Below wc.heap.size wc W9 := by rw [e9]; exact (by repeat' (first | exact Below.refl _ _ | with_reducible assumption | refine bext ?_ ?_ _ | refine Below.alloc ?_ ?_ _ | refine Below.setCell ?_ ?_ _ | refine Below.drew ?_ | (simp; done) | (have hbz := hb.size; first | omega | (simp; omega)) | (simp; omega) | omega))
              clear e9
              have hbw9 : Below w.heap.size w W9 := hbw.trans (b9.mono hzw)
              have hzw9 := hbw9.size
              have hx9 : w.heap.size < W9.heap.size := by have := b9.size; omega
              have y0 := cellOn b9 y0
              have y1 := cellOn b9 y1
              have y2 := cellOn b9 y2
              have y3 := cellOn b9 y3
              have hS1 := Lib.hid (fun W (hB : Below W9.heap.size W9 W) => hS1.out W (b9.trans (hB.mono b9.size)))
              have hS3 := Lib.hid (fun W (hB : Below W9.heap.size W9 W) => hS3.out W (b9.trans (hB.mono b9.size)))
              have hb := Below.refl W9.heap.size W9
              go_region_law (first | (refine step_cat Iss.len Iss.one (by rfl) (.tmp 71) (.tmp 74) 24 (by rfl) W9.heap.size 41 i _ 32 Tryd.underlying24 hi hz0 hz1 hz2 (by rfl) (by omega) (.slice (some ⟨W9.heap.size, 0, none⟩) 0 0) ([] : List Iss) (by rfl) (by first | exact Own.mono (Own.emptyAt (by simp) (by simp)) (drewOn _) | exact Own.mono (Own.emptyAt (by simp) (by simp)) (btrans (below_alloc _ _) (drewOn _)) | exact Own.emptyAt (by simp) (by simp) | exact Own.mono (Own.emptyAt (by simp) (by simp)) (below_alloc _ _)) _ (l.take l.length) (by rfl) (hS1.out _ (by repeat' (first | exact Below.refl _ _ | with_reducible assumption | refine bext ?_ ?_ _ | refine Below.alloc ?_ ?_ _ | refine Below.setCell ?_ ?_ _ | refine Below.drew ?_ | (simp; done) | (have hbz := hb.size; first | omega | (simp; omega)) | (simp; omega) | omega))) (by unfold maxLen; simp; omega) (by simp; omega) (by first | omega | (simp; done) | (simp; omega) | (have hbz := hb.size; first | omega | (simp; omega))) ?_; intro v1 w1 oa ga; have ba := below_push (lo := W9.heap.size) (B := W9.heap.size) (a := W9) (by repeat' (first | exact Below.refl _ _ | with_reducible assumption | refine bext ?_ ?_ _ | refine Below.alloc ?_ ?_ _ | refine Below.setCell ?_ ?_ _ | refine Below.drew ?_ | (simp; done) | (have hbz := hb.size; first | omega | (simp; omega)) | (simp; omega) | omega)) ((by first | exact Own.mono (Own.emptyAt (by simp) (by simp)) (drewOn _) | exact Own.mono (Own.emptyAt (by simp) (by simp)) (btrans (below_alloc _ _) (drewOn _)) | exact Own.emptyAt (by simp) (by simp) | exact Own.mono (Own.emptyAt (by simp) (by simp)) (below_alloc _ _)) : Own _ W9.heap.size 41 Iss.enc 4 (.slice (some ⟨W9.heap.size, 0, none⟩) 0 0) ([] : List Iss)) ga (Nat.le_refl _) (by first | omega | (simp; done) | (simp; omega) | (have hbz := hb.size; first | omega | (simp; omega))); have za := ba.size; have p0 := cellOn ba y0; have p1 := cellOn ba y1; have p2 := cellOn ba y2; have p3 := cellOn ba y3) | (refine step_cat Iss.len Iss.one (by rfl) (.tmp 71) (.tmp 74) 24 (by rfl) W9.heap.size 41 i _ 32 Tryd.underlying24 hi hz0 hz1 hz2 (by rfl) (by omega) (.slice (some ⟨W9.heap.size + 1, 0, none⟩) 0 0) ([] : List Iss) (by rfl) (by first | exact Own.mono (Own.emptyAt (by simp) (by simp)) (drewOn _) | exact Own.mono (Own.emptyAt (by simp) (by simp)) (btrans (below_alloc _ _) (drewOn _)) | exact Own.emptyAt (by simp) (by simp) | exact Own.mono (Own.emptyAt (by simp) (by simp)) (below_alloc _ _)) _ (l.take l.length) (by rfl) (hS1.out _ (by repeat' (first | exact Below.refl _ _ | with_reducible assumption | refine bext ?_ ?_ _ | refine Below.alloc ?_ ?_ _ | refine Below.setCell ?_ ?_ _ | refine Below.drew ?_ | (simp; done) | (have hbz := hb.size; first | omega | (simp; omega)) | (simp; omega) | omega))) (by unfold maxLen; simp; omega) (by simp; omega) (by first | omega | (simp; done) | (simp; omega) | (have hbz := hb.size; first | omega | (simp; omega))) ?_; intro v1 w1 oa ga; have ba := below_push (lo := W9.heap.size) (B := W9.heap.size) (a := W9) (by repeat' (first | exact Below.refl _ _ | with_reducible assumption | refine bext ?_ ?_ _ | refine Below.alloc ?_ ?_ _ | refine Below.setCell ?_ ?_ _ | refine Below.drew ?_ | (simp; done) | (have hbz := hb.size; first | omega | (simp; omega)) | (simp; omega) | omega)) ((by first | exact Own.mono (Own.emptyAt (by simp) (by simp)) (drewOn _) | exact Own.mono (Own.emptyAt (by simp) (by simp)) (btrans (below_alloc _ _) (drewOn _)) | exact Own.emptyAt (by simp) (by simp) | exact Own.mono (Own.emptyAt (by simp) (by simp)) (below_alloc _ _)) : Own _ W9.heap.size 41 Iss.enc 4 (.slice (some ⟨W9.heap.size + 1, 0, none⟩) 0 0) ([] : List Iss)) ga (Nat.le_refl _) (by first | omega | (simp; done) | (simp; omega) | (have hbz := hb.size; first | omega | (simp; omega))); have za := ba.size; have p0 := cellOn ba y0; have p1 := cellOn ba y1; have p2 := cellOn ba y2; have p3 := cellOn ba y3) | (refine step_push Iss.len Iss.one (by rfl) (.tmp 75) (.tmp 77) 24 (by rfl) W9.heap.size 41 i _ 32 Tryd.underlying24 hi hz0 hz1 hz2 (by rfl) (by omega) v1 ([] ++ l.take l.length) (by rfl) (oa.mono (by repeat' (first | exact Below.refl _ _ | with_reducible assumption | refine bext ?_ ?_ _ | refine Below.alloc ?_ ?_ _ | refine Below.setCell ?_ ?_ _ | refine Below.drew ?_ | (simp; done) | (have hbz := hb.size; first | omega | (simp; omega)) | (simp; omega) | omega))) _ 1 ⟨xs, xn, xf, xu⟩ (by rfl) (by omega) (by unfold maxLen; omega) (cells4 (by first | (simp; done) | (refine cellGrown ?_ ga ?_ <;> simp [Value.ownBlock]; done)) (by first | (simp; done) | (refine cellGrown ?_ ga ?_ <;> simp [Value.ownBlock]; done)) (by first | (simp; done) | (refine cellGrown ?_ ga ?_ <;> simp [Value.ownBlock]; done)) (by first | (simp; done) | (refine cellGrown ?_ ga ?_ <;> simp [Value.ownBlock]; done))) (by unfold maxLen; simp; omega) (by simp; omega) (by first | omega | (simp; done) | (simp; omega) | (have hbz := hb.size; first | omega | (simp; omega))) ?_; intro v2 w2 ob gb; have bb := below_push (lo := W9.heap.size) (B := W9.heap.size) (a := W9) (Below.trans ba (by repeat' (first | exact Below.refl _ _ | with_reducible assumption | refine bext ?_ ?_ _ | refine Below.alloc ?_ ?_ _ | refine Below.setCell ?_ ?_ _ | refine Below.drew ?_ | (simp; done) | (have hbz := hb.size; first | omega | (simp; omega)) | (simp; omega) | omega))) (oa.mono (by repeat' (first | exact Below.refl _ _ | with_reducible assumption | refine bext ?_ ?_ _ | refine Below.alloc ?_ ?_ _ | refine Below.setCell ?_ ?_ _ | refine Below.drew ?_ | (simp; done) | (have hbz := hb.size; first | omega | (simp; omega)) | (simp; omega) | omega))) gb (Nat.le_refl _) (by first | omega | (simp; done) | (simp; omega) | (have hbz := hb.size; first | omega | (simp; omega))); have zb := bb.size) | (refine step_cat Iss.len Iss.one (by rfl) (.tmp 78) (.tmp 79) 24 (by rfl) W9.heap.size 41 i _ 32 Tryd.underlying24 hi hz0 hz1 hz2 (by rfl) (by omega) v2 (([] ++ l.take l.length) ++ [⟨xs, xn, xf, xu⟩]) (by rfl) (ob.mono (by repeat' (first | exact Below.refl _ _ | with_reducible assumption | refine bext ?_ ?_ _ | refine Below.alloc ?_ ?_ _ | refine Below.setCell ?_ ?_ _ | refine Below.drew ?_ | (simp; done) | (have hbz := hb.size; first | omega | (simp; omega)) | (simp; omega) | omega))) _ (l.drop l.length) (by rfl) (hS3.out _ (Below.trans bb (by repeat' (first | exact Below.refl _ _ | with_reducible assumption | refine bext ?_ ?_ _ | refine Below.alloc ?_ ?_ _ | refine Below.setCell ?_ ?_ _ | refine Below.drew ?_ | (simp; done) | (have hbz := hb.size; first | omega | (simp; omega)) | (simp; omega) | omega))) _ _ (by unfold maxLen; omega)) (by unfold maxLen; simp; omega) (by simp; omega) (by first | omega | (simp; done) | (simp; omega) | (have hbz := hb.size; first | omega | (simp; omega))) ?_; intro v3 w3 oc gc; have bc := below_push (lo := W9.heap.size) (B := W9.heap.size) (a := W9) (Below.trans bb (by repeat' (first | exact Below.refl _ _ | with_reducible assumption | refine bext ?_ ?_ _ | refine Below.alloc ?_ ?_ _ | refine Below.setCell ?_ ?_ _ | refine Below.drew ?_ | (simp; done) | (have hbz := hb.size; first | omega | (simp; omega)) | (simp; omega) | omega))) (ob.mono (by repeat' (first | exact Below.refl _ _ | with_reducible assumption | refine bext ?_ ?_ _ | refine Below.alloc ?_ ?_ _ | refine Below.setCell ?_ ?_ _ | refine Below.drew ?_ | (simp; done) | (have hbz := hb.size; first | omega | (simp; omega)) | (simp; omega) | omega))) gc (Nat.le_refl _) (by first | omega | (simp; done) | (simp; omega) | (have hbz := hb.size; first | omega | (simp; omega)))) | fail)
              all_goals
                have hfin := Lib.hid (show (([] ++ l.take l.length) ++ [⟨xs, xn, xf, xu⟩]) ++ (l.drop l.length) = putL l ⟨xs, xn, xf, xu⟩ by rw [hP.out]; simp)
                rw [hfin.out] at oc
                have B5 : Below w.heap.size w w3 := hbw9.trans (bc.mono hzw9)
                have ho5 := Lib.hid (oc.lower hzw9)
                clear oa ob oc ga gb gc ba bb bc za zb
                have HB := l20Good_c v3 (putL l ⟨xs, xn, xf, xu⟩) w3 (ho5.out.sl Iss.len)
                have hz5 := B5.size
                cases hB : areIss (putL l ⟨xs, xn, xf, xu⟩)
                · have hg : putGood l ⟨xs, xn, xf, xu⟩ = false := by simp [putGood, hB]
                  have hE := Lib.hid (putR_no hg)
                  replace hg := Lib.hid hg
                  rw [hB] at HB
                  clear hB
                  replace HB := Lib.hid HB
                  go_wp2_with (go_at_call 56; refine (HB.out).mono ?_; rintro e w' ⟨rfl, hbq⟩; obtain ⟨p, rfl⟩ := ext_of_below hbq; clear hbq)
                  go_ret2
                  rw [hE.out, hg.out]
                  exact ⟨_, rfl, Own.emptyAt (by simp) (by simp; omega), (bext B5 hz5 _).trans ((below_alloc _ _).mono (by simp; omega))⟩
                · have hg : putGood l ⟨xs, xn, xf, xu⟩ = true := by simp [putGood, hB, HT.out]
                  have hE := Lib.hid (putR_yes hg)
                  replace hg := Lib.hid hg
                  rw [hB] at HB
                  clear hB
                  replace HB := Lib.hid HB
                  go_wp2_with (go_at_call 56; refine (HB.out).mono ?_; rintro e w' ⟨rfl, hbq⟩; obtain ⟨p, rfl⟩ := ext_of_below hbq; clear hbq)
                  go_ret2
                  rw [hE.out, hg.out]
                  exact ⟨_, rfl, ho5.out.mono (below_ext _ _), bext B5 hz5 _⟩
          · have hck2 : ¬ (cap : Int) = (l.length : Int) := by omega
            rcases a with _ | ⟨ab, ao, asp⟩
            all_goals
              go_wp2_with fail
              refine wp_region_ext (by kernel_rfl) (by kernel_rfl) ?_
              repeat (any_goals (first | go_big_quiet_step (fail)))
              (refine wpQuiet_nil ?_)
              (rintro _ ⟨q, rfl⟩)
              go_wp2_with fail
              refine wpAt fun W9 e9 => ?_
              have b9 : Below wc.heap.size wc W9 := by rw [e9]; exact (by repeat' (first | exact Below.refl _ _ | with_reducible assumption | refine bext ?_ ?_ _ | refine Below.alloc ?_ ?_ _ | refine Below.setCell ?_ ?_ _ | refine Below.drew ?_ | (simp; done) | (have hbz := hb.size; first | omega | (simp; omega)) | (simp; omega) | omega))
              clear e9
              have hbw9 : Below w.heap.size w W9 := hbw.trans (b9.mono hzw)
              have hzw9 := hbw9.size
              have hx9 : w.heap.size < W9.heap.size := by have := b9.size; omega
              have y0 := cellOn b9 y0
              have y1 := cellOn b9 y1
              have y2 := cellOn b9 y2
              have y3 := cellOn b9 y3
              have hS1 := Lib.hid (fun W (hB : Below W9.heap.size W9 W) => hS1.out W (b9.trans (hB.mono b9.size)))
              have hS3 := Lib.hid (fun W (hB : Below W9.heap.size W9 W) => hS3.out W (b9.trans (hB.mono b9.size)))
              have hb := Below.refl W9.heap.size W9
              go_region_law (first | (refine step_cat Iss.len Iss.one (by rfl) (.tmp 71) (.tmp 74) 24 (by rfl) W9.heap.size 41 i _ 32 Tryd.underlying24 hi hz0 hz1 hz2 (by rfl) (by omega) (.slice (some ⟨W9.heap.size, 0, none⟩) 0 0) ([] : List Iss) (by rfl) (by first | exact Own.mono (Own.emptyAt (by simp) (by simp)) (drewOn _) | exact Own.mono (Own.emptyAt (by simp) (by simp)) (btrans (below_alloc _ _) (drewOn _)) | exact Own.emptyAt (by simp) (by simp) | exact Own.mono (Own.emptyAt (by simp) (by simp)) (below_alloc _ _)) _ (l.take l.length) (by rfl) (hS1.out _ (by repeat' (first | exact Below.refl _ _ | with_reducible assumption | refine bext ?_ ?_ _ | refine Below.alloc ?_ ?_ _ | refine Below.setCell ?_ ?_ _ | refine Below.drew ?_ | (simp; done) | (have hbz := hb.size; first | omega | (simp; omega)) | (simp; omega) | omega))) (by unfold maxLen; simp; omega) (by simp; omega) (by first | omega | (simp; done) | (simp; omega) | (have hbz := hb.size; first | omega | (simp; omega))) ?_; intro v1 w1 oa ga; have ba := below_push (lo := W9.heap.size) (B := W9.heap.size) (a := W9) (by repeat' (first | exact Below.refl _ _ | with_reducible assumption | refine bext ?_ ?_ _ | refine Below.alloc ?_ ?_ _ | refine Below.setCell ?_ ?_ _ | refine Below.drew ?_ | (simp; done) | (have hbz := hb.size; first | omega | (simp; omega)) | (simp; omega) | omega)) ((by first | exact Own.mono (Own.emptyAt (by simp) (by simp)) (drewOn _) | exact Own.mono (Own.emptyAt (by simp) (by simp)) (btrans (below_alloc _ _) (drewOn _)) | exact Own.emptyAt (by simp) (by simp) | exact Own.mono (Own.emptyAt (by simp) (by simp)) (below_alloc _ _)) : Own _ W9.heap.size 41 Iss.enc 4 (.slice (some ⟨W9.heap.size, 0, none⟩) 0 0) ([] : List Iss)) ga (Nat.le_refl _) (by first | omega | (simp; done) | (simp; omega) | (have hbz := hb.size; first | omega | (simp; omega))); have za := ba.size; have p0 := cellOn ba y0; have p1 := cellOn ba y1; have p2 := cellOn ba y2; have p3 := cellOn ba y3) | (refine step_cat Iss.len Iss.one (by rfl) (.tmp 71) (.tmp 74) 24 (by rfl) W9.heap.size 41 i _ 32 Tryd.underlying24 hi hz0 hz1 hz2 (by rfl) (by omega) (.slice (some ⟨W9.heap.size + 1, 0, none⟩) 0 0) ([] : List Iss) (by rfl) (by first | exact Own.mono (Own.emptyAt (by simp) (by simp)) (drewOn _) | exact Own.mono (Own.emptyAt (by simp) (by simp)) (btrans (below_alloc _ _) (drewOn _)) | exact Own.emptyAt (by simp) (by simp) | exact Own.mono (Own.emptyAt (by simp) (by simp)) (below_alloc _ _)) _ (l.take l.length) (by rfl) (hS1.out _ (by repeat' (first | exact Below.refl _ _ | with_reducible assumption | refine bext ?_ ?_ _ | refine Below.alloc ?_ ?_ _ | refine Below.setCell ?_ ?_ _ | refine Below.drew ?_ | (simp; done) | (have hbz := hb.size; first | omega | (simp; omega)) | (simp; omega) | omega))) (by unfold maxLen; simp; omega) (by simp; omega) (by first | omega | (simp; done) | (simp; omega) | (have hbz := hb.size; first | omega | (simp; omega))) ?_; intro v1 w1 oa ga; have ba := below_push (lo := W9.heap.size) (B := W9.heap.size) (a := W9) (by repeat' (first | exact Below.refl _ _ | with_reducible assumption | refine bext ?_ ?_ _ | refine Below.alloc ?_ ?_ _ | refine Below.setCell ?_ ?_ _ | refine Below.drew ?_ | (simp; done) | (have hbz := hb.size; first | omega | (simp; omega)) | (simp; omega) | omega)) ((by first | exact Own.mono (Own.emptyAt (by simp) (by simp)) (drewOn _) | exact Own.mono (Own.emptyAt (by simp) (by simp)) (btrans (below_alloc _ _) (drewOn _)) | exact Own.emptyAt (by simp) (by simp) | exact Own.mono (Own.emptyAt (by simp) (by simp)) (below_alloc _ _)) : Own _ W9.heap.size 41 Iss.enc 4 (.slice (some ⟨W9.heap.size + 1, 0, none⟩) 0 0) ([] : List Iss)) ga (Nat.le_refl _) (by first | omega | (simp; done) | (simp; omega) | (have hbz := hb.size; first | omega | (simp; omega))); have za := ba.size; have p0 := cellOn ba y0; have p1 := cellOn ba y1; have p2 := cellOn ba y2; have p3 := cellOn ba y3) | (refine step_push Iss.len Iss.one (by rfl) (.tmp 75) (.tmp 77) 24 (by rfl) W9.heap.size 41 i _ 32 Tryd.underlying24 hi hz0 hz1 hz2 (by rfl) (by omega) v1 ([] ++ l.take l.length) (by rfl) (oa.mono (by repeat' (first | exact Below.refl _ _ | with_reducible assumption | refine bext ?_ ?_ _ | refine Below.alloc ?_ ?_ _ | refine Below.setCell ?_ ?_ _ | refine Below.drew ?_ | (simp; done) | (have hbz := hb.size; first | omega | (simp; omega)) | (simp; omega) | omega))) _ 1 ⟨xs, xn, xf, xu⟩ (by rfl) (by omega) (by unfold maxLen; omega) (cells4 (by first | (simp; done) | (refine cellGrown ?_ ga ?_ <;> simp [Value.ownBlock]; done)) (by first | (simp; done) | (refine cellGrown ?_ ga ?_ <;> simp [Value.ownBlock]; done)) (by first | (simp; done) | (refine cellGrown ?_ ga ?_ <;> simp [Value.ownBlock]; done)) (by first | (simp; done) | (refine cellGrown ?_ ga ?_ <;> simp [Value.ownBlock]; done))) (by unfold maxLen; simp; omega) (by simp; omega) (by first | omega | (simp; done) | (simp; omega) | (have hbz := hb.size; first | omega | (simp; omega))) ?_; intro v2 w2 ob gb; have bb := below_push (lo := W9.heap.size) (B := W9.heap.size) (a := W9) (Below.trans ba (by repeat' (first | exact Below.refl _ _ | with_reducible assumption | refine bext ?_ ?_ _ | refine Below.alloc ?_ ?_ _ | refine Below.setCell ?_ ?_ _ | refine Below.drew ?_ | (simp; done) | (have hbz := hb.size; first | omega | (simp; omega)) | (simp; omega) | omega))) (oa.mono (by repeat' (first | exact Below.refl _ _ | with_reducible assumption | refine bext ?_ ?_ _ | refine Below.alloc ?_ ?_ _ | refine Below.setCell ?_ ?_ _ | refine Below.drew ?_ | (simp; done) | (have hbz := hb.size; first | omega | (simp; omega)) | (simp; omega) | omega))) gb (Nat.le_refl _) (by first | omega | (simp; done) | (simp; omega) | (have hbz := hb.size; first | omega | (simp; omega))); have zb := bb.size) | (refine step_cat Iss.len Iss.one (by rfl) (.tmp 78) (.tmp 79) 24 (by rfl) W9.heap.size 41 i _ 32 Tryd.underlying24 hi hz0 hz1 hz2 (by rfl) (by omega) v2 (([] ++ l.take l.length) ++ [⟨xs, xn, xf, xu⟩]) (by rfl) (ob.mono (by repeat' (first | exact Below.refl _ _ | with_reducible assumption | refine bext ?_ ?_ _ | refine Below.alloc ?_ ?_ _ | refine Below.setCell ?_ ?_ _ | refine Below.drew ?_ | (simp; done) | (have hbz := hb.size; first | omega | (simp; omega)) | (simp; omega) | omega))) _ (l.drop l.length) (by rfl) (hS3.out _ (Below.trans bb (by repeat' (first | exact Below.refl _ _ | with_reducible assumption | refine bext ?_ ?_ _ | refine Below.alloc ?_ ?_ _ | refine Below.setCell ?_ ?_ _ | refine Below.drew ?_ | (simp; done) | (have hbz := hb.size; first | omega | (simp; omega)) | (simp; omega) | omega))) _ _ (by unfold maxLen; omega)) (by unfold maxLen; simp; omega) (by simp; omega) (by first | omega | (simp; done) | (simp; omega) | (have hbz := hb.size; first | omega | (simp; omega))) ?_; intro v3 w3 oc gc; have bc := below_push (lo := W9.heap.size) (B := W9.heap.size) (a := W9) (Below.trans bb (by repeat' (first | exact Below.refl _ _ | with_reducible assumption | refine bext ?_ ?_ _ | refine Below.alloc ?_ ?_ _ | refine Below.setCell ?_ ?_ _ | refine Below.drew ?_ | (simp; done) | (have hbz := hb.size; first | omega | (simp; omega)) | (simp; omega) | omega))) (ob.mono (by repeat' (first | exact Below.refl _ _ | with_reducible assumption | refine bext ?_ ?_ _ | refine Below.alloc ?_ ?_ _ | refine Below.setCell ?_ ?_ _ | refine Below.drew ?_ | (simp; done) | (have hbz := hb.size; first | omega | (simp; omega)) | (simp; omega) | omega))) gc (Nat.le_refl _) (by first | omega | (simp; done) | (simp; omega) | (have hbz := hb.size; first | omega | (simp; omega)))) | fail)
              all_goals
                have hfin := Lib.hid (show (([] ++ l.take l.length) ++ [⟨xs, xn, xf, xu⟩]) ++ (l.drop l.length) = putL l ⟨xs, xn, xf, xu⟩ by rw [hP.out]; simp)
                rw [hfin.out] at oc
                have B5 : Below w.heap.size w w3 := hbw9.trans (bc.mono hzw9)
                have ho5 := Lib.hid (oc.lower hzw9)
                clear oa ob oc ga gb gc ba bb bc za zb
                have HB := l20Good_c v3 (putL l ⟨xs, xn, xf, xu⟩) w3 (ho5.out.sl Iss.len)
                have hz5 := B5.size
                cases hB : areIss (putL l ⟨xs, xn, xf, xu⟩)
                · have hg : putGood l ⟨xs, xn, xf, xu⟩ = false := by simp [putGood, hB]
                  have hE := Lib.hid (putR_no hg)
                  replace hg := Lib.hid hg
                  rw [hB] at HB
                  clear hB
                  replace HB := Lib.hid HB
                  go_wp2_with (go_at_call 56; refine (HB.out).mono ?_; rintro e w' ⟨rfl, hbq⟩; obtain ⟨p, rfl⟩ := ext_of_below hbq; clear hbq)
                  go_ret2
                  rw [hE.out, hg.out]
                  exact ⟨_, rfl, Own.emptyAt (by simp) (by simp; omega), (bext B5 hz5 _).trans ((below_alloc _ _).mono (by simp; omega))⟩
                · have hg : putGood l ⟨xs, xn, xf, xu⟩ = true := by simp [putGood, hB, HT.out]
                  have hE := Lib.hid (putR_yes hg)
                  replace hg := Lib.hid hg
                  rw [hB] at HB
                  clear hB
                  replace HB := Lib.hid HB
                  go_wp2_with (go_at_call 56; refine (HB.out).mono ?_; rintro e w' ⟨rfl, hbq⟩; obtain ⟨p, rfl⟩ := ext_of_below hbq; clear hbq)
                  go_ret2
                  rw [hE.out, hg.out]
                  exact ⟨_, rfl, ho5.out.mono (below_ext _ _), bext B5 hz5 _⟩
end Go.Proofs.YthibchaiaedboaaDoor
