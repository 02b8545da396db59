/- The law FnTrueDays holds: on the told days an issue is true, and what is never true has none: for every input it answers true, and the bytes read behind the call as before. No condition. -/
import Derived.Test.YthibchaiaedboaaBy
import Derived.Test.YthibchaiaedboaaVe
import Derived.Test.YthibchaiaedboaaPq20
import Derived.Test.YthibchaiaedboaaEi20
import Derived.Test.YthibchaiaedboaaNt20
import Derived.Test.YthibchaiaedboaaFg20
import Derived.Deep.Cut
import Derived.Deep.CutBlock
import Derived.Outline
namespace Go.Proofs.Ythibchaiaedboaa
open Go.ChangeShapes Go.WideShapes Go.ChangeAt Go.RowKit
set_option maxHeartbeats 16000000 in
set_option maxRecDepth 100000 in
theorem lawTrueDaysF (v : Value) (w : World) (h : Bytes w v) : Calls Try.prog 4 #[v] w fun e w' => e = .returned (.bool true) ∧ Below w.heap.size w w' := by
  have hY := Lib.hid h
  obtain ⟨a0, n0, cap0, b0, o0, rfl, hn0, hm0, -⟩ := h
  unfold maxLen at hm0
  by_cases hbig : 65536 < n0
  · go_enter Try.func4, Try.ntmps4
    go_wp2_with (go_at_call 19; refine (vBig_yes _ _ _ _ (by omega) hbig).mono ?_; rintro e w' ⟨rfl, rfl⟩)
    go_ret
    exact ⟨rfl, Below.refl _ _⟩
  go_enter Try.func4, Try.ntmps4
  go_wp2_with (go_at_call 19; refine (vBig_no _ _ _ _ hbig).mono ?_; rintro e w' ⟨rfl, rfl⟩)
  refine (drawTrueDays_c _ w hY.out).mono ?_
  rintro e w1 ⟨lv, l, s, n, rfl, hO, hl, b1⟩
  have S1 := b1.size
  have B1 := b1
  replace hO := Lib.hid hO
  go_wp2_with fail
  refine (implTrueDays_c lv l s n _ (hO.out.sl Iss.len) (by omega)).mono ?_
  rintro e w2 ⟨r1, rfl, p1, b2⟩
  replace hO := Lib.hid (hO.out.mono b2)
  have S2 := b2.size
  have B2 := btrans B1 b2
  replace p1 := Lib.hid p1
  go_wp2_with fail
  refine (specTrueDays_c lv l s n _ (hO.out.sl Iss.len)).mono ?_
  rintro e w3 ⟨r2, rfl, p2, b3⟩
  replace hO := Lib.hid (hO.out.mono b3)
  replace p1 := Lib.hid (p1.out.mono b3)
  have S3 := b3.size
  have B3 := btrans B2 b3
  replace p2 := Lib.hid p2
  go_wp2_with fail
  refine (vPairs_c r1 r2 (tdR l s n) _ (p1.out.sl PrE.len) (p2.out.sl PrE.len)).mono ?_
  rintro e w4 ⟨rfl, b4⟩
  replace hO := Lib.hid (hO.out.mono b4)
  replace p1 := Lib.hid (p1.out.mono b4)
  replace p2 := Lib.hid (p2.out.mono b4)
  have S4 := b4.size
  have B4 := btrans B3 b4
  clear p2
  obtain ⟨a1, cap1, c1, o1, rfl, hk1, hm1, hc1⟩ := p1.out.sl PrE.len
  unfold maxLen at hm1
  go_upto_block 0 with fail
  go_cut [2] from 10 (fun s W => s = .bool false ∧ Below w4.heap.size w4 W)
  case first => as_aux_lemma =>
    go_wp2_with fail
    go_loopw [2, 10] (fun o vi wr => ∃ i : Nat, i ≤ (tdR l s n).length ∧ o = .bool false ∧ vi = .int .i64 i ∧ Below w4.heap.size w4 wr) (fun _ vi _ => (tdR l s n).length - (intOf vi).toNat)
    case atStart => exact ⟨0, Nat.zero_le _, rfl, rfl, Below.refl _ _⟩
    case round =>
      obtain ⟨i, hi, rfl, rfl, hb⟩ := hrel
      by_cases hlt : i < (tdR l s n).length
      · obtain ⟨rfl, hbw, e0, e1⟩ := PrE.at (hc1.mono hb) i hlt
        obtain ⟨t1, t2, t3, t4, t5, t6, t7⟩ := td_at hlt
        have HT1 := fun W (hB : Below w4.heap.size w4 W) => trueIssue_c lv l s (gd (tdR l s n) i).1 W ((hO.out.sl Iss.len).mono hB)
        have HT2 := fun W (hB : Below w4.heap.size w4 W) => trueIssue_c lv l s (gd (tdR l s n) i).2 W ((hO.out.sl Iss.len).mono hB)
        rw [t1, decide_eq_true t3] at HT1
        rw [t2, decide_eq_true t3] at HT2
        replace HT1 := Lib.hid HT1
        replace HT2 := Lib.hid HT2
        have d1 := fun (h0 : 0 < i) => (PrE.at (hc1.mono hb) (i - 1) (by omega)).2.2.2
        have d5 := fun (h0 : 0 < i) => td_at (l := l) (s := s) (n := n) (i := i - 1) (by omega)
        clear t1 t2
        by_cases h0 : 0 < i
        · have d1 := d1 h0
          obtain ⟨-, -, -, u4, u5, u6, -⟩ := d5 h0
          have t7 := t7 h0
          have t8 : ¬ (gd (tdR l s n) i).1 ≤ (gd (tdR l s n) (i - 1)).2 + 1 := by omega
          have i1 : (i : Int) - 1 = ((i - 1 : Nat) : Int) := by omega
          have i2 : 0 < (i : Int) := by omega
          clear d5
          generalize gd (tdR l s n) (i - 1) = y at d1 u4 u5 u6 t7 t8
          generalize gd (tdR l s n) i = x at e0 e1 t4 t5 t6 t7 t8 HT1 HT2
          have hb := Lib.hid hb
          go_wp2_with fail
          refine (HT1.out _ hb.out).mono ?_
          rintro e w8 ⟨rfl, b8⟩
          have B8 := hb.out.trans (b8.mono hb.out.size)
          have e0 := cellOn b8 e0
          have e1 := cellOn b8 e1
          have d1 := cellOn b8 d1
          go_wp2_with fail
          refine (HT2.out _ B8).mono ?_
          rintro e w9 ⟨rfl, b9⟩
          have B9 := B8.trans (b9.mono B8.size)
          have e0 := cellOn b9 e0
          have e1 := cellOn b9 e1
          have d1 := cellOn b9 d1
          have hbx := block_lt_of_cell e0
          go_wp2_with fail
          refine wp_region_ext (by kernel_rfl) (by kernel_rfl) ?_
          repeat (any_goals (first | go_big_quiet_step (fail)))
          (refine wpQuiet_nil ?_)
          (rintro _ ⟨q, rfl⟩)
          go_wp2_with fail
          go_roundw
          case rel => exact ⟨i + 1, by omega, rfl, by go_num, B9.trans ((below_ext _ _).mono B9.size)⟩
          case measure => simp [intOf]; omega
        · have i2 : ¬ 0 < (i : Int) := by omega
          clear d1 d5 t7
          generalize gd (tdR l s n) i = x at e0 e1 t4 t5 t6 HT1 HT2
          have hb := Lib.hid hb
          go_wp2_with fail
          refine (HT1.out _ hb.out).mono ?_
          rintro e w8 ⟨rfl, b8⟩
          have B8 := hb.out.trans (b8.mono hb.out.size)
          have e0 := cellOn b8 e0
          have e1 := cellOn b8 e1
          go_wp2_with fail
          refine (HT2.out _ B8).mono ?_
          rintro e w9 ⟨rfl, b9⟩
          have B9 := B8.trans (b9.mono B8.size)
          go_wp2_with fail
          refine wp_region_ext (by kernel_rfl) (by kernel_rfl) ?_
          repeat (any_goals (first | go_big_quiet_step (fail)))
          (refine wpQuiet_nil ?_)
          (rintro _ ⟨q, rfl⟩)
          go_wp2_with fail
          go_roundw
          case rel => exact ⟨i + 1, by omega, rfl, by go_num, B9.trans ((below_ext _ _).mono B9.size)⟩
          case measure => simp [intOf]; omega
      · obtain rfl : i = (tdR l s n).length := by omega
        go_wp2_with fail
        go_meet
        case rel => exact ⟨rfl, hb⟩
  obtain ⟨rfl, hbc⟩ := hcut
  have b5 := hbc
  replace hO := Lib.hid (hO.out.mono b5)
  replace p1 := Lib.hid (p1.out.mono b5)
  have S5 := b5.size
  have B5 := btrans B4 b5
  clear hbc
  generalize wc = w5 at *
  as_aux_lemma =>
    go_wp2_with fail
    refine (neverTrue_c lv l _ (hO.out.sl Iss.len)).mono ?_
    rintro e w6 ⟨r3, rfl, p3, b6⟩
    replace hO := Lib.hid (hO.out.mono b6)
    replace p1 := Lib.hid (p1.out.mono b6)
    have S6 := b6.size
    have B6 := btrans B5 b6
    replace p3 := Lib.hid p3
    go_wp2_with fail
    refine (specNeverTrue_c lv l _ (hO.out.sl Iss.len)).mono ?_
    rintro e w7 ⟨r4, rfl, p4, b7⟩
    replace hO := Lib.hid (hO.out.mono b7)
    replace p1 := Lib.hid (p1.out.mono b7)
    replace p3 := Lib.hid (p3.out.mono b7)
    have S7 := b7.size
    have B7 := btrans B6 b7
    replace p4 := Lib.hid p4
    go_wp2_with fail
    refine (vPairs_c r3 r4 (ntR l) _ (p3.out.sl PrE.len) (p4.out.sl PrE.len)).mono ?_
    rintro e w8 ⟨rfl, b8⟩
    replace hO := Lib.hid (hO.out.mono b8)
    replace p1 := Lib.hid (p1.out.mono b8)
    replace p3 := Lib.hid (p3.out.mono b8)
    replace p4 := Lib.hid (p4.out.mono b8)
    have S8 := b8.size
    have B8 := btrans B7 b8
    clear p4
    obtain ⟨a3, cap3, c3, o3, rfl, hk3, hm3, hc3⟩ := p3.out.sl PrE.len
    unfold maxLen at hm3
    have hP1 := Lib.hid (show (tdR l s n).length = (tdR l s n).length from rfl)
    go_upto_if 155 with fail
    go_cut [2, 7, 9] from 19 (fun s _ _ W => s = .bool false ∧ Below w8.heap.size w8 W)
    case first => as_aux_lemma =>
      cases hG : tdGood l s n
      · go_wp2_with fail
        go_meet
        case rel => exact ⟨rfl, Below.refl _ _⟩
      · have hx := Lib.hid (nt_td hG)
        clear hG
        go_wp2_with fail
        go_loopw [19, 20] (fun o vi wr => ∃ i : Nat, i ≤ (ntR l).length ∧ vi = .int .i64 i ∧ o = .bool (ntHas l s n i) ∧ Below w8.heap.size w8 wr) (fun _ vi _ => (ntR l).length - (intOf vi).toNat)
        case atStart => exact ⟨0, Nat.zero_le _, rfl, by rw [ntHas_zero], Below.refl _ _⟩
        case round =>
          obtain ⟨i, hi, rfl, rfl, hb⟩ := hrel
          by_cases hlt : i < (ntR l).length
          · obtain ⟨rfl, hbw, e0, e1⟩ := PrE.at (hc3.mono hb) i hlt
            have hsc := ntHas_succ l s n i
            generalize gd (ntR l) i = x at e0 e1 hsc
            generalize ntHas l s n i = q at hsc ⊢
            cases q
            · by_cases h1 : x.1 = s
              · have h1' : (x.1 == s) = true := by simpa using h1
                by_cases h2 : x.2 = n
                · have h2' : (x.2 == n) = true := by simpa using h2
                  have hsc2 : Hid (ntHas l s n (i + 1) = true) := Lib.hid (by rw [hsc]; simp [h1, h2])
                  clear hsc h1 h2
                  go_wp2_with fail
                  go_roundw
                  case rel => exact ⟨i + 1, by omega, by go_num, by rw [hsc2.out], hb⟩
                  case measure => simp [intOf]; omega
                · have h2' : (x.2 == n) = false := by simpa using h2
                  have hsc2 : Hid (ntHas l s n (i + 1) = false) := Lib.hid (by rw [hsc]; simp [h2])
                  clear hsc h1 h2
                  go_wp2_with fail
                  go_roundw
                  case rel => exact ⟨i + 1, by omega, by go_num, by rw [hsc2.out], hb⟩
                  case measure => simp [intOf]; omega
              · have h1' : (x.1 == s) = false := by simpa using h1
                have hsc2 : Hid (ntHas l s n (i + 1) = false) := Lib.hid (by rw [hsc]; simp [h1])
                clear hsc h1
                go_wp2_with fail
                go_roundw
                case rel => exact ⟨i + 1, by omega, by go_num, by rw [hsc2.out], hb⟩
                case measure => simp [intOf]; omega
            · have hsc2 : Hid (ntHas l s n (i + 1) = true) := Lib.hid (by rw [hsc]; rfl)
              clear hsc
              go_wp2_with fail
              go_roundw
              case rel => exact ⟨i + 1, by omega, by go_num, by rw [hsc2.out], hb⟩
              case measure => simp [intOf]; omega
          · obtain rfl : i = (ntR l).length := by omega
            rw [hx.out]
            by_cases hz : (tdR l s n).length = 0
            · rw [decide_eq_true hz]
              have hz2 : ((tdR l s n).length : Int) = 0 := by omega
              go_wp2_with fail
              go_meet
              case rel => exact ⟨rfl, hb⟩
            · rw [decide_eq_false hz]
              have hz2 : (((tdR l s n).length : Int) == 0) = false := by simp; intro e; apply hz; simp [e]
              go_wp2_with fail
              go_meet
              case rel => exact ⟨rfl, hb⟩
    obtain ⟨rfl, hbc⟩ := hcut
    have b9 := hbc
    replace hO := Lib.hid (hO.out.mono b9)
    replace p1 := Lib.hid (p1.out.mono b9)
    replace p3 := Lib.hid (p3.out.mono b9)
    have S9 := b9.size
    have B9 := btrans B8 b9
    clear hbc
    generalize wc = w9 at *
    as_aux_lemma =>
      clear p1
      clear p3
      clear hO
      go_wp2_with fail
      refine (drawChangesOf_c _ _ (hY.out.mono B9)).mono ?_
      rintro e w10 ⟨xv, x, s2, rfl, hX, hxl, b10⟩
      have S10 := b10.size
      have B10 := btrans B9 b10
      replace hX := Lib.hid hX
      go_wp2_with fail
      refine (changesOf_c xv x s2 _ (hX.out.sl Iss.len)).mono ?_
      rintro e w11 ⟨r5, rfl, p5, b11⟩
      replace hX := Lib.hid (hX.out.mono b11)
      have S11 := b11.size
      have B11 := btrans B10 b11
      replace p5 := Lib.hid p5
      go_wp2_with fail
      refine (specChangesOf_c xv x s2 _ (hX.out.sl Iss.len)).mono ?_
      rintro e w12 ⟨r6, rfl, p6, b12⟩
      replace hX := Lib.hid (hX.out.mono b12)
      replace p5 := Lib.hid (p5.out.mono b12)
      have S12 := b12.size
      have B12 := btrans B11 b12
      replace p6 := Lib.hid p6
      go_wp2_with fail
      refine (vInts_c r5 r6 (chgR x s2) _ (p5.out.sl IntE.len) (p6.out.sl IntE.len)).mono ?_
      rintro e w13 ⟨rfl, b13⟩
      replace hX := Lib.hid (hX.out.mono b13)
      replace p5 := Lib.hid (p5.out.mono b13)
      replace p6 := Lib.hid (p6.out.mono b13)
      have S13 := b13.size
      have B13 := btrans B12 b13
      clear p6
      obtain ⟨a5, cap5, c5, o5, rfl, hk5, hm5, hc5⟩ := p5.out.sl IntE.len
      unfold maxLen at hm5
      go_upto_block 4 with fail
      go_cut [2] from 27 (fun s W => s = .bool false ∧ Below w13.heap.size w13 W)
      case first => as_aux_lemma =>
        go_wp2_with fail
        go_loopw [2, 27] (fun o vi wr => ∃ i : Nat, i ≤ (chgR x s2).length ∧ o = .bool false ∧ vi = .int .i64 i ∧ Below w13.heap.size w13 wr) (fun _ vi _ => (chgR x s2).length - (intOf vi).toNat)
        case atStart => exact ⟨0, Nat.zero_le _, rfl, rfl, Below.refl _ _⟩
        case round =>
          obtain ⟨i, hi, rfl, rfl, hb⟩ := hrel
          by_cases hlt : i < (chgR x s2).length
          · by_cases h8 : (i : Int) < 8
            · obtain ⟨rfl, hbw, e0⟩ := IntE.at (hc5.mono hb) i hlt
              obtain ⟨t1, t2, t3⟩ := chg_at hlt
              have HT1 := fun W (hB : Below w13.heap.size w13 W) => trueIssue_c xv x s2 (gd (chgR x s2) i - 1) W ((hX.out.sl Iss.len).mono hB)
              have HT2 := fun W (hB : Below w13.heap.size w13 W) => trueIssue_c xv x s2 (gd (chgR x s2) i) W ((hX.out.sl Iss.len).mono hB)
              generalize gd (chgR x s2) i = d at e0 t1 t2 t3 HT1 HT2
              have t4 : (trueI x s2 (d - 1) == trueI x s2 d) = false := by simpa using t3
              generalize trueI x s2 (d - 1) = x1 at t4 HT1
              generalize trueI x s2 d = x2 at t4 HT2
              generalize decide (0 < x1) = y1 at HT1
              generalize decide (0 < x2) = y2 at HT2
              replace HT1 := Lib.hid HT1
              replace HT2 := Lib.hid HT2
              have hb := Lib.hid hb
              clear t3
              go_wp2_with fail
              refine (HT1.out _ hb.out).mono ?_
              rintro e w8 ⟨rfl, b8⟩
              have B8 := hb.out.trans (b8.mono hb.out.size)
              have e0 := cellOn b8 e0
              go_wp2_with fail
              refine (HT2.out _ B8).mono ?_
              rintro e w9 ⟨rfl, b9⟩
              have B9 := B8.trans (b9.mono B8.size)
              go_wp2_with fail
              go_roundw
              case rel => exact ⟨i + 1, by omega, rfl, by go_num, B9⟩
              case measure => simp [intOf]; omega
            · go_wp2_with fail
              go_meet
              case rel => exact ⟨rfl, hb⟩
          · obtain rfl : i = (chgR x s2).length := by omega
            go_wp2_with fail
            go_meet
            case rel => exact ⟨rfl, hb⟩
      obtain ⟨rfl, hbc⟩ := hcut
      have b14 := hbc
      replace hX := Lib.hid (hX.out.mono b14)
      replace p5 := Lib.hid (p5.out.mono b14)
      have S14 := b14.size
      have B14 := btrans B13 b14
      clear hbc
      generalize wc = w14 at *
      as_aux_lemma =>
        clear p5
        clear hX
        go_wp2_with fail
        refine (drawEndIssue_c _ _ (hY.out.mono B14)).mono ?_
        rintro e w15 ⟨yv, y, s3, n3, d3, rfl, hY2, hyl, b15⟩
        have S15 := b15.size
        have B15 := btrans B14 b15
        replace hY2 := Lib.hid hY2
        go_wp2_with fail
        refine (endIssue_c yv y s3 n3 d3 _ (hY2.out.sl Iss.len) (by omega)).mono ?_
        rintro e w16 ⟨r7, rfl, p7, b16⟩
        replace hY2 := Lib.hid (hY2.out.mono b16)
        have S16 := b16.size
        have B16 := btrans B15 b16
        replace p7 := Lib.hid p7
        go_wp2_with fail
        refine (specEndIssue_c yv y s3 n3 d3 _ (hY2.out.sl Iss.len) (by omega)).mono ?_
        rintro e w17 ⟨r8, rfl, p8, b17⟩
        replace hY2 := Lib.hid (hY2.out.mono b17)
        replace p7 := Lib.hid (p7.out.mono b17)
        have S17 := b17.size
        have B17 := btrans B16 b17
        replace p8 := Lib.hid p8
        go_wp2_with fail
        refine (vIssues_c r7 r8 (endR y s3 n3 d3) _ (p7.out.sl Iss.len) (p8.out.sl Iss.len)).mono ?_
        rintro e w18 ⟨rfl, b18⟩
        replace hY2 := Lib.hid (hY2.out.mono b18)
        replace p7 := Lib.hid (p7.out.mono b18)
        replace p8 := Lib.hid (p8.out.mono b18)
        have S18 := b18.size
        have B18 := btrans B17 b18
        clear p8
        clear hY2
        have hrl := endR_len y s3 n3 d3
        have hl17 : Hid ((endR y s3 n3 d3).length ≤ 1048576) := Lib.hid (by unfold endR; split; (split; (simp; omega); simp); simp)
        cases hE : endGood y s3 n3 d3
        · go_wp2_with fail
          go_ret
          exact ⟨rfl, B18⟩
        · obtain ⟨q1, q2⟩ := end_again hE
          clear hE
          have H := endIssue_c r7 (endR y s3 n3 d3) s3 n3 d3 w18 (p7.out.sl Iss.len) hl17.out
          rw [q1, q2] at H
          replace H := Lib.hid H
          clear q1 q2
          go_wp2_with fail
          refine (H.out).mono ?_
          rintro e w19 ⟨r9, rfl, p9, b19⟩
          replace p7 := Lib.hid (p7.out.mono b19)
          have S19 := b19.size
          have B19 := btrans B18 b19
          replace p9 := Lib.hid p9
          go_wp2_with fail
          refine (vIssues_c r9 r7 (endR y s3 n3 d3) _ (p9.out.sl Iss.len) (p7.out.sl Iss.len)).mono ?_
          rintro e w20 ⟨rfl, b20⟩
          replace p7 := Lib.hid (p7.out.mono b20)
          replace p9 := Lib.hid (p9.out.mono b20)
          have S20 := b20.size
          have B20 := btrans B19 b20
          go_wp2_with fail
          go_ret
          exact ⟨rfl, B20⟩

set_option maxRecDepth 100000 in
theorem liftedTrueDaysF (os : Os) (started : os.Started) (H : Type) (enc : TypeId × Value → H) :
    ReturnsInHanded {} Try.checked os 4 .any (Rows.fnTrueDaysSpec.pre6 enc Try.prog Try.f4 Rows.fnTrueDaysRow.domain false) (Rows.fnTrueDaysSpec.post enc Try.prog Try.f4 false true false false) := by
  refine returnsInHanded_of_change (C := Try.checked) own started (by kernel_rfl) Try.func4
    (ChangeSpec.witness6 (enc := enc) (C := Try.checked) false ⟨#[], #[.slice none 0 0], []⟩ 8 (by kernel_rfl) (by kernel_rfl) (by kernel_rfl) (by kernel_rfl)) ?_
  intro W base args ds gs before hval0 hW _ _
  have hval : ∀ (j : Nat) t v, Try.f4.params[j]? = some t → args[j]? = some v → Value.okWide Try.prog W .any base t v := hval0
  have hW' := hW
  obtain ⟨p, q, hA0, hV, rfl, hfz, hnd⟩ := hW
  have hA : DataW.TrodAll enc Try.prog W 0 (fun _ => true) true Try.f4.params.toList args.toList ds p := hA0
  rw [Try.params4] at hA hval
  obtain ⟨v0, vs0, d0, ds0, p0, q0, hargs, rfl, rfl, h0, r0⟩ := trodAll_cons hA
  obtain ⟨rfl, rfl, rfl⟩ := trodAll_nil r0
  obtain rfl : args = #[v0] := by cases args; simp_all
  obtain ⟨rfl, rfl⟩ := trodVars_none hV
  have s0 := readBytes h0 (hval 0 35 v0 rfl rfl)
  have hcall : Calls Try.prog 4 #[v0] W fun e w' => e = .returned (.bool true) ∧ Below W.heap.size W w' := lawTrueDaysF v0 W s0
  refine hcall.mono fun e W' ⟨he, hb⟩ => ?_
  subst he
  exact ⟨_, rfl, post_below (pa := p0 ++ []) rfl Try.underlying4 hW' rfl rfl rfl (fun sp hsp => (trodAll_cons_mk (WideElems.Trod_stays laidOut (by kernel_rfl) (of_decide_eq_true (by kernel_rfl)) h0 (fun x hx => hb.same (hW'.lt x (by simp [hx]))) (fun x hx => hsp x (by simp [hx]))) trodAll_mk0)) (by simp) hb⟩

theorem holdsTrueDaysF : Rows.FnTrueDaysSaid :=
  OpenClaim.holds_of_wide 4 Try.f4 rfl rfl rfl rfl rfl rfl rfl ⟨rfl, rfl, rfl, rfl, rfl⟩ rfl rfl rfl rfl rfl (by kernel_rfl) Try.func4 (by kernel_rfl)
    (of_decide_eq_true (by kernel_rfl)) (by unfold Func.isWrapper; first | (rw [if_pos (by decide +kernel)]; kernel_rfl) | (rw [if_neg (by decide +kernel)]; exact ⟨rfl, rfl⟩))
    (fun os started H enc _ => liftedTrueDaysF os started H enc)
end Go.Proofs.Ythibchaiaedboaa
