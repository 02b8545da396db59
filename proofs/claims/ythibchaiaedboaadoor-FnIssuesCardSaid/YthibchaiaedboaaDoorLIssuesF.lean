/- The law FnIssues holds: on a day, never two issues of a sheet are true: for every input it answers true, and the bytes read behind the call as before. Condition: the listed tables of Go's library read as they are laid (the card ties them). -/
import Derived.Test.YthibchaiaedboaaDoorBz
import Derived.Test.YthibchaiaedboaaDoorVe
import Derived.Test.YthibchaiaedboaaDoorPq20
import Derived.Test.YthibchaiaedboaaDoorPs20
import Derived.Test.YthibchaiaedboaaDoorPu20
import Derived.Test.YthibchaiaedboaaDoorNt20
import Derived.Test.YthibchaiaedboaaDoorFg20
import Derived.Test.YthibchaiaedboaaDoorTi20
import Derived.Test.YthibchaiaedboaaDoorTie
import Derived.Test.YthibchaiaedboaaDoorCards
import Derived.LaidMore
import Derived.MakeChecks
import Derived.SevenTiedAt
import Derived.LaidSub
import Derived.Stop.Joined
import Derived.Deep.Cut
import Derived.Deep.CutBlock
import Derived.Outline
namespace Go.Proofs.YthibchaiaedboaaDoor
open Go.ChangeShapes Go.WideShapes Go.ChangeAt Go.RowKit
set_option maxHeartbeats 16000000 in
set_option maxRecDepth 100000 in
theorem lawIssuesF (v : Value) (w : World) (h : Bytes w v) (ht : Tab w) : Calls Tryd.prog 3 #[v] w fun e w' => e = .returned (.bool true) ∧ Below w.heap.size w w' := by
  have hY := Lib.hid h
  obtain ⟨a0, n0, cap0, b0, o0, rfl, hn0, hm0, -⟩ := h
  unfold maxLen at hm0
  by_cases hbig : 65536 < n0
  · go_enter Tryd.func3, Tryd.ntmps3
    go_wp2_with (go_at_call 6; refine (vBig_yes _ _ _ _ (by omega) hbig).mono ?_; rintro e w' ⟨rfl, rfl⟩)
    go_ret
    exact ⟨rfl, Below.refl _ _⟩
  go_enter Tryd.func3, Tryd.ntmps3
  go_wp2_with (go_at_call 6; refine (vBig_no _ _ _ _ hbig).mono ?_; rintro e w' ⟨rfl, rfl⟩)
  have HTB := Lib.hid (fun W (hb : Below w.heap.size w W) => ht.mono hb)
  clear ht
  refine (drawTrueSheets_c _ w hY.out).mono ?_
  rintro e w1 ⟨lv, l, d, rfl, hO, hl, b1⟩
  have S1 := b1.size
  have B1 := b1
  replace hO := Lib.hid hO
  go_wp2_with fail
  refine (trueSheets_c lv l d _ (hO.out.sl Iss.len)).mono ?_
  rintro e w2 ⟨r1, rfl, p1, b2⟩
  replace hO := Lib.hid (hO.out.mono b2)
  have S2 := b2.size
  have B2 := btrans B1 b2
  replace p1 := Lib.hid p1
  go_wp2_with fail
  refine (specTrueSheets_c lv l d _ (hO.out.sl Iss.len)).mono ?_
  rintro e w3 ⟨r2, rfl, p2, b3⟩
  replace hO := Lib.hid (hO.out.mono b3)
  replace p1 := Lib.hid (p1.out.mono b3)
  have S3 := b3.size
  have B3 := btrans B2 b3
  replace p2 := Lib.hid p2
  go_wp2_with fail
  refine (vPairs_c r1 r2 (tsR l d) _ (p1.out.sl PrE.len) (p2.out.sl PrE.len)).mono ?_
  rintro e w4 ⟨rfl, b4⟩
  replace hO := Lib.hid (hO.out.mono b4)
  replace p1 := Lib.hid (p1.out.mono b4)
  replace p2 := Lib.hid (p2.out.mono b4)
  have S4 := b4.size
  have B4 := btrans B3 b4
  clear p2
  go_wp2_with fail
  refine (areIssues_c lv l _ (hO.out.sl Iss.len)).mono ?_
  rintro e w5 ⟨rfl, b5⟩
  replace hO := Lib.hid (hO.out.mono b5)
  replace p1 := Lib.hid (p1.out.mono b5)
  have S5 := b5.size
  have B5 := btrans B4 b5
  go_wp2_with fail
  refine (specAreIssues_c lv l _ (hO.out.sl Iss.len)).mono ?_
  rintro e w6 ⟨rfl, b6⟩
  replace hO := Lib.hid (hO.out.mono b6)
  replace p1 := Lib.hid (p1.out.mono b6)
  have S6 := b6.size
  have B6 := btrans B5 b6
  obtain ⟨a1, cap1, c1, o1, rfl, hk1, hm1, hc1⟩ := p1.out.sl PrE.len
  unfold maxLen at hm1
  go_upto_block 0 with fail
  go_cut [2] from 9 (fun s W => s = .bool false ∧ Below w6.heap.size w6 W)
  case first => as_aux_lemma =>
    go_wp2_with fail
    go_loopw [2, 9] (fun o vi wr => ∃ i : Nat, i ≤ (tsR l d).length ∧ o = .bool false ∧ vi = .int .i64 i ∧ Below w6.heap.size w6 wr) (fun _ vi _ => (tsR l d).length - (intOf vi).toNat)
    case atStart => exact ⟨0, Nat.zero_le _, rfl, rfl, Below.refl _ _⟩
    case round =>
      obtain ⟨i, hi, rfl, rfl, hb⟩ := hrel
      by_cases hlt : i < (tsR l d).length
      · obtain ⟨rfl, hbw, e0, e1⟩ := PrE.at (hc1.mono hb) i hlt
        obtain ⟨t1, t3, t7⟩ := ts_at hlt
        have HT1 := fun W (hB : Below w6.heap.size w6 W) => trueIssue_c lv l (gd (tsR l d) i).1 d W ((hO.out.sl Iss.len).mono hB)
        rw [t1, decide_eq_true t3] at HT1
        replace HT1 := Lib.hid HT1
        have d1 := fun (h0 : 0 < i) => (PrE.at (hc1.mono hb) (i - 1) (by omega)).2.2.1
        clear t1 t3
        by_cases h0 : 0 < i
        · have d1 := d1 h0
          have t7 := t7 h0
          have t8 : ¬ (gd (tsR l d) i).1 ≤ (gd (tsR l d) (i - 1)).1 := by omega
          have i1 : (i : Int) - 1 = ((i - 1 : Nat) : Int) := by omega
          have i2 : 0 < (i : Int) := by omega
          generalize gd (tsR l d) (i - 1) = y at d1 t7 t8
          generalize gd (tsR l d) i = x at e0 e1 t7 t8 HT1
          have hb := Lib.hid hb
          go_wp2_with fail
          refine (HT1.out _ hb.out).mono ?_
          rintro e w8 ⟨rfl, b8⟩
          have B8 := hb.out.trans (b8.mono hb.out.size)
          have e0 := cellOn b8 e0
          have e1 := cellOn b8 e1
          have d1 := cellOn b8 d1
          have hbx := block_lt_of_cell e0
          go_wp2_with fail
          refine wp_region_ext (by kernel_rfl) (by kernel_rfl) ?_
          repeat (any_goals (first | go_big_quiet_step (fail)))
          (refine wpQuiet_nil ?_)
          (rintro _ ⟨q, rfl⟩)
          go_wp2_with fail
          go_roundw
          case rel => exact ⟨i + 1, by omega, rfl, by go_num, B8.trans ((below_ext _ _).mono B8.size)⟩
          case measure => simp [intOf]; omega
        · have i2 : ¬ 0 < (i : Int) := by omega
          clear d1 t7
          generalize gd (tsR l d) i = x at e0 e1 HT1
          have hb := Lib.hid hb
          go_wp2_with fail
          refine (HT1.out _ hb.out).mono ?_
          rintro e w8 ⟨rfl, b8⟩
          have B8 := hb.out.trans (b8.mono hb.out.size)
          have e0 := cellOn b8 e0
          have e1 := cellOn b8 e1
          have hbx := block_lt_of_cell e0
          go_wp2_with fail
          refine wp_region_ext (by kernel_rfl) (by kernel_rfl) ?_
          repeat (any_goals (first | go_big_quiet_step (fail)))
          (refine wpQuiet_nil ?_)
          (rintro _ ⟨q, rfl⟩)
          go_wp2_with fail
          go_roundw
          case rel => exact ⟨i + 1, by omega, rfl, by go_num, B8.trans ((below_ext _ _).mono B8.size)⟩
          case measure => simp [intOf]; omega
      · obtain rfl : i = (tsR l d).length := by omega
        go_wp2_with fail
        go_meet
        case rel => exact ⟨rfl, hb⟩
  obtain ⟨rfl, hbc⟩ := hcut
  have b7 := hbc
  replace hO := Lib.hid (hO.out.mono b7)
  replace p1 := Lib.hid (p1.out.mono b7)
  have S7 := b7.size
  have B7 := btrans B6 b7
  clear hbc
  generalize wc = w7 at *
  as_aux_lemma =>
    clear p1
    clear hO
    go_wp2_with fail
    refine (drawTrueIssue_c _ _ (hY.out.mono B7)).mono ?_
    rintro e w8 ⟨xv, x, s2, d2, rfl, hX, hxl, b8⟩
    have S8 := b8.size
    have B8 := btrans B7 b8
    replace hX := Lib.hid hX
    go_wp2_with fail
    refine (trueIssue_c xv x s2 d2 _ (hX.out.sl Iss.len)).mono ?_
    rintro e w9 ⟨rfl, b9⟩
    replace hX := Lib.hid (hX.out.mono b9)
    have S9 := b9.size
    have B9 := btrans B8 b9
    go_wp2_with fail
    refine (specTrueIssue_c xv x s2 d2 _ (hX.out.sl Iss.len)).mono ?_
    rintro e w10 ⟨rfl, b10⟩
    replace hX := Lib.hid (hX.out.mono b10)
    have S10 := b10.size
    have B10 := btrans B9 b10
    clear hX
    go_wp2_with fail
    refine (drawFirstGap_c _ _ (hY.out.mono B10)).mono ?_
    rintro e w11 ⟨yv, y, s3, f3, u3, rfl, hY3, hyl, b11⟩
    have S11 := b11.size
    have B11 := btrans B10 b11
    replace hY3 := Lib.hid hY3
    go_wp2_with fail
    refine (firstGap_c yv y s3 f3 u3 _ (hY3.out.sl Iss.len)).mono ?_
    rintro e w12 ⟨rfl, b12⟩
    replace hY3 := Lib.hid (hY3.out.mono b12)
    have S12 := b12.size
    have B12 := btrans B11 b12
    go_wp2_with fail
    refine (specFirstGap_c yv y s3 f3 u3 _ (hY3.out.sl Iss.len)).mono ?_
    rintro e w13 ⟨rfl, b13⟩
    replace hY3 := Lib.hid (hY3.out.mono b13)
    have S13 := b13.size
    have B13 := btrans B12 b13
    go_upto_if 180 with fail
    go_cut [2, 23, 24, 25, 26] from 27 (fun s _ _ _ _ W => s = .bool false ∧ Below w13.heap.size w13 W)
    case first => as_aux_lemma =>
      cases hG : (gapK y s3 f3 u3).isSome
      · go_wp2_with fail
        go_meet
        case rel => exact ⟨rfl, Below.refl _ _⟩
      · obtain ⟨t1, t2, t3⟩ := gap_at hG
        clear hG
        have HT1 := trueIssue_c yv y s3 (gapD y s3 f3 u3) w13 (hY3.out.sl Iss.len)
        rw [t1, show decide ((0 : Int) < 0) = false by decide] at HT1
        generalize gapD y s3 f3 u3 = gp at HT1 t1 t2 t3
        have t4 : ¬ gp < f3 := by omega
        have t5 : ¬ u3 < gp := by omega
        clear t1
        replace HT1 := Lib.hid HT1
        go_wp2_with fail
        refine HT1.out.mono ?_
        rintro e w8 ⟨rfl, b8⟩
        go_wp2_with fail
        go_meet
        case rel => exact ⟨rfl, b8⟩
    obtain ⟨rfl, hbc⟩ := hcut
    have b14 := hbc
    replace hY3 := Lib.hid (hY3.out.mono b14)
    have S14 := b14.size
    have B14 := btrans B13 b14
    clear hbc
    generalize wc = w14 at *
    as_aux_lemma =>
      clear hY3
      go_wp2_with fail
      refine (drawPutIssue_c _ _ (hY.out.mono B14)).mono ?_
      rintro e w15 ⟨zv, z, q, rfl, hZ, hzl, b15⟩
      have S15 := b15.size
      have B15 := btrans B14 b15
      replace hZ := Lib.hid hZ
      go_wp2_with fail
      refine callsAt (fun w16 hw => ?_)
      have b16 : Below w15.heap.size w15 w16 := by rw [hw]; exact below_alloc _ _
      have bx : BoxAt w16 w15.heap.size [.int .i64 q.s, .int .i64 q.n, .int .i64 q.fr, .int .i64 q.un] := by rw [hw]; exact BoxAt.new _ _ _
      replace hZ := Lib.hid (hZ.out.mono b16)
      have S16 := b16.size
      have B16 := btrans B15 b16
      clear hw
      obtain ⟨y0, y1, y2, y3⟩ : _ ∧ _ ∧ _ ∧ _ := ⟨bx.2 0 _ rfl, bx.2 1 _ rfl, bx.2 2 _ rfl, bx.2 3 _ rfl⟩
      refine (putIssue_c zv z q _ (hZ.out.sl Iss.len) (by omega)).mono ?_
      rintro e w17 ⟨r5, rfl, p5, b17⟩
      replace hZ := Lib.hid (hZ.out.mono b17)
      have S17 := b17.size
      have B17 := btrans B16 b17
      replace p5 := Lib.hid p5
      replace y0 := cellOn b17 y0
      replace y1 := cellOn b17 y1
      replace y2 := cellOn b17 y2
      replace y3 := cellOn b17 y3
      go_wp2_with fail
      refine (specPutIssue_c zv z q _ (hZ.out.sl Iss.len) (by omega)).mono ?_
      rintro e w18 ⟨r6, rfl, p6, b18⟩
      replace hZ := Lib.hid (hZ.out.mono b18)
      replace p5 := Lib.hid (p5.out.mono b18)
      have S18 := b18.size
      have B18 := btrans B17 b18
      replace p6 := Lib.hid p6
      clear y0 y1 y2 y3 bx
      cases hG : putGood z q
      · as_aux_lemma =>
          clear hG
          go_wp2_with fail
          refine (vIssues_c r5 r6 (putR z q) _ (p5.out.sl Iss.len) (p6.out.sl Iss.len)).mono ?_
          rintro e w19 ⟨rfl, b19⟩
          replace hZ := Lib.hid (hZ.out.mono b19)
          replace p5 := Lib.hid (p5.out.mono b19)
          replace p6 := Lib.hid (p6.out.mono b19)
          have S19 := b19.size
          have B19 := btrans B18 b19
          clear p5
          clear p6
          clear hZ
          go_wp2_with fail
          refine (drawIssueText_c _ _ (hY.out.mono B19)).mono ?_
          rintro e w20 ⟨u, rfl, b20⟩
          have S20 := b20.size
          have B20 := btrans B19 b20
          go_wp2_with fail
          refine callsAt (fun w21 hw => ?_)
          have b21 : Below w20.heap.size w20 w21 := by rw [hw]; exact below_alloc _ _
          have bx : BoxAt w21 w20.heap.size [.int .i64 u.s, .int .i64 u.n, .int .i64 u.fr, .int .i64 u.un] := by rw [hw]; exact BoxAt.new _ _ _
          have S21 := b21.size
          have B21 := btrans B20 b21
          clear hw
          obtain ⟨y0, y1, y2, y3⟩ : _ ∧ _ ∧ _ ∧ _ := ⟨bx.2 0 _ rfl, bx.2 1 _ rfl, bx.2 2 _ rfl, bx.2 3 _ rfl⟩
          refine (issueText_c u _ (HTB.out _ B21)).mono ?_
          rintro e w22 ⟨rfl, b22⟩
          have S22 := b22.size
          have B22 := btrans B21 b22
          replace y0 := cellOn b22 y0
          replace y1 := cellOn b22 y1
          replace y2 := cellOn b22 y2
          replace y3 := cellOn b22 y3
          go_wp2_with fail
          refine (specIssueText_c u _).mono ?_
          rintro e w23 ⟨rfl, b23⟩
          have S23 := b23.size
          have B23 := btrans B22 b23
          replace y0 := cellOn b23 y0
          replace y1 := cellOn b23 y1
          replace y2 := cellOn b23 y2
          replace y3 := cellOn b23 y3
          go_wp2_with fail
          refine (isIssue_c u _).mono ?_
          rintro e w24 ⟨rfl, b24⟩
          have S24 := b24.size
          have B24 := btrans B23 b24
          go_wp2_with fail
          go_ret
          exact ⟨ret_bool (by simp), B24⟩
      · as_aux_lemma =>
          have hA := put_are hG
          clear hG
          go_wp2_with fail
          refine (vIssues_c r5 r6 (putR z q) _ (p5.out.sl Iss.len) (p6.out.sl Iss.len)).mono ?_
          rintro e w19 ⟨rfl, b19⟩
          replace hZ := Lib.hid (hZ.out.mono b19)
          replace p5 := Lib.hid (p5.out.mono b19)
          replace p6 := Lib.hid (p6.out.mono b19)
          have S19 := b19.size
          have B19 := btrans B18 b19
          have H := areIssues_c r5 (putR z q) w19 (p5.out.sl Iss.len)
          rw [hA] at H
          replace H := Lib.hid H
          clear hA
          go_wp2_with fail
          refine (H.out).mono ?_
          rintro e w20 ⟨rfl, b20⟩
          replace hZ := Lib.hid (hZ.out.mono b20)
          replace p5 := Lib.hid (p5.out.mono b20)
          replace p6 := Lib.hid (p6.out.mono b20)
          have S20 := b20.size
          have B20 := btrans B19 b20
          clear p5
          clear p6
          clear hZ
          go_wp2_with fail
          refine (drawIssueText_c _ _ (hY.out.mono B20)).mono ?_
          rintro e w21 ⟨u, rfl, b21⟩
          have S21 := b21.size
          have B21 := btrans B20 b21
          go_wp2_with fail
          refine callsAt (fun w22 hw => ?_)
          have b22 : Below w21.heap.size w21 w22 := by rw [hw]; exact below_alloc _ _
          have bx : BoxAt w22 w21.heap.size [.int .i64 u.s, .int .i64 u.n, .int .i64 u.fr, .int .i64 u.un] := by rw [hw]; exact BoxAt.new _ _ _
          have S22 := b22.size
          have B22 := btrans B21 b22
          clear hw
          obtain ⟨y0, y1, y2, y3⟩ : _ ∧ _ ∧ _ ∧ _ := ⟨bx.2 0 _ rfl, bx.2 1 _ rfl, bx.2 2 _ rfl, bx.2 3 _ rfl⟩
          refine (issueText_c u _ (HTB.out _ B22)).mono ?_
          rintro e w23 ⟨rfl, b23⟩
          have S23 := b23.size
          have B23 := btrans B22 b23
          replace y0 := cellOn b23 y0
          replace y1 := cellOn b23 y1
          replace y2 := cellOn b23 y2
          replace y3 := cellOn b23 y3
          go_wp2_with fail
          refine (specIssueText_c u _).mono ?_
          rintro e w24 ⟨rfl, b24⟩
          have S24 := b24.size
          have B24 := btrans B23 b24
          replace y0 := cellOn b24 y0
          replace y1 := cellOn b24 y1
          replace y2 := cellOn b24 y2
          replace y3 := cellOn b24 y3
          go_wp2_with fail
          refine (isIssue_c u _).mono ?_
          rintro e w25 ⟨rfl, b25⟩
          have S25 := b25.size
          have B25 := btrans B24 b25
          go_wp2_with fail
          go_ret
          exact ⟨ret_bool (by simp), B25⟩

/-- what the row's condition gives: Go's table reads as it is laid -/
theorem tab_of_laid {W : World} (h : laidMetH Tryd.prog Rows.fnIssuesRow.laid W) : Tab W := by
  have h2 := h.filter (fun x => x.1 == "internal/strconv.uint64pow10")
  have e : (Rows.fnIssuesRow.laid.filter fun x => x.1 == "internal/strconv.uint64pow10") = [("internal/strconv.uint64pow10", Lib.tabData .u64 Lib.pow10Tab)] := by kernel_rfl
  rw [e, MakeChecks.laidMetH_plain _ _ _ (by kernel_rfl)] at h2
  exact Lib.tabIs_of_head (P := Tryd.prog) (g := 0) (t := 148) (e := 79) (by kernel_rfl) (by kernel_rfl) Tryd.underlying148 Tryd.underlying79 (by kernel_rfl) (by kernel_rfl) h2
theorem door_met (os : Os) (args : Array Value) : laidMetH Tryd.prog Rows.fnIssuesRow.laid ((World.doorLaid Tryd.prog 400 os).forCall (fun _ _ => 0) ⟨#[], args, []⟩).memory :=
  laidMetH_of_parts3 (fuel := 8) (laidMet_of_run' 8 (by kernel_rfl) (by kernel_rfl)) (by kernel_rfl) (by kernel_rfl)
set_option maxRecDepth 100000 in
theorem liftedIssuesF (os : Os) (started : os.Started) (H : Type) (enc : TypeId × Value → H) :
    ReturnsInHanded {} Tryd.checked os 3 .any (fun w args => (Rows.fnIssuesSpec.pre enc Tryd.prog Tryd.f3 [] false w args ∧ laidMetH Tryd.prog Rows.fnIssuesRow.laid w) ∧ sizedMet enc Tryd.prog Tryd.f3 (OpenSpec.ofChange Rows.fnIssuesSpec) false w args)
      (Rows.fnIssuesSpec.post enc Tryd.prog Tryd.f3 false true false false) := by
  refine returnsInHanded_of_change_and (C := Tryd.checked) (X := fun w _ => laidMetH Tryd.prog Rows.fnIssuesRow.laid w) (fun _ _ _ hh h => h.of_heap hh) own started (by kernel_rfl) Tryd.func3
    (ChangeSpec.witness_shaped (enc := enc) (C := Tryd.checked) (os := os) (X := fun w _ => laidMetH Tryd.prog Rows.fnIssuesRow.laid w) false (World.doorLaid Tryd.prog 400 os) #[.slice none 0 0] 8 rfl (World.shaped_of_RefB (by kernel_rfl) (by kernel_rfl)) (by kernel_rfl) (by kernel_rfl) (by kernel_rfl) (door_met os _)) ?_
  intro W base args ds gs before hval0 hW _ _ hL _
  have hval : ∀ (j : Nat) t v, Tryd.f3.params[j]? = some t → args[j]? = some v → Value.okWide Tryd.prog W .any base t v := hval0
  have hW' := hW
  obtain ⟨p, q, hA0, hV, rfl, hfz, hnd⟩ := hW
  have hA : DataW.TrodAll enc Tryd.prog W 0 (fun _ => true) true Tryd.f3.params.toList args.toList ds p := hA0
  rw [Tryd.params3] at hA hval
  obtain ⟨v0, vs0, d0, ds0, p0, q0, hargs, rfl, rfl, h0, r0⟩ := trodAll_cons hA
  obtain ⟨rfl, rfl, rfl⟩ := trodAll_nil r0
  obtain rfl : args = #[v0] := by cases args; simp_all
  obtain ⟨rfl, rfl⟩ := trodVars_none hV
  have s0 := readBytes h0 (hval 0 22 v0 rfl rfl)
  have hcall : Calls Tryd.prog 3 #[v0] W fun e w' => e = .returned (.bool true) ∧ Below W.heap.size W w' := lawIssuesF v0 W s0 (tab_of_laid hL)
  refine hcall.mono fun e W' ⟨he, hb⟩ => ?_
  subst he
  exact ⟨_, rfl, post_below (pa := p0 ++ []) rfl Tryd.underlying4 hW' rfl rfl rfl (fun sp hsp => (trodAll_cons_mk (WideElems.Trod_stays laidOut (by kernel_rfl) (of_decide_eq_true (by kernel_rfl)) h0 (fun x hx => hb.same (hW'.lt x (by simp [hx]))) (fun x hx => hsp x (by simp [hx]))) trodAll_mk0)) (by simp) hb⟩

theorem rowIssuesF : Rows.FnIssuesSaid :=
  OpenClaim.holds_of_wide 3 Tryd.f3 rfl rfl rfl rfl rfl rfl rfl ⟨rfl, rfl, rfl, rfl, rfl⟩ rfl rfl rfl rfl rfl (by kernel_rfl) Tryd.func3 (by kernel_rfl)
    (of_decide_eq_true (by kernel_rfl)) (by unfold Func.isWrapper; first | (rw [if_pos (by decide +kernel)]; kernel_rfl) | (rw [if_neg (by decide +kernel)]; exact ⟨rfl, rfl⟩))
    (fun os started H enc _ => liftedIssuesF os started H enc)
theorem holdsIssuesF : Rows.FnIssuesCardSaid :=
  Claim7.holds_tied_plain_at .later Rows.fnIssuesCard.alts Rows.fnIssuesCard.laidKinds Rows.fnIssuesCard.laidTests Rows.fnIssuesCard.stood.harness Rows.fnIssuesCard.stood.looks
    rowIssuesF (fun _ h => by cases h) (by kernel_rfl) (fun _ h => by cases h) fnIssues_row_tie rfl ⟨rfl, rfl⟩ (by kernel_rfl) rfl
    (fun f fn hf hfn => by
      obtain rfl : f = 3 := Option.some.inj ((show Tryd.prog.funcNamed "loop.example/g01060/laws.FnIssues" = some 3 by kernel_rfl).symm.trans hf) |>.symm
      obtain rfl : fn = Tryd.f3 := (Option.some.inj (Tryd.func3.symm.trans hfn)).symm
      exact ⟨by kernel_rfl, fun j t ht => by
        rw [Tryd.params3] at ht
        have hall : ∀ t, t ∈ Tryd.f3.params.toList → Tryd.prog.wantsStandIn t = false := by
          rw [Tryd.params3]
          intro t ht
          simp at ht
          first | (subst ht; kernel_rfl) | (rcases ht with rfl | rfl <;> kernel_rfl) | (rcases ht with rfl | rfl | rfl <;> kernel_rfl)
        refine hall t ?_
        rw [Tryd.params3]
        exact List.mem_of_getElem? (by simpa using ht)⟩)
    (by kernel_rfl)
end Go.Proofs.YthibchaiaedboaaDoor
