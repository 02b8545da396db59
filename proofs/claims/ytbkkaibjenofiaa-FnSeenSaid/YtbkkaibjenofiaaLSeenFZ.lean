/- The law FnSeen holds: one more step of references reaches no fewer headings, mutual pairs see each other in one step, and a dropped heading is seen from none: for every input it answers true, and the bytes read behind the call as before. No condition. -/
import Derived.Test.YtbkkaibjenofiaaVt
import Derived.Test.YtbkkaibjenofiaaBr
import Derived.Test.YtbkkaibjenofiaaDj23
import Derived.Test.YtbkkaibjenofiaaZa2
import Derived.Test.YtbkkaibjenofiaaLw23
import Derived.Test.YtbkkaibjenofiaaSi23
import Derived.Test.YtbkkaibjenofiaaSw23
import Derived.Test.YtbkkaibjenofiaaMv23
import Derived.Test.YtbkkaibjenofiaaHm23
import Derived.Deep.Cut
import Derived.Deep.CutBlock
import Derived.Outline
namespace Go.Proofs.Ytbkkaibjenofiaa
open Go.ChangeShapes Go.WideShapes Go.ChangeAt Go.RowKit
set_option maxHeartbeats 16000000 in
set_option maxRecDepth 100000 in
theorem lawSeenF (v : Value) (w : World) (h : Bytes w v) : Calls Try.prog 4 #[v] w fun e w' => e = .returned (.bool true) ∧ Below w.heap.size w w' := by
  have hY := Lib.hid h
  obtain ⟨a0, n0, cap0, b0, o0, rfl, hn0, hm0, -⟩ := h
  unfold maxLen at hm0
  by_cases hbig : 65536 < n0
  · go_enter Try.func4, Try.ntmps4
    go_wp2_with (go_at_call 6; refine (rBig_yes _ _ _ _ (by omega) hbig).mono ?_; rintro e w' ⟨rfl, rfl⟩)
    go_ret
    exact ⟨rfl, Below.refl _ _⟩
  go_enter Try.func4, Try.ntmps4
  go_wp2_with (go_at_call 6; refine (rBig_no _ _ _ _ hbig).mono ?_; rintro e w' ⟨rfl, rfl⟩)
  refine (drawSeenFrom_c _ w hY.out).mono ?_
  rintro e w1 ⟨lv, l, n, st, rfl, hO, b1⟩
  have S1 := b1.size
  have B1 := b1
  replace hO := Lib.hid hO
  go_wp2_with fail
  refine (seenFrom_c lv l n st _ hO.out.sl hO.out.deep hO.out.fits).mono ?_
  rintro e w2 ⟨r1, rfl, p1, b2⟩
  replace hO := Lib.hid (hO.out.mono b2)
  have S2 := b2.size
  have B2 := btrans B1 b2
  replace p1 := Lib.hid p1
  go_wp2_with fail
  refine (specSeenFrom_c lv l n st _ hO.out.sl hO.out.deep hO.out.fits).mono ?_
  rintro e w3 ⟨r2, rfl, p2, b3⟩
  replace hO := Lib.hid (hO.out.mono b3)
  replace p1 := Lib.hid (p1.out.mono b3)
  have S3 := b3.size
  have B3 := btrans B2 b3
  replace p2 := Lib.hid p2
  go_wp2_with fail
  refine (rInts_c r1 r2 (snR l n st) _ (p1.out.sl IntE.len) (p2.out.sl IntE.len)).mono ?_
  rintro e w4 ⟨rfl, b4⟩
  replace hO := Lib.hid (hO.out.mono b4)
  replace p1 := Lib.hid (p1.out.mono b4)
  replace p2 := Lib.hid (p2.out.mono b4)
  have S4 := b4.size
  have B4 := btrans B3 b4
  clear p2
  obtain ⟨a1, cap1, c1, o1, rfl, hk1, hm1, hc1⟩ := p1.out.sl IntE.len
  unfold maxLen at hm1
  have hN := fun (hh : isSn l n st = true) => And.intro (sn_parts hh).2.2.1 (fun h9 => sn_next hh h9)
  generalize isSn l n st = ok1 at hN ⊢
  replace hN := Lib.hid hN
  go_upto_region 8 with fail
  go_cut [82] from 78 (fun t W => ∃ t1 : Bool, t = .bool t1 ∧ (t1 = true → ok1 = true ∧ st < 9) ∧ W = w4)
  case first =>
    cases ok1
    · go_wp2_with fail
      go_meet
      case rel => exact ⟨false, rfl, by simp, rfl⟩
    · by_cases h9 : st < 9
      · go_wp2_with fail
        go_meet
        case rel => exact ⟨true, rfl, fun _ => ⟨rfl, h9⟩, rfl⟩
      · go_wp2_with fail
        go_meet
        case rel => exact ⟨false, rfl, by simp, rfl⟩
  obtain ⟨t1, rfl, ht1, rfl⟩ := hcut
  go_upto_if 82 with fail
  obtain ⟨wk, hwk⟩ : ∃ wk, wk = wc := ⟨_, rfl⟩
  go_cut [2, 10, 11, 12] from 47 (fun s _ _ _ W => s = .bool false ∧ Below wk.heap.size wk W)
  case first =>
    subst hwk
    cases t1
    · go_wp2_with fail
      go_meet
      case rel => exact ⟨rfl, Below.refl _ _⟩
    · obtain ⟨rfl, h9⟩ := ht1 rfl
      obtain ⟨h0, h1⟩ := hN.out rfl
      obtain ⟨f1, f2, f3⟩ := h1 h9
      have H := seenFrom_c lv l n (st + 1) wk hO.out.sl hO.out.deep hO.out.fits
      rw [f1] at H
      replace H := Lib.hid H
      replace f3 := Lib.hid f3
      clear h1 f1 ht1
      go_wp2_with fail
      refine H.out.mono ?_
      rintro e x1 ⟨r3, rfl, p3, d1⟩
      obtain ⟨a3, cap3, c3, o3, rfl, hk3, hm3, hc3⟩ := p3.sl IntE.len
      unfold maxLen at hm3
      have f4 : ¬ (snR l n (st + 1)).length < (snR l n st).length := by omega
      have f5 : decide ((snR l n (st + 1)).length < (snR l n st).length) = false := by simp; omega
      clear H p3 f2
      go_wp2_with fail
      go_loopw [2, 12] (fun o vi wr => ∃ i : Nat, i ≤ (snR l n st).length ∧ o = .bool false ∧ vi = .int .i64 i ∧ Below x1.heap.size x1 wr) (fun _ vi _ => (snR l n st).length - (intOf vi).toNat)
      case atStart => exact ⟨0, Nat.zero_le _, rfl, rfl, Below.refl _ _⟩
      case round =>
        obtain ⟨i, hi, rfl, rfl, hb⟩ := hrel
        by_cases hlt : i < (snR l n st).length
        · obtain ⟨rfl, hbw, e0⟩ := IntE.at (hc1.mono (btrans d1 hb)) i hlt
          have hR := rHas_c (.slice a3 (snR l n (st + 1)).length cap3) (snR l n (st + 1)) (gd (snR l n st) i) wr ⟨a3, cap3, c3, o3, rfl, hk3, hm3, hc3.mono hb⟩
          rw [f3.out i hlt] at hR
          generalize gd (snR l n st) i = z at e0 hR
          replace hR := Lib.hid hR
          go_wp2_with fail
          refine hR.out.mono ?_
          rintro e w8 ⟨rfl, rfl⟩
          go_wp2_with fail
          go_roundw
          case rel => exact ⟨i + 1, by omega, rfl, by go_num, hb⟩
          case measure => simp [intOf]; omega
        · obtain rfl : i = (snR l n st).length := by omega
          go_wp2_with fail
          go_meet
          case rel => exact ⟨rfl, btrans d1 hb⟩
  obtain ⟨rfl, hbc⟩ := hcut
  rw [hwk] at hbc
  clear hwk
  have b5 := hbc
  replace hO := Lib.hid (hO.out.mono b5)
  replace p1 := Lib.hid (p1.out.mono b5)
  have S5 := b5.size
  have B5 := btrans B4 b5
  clear hbc
  generalize wc = w5 at *
  as_aux_lemma =>
    clear p1
    go_wp2_with fail
    refine (mutualPairs_c lv l _ hO.out.sl hO.out.deep hO.out.fits).mono ?_
    rintro e w6 ⟨r4, g4, rfl, p4, e4, b6⟩
    replace hO := Lib.hid (hO.out.mono b6)
    have S6 := b6.size
    have B6 := btrans B5 b6
    replace p4 := Lib.hid p4
    replace e4 := Lib.hid e4
    go_wp2_with fail
    refine (specMutualPairs_c lv l _ hO.out.sl hO.out.deep hO.out.fits).mono ?_
    rintro e w7 ⟨r5, g5, rfl, p5, e5, b7⟩
    replace hO := Lib.hid (hO.out.mono b7)
    replace p4 := Lib.hid (p4.out.mono b7)
    have S7 := b7.size
    have B7 := btrans B6 b7
    replace p5 := Lib.hid p5
    replace e5 := Lib.hid e5
    go_wp2_with fail
    refine (rTable_c r4 r5 g4 g5 _ (Rw.OwnN.sl p4.out) (Rw.OwnN.deep p4.out) (Rw.OwnN.sl p5.out) (Rw.OwnN.deep p5.out) (e4.out.trans e5.out.symm)).mono ?_
    rintro e w8 ⟨rfl, b8⟩
    replace hO := Lib.hid (hO.out.mono b8)
    replace p4 := Lib.hid (p4.out.mono b8)
    replace p5 := Lib.hid (p5.out.mono b8)
    have S8 := b8.size
    have B8 := btrans B7 b8
    clear p5
    obtain ⟨a4, cap4, c4, o4, rfl, hk4, hm4, hc4⟩ := Rw.OwnN.sl p4.out
    have hd4 := Lib.hid (Rw.OwnN.deep p4.out)
    unfold maxLen at hm4
    go_upto_block 2 with fail
    go_cut [2] from 17 (fun s W => s = .bool false ∧ Below w8.heap.size w8 W)
    case first =>
      go_wp2_with fail
      go_loopw [2, 17] (fun o vi wr => ∃ i : Nat, i ≤ g4.length ∧ o = .bool false ∧ vi = .int .i64 i ∧ Below w8.heap.size w8 wr) (fun _ vi _ => g4.length - (intOf vi).toNat)
      case atStart => exact ⟨0, Nat.zero_le _, rfl, rfl, Below.refl _ _⟩
      case round =>
        obtain ⟨i, hi, rfl, rfl, hb⟩ := hrel
        by_cases hlt : i < g4.length
        · obtain ⟨rfl, hbw, e0⟩ := Rw.at (hc4.mono hb) i hlt
          have hI := (hd4.out i hlt).mono hb
          have hm : (gd g4 i).sub ∈ mpR l := by rw [← e4.out]; exact List.mem_map.2 ⟨gd g4 i, gd_mem hlt, rfl⟩
          obtain ⟨pa, pb, hs, s1, s2, s3, s4⟩ := mp_sees' hm
          unfold Rw.In at hI
          rw [hs] at e0 hI
          obtain ⟨b9, o9, hin, hl9, hm9, hc9⟩ := Sl.toCells hI
          obtain ⟨ha9, hb9, d0⟩ := IntE.at hc9 0 (by simp)
          obtain ⟨-, -, d1⟩ := IntE.at hc9 1 (by simp)
          rw [ha9] at e0
          replace d0 : wr.cell? ⟨b9, o9, none⟩ = some (.int .i64 pa) := d0
          replace d1 : wr.cell? ⟨b9, o9 + 1, none⟩ = some (.int .i64 pb) := d1
          replace e0 : wr.cell? ⟨c4, o4 + i, none⟩ = some (.slice (some ⟨b9, o9, none⟩) 2 (gd g4 i).cap) := e0
          have hl2 : 2 ≤ (gd g4 i).cap := by simpa using hl9
          generalize (gd g4 i).cap = cp at e0 hl2
          have hO8 := Lib.hid (hO.out.mono hb)
          have s3 := Lib.hid s3
          have s4 := Lib.hid s4
          replace s1 := Lib.hid s1
          replace s2 := Lib.hid s2
          clear hs hm hI hc9 hin hl9 ha9
          go_wp2_with fail
          refine (seenOne_c hO8.out s1.out).mono ?_
          rintro e x1 ⟨v1, rfl, q1, m1⟩
          have hO8 := Lib.hid (hO8.out.mono m1)
          have e0 := cellOn m1 e0
          have d0 := cellOn m1 d0
          have d1 := cellOn m1 d1
          have B1 := hb.trans (m1.mono hb.size)
          replace q1 := Lib.hid q1
          have hbx := block_lt_of_cell e0
          have hby := block_lt_of_cell d0
          go_wp2_with fail
          refine (seenOne_c hO8.out s2.out).mono ?_
          rintro e x2 ⟨v2, rfl, q2, m2⟩
          have e0 := cellOn m2 e0
          have d0 := cellOn m2 d0
          have d1 := cellOn m2 d1
          have B2 := B1.trans (m2.mono B1.size)
          replace q1 := Lib.hid (q1.out.mono m2)
          have hbx := block_lt_of_cell e0
          have hby := block_lt_of_cell d0
          have R1 := rHas_c v1 (snR l pa 1) pb x2 (q1.out.sl IntE.len)
          rw [s3.out] at R1
          replace R1 := Lib.hid R1
          have R2 := rHas_c v2 (snR l pb 1) pa x2 (q2.sl IntE.len)
          rw [s4.out] at R2
          replace R2 := Lib.hid R2
          clear hO8 q1 q2 s1 s2 s3 s4
          go_wp2_with fail
          refine R1.out.mono ?_
          rintro e x3 ⟨rfl, rfl⟩
          go_wp2_with fail
          refine R2.out.mono ?_
          rintro e x3 ⟨rfl, rfl⟩
          go_wp2_with fail
          go_roundw
          case rel => exact ⟨i + 1, by omega, rfl, by go_num, B2⟩
          case measure => simp [intOf]; omega
        · obtain rfl : i = g4.length := by omega
          go_wp2_with fail
          go_meet
          case rel => exact ⟨rfl, hb⟩
    obtain ⟨rfl, hbc⟩ := hcut
    have b9 := hbc
    replace hO := Lib.hid (hO.out.mono b9)
    replace p4 := Lib.hid (p4.out.mono b9)
    have S9 := b9.size
    have B9 := btrans B8 b9
    clear hbc
    generalize wc = w9 at *
    as_aux_lemma =>
      clear hd4
      clear p4
      clear hO
      go_wp2_with fail
      refine (drawDropHeading_c _ _ (hY.out.mono B9)).mono ?_
      rintro e w10 ⟨dv, d, x, rfl, hD, b10⟩
      have S10 := b10.size
      have B10 := btrans B9 b10
      replace hD := Lib.hid hD
      go_wp2_with fail
      refine (dropHeading_c dv d x _ hD.out.sl hD.out.deep hD.out.fits hD.out.sub).mono ?_
      rintro e w11 ⟨r6, l6, rfl, p6, e6, b11⟩
      replace hD := Lib.hid (hD.out.mono b11)
      have S11 := b11.size
      have B11 := btrans B10 b11
      replace p6 := Lib.hid p6
      go_wp2_with fail
      refine (specDropHeading_c dv d x _ hD.out.sl hD.out.deep hD.out.fits).mono ?_
      rintro e w12 ⟨r7, l7, rfl, p7, e7, b12⟩
      replace hD := Lib.hid (hD.out.mono b12)
      replace p6 := Lib.hid (p6.out.mono b12)
      have S12 := b12.size
      have B12 := btrans B11 b12
      replace p7 := Lib.hid p7
      go_wp2_with fail
      refine (rHeadings_c r6 r7 l6 l7 _ (p6.out.own.sl Hdg.len) (Hdg.OwnN.deep p6.out) (p7.out.own.sl Hdg.len) (Hdg.OwnN.deep p7.out) (e7.trans e6.symm)).mono ?_
      rintro e w13 ⟨rfl, b13⟩
      replace hD := Lib.hid (hD.out.mono b13)
      replace p6 := Lib.hid (p6.out.mono b13)
      replace p7 := Lib.hid (p7.out.mono b13)
      have S13 := b13.size
      have B13 := btrans B12 b13
      clear p7
      have hA6 := Lib.hid (dp_all e6)
      have hf6 := dp_fit e6 hD.out.fits
      clear e6 e7
      obtain ⟨a6, cap6, c6, o6, rfl, hk6, hm6, hc6⟩ := p6.out.own.sl Hdg.len
      have hd6 := Lib.hid (Hdg.OwnN.deep p6.out)
      have hs6 := Lib.hid (p6.out.own.sl Hdg.len)
      unfold maxLen at hm6
      go_upto_block 4 with fail
      go_cut [2] from 28 (fun s W => s = .bool false ∧ Below w13.heap.size w13 W)
      case first =>
        go_wp2_with fail
        go_loopw [2, 28] (fun o vi wr => ∃ i : Nat, i ≤ l6.length ∧ o = .bool false ∧ vi = .int .i64 i ∧ Below w13.heap.size w13 wr) (fun _ vi _ => l6.length - (intOf vi).toNat)
        case atStart => exact ⟨0, Nat.zero_le _, rfl, rfl, Below.refl _ _⟩
        case round =>
          obtain ⟨i, hi, rfl, rfl, hb⟩ := hrel
          by_cases hlt : i < l6.length
          · obtain ⟨rfl, hbw, e0, -, -, -⟩ := Hdg.at (hc6.mono hb) i hlt
            have H := seenFrom_c (.slice (some ⟨c6, o6, none⟩) l6.length cap6) l6 (gd l6 i).id 1 wr (hs6.out.mono hb) (hd6.out.mono hb) hf6
            obtain ⟨s1, s2⟩ := hA6.out i hlt
            rw [s1] at H
            generalize (gd l6 i).id = z at e0 H s2
            replace H := Lib.hid H
            replace s2 := Lib.hid s2
            clear s1
            go_wp2_with fail
            refine H.out.mono ?_
            rintro e x1 ⟨v1, rfl, q1, m1⟩
            have R1 := rHas_c v1 (snR l6 z 1) x x1 (q1.sl IntE.len)
            rw [s2.out] at R1
            replace R1 := Lib.hid R1
            have B1 := hb.trans (m1.mono hb.size)
            clear q1 H
            go_wp2_with fail
            refine R1.out.mono ?_
            rintro e x3 ⟨rfl, rfl⟩
            go_wp2_with fail
            go_roundw
            case rel => exact ⟨i + 1, by omega, rfl, by go_num, B1⟩
            case measure => simp [intOf]; omega
          · obtain rfl : i = l6.length := by omega
            go_wp2_with fail
            go_meet
            case rel => exact ⟨rfl, hb⟩
      obtain ⟨rfl, hbc⟩ := hcut
      have b14 := hbc
      replace hD := Lib.hid (hD.out.mono b14)
      replace p6 := Lib.hid (p6.out.mono b14)
      have S14 := b14.size
      have B14 := btrans B13 b14
      clear hbc
      generalize wc = w14 at *
      as_aux_lemma =>
        clear hd6 hs6
        clear p6
        clear hD
        go_wp2_with fail
        refine (drawMoveHeading_c _ _ (hY.out.mono B14)).mono ?_
        rintro e w15 ⟨mv, m, y, un, rfl, hM, b15⟩
        have S15 := b15.size
        have B15 := btrans B14 b15
        replace hM := Lib.hid hM
        go_wp2_with fail
        refine (moveHeading_c mv m y un _ hM.out.sl hM.out.deep hM.out.fits hM.out.sub).mono ?_
        rintro e w16 ⟨r8, l8, rfl, p8, e8, b16⟩
        replace hM := Lib.hid (hM.out.mono b16)
        have S16 := b16.size
        have B16 := btrans B15 b16
        replace p8 := Lib.hid p8
        go_wp2_with fail
        refine (specMoveHeading_c mv m y un _ hM.out.sl hM.out.deep hM.out.fits hM.out.sub).mono ?_
        rintro e w17 ⟨r9, l9, rfl, p9, e9, b17⟩
        replace hM := Lib.hid (hM.out.mono b17)
        replace p8 := Lib.hid (p8.out.mono b17)
        have S17 := b17.size
        have B17 := btrans B16 b17
        replace p9 := Lib.hid p9
        go_wp2_with fail
        refine (rHeadings_c r8 r9 l8 l9 _ (p8.out.own.sl Hdg.len) (Hdg.OwnN.deep p8.out) (p9.out.own.sl Hdg.len) (Hdg.OwnN.deep p9.out) (e9.trans e8.symm)).mono ?_
        rintro e w18 ⟨rfl, b18⟩
        replace hM := Lib.hid (hM.out.mono b18)
        replace p8 := Lib.hid (p8.out.mono b18)
        replace p9 := Lib.hid (p9.out.mono b18)
        have S18 := b18.size
        have B18 := btrans B17 b18
        clear e8 e9
        clear p8
        clear p9
        clear hM
        go_wp2_with fail
        refine (drawLowestAbove_c _ _ (hY.out.mono B18)).mono ?_
        rintro e w19 ⟨uv, u, ua, ub, rfl, hL, b19⟩
        have S19 := b19.size
        have B19 := btrans B18 b19
        replace hL := Lib.hid hL
        go_wp2_with fail
        refine (lowestAbove_c uv u ua ub _ hL.out.sl hL.out.deep hL.out.fits).mono ?_
        rintro e w20 ⟨rfl, b20⟩
        replace hL := Lib.hid (hL.out.mono b20)
        have S20 := b20.size
        have B20 := btrans B19 b20
        go_wp2_with fail
        refine (lowSwap_c hL.out).mono ?_
        rintro e w21 ⟨rfl, b21⟩
        replace hL := Lib.hid (hL.out.mono b21)
        have S21 := b21.size
        have B21 := btrans B20 b21
        go_wp2_with fail
        refine (specLowestAbove_c uv u ua ub _ hL.out.sl hL.out.deep hL.out.fits).mono ?_
        rintro e w22 ⟨rfl, b22⟩
        replace hL := Lib.hid (hL.out.mono b22)
        have S22 := b22.size
        have B22 := btrans B21 b22
        go_wp2_with fail
        go_ret
        exact ⟨ret_bool (by simp), B22⟩

set_option maxRecDepth 100000 in
theorem liftedSeenF (os : Os) (started : os.Started) (H : Type) (enc : TypeId × Value → H) :
    ReturnsInHanded {} Try.checked os 4 .any (Rows.fnSeenSpec.pre6 enc Try.prog Try.f4 Rows.fnSeenRow.domain false) (Rows.fnSeenSpec.post enc Try.prog Try.f4 false true false false) := by
  refine returnsInHanded_of_change (C := Try.checked) own started (by kernel_rfl) Try.func4
    (ChangeSpec.witness6 (enc := enc) (C := Try.checked) false ⟨#[], #[.slice none 0 0], []⟩ 8 (by kernel_rfl) (by kernel_rfl) (by kernel_rfl) (by kernel_rfl)) ?_
  intro W base args ds gs before hval0 hW _ _
  have hval : ∀ (j : Nat) t v, Try.f4.params[j]? = some t → args[j]? = some v → Value.okWide Try.prog W .any base t v := hval0
  have hW' := hW
  obtain ⟨p, q, hA0, hV, rfl, hfz, hnd⟩ := hW
  have hA : DataW.TrodAll enc Try.prog W 0 (fun _ => true) true Try.f4.params.toList args.toList ds p := hA0
  rw [Try.params4] at hA hval
  obtain ⟨v0, vs0, d0, ds0, p0, q0, hargs, rfl, rfl, h0, r0⟩ := trodAll_cons hA
  obtain ⟨rfl, rfl, rfl⟩ := trodAll_nil r0
  obtain rfl : args = #[v0] := by cases args; simp_all
  obtain ⟨rfl, rfl⟩ := trodVars_none hV
  have s0 := readBytes h0 (hval 0 22 v0 rfl rfl)
  have hcall : Calls Try.prog 4 #[v0] W fun e w' => e = .returned (.bool true) ∧ Below W.heap.size W w' := lawSeenF v0 W s0
  refine hcall.mono fun e W' ⟨he, hb⟩ => ?_
  subst he
  exact ⟨_, rfl, post_below (pa := p0 ++ []) rfl Try.underlying4 hW' rfl rfl rfl (fun sp hsp => (trodAll_cons_mk (WideElems.Trod_stays laidOut (by kernel_rfl) (of_decide_eq_true (by kernel_rfl)) h0 (fun x hx => hb.same (hW'.lt x (by simp [hx]))) (fun x hx => hsp x (by simp [hx]))) trodAll_mk0)) (by simp) hb⟩

theorem holdsSeenF : Rows.FnSeenSaid :=
  OpenClaim.holds_of_wide 4 Try.f4 rfl rfl rfl rfl rfl rfl rfl ⟨rfl, rfl, rfl, rfl, rfl⟩ rfl rfl rfl rfl rfl (by kernel_rfl) Try.func4 (by kernel_rfl)
    (of_decide_eq_true (by kernel_rfl)) (by unfold Func.isWrapper; first | (rw [if_pos (by decide +kernel)]; kernel_rfl) | (rw [if_neg (by decide +kernel)]; exact ⟨rfl, rfl⟩))
    (fun os started H enc _ => liftedSeenF os started H enc)
end Go.Proofs.Ytbkkaibjenofiaa
