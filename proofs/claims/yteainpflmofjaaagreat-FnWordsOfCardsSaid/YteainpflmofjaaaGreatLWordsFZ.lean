/- The law FnWordsOfCards holds: an added word is found with its card, words in common are the same in both directions, and the nearest card has as many as told: for every input it answers true, and the bytes read behind the call as before. No condition. -/
import Derived.Test.YteainpflmofjaaaGreatPf24
import Derived.Test.YteainpflmofjaaaGreatZa2
import Derived.Test.YteainpflmofjaaaGreatCm24
import Derived.Test.YteainpflmofjaaaGreatNw24
import Derived.Test.YteainpflmofjaaaGreatWc24
import Derived.Deep.Cut
import Derived.Deep.CutBlock
import Derived.Outline
namespace Go.Proofs.YteainpflmofjaaaGreat
open Go.ChangeShapes Go.WideShapes Go.ChangeAt Go.RowKit
set_option maxHeartbeats 16000000 in
set_option maxRecDepth 100000 in
theorem lawWordsF (v : Value) (w : World) (h : Bytes w v) : Calls Tryz.prog 3 #[v] w fun e w' => e = .returned (.bool true) ∧ Below w.heap.size w w' := by
  have hY := Lib.hid h
  obtain ⟨a0, n0, cap0, b0, o0, rfl, hn0, hm0, -⟩ := h
  unfold maxLen at hm0
  by_cases hbig : 65536 < n0
  · go_enter Tryz.func3, Tryz.ntmps3
    go_wp2_with (go_at_call 4; refine (rBig_yes _ _ _ _ (by omega) hbig).mono ?_; rintro e w' ⟨rfl, rfl⟩)
    go_ret
    exact ⟨rfl, Below.refl _ _⟩
  go_enter Tryz.func3, Tryz.ntmps3
  go_wp2_with (go_at_call 4; refine (rBig_no _ _ _ _ hbig).mono ?_; rintro e w' ⟨rfl, rfl⟩)
  refine (drawAddWord_c _ w hY.out).mono ?_
  rintro e w1 ⟨lv, l, n, wd, rfl, hO, hwd, b1⟩
  have S1 := b1.size
  have B1 := b1
  replace hO := Lib.hid hO
  have hwm : wd.size ≤ maxLen := by unfold maxLen; omega
  go_wp2_with fail
  refine (addWord_c lv l n wd _ hO.out.sl hO.out.deep hO.out.fits hwm).mono ?_
  rintro e w2 ⟨r1, l1, rfl, p1, e1, b2⟩
  replace hO := Lib.hid (hO.out.mono b2)
  have S2 := b2.size
  have B2 := btrans B1 b2
  replace p1 := Lib.hid p1
  replace e1 := Lib.hid e1
  go_wp2_with fail
  refine (specAddWord_c lv l n wd _ hO.out.sl hO.out.deep hO.out.fits hwm).mono ?_
  rintro e w3 ⟨r2, l2, rfl, p2, e2, b3⟩
  replace hO := Lib.hid (hO.out.mono b3)
  replace p1 := Lib.hid (p1.out.mono b3)
  have S3 := b3.size
  have B3 := btrans B2 b3
  replace p2 := Lib.hid p2
  replace e2 := Lib.hid e2
  go_wp2_with fail
  refine (rCards_c r1 r2 l1 l2 _ (p1.out.own.sl Crd.len) (Crd.OwnN.deep p1.out) (p2.out.own.sl Crd.len) (Crd.OwnN.deep p2.out) (e2.out.trans e1.out.symm)).mono ?_
  rintro e w4 ⟨rfl, b4⟩
  replace hO := Lib.hid (hO.out.mono b4)
  replace p1 := Lib.hid (p1.out.mono b4)
  replace p2 := Lib.hid (p2.out.mono b4)
  have S4 := b4.size
  have B4 := btrans B3 b4
  clear p2
  clear e2
  have hA := Lib.hid (fun hh => aw_done (n := n) (w := wd) e1.out hO.out.fits hwm hh)
  clear e1
  generalize awG l n wd = ok1 at hA ⊢
  go_upto_if 91 with fail
  go_cut [2] from 10 (fun s W => s = .bool false ∧ Below w4.heap.size w4 W)
  case first => as_aux_lemma =>
    cases ok1
    · go_wp2_with fail
      go_meet
      case rel => exact ⟨rfl, Below.refl _ _⟩
    · obtain ⟨a1, a2, a3, a4, a5, a6, hf⟩ := hA.out rfl
      obtain ⟨n1, n2⟩ := wcN_range l wd
      have hlen := hO.out.len
      have hU : Own (w4.alloc (.cells #[.string wd] 9)) w4.heap.size 9 StrE.enc 1 (.slice (some ⟨w4.heap.size, 0, none⟩) 1 1) [wd] := ⟨rfl, .inr ⟨w4.heap.size, 1, _, rfl, Nat.le_refl _, heap_alloc_new _ _, Nat.le_refl _, by simp [maxLen], rfl, rfl⟩⟩
      have b0 := below_alloc w4 (.cells #[.string wd] 9)
      have HC := cardsWith_c r1 (.slice (some ⟨w4.heap.size, 0, none⟩) 1 1) l1 [wd] (w4.alloc (.cells #[.string wd] 9)) ((p1.out.mono b0).own.sl Crd.len) (Crd.OwnN.deep (p1.out.mono b0)) hf (hU.sl StrE.len) (fun i hi => by
        obtain rfl : i = 0 := by simpa using hi
        exact hwm)
      rw [a4] at HC
      have H1 := Lib.hid (fun W (hb : Below w4.heap.size w4 W) => by have H := wordCounts_c lv l wd W (hO.out.sl.mono hb) (hO.out.deep.mono hb) hO.out.fits hwm; rw [a1] at H; exact H)
      have H2 := Lib.hid (fun W (hb : Below w4.heap.size w4 W) => by have H := wordCounts_c r1 l1 wd W ((p1.out.mono hb).own.sl Crd.len) (Crd.OwnN.deep (p1.out.mono hb)) hf hwm; rw [a2, a3] at H; exact H)
      replace HC := Lib.hid HC
      generalize wcN l wd = N at H1 H2 a6 n1 n2
      generalize ctL l1 [wd] = C at HC a5 a6
      replace a5 := Lib.hid a5
      replace hf := Lib.hid hf
      clear hA hU a1 a2 a3 a4
      go_wp2_with fail
      refine HC.out.mono ?_
      rintro e x1 ⟨cv, rfl, pc, c1⟩
      have c1' := btrans b0 c1
      obtain ⟨ca, cc, cb, co, rfl, hk1, hm1, -⟩ := pc.sl IntE.len
      replace pc := Lib.hid pc
      clear c1 b0 HC
      go_wp2_with fail
      refine (H1.out _ c1').mono ?_
      rintro e x2 ⟨rfl, c2⟩
      replace pc := Lib.hid (pc.out.mono c2)
      have c2' := btrans c1' c2
      go_wp2_with fail
      refine (H2.out _ c2').mono ?_
      rintro e x3 ⟨rfl, c3⟩
      replace pc := Lib.hid (pc.out.mono c3)
      have c3' := btrans c2' c3
      clear H1 H2 c1' c2' c2 c3
      have hR := rHas_c _ C n x3 (pc.out.sl IntE.len)
      rw [a5.out] at hR
      replace hR := Lib.hid hR
      go_wp2_with fail
      refine hR.out.mono ?_
      rintro e x4 ⟨rfl, rfl⟩
      go_wp2_with fail
      go_meet
      case rel => exact ⟨rfl, c3'⟩
  obtain ⟨rfl, hbc⟩ := hcut
  have b5 := hbc
  replace hO := Lib.hid (hO.out.mono b5)
  replace p1 := Lib.hid (p1.out.mono b5)
  have S5 := b5.size
  have B5 := btrans B4 b5
  clear hbc
  generalize wc = w5 at *
  as_aux_lemma =>
    clear p1
    clear hA
    go_wp2_with fail
    refine (drawCommonWords_c _ _ (hY.out.mono B5)).mono ?_
    rintro e w6 ⟨mv, m, x, y, rfl, hM, b6⟩
    replace hO := Lib.hid (hO.out.mono b6)
    have S6 := b6.size
    have B6 := btrans B5 b6
    replace hM := Lib.hid hM
    go_wp2_with fail
    refine (commonWords_c mv m x y _ hM.out.sl hM.out.deep hM.out.fits).mono ?_
    rintro e w7 ⟨r3, rfl, p3, b7⟩
    replace hO := Lib.hid (hO.out.mono b7)
    replace hM := Lib.hid (hM.out.mono b7)
    have S7 := b7.size
    have B7 := btrans B6 b7
    replace p3 := Lib.hid p3
    go_wp2_with fail
    refine (specCommonWords_c mv m x y _ hM.out.sl hM.out.deep hM.out.fits).mono ?_
    rintro e w8 ⟨r4, rfl, p4, b8⟩
    replace hO := Lib.hid (hO.out.mono b8)
    replace hM := Lib.hid (hM.out.mono b8)
    replace p3 := Lib.hid (p3.out.mono b8)
    have S8 := b8.size
    have B8 := btrans B7 b8
    replace p4 := Lib.hid p4
    go_wp2_with fail
    refine (rTexts_c r3 r4 (cwL m x y) _ (p3.out.sl StrE.len) (p4.out.sl StrE.len)).mono ?_
    rintro e w9 ⟨rfl, b9⟩
    replace hO := Lib.hid (hO.out.mono b9)
    replace hM := Lib.hid (hM.out.mono b9)
    replace p3 := Lib.hid (p3.out.mono b9)
    replace p4 := Lib.hid (p4.out.mono b9)
    have S9 := b9.size
    have B9 := btrans B8 b9
    clear p4
    have H5 := commonWords_c mv m y x w9 hM.out.sl hM.out.deep hM.out.fits
    rw [cwL_comm m x y, cwG_comm m x y] at H5
    replace H5 := Lib.hid H5
    go_wp2_with fail
    refine (H5.out).mono ?_
    rintro e w10 ⟨r5, rfl, p5, b10⟩
    replace hO := Lib.hid (hO.out.mono b10)
    replace hM := Lib.hid (hM.out.mono b10)
    replace p3 := Lib.hid (p3.out.mono b10)
    have S10 := b10.size
    have B10 := btrans B9 b10
    replace p5 := Lib.hid p5
    clear H5
    go_wp2_with fail
    refine (rTexts_c r5 r3 (cwL m x y) _ (p5.out.sl StrE.len) (p3.out.sl StrE.len)).mono ?_
    rintro e w11 ⟨rfl, b11⟩
    replace hO := Lib.hid (hO.out.mono b11)
    replace hM := Lib.hid (hM.out.mono b11)
    replace p3 := Lib.hid (p3.out.mono b11)
    replace p5 := Lib.hid (p5.out.mono b11)
    have S11 := b11.size
    have B11 := btrans B10 b11
    clear p3
    clear p5
    clear hM
    go_wp2_with fail
    refine (drawNearestCard_c _ _ (hY.out.mono B11)).mono ?_
    rintro e w12 ⟨nv, nl, z, rfl, hN, b12⟩
    replace hO := Lib.hid (hO.out.mono b12)
    have S12 := b12.size
    have B12 := btrans B11 b12
    replace hN := Lib.hid hN
    go_wp2_with fail
    refine (nearest_c nv nl z _ hN.out.sl hN.out.deep hN.out.fits hN.out.subs).mono ?_
    rintro e w13 ⟨rfl, b13⟩
    replace hO := Lib.hid (hO.out.mono b13)
    replace hN := Lib.hid (hN.out.mono b13)
    have S13 := b13.size
    have B13 := btrans B12 b13
    go_wp2_with fail
    refine (specNearest_c nv nl z _ hN.out.sl hN.out.deep hN.out.fits hN.out.subs).mono ?_
    rintro e w14 ⟨rfl, b14⟩
    replace hO := Lib.hid (hO.out.mono b14)
    replace hN := Lib.hid (hN.out.mono b14)
    have S14 := b14.size
    have B14 := btrans B13 b14
    have hT := Lib.hid (fun hh => near_told (l := nl) (n := z) hh)
    obtain ⟨nr, hnr⟩ : ∃ q : Int × Int, q = nearV nl z := ⟨_, rfl⟩
    rw [← hnr] at hT ⊢
    clear hnr
    generalize nearB nl z = ok2 at hT ⊢
    go_upto_if 218 with fail
    go_cut [2] from 35 (fun s W => s = .bool false ∧ Below w14.heap.size w14 W)
    case first => as_aux_lemma =>
      cases ok2
      · go_wp2_with fail
        go_meet
        case rel => exact ⟨rfl, Below.refl _ _⟩
      · obtain ⟨a1, a2, a3⟩ := hT.out rfl
        have a4 : (nr.1 == z) = false := by simpa using a3
        have HC := commonWords_c nv nl z nr.1 w14 hN.out.sl hN.out.deep hN.out.fits
        rw [a1] at HC
        generalize cwL nl z nr.1 = C at HC a2
        replace HC := Lib.hid HC
        clear hT a1 a3
        go_wp2_with fail
        refine HC.out.mono ?_
        rintro e x1 ⟨cv, rfl, pc, c1⟩
        obtain ⟨ca, cc, cb, co, rfl, hk1, hm1, -⟩ := pc.sl StrE.len
        clear pc
        go_wp2_with fail
        go_meet
        case rel => exact ⟨rfl, c1⟩
    obtain ⟨rfl, hbc⟩ := hcut
    have b15 := hbc
    replace hO := Lib.hid (hO.out.mono b15)
    replace hN := Lib.hid (hN.out.mono b15)
    have S15 := b15.size
    have B15 := btrans B14 b15
    clear hbc
    generalize wc = w15 at *
    as_aux_lemma =>
      clear hN
      clear hT
      go_wp2_with fail
      refine (rareWords_c lv l _ hO.out.sl hO.out.deep hO.out.fits).mono ?_
      rintro e w16 ⟨r6, rfl, p6, b16⟩
      replace hO := Lib.hid (hO.out.mono b16)
      have S16 := b16.size
      have B16 := btrans B15 b16
      replace p6 := Lib.hid p6
      go_wp2_with fail
      refine (specRareWords_c lv l _ hO.out.sl hO.out.deep hO.out.fits).mono ?_
      rintro e w17 ⟨r7, rfl, p7, b17⟩
      replace hO := Lib.hid (hO.out.mono b17)
      replace p6 := Lib.hid (p6.out.mono b17)
      have S17 := b17.size
      have B17 := btrans B16 b17
      replace p7 := Lib.hid p7
      go_wp2_with fail
      refine (rTexts_c r6 r7 (rwL l) _ (p6.out.sl StrE.len) (p7.out.sl StrE.len)).mono ?_
      rintro e w18 ⟨rfl, b18⟩
      replace hO := Lib.hid (hO.out.mono b18)
      replace p6 := Lib.hid (p6.out.mono b18)
      replace p7 := Lib.hid (p7.out.mono b18)
      have S18 := b18.size
      have B18 := btrans B17 b18
      clear p7
      obtain ⟨a6, cap6, c6, o6, rfl, hk6, hm6, hc6⟩ := p6.out.sl StrE.len
      unfold maxLen at hm6
      have hK := Lib.hid (fun i (hi : i < (rwL l).length) => And.intro (rare_one hi) (rare_size hi))
      go_upto_block 0 with fail
      go_cut [2] from 41 (fun s W => s = .bool false ∧ Below w18.heap.size w18 W)
      case first => as_aux_lemma =>
        go_wp2_with fail
        go_loopw [2, 41, 42, 43, 44] (fun o vi _ _ _ wr => ∃ i : Nat, i ≤ (rwL l).length ∧ o = .bool false ∧ vi = .int .i64 i ∧ Below w18.heap.size w18 wr) (fun _ vi _ _ _ _ => (rwL l).length - (intOf vi).toNat)
        case atStart => exact ⟨0, Nat.zero_le _, rfl, rfl, Below.refl _ _⟩
        case round =>
          obtain ⟨i, hi, rfl, rfl, hb⟩ := hrel
          by_cases hlt : i < (rwL l).length
          · obtain ⟨rfl, hbw, e0⟩ := StrE.at (hc6.mono hb) i hlt
            obtain ⟨⟨a1, a2⟩, a3⟩ := hK.out i hlt
            have hR := wordCounts_c lv l (gd (rwL l) i) wr (hO.out.sl.mono hb) (hO.out.deep.mono hb) hO.out.fits (by unfold maxLen; omega)
            rw [a1, a2] at hR
            generalize wcM l (gd (rwL l) i) = mm at hR
            generalize gd (rwL l) i = z at e0 hR
            replace hR := Lib.hid hR
            clear a1 a2 a3
            go_wp2_with fail
            refine hR.out.mono ?_
            rintro e w8 ⟨rfl, b8⟩
            have B8 := btrans hb b8
            clear hR b8
            go_wp2_with fail
            go_roundw
            case rel => exact ⟨i + 1, by omega, rfl, by go_num, B8⟩
            case measure => simp [intOf]; omega
          · obtain rfl : i = (rwL l).length := by omega
            go_wp2_with fail
            go_meet
            case rel => exact ⟨rfl, hb⟩
      obtain ⟨rfl, hbc⟩ := hcut
      have b19 := hbc
      replace hO := Lib.hid (hO.out.mono b19)
      replace p6 := Lib.hid (p6.out.mono b19)
      have S19 := b19.size
      have B19 := btrans B18 b19
      clear hbc
      generalize wc = w19 at *
      as_aux_lemma =>
        clear p6
        clear hO
        clear hK hc6
        go_wp2_with fail
        refine (drawCardsBetween_c _ _ (hY.out.mono B19)).mono ?_
        rintro e w20 ⟨uv, u, fa, fb, rfl, hU, b20⟩
        have S20 := b20.size
        have B20 := btrans B19 b20
        replace hU := Lib.hid hU
        go_wp2_with fail
        refine (cardsBetween_c uv u fa fb _ hU.out.sl hU.out.deep hU.out.fits).mono ?_
        rintro e w21 ⟨r8, rfl, p8, b21⟩
        replace hU := Lib.hid (hU.out.mono b21)
        have S21 := b21.size
        have B21 := btrans B20 b21
        replace p8 := Lib.hid p8
        go_wp2_with fail
        refine (specCardsBetween_c uv u fa fb _ hU.out.sl hU.out.deep hU.out.fits).mono ?_
        rintro e w22 ⟨r9, rfl, p9, b22⟩
        replace hU := Lib.hid (hU.out.mono b22)
        replace p8 := Lib.hid (p8.out.mono b22)
        have S22 := b22.size
        have B22 := btrans B21 b22
        replace p9 := Lib.hid p9
        clear hU
        go_wp2_with fail
        refine (drawWordCounts_c _ _ (hY.out.mono B22)).mono ?_
        rintro e w23 ⟨vv, vl, s, rfl, hV, hs, b23⟩
        replace p8 := Lib.hid (p8.out.mono b23)
        replace p9 := Lib.hid (p9.out.mono b23)
        have S23 := b23.size
        have B23 := btrans B22 b23
        replace hV := Lib.hid hV
        have hsm : s.size ≤ maxLen := by unfold maxLen; omega
        go_wp2_with fail
        refine (wordCounts_c vv vl s _ hV.out.sl hV.out.deep hV.out.fits hsm).mono ?_
        rintro e w24 ⟨rfl, b24⟩
        replace p8 := Lib.hid (p8.out.mono b24)
        replace p9 := Lib.hid (p9.out.mono b24)
        replace hV := Lib.hid (hV.out.mono b24)
        have S24 := b24.size
        have B24 := btrans B23 b24
        go_wp2_with fail
        refine (specWordCounts_c vv vl s _ hV.out.sl hV.out.deep hV.out.fits hsm).mono ?_
        rintro e w25 ⟨rfl, b25⟩
        replace p8 := Lib.hid (p8.out.mono b25)
        replace p9 := Lib.hid (p9.out.mono b25)
        replace hV := Lib.hid (hV.out.mono b25)
        have S25 := b25.size
        have B25 := btrans B24 b25
        go_wp2_with fail
        refine (rInts_c r8 r9 (btL u fa fb) _ (p8.out.sl IntE.len) (p9.out.sl IntE.len)).mono ?_
        rintro e w26 ⟨rfl, b26⟩
        replace p8 := Lib.hid (p8.out.mono b26)
        replace p9 := Lib.hid (p9.out.mono b26)
        replace hV := Lib.hid (hV.out.mono b26)
        have S26 := b26.size
        have B26 := btrans B25 b26
        go_wp2_with fail
        go_ret
        exact ⟨ret_bool (by simp), B26⟩

set_option maxRecDepth 100000 in
theorem liftedWordsF (os : Os) (started : os.Started) (H : Type) (enc : TypeId × Value → H) :
    ReturnsInHanded {} Tryz.checked os 3 .any (Rows.fnWordsOfCardsSpec.pre6 enc Tryz.prog Tryz.f3 Rows.fnWordsOfCardsRow.domain false) (Rows.fnWordsOfCardsSpec.post enc Tryz.prog Tryz.f3 false true false false) := by
  refine returnsInHanded_of_change (C := Tryz.checked) own started (by kernel_rfl) Tryz.func3
    (ChangeSpec.witness6 (enc := enc) (C := Tryz.checked) false ⟨#[], #[.slice none 0 0], []⟩ 8 (by kernel_rfl) (by kernel_rfl) (by kernel_rfl) (by kernel_rfl)) ?_
  intro W base args ds gs before hval0 hW _ _
  have hval : ∀ (j : Nat) t v, Tryz.f3.params[j]? = some t → args[j]? = some v → Value.okWide Tryz.prog W .any base t v := hval0
  have hW' := hW
  obtain ⟨p, q, hA0, hV, rfl, hfz, hnd⟩ := hW
  have hA : DataW.TrodAll enc Tryz.prog W 0 (fun _ => true) true Tryz.f3.params.toList args.toList ds p := hA0
  rw [Tryz.params3] at hA hval
  obtain ⟨v0, vs0, d0, ds0, p0, q0, hargs, rfl, rfl, h0, r0⟩ := trodAll_cons hA
  obtain ⟨rfl, rfl, rfl⟩ := trodAll_nil r0
  obtain rfl : args = #[v0] := by cases args; simp_all
  obtain ⟨rfl, rfl⟩ := trodVars_none hV
  have s0 := readBytes h0 (hval 0 22 v0 rfl rfl)
  have hcall : Calls Tryz.prog 3 #[v0] W fun e w' => e = .returned (.bool true) ∧ Below W.heap.size W w' := lawWordsF v0 W s0
  refine hcall.mono fun e W' ⟨he, hb⟩ => ?_
  subst he
  exact ⟨_, rfl, post_below (pa := p0 ++ []) rfl Tryz.underlying4 hW' rfl rfl rfl (fun sp hsp => (trodAll_cons_mk (WideElems.Trod_stays laidOut (by kernel_rfl) (of_decide_eq_true (by kernel_rfl)) h0 (fun x hx => hb.same (hW'.lt x (by simp [hx]))) (fun x hx => hsp x (by simp [hx]))) trodAll_mk0)) (by simp) hb⟩

theorem holdsWordsF : Rows.FnWordsOfCardsSaid :=
  OpenClaim.holds_of_wide 3 Tryz.f3 rfl rfl rfl rfl rfl rfl rfl ⟨rfl, rfl, rfl, rfl, rfl⟩ rfl rfl rfl rfl rfl (by kernel_rfl) Tryz.func3 (by kernel_rfl)
    (of_decide_eq_true (by kernel_rfl)) (by unfold Func.isWrapper; first | (rw [if_pos (by decide +kernel)]; kernel_rfl) | (rw [if_neg (by decide +kernel)]; exact ⟨rfl, rfl⟩))
    (fun os started H enc _ => liftedWordsF os started H enc)
end Go.Proofs.YteainpflmofjaaaGreat
