/- The law FnHeadings holds: a heading is found by its path, what stands directly under it is below it, and a new one stands directly under the told heading: for every input it answers true, and the bytes read behind the call as before. No condition. -/
import Derived.Test.YtbkkaibjenofiaaVr
import Derived.Test.YtbkkaibjenofiaaBr
import Derived.Test.YtbkkaibjenofiaaDi23
import Derived.Test.YtbkkaibjenofiaaPl23
import Derived.Test.YtbkkaibjenofiaaHa23
import Derived.Test.YtbkkaibjenofiaaHp2
import Derived.Test.YtbkkaibjenofiaaHn23
import Derived.Test.YtbkkaibjenofiaaHf23
import Derived.Test.YtbkkaibjenofiaaDu23
import Derived.Test.YtbkkaibjenofiaaAb23
import Derived.Test.YtbkkaibjenofiaaAd23
import Derived.Test.YtbkkaibjenofiaaHm23
import Derived.Deep.Cut
import Derived.Deep.CutBlock
import Derived.Outline
namespace Go.Proofs.Ytbkkaibjenofiaa
open Go.ChangeShapes Go.WideShapes Go.ChangeAt Go.RowKit
set_option maxHeartbeats 16000000 in
set_option maxRecDepth 100000 in
theorem lawHeadingsF (v : Value) (w : World) (h : Bytes w v) : Calls Try.prog 3 #[v] w fun e w' => e = .returned (.bool true) ∧ Below w.heap.size w w' := by
  have hY := Lib.hid h
  obtain ⟨a0, n0, cap0, b0, o0, rfl, hn0, hm0, -⟩ := h
  unfold maxLen at hm0
  by_cases hbig : 65536 < n0
  · go_enter Try.func3, Try.ntmps3
    go_wp2_with (go_at_call 6; refine (rBig_yes _ _ _ _ (by omega) hbig).mono ?_; rintro e w' ⟨rfl, rfl⟩)
    go_ret
    exact ⟨rfl, Below.refl _ _⟩
  go_enter Try.func3, Try.ntmps3
  go_wp2_with (go_at_call 6; refine (rBig_no _ _ _ _ hbig).mono ?_; rintro e w' ⟨rfl, rfl⟩)
  refine (drawPathOf_c _ w hY.out).mono ?_
  rintro e w1 ⟨lv, l, n, rfl, hO, b1⟩
  have S1 := b1.size
  have B1 := b1
  replace hO := Lib.hid hO
  go_wp2_with fail
  refine (pathOf_c lv l n _ hO.out.sl hO.out.deep hO.out.fits).mono ?_
  rintro e w2 ⟨rfl, b2⟩
  replace hO := Lib.hid (hO.out.mono b2)
  have S2 := b2.size
  have B2 := btrans B1 b2
  go_wp2_with fail
  refine (specPathOf_c lv l n _ hO.out.sl hO.out.deep hO.out.fits).mono ?_
  rintro e w3 ⟨rfl, b3⟩
  replace hO := Lib.hid (hO.out.mono b3)
  have S3 := b3.size
  have B3 := btrans B2 b3
  have hF := fun hh => path_found (l := l) (n := n) hh
  generalize isHd l n = ok1 at hF ⊢
  replace hF := Lib.hid hF
  go_upto_if 68 with fail
  go_cut [2, 9, 10] from 41 (fun s _ _ W => s = .bool false ∧ Below w3.heap.size w3 W)
  case first =>
    cases ok1
    · go_wp2_with fail
      go_meet
      case rel => exact ⟨rfl, Below.refl _ _⟩
    · have HF := findPath_c lv l (pathV l n) w3 hO.out.sl hO.out.deep hO.out.fits (by have := pathV_size l n; unfold maxLen; omega)
      obtain ⟨e1, e2⟩ := hF.out rfl
      rw [e1, e2] at HF
      replace HF := Lib.hid HF
      clear e1 e2
      go_wp2_with fail
      refine HF.out.mono ?_
      rintro e w8 ⟨rfl, b8⟩
      go_wp2_with fail
      go_meet
      case rel => exact ⟨rfl, b8⟩
  obtain ⟨rfl, hbc⟩ := hcut
  have b4 := hbc
  replace hO := Lib.hid (hO.out.mono b4)
  have S4 := b4.size
  have B4 := btrans B3 b4
  clear hbc
  generalize wc = w4 at *
  go_wp2_with fail
  refine (drawFindPath_c _ _ (hY.out.mono B4)).mono ?_
  rintro e w5 ⟨xv, x, ps, rfl, hX, hps, b5⟩
  replace hO := Lib.hid (hO.out.mono b5)
  have S5 := b5.size
  have B5 := btrans B4 b5
  replace hX := Lib.hid hX
  go_wp2_with fail
  refine (findPath_c xv x ps _ hX.out.sl hX.out.deep hX.out.fits (by unfold maxLen; omega)).mono ?_
  rintro e w6 ⟨rfl, b6⟩
  replace hO := Lib.hid (hO.out.mono b6)
  replace hX := Lib.hid (hX.out.mono b6)
  have S6 := b6.size
  have B6 := btrans B5 b6
  go_wp2_with fail
  refine (specFindPath_c xv x ps _ hX.out.sl hX.out.deep hX.out.fits (by unfold maxLen; omega)).mono ?_
  rintro e w7 ⟨rfl, b7⟩
  replace hO := Lib.hid (hO.out.mono b7)
  replace hX := Lib.hid (hX.out.mono b7)
  have S7 := b7.size
  have B7 := btrans B6 b7
  clear hX
  go_wp2_with fail
  refine (drawDirectlyUnder_c _ _ (hY.out.mono B7)).mono ?_
  rintro e w8 ⟨yv, y, u, rfl, hU, b8⟩
  replace hO := Lib.hid (hO.out.mono b8)
  have S8 := b8.size
  have B8 := btrans B7 b8
  replace hU := Lib.hid hU
  go_wp2_with fail
  refine (directlyUnder_c yv y u _ hU.out.sl hU.out.deep hU.out.fits).mono ?_
  rintro e w9 ⟨r1, rfl, p1, b9⟩
  replace hO := Lib.hid (hO.out.mono b9)
  replace hU := Lib.hid (hU.out.mono b9)
  have S9 := b9.size
  have B9 := btrans B8 b9
  replace p1 := Lib.hid p1
  go_wp2_with fail
  refine (specDirectlyUnder_c yv y u _ hU.out.sl hU.out.deep hU.out.fits).mono ?_
  rintro e w10 ⟨r2, rfl, p2, b10⟩
  replace hO := Lib.hid (hO.out.mono b10)
  replace hU := Lib.hid (hU.out.mono b10)
  replace p1 := Lib.hid (p1.out.mono b10)
  have S10 := b10.size
  have B10 := btrans B9 b10
  replace p2 := Lib.hid p2
  go_wp2_with fail
  refine (rInts_c r1 r2 (duL y u) _ (p1.out.sl IntE.len) (p2.out.sl IntE.len)).mono ?_
  rintro e w11 ⟨rfl, b11⟩
  replace hO := Lib.hid (hO.out.mono b11)
  replace hU := Lib.hid (hU.out.mono b11)
  replace p1 := Lib.hid (p1.out.mono b11)
  replace p2 := Lib.hid (p2.out.mono b11)
  have S11 := b11.size
  have B11 := btrans B10 b11
  clear p2
  go_wp2_with fail
  refine (allBelow_c yv y u _ hU.out.sl hU.out.deep hU.out.fits).mono ?_
  rintro e w12 ⟨r3, rfl, p3, b12⟩
  replace hO := Lib.hid (hO.out.mono b12)
  replace hU := Lib.hid (hU.out.mono b12)
  replace p1 := Lib.hid (p1.out.mono b12)
  have S12 := b12.size
  have B12 := btrans B11 b12
  replace p3 := Lib.hid p3
  go_wp2_with fail
  refine (specAllBelow_c yv y u _ hU.out.sl hU.out.deep hU.out.fits).mono ?_
  rintro e w13 ⟨r4, rfl, p4, b13⟩
  replace hO := Lib.hid (hO.out.mono b13)
  replace hU := Lib.hid (hU.out.mono b13)
  replace p1 := Lib.hid (p1.out.mono b13)
  replace p3 := Lib.hid (p3.out.mono b13)
  have S13 := b13.size
  have B13 := btrans B12 b13
  replace p4 := Lib.hid p4
  go_wp2_with fail
  refine (rInts_c r3 r4 (abL y u) _ (p3.out.sl IntE.len) (p4.out.sl IntE.len)).mono ?_
  rintro e w14 ⟨rfl, b14⟩
  replace hO := Lib.hid (hO.out.mono b14)
  replace hU := Lib.hid (hU.out.mono b14)
  replace p1 := Lib.hid (p1.out.mono b14)
  replace p3 := Lib.hid (p3.out.mono b14)
  replace p4 := Lib.hid (p4.out.mono b14)
  have S14 := b14.size
  have B14 := btrans B13 b14
  clear p4
  obtain ⟨a1, cap1, c1, o1, rfl, hk1, hm1, hc1⟩ := p1.out.sl IntE.len
  unfold maxLen at hm1
  have hK := Lib.hid (fun hh => du_ab (l := y) (n := u) hh)
  generalize isHd y u = ok2 at hK ⊢
  go_upto_block 0 with fail
  go_cut [2] from 27 (fun s W => s = .bool false ∧ Below w14.heap.size w14 W)
  case first =>
    go_wp2_with fail
    go_loopw [2, 27] (fun o vi wr => ∃ i : Nat, i ≤ (duL y u).length ∧ o = .bool false ∧ vi = .int .i64 i ∧ Below w14.heap.size w14 wr) (fun _ vi _ => (duL y u).length - (intOf vi).toNat)
    case atStart => exact ⟨0, Nat.zero_le _, rfl, rfl, Below.refl _ _⟩
    case round =>
      obtain ⟨i, hi, rfl, rfl, hb⟩ := hrel
      by_cases hlt : i < (duL y u).length
      · cases ok2
        · go_wp2_with fail
          go_meet
          case rel => exact ⟨rfl, hb⟩
        · obtain ⟨rfl, hbw, e0⟩ := IntE.at (hc1.mono hb) i hlt
          have hR := rHas_c r3 (abL y u) (gd (duL y u) i) wr ((p3.out.sl IntE.len).mono hb)
          rw [hK.out rfl i hlt] at hR
          generalize gd (duL y u) i = z at e0 hR
          replace hR := Lib.hid hR
          go_wp2_with fail
          refine hR.out.mono ?_
          rintro e w8 ⟨rfl, rfl⟩
          go_wp2_with fail
          go_roundw
          case rel => exact ⟨i + 1, by omega, rfl, by go_num, hb⟩
          case measure => simp [intOf]; omega
      · obtain rfl : i = (duL y u).length := by omega
        go_wp2_with fail
        go_meet
        case rel => exact ⟨rfl, hb⟩
  obtain ⟨rfl, hbc⟩ := hcut
  have b15 := hbc
  replace hO := Lib.hid (hO.out.mono b15)
  replace hU := Lib.hid (hU.out.mono b15)
  replace p1 := Lib.hid (p1.out.mono b15)
  replace p3 := Lib.hid (p3.out.mono b15)
  have S15 := b15.size
  have B15 := btrans B14 b15
  clear hbc
  generalize wc = w15 at *
  clear p1
  clear p3
  clear hU
  go_wp2_with fail
  refine (drawAddHeading_c _ _ (hY.out.mono B15)).mono ?_
  rintro e w16 ⟨zv, z, s, un, rfl, hZ, hzs, b16⟩
  replace hO := Lib.hid (hO.out.mono b16)
  have S16 := b16.size
  have B16 := btrans B15 b16
  replace hZ := Lib.hid hZ
  have hzm : s.size ≤ maxLen := by unfold maxLen; omega
  have hzl := hZ.out.len
  go_wp2_with fail
  refine (addHeading_c zv z s un _ hZ.out.sl hZ.out.deep hZ.out.fits hzm hZ.out.sub).mono ?_
  rintro e w17 ⟨r5, l5, rfl, p5, e5, b17⟩
  replace hO := Lib.hid (hO.out.mono b17)
  replace hZ := Lib.hid (hZ.out.mono b17)
  have S17 := b17.size
  have B17 := btrans B16 b17
  replace p5 := Lib.hid p5
  replace e5 := Lib.hid e5
  go_wp2_with fail
  refine (specAddHeading_c zv z s un _ hZ.out.sl hZ.out.deep hZ.out.fits hzm (by omega) hZ.out.sub).mono ?_
  rintro e w18 ⟨r6, l6, rfl, p6, e6, b18⟩
  replace hO := Lib.hid (hO.out.mono b18)
  replace hZ := Lib.hid (hZ.out.mono b18)
  replace p5 := Lib.hid (p5.out.mono b18)
  have S18 := b18.size
  have B18 := btrans B17 b18
  replace p6 := Lib.hid p6
  replace e6 := Lib.hid e6
  go_wp2_with fail
  refine (rHeadings_c r5 r6 l5 l6 _ (p5.out.own.sl Hdg.len) (Hdg.OwnN.deep p5.out) (p6.out.own.sl Hdg.len) (Hdg.OwnN.deep p6.out) (e6.out.trans e5.out.symm)).mono ?_
  rintro e w19 ⟨rfl, b19⟩
  replace hO := Lib.hid (hO.out.mono b19)
  replace hZ := Lib.hid (hZ.out.mono b19)
  replace p5 := Lib.hid (p5.out.mono b19)
  replace p6 := Lib.hid (p6.out.mono b19)
  have S19 := b19.size
  have B19 := btrans B18 b19
  clear p6
  have hG := Lib.hid (fun hh : adGood z s un = true => And.intro (ad_done hh e5.out) (ad_fit hh e5.out hZ.out.fits hzm))
  generalize adGood z s un = ok3 at hG ⊢
  generalize adI z s un = q at hG ⊢
  go_upto_if 206 with fail
  go_cut [2, 37, 38, 39, 40] from 41 (fun s _ _ _ _ W => s = .bool false ∧ Below w19.heap.size w19 W)
  case first =>
    cases ok3
    · go_wp2_with fail
      go_meet
      case rel => exact ⟨rfl, Below.refl _ _⟩
    · obtain ⟨⟨d1, d2, d3, d4⟩, hf⟩ := hG.out rfl
      have HD := Lib.hid (fun W (N : Hdg.OwnN W w16.heap.size w17.heap.size r5 l5) => directlyUnder_c r5 l5 un W (N.own.sl Hdg.len) (Hdg.OwnN.deep N) hf)
      have HL := Lib.hid (fun W (N : Hdg.OwnN W w16.heap.size w17.heap.size r5 l5) => lowestAbove_c r5 l5 q q W (N.own.sl Hdg.len) (Hdg.OwnN.deep N) hf)
      rw [d1] at HD
      rw [d3, d4] at HL
      generalize duL l5 un = du at HD d2
      replace HD := Lib.hid HD.out
      replace HL := Lib.hid HL.out
      replace d2 := Lib.hid d2
      clear d1 d3 d4 hf hG
      go_wp2_with fail
      refine (HD.out _ p5.out).mono ?_
      rintro e x1 ⟨r7, rfl, p7, c1⟩
      replace p7 := Lib.hid p7
      have p5 := Lib.hid (p5.out.mono c1)
      go_wp2_with fail
      refine (HL.out _ p5.out).mono ?_
      rintro e x2 ⟨rfl, c2⟩
      replace p7 := Lib.hid (p7.out.mono c2)
      have hR := rHas_c r7 du q x2 (p7.out.sl IntE.len)
      rw [d2.out] at hR
      replace hR := Lib.hid hR
      go_wp2_with fail
      refine hR.out.mono ?_
      rintro e x3 ⟨rfl, rfl⟩
      go_wp2_with fail
      go_meet
      case rel => exact ⟨rfl, btrans c1 c2⟩
  obtain ⟨rfl, hbc⟩ := hcut
  have b20 := hbc
  replace hO := Lib.hid (hO.out.mono b20)
  replace hZ := Lib.hid (hZ.out.mono b20)
  replace p5 := Lib.hid (p5.out.mono b20)
  have S20 := b20.size
  have B20 := btrans B19 b20
  clear hbc
  generalize wc = w20 at *
  clear p5
  clear hZ
  go_wp2_with fail
  refine (areHeadings_c lv l _ hO.out.sl hO.out.deep hO.out.fits).mono ?_
  rintro e w21 ⟨rfl, b21⟩
  replace hO := Lib.hid (hO.out.mono b21)
  have S21 := b21.size
  have B21 := btrans B20 b21
  go_wp2_with fail
  refine (specAreHeadings_c lv l _ hO.out.sl hO.out.deep hO.out.fits).mono ?_
  rintro e w22 ⟨rfl, b22⟩
  replace hO := Lib.hid (hO.out.mono b22)
  have S22 := b22.size
  have B22 := btrans B21 b22
  go_wp2_with fail
  go_ret
  exact ⟨ret_bool (by simp), B22⟩

set_option maxRecDepth 100000 in
theorem liftedHeadingsF (os : Os) (started : os.Started) (H : Type) (enc : TypeId × Value → H) :
    ReturnsInHanded {} Try.checked os 3 .any (Rows.fnHeadingsSpec.pre6 enc Try.prog Try.f3 Rows.fnHeadingsRow.domain false) (Rows.fnHeadingsSpec.post enc Try.prog Try.f3 false true false false) := by
  refine returnsInHanded_of_change (C := Try.checked) own started (by kernel_rfl) Try.func3
    (ChangeSpec.witness6 (enc := enc) (C := Try.checked) false ⟨#[], #[.slice none 0 0], []⟩ 8 (by kernel_rfl) (by kernel_rfl) (by kernel_rfl) (by kernel_rfl)) ?_
  intro W base args ds gs before hval0 hW _ _
  have hval : ∀ (j : Nat) t v, Try.f3.params[j]? = some t → args[j]? = some v → Value.okWide Try.prog W .any base t v := hval0
  have hW' := hW
  obtain ⟨p, q, hA0, hV, rfl, hfz, hnd⟩ := hW
  have hA : DataW.TrodAll enc Try.prog W 0 (fun _ => true) true Try.f3.params.toList args.toList ds p := hA0
  rw [Try.params3] at hA hval
  obtain ⟨v0, vs0, d0, ds0, p0, q0, hargs, rfl, rfl, h0, r0⟩ := trodAll_cons hA
  obtain ⟨rfl, rfl, rfl⟩ := trodAll_nil r0
  obtain rfl : args = #[v0] := by cases args; simp_all
  obtain ⟨rfl, rfl⟩ := trodVars_none hV
  have s0 := readBytes h0 (hval 0 22 v0 rfl rfl)
  have hcall : Calls Try.prog 3 #[v0] W fun e w' => e = .returned (.bool true) ∧ Below W.heap.size W w' := lawHeadingsF v0 W s0
  refine hcall.mono fun e W' ⟨he, hb⟩ => ?_
  subst he
  exact ⟨_, rfl, post_below (pa := p0 ++ []) rfl Try.underlying4 hW' rfl rfl rfl (fun sp hsp => (trodAll_cons_mk (WideElems.Trod_stays laidOut (by kernel_rfl) (of_decide_eq_true (by kernel_rfl)) h0 (fun x hx => hb.same (hW'.lt x (by simp [hx]))) (fun x hx => hsp x (by simp [hx]))) trodAll_mk0)) (by simp) hb⟩

theorem holdsHeadingsF : Rows.FnHeadingsSaid :=
  OpenClaim.holds_of_wide 3 Try.f3 rfl rfl rfl rfl rfl rfl rfl ⟨rfl, rfl, rfl, rfl, rfl⟩ rfl rfl rfl rfl rfl (by kernel_rfl) Try.func3 (by kernel_rfl)
    (of_decide_eq_true (by kernel_rfl)) (by unfold Func.isWrapper; first | (rw [if_pos (by decide +kernel)]; kernel_rfl) | (rw [if_neg (by decide +kernel)]; exact ⟨rfl, rfl⟩))
    (fun os started H enc _ => liftedHeadingsF os started H enc)
end Go.Proofs.Ytbkkaibjenofiaa
