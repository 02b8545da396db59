/- The law FnCards holds: a card that was found has all words, ranked cards have fewer and fewer matches, and a card is recovered from its text: for every input it answers true, and the bytes read behind the call as before. Condition: Go's listed variables read as they are laid (the card ties them). -/
import Derived.Test.YteainpflmofjaaaGreatDoorPg24
import Derived.Test.YteainpflmofjaaaGreatDoorZa2
import Derived.Test.YteainpflmofjaaaGreatDoorZa3
import Derived.Test.YteainpflmofjaaaGreatDoorCw24
import Derived.Test.YteainpflmofjaaaGreatDoorRs24
import Derived.Test.YteainpflmofjaaaGreatDoorZa4
import Derived.Lay
import Derived.Deep.Cut
import Derived.Deep.CutBlock
import Derived.Outline
namespace Go.Proofs.YteainpflmofjaaaGreatDoor
open Go.ChangeShapes Go.WideShapes Go.ChangeAt Go.RowKit
set_option maxHeartbeats 16000000 in
set_option maxRecDepth 100000 in
theorem lawCardsF (v : Value) (w : World) (h : Bytes w v) (hEv : Env w) : Calls Tryz.prog 3 #[v] w fun e w' => e = .returned (.bool true) ∧ Below w.heap.size w w' := by
  have hY := Lib.hid h
  obtain ⟨a0, n0, cap0, b0, o0, rfl, hn0, hm0, -⟩ := h
  unfold maxLen at hm0
  by_cases hbig : 65536 < n0
  · go_enter Tryz.func3, Tryz.ntmps3
    go_wp2_with (go_at_call 4; refine (rBig_yes _ _ _ _ (by omega) hbig).mono ?_; rintro e w' ⟨rfl, rfl⟩)
    go_ret
    exact ⟨rfl, Below.refl _ _⟩
  go_enter Tryz.func3, Tryz.ntmps3
  go_wp2_with (go_at_call 4; refine (rBig_no _ _ _ _ hbig).mono ?_; rintro e w' ⟨rfl, rfl⟩)
  have HEv := Lib.hid (fun W (hb : Below w.heap.size w W) => hEv.mono hb)
  clear hEv
  refine (drawCardsWith_c _ w hY.out).mono ?_
  rintro e w1 ⟨lv, u, l, ws, rfl, hO, hW, hws, b1⟩
  have S1 := b1.size
  have B1 := b1
  replace hO := Lib.hid hO
  replace hW := Lib.hid hW
  have hwf := Lib.hid hws.fits
  clear hws
  go_wp2_with fail
  refine (cardsWith_c lv u l ws _ hO.out.sl hO.out.deep hO.out.fits hW.out hwf.out).mono ?_
  rintro e w2 ⟨r1, rfl, p1, b2⟩
  replace hO := Lib.hid (hO.out.mono b2)
  replace hW := Lib.hid (hW.out.mono b2)
  have S2 := b2.size
  have B2 := btrans B1 b2
  replace p1 := Lib.hid p1
  go_wp2_with fail
  refine (specCardsWith_c lv u l ws _ hO.out.sl hO.out.deep hO.out.fits hW.out hwf.out).mono ?_
  rintro e w3 ⟨r2, rfl, p2, b3⟩
  replace hO := Lib.hid (hO.out.mono b3)
  replace hW := Lib.hid (hW.out.mono b3)
  replace p1 := Lib.hid (p1.out.mono b3)
  have S3 := b3.size
  have B3 := btrans B2 b3
  replace p2 := Lib.hid p2
  go_wp2_with fail
  refine (rInts_c r1 r2 (ctL l ws) _ (p1.out.sl IntE.len) (p2.out.sl IntE.len)).mono ?_
  rintro e w4 ⟨rfl, b4⟩
  replace hO := Lib.hid (hO.out.mono b4)
  replace hW := Lib.hid (hW.out.mono b4)
  replace p1 := Lib.hid (p1.out.mono b4)
  replace p2 := Lib.hid (p2.out.mono b4)
  have S4 := b4.size
  have B4 := btrans B3 b4
  clear p2
  have hK := Lib.hid (fun hh => fun i (hi : i < l.length) => ct_all (l := l) (ws := ws) hh hi)
  generalize ctG l ws = ok1 at hK ⊢
  have hlv := hO.out.sl
  obtain ⟨la, lcap, lb, lo, rfl, hlk, hlm, hlc⟩ := hlv
  have huv := hW.out
  obtain ⟨ua, ucap, ub, uo, rfl, huk, hum, huc⟩ := huv
  unfold maxLen at hlm hum
  go_upto_block 0 with fail
  go_cut [2] from 9 (fun s W => s = .bool false ∧ Below w4.heap.size w4 W)
  case first => as_aux_lemma =>
    go_wp2_with fail
    go_loopw [2, 9, 10, 11] (fun o vi _ _ wr => ∃ i : Nat, i ≤ l.length ∧ o = .bool false ∧ vi = .int .i64 i ∧ Below w4.heap.size w4 wr) (fun _ vi _ _ _ => l.length - (intOf vi).toNat)
    case atStart => exact ⟨0, Nat.zero_le _, rfl, rfl, Below.refl _ _⟩
    case round =>
      obtain ⟨i, hi, rfl, rfl, hb⟩ := hrel
      by_cases hlt : i < l.length
      · cases ok1
        · go_wp2_with fail
          go_meet
          case rel => exact ⟨rfl, hb⟩
        · have hkk := Lib.hid (hK.out rfl i hlt)
          have hin := Lib.hid (hO.out.deep i hlt)
          obtain ⟨wo, hwo⟩ : ∃ x, x = wr := ⟨_, rfl⟩
          subst hwo
          go_wp2_with fail
          go_loopw [10, 11] (fun ov kv wr => ∃ k : Nat, k ≤ ws.length ∧ ov = .bool (hasTo (gd l i).sub ws k) ∧ kv = .int .i64 k ∧ Below w4.heap.size w4 wr) (fun _ kv _ => ws.length - (intOf kv).toNat)
          case atStart => exact ⟨0, Nat.zero_le _, rfl, rfl, hb⟩
          case round =>
            obtain ⟨k, hk, rfl, rfl, hb2⟩ := hrel
            obtain ⟨rfl, hbw, c0, c1, c2⟩ := Crd.at (hlc.mono hb2) i hlt
            by_cases hlk : k < ws.length
            · obtain ⟨rfl, hbw2, d0⟩ := StrE.at (huc.mono hb2) k hlk
              have hQ := Lib.hid (fun p => rHasText_c (.slice (gd l i).a (gd l i).sub.length (gd l i).cap) (gd l i).sub (gd ws k) (ext wr p) (hin.out.mono (btrans hb2 (below_ext wr p))))
              have hs := Lib.hid (hasTo_succ (gd l i).sub ws k)
              clear c0 c1
              generalize gd ws k = z at d0 hQ hs
              have hi0 : (0 : Int) ≤ (i : Int) := by omega
              have hi1 : (i : Int) < (l.length : Int) := by omega
              have hk0 : (0 : Int) ≤ (k : Int) := by omega
              have hk1 : (k : Int) < (ws.length : Int) := by omega
              generalize hasTo (gd l i).sub ws k = b0 at hs ⊢
              generalize hasW (gd l i).sub z = b1 at hs hQ
              cases b0
              · clear hQ
                go_wp2_with fail
                refine wp_region_ext (by kernel_rfl) (by kernel_rfl) ?_
                repeat (any_goals (first | go_big_quiet_step (fail)))
                (refine wpQuiet_nil ?_)
                (rintro _ ⟨q, rfl⟩)
                go_wp2_with fail
                go_roundw
                case rel => exact ⟨k + 1, by omega, by rw [hs.out]; rfl, by go_num, bext hb2 hb2.size _⟩
                case measure => simp [intOf]; omega
              · go_wp2_with fail
                refine wp_region_ext (by kernel_rfl) (by kernel_rfl) ?_
                repeat (any_goals (first | go_big_quiet_step ((go_at_call 9; exact Calls.ext_same (hQ.out _)))))
                (refine wpQuiet_nil ?_)
                (rintro _ ⟨q, rfl⟩)
                go_wp2_with fail
                go_roundw
                case rel => exact ⟨k + 1, by omega, by rw [hs.out]; cases b1 <;> rfl, by go_num, bext hb2 hb2.size _⟩
                case measure => simp [intOf]; omega
            · obtain rfl : k = ws.length := by omega
              have hR := rHas_c r1 (ctL l ws) (gd l i).id wr ((p1.out.sl IntE.len).mono hb2)
              rw [hkk.out, ← hasTo_all] at hR
              generalize hasTo (gd l i).sub ws ws.length = b0 at hR ⊢
              generalize (gd l i).id = n0 at c0 hR
              replace hR := Lib.hid hR
              clear c1 c2
              go_wp2_with fail
              refine hR.out.mono ?_
              rintro e w8 ⟨rfl, rfl⟩
              cases b0
              · go_wp2_with fail
                go_roundw
                case rel => exact ⟨i + 1, by omega, rfl, by go_num, hb2⟩
                case measure => simp [intOf]; omega
              · go_wp2_with fail
                go_roundw
                case rel => exact ⟨i + 1, by omega, rfl, by go_num, hb2⟩
                case measure => simp [intOf]; omega
      · obtain rfl : i = l.length := by omega
        go_wp2_with fail
        go_meet
        case rel => exact ⟨rfl, hb⟩
  obtain ⟨rfl, hbc⟩ := hcut
  have b5 := hbc
  replace hO := Lib.hid (hO.out.mono b5)
  replace hW := Lib.hid (hW.out.mono b5)
  replace p1 := Lib.hid (p1.out.mono b5)
  have S5 := b5.size
  have B5 := btrans B4 b5
  clear hbc
  generalize wc = w5 at *
  as_aux_lemma =>
    clear p1
    clear hK hlc huc
    go_wp2_with fail
    refine (rankCards_c (.slice la l.length lcap) (.slice ua ws.length ucap) l ws _ hO.out.sl hO.out.deep hO.out.fits hW.out hwf.out).mono ?_
    rintro e w6 ⟨r3, rfl, p3, b6⟩
    replace hO := Lib.hid (hO.out.mono b6)
    replace hW := Lib.hid (hW.out.mono b6)
    have S6 := b6.size
    have B6 := btrans B5 b6
    replace p3 := Lib.hid p3
    go_wp2_with fail
    refine (specRankCards_c (.slice la l.length lcap) (.slice ua ws.length ucap) l ws _ hO.out.sl hO.out.deep hO.out.fits hW.out hwf.out).mono ?_
    rintro e w7 ⟨r4, rfl, p4, b7⟩
    replace hO := Lib.hid (hO.out.mono b7)
    replace hW := Lib.hid (hW.out.mono b7)
    replace p3 := Lib.hid (p3.out.mono b7)
    have S7 := b7.size
    have B7 := btrans B6 b7
    replace p4 := Lib.hid p4
    go_wp2_with fail
    refine (rInts_c r3 r4 (rkL l ws) _ (p3.out.sl IntE.len) (p4.out.sl IntE.len)).mono ?_
    rintro e w8 ⟨rfl, b8⟩
    replace hO := Lib.hid (hO.out.mono b8)
    replace hW := Lib.hid (hW.out.mono b8)
    replace p3 := Lib.hid (p3.out.mono b8)
    replace p4 := Lib.hid (p4.out.mono b8)
    have S8 := b8.size
    have B8 := btrans B7 b8
    clear p4
    obtain ⟨P, hP0, hP⟩ := rk_prev l ws
    replace hP := Lib.hid hP
    replace hP0 := Lib.hid hP0
    have hsub := Lib.hid hO.out.sub
    obtain ⟨a3, cap3, c3, o3, rfl, hk3, hm3, hc3⟩ := p3.out.sl IntE.len
    unfold maxLen at hm3
    obtain ⟨a5, cap5, lb5, lo5, hv5, hlk5, -, hlc5⟩ := hO.out.sl
    obtain ⟨ua5, ucap5, ub5, uo5, hu5, huk5, -, huc5⟩ := hW.out
    injection hv5 with e5 _ e6
    injection hu5 with e7 _ e8
    subst e5 e6 e7 e8
    have hrl := rkL_len l ws
    have hll := hO.out.len
    generalize rkL l ws = rk at hP hc3 hk3 hrl ⊢
    go_upto_block 4 with fail
    go_cut [2] from 16 (fun s W => s = .bool false ∧ Below w8.heap.size w8 W)
    case first => as_aux_lemma =>
      go_wp2_with fail
      go_loopw [2, 16, 17, 18, 19, 20] (fun o vl vi _ _ _ wr => ∃ i : Nat, i ≤ rk.length ∧ o = .bool false ∧ vl = .int .i64 (P i) ∧ vi = .int .i64 i ∧ Below w8.heap.size w8 wr) (fun _ _ vi _ _ _ _ => rk.length - (intOf vi).toNat)
      case atStart => exact ⟨0, Nat.zero_le _, rfl, by rw [hP0.out], rfl, Below.refl _ _⟩
      case round =>
        obtain ⟨i, hi, rfl, rfl, rfl, hb⟩ := hrel
        by_cases hlt : i < rk.length
        · obtain ⟨h1, h2, h3, h4⟩ := hP.out i hlt
          replace h3 := Lib.hid h3
          replace h4 := Lib.hid h4
          obtain ⟨wo, hwo⟩ : ∃ x, x = wr := ⟨_, rfl⟩
          subst hwo
          go_wp2_with fail
          go_loopw [2, 16, 18, 19, 20] (fun o vl vk _ _ wr => ∃ (k : Nat) (L : Int), k ≤ l.length ∧ o = .bool false ∧ vl = .int .i64 L ∧ vk = .int .i64 k ∧ Hid ((L = P i ∧ ∀ j, j < k → (gd l j).id ≠ gd rk i) ∨ L = P (i + 1)) ∧ Below w8.heap.size w8 wr) (fun _ _ vk _ _ _ => l.length - (intOf vk).toNat)
          case atStart => exact ⟨0, _, Nat.zero_le _, rfl, rfl, rfl, Lib.hid (.inl ⟨rfl, fun j hj => by omega⟩), hb⟩
          case round =>
            obtain ⟨k, L, hk, rfl, rfl, rfl, hL, hb2⟩ := hrel
            by_cases hlk : k < l.length
            · obtain ⟨rfl, hbw, c0, c1, c2⟩ := Crd.at (hlc5.mono hb2) k hlk
              obtain ⟨rfl, hbw3, d0⟩ := IntE.at (hc3.mono hb2) i hlt
              clear c1 c2
              have hi0 : (0 : Int) ≤ (i : Int) := by omega
              have hi1 : (i : Int) < (rk.length : Int) := by omega
              have hk0 : (0 : Int) ≤ (k : Int) := by omega
              have hk1 : (k : Int) < (l.length : Int) := by omega
              by_cases heq : (gd l k).id = gd rk i
              · have hcnt := Lib.hid (h3.out k hlk heq)
                have hss := hsub.out k hlk
                rw [heq] at c0
                generalize gd rk i = v at c0 d0
                clear heq
                go_wp2_with fail
                refine wp_region_ext (by kernel_rfl) (by kernel_rfl) ?_
                repeat (any_goals (first | go_big_quiet_step (fail)))
                (refine wpQuiet_nil ?_)
                (rintro _ ⟨q, rfl⟩)
                have hb3 := fun q => bext hb2 hb2.size q
                generalize hwq : ext wr q = wq
                have hb4 : Below w8.heap.size w8 wq := by rw [← hwq]; exact hb3 _
                have hLk : Hid (L = P i ∨ L = P (i + 1)) := Lib.hid (hL.out.imp And.left id)
                clear hwq hb3 c0 d0 hb2 hL
                clear hi0 hi1
                go_wp2_with fail
                go_loop [19, 20] (fun vn vw => ∃ m : Nat, m ≤ (gd l k).sub.length ∧ vn = .int .i64 (cntTo (gd l k).sub ws m : Int) ∧ vw = .int .i64 m) (fun _ vw => (gd l k).sub.length - (intOf vw).toNat)
                case atStart => exact ⟨0, Nat.zero_le _, rfl, rfl⟩
                case round =>
                  obtain ⟨m, hm, rfl, rfl⟩ := hrel
                  obtain ⟨-, hbw, -, -, c2⟩ := Crd.at (hlc5.mono hb4) k hlk
                  have hcl := cntTo_le (gd l k).sub ws m
                  by_cases hlm2 : m < (gd l k).sub.length
                  · obtain ⟨aa, cc, bb, oo, hv, hsc, hsm, hcc⟩ := (hO.out.deep k hlk).mono hb4
                    injection hv with e4 e5 e6
                    obtain ⟨e7, hbw2, d0⟩ := StrE.at hcc m hlm2
                    rw [← e4] at e7
                    rw [e7] at c2
                    clear e4 e5 e6 hcc
                    have HH := rHasText_c (.slice ua ws.length ucap) ws (gd (gd l k).sub m) wq (hW.out.mono hb4)
                    cases hq : hasW ws (gd (gd l k).sub m)
                    · have hst := Lib.hid (cntTo_no hlm2 hq)
                      rw [hq] at HH
                      replace HH := Lib.hid HH
                      generalize gd (gd l k).sub m = s at d0 HH
                      generalize cntTo (gd l k).sub ws m = cm at hcl hst ⊢
                      clear hq
                      go_wp2_with fail
                      refine HH.out.mono ?_
                      rintro e w8 ⟨rfl, rfl⟩
                      go_wp2_with fail
                      go_round
                      case rel => exact ⟨m + 1, by omega, by rw [hst.out], by go_num⟩
                      case measure => simp [intOf]; omega
                    · have hst := Lib.hid (cntTo_yes hlm2 hq)
                      rw [hq] at HH
                      replace HH := Lib.hid HH
                      generalize gd (gd l k).sub m = s at d0 HH
                      generalize cntTo (gd l k).sub ws m = cm at hcl hst ⊢
                      clear hq
                      go_wp2_with fail
                      refine HH.out.mono ?_
                      rintro e w8 ⟨rfl, rfl⟩
                      go_wp2_with fail
                      go_round
                      case rel => exact ⟨m + 1, by omega, by rw [hst.out]; go_num, by go_num⟩
                      case measure => simp [intOf]; omega
                  · obtain rfl : m = (gd l k).sub.length := by omega
                    have hc4 := hcnt.out
                    generalize cntTo (gd l k).sub ws (gd l k).sub.length = cm at hc4 hcl ⊢
                    have hc5 : ¬ (cm : Int) = 0 := by omega
                    have hL2 : ¬ L < (cm : Int) := by (have hL1 := hLk.out; omega)
                    have hn := Lib.hid hc4
                    clear hc4
                    go_wp2_with fail
                    go_roundw
                    case rel => exact ⟨k + 1, _, by omega, rfl, rfl, by go_num, Lib.hid (.inr hn.out), hb4⟩
                    case measure => simp [intOf]; omega
              · have hne : ((gd l k).id == gd rk i) = false := by simpa using heq
                have hL2 : Hid ((L = P i ∧ ∀ j, j < k + 1 → (gd l j).id ≠ gd rk i) ∨ L = P (i + 1)) := Lib.hid (by
                  rcases hL.out with ⟨q1, q2⟩ | q1
                  · refine .inl ⟨q1, fun j hj => ?_⟩
                    by_cases ej : j = k
                    · rw [ej]; exact heq
                    · exact q2 j (by omega)
                  · exact .inr q1)
                generalize (gd l k).id = u0 at c0 hne heq
                generalize gd rk i = v0 at d0 hne heq hL2
                clear hL
                go_wp2_with fail
                refine wp_region_ext (by kernel_rfl) (by kernel_rfl) ?_
                repeat (any_goals (first | go_big_quiet_step (fail)))
                (refine wpQuiet_nil ?_)
                (rintro _ ⟨q, rfl⟩)
                go_wp2_with fail
                go_roundw
                case rel => exact ⟨k + 1, L, by omega, rfl, rfl, by go_num, hL2, bext hb2 hb2.size _⟩
                case measure => simp [intOf]; omega
            · obtain rfl : k = l.length := by omega
              have hL2 : L = P (i + 1) := by
                rcases hL.out with ⟨q1, q2⟩ | q1
                · obtain ⟨j, hj, ej⟩ := h4.out
                  exact absurd ej (q2 j hj)
                · exact q1
              subst hL2
              go_wp2_with fail
              go_roundw
              case rel => exact ⟨i + 1, by omega, rfl, rfl, by go_num, hb2⟩
              case measure => simp [intOf]; omega
        · obtain rfl : i = rk.length := by omega
          go_wp2_with fail
          go_meet
          case rel => exact ⟨rfl, hb⟩
    obtain ⟨rfl, hbc⟩ := hcut
    have b9 := hbc
    replace hO := Lib.hid (hO.out.mono b9)
    replace hW := Lib.hid (hW.out.mono b9)
    replace p3 := Lib.hid (p3.out.mono b9)
    have S9 := b9.size
    have B9 := btrans B8 b9
    clear hbc
    generalize wc = w9 at *
    as_aux_lemma =>
      clear p3
      clear hW
      clear hP hP0 hc3 hlc5 huc5 hsub hrl
      go_wp2_with fail
      refine (drawCardText_c _ _ (hY.out.mono B9)).mono ?_
      rintro e w10 ⟨x, rfl, hX, hxf, b10⟩
      replace hO := Lib.hid (hO.out.mono b10)
      have S10 := b10.size
      have B10 := btrans B9 b10
      replace hX := Lib.hid hX
      replace hxf := Lib.hid hxf
      go_wp2_with fail
      refine callsAt (fun w11 hw => ?_)
      have b11 : Below w10.heap.size w10 w11 := by rw [hw]; exact below_alloc _ _
      have bx : BoxAt w11 w10.heap.size x.enc := by rw [hw]; exact BoxAt.new _ _ _
      have bly : w10.heap.size < w11.heap.size := by rw [hw]; simp
      replace hO := Lib.hid (hO.out.mono b11)
      replace hX := Lib.hid (hX.out.mono b11)
      have S11 := b11.size
      have B11 := btrans B10 b11
      clear hw
      obtain ⟨y0, y1, y2⟩ : _ ∧ _ ∧ _ := ⟨bx.2 0 _ rfl, bx.2 1 _ rfl, bx.2 2 _ rfl⟩
      clear bx
      refine (cardText_c x _ (hX.out.sl StrE.len) hxf.out (HEv.out _ B11).tab).mono ?_
      rintro e w12 ⟨rfl, b12⟩
      replace hO := Lib.hid (hO.out.mono b12)
      replace hX := Lib.hid (hX.out.mono b12)
      have S12 := b12.size
      have B12 := btrans B11 b12
      replace y0 := cellOn b12 y0
      replace y1 := cellOn b12 y1
      replace y2 := cellOn b12 y2
      go_wp2_with fail
      refine (specCardText_c x _ (hX.out.sl StrE.len) hxf.out).mono ?_
      rintro e w13 ⟨rfl, b13⟩
      replace hO := Lib.hid (hO.out.mono b13)
      replace hX := Lib.hid (hX.out.mono b13)
      have S13 := b13.size
      have B13 := btrans B12 b13
      replace y0 := cellOn b13 y0
      replace y1 := cellOn b13 y1
      replace y2 := cellOn b13 y2
      go_wp2_with fail
      refine (isCard_c x _ (hX.out.sl StrE.len) hxf.out).mono ?_
      rintro e w14 ⟨rfl, b14⟩
      replace hO := Lib.hid (hO.out.mono b14)
      replace hX := Lib.hid (hX.out.mono b14)
      have S14 := b14.size
      have B14 := btrans B13 b14
      replace y0 := cellOn b14 y0
      replace y1 := cellOn b14 y1
      replace y2 := cellOn b14 y2
      have hT := Lib.hid (fun (hh : isCrd x = true) => show cdT x x.sub.length = cdS x by rw [cdS, hh]; rfl)
      have hPQ := Lib.hid (fun (y : Crd) (ok : Bool) (hp : PQ (cdS x) ok y) (hh : isCrd x = true) => hp.2.1 x hh (hT.out hh))
      have hsz := cdS_size x
      clear hT
      generalize isCrd x = ok2 at hPQ ⊢
      generalize cdS x = tx at hPQ hsz ⊢
      have hyl := block_lt_of_cell y0
      go_upto_if 197 with fail
      go_cut [2] from 26 (fun s W => s = .bool false ∧ Below w14.heap.size w14 W)
      case first => as_aux_lemma =>
        cases ok2
        · go_wp2_with fail
          go_meet
          case rel => exact ⟨rfl, Below.refl _ _⟩
        · go_wp2_with fail
          refine (parseCard_c tx w14 (HEv.out _ B14) (by omega)).mono ?_
          rintro e x1 ⟨y, ok, rfl, hp, hO2, hyl2, c1⟩
          obtain ⟨rfl, hbare⟩ := hPQ.out y ok hp (by simp)
          have hx1 := Lib.hid (hX.out.mono c1)
          replace y0 := cellOn c1 y0
          replace y1 := cellOn c1 y1
          replace y2 := cellOn c1 y2
          replace hyl := block_lt_of_cell y0
          replace hO2 := Lib.hid hO2
          replace hbare := Lib.hid hbare
          clear hp hPQ
          go_wp2_with fail
          refine callsAt (fun x2 hw => ?_)
          have c2 : Below x1.heap.size x1 x2 := by rw [hw]; exact below_alloc _ _
          have HR := rCard_c y x x2 ((hO2.out.sl StrE.len).mono c2) ((hx1.out.sl StrE.len).mono c2) hbare.out
          replace HR := Lib.hid HR
          clear hw
          refine HR.out.mono ?_
          rintro e x3 ⟨rfl, c3⟩
          go_wp2_with fail
          go_meet
          case rel => exact ⟨rfl, btrans (btrans c1 c2) c3⟩
      obtain ⟨rfl, hbc⟩ := hcut
      have b15 := hbc
      replace hO := Lib.hid (hO.out.mono b15)
      replace hX := Lib.hid (hX.out.mono b15)
      have S15 := b15.size
      have B15 := btrans B14 b15
      clear hbc
      generalize wc = w15 at *
      as_aux_lemma =>
        clear y0 y1 y2 hyl hPQ
        clear hX
        go_wp2_with fail
        refine (drawParseCard_c _ _ (hY.out.mono B15)).mono ?_
        rintro e w16 ⟨tt, rfl, htt, b16⟩
        replace hO := Lib.hid (hO.out.mono b16)
        have S16 := b16.size
        have B16 := btrans B15 b16
        go_wp2_with fail
        refine (parseCard_c tt _ (HEv.out _ B16) (by omega)).mono ?_
        rintro e w17 ⟨z, okz, rfl, hpz, hOz, hzl, b17⟩
        replace hO := Lib.hid (hO.out.mono b17)
        have S17 := b17.size
        have B17 := btrans B16 b17
        replace hOz := Lib.hid hOz
        replace hpz := Lib.hid hpz
        go_wp2_with fail
        refine callsAt (fun w18 hw => ?_)
        have b18 : Below w17.heap.size w17 w18 := by rw [hw]; exact below_alloc _ _
        have bx : BoxAt w18 w17.heap.size z.enc := by rw [hw]; exact BoxAt.new _ _ _
        have blz : w17.heap.size < w18.heap.size := by rw [hw]; simp
        replace hO := Lib.hid (hO.out.mono b18)
        replace hOz := Lib.hid (hOz.out.mono b18)
        have S18 := b18.size
        have B18 := btrans B17 b18
        clear hw
        obtain ⟨z0, z1, z2⟩ : _ ∧ _ ∧ _ := ⟨bx.2 0 _ rfl, bx.2 1 _ rfl, bx.2 2 _ rfl⟩
        clear bx
        refine (specParseCard_c tt _ (by omega)).mono ?_
        rintro e w19 ⟨t, okt, rfl, hpt, hOt, htl, b19⟩
        replace hO := Lib.hid (hO.out.mono b19)
        replace hOz := Lib.hid (hOz.out.mono b19)
        have S19 := b19.size
        have B19 := btrans B18 b19
        replace hOt := Lib.hid hOt
        replace z0 := cellOn b19 z0
        replace z1 := cellOn b19 z1
        replace z2 := cellOn b19 z2
        obtain ⟨rfl, hzt⟩ := PQ.same hpt hpz.out
        replace hzt := Lib.hid hzt
        have zlt := block_lt_of_cell z0
        go_wp2_with fail
        refine callsAt (fun w20 hw => ?_)
        have b20 : Below w19.heap.size w19 w20 := by rw [hw]; exact below_alloc _ _
        have bx : BoxAt w20 w19.heap.size t.enc := by rw [hw]; exact BoxAt.new _ _ _
        have blt : w19.heap.size < w20.heap.size := by rw [hw]; simp
        replace hO := Lib.hid (hO.out.mono b20)
        replace hOz := Lib.hid (hOz.out.mono b20)
        replace hOt := Lib.hid (hOt.out.mono b20)
        have S20 := b20.size
        have B20 := btrans B19 b20
        clear hw
        obtain ⟨t0, t1, t2⟩ : _ ∧ _ ∧ _ := ⟨bx.2 0 _ rfl, bx.2 1 _ rfl, bx.2 2 _ rfl⟩
        clear bx
        replace z0 := cellOn b20 z0
        replace z1 := cellOn b20 z1
        replace z2 := cellOn b20 z2
        refine (rCard_c z t _ (hOz.out.sl StrE.len) (hOt.out.sl StrE.len) hzt.out.symm).mono ?_
        rintro e w21 ⟨rfl, b21⟩
        replace hO := Lib.hid (hO.out.mono b21)
        replace hOz := Lib.hid (hOz.out.mono b21)
        replace hOt := Lib.hid (hOt.out.mono b21)
        have S21 := b21.size
        have B21 := btrans B20 b21
        clear hOz
        clear hOt
        clear z0 z1 z2 t0 t1 t2 hpt hpz hzt
        go_wp2_with fail
        refine (areCards_c (.slice la l.length lcap) l _ hO.out.sl hO.out.deep hO.out.fits).mono ?_
        rintro e w22 ⟨rfl, b22⟩
        replace hO := Lib.hid (hO.out.mono b22)
        have S22 := b22.size
        have B22 := btrans B21 b22
        go_wp2_with fail
        refine (specAreCards_c (.slice la l.length lcap) l _ hO.out.sl hO.out.deep hO.out.fits).mono ?_
        rintro e w23 ⟨rfl, b23⟩
        replace hO := Lib.hid (hO.out.mono b23)
        have S23 := b23.size
        have B23 := btrans B22 b23
        go_wp2_with fail
        go_ret
        exact ⟨ret_bool (by simp), B23⟩

set_option maxRecDepth 100000 in
theorem liftedCardsF (os : Os) (started : os.Started) (H : Type) (enc : TypeId × Value → H) :
    ReturnsInHanded {} Tryz.checked os 3 .any (fun w args => (Rows.fnCardsSpec.pre enc Tryz.prog Tryz.f3 [] false w args ∧ laidMetH Tryz.prog Rows.fnCardsRow.laid w) ∧ sizedMet enc Tryz.prog Tryz.f3 (OpenSpec.ofChange Rows.fnCardsSpec) false w args)
      (Rows.fnCardsSpec.post enc Tryz.prog Tryz.f3 false true false false) := by
  refine returnsInHanded_and_shaped (C := Tryz.checked) (X := fun w _ => laidMetH Tryz.prog Rows.fnCardsRow.laid w) (fun _ _ _ hh h => h.of_heap hh) own started (by kernel_rfl) Tryz.func3
    (ChangeSpec.witness_shaped (enc := enc) (C := Tryz.checked) (os := os) (X := fun w _ => laidMetH Tryz.prog Rows.fnCardsRow.laid w) false (World.laidAll Tryz.prog os Rows.fnCardsRow.laid) #[.slice none 0 0] 8 (World.laidAll_os _ _ _)
      (World.shaped_of_ZipB (by kernel_rfl) (by kernel_rfl)) (by kernel_rfl) (by kernel_rfl) (by kernel_rfl)
      (by rw [MakeChecks.laidMetH_plain _ _ _ (by kernel_rfl)]; exact laidMet_laidAll _ (by kernel_rfl) (by kernel_rfl))) ?_
  intro W base args ds gs before hval0 hW hL hSh
  have hval : ∀ (j : Nat) t v, Tryz.f3.params[j]? = some t → args[j]? = some v → Value.okWide Tryz.prog W .any base t v := hval0
  have hW' := hW
  obtain ⟨p, q, hA0, hV, rfl, hfz, hnd⟩ := hW
  have hA : DataW.TrodAll enc Tryz.prog W 0 (fun _ => true) true Tryz.f3.params.toList args.toList ds p := hA0
  rw [Tryz.params3] at hA hval
  obtain ⟨v0, vs0, d0, ds0, p0, q0, hargs, rfl, rfl, h0, r0⟩ := trodAll_cons hA
  obtain ⟨rfl, rfl, rfl⟩ := trodAll_nil r0
  obtain rfl : args = #[v0] := by cases args; simp_all
  obtain ⟨rfl, rfl⟩ := trodVars_none hV
  have s0 := readBytes h0 (hval 0 22 v0 rfl rfl)
  have hcall : Calls Tryz.prog 3 #[v0] W fun e w' => e = .returned (.bool true) ∧ Below W.heap.size W w' := by
    exact lawCardsF v0 W s0 (env_of hL hSh)
  refine hcall.mono fun e W' ⟨he, hb⟩ => ?_
  subst he
  exact ⟨_, rfl, post_below (pa := p0 ++ []) rfl Tryz.underlying4 hW' rfl rfl rfl (fun sp hsp => (trodAll_cons_mk (WideElems.Trod_stays laidOut (by kernel_rfl) (of_decide_eq_true (by kernel_rfl)) h0 (fun x hx => hb.same (hW'.lt x (by simp [hx]))) (fun x hx => hsp x (by simp [hx]))) trodAll_mk0)) (by simp) hb⟩

theorem rowCardsF : Rows.FnCardsSaid :=
  OpenClaim.holds_of_wide 3 Tryz.f3 rfl rfl rfl rfl rfl rfl rfl ⟨rfl, rfl, rfl, rfl, rfl⟩ rfl rfl rfl rfl rfl (by kernel_rfl) Tryz.func3 (by kernel_rfl)
    (of_decide_eq_true (by kernel_rfl)) (by unfold Func.isWrapper; first | (rw [if_pos (by decide +kernel)]; kernel_rfl) | (rw [if_neg (by decide +kernel)]; exact ⟨rfl, rfl⟩))
    (fun os started H enc _ => liftedCardsF os started H enc)
theorem holdsCardsF : Rows.FnCardsCardSaid :=
  Claim7.holds_tied_plain_at .later Rows.fnCardsCard.alts Rows.fnCardsCard.laidKinds Rows.fnCardsCard.laidTests Rows.fnCardsCard.stood.harness Rows.fnCardsCard.stood.looks
    rowCardsF (fun _ h => by cases h) (by kernel_rfl) (fun _ h => by cases h) fnCards_row_tie rfl ⟨rfl, rfl⟩ (by kernel_rfl) rfl
    (fun f fn hf hfn => by
      obtain rfl : f = 3 := Option.some.inj ((show Tryz.prog.funcNamed "loop.example/g01060/laws.FnCards" = some 3 by kernel_rfl).symm.trans hf) |>.symm
      obtain rfl : fn = Tryz.f3 := (Option.some.inj (Tryz.func3.symm.trans hfn)).symm
      exact ⟨by kernel_rfl, fun j t ht => by
        rw [Tryz.params3] at ht
        have hall : ∀ t, t ∈ Tryz.f3.params.toList → Tryz.prog.wantsStandIn t = false := by
          rw [Tryz.params3]
          intro t ht
          simp at ht
          first | (subst ht; kernel_rfl) | (rcases ht with rfl | rfl <;> kernel_rfl) | (rcases ht with rfl | rfl | rfl <;> kernel_rfl)
        refine hall t ?_
        rw [Tryz.params3]
        exact List.mem_of_getElem? (by simpa using ht)⟩)
    (by kernel_rfl)
end Go.Proofs.YteainpflmofjaaaGreatDoor
