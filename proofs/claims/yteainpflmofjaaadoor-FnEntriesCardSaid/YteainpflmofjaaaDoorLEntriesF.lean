/- The law FnEntries holds: each entry is in the group of its title, and each id is found where it was seen: for every input it answers true, and the bytes read behind the call as before. Condition: the listed tables of Go's library read as they are laid (the card ties them). -/
import Derived.Test.YteainpflmofjaaaDoorPe25
import Derived.Test.YteainpflmofjaaaDoorDf25
import Derived.Test.YteainpflmofjaaaDoorTm25
import Derived.Test.YteainpflmofjaaaDoorTs25
import Derived.Test.YteainpflmofjaaaDoorFe25
import Derived.Test.YteainpflmofjaaaDoorTc25
import Derived.Test.YteainpflmofjaaaDoorTie
import Derived.Test.YteainpflmofjaaaDoorCards
import Derived.LaidMore
import Derived.MakeChecks
import Derived.SevenTiedAt
import Derived.LaidSub
import Derived.Stop.Joined
import Derived.Deep.Cut
import Derived.Deep.CutBlock
import Derived.Outline
namespace Go.Proofs.YteainpflmofjaaaDoor
open Go.ChangeShapes Go.WideShapes Go.ChangeAt Go.RowKit
set_option maxHeartbeats 16000000 in
set_option maxRecDepth 100000 in
theorem lawEntriesF (v : Value) (w : World) (h : Bytes w v) (ht : Tab w) : Calls Tryd.prog 5 #[v] w fun e w' => e = .returned (.bool true) ∧ Below w.heap.size w w' := by
  have hY := Lib.hid h
  obtain ⟨a0, n0, cap0, b0, o0, rfl, hn0, hm0, -⟩ := h
  unfold maxLen at hm0
  by_cases hbig : 65536 < n0
  · go_enter Tryd.func5, Tryd.ntmps5
    go_wp2_with (go_at_call 20; refine (vBig_yes _ _ _ _ (by omega) hbig).mono ?_; rintro e w' ⟨rfl, rfl⟩)
    go_ret
    exact ⟨rfl, Below.refl _ _⟩
  go_enter Tryd.func5, Tryd.ntmps5
  go_wp2_with (go_at_call 20; refine (vBig_no _ _ _ _ hbig).mono ?_; rintro e w' ⟨rfl, rfl⟩)
  have HTB := Lib.hid (fun W (hb : Below w.heap.size w W) => ht.mono hb)
  clear ht
  refine (drawTitleGroups_c _ w hY.out).mono ?_
  rintro e w1 ⟨lv, l, rfl, hE, b1⟩
  have S1 := b1.size
  have B1 := b1
  replace hE := Lib.hid hE
  go_wp2_with fail
  refine (titleGroups_c lv l _ hE.out.sl hE.out.deep hE.out.fits).mono ?_
  rintro e w2 ⟨r1, g1, rfl, p1, e1, b2⟩
  replace hE := Lib.hid (hE.out.mono b2)
  have S2 := b2.size
  have B2 := btrans B1 b2
  replace p1 := Lib.hid p1
  replace e1 := Lib.hid e1
  go_wp2_with fail
  refine (specTitleGroups_c lv l _ hE.out.sl hE.out.deep hE.out.fits).mono ?_
  rintro e w3 ⟨r2, g2, rfl, p2, e2, b3⟩
  replace hE := Lib.hid (hE.out.mono b3)
  replace p1 := Lib.hid (p1.out.mono b3)
  have S3 := b3.size
  have B3 := btrans B2 b3
  replace p2 := Lib.hid p2
  replace e2 := Lib.hid e2
  go_wp2_with fail
  refine (vGrid_c r1 r2 g1 g2 _ (p1.out.own.sl Rw.len) (Rw.OwnN.deep p1.out) (p2.out.own.sl Rw.len) (Rw.OwnN.deep p2.out) (e1.out.trans e2.out.symm)).mono ?_
  rintro e w4 ⟨rfl, b4⟩
  replace hE := Lib.hid (hE.out.mono b4)
  replace p1 := Lib.hid (p1.out.mono b4)
  replace p2 := Lib.hid (p2.out.mono b4)
  have S4 := b4.size
  have B4 := btrans B3 b4
  clear p2
  clear e2
  go_upto_if 53 with fail
  obtain ⟨la, lcap, lb, lo, rfl, hlk, hlm, hlc⟩ := hE.out.sl
  obtain ⟨ra, rcap, rb, ro, rfl, hrk, hrm, hrc⟩ := p1.out.own.sl Rw.len
  unfold maxLen at hlm hrm
  have hg1 := Lib.hid (show g1.length = (tgR l).length by rw [← e1.out]; simp)
  obtain ⟨ok, hok⟩ : ∃ ok, ok = areEnt l := ⟨_, rfl⟩
  rw [← hok]
  replace hok := Lib.hid hok
  go_cut [2, 8, 9, 10, 11, 12, 13] from 54 (fun s _ _ _ _ _ _ W => s = .bool false ∧ Below w4.heap.size w4 W)
  case first => as_aux_lemma =>
    cases ok
    · go_wp2_with fail
      go_meet
      case rel => exact ⟨rfl, Below.refl _ _⟩
    · have hA := hok.out.symm
      have hL1 := Lib.hid (lenTo_tg hA)
      have hL2 := Lib.hid (lenTo_le l)
      have hL3 := Lib.hid (tgR_small l)
      have hS := Lib.hid (fun i j (hi : i < l.length) (hj : j < (gd l i).sub.length) => fe_seen hA hi hj)
      have hlen := hE.out.len
      have hsub := Lib.hid hE.out.sub
      clear hA
      go_wp2_with fail
      go_loop [8, 9] (fun a b => ∃ i : Nat, i ≤ g1.length ∧ a = .int .i64 (lenTo (tgR l) i : Int) ∧ b = .int .i64 (i : Int)) (fun _ b => g1.length - (intOf b).toNat)
      case atStart => exact ⟨0, Nat.zero_le _, rfl, rfl⟩
      case round =>
        obtain ⟨i, hi, rfl, rfl⟩ := hrel
        by_cases hlt : i < g1.length
        · obtain ⟨rfl, hbw, c0⟩ := Rw.at hrc i hlt
          have hx : (gd g1 i).sub.length = (gd (tgR l) i).length := by rw [← e1.out, gd_map _ hlt]
          have h1 := hL2.out i (by rw [← hg1.out]; exact hi)
          have h2 := hL3.out.1
          have h3 := hL3.out.2 i (by rw [← hg1.out]; exact hlt)
          have h4 := hg1.out
          have hn := Lib.hid (show lenTo (tgR l) (i + 1) = lenTo (tgR l) i + (gd g1 i).sub.length by rw [hx]; rfl)
          have hgi : g1.length ≤ 12 := by omega
          have hgx : (gd g1 i).sub.length ≤ 12 := by omega
          have hgl : lenTo (tgR l) i ≤ 144 := by omega
          clear hx h1 h2 h3 h4
          generalize lenTo (tgR l) i = q at hn hgl ⊢
          generalize gd g1 i = y at c0 hn hgx
          go_wp2_with fail
          go_round
          case rel => exact ⟨i + 1, by omega, by rw [hn.out]; go_num, by go_num⟩
          case measure => simp [intOf]; omega
        · obtain rfl : i = g1.length := by omega
          rw [show lenTo (tgR l) g1.length = l.length by rw [hg1.out, hL1.out]]
          go_wp2_with fail
          go_loopw [2, 10, 11, 12, 13] (fun s a _ _ _ wr => ∃ i : Nat, i ≤ l.length ∧ s = .bool false ∧ a = .int .i64 (i : Int) ∧ Below w4.heap.size w4 wr) (fun _ a _ _ _ _ => l.length - (intOf a).toNat)
          case atStart => exact ⟨0, Nat.zero_le _, rfl, rfl, Below.refl _ _⟩
          case round =>
            obtain ⟨i, hi, rfl, rfl, hb⟩ := hrel
            by_cases hli : i < l.length
            · have hss := hsub.out i hli
              obtain ⟨wo, hwo⟩ : ∃ x, x = wr := ⟨_, rfl⟩
              subst hwo
              go_wp2_with fail
              go_loopw [2, 11, 12, 13] (fun s a _ _ wr => ∃ j : Nat, j ≤ (gd l i).sub.length ∧ s = .bool false ∧ a = .int .i64 (j : Int) ∧ Below w4.heap.size w4 wr) (fun _ a _ _ _ => (gd l i).sub.length - (intOf a).toNat)
              case atStart => exact ⟨0, Nat.zero_le _, rfl, rfl, hb⟩
              case round =>
                obtain ⟨j, hj, rfl, rfl, hb2⟩ := hrel
                obtain ⟨rfl, hbw, c0, -, -, -, -, c5⟩ := Ent.at (hlc.mono hb2) i hli
                by_cases hlj : j < (gd l i).sub.length
                · obtain ⟨aa, cc, bb, oo, hv, hsc, hsm, hcc⟩ := (hE.out.deep i hli).mono hb2
                  injection hv with e4 e5 e6
                  obtain ⟨e7, hbw2, d0⟩ := IntE.at hcc j hlj
                  have hEF := hE.out.mono hb2
                  have HF := findEntry_c _ l (gd (gd l i).sub j) wr hEF.sl hEF.deep hEF.fits
                  rw [(hS.out i j hli hlj).1, (hS.out i j hli hlj).2] at HF
                  replace HF := Lib.hid HF
                  rw [← e4] at e7
                  rw [e7] at c5
                  clear e4 e5 e6 hEF hcc
                  generalize gd (gd l i).sub j = s at d0 HF
                  generalize (gd l i).id = id0 at c0 HF
                  go_wp2_with fail
                  refine HF.out.mono ?_
                  rintro e w8 ⟨rfl, b8⟩
                  have c0' := cellOn b8 c0
                  have B8 := hb2.trans (b8.mono hb2.size)
                  go_wp2_with fail
                  go_roundw
                  case rel => exact ⟨j + 1, by omega, rfl, by go_num, B8⟩
                  case measure => simp [intOf]; omega
                · obtain rfl : j = (gd l i).sub.length := by omega
                  go_wp2_with fail
                  go_roundw
                  case rel => exact ⟨i + 1, by omega, rfl, by go_num, hb2⟩
                  case measure => simp [intOf]; omega
            · obtain rfl : i = l.length := by omega
              go_wp2_with fail
              go_meet
              case rel => exact ⟨rfl, hb⟩
  obtain ⟨rfl, hbc⟩ := hcut
  have b5 := hbc
  replace hE := Lib.hid (hE.out.mono b5)
  replace p1 := Lib.hid (p1.out.mono b5)
  have S5 := b5.size
  have B5 := btrans B4 b5
  clear hbc
  generalize wc = w5 at *
  as_aux_lemma =>
    clear p1
    clear hE
    clear e1 hg1 hrc hlc
    go_wp2_with fail
    refine (drawFindEntry_c _ _ (hY.out.mono B5)).mono ?_
    rintro e w6 ⟨xv, x, s, rfl, hX, b6⟩
    have S6 := b6.size
    have B6 := btrans B5 b6
    replace hX := Lib.hid hX
    go_wp2_with fail
    refine (findEntry_c xv x s _ hX.out.sl hX.out.deep hX.out.fits).mono ?_
    rintro e w7 ⟨rfl, b7⟩
    replace hX := Lib.hid (hX.out.mono b7)
    have S7 := b7.size
    have B7 := btrans B6 b7
    go_wp2_with fail
    refine (specFindEntry_c xv x s _ hX.out.sl hX.out.deep hX.out.fits).mono ?_
    rintro e w8 ⟨rfl, b8⟩
    replace hX := Lib.hid (hX.out.mono b8)
    have S8 := b8.size
    have B8 := btrans B7 b8
    clear hX
    go_wp2_with fail
    refine (drawCopiesOf_c _ _ (hY.out.mono B8)).mono ?_
    rintro e w9 ⟨yv, y, rfl, hC, b9⟩
    have S9 := b9.size
    have B9 := btrans B8 b9
    replace hC := Lib.hid hC
    go_wp2_with fail
    refine (copiesOf_c yv y _ hC.out.sl hC.out.deep hC.out.fits).mono ?_
    rintro e w10 ⟨rfl, b10⟩
    replace hC := Lib.hid (hC.out.mono b10)
    have S10 := b10.size
    have B10 := btrans B9 b10
    go_wp2_with fail
    refine (specCopiesOf_c yv y _ hC.out.sl hC.out.deep hC.out.fits).mono ?_
    rintro e w11 ⟨rfl, b11⟩
    replace hC := Lib.hid (hC.out.mono b11)
    have S11 := b11.size
    have B11 := btrans B10 b11
    clear hC
    go_wp2_with fail
    refine (drawEntryText_c _ _ (hY.out.mono B11)).mono ?_
    rintro e w12 ⟨z, rfl, hZ, hF, b12⟩
    have S12 := b12.size
    have B12 := btrans B11 b12
    replace hZ := Lib.hid hZ
    replace hF := Lib.hid hF
    go_wp2_with fail
    refine callsAt (fun w13 hw => ?_)
    have b13 : Below w12.heap.size w12 w13 := by rw [hw]; exact below_alloc _ _
    have bx : BoxAt w13 w12.heap.size z.enc := by rw [hw]; exact BoxAt.new _ _ _
    replace hZ := Lib.hid (hZ.out.mono b13)
    have S13 := b13.size
    have B13 := btrans B12 b13
    clear hw
    obtain ⟨y0, y1, y2, y3, y4, y5⟩ : _ ∧ _ ∧ _ ∧ _ ∧ _ ∧ _ := ⟨bx.2 0 _ rfl, bx.2 1 _ rfl, bx.2 2 _ rfl, bx.2 3 _ rfl, bx.2 4 _ rfl, bx.2 5 _ rfl⟩
    refine (entryText_c z _ (hZ.out.sl IntE.len) hF.out (HTB.out _ B13)).mono ?_
    rintro e w14 ⟨rfl, b14⟩
    replace hZ := Lib.hid (hZ.out.mono b14)
    have S14 := b14.size
    have B14 := btrans B13 b14
    replace y0 := cellOn b14 y0
    replace y1 := cellOn b14 y1
    replace y2 := cellOn b14 y2
    replace y3 := cellOn b14 y3
    replace y4 := cellOn b14 y4
    replace y5 := cellOn b14 y5
    go_wp2_with fail
    refine (specEntryText_c z _ (hZ.out.sl IntE.len) hF.out).mono ?_
    rintro e w15 ⟨rfl, b15⟩
    replace hZ := Lib.hid (hZ.out.mono b15)
    have S15 := b15.size
    have B15 := btrans B14 b15
    replace y0 := cellOn b15 y0
    replace y1 := cellOn b15 y1
    replace y2 := cellOn b15 y2
    replace y3 := cellOn b15 y3
    replace y4 := cellOn b15 y4
    replace y5 := cellOn b15 y5
    go_wp2_with fail
    refine (isEntry_c z _ (hZ.out.sl IntE.len) hF.out).mono ?_
    rintro e w16 ⟨rfl, b16⟩
    replace hZ := Lib.hid (hZ.out.mono b16)
    have S16 := b16.size
    have B16 := btrans B15 b16
    go_wp2_with fail
    go_ret
    exact ⟨ret_bool (by simp), B16⟩

/-- what the row's condition gives: Go's table reads as it is laid -/
theorem tab_of_laid {W : World} (h : laidMetH Tryd.prog Rows.fnEntriesRow.laid W) : Tab W := by
  have h2 := h.filter (fun x => x.1 == "internal/strconv.uint64pow10")
  have e : (Rows.fnEntriesRow.laid.filter fun x => x.1 == "internal/strconv.uint64pow10") = [("internal/strconv.uint64pow10", Lib.tabData .u64 Lib.pow10Tab)] := by kernel_rfl
  rw [e, MakeChecks.laidMetH_plain _ _ _ (by kernel_rfl)] at h2
  exact Lib.tabIs_of_head (P := Tryd.prog) (g := 5) (t := 168) (e := 93) (by kernel_rfl) (by kernel_rfl) Tryd.underlying168 Tryd.underlying93 (by kernel_rfl) (by kernel_rfl) h2
theorem door_met (os : Os) (args : Array Value) : laidMetH Tryd.prog Rows.fnEntriesRow.laid ((World.doorLaid Tryd.prog 400 os).forCall (fun _ _ => 0) ⟨#[], args, []⟩).memory :=
  laidMetH_of_parts3 (fuel := 8) (laidMet_of_run' 8 (by kernel_rfl) (by kernel_rfl)) (by kernel_rfl) (by kernel_rfl)
set_option maxRecDepth 100000 in
theorem liftedEntriesF (os : Os) (started : os.Started) (H : Type) (enc : TypeId × Value → H) :
    ReturnsInHanded {} Tryd.checked os 5 .any (fun w args => (Rows.fnEntriesSpec.pre enc Tryd.prog Tryd.f5 [] false w args ∧ laidMetH Tryd.prog Rows.fnEntriesRow.laid w) ∧ sizedMet enc Tryd.prog Tryd.f5 (OpenSpec.ofChange Rows.fnEntriesSpec) false w args)
      (Rows.fnEntriesSpec.post enc Tryd.prog Tryd.f5 false true false false) := by
  refine returnsInHanded_of_change_and (C := Tryd.checked) (X := fun w _ => laidMetH Tryd.prog Rows.fnEntriesRow.laid w) (fun _ _ _ hh h => h.of_heap hh) own started (by kernel_rfl) Tryd.func5
    (ChangeSpec.witness_shaped (enc := enc) (C := Tryd.checked) (os := os) (X := fun w _ => laidMetH Tryd.prog Rows.fnEntriesRow.laid w) false (World.doorLaid Tryd.prog 400 os) #[.slice none 0 0] 8 rfl (World.shaped_of_RefB (by kernel_rfl) (by kernel_rfl)) (by kernel_rfl) (by kernel_rfl) (by kernel_rfl) (door_met os _)) ?_
  intro W base args ds gs before hval0 hW _ _ hL _
  have hval : ∀ (j : Nat) t v, Tryd.f5.params[j]? = some t → args[j]? = some v → Value.okWide Tryd.prog W .any base t v := hval0
  have hW' := hW
  obtain ⟨p, q, hA0, hV, rfl, hfz, hnd⟩ := hW
  have hA : DataW.TrodAll enc Tryd.prog W 0 (fun _ => true) true Tryd.f5.params.toList args.toList ds p := hA0
  rw [Tryd.params5] at hA hval
  obtain ⟨v0, vs0, d0, ds0, p0, q0, hargs, rfl, rfl, h0, r0⟩ := trodAll_cons hA
  obtain ⟨rfl, rfl, rfl⟩ := trodAll_nil r0
  obtain rfl : args = #[v0] := by cases args; simp_all
  obtain ⟨rfl, rfl⟩ := trodVars_none hV
  have s0 := readBytes h0 (hval 0 42 v0 rfl rfl)
  have hcall : Calls Tryd.prog 5 #[v0] W fun e w' => e = .returned (.bool true) ∧ Below W.heap.size W w' := lawEntriesF v0 W s0 (tab_of_laid hL)
  refine hcall.mono fun e W' ⟨he, hb⟩ => ?_
  subst he
  exact ⟨_, rfl, post_below (pa := p0 ++ []) rfl Tryd.underlying4 hW' rfl rfl rfl (fun sp hsp => (trodAll_cons_mk (WideElems.Trod_stays laidOut (by kernel_rfl) (of_decide_eq_true (by kernel_rfl)) h0 (fun x hx => hb.same (hW'.lt x (by simp [hx]))) (fun x hx => hsp x (by simp [hx]))) trodAll_mk0)) (by simp) hb⟩

theorem rowEntriesF : Rows.FnEntriesSaid :=
  OpenClaim.holds_of_wide 5 Tryd.f5 rfl rfl rfl rfl rfl rfl rfl ⟨rfl, rfl, rfl, rfl, rfl⟩ rfl rfl rfl rfl rfl (by kernel_rfl) Tryd.func5 (by kernel_rfl)
    (of_decide_eq_true (by kernel_rfl)) (by unfold Func.isWrapper; first | (rw [if_pos (by decide +kernel)]; kernel_rfl) | (rw [if_neg (by decide +kernel)]; exact ⟨rfl, rfl⟩))
    (fun os started H enc _ => liftedEntriesF os started H enc)
theorem holdsEntriesF : Rows.FnEntriesCardSaid :=
  Claim7.holds_tied_plain_at .later Rows.fnEntriesCard.alts Rows.fnEntriesCard.laidKinds Rows.fnEntriesCard.laidTests Rows.fnEntriesCard.stood.harness Rows.fnEntriesCard.stood.looks
    rowEntriesF (fun _ h => by cases h) (by kernel_rfl) (fun _ h => by cases h) fnEntries_row_tie rfl ⟨rfl, rfl⟩ (by kernel_rfl) rfl
    (fun f fn hf hfn => by
      obtain rfl : f = 5 := Option.some.inj ((show Tryd.prog.funcNamed "loop.example/g01060/laws.FnEntries" = some 5 by kernel_rfl).symm.trans hf) |>.symm
      obtain rfl : fn = Tryd.f5 := (Option.some.inj (Tryd.func5.symm.trans hfn)).symm
      exact ⟨by kernel_rfl, fun j t ht => by
        rw [Tryd.params5] at ht
        have hall : ∀ t, t ∈ Tryd.f5.params.toList → Tryd.prog.wantsStandIn t = false := by
          rw [Tryd.params5]
          intro t ht
          simp at ht
          first | (subst ht; kernel_rfl) | (rcases ht with rfl | rfl <;> kernel_rfl) | (rcases ht with rfl | rfl | rfl <;> kernel_rfl)
        refine hall t ?_
        rw [Tryd.params5]
        exact List.mem_of_getElem? (by simpa using ht)⟩)
    (by kernel_rfl)
end Go.Proofs.YteainpflmofjaaaDoor
