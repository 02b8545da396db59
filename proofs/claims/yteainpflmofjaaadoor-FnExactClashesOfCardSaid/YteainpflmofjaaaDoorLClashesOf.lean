/- The law FnExactClashesOf holds: for every input it answers true, and each argument reads behind the call as before. Condition: the listed tables of Go's library read as they are laid (the card ties them). -/
import Derived.Test.YteainpflmofjaaaDoorCy25
import Derived.Test.YteainpflmofjaaaDoorCe25
import Derived.Test.YteainpflmofjaaaDoorMkE
import Derived.Test.YteainpflmofjaaaDoorNRead
import Derived.Test.YteainpflmofjaaaDoorTie
import Derived.Test.YteainpflmofjaaaDoorCards
import Derived.LaidMore
import Derived.MakeChecks
import Derived.SevenTiedAt
import Derived.LaidSub
import Derived.Stop.Joined
namespace Go.Proofs.YteainpflmofjaaaDoor
open Go.ChangeShapes Go.WideShapes Go.ChangeAt Go.RowKit
set_option maxHeartbeats 8000000 in
set_option maxRecDepth 100000 in
theorem lawClashesOf (v0 : Value) (l0 : List Ent) (i1 : Int) (i2 : Int) (w : World) (h0 : Sl w Ent.enc 6 v0 l0) (d0 : Ent.Deep w l0) (f0 : ∀ i, i < l0.length → (gd l0 i).Fits) (ht : Tab w) : Calls Tryd.prog 4 #[v0, .int .i64 i1, .int .i64 i2] w fun e w' => e = .returned (.bool true) ∧ Below w.heap.size w w' := by
  have HTB := Lib.hid (fun W (hb : Below w.heap.size w W) => ht.mono hb)
  clear ht
  have h0s := h0
  obtain ⟨a0, cap0, b0, o0, rfl, hk0, hm0, _⟩ := h0s
  replace f0 := Lib.hid f0
  replace d0 := Lib.hid d0
  replace h0 := Lib.hid h0
  go_enter Tryd.func4, Tryd.ntmps4
  go_wp2_with fail
  refine (szEntryS_p _ l0 1048576 _ (h0.out.mono (Below.refl _ _)) (d0.out.mono (Below.refl _ _)) f0.out (by omega) (by omega)).mono ?_
  rintro e w1 ⟨b1, r0, rfl, hr0⟩
  have S1 := b1.size
  have B1 := b1
  replace hr0 := Lib.hid hr0
  by_cases hz0 : r0 < 0
  · go_wp2_with fail
    go_ret
    exact ⟨rfl, B1⟩
  obtain ⟨hp0, hq0, hS0⟩ : 0 ≤ r0 ∧ r0 ≤ 1048576 ∧ (l0.length ≤ 1048576 ∧ ∀ i, i < l0.length → (gd l0 i).Short) := by
    rcases hr0.out with e | h2
    · omega
    · exact h2
  have n0 : l0.length ≤ 1048576 := hS0.1
  have t0 := Lib.hid (fun i (hi : i < l0.length) => (hS0.2 i hi).2.2)
  clear hS0
  go_wp2_with fail
  refine (toEntryS_p _ l0 _ (h0.out.mono B1) (d0.out.mono B1) n0 t0.out).mono ?_
  rintro e w2 ⟨cs0, ls0, rfl, qs0, es0, b2⟩
  have S2 := b2.size
  have B2 := btrans B1 b2
  replace es0 := Lib.hid es0
  replace qs0 := Lib.hid qs0.nown
  go_wp2_with fail
  have H := specClashesOf_c cs0 ls0 i1 i2 _ (qs0.out.own.sl Ent.len) (Ent.OwnN.deep qs0.out) (Ent.fits es0.out f0.out)
  rw [(cl_same es0.out _ _).1, (cl_same es0.out _ _).2] at H
  replace H := Lib.hid H
  refine H.out.mono ?_
  rintro e w3 ⟨rs, rfl, ps, b3⟩
  clear H
  replace qs0 := Lib.hid (qs0.out.mono b3)
  have S3 := b3.size
  have B3 := btrans B2 b3
  have zps := ps.bounds
  replace ps := Lib.hid ps
  go_wp2_with fail
  refine (toEntryS_p _ l0 _ (h0.out.mono B3) (d0.out.mono B3) n0 t0.out).mono ?_
  rintro e w4 ⟨ck0, lk0, rfl, qk0, ek0, b4⟩
  replace ps := Lib.hid (ps.out.mono b4)
  have S4 := b4.size
  have B4 := btrans B3 b4
  replace ek0 := Lib.hid ek0
  replace qk0 := Lib.hid qk0.nown
  go_wp2_with fail
  have H := clashesOf_c ck0 lk0 i1 i2 _ (qk0.out.own.sl Ent.len) (Ent.OwnN.deep qk0.out) (Ent.fits ek0.out f0.out) (HTB.out _ B4)
  rw [(cl_same ek0.out _ _).1, (cl_same ek0.out _ _).2] at H
  replace H := Lib.hid H
  refine H.out.mono ?_
  rintro e w5 ⟨rg, rfl, pg, b5⟩
  clear H
  replace ps := Lib.hid (ps.out.mono b5)
  replace qk0 := Lib.hid (qk0.out.mono b5)
  have S5 := b5.size
  have B5 := btrans B4 b5
  have zpg := pg.bounds
  replace pg := Lib.hid pg
  go_wp2_with fail
  refine (eqClashS_c rg rs _ _ (pg.out.sl Cls.len) (ps.out.sl Cls.len)).mono ?_
  rintro e w6 ⟨rfl, b6⟩
  replace ps := Lib.hid (ps.out.mono b6)
  replace qk0 := Lib.hid (qk0.out.mono b6)
  replace pg := Lib.hid (pg.out.mono b6)
  have S6 := b6.size
  have B6 := btrans B5 b6
  go_wp2_with fail
  refine (toEntryS_p _ l0 _ (h0.out.mono B6) (d0.out.mono B6) n0 t0.out).mono ?_
  rintro e w7 ⟨ce0, le0, rfl, qe0, ee0, b7⟩
  replace ps := Lib.hid (ps.out.mono b7)
  replace qk0 := Lib.hid (qk0.out.mono b7)
  replace pg := Lib.hid (pg.out.mono b7)
  have S7 := b7.size
  have B7 := btrans B6 b7
  replace ee0 := Lib.hid ee0
  replace qe0 := Lib.hid qe0.nown
  go_wp2_with fail
  refine (eqEntryS_p ck0 ce0 lk0 le0 _ (qk0.out.own.sl Ent.len) (Ent.OwnN.deep qk0.out) (qe0.out.own.sl Ent.len) (Ent.OwnN.deep qe0.out) (ek0.out.trans (Eq.symm ee0.out))).mono ?_
  rintro e w8 ⟨rfl, b8⟩
  replace ps := Lib.hid (ps.out.mono b8)
  replace qk0 := Lib.hid (qk0.out.mono b8)
  replace pg := Lib.hid (pg.out.mono b8)
  replace qe0 := Lib.hid (qe0.out.mono b8)
  have S8 := b8.size
  have B8 := btrans B7 b8
  go_wp2_with fail
  have lq0 := Ent.lnq ek0.out n0
  have lb0 := Ent.kb (k0 := 1) (Ent.lns ek0.out t0.out)
  refine (markEntryS_p ck0 lk0 (1) _ _ _ qk0.out (by omega) (Ent.lns ek0.out t0.out) (by omega) (by omega)).mono ?_
  rintro e w9 ⟨rfl, -, T9⟩
  generalize kAt Ent.nxt (1) lk0 lk0.length = kk0 at lb0 ⊢
  replace ps := Lib.hid (ps.out.turned T9 (fun g hg => by have := zps g hg; omega))
  replace pg := Lib.hid (pg.out.turned T9 (fun g hg => by have := zpg g hg; omega))
  have S9 := T9.size
  have SB9 := B8.size
  have B9 := Below.turned B8 T9 (by omega) (by omega)
  go_wp2_with fail
  refine (eqClashS_c rg rs _ _ (pg.out.sl Cls.len) (ps.out.sl Cls.len)).mono ?_
  rintro e w10 ⟨rfl, b10⟩
  replace ps := Lib.hid (ps.out.mono b10)
  replace pg := Lib.hid (pg.out.mono b10)
  have S10 := b10.size
  have B10 := btrans B9 b10
  have hlen : (clR l0 i1 i2).length ≤ 10000000 := by have := clR_len l0 i1 i2; omega
  go_wp2_with fail
  refine (markClashS_c rg _ 1 _ _ pg.out hlen (by omega) (by omega)).mono ?_
  rintro e w11 ⟨rfl, pg', G11⟩
  have T11 := Turned.of_grown G11 zpg
  replace ps := Lib.hid (ps.out.turned T11 (fun g hg => by have := zps g hg; omega))
  have S11 := T11.size
  have SB11 := B10.size
  have B11 := Below.turned B10 T11 (by omega) (by omega)
  replace pg := Lib.hid pg'
  clear pg'
  go_wp2_with fail
  refine (heldClashS_c rg _ 1 _ (pg.out.sl Cls.len) hlen (by omega) (by omega)).mono ?_
  rintro e w12 ⟨rfl, b12⟩
  replace ps := Lib.hid (ps.out.mono b12)
  replace pg := Lib.hid (pg.out.mono b12)
  have S12 := b12.size
  have B12 := btrans B11 b12
  go_wp2_with fail
  refine (toEntryS_p _ l0 _ (h0.out.mono B12) (d0.out.mono B12) n0 t0.out).mono ?_
  rintro e w13 ⟨cm0, lm0, rfl, qm0, em0, b13⟩
  replace ps := Lib.hid (ps.out.mono b13)
  replace pg := Lib.hid (pg.out.mono b13)
  have S13 := b13.size
  have B13 := btrans B12 b13
  replace em0 := Lib.hid em0
  replace qm0 := Lib.hid qm0.nown
  go_wp2_with fail
  have H := clashesOf_c cm0 lm0 i1 i2 _ (qm0.out.own.sl Ent.len) (Ent.OwnN.deep qm0.out) (Ent.fits em0.out f0.out) (HTB.out _ B13)
  rw [(cl_same em0.out _ _).1, (cl_same em0.out _ _).2] at H
  replace H := Lib.hid H
  refine H.out.mono ?_
  rintro e w14 ⟨rh, rfl, ph, b14⟩
  clear H
  replace ps := Lib.hid (ps.out.mono b14)
  replace pg := Lib.hid (pg.out.mono b14)
  replace qm0 := Lib.hid (qm0.out.mono b14)
  have S14 := b14.size
  have B14 := btrans B13 b14
  have zph := ph.bounds
  replace ph := Lib.hid ph
  go_wp2_with fail
  refine (eqClashS_c rh rs _ _ (ph.out.sl Cls.len) (ps.out.sl Cls.len)).mono ?_
  rintro e w15 ⟨rfl, b15⟩
  replace ps := Lib.hid (ps.out.mono b15)
  replace pg := Lib.hid (pg.out.mono b15)
  replace qm0 := Lib.hid (qm0.out.mono b15)
  replace ph := Lib.hid (ph.out.mono b15)
  have S15 := b15.size
  have B15 := btrans B14 b15
  go_wp2_with fail
  refine (heldClashS_c rg _ 1 _ (pg.out.sl Cls.len) hlen (by omega) (by omega)).mono ?_
  rintro e w16 ⟨rfl, b16⟩
  replace ps := Lib.hid (ps.out.mono b16)
  replace pg := Lib.hid (pg.out.mono b16)
  replace qm0 := Lib.hid (qm0.out.mono b16)
  replace ph := Lib.hid (ph.out.mono b16)
  have S16 := b16.size
  have B16 := btrans B15 b16
  go_wp2_with fail
  go_ret
  exact ⟨rfl, B16⟩

/-- what the row's condition gives: Go's table reads as it is laid -/
theorem tab_of_laid {W : World} (h : laidMetH Tryd.prog Rows.fnExactClashesOfRow.laid W) : Tab W := by
  have h2 := h.filter (fun x => x.1 == "internal/strconv.uint64pow10")
  have e : (Rows.fnExactClashesOfRow.laid.filter fun x => x.1 == "internal/strconv.uint64pow10") = [("internal/strconv.uint64pow10", Lib.tabData .u64 Lib.pow10Tab)] := by kernel_rfl
  rw [e, MakeChecks.laidMetH_plain _ _ _ (by kernel_rfl)] at h2
  exact Lib.tabIs_of_head (P := Tryd.prog) (g := 5) (t := 168) (e := 93) (by kernel_rfl) (by kernel_rfl) Tryd.underlying168 Tryd.underlying93 (by kernel_rfl) (by kernel_rfl) h2
theorem door_met (os : Os) (args : Array Value) : laidMetH Tryd.prog Rows.fnExactClashesOfRow.laid ((World.doorLaid Tryd.prog 400 os).forCall (fun _ _ => 0) ⟨#[], args, []⟩).memory :=
  laidMetH_of_parts3 (fuel := 8) (laidMet_of_run' 8 (by kernel_rfl) (by kernel_rfl)) (by kernel_rfl) (by kernel_rfl)
set_option maxRecDepth 100000 in
theorem liftedClashesOf (os : Os) (started : os.Started) (H : Type) (enc : TypeId × Value → H) :
    ReturnsInHanded {} Tryd.checked os 4 .any (fun w args => (Rows.fnExactClashesOfSpec.pre enc Tryd.prog Tryd.f4 [] false w args ∧ laidMetH Tryd.prog Rows.fnExactClashesOfRow.laid w) ∧ sizedMet enc Tryd.prog Tryd.f4 (OpenSpec.ofChange Rows.fnExactClashesOfSpec) false w args)
      (Rows.fnExactClashesOfSpec.post enc Tryd.prog Tryd.f4 false true false false) := by
  refine returnsInHanded_of_change_and (C := Tryd.checked) (X := fun w _ => laidMetH Tryd.prog Rows.fnExactClashesOfRow.laid w) (fun _ _ _ hh h => h.of_heap hh) own started (by kernel_rfl) Tryd.func4
    (ChangeSpec.witness_shaped (enc := enc) (C := Tryd.checked) (os := os) (X := fun w _ => laidMetH Tryd.prog Rows.fnExactClashesOfRow.laid w) false (World.doorLaid Tryd.prog 400 os) #[.slice none 0 0, .int .i64 0, .int .i64 0] 8 rfl (World.shaped_of_RefB (by kernel_rfl) (by kernel_rfl)) (by kernel_rfl) (by kernel_rfl) (by kernel_rfl) (door_met os _)) ?_
  intro W base args ds gs before hval0 hW _ _ hL _
  have hval : ∀ (j : Nat) t v, Tryd.f4.params[j]? = some t → args[j]? = some v → Value.okWide Tryd.prog W .any base t v := hval0
  have hW' := hW
  obtain ⟨p, q, hA0, hV, rfl, hfz, hnd⟩ := hW
  have hA : DataW.TrodAll enc Tryd.prog W 0 (fun _ => true) true Tryd.f4.params.toList args.toList ds p := hA0
  rw [Tryd.params4] at hA hval
  obtain ⟨v0, vs0, d0, ds0, p0, q0, hargs, rfl, rfl, h0, r0⟩ := trodAll_cons hA
  obtain ⟨v1, vs1, d1, ds1, p1, q1, rfl, rfl, rfl, h1, r1⟩ := trodAll_cons r0
  obtain ⟨v2, vs2, d2, ds2, p2, q2, rfl, rfl, rfl, h2, r2⟩ := trodAll_cons r1
  obtain ⟨rfl, rfl, rfl⟩ := trodAll_nil r2
  obtain rfl : args = #[v0, v1, v2] := by cases args; simp_all
  obtain ⟨rfl, rfl⟩ := trodVars_none hV
  obtain ⟨l0, s0, u0, f0⟩ := readEntryS h0 (hval 0 30 v0 rfl rfl)
  obtain ⟨i1, e1, _, _⟩ := readInt h1 (hval 1 3 v1 rfl rfl)
  obtain ⟨i2, e2, _, _⟩ := readInt h2 (hval 2 3 v2 rfl rfl)
  have hcall : Calls Tryd.prog 4 #[v0, v1, v2] W fun e w' => e = .returned (.bool true) ∧ Below W.heap.size W w' := by
    rw [e1, e2]
    exact lawClashesOf v0 l0 i1 i2 W s0 u0 f0 (tab_of_laid hL)
  refine hcall.mono fun e W' ⟨he, hb⟩ => ?_
  subst he
  exact ⟨_, rfl, post_below (pa := p0 ++ (p1 ++ (p2 ++ []))) rfl Tryd.underlying4 hW' rfl rfl rfl (fun sp hsp => (trodAll_cons_mk (WideElems.Trod_stays laidOut (by kernel_rfl) (of_decide_eq_true (by kernel_rfl)) h0 (fun x hx => hb.same (hW'.lt x (by simp [hx]))) (fun x hx => hsp x (by simp [hx]))) (trodAll_cons_mk (WideElems.Trod_stays laidOut (by kernel_rfl) (of_decide_eq_true (by kernel_rfl)) h1 (fun x hx => hb.same (hW'.lt x (by simp [hx]))) (fun x hx => hsp x (by simp [hx]))) (trodAll_cons_mk (WideElems.Trod_stays laidOut (by kernel_rfl) (of_decide_eq_true (by kernel_rfl)) h2 (fun x hx => hb.same (hW'.lt x (by simp [hx]))) (fun x hx => hsp x (by simp [hx]))) trodAll_mk0)))) (by simp) hb⟩

theorem rowClashesOf : Rows.FnExactClashesOfSaid :=
  OpenClaim.holds_of_wide 4 Tryd.f4 rfl rfl rfl rfl rfl rfl rfl ⟨rfl, rfl, rfl, rfl, rfl⟩ rfl rfl rfl rfl rfl (by kernel_rfl) Tryd.func4 (by kernel_rfl)
    (of_decide_eq_true (by kernel_rfl)) (by unfold Func.isWrapper; first | (rw [if_pos (by decide +kernel)]; kernel_rfl) | (rw [if_neg (by decide +kernel)]; exact ⟨rfl, rfl⟩))
    (fun os started H enc _ => liftedClashesOf os started H enc)
theorem holdsClashesOf : Rows.FnExactClashesOfCardSaid :=
  Claim7.holds_tied_plain_at .later Rows.fnExactClashesOfCard.alts Rows.fnExactClashesOfCard.laidKinds Rows.fnExactClashesOfCard.laidTests Rows.fnExactClashesOfCard.stood.harness Rows.fnExactClashesOfCard.stood.looks
    rowClashesOf (fun _ h => by cases h) (by kernel_rfl) (fun _ h => by cases h) fnExactClashesOf_row_tie rfl ⟨rfl, rfl⟩ (by kernel_rfl) rfl
    (fun f fn hf hfn => by
      obtain rfl : f = 4 := Option.some.inj ((show Tryd.prog.funcNamed "loop.example/g01060/laws.FnExactClashesOf" = some 4 by kernel_rfl).symm.trans hf) |>.symm
      obtain rfl : fn = Tryd.f4 := (Option.some.inj (Tryd.func4.symm.trans hfn)).symm
      exact ⟨by kernel_rfl, fun j t ht => by
        rw [Tryd.params4] at ht
        have hall : ∀ t, t ∈ Tryd.f4.params.toList → Tryd.prog.wantsStandIn t = false := by
          rw [Tryd.params4]
          intro t ht
          simp at ht
          first | (subst ht; kernel_rfl) | (rcases ht with rfl | rfl <;> kernel_rfl) | (rcases ht with rfl | rfl | rfl <;> kernel_rfl)
        refine hall t ?_
        rw [Tryd.params4]
        exact List.mem_of_getElem? (by simpa using ht)⟩)
    (by kernel_rfl)
end Go.Proofs.YteainpflmofjaaaDoor
