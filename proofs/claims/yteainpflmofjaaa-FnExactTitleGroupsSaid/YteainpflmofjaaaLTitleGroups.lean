/- The law FnExactTitleGroups holds: for every input it answers true, and each argument reads behind the call as before. No condition. -/
import Derived.Test.YteainpflmofjaaaTm25
import Derived.Test.YteainpflmofjaaaTs25
import Derived.Test.YteainpflmofjaaaMkE
import Derived.Test.YteainpflmofjaaaNRead
namespace Go.Proofs.Yteainpflmofjaaa
open Go.ChangeShapes Go.WideShapes Go.ChangeAt Go.RowKit
set_option maxHeartbeats 8000000 in
set_option maxRecDepth 100000 in
theorem lawTitleGroups (v0 : Value) (l0 : List Ent) (w : World) (h0 : Sl w Ent.enc 6 v0 l0) (d0 : Ent.Deep w l0) (f0 : ∀ i, i < l0.length → (gd l0 i).Fits) : Calls Try.prog 3 #[v0] w fun e w' => e = .returned (.bool true) ∧ Below w.heap.size w w' := by
  have h0s := h0
  obtain ⟨a0, cap0, b0, o0, rfl, hk0, hm0, _⟩ := h0s
  replace f0 := Lib.hid f0
  replace d0 := Lib.hid d0
  replace h0 := Lib.hid h0
  go_enter Try.func3, Try.ntmps3
  go_wp2_with fail
  refine (szEntryS_p _ l0 1048576 _ (h0.out.mono (Below.refl _ _)) (d0.out.mono (Below.refl _ _)) f0.out (by omega) (by omega)).mono ?_
  rintro e w1 ⟨b1, r0, rfl, hr0⟩
  have S1 := b1.size
  have B1 := b1
  replace hr0 := Lib.hid hr0
  by_cases hz0 : r0 < 0
  · go_wp2_with fail
    go_ret
    exact ⟨rfl, B1⟩
  obtain ⟨hp0, hq0, hS0⟩ : 0 ≤ r0 ∧ r0 ≤ 1048576 ∧ (l0.length ≤ 1048576 ∧ ∀ i, i < l0.length → (gd l0 i).Short) := by
    rcases hr0.out with e | h2
    · omega
    · exact h2
  have n0 : l0.length ≤ 1048576 := hS0.1
  have t0 := Lib.hid (fun i (hi : i < l0.length) => (hS0.2 i hi).2.2)
  clear hS0
  have hBd := tgB_bound l0
  go_wp2_with fail
  refine (toEntryS_p _ l0 _ (h0.out.mono B1) (d0.out.mono B1) n0 t0.out).mono ?_
  rintro e w2 ⟨cs0, ls0, rfl, qs0, es0, b2⟩
  have S2 := b2.size
  have B2 := btrans B1 b2
  replace es0 := Lib.hid es0
  replace qs0 := Lib.hid qs0.nown
  go_wp2_with fail
  have H := specTitleGroups_c cs0 ls0 _ (qs0.out.own.sl Ent.len) (Ent.OwnN.deep qs0.out) (Ent.fits es0.out f0.out)
  rw [(tg_same es0.out).1, (tg_same es0.out).2] at H
  replace H := Lib.hid H
  refine H.out.mono ?_
  rintro e w3 ⟨rs, lrs, rfl, ps, ers, b3⟩
  clear H
  replace qs0 := Lib.hid (qs0.out.mono b3)
  have S3 := b3.size
  have B3 := btrans B2 b3
  have lns := Rw.lnB ers hBd
  replace ers := Lib.hid ers
  replace ps := Lib.hid ps
  go_wp2_with fail
  refine (toEntryS_p _ l0 _ (h0.out.mono B3) (d0.out.mono B3) n0 t0.out).mono ?_
  rintro e w4 ⟨ck0, lk0, rfl, qk0, ek0, b4⟩
  replace ps := Lib.hid (ps.out.mono b4)
  have S4 := b4.size
  have B4 := btrans B3 b4
  replace ek0 := Lib.hid ek0
  replace qk0 := Lib.hid qk0.nown
  go_wp2_with fail
  have H := titleGroups_c ck0 lk0 _ (qk0.out.own.sl Ent.len) (Ent.OwnN.deep qk0.out) (Ent.fits ek0.out f0.out)
  rw [(tg_same ek0.out).1, (tg_same ek0.out).2] at H
  replace H := Lib.hid H
  refine H.out.mono ?_
  rintro e w5 ⟨rg, lrg, rfl, pg, erg, b5⟩
  clear H
  replace ps := Lib.hid (ps.out.mono b5)
  replace qk0 := Lib.hid (qk0.out.mono b5)
  have S5 := b5.size
  have B5 := btrans B4 b5
  have lng := Rw.lnB erg hBd
  replace erg := Lib.hid erg
  replace pg := Lib.hid pg
  go_wp2_with fail
  refine (eqIntSS_p rg rs lrg lrs _ (pg.out.own.sl Rw.len) (Rw.OwnN.deep pg.out) (ps.out.own.sl Rw.len) (Rw.OwnN.deep ps.out) (erg.out.trans ers.out.symm)).mono ?_
  rintro e w6 ⟨rfl, b6⟩
  replace ps := Lib.hid (ps.out.mono b6)
  replace qk0 := Lib.hid (qk0.out.mono b6)
  replace pg := Lib.hid (pg.out.mono b6)
  have S6 := b6.size
  have B6 := btrans B5 b6
  go_wp2_with fail
  refine (toEntryS_p _ l0 _ (h0.out.mono B6) (d0.out.mono B6) n0 t0.out).mono ?_
  rintro e w7 ⟨ce0, le0, rfl, qe0, ee0, b7⟩
  replace ps := Lib.hid (ps.out.mono b7)
  replace qk0 := Lib.hid (qk0.out.mono b7)
  replace pg := Lib.hid (pg.out.mono b7)
  have S7 := b7.size
  have B7 := btrans B6 b7
  replace ee0 := Lib.hid ee0
  replace qe0 := Lib.hid qe0.nown
  go_wp2_with fail
  refine (eqEntryS_p ck0 ce0 lk0 le0 _ (qk0.out.own.sl Ent.len) (Ent.OwnN.deep qk0.out) (qe0.out.own.sl Ent.len) (Ent.OwnN.deep qe0.out) (ek0.out.trans (Eq.symm ee0.out))).mono ?_
  rintro e w8 ⟨rfl, b8⟩
  replace ps := Lib.hid (ps.out.mono b8)
  replace qk0 := Lib.hid (qk0.out.mono b8)
  replace pg := Lib.hid (pg.out.mono b8)
  replace qe0 := Lib.hid (qe0.out.mono b8)
  have S8 := b8.size
  have B8 := btrans B7 b8
  go_wp2_with fail
  have lq0 := Ent.lnq ek0.out n0
  have lb0 := Ent.kb (k0 := 1) (Ent.lns ek0.out t0.out)
  refine (markEntryS_p ck0 lk0 (1) _ _ _ qk0.out (by omega) (Ent.lns ek0.out t0.out) (by omega) (by omega)).mono ?_
  rintro e w9 ⟨rfl, -, T9⟩
  generalize kAt Ent.nxt (1) lk0 lk0.length = kk0 at lb0 ⊢
  replace ps := Lib.hid (ps.out.turned T9 (by omega))
  replace pg := Lib.hid (pg.out.turned T9 (by omega))
  have S9 := T9.size
  have SB9 := B8.size
  have B9 := Below.turned B8 T9 (by omega) (by omega)
  go_wp2_with fail
  refine (eqIntSS_p rg rs lrg lrs _ (pg.out.own.sl Rw.len) (Rw.OwnN.deep pg.out) (ps.out.own.sl Rw.len) (Rw.OwnN.deep ps.out) (erg.out.trans ers.out.symm)).mono ?_
  rintro e w10 ⟨rfl, b10⟩
  replace ps := Lib.hid (ps.out.mono b10)
  replace pg := Lib.hid (pg.out.mono b10)
  have S10 := b10.size
  have B10 := btrans B9 b10
  go_wp2_with fail
  refine (markIntSS_p rg lrg 1 _ _ _ pg.out lng.1 lng.2 (by omega) (by omega)).mono ?_
  rintro e w11 ⟨rfl, pg', T11⟩
  replace ps := Lib.hid (ps.out.turned T11 (by omega))
  have S11 := T11.size
  have SB11 := B10.size
  have B11 := Below.turned B10 T11 (by omega) (by omega)
  replace pg := Lib.hid pg'
  clear pg'
  have kb := Rw.kb (k0 := 1) lng.2
  go_wp2_with fail
  refine (heldIntSS_p rg lrg 1 _ (pg.out.own.sl Rw.len) (Rw.OwnN.deep pg.out) lng.1 lng.2 (by omega) (by omega)).mono ?_
  rintro e w12 ⟨rfl, b12⟩
  replace ps := Lib.hid (ps.out.mono b12)
  replace pg := Lib.hid (pg.out.mono b12)
  have S12 := b12.size
  have B12 := btrans B11 b12
  go_wp2_with fail
  refine (toEntryS_p _ l0 _ (h0.out.mono B12) (d0.out.mono B12) n0 t0.out).mono ?_
  rintro e w13 ⟨cm0, lm0, rfl, qm0, em0, b13⟩
  replace ps := Lib.hid (ps.out.mono b13)
  replace pg := Lib.hid (pg.out.mono b13)
  have S13 := b13.size
  have B13 := btrans B12 b13
  replace em0 := Lib.hid em0
  replace qm0 := Lib.hid qm0.nown
  go_wp2_with fail
  have H := titleGroups_c cm0 lm0 _ (qm0.out.own.sl Ent.len) (Ent.OwnN.deep qm0.out) (Ent.fits em0.out f0.out)
  rw [(tg_same em0.out).1, (tg_same em0.out).2] at H
  replace H := Lib.hid H
  refine H.out.mono ?_
  rintro e w14 ⟨rh, lrh, rfl, ph, erh, b14⟩
  clear H
  replace ps := Lib.hid (ps.out.mono b14)
  replace pg := Lib.hid (pg.out.mono b14)
  replace qm0 := Lib.hid (qm0.out.mono b14)
  have S14 := b14.size
  have B14 := btrans B13 b14
  have lnh := Rw.lnB erh hBd
  replace erh := Lib.hid erh
  replace ph := Lib.hid ph
  go_wp2_with fail
  refine (eqIntSS_p rh rs lrh lrs _ (ph.out.own.sl Rw.len) (Rw.OwnN.deep ph.out) (ps.out.own.sl Rw.len) (Rw.OwnN.deep ps.out) (erh.out.trans ers.out.symm)).mono ?_
  rintro e w15 ⟨rfl, b15⟩
  replace ps := Lib.hid (ps.out.mono b15)
  replace pg := Lib.hid (pg.out.mono b15)
  replace qm0 := Lib.hid (qm0.out.mono b15)
  replace ph := Lib.hid (ph.out.mono b15)
  have S15 := b15.size
  have B15 := btrans B14 b15
  go_wp2_with fail
  refine (heldIntSS_p rg lrg 1 _ (pg.out.own.sl Rw.len) (Rw.OwnN.deep pg.out) lng.1 lng.2 (by omega) (by omega)).mono ?_
  rintro e w16 ⟨rfl, b16⟩
  replace ps := Lib.hid (ps.out.mono b16)
  replace pg := Lib.hid (pg.out.mono b16)
  replace qm0 := Lib.hid (qm0.out.mono b16)
  replace ph := Lib.hid (ph.out.mono b16)
  have S16 := b16.size
  have B16 := btrans B15 b16
  go_wp2_with fail
  go_ret
  exact ⟨rfl, B16⟩

set_option maxRecDepth 100000 in
theorem liftedTitleGroups (os : Os) (started : os.Started) (H : Type) (enc : TypeId × Value → H) :
    ReturnsInHanded {} Try.checked os 3 .any (Rows.fnExactTitleGroupsSpec.pre6 enc Try.prog Try.f3 Rows.fnExactTitleGroupsRow.domain false) (Rows.fnExactTitleGroupsSpec.post enc Try.prog Try.f3 false true false false) := by
  refine returnsInHanded_of_change (C := Try.checked) own started (by kernel_rfl) Try.func3
    (ChangeSpec.witness6 (enc := enc) (C := Try.checked) false ⟨#[], #[.slice none 0 0], []⟩ 8 (by kernel_rfl) (by kernel_rfl) (by kernel_rfl) (by kernel_rfl)) ?_
  intro W base args ds gs before hval0 hW _ _
  have hval : ∀ (j : Nat) t v, Try.f3.params[j]? = some t → args[j]? = some v → Value.okWide Try.prog W .any base t v := hval0
  have hW' := hW
  obtain ⟨p, q, hA0, hV, rfl, hfz, hnd⟩ := hW
  have hA : DataW.TrodAll enc Try.prog W 0 (fun _ => true) true Try.f3.params.toList args.toList ds p := hA0
  rw [Try.params3] at hA hval
  obtain ⟨v0, vs0, d0, ds0, p0, q0, hargs, rfl, rfl, h0, r0⟩ := trodAll_cons hA
  obtain ⟨rfl, rfl, rfl⟩ := trodAll_nil r0
  obtain rfl : args = #[v0] := by cases args; simp_all
  obtain ⟨rfl, rfl⟩ := trodVars_none hV
  obtain ⟨l0, s0, u0, f0⟩ := readEntryS h0 (hval 0 22 v0 rfl rfl)
  have hcall : Calls Try.prog 3 #[v0] W fun e w' => e = .returned (.bool true) ∧ Below W.heap.size W w' := by
    exact lawTitleGroups v0 l0 W s0 u0 f0
  refine hcall.mono fun e W' ⟨he, hb⟩ => ?_
  subst he
  exact ⟨_, rfl, post_below (pa := p0 ++ []) rfl Try.underlying4 hW' rfl rfl rfl (fun sp hsp => (trodAll_cons_mk (WideElems.Trod_stays laidOut (by kernel_rfl) (of_decide_eq_true (by kernel_rfl)) h0 (fun x hx => hb.same (hW'.lt x (by simp [hx]))) (fun x hx => hsp x (by simp [hx]))) trodAll_mk0)) (by simp) hb⟩

theorem holdsTitleGroups : Rows.FnExactTitleGroupsSaid :=
  OpenClaim.holds_of_wide 3 Try.f3 rfl rfl rfl rfl rfl rfl rfl ⟨rfl, rfl, rfl, rfl, rfl⟩ rfl rfl rfl rfl rfl (by kernel_rfl) Try.func3 (by kernel_rfl)
    (of_decide_eq_true (by kernel_rfl)) (by unfold Func.isWrapper; first | (rw [if_pos (by decide +kernel)]; kernel_rfl) | (rw [if_neg (by decide +kernel)]; exact ⟨rfl, rfl⟩))
    (fun os started H enc _ => liftedTitleGroups os started H enc)
end Go.Proofs.Yteainpflmofjaaa
