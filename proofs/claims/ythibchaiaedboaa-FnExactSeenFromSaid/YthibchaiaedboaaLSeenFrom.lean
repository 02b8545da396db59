/- The law FnExactSeenFrom holds: for every input it answers true, and each argument reads behind the call as before. No condition. -/
import Derived.Test.YthibchaiaedboaaSm23
import Derived.Test.YthibchaiaedboaaMark
import Derived.Test.YthibchaiaedboaaNRead
namespace Go.Proofs.Ythibchaiaedboaa
open Go.ChangeShapes Go.WideShapes Go.ChangeAt Go.RowKit
set_option maxHeartbeats 8000000 in
set_option maxRecDepth 100000 in
theorem lawSeenFrom (v0 : Value) (l0 : List Hdg) (i1 : Int) (i2 : Int) (w : World) (h0 : Sl w Hdg.enc 4 v0 l0) (d0 : Hdg.Deep w l0) (f0 : ∀ i, i < l0.length → (gd l0 i).Fits) : Calls Try.prog 8 #[v0, .int .i64 i1, .int .i64 i2] w fun e w' => e = .returned (.bool true) ∧ Below w.heap.size w w' := by
  have h0s := h0
  obtain ⟨a0, cap0, b0, o0, rfl, hk0, hm0, _⟩ := h0s
  replace f0 := Lib.hid f0
  replace d0 := Lib.hid d0
  replace h0 := Lib.hid h0
  go_enter Try.func8, Try.ntmps8
  go_wp2_with fail
  refine (szHeadingS_p _ l0 1048576 _ (h0.out.mono (Below.refl _ _)) (d0.out.mono (Below.refl _ _)) f0.out (by omega) (by omega)).mono ?_
  rintro e w1 ⟨b1, r0, rfl, hr0⟩
  have S1 := b1.size
  have B1 := b1
  replace hr0 := Lib.hid hr0
  by_cases hz0 : r0 < 0
  · go_wp2_with fail
    go_ret
    exact ⟨rfl, B1⟩
  obtain ⟨hp0, hq0, hS0⟩ : 0 ≤ r0 ∧ r0 ≤ 1048576 ∧ (l0.length ≤ 1048576 ∧ ∀ i, i < l0.length → (gd l0 i).Short) := by
    rcases hr0.out with e | h2
    · omega
    · exact h2
  have n0 : l0.length ≤ 1048576 := hS0.1
  have t0 := Lib.hid (fun i (hi : i < l0.length) => (hS0.2 i hi).2)
  clear hS0
  go_wp2_with fail
  refine (toHeadingS_p _ l0 _ (h0.out.mono B1) (d0.out.mono B1) n0 t0.out).mono ?_
  rintro e w2 ⟨cs0, ls0, rfl, qs0, es0, b2⟩
  have S2 := b2.size
  have B2 := btrans B1 b2
  replace es0 := Lib.hid es0
  replace qs0 := Lib.hid qs0.nown
  go_wp2_with fail
  have H := specSeenFrom_c cs0 ls0 i1 i2 _ (qs0.out.own.sl Hdg.len) (Hdg.OwnN.deep qs0.out) (Hdg.fits es0.out f0.out)
  rw [(sn_bare es0.out _ _).1, (sn_bare es0.out _ _).2] at H
  replace H := Lib.hid H
  refine H.out.mono ?_
  rintro e w3 ⟨rs, rfl, ps, b3⟩
  clear H
  replace qs0 := Lib.hid (qs0.out.mono b3)
  have S3 := b3.size
  have B3 := btrans B2 b3
  have zps := ps.bounds
  replace ps := Lib.hid ps
  go_wp2_with fail
  refine (toHeadingS_p _ l0 _ (h0.out.mono B3) (d0.out.mono B3) n0 t0.out).mono ?_
  rintro e w4 ⟨ck0, lk0, rfl, qk0, ek0, b4⟩
  replace ps := Lib.hid (ps.out.mono b4)
  have S4 := b4.size
  have B4 := btrans B3 b4
  replace ek0 := Lib.hid ek0
  replace qk0 := Lib.hid qk0.nown
  go_wp2_with fail
  have H := seenFrom_c ck0 lk0 i1 i2 _ (qk0.out.own.sl Hdg.len) (Hdg.OwnN.deep qk0.out) (Hdg.fits ek0.out f0.out)
  rw [(sn_bare ek0.out _ _).1, (sn_bare ek0.out _ _).2] at H
  replace H := Lib.hid H
  refine H.out.mono ?_
  rintro e w5 ⟨rg, rfl, pg, b5⟩
  clear H
  replace ps := Lib.hid (ps.out.mono b5)
  replace qk0 := Lib.hid (qk0.out.mono b5)
  have S5 := b5.size
  have B5 := btrans B4 b5
  have zpg := pg.bounds
  replace pg := Lib.hid pg
  go_wp2_with fail
  refine (eqIntS_c rg rs _ _ (pg.out.sl IntE.len) (ps.out.sl IntE.len)).mono ?_
  rintro e w6 ⟨rfl, b6⟩
  replace ps := Lib.hid (ps.out.mono b6)
  replace qk0 := Lib.hid (qk0.out.mono b6)
  replace pg := Lib.hid (pg.out.mono b6)
  have S6 := b6.size
  have B6 := btrans B5 b6
  go_wp2_with fail
  refine (toHeadingS_p _ l0 _ (h0.out.mono B6) (d0.out.mono B6) n0 t0.out).mono ?_
  rintro e w7 ⟨ce0, le0, rfl, qe0, ee0, b7⟩
  replace ps := Lib.hid (ps.out.mono b7)
  replace qk0 := Lib.hid (qk0.out.mono b7)
  replace pg := Lib.hid (pg.out.mono b7)
  have S7 := b7.size
  have B7 := btrans B6 b7
  replace ee0 := Lib.hid ee0
  replace qe0 := Lib.hid qe0.nown
  go_wp2_with fail
  refine (eqHeadingS_p ck0 ce0 lk0 le0 _ (qk0.out.own.sl Hdg.len) (Hdg.OwnN.deep qk0.out) (qe0.out.own.sl Hdg.len) (Hdg.OwnN.deep qe0.out) (ek0.out.trans (Eq.symm ee0.out))).mono ?_
  rintro e w8 ⟨rfl, b8⟩
  replace ps := Lib.hid (ps.out.mono b8)
  replace qk0 := Lib.hid (qk0.out.mono b8)
  replace pg := Lib.hid (pg.out.mono b8)
  replace qe0 := Lib.hid (qe0.out.mono b8)
  have S8 := b8.size
  have B8 := btrans B7 b8
  go_wp2_with fail
  have lq0 := Hdg.lnq ek0.out n0
  have lb0 := Hdg.kb (k0 := 1) (Hdg.lns ek0.out t0.out)
  refine (markHeadingS_p ck0 lk0 (1) _ _ _ qk0.out (by omega) (Hdg.lns ek0.out t0.out) (by omega) (by omega)).mono ?_
  rintro e w9 ⟨rfl, -, T9⟩
  generalize kAt Hdg.nxt (1) lk0 lk0.length = kk0 at lb0 ⊢
  replace ps := Lib.hid (ps.out.turned T9 (fun g hg => by have := zps g hg; omega))
  replace pg := Lib.hid (pg.out.turned T9 (fun g hg => by have := zpg g hg; omega))
  have S9 := T9.size
  have SB9 := B8.size
  have B9 := Below.turned B8 T9 (by omega) (by omega)
  go_wp2_with fail
  refine (eqIntS_c rg rs _ _ (pg.out.sl IntE.len) (ps.out.sl IntE.len)).mono ?_
  rintro e w10 ⟨rfl, b10⟩
  replace ps := Lib.hid (ps.out.mono b10)
  replace pg := Lib.hid (pg.out.mono b10)
  have S10 := b10.size
  have B10 := btrans B9 b10
  have hlen : (snR l0 i1 i2).length ≤ 10000000 := by have := snR_len l0 i1 i2; omega
  go_wp2_with fail
  refine (markTail_c rg _ 1 _ _ pg.out hlen (by omega) (by omega)).mono ?_
  rintro e w11 ⟨rfl, pg', G11⟩
  have T11 := Turned.of_grown G11 zpg
  replace ps := Lib.hid (ps.out.turned T11 (fun g hg => by have := zps g hg; omega))
  have S11 := T11.size
  have SB11 := B10.size
  have B11 := Below.turned B10 T11 (by omega) (by omega)
  replace pg := Lib.hid pg'
  clear pg'
  go_wp2_with fail
  refine (heldIntS_c rg _ 1 _ (pg.out.sl IntE.len) hlen (by omega) (by omega)).mono ?_
  rintro e wh ⟨rfl, eh⟩
  subst eh
  go_wp2_with fail
  refine (toHeadingS_p _ l0 _ (h0.out.mono B11) (d0.out.mono B11) n0 t0.out).mono ?_
  rintro e w12 ⟨cm0, lm0, rfl, qm0, em0, b12⟩
  replace ps := Lib.hid (ps.out.mono b12)
  replace pg := Lib.hid (pg.out.mono b12)
  have S12 := b12.size
  have B12 := btrans B11 b12
  replace em0 := Lib.hid em0
  replace qm0 := Lib.hid qm0.nown
  go_wp2_with fail
  have H := seenFrom_c cm0 lm0 i1 i2 _ (qm0.out.own.sl Hdg.len) (Hdg.OwnN.deep qm0.out) (Hdg.fits em0.out f0.out)
  rw [(sn_bare em0.out _ _).1, (sn_bare em0.out _ _).2] at H
  replace H := Lib.hid H
  refine H.out.mono ?_
  rintro e w13 ⟨rh, rfl, ph, b13⟩
  clear H
  replace ps := Lib.hid (ps.out.mono b13)
  replace pg := Lib.hid (pg.out.mono b13)
  replace qm0 := Lib.hid (qm0.out.mono b13)
  have S13 := b13.size
  have B13 := btrans B12 b13
  have zph := ph.bounds
  replace ph := Lib.hid ph
  go_wp2_with fail
  refine (eqIntS_c rh rs _ _ (ph.out.sl IntE.len) (ps.out.sl IntE.len)).mono ?_
  rintro e w14 ⟨rfl, b14⟩
  replace ps := Lib.hid (ps.out.mono b14)
  replace pg := Lib.hid (pg.out.mono b14)
  replace qm0 := Lib.hid (qm0.out.mono b14)
  replace ph := Lib.hid (ph.out.mono b14)
  have S14 := b14.size
  have B14 := btrans B13 b14
  go_wp2_with fail
  refine (heldIntS_c rg _ 1 _ (pg.out.sl IntE.len) hlen (by omega) (by omega)).mono ?_
  rintro e wh ⟨rfl, eh⟩
  subst eh
  go_wp2_with fail
  go_ret
  exact ⟨rfl, B14⟩

set_option maxRecDepth 100000 in
theorem liftedSeenFrom (os : Os) (started : os.Started) (H : Type) (enc : TypeId × Value → H) :
    ReturnsInHanded {} Try.checked os 8 .any (Rows.fnExactSeenFromSpec.pre6 enc Try.prog Try.f8 Rows.fnExactSeenFromRow.domain false) (Rows.fnExactSeenFromSpec.post enc Try.prog Try.f8 false true false false) := by
  refine returnsInHanded_of_change (C := Try.checked) own started (by kernel_rfl) Try.func8
    (ChangeSpec.witness6 (enc := enc) (C := Try.checked) false ⟨#[], #[.slice none 0 0, .int .i64 0, .int .i64 0], []⟩ 8 (by kernel_rfl) (by kernel_rfl) (by kernel_rfl) (by kernel_rfl)) ?_
  intro W base args ds gs before hval0 hW _ _
  have hval : ∀ (j : Nat) t v, Try.f8.params[j]? = some t → args[j]? = some v → Value.okWide Try.prog W .any base t v := hval0
  have hW' := hW
  obtain ⟨p, q, hA0, hV, rfl, hfz, hnd⟩ := hW
  have hA : DataW.TrodAll enc Try.prog W 0 (fun _ => true) true Try.f8.params.toList args.toList ds p := hA0
  rw [Try.params8] at hA hval
  obtain ⟨v0, vs0, d0, ds0, p0, q0, hargs, rfl, rfl, h0, r0⟩ := trodAll_cons hA
  obtain ⟨v1, vs1, d1, ds1, p1, q1, rfl, rfl, rfl, h1, r1⟩ := trodAll_cons r0
  obtain ⟨v2, vs2, d2, ds2, p2, q2, rfl, rfl, rfl, h2, r2⟩ := trodAll_cons r1
  obtain ⟨rfl, rfl, rfl⟩ := trodAll_nil r2
  obtain rfl : args = #[v0, v1, v2] := by cases args; simp_all
  obtain ⟨rfl, rfl⟩ := trodVars_none hV
  obtain ⟨l0, s0, u0, f0⟩ := readHeadingS h0 (hval 0 75 v0 rfl rfl)
  obtain ⟨i1, e1, _, _⟩ := readInt h1 (hval 1 3 v1 rfl rfl)
  obtain ⟨i2, e2, _, _⟩ := readInt h2 (hval 2 3 v2 rfl rfl)
  have hcall : Calls Try.prog 8 #[v0, v1, v2] W fun e w' => e = .returned (.bool true) ∧ Below W.heap.size W w' := by
    rw [e1, e2]
    exact lawSeenFrom v0 l0 i1 i2 W s0 u0 f0
  refine hcall.mono fun e W' ⟨he, hb⟩ => ?_
  subst he
  exact ⟨_, rfl, post_below (pa := p0 ++ (p1 ++ (p2 ++ []))) rfl Try.underlying4 hW' rfl rfl rfl (fun sp hsp => (trodAll_cons_mk (WideElems.Trod_stays laidOut (by kernel_rfl) (of_decide_eq_true (by kernel_rfl)) h0 (fun x hx => hb.same (hW'.lt x (by simp [hx]))) (fun x hx => hsp x (by simp [hx]))) (trodAll_cons_mk (WideElems.Trod_stays laidOut (by kernel_rfl) (of_decide_eq_true (by kernel_rfl)) h1 (fun x hx => hb.same (hW'.lt x (by simp [hx]))) (fun x hx => hsp x (by simp [hx]))) (trodAll_cons_mk (WideElems.Trod_stays laidOut (by kernel_rfl) (of_decide_eq_true (by kernel_rfl)) h2 (fun x hx => hb.same (hW'.lt x (by simp [hx]))) (fun x hx => hsp x (by simp [hx]))) trodAll_mk0)))) (by simp) hb⟩

theorem holdsSeenFrom : Rows.FnExactSeenFromSaid :=
  OpenClaim.holds_of_wide 8 Try.f8 rfl rfl rfl rfl rfl rfl rfl ⟨rfl, rfl, rfl, rfl, rfl⟩ rfl rfl rfl rfl rfl (by kernel_rfl) Try.func8 (by kernel_rfl)
    (of_decide_eq_true (by kernel_rfl)) (by unfold Func.isWrapper; first | (rw [if_pos (by decide +kernel)]; kernel_rfl) | (rw [if_neg (by decide +kernel)]; exact ⟨rfl, rfl⟩))
    (fun os started H enc _ => liftedSeenFrom os started H enc)
end Go.Proofs.Ythibchaiaedboaa
