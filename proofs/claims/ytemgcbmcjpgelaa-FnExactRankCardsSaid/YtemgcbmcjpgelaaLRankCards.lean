/- The law FnExactRankCards holds: for every input it answers true, and each argument reads behind the call as before. No condition. -/
import Derived.Test.YtemgcbmcjpgelaaRs24
import Derived.Test.YtemgcbmcjpgelaaMark
import Derived.Test.YtemgcbmcjpgelaaNRead
namespace Go.Proofs.Ytemgcbmcjpgelaa
open Go.ChangeShapes Go.WideShapes Go.ChangeAt Go.RowKit
set_option maxHeartbeats 8000000 in
set_option maxRecDepth 100000 in
theorem lawRankCards (v0 : Value) (l0 : List Crd) (v1 : Value) (l1 : List ByteArray) (w : World) (h0 : Sl w Crd.enc 3 v0 l0) (d0 : Crd.Deep w l0) (f0 : ∀ i, i < l0.length → (gd l0 i).Fits) (h1 : Sl w StrE.enc 1 v1 l1) (f1 : StrE.Fits l1) : Calls Try.prog 10 #[v0, v1] w fun e w' => e = .returned (.bool true) ∧ Below w.heap.size w w' := by
  have h0s := h0
  obtain ⟨a0, cap0, b0, o0, rfl, hk0, hm0, _⟩ := h0s
  replace f0 := Lib.hid f0
  replace d0 := Lib.hid d0
  replace h0 := Lib.hid h0
  have h1s := h1
  obtain ⟨a1, cap1, b1, o1, rfl, hk1, hm1, _⟩ := h1s
  replace f1 := Lib.hid f1
  replace h1 := Lib.hid h1
  go_enter Try.func10, Try.ntmps10
  go_wp2_with fail
  refine (szCardS_p _ l0 1048576 _ (h0.out.mono (Below.refl _ _)) (d0.out.mono (Below.refl _ _)) f0.out (by omega) (by omega)).mono ?_
  rintro e w1 ⟨b1, r0, rfl, hr0⟩
  have S1 := b1.size
  have B1 := b1
  replace hr0 := Lib.hid hr0
  by_cases hz0 : r0 < 0
  · go_wp2_with fail
    go_ret
    exact ⟨rfl, B1⟩
  obtain ⟨hp0, hq0, hS0⟩ : 0 ≤ r0 ∧ r0 ≤ 1048576 ∧ (l0.length ≤ 1048576 ∧ ∀ i, i < l0.length → (gd l0 i).Short) := by
    rcases hr0.out with e | h2
    · omega
    · exact h2
  have n0 : l0.length ≤ 1048576 := hS0.1
  have t0 := Lib.hid (fun i (hi : i < l0.length) => (hS0.2 i hi).1)
  clear hS0
  go_wp2_with fail
  refine (szStringS_p _ l1 r0 _ (h1.out.mono B1) f1.out (by omega) (by omega)).mono ?_
  rintro e w2 ⟨b2, r1, rfl, hr1⟩
  have S2 := b2.size
  have B2 := btrans B1 b2
  replace hr1 := Lib.hid hr1
  by_cases hz1 : r1 < 0
  · go_wp2_with fail
    go_ret
    exact ⟨rfl, B2⟩
  obtain ⟨hp1, hq1, hS1⟩ : 0 ≤ r1 ∧ r1 ≤ r0 ∧ StrE.Short l1 := by
    rcases hr1.out with e | h2
    · omega
    · exact h2
  have n1 : l1.length ≤ 1048576 := hS1.1
  clear hS1
  go_wp2_with fail
  refine (toCardS_p _ l0 _ (h0.out.mono B2) (d0.out.mono B2) n0 t0.out).mono ?_
  rintro e w3 ⟨cs0, ls0, rfl, qs0, es0, b3⟩
  have S3 := b3.size
  have B3 := btrans B2 b3
  replace es0 := Lib.hid es0
  replace qs0 := Lib.hid qs0.nown
  go_wp2_with fail
  refine (toStringS_c _ l1 _ (h1.out.mono B3) n1).mono ?_
  rintro e w4 ⟨cs1, rfl, qs1, b4⟩
  replace qs0 := Lib.hid (qs0.out.mono b4)
  have S4 := b4.size
  have B4 := btrans B3 b4
  have zqs1 := qs1.bounds
  replace qs1 := Lib.hid qs1
  go_wp2_with fail
  have H := specRankCards_c cs0 cs1 ls0 l1 _ (qs0.out.own.sl Crd.len) (Crd.OwnN.deep qs0.out) (fun i hi => (Crd.fits es0.out f0.out) i hi) (qs1.out.sl StrE.len) f1.out
  rw [(rk_same es0.out _).1, (rk_same es0.out _).2] at H
  replace H := Lib.hid H
  refine H.out.mono ?_
  rintro e w5 ⟨rs, rfl, ps, b5⟩
  clear H
  replace qs0 := Lib.hid (qs0.out.mono b5)
  replace qs1 := Lib.hid (qs1.out.mono b5)
  have S5 := b5.size
  have B5 := btrans B4 b5
  have zps := ps.bounds
  replace ps := Lib.hid ps
  go_wp2_with fail
  refine (toCardS_p _ l0 _ (h0.out.mono B5) (d0.out.mono B5) n0 t0.out).mono ?_
  rintro e w6 ⟨ck0, lk0, rfl, qk0, ek0, b6⟩
  replace ps := Lib.hid (ps.out.mono b6)
  have S6 := b6.size
  have B6 := btrans B5 b6
  replace ek0 := Lib.hid ek0
  replace qk0 := Lib.hid qk0.nown
  go_wp2_with fail
  refine (toStringS_c _ l1 _ (h1.out.mono B6) n1).mono ?_
  rintro e w7 ⟨ck1, rfl, qk1, b7⟩
  replace ps := Lib.hid (ps.out.mono b7)
  replace qk0 := Lib.hid (qk0.out.mono b7)
  have S7 := b7.size
  have B7 := btrans B6 b7
  have zqk1 := qk1.bounds
  replace qk1 := Lib.hid qk1
  go_wp2_with fail
  have H := rankCards_c ck0 ck1 lk0 l1 _ (qk0.out.own.sl Crd.len) (Crd.OwnN.deep qk0.out) (fun i hi => (Crd.fits ek0.out f0.out) i hi) (qk1.out.sl StrE.len) f1.out
  rw [(rk_same ek0.out _).1, (rk_same ek0.out _).2] at H
  replace H := Lib.hid H
  refine H.out.mono ?_
  rintro e w8 ⟨rg, rfl, pg, b8⟩
  clear H
  replace ps := Lib.hid (ps.out.mono b8)
  replace qk0 := Lib.hid (qk0.out.mono b8)
  replace qk1 := Lib.hid (qk1.out.mono b8)
  have S8 := b8.size
  have B8 := btrans B7 b8
  have zpg := pg.bounds
  replace pg := Lib.hid pg
  go_wp2_with fail
  refine (eqIntS_c rg rs _ _ (pg.out.sl IntE.len) (ps.out.sl IntE.len)).mono ?_
  rintro e w9 ⟨rfl, b9⟩
  replace ps := Lib.hid (ps.out.mono b9)
  replace qk0 := Lib.hid (qk0.out.mono b9)
  replace qk1 := Lib.hid (qk1.out.mono b9)
  replace pg := Lib.hid (pg.out.mono b9)
  have S9 := b9.size
  have B9 := btrans B8 b9
  go_wp2_with fail
  refine (toCardS_p _ l0 _ (h0.out.mono B9) (d0.out.mono B9) n0 t0.out).mono ?_
  rintro e w10 ⟨ce0, le0, rfl, qe0, ee0, b10⟩
  replace ps := Lib.hid (ps.out.mono b10)
  replace qk0 := Lib.hid (qk0.out.mono b10)
  replace qk1 := Lib.hid (qk1.out.mono b10)
  replace pg := Lib.hid (pg.out.mono b10)
  have S10 := b10.size
  have B10 := btrans B9 b10
  replace ee0 := Lib.hid ee0
  replace qe0 := Lib.hid qe0.nown
  go_wp2_with fail
  refine (eqCardS_p ck0 ce0 lk0 le0 _ (qk0.out.own.sl Crd.len) (Crd.OwnN.deep qk0.out) (qe0.out.own.sl Crd.len) (Crd.OwnN.deep qe0.out) (ek0.out.trans (Eq.symm ee0.out))).mono ?_
  rintro e w11 ⟨rfl, b11⟩
  replace ps := Lib.hid (ps.out.mono b11)
  replace qk0 := Lib.hid (qk0.out.mono b11)
  replace qk1 := Lib.hid (qk1.out.mono b11)
  replace pg := Lib.hid (pg.out.mono b11)
  replace qe0 := Lib.hid (qe0.out.mono b11)
  have S11 := b11.size
  have B11 := btrans B10 b11
  go_wp2_with fail
  refine (toStringS_c _ l1 _ (h1.out.mono B11) n1).mono ?_
  rintro e w12 ⟨ce1, rfl, qe1, b12⟩
  replace ps := Lib.hid (ps.out.mono b12)
  replace qk0 := Lib.hid (qk0.out.mono b12)
  replace qk1 := Lib.hid (qk1.out.mono b12)
  replace pg := Lib.hid (pg.out.mono b12)
  have S12 := b12.size
  have B12 := btrans B11 b12
  have zqe1 := qe1.bounds
  replace qe1 := Lib.hid qe1
  go_wp2_with fail
  refine (eqStringS_c ck1 ce1 l1 _ (qk1.out.sl StrE.len) (qe1.out.sl StrE.len)).mono ?_
  rintro e w13 ⟨rfl, b13⟩
  replace ps := Lib.hid (ps.out.mono b13)
  replace qk0 := Lib.hid (qk0.out.mono b13)
  replace qk1 := Lib.hid (qk1.out.mono b13)
  replace pg := Lib.hid (pg.out.mono b13)
  replace qe1 := Lib.hid (qe1.out.mono b13)
  have S13 := b13.size
  have B13 := btrans B12 b13
  go_wp2_with fail
  have lq0 := Crd.lnq ek0.out n0
  have lb0 := Crd.kb (k0 := 1) (Crd.lns ek0.out t0.out)
  refine (markCardS_p ck0 lk0 (1) _ _ _ qk0.out (by omega) (Crd.lns ek0.out t0.out) (by omega) (by omega)).mono ?_
  rintro e w14 ⟨rfl, -, T14⟩
  generalize kAt Crd.nxt (1) lk0 lk0.length = kk0 at lb0 ⊢
  replace ps := Lib.hid (ps.out.turned T14 (fun g hg => by have := zps g hg; omega))
  replace qk1 := Lib.hid (qk1.out.turned T14 (fun g hg => by have := zqk1 g hg; omega))
  replace pg := Lib.hid (pg.out.turned T14 (fun g hg => by have := zpg g hg; omega))
  have S14 := T14.size
  have SB14 := B13.size
  have B14 := Below.turned B13 T14 (by omega) (by omega)
  go_wp2_with fail
  refine (markStringS_c ck1 l1 (kk0) _ _ qk1.out (by omega) (by omega) (by omega)).mono ?_
  rintro e w15 ⟨rfl, -, G15⟩
  have T15 := Turned.of_grown G15 zqk1
  replace ps := Lib.hid (ps.out.turned T15 (fun g hg => by have := zps g hg; omega))
  replace pg := Lib.hid (pg.out.turned T15 (fun g hg => by have := zpg g hg; omega))
  have S15 := T15.size
  have SB15 := B14.size
  have B15 := Below.turned B14 T15 (by omega) (by omega)
  go_wp2_with fail
  refine (eqIntS_c rg rs _ _ (pg.out.sl IntE.len) (ps.out.sl IntE.len)).mono ?_
  rintro e w16 ⟨rfl, b16⟩
  replace ps := Lib.hid (ps.out.mono b16)
  replace pg := Lib.hid (pg.out.mono b16)
  have S16 := b16.size
  have B16 := btrans B15 b16
  have hlen : (rkL l0 l1).length ≤ 10000000 := by have := rkL_len l0 l1; omega
  go_wp2_with fail
  refine (markIntS_c rg _ 1 _ _ pg.out hlen (by omega) (by omega)).mono ?_
  rintro e w17 ⟨rfl, pg', G17⟩
  have T17 := Turned.of_grown G17 zpg
  replace ps := Lib.hid (ps.out.turned T17 (fun g hg => by have := zps g hg; omega))
  have S17 := T17.size
  have SB17 := B16.size
  have B17 := Below.turned B16 T17 (by omega) (by omega)
  replace pg := Lib.hid pg'
  clear pg'
  go_wp2_with fail
  refine (heldIntS_c rg _ 1 _ (pg.out.sl IntE.len) hlen (by omega) (by omega)).mono ?_
  rintro e wh ⟨rfl, eh⟩
  subst eh
  go_wp2_with fail
  refine (toCardS_p _ l0 _ (h0.out.mono B17) (d0.out.mono B17) n0 t0.out).mono ?_
  rintro e w18 ⟨cm0, lm0, rfl, qm0, em0, b18⟩
  replace ps := Lib.hid (ps.out.mono b18)
  replace pg := Lib.hid (pg.out.mono b18)
  have S18 := b18.size
  have B18 := btrans B17 b18
  replace em0 := Lib.hid em0
  replace qm0 := Lib.hid qm0.nown
  go_wp2_with fail
  refine (toStringS_c _ l1 _ (h1.out.mono B18) n1).mono ?_
  rintro e w19 ⟨cm1, rfl, qm1, b19⟩
  replace ps := Lib.hid (ps.out.mono b19)
  replace pg := Lib.hid (pg.out.mono b19)
  replace qm0 := Lib.hid (qm0.out.mono b19)
  have S19 := b19.size
  have B19 := btrans B18 b19
  have zqm1 := qm1.bounds
  replace qm1 := Lib.hid qm1
  go_wp2_with fail
  have H := rankCards_c cm0 cm1 lm0 l1 _ (qm0.out.own.sl Crd.len) (Crd.OwnN.deep qm0.out) (fun i hi => (Crd.fits em0.out f0.out) i hi) (qm1.out.sl StrE.len) f1.out
  rw [(rk_same em0.out _).1, (rk_same em0.out _).2] at H
  replace H := Lib.hid H
  refine H.out.mono ?_
  rintro e w20 ⟨rh, rfl, ph, b20⟩
  clear H
  replace ps := Lib.hid (ps.out.mono b20)
  replace pg := Lib.hid (pg.out.mono b20)
  replace qm0 := Lib.hid (qm0.out.mono b20)
  replace qm1 := Lib.hid (qm1.out.mono b20)
  have S20 := b20.size
  have B20 := btrans B19 b20
  have zph := ph.bounds
  replace ph := Lib.hid ph
  go_wp2_with fail
  refine (eqIntS_c rh rs _ _ (ph.out.sl IntE.len) (ps.out.sl IntE.len)).mono ?_
  rintro e w21 ⟨rfl, b21⟩
  replace ps := Lib.hid (ps.out.mono b21)
  replace pg := Lib.hid (pg.out.mono b21)
  replace qm0 := Lib.hid (qm0.out.mono b21)
  replace qm1 := Lib.hid (qm1.out.mono b21)
  replace ph := Lib.hid (ph.out.mono b21)
  have S21 := b21.size
  have B21 := btrans B20 b21
  go_wp2_with fail
  refine (heldIntS_c rg _ 1 _ (pg.out.sl IntE.len) hlen (by omega) (by omega)).mono ?_
  rintro e wh ⟨rfl, eh⟩
  subst eh
  go_wp2_with fail
  go_ret
  exact ⟨rfl, B21⟩

set_option maxRecDepth 100000 in
theorem liftedRankCards (os : Os) (started : os.Started) (H : Type) (enc : TypeId × Value → H) :
    ReturnsInHanded {} Try.checked os 10 .any (Rows.fnExactRankCardsSpec.pre6 enc Try.prog Try.f10 Rows.fnExactRankCardsRow.domain false) (Rows.fnExactRankCardsSpec.post enc Try.prog Try.f10 false true false false) := by
  refine returnsInHanded_of_change (C := Try.checked) own started (by kernel_rfl) Try.func10
    (ChangeSpec.witness6 (enc := enc) (C := Try.checked) false ⟨#[], #[.slice none 0 0, .slice none 0 0], []⟩ 8 (by kernel_rfl) (by kernel_rfl) (by kernel_rfl) (by kernel_rfl)) ?_
  intro W base args ds gs before hval0 hW _ _
  have hval : ∀ (j : Nat) t v, Try.f10.params[j]? = some t → args[j]? = some v → Value.okWide Try.prog W .any base t v := hval0
  have hW' := hW
  obtain ⟨p, q, hA0, hV, rfl, hfz, hnd⟩ := hW
  have hA : DataW.TrodAll enc Try.prog W 0 (fun _ => true) true Try.f10.params.toList args.toList ds p := hA0
  rw [Try.params10] at hA hval
  obtain ⟨v0, vs0, d0, ds0, p0, q0, hargs, rfl, rfl, h0, r0⟩ := trodAll_cons hA
  obtain ⟨v1, vs1, d1, ds1, p1, q1, rfl, rfl, rfl, h1, r1⟩ := trodAll_cons r0
  obtain ⟨rfl, rfl, rfl⟩ := trodAll_nil r1
  obtain rfl : args = #[v0, v1] := by cases args; simp_all
  obtain ⟨rfl, rfl⟩ := trodVars_none hV
  obtain ⟨l0, s0, u0, f0⟩ := readCardS h0 (hval 0 31 v0 rfl rfl)
  obtain ⟨l1, s1, f1⟩ := readStringS h1 (hval 1 22 v1 rfl rfl)
  have hcall : Calls Try.prog 10 #[v0, v1] W fun e w' => e = .returned (.bool true) ∧ Below W.heap.size W w' := by
    exact lawRankCards v0 l0 v1 l1 W s0 u0 f0 s1 f1
  refine hcall.mono fun e W' ⟨he, hb⟩ => ?_
  subst he
  exact ⟨_, rfl, post_below (pa := p0 ++ (p1 ++ [])) rfl Try.underlying4 hW' rfl rfl rfl (fun sp hsp => (trodAll_cons_mk (WideElems.Trod_stays laidOut (by kernel_rfl) (of_decide_eq_true (by kernel_rfl)) h0 (fun x hx => hb.same (hW'.lt x (by simp [hx]))) (fun x hx => hsp x (by simp [hx]))) (trodAll_cons_mk (WideElems.Trod_stays laidOut (by kernel_rfl) (of_decide_eq_true (by kernel_rfl)) h1 (fun x hx => hb.same (hW'.lt x (by simp [hx]))) (fun x hx => hsp x (by simp [hx]))) trodAll_mk0))) (by simp) hb⟩

theorem holdsRankCards : Rows.FnExactRankCardsSaid :=
  OpenClaim.holds_of_wide 10 Try.f10 rfl rfl rfl rfl rfl rfl rfl ⟨rfl, rfl, rfl, rfl, rfl⟩ rfl rfl rfl rfl rfl (by kernel_rfl) Try.func10 (by kernel_rfl)
    (of_decide_eq_true (by kernel_rfl)) (by unfold Func.isWrapper; first | (rw [if_pos (by decide +kernel)]; kernel_rfl) | (rw [if_neg (by decide +kernel)]; exact ⟨rfl, rfl⟩))
    (fun os started H enc _ => liftedRankCards os started H enc)
end Go.Proofs.Ytemgcbmcjpgelaa
