/- The law FnExactTrueSheets holds: for every input it answers true, and each argument reads behind the call as before. No condition. -/
import Derived.Test.YtcnbmephffphgaaNt20
import Derived.Test.YtcnbmephffphgaaPrs
import Derived.Test.YtcnbmephffphgaaRead
namespace Go.Proofs.Ytcnbmephffphgaa
open Go.ChangeShapes Go.WideShapes Go.ChangeAt Go.RowKit
set_option maxHeartbeats 4000000 in
theorem lawTrueSheets (v0 : Value) (l0 : List Iss) (i1 : Int) (w : World) (h0 : Sl w Iss.enc 4 v0 l0) : Calls Try.prog 7 #[v0, .int .i64 i1] w fun e w' => e = .returned (.bool true) ∧ Below w.heap.size w w' := by
  have h0s := h0
  obtain ⟨a0, cap0, b0, o0, rfl, hk0, hm0, _⟩ := h0s
  have Z0 := Lib.hid (szIssueS_c a0 l0.length cap0 1048576 w (Nat.le_trans hk0 hm0) (by omega) (by omega))
  rcases szN_or 1048576 l0.length with e | ⟨hp0, hq0, hr0⟩
  · rw [e] at Z0
    clear e
    go_enter Try.func7, Try.ntmps7
    go_wp2_with fail
    refine Z0.out.mono ?_
    rintro e w' ⟨rfl, rfl⟩
    go_wp2_with fail
    go_ret
    exact ⟨rfl, Below.refl _ _⟩
  generalize szN 1048576 l0.length = r0 at Z0 hp0 hq0
  go_enter Try.func7, Try.ntmps7
  go_wp2_with fail
  refine Z0.out.mono ?_
  rintro e w' ⟨rfl, rfl⟩
  go_wp2_with fail
  refine (toIssueS_c _ l0 _ h0 (by omega)).mono ?_
  rintro e w1 ⟨cs0, rfl, qs0, b1⟩
  have S1 := b1.size
  have B1 := b1
  have dcs0 := qs0.bounds
  go_wp2_with fail
  refine (specTrueSheets_c cs0 l0 i1 _ (qs0.sl Iss.len)).mono ?_
  rintro e w2 ⟨rs0, rfl, ps0, b2⟩
  have qs0 := qs0.mono b2
  have S2 := b2.size
  have B2 := btrans B1 b2
  have drs0 := ps0.bounds
  go_wp2_with fail
  refine (toIssueS_c _ l0 _ (h0.mono B2) (by omega)).mono ?_
  rintro e w3 ⟨ck0, rfl, qk0, b3⟩
  have qs0 := qs0.mono b3
  have ps0 := ps0.mono b3
  have S3 := b3.size
  have B3 := btrans B2 b3
  have dck0 := qk0.bounds
  go_wp2_with fail
  refine (trueSheets_c ck0 l0 i1 _ (qk0.sl Iss.len)).mono ?_
  rintro e w4 ⟨rg0, rfl, pg0, b4⟩
  have qs0 := qs0.mono b4
  have ps0 := ps0.mono b4
  have qk0 := qk0.mono b4
  have S4 := b4.size
  have B4 := btrans B3 b4
  have drg0 := pg0.bounds
  go_wp2_with fail
  refine (eqIntA2S_c rg0 rs0 _ _ (pg0.sl PrE.len) (ps0.sl PrE.len)).mono ?_
  rintro e w5 ⟨rfl, b5⟩
  have qs0 := qs0.mono b5
  have ps0 := ps0.mono b5
  have qk0 := qk0.mono b5
  have pg0 := pg0.mono b5
  have S5 := b5.size
  have B5 := btrans B4 b5
  go_wp2_with fail
  refine (toIssueS_c _ l0 _ (h0.mono B5) (by omega)).mono ?_
  rintro e w6 ⟨ce0, rfl, qe0, b6⟩
  have qs0 := qs0.mono b6
  have ps0 := ps0.mono b6
  have qk0 := qk0.mono b6
  have pg0 := pg0.mono b6
  have S6 := b6.size
  have B6 := btrans B5 b6
  have dce0 := qe0.bounds
  go_wp2_with fail
  refine (eqIssueS_c ck0 ce0 _ _ (qk0.sl Iss.len) (qe0.sl Iss.len)).mono ?_
  rintro e w7 ⟨rfl, b7⟩
  have qs0 := qs0.mono b7
  have ps0 := ps0.mono b7
  have qk0 := qk0.mono b7
  have pg0 := pg0.mono b7
  have qe0 := qe0.mono b7
  have S7 := b7.size
  have B7 := btrans B6 b7
  go_wp2_with fail
  refine (markIssueS_c ck0 _ (1) _ _ qk0 (by omega) (by omega) (by omega)).mono ?_
  rintro e w8 ⟨rfl, qk0', g8⟩
  have ps0 := ps0.far dck0 (fun g hg => by have := drs0 g hg; omega) g8
  have pg0 := pg0.far dck0 (fun g hg => by have := drg0 g hg; omega) g8
  have qk0 := qk0'
  have S8 := g8.size
  have B8 := B7.grown g8 B7.size (fun g hg => by have := dck0 g hg; omega)
  go_wp2_with fail
  refine (eqIntA2S_c rg0 rs0 _ _ (pg0.sl PrE.len) (ps0.sl PrE.len)).mono ?_
  rintro e w9 ⟨rfl, b9⟩
  have ps0 := ps0.mono b9
  have pg0 := pg0.mono b9
  have S9 := b9.size
  have B9 := btrans B8 b9
  have hlen : (tsR l0 i1).length ≤ 10000000 := tsR_len l0 i1
  go_wp2_with fail
  refine (markIntA2S_c rg0 _ 1 _ _ pg0 hlen (by omega) (by omega)).mono ?_
  rintro e w10 ⟨rfl, pg0', g10⟩
  have ps0 := ps0.far drg0 (fun g hg => by have := drs0 g hg; omega) g10
  have pg0 := pg0'
  have S10 := g10.size
  have B10 := B9.grown g10 B9.size (fun g hg => by have := drg0 g hg; omega)
  go_wp2_with fail
  refine (heldIntA2S_c rg0 _ 1 _ (pg0.sl PrE.len) hlen (by omega) (by omega)).mono ?_
  rintro e w11 ⟨rfl, e11⟩
  subst e11
  go_wp2_with fail
  refine (toIssueS_c _ l0 _ (h0.mono B10) (by omega)).mono ?_
  rintro e w11 ⟨cm0, rfl, qm0, b11⟩
  have ps0 := ps0.mono b11
  have pg0 := pg0.mono b11
  have S11 := b11.size
  have B11 := btrans B10 b11
  have dcm0 := qm0.bounds
  go_wp2_with fail
  refine (trueSheets_c cm0 l0 i1 _ (qm0.sl Iss.len)).mono ?_
  rintro e w12 ⟨rh0, rfl, ph0, b12⟩
  have ps0 := ps0.mono b12
  have pg0 := pg0.mono b12
  have qm0 := qm0.mono b12
  have S12 := b12.size
  have B12 := btrans B11 b12
  have drh0 := ph0.bounds
  go_wp2_with fail
  refine (eqIntA2S_c rh0 rs0 _ _ (ph0.sl PrE.len) (ps0.sl PrE.len)).mono ?_
  rintro e w13 ⟨rfl, b13⟩
  have ps0 := ps0.mono b13
  have pg0 := pg0.mono b13
  have qm0 := qm0.mono b13
  have ph0 := ph0.mono b13
  have S13 := b13.size
  have B13 := btrans B12 b13
  go_wp2_with fail
  refine (heldIntA2S_c rg0 _ 1 _ (pg0.sl PrE.len) hlen (by omega) (by omega)).mono ?_
  rintro e w14 ⟨rfl, e14⟩
  subst e14
  go_wp2_with fail
  go_ret
  exact ⟨rfl, B13⟩

set_option maxRecDepth 100000 in
theorem liftedTrueSheets (os : Os) (started : os.Started) (H : Type) (enc : TypeId × Value → H) :
    ReturnsInHanded {} Try.checked os 7 .any (Rows.fnExactTrueSheetsSpec.pre6 enc Try.prog Try.f7 Rows.fnExactTrueSheetsRow.domain false) (Rows.fnExactTrueSheetsSpec.post enc Try.prog Try.f7 false true false false) := by
  refine returnsInHanded_of_change (C := Try.checked) own started (by kernel_rfl) Try.func7
    (ChangeSpec.witness6 (enc := enc) (C := Try.checked) false ⟨#[], #[.slice none 0 0, .int .i64 0], []⟩ 8 (by kernel_rfl) (by kernel_rfl) (by kernel_rfl) (by kernel_rfl)) ?_
  intro W base args ds gs before hval0 hW _ _
  have hval : ∀ (j : Nat) t v, Try.f7.params[j]? = some t → args[j]? = some v → Value.okWide Try.prog W .any base t v := hval0
  have hW' := hW
  obtain ⟨p, q, hA0, hV, rfl, hfz, hnd⟩ := hW
  have hA : DataW.TrodAll enc Try.prog W 0 (fun _ => true) true Try.f7.params.toList args.toList ds p := hA0
  rw [Try.params7] at hA hval
  obtain ⟨v0, vs0, d0, ds0, p0, q0, hargs, rfl, rfl, h0, r0⟩ := trodAll_cons hA
  obtain ⟨v1, vs1, d1, ds1, p1, q1, rfl, rfl, rfl, h1, r1⟩ := trodAll_cons r0
  obtain ⟨rfl, rfl, rfl⟩ := trodAll_nil r1
  obtain rfl : args = #[v0, v1] := by cases args; simp_all
  obtain ⟨rfl, rfl⟩ := trodVars_none hV
  obtain ⟨l0, s0⟩ := readIssueS h0 (hval 0 22 v0 rfl rfl)
  obtain ⟨i1, e1, _, _⟩ := readInt h1 (hval 1 3 v1 rfl rfl)
  have hcall : Calls Try.prog 7 #[v0, v1] W fun e w' => e = .returned (.bool true) ∧ Below W.heap.size W w' := by
    rw [e1]
    exact lawTrueSheets v0 l0 i1 W s0
  refine hcall.mono fun e W' ⟨he, hb⟩ => ?_
  subst he
  exact ⟨_, rfl, post_below (pa := p0 ++ (p1 ++ [])) rfl Try.underlying4 hW' rfl rfl rfl (fun sp hsp => (trodAll_cons_mk (WideElems.Trod_stays laidOut (by kernel_rfl) (of_decide_eq_true (by kernel_rfl)) h0 (fun x hx => hb.same (hW'.lt x (by simp [hx]))) (fun x hx => hsp x (by simp [hx]))) (trodAll_cons_mk (WideElems.Trod_stays laidOut (by kernel_rfl) (of_decide_eq_true (by kernel_rfl)) h1 (fun x hx => hb.same (hW'.lt x (by simp [hx]))) (fun x hx => hsp x (by simp [hx]))) trodAll_mk0))) (by simp) hb⟩

theorem holdsTrueSheets : Rows.FnExactTrueSheetsSaid :=
  OpenClaim.holds_of_wide 7 Try.f7 rfl rfl rfl rfl rfl rfl rfl ⟨rfl, rfl, rfl, rfl, rfl⟩ rfl rfl rfl rfl rfl (by kernel_rfl) Try.func7 (by kernel_rfl)
    (of_decide_eq_true (by kernel_rfl)) (by unfold Func.isWrapper; first | (rw [if_pos (by decide +kernel)]; kernel_rfl) | (rw [if_neg (by decide +kernel)]; exact ⟨rfl, rfl⟩))
    (fun os started H enc _ => liftedTrueSheets os started H enc)
end Go.Proofs.Ytcnbmephffphgaa
