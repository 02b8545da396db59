/- The law FnExactUntouchedSheets holds: for every input it answers true, and each argument reads behind the call as before. No condition. -/
import Derived.Test.YtkneockpbfamkaaUt22
import Derived.Test.YtkneockpbfamkaaRead
namespace Go.Proofs.Ytkneockpbfamkaa
open Go.ChangeShapes Go.WideShapes Go.ChangeAt Go.RowKit
set_option maxHeartbeats 4000000 in
theorem lawUntouchedSheets (v0 : Value) (l0 : List Dmg) (v1 : Value) (l1 : List Rep) (w : World) (h0 : Sl w Dmg.enc 4 v0 l0) (h1 : Sl w Rep.enc 3 v1 l1) : Calls Try.prog 8 #[v0, v1] w fun e w' => e = .returned (.bool true) ∧ Below w.heap.size w w' := by
  have h0s := h0
  obtain ⟨a0, cap0, b0, o0, rfl, hk0, hm0, _⟩ := h0s
  have h1s := h1
  obtain ⟨a1, cap1, b1, o1, rfl, hk1, hm1, _⟩ := h1s
  have Z0 := Lib.hid (szDamageS_c a0 l0.length cap0 1048576 w (Nat.le_trans hk0 hm0) (by omega) (by omega))
  rcases szN_or 1048576 l0.length with e | ⟨hp0, hq0, hr0⟩
  · rw [e] at Z0
    clear e
    go_enter Try.func8, Try.ntmps8
    go_wp2_with fail
    refine Z0.out.mono ?_
    rintro e w' ⟨rfl, rfl⟩
    go_wp2_with fail
    go_ret
    exact ⟨rfl, Below.refl _ _⟩
  generalize szN 1048576 l0.length = r0 at Z0 hp0 hq0
  have Z1 := Lib.hid (szRepairS_c a1 l1.length cap1 r0 w (Nat.le_trans hk1 hm1) (by omega) (by omega))
  rcases szN_or r0 l1.length with e | ⟨hp1, hq1, hr1⟩
  · rw [e] at Z1
    clear e
    go_enter Try.func8, Try.ntmps8
    go_wp2_with fail
    refine Z0.out.mono ?_
    rintro e w' ⟨rfl, rfl⟩
    go_wp2_with fail
    refine Z1.out.mono ?_
    rintro e w' ⟨rfl, rfl⟩
    go_wp2_with fail
    go_ret
    exact ⟨rfl, Below.refl _ _⟩
  generalize szN r0 l1.length = r1 at Z1 hp1 hq1
  go_enter Try.func8, Try.ntmps8
  go_wp2_with fail
  refine Z0.out.mono ?_
  rintro e w' ⟨rfl, rfl⟩
  go_wp2_with fail
  refine Z1.out.mono ?_
  rintro e w' ⟨rfl, rfl⟩
  go_wp2_with fail
  refine (toDamageS_c _ l0 _ h0 (by omega)).mono ?_
  rintro e w1 ⟨cs0, rfl, qs0, b1⟩
  have S1 := b1.size
  have B1 := b1
  have dcs0 := qs0.bounds
  go_wp2_with fail
  refine (toRepairS_c _ l1 _ (h1.mono B1) (by omega)).mono ?_
  rintro e w2 ⟨cs1, rfl, qs1, b2⟩
  have qs0 := qs0.mono b2
  have S2 := b2.size
  have B2 := btrans B1 b2
  have dcs1 := qs1.bounds
  go_wp2_with fail
  refine (specUntouched_c cs0 cs1 l0 l1 _ (qs0.sl Dmg.len) (qs1.sl Rep.len)).mono ?_
  rintro e w3 ⟨rs0, rfl, ps0, b3⟩
  have qs0 := qs0.mono b3
  have qs1 := qs1.mono b3
  have S3 := b3.size
  have B3 := btrans B2 b3
  have drs0 := ps0.bounds
  go_wp2_with fail
  refine (toDamageS_c _ l0 _ (h0.mono B3) (by omega)).mono ?_
  rintro e w4 ⟨ck0, rfl, qk0, b4⟩
  have qs0 := qs0.mono b4
  have qs1 := qs1.mono b4
  have ps0 := ps0.mono b4
  have S4 := b4.size
  have B4 := btrans B3 b4
  have dck0 := qk0.bounds
  go_wp2_with fail
  refine (toRepairS_c _ l1 _ (h1.mono B4) (by omega)).mono ?_
  rintro e w5 ⟨ck1, rfl, qk1, b5⟩
  have qs0 := qs0.mono b5
  have qs1 := qs1.mono b5
  have ps0 := ps0.mono b5
  have qk0 := qk0.mono b5
  have S5 := b5.size
  have B5 := btrans B4 b5
  have dck1 := qk1.bounds
  go_wp2_with fail
  refine (untouched_c ck0 ck1 l0 l1 _ (qk0.sl Dmg.len) (qk1.sl Rep.len)).mono ?_
  rintro e w6 ⟨rg0, rfl, pg0, b6⟩
  have qs0 := qs0.mono b6
  have qs1 := qs1.mono b6
  have ps0 := ps0.mono b6
  have qk0 := qk0.mono b6
  have qk1 := qk1.mono b6
  have S6 := b6.size
  have B6 := btrans B5 b6
  have drg0 := pg0.bounds
  go_wp2_with fail
  refine (eqIntS_c rg0 rs0 _ _ (pg0.sl IntE.len) (ps0.sl IntE.len)).mono ?_
  rintro e w7 ⟨rfl, b7⟩
  have qs0 := qs0.mono b7
  have qs1 := qs1.mono b7
  have ps0 := ps0.mono b7
  have qk0 := qk0.mono b7
  have qk1 := qk1.mono b7
  have pg0 := pg0.mono b7
  have S7 := b7.size
  have B7 := btrans B6 b7
  go_wp2_with fail
  refine (toDamageS_c _ l0 _ (h0.mono B7) (by omega)).mono ?_
  rintro e w8 ⟨ce0, rfl, qe0, b8⟩
  have qs0 := qs0.mono b8
  have qs1 := qs1.mono b8
  have ps0 := ps0.mono b8
  have qk0 := qk0.mono b8
  have qk1 := qk1.mono b8
  have pg0 := pg0.mono b8
  have S8 := b8.size
  have B8 := btrans B7 b8
  have dce0 := qe0.bounds
  go_wp2_with fail
  refine (eqDamageS_c ck0 ce0 _ _ (qk0.sl Dmg.len) (qe0.sl Dmg.len)).mono ?_
  rintro e w9 ⟨rfl, b9⟩
  have qs0 := qs0.mono b9
  have qs1 := qs1.mono b9
  have ps0 := ps0.mono b9
  have qk0 := qk0.mono b9
  have qk1 := qk1.mono b9
  have pg0 := pg0.mono b9
  have qe0 := qe0.mono b9
  have S9 := b9.size
  have B9 := btrans B8 b9
  go_wp2_with fail
  refine (toRepairS_c _ l1 _ (h1.mono B9) (by omega)).mono ?_
  rintro e w10 ⟨ce1, rfl, qe1, b10⟩
  have qs0 := qs0.mono b10
  have qs1 := qs1.mono b10
  have ps0 := ps0.mono b10
  have qk0 := qk0.mono b10
  have qk1 := qk1.mono b10
  have pg0 := pg0.mono b10
  have qe0 := qe0.mono b10
  have S10 := b10.size
  have B10 := btrans B9 b10
  have dce1 := qe1.bounds
  go_wp2_with fail
  refine (eqRepairS_c ck1 ce1 _ _ (qk1.sl Rep.len) (qe1.sl Rep.len)).mono ?_
  rintro e w11 ⟨rfl, b11⟩
  have qs0 := qs0.mono b11
  have qs1 := qs1.mono b11
  have ps0 := ps0.mono b11
  have qk0 := qk0.mono b11
  have qk1 := qk1.mono b11
  have pg0 := pg0.mono b11
  have qe0 := qe0.mono b11
  have qe1 := qe1.mono b11
  have S11 := b11.size
  have B11 := btrans B10 b11
  go_wp2_with fail
  refine (markDamageS_c ck0 _ (1) _ _ qk0 (by omega) (by omega) (by omega)).mono ?_
  rintro e w12 ⟨rfl, qk0', g12⟩
  have ps0 := ps0.far dck0 (fun g hg => by have := drs0 g hg; omega) g12
  have qk1 := qk1.far dck0 (fun g hg => by have := dck1 g hg; omega) g12
  have pg0 := pg0.far dck0 (fun g hg => by have := drg0 g hg; omega) g12
  have qk0 := qk0'
  have S12 := g12.size
  have B12 := B11.grown g12 B11.size (fun g hg => by have := dck0 g hg; omega)
  go_wp2_with fail
  refine (markRepairS_c ck1 _ (1 + 4 * (l0.length : Int)) _ _ qk1 (by omega) (by omega) (by omega)).mono ?_
  rintro e w13 ⟨rfl, qk1', g13⟩
  have ps0 := ps0.far dck1 (fun g hg => by have := drs0 g hg; omega) g13
  have pg0 := pg0.far dck1 (fun g hg => by have := drg0 g hg; omega) g13
  have qk1 := qk1'
  have S13 := g13.size
  have B13 := B12.grown g13 B12.size (fun g hg => by have := dck1 g hg; omega)
  go_wp2_with fail
  refine (eqIntS_c rg0 rs0 _ _ (pg0.sl IntE.len) (ps0.sl IntE.len)).mono ?_
  rintro e w14 ⟨rfl, b14⟩
  have ps0 := ps0.mono b14
  have pg0 := pg0.mono b14
  have S14 := b14.size
  have B14 := btrans B13 b14
  have hlen : (untR l0 l1).length ≤ 10000000 := untR_len l0 l1
  go_wp2_with fail
  refine (markIntS_c rg0 _ 1 _ _ pg0 hlen (by omega) (by omega)).mono ?_
  rintro e w15 ⟨rfl, pg0', g15⟩
  have ps0 := ps0.far drg0 (fun g hg => by have := drs0 g hg; omega) g15
  have pg0 := pg0'
  have S15 := g15.size
  have B15 := B14.grown g15 B14.size (fun g hg => by have := drg0 g hg; omega)
  go_wp2_with fail
  refine (heldIntS_c rg0 _ 1 _ (pg0.sl IntE.len) hlen (by omega) (by omega)).mono ?_
  rintro e w16 ⟨rfl, e16⟩
  subst e16
  go_wp2_with fail
  refine (toDamageS_c _ l0 _ (h0.mono B15) (by omega)).mono ?_
  rintro e w16 ⟨cm0, rfl, qm0, b16⟩
  have ps0 := ps0.mono b16
  have pg0 := pg0.mono b16
  have S16 := b16.size
  have B16 := btrans B15 b16
  have dcm0 := qm0.bounds
  go_wp2_with fail
  refine (toRepairS_c _ l1 _ (h1.mono B16) (by omega)).mono ?_
  rintro e w17 ⟨cm1, rfl, qm1, b17⟩
  have ps0 := ps0.mono b17
  have pg0 := pg0.mono b17
  have qm0 := qm0.mono b17
  have S17 := b17.size
  have B17 := btrans B16 b17
  have dcm1 := qm1.bounds
  go_wp2_with fail
  refine (untouched_c cm0 cm1 l0 l1 _ (qm0.sl Dmg.len) (qm1.sl Rep.len)).mono ?_
  rintro e w18 ⟨rh0, rfl, ph0, b18⟩
  have ps0 := ps0.mono b18
  have pg0 := pg0.mono b18
  have qm0 := qm0.mono b18
  have qm1 := qm1.mono b18
  have S18 := b18.size
  have B18 := btrans B17 b18
  have drh0 := ph0.bounds
  go_wp2_with fail
  refine (eqIntS_c rh0 rs0 _ _ (ph0.sl IntE.len) (ps0.sl IntE.len)).mono ?_
  rintro e w19 ⟨rfl, b19⟩
  have ps0 := ps0.mono b19
  have pg0 := pg0.mono b19
  have qm0 := qm0.mono b19
  have qm1 := qm1.mono b19
  have ph0 := ph0.mono b19
  have S19 := b19.size
  have B19 := btrans B18 b19
  go_wp2_with fail
  refine (heldIntS_c rg0 _ 1 _ (pg0.sl IntE.len) hlen (by omega) (by omega)).mono ?_
  rintro e w20 ⟨rfl, e20⟩
  subst e20
  go_wp2_with fail
  go_ret
  exact ⟨rfl, B19⟩

set_option maxRecDepth 100000 in
theorem liftedUntouchedSheets (os : Os) (started : os.Started) (H : Type) (enc : TypeId × Value → H) :
    ReturnsInHanded {} Try.checked os 8 .any (Rows.fnExactUntouchedSheetsSpec.pre6 enc Try.prog Try.f8 Rows.fnExactUntouchedSheetsRow.domain false) (Rows.fnExactUntouchedSheetsSpec.post enc Try.prog Try.f8 false true false false) := by
  refine returnsInHanded_of_change (C := Try.checked) own started (by kernel_rfl) Try.func8
    (ChangeSpec.witness6 (enc := enc) (C := Try.checked) false ⟨#[], #[.slice none 0 0, .slice none 0 0], []⟩ 8 (by kernel_rfl) (by kernel_rfl) (by kernel_rfl) (by kernel_rfl)) ?_
  intro W base args ds gs before hval0 hW _ _
  have hval : ∀ (j : Nat) t v, Try.f8.params[j]? = some t → args[j]? = some v → Value.okWide Try.prog W .any base t v := hval0
  have hW' := hW
  obtain ⟨p, q, hA0, hV, rfl, hfz, hnd⟩ := hW
  have hA : DataW.TrodAll enc Try.prog W 0 (fun _ => true) true Try.f8.params.toList args.toList ds p := hA0
  rw [Try.params8] at hA hval
  obtain ⟨v0, vs0, d0, ds0, p0, q0, hargs, rfl, rfl, h0, r0⟩ := trodAll_cons hA
  obtain ⟨v1, vs1, d1, ds1, p1, q1, rfl, rfl, rfl, h1, r1⟩ := trodAll_cons r0
  obtain ⟨rfl, rfl, rfl⟩ := trodAll_nil r1
  obtain rfl : args = #[v0, v1] := by cases args; simp_all
  obtain ⟨rfl, rfl⟩ := trodVars_none hV
  obtain ⟨l0, s0⟩ := readDamageS h0 (hval 0 29 v0 rfl rfl)
  obtain ⟨l1, s1⟩ := readRepairS h1 (hval 1 36 v1 rfl rfl)
  have hcall : Calls Try.prog 8 #[v0, v1] W fun e w' => e = .returned (.bool true) ∧ Below W.heap.size W w' := by
    exact lawUntouchedSheets v0 l0 v1 l1 W s0 s1
  refine hcall.mono fun e W' ⟨he, hb⟩ => ?_
  subst he
  exact ⟨_, rfl, post_below (pa := p0 ++ (p1 ++ [])) rfl Try.underlying4 hW' rfl rfl rfl (fun sp hsp => (trodAll_cons_mk (WideElems.Trod_stays laidOut (by kernel_rfl) (of_decide_eq_true (by kernel_rfl)) h0 (fun x hx => hb.same (hW'.lt x (by simp [hx]))) (fun x hx => hsp x (by simp [hx]))) (trodAll_cons_mk (WideElems.Trod_stays laidOut (by kernel_rfl) (of_decide_eq_true (by kernel_rfl)) h1 (fun x hx => hb.same (hW'.lt x (by simp [hx]))) (fun x hx => hsp x (by simp [hx]))) trodAll_mk0))) (by simp) hb⟩

theorem holdsUntouchedSheets : Rows.FnExactUntouchedSheetsSaid :=
  OpenClaim.holds_of_wide 8 Try.f8 rfl rfl rfl rfl rfl rfl rfl ⟨rfl, rfl, rfl, rfl, rfl⟩ rfl rfl rfl rfl rfl (by kernel_rfl) Try.func8 (by kernel_rfl)
    (of_decide_eq_true (by kernel_rfl)) (by unfold Func.isWrapper; first | (rw [if_pos (by decide +kernel)]; kernel_rfl) | (rw [if_neg (by decide +kernel)]; exact ⟨rfl, rfl⟩))
    (fun os started H enc _ => liftedUntouchedSheets os started H enc)
end Go.Proofs.Ytkneockpbfamkaa
