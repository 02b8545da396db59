/- The law FnExactAreRepairs holds: for every input it answers true, and each argument reads behind the call as before. No condition. -/
import Derived.Test.YtkneockpbfamkaaSr22
import Derived.Test.YtkneockpbfamkaaSs22
import Derived.Test.YtkneockpbfamkaaRead
namespace Go.Proofs.Ytkneockpbfamkaa
open Go.ChangeShapes Go.WideShapes Go.ChangeAt Go.RowKit
set_option maxHeartbeats 4000000 in
theorem lawAreRepairs (v0 : Value) (l0 : List Dmg) (v1 : Value) (l1 : List Rep) (w : World) (h0 : Sl w Dmg.enc 4 v0 l0) (h1 : Sl w Rep.enc 3 v1 l1) : Calls Try.prog 5 #[v0, v1] w fun e w' => e = .returned (.bool true) ∧ Below w.heap.size w w' := by
  have h0s := h0
  obtain ⟨a0, cap0, b0, o0, rfl, hk0, hm0, _⟩ := h0s
  have h1s := h1
  obtain ⟨a1, cap1, b1, o1, rfl, hk1, hm1, _⟩ := h1s
  have Z0 := Lib.hid (szDamageS_c a0 l0.length cap0 1048576 w (Nat.le_trans hk0 hm0) (by omega) (by omega))
  rcases szN_or 1048576 l0.length with e | ⟨hp0, hq0, hr0⟩
  · rw [e] at Z0
    clear e
    go_enter Try.func5, Try.ntmps5
    go_wp2_with fail
    refine Z0.out.mono ?_
    rintro e w' ⟨rfl, rfl⟩
    go_wp2_with fail
    go_ret
    exact ⟨rfl, Below.refl _ _⟩
  generalize szN 1048576 l0.length = r0 at Z0 hp0 hq0
  have Z1 := Lib.hid (szRepairS_c a1 l1.length cap1 r0 w (Nat.le_trans hk1 hm1) (by omega) (by omega))
  rcases szN_or r0 l1.length with e | ⟨hp1, hq1, hr1⟩
  · rw [e] at Z1
    clear e
    go_enter Try.func5, Try.ntmps5
    go_wp2_with fail
    refine Z0.out.mono ?_
    rintro e w' ⟨rfl, rfl⟩
    go_wp2_with fail
    refine Z1.out.mono ?_
    rintro e w' ⟨rfl, rfl⟩
    go_wp2_with fail
    go_ret
    exact ⟨rfl, Below.refl _ _⟩
  generalize szN r0 l1.length = r1 at Z1 hp1 hq1
  go_enter Try.func5, Try.ntmps5
  go_wp2_with fail
  refine Z0.out.mono ?_
  rintro e w' ⟨rfl, rfl⟩
  go_wp2_with fail
  refine Z1.out.mono ?_
  rintro e w' ⟨rfl, rfl⟩
  go_wp2_with fail
  refine (toDamageS_c _ l0 _ h0 (by omega)).mono ?_
  rintro e w1 ⟨cs0, rfl, qs0, b1⟩
  have h0 := h0.mono b1
  have h1 := h1.mono b1
  have B1 := b1
  go_wp2_with fail
  refine (toRepairS_c _ l1 _ h1 (by omega)).mono ?_
  rintro e w2 ⟨cs1, rfl, qs1, b2⟩
  have h0 := h0.mono b2
  have h1 := h1.mono b2
  have qs0 := qs0.mono b2
  have B2 := btrans B1 b2
  go_wp2_with fail
  refine (specAreRepairs_c cs0 cs1 l0 l1 _ (qs0.sl Dmg.len) (qs1.sl Rep.len)).mono ?_
  rintro e w3 ⟨rfl, b3⟩
  have h0 := h0.mono b3
  have h1 := h1.mono b3
  have qs0 := qs0.mono b3
  have qs1 := qs1.mono b3
  have B3 := btrans B2 b3
  go_wp2_with fail
  refine (toDamageS_c _ l0 _ h0 (by omega)).mono ?_
  rintro e w4 ⟨ck0, rfl, qk0, b4⟩
  have h0 := h0.mono b4
  have h1 := h1.mono b4
  have qs0 := qs0.mono b4
  have qs1 := qs1.mono b4
  have B4 := btrans B3 b4
  go_wp2_with fail
  refine (toRepairS_c _ l1 _ h1 (by omega)).mono ?_
  rintro e w5 ⟨ck1, rfl, qk1, b5⟩
  have h0 := h0.mono b5
  have h1 := h1.mono b5
  have qs0 := qs0.mono b5
  have qs1 := qs1.mono b5
  have qk0 := qk0.mono b5
  have B5 := btrans B4 b5
  go_wp2_with fail
  refine (areRepairs_c ck0 ck1 l0 l1 _ (qk0.sl Dmg.len) (qk1.sl Rep.len)).mono ?_
  rintro e w6 ⟨rfl, b6⟩
  have h0 := h0.mono b6
  have h1 := h1.mono b6
  have qs0 := qs0.mono b6
  have qs1 := qs1.mono b6
  have qk0 := qk0.mono b6
  have qk1 := qk1.mono b6
  have B6 := btrans B5 b6
  go_wp2_with fail
  refine (toDamageS_c _ l0 _ h0 (by omega)).mono ?_
  rintro e w7 ⟨ce0, rfl, qe0, b7⟩
  have h0 := h0.mono b7
  have h1 := h1.mono b7
  have qs0 := qs0.mono b7
  have qs1 := qs1.mono b7
  have qk0 := qk0.mono b7
  have qk1 := qk1.mono b7
  have B7 := btrans B6 b7
  go_wp2_with fail
  refine (eqDamageS_c ck0 ce0 _ _ (qk0.sl Dmg.len) (qe0.sl Dmg.len)).mono ?_
  rintro e w8 ⟨rfl, b8⟩
  have h0 := h0.mono b8
  have h1 := h1.mono b8
  have qs0 := qs0.mono b8
  have qs1 := qs1.mono b8
  have qk0 := qk0.mono b8
  have qk1 := qk1.mono b8
  have qe0 := qe0.mono b8
  have B8 := btrans B7 b8
  go_wp2_with fail
  refine (toRepairS_c _ l1 _ h1 (by omega)).mono ?_
  rintro e w9 ⟨ce1, rfl, qe1, b9⟩
  have h0 := h0.mono b9
  have h1 := h1.mono b9
  have qs0 := qs0.mono b9
  have qs1 := qs1.mono b9
  have qk0 := qk0.mono b9
  have qk1 := qk1.mono b9
  have qe0 := qe0.mono b9
  have B9 := btrans B8 b9
  go_wp2_with fail
  refine (eqRepairS_c ck1 ce1 _ _ (qk1.sl Rep.len) (qe1.sl Rep.len)).mono ?_
  rintro e w10 ⟨rfl, b10⟩
  have h0 := h0.mono b10
  have h1 := h1.mono b10
  have qs0 := qs0.mono b10
  have qs1 := qs1.mono b10
  have qk0 := qk0.mono b10
  have qk1 := qk1.mono b10
  have qe0 := qe0.mono b10
  have qe1 := qe1.mono b10
  have B10 := btrans B9 b10
  go_wp2_with fail
  go_ret
  exact ⟨rfl, B10⟩

set_option maxRecDepth 100000 in
theorem liftedAreRepairs (os : Os) (started : os.Started) (H : Type) (enc : TypeId × Value → H) :
    ReturnsInHanded {} Try.checked os 5 .any (Rows.fnExactAreRepairsSpec.pre6 enc Try.prog Try.f5 Rows.fnExactAreRepairsRow.domain false) (Rows.fnExactAreRepairsSpec.post enc Try.prog Try.f5 false true false false) := by
  refine returnsInHanded_of_change (C := Try.checked) own started (by kernel_rfl) Try.func5
    (ChangeSpec.witness6 (enc := enc) (C := Try.checked) false ⟨#[], #[.slice none 0 0, .slice none 0 0], []⟩ 8 (by kernel_rfl) (by kernel_rfl) (by kernel_rfl) (by kernel_rfl)) ?_
  intro W base args ds gs before hval0 hW _ _
  have hval : ∀ (j : Nat) t v, Try.f5.params[j]? = some t → args[j]? = some v → Value.okWide Try.prog W .any base t v := hval0
  have hW' := hW
  obtain ⟨p, q, hA0, hV, rfl, hfz, hnd⟩ := hW
  have hA : DataW.TrodAll enc Try.prog W 0 (fun _ => true) true Try.f5.params.toList args.toList ds p := hA0
  rw [Try.params5] at hA hval
  obtain ⟨v0, vs0, d0, ds0, p0, q0, hargs, rfl, rfl, h0, r0⟩ := trodAll_cons hA
  obtain ⟨v1, vs1, d1, ds1, p1, q1, rfl, rfl, rfl, h1, r1⟩ := trodAll_cons r0
  obtain ⟨rfl, rfl, rfl⟩ := trodAll_nil r1
  obtain rfl : args = #[v0, v1] := by cases args; simp_all
  obtain ⟨rfl, rfl⟩ := trodVars_none hV
  obtain ⟨l0, s0⟩ := readDamageS h0 (hval 0 29 v0 rfl rfl)
  obtain ⟨l1, s1⟩ := readRepairS h1 (hval 1 36 v1 rfl rfl)
  have hcall : Calls Try.prog 5 #[v0, v1] W fun e w' => e = .returned (.bool true) ∧ Below W.heap.size W w' := by
    exact lawAreRepairs v0 l0 v1 l1 W s0 s1
  refine hcall.mono fun e W' ⟨he, hb⟩ => ?_
  subst he
  exact ⟨_, rfl, post_below (pa := p0 ++ (p1 ++ [])) rfl Try.underlying4 hW' rfl rfl rfl (fun sp hsp => (trodAll_cons_mk (WideElems.Trod_stays laidOut (by kernel_rfl) (of_decide_eq_true (by kernel_rfl)) h0 (fun x hx => hb.same (hW'.lt x (by simp [hx]))) (fun x hx => hsp x (by simp [hx]))) (trodAll_cons_mk (WideElems.Trod_stays laidOut (by kernel_rfl) (of_decide_eq_true (by kernel_rfl)) h1 (fun x hx => hb.same (hW'.lt x (by simp [hx]))) (fun x hx => hsp x (by simp [hx]))) trodAll_mk0))) (by simp) hb⟩

theorem holdsAreRepairs : Rows.FnExactAreRepairsSaid :=
  OpenClaim.holds_of_wide 5 Try.f5 rfl rfl rfl rfl rfl rfl rfl ⟨rfl, rfl, rfl, rfl, rfl⟩ rfl rfl rfl rfl rfl (by kernel_rfl) Try.func5 (by kernel_rfl)
    (of_decide_eq_true (by kernel_rfl)) (by unfold Func.isWrapper; first | (rw [if_pos (by decide +kernel)]; kernel_rfl) | (rw [if_neg (by decide +kernel)]; exact ⟨rfl, rfl⟩))
    (fun os started H enc _ => liftedAreRepairs os started H enc)
end Go.Proofs.Ytkneockpbfamkaa
