/- The law FnExactAreDamages holds: for every input it answers true, and each argument reads behind the call as before. No condition. -/
import Derived.Test.YtkneockpbfamkaaSp22
import Derived.Test.YtkneockpbfamkaaRead
namespace Go.Proofs.Ytkneockpbfamkaa
open Go.ChangeShapes Go.WideShapes Go.ChangeAt Go.RowKit
set_option maxHeartbeats 4000000 in
theorem lawAreDamages (v0 : Value) (l0 : List Dmg) (w : World) (h0 : Sl w Dmg.enc 4 v0 l0) : Calls Try.prog 4 #[v0] w fun e w' => e = .returned (.bool true) ∧ Below w.heap.size w w' := by
  have h0s := h0
  obtain ⟨a0, cap0, b0, o0, rfl, hk0, hm0, _⟩ := h0s
  have Z0 := Lib.hid (szDamageS_c a0 l0.length cap0 1048576 w (Nat.le_trans hk0 hm0) (by omega) (by omega))
  rcases szN_or 1048576 l0.length with e | ⟨hp0, hq0, hr0⟩
  · rw [e] at Z0
    clear e
    go_enter Try.func4, Try.ntmps4
    go_wp2_with fail
    refine Z0.out.mono ?_
    rintro e w' ⟨rfl, rfl⟩
    go_wp2_with fail
    go_ret
    exact ⟨rfl, Below.refl _ _⟩
  generalize szN 1048576 l0.length = r0 at Z0 hp0 hq0
  go_enter Try.func4, Try.ntmps4
  go_wp2_with fail
  refine Z0.out.mono ?_
  rintro e w' ⟨rfl, rfl⟩
  go_wp2_with fail
  refine (toDamageS_c _ l0 _ h0 (by omega)).mono ?_
  rintro e w1 ⟨cs0, rfl, qs0, b1⟩
  have h0 := h0.mono b1
  have B1 := b1
  go_wp2_with fail
  refine (specAreDamages_c cs0 l0 _ (qs0.sl Dmg.len)).mono ?_
  rintro e w2 ⟨rfl, b2⟩
  have h0 := h0.mono b2
  have qs0 := qs0.mono b2
  have B2 := btrans B1 b2
  go_wp2_with fail
  refine (toDamageS_c _ l0 _ h0 (by omega)).mono ?_
  rintro e w3 ⟨ck0, rfl, qk0, b3⟩
  have h0 := h0.mono b3
  have qs0 := qs0.mono b3
  have B3 := btrans B2 b3
  go_wp2_with fail
  refine (areDamages_c ck0 l0 _ (qk0.sl Dmg.len)).mono ?_
  rintro e w4 ⟨rfl, b4⟩
  have h0 := h0.mono b4
  have qs0 := qs0.mono b4
  have qk0 := qk0.mono b4
  have B4 := btrans B3 b4
  go_wp2_with fail
  refine (toDamageS_c _ l0 _ h0 (by omega)).mono ?_
  rintro e w5 ⟨ce0, rfl, qe0, b5⟩
  have h0 := h0.mono b5
  have qs0 := qs0.mono b5
  have qk0 := qk0.mono b5
  have B5 := btrans B4 b5
  go_wp2_with fail
  refine (eqDamageS_c ck0 ce0 _ _ (qk0.sl Dmg.len) (qe0.sl Dmg.len)).mono ?_
  rintro e w6 ⟨rfl, b6⟩
  have h0 := h0.mono b6
  have qs0 := qs0.mono b6
  have qk0 := qk0.mono b6
  have qe0 := qe0.mono b6
  have B6 := btrans B5 b6
  go_wp2_with fail
  go_ret
  exact ⟨rfl, B6⟩

set_option maxRecDepth 100000 in
theorem liftedAreDamages (os : Os) (started : os.Started) (H : Type) (enc : TypeId × Value → H) :
    ReturnsInHanded {} Try.checked os 4 .any (Rows.fnExactAreDamagesSpec.pre6 enc Try.prog Try.f4 Rows.fnExactAreDamagesRow.domain false) (Rows.fnExactAreDamagesSpec.post enc Try.prog Try.f4 false true false false) := by
  refine returnsInHanded_of_change (C := Try.checked) own started (by kernel_rfl) Try.func4
    (ChangeSpec.witness6 (enc := enc) (C := Try.checked) false ⟨#[], #[.slice none 0 0], []⟩ 8 (by kernel_rfl) (by kernel_rfl) (by kernel_rfl) (by kernel_rfl)) ?_
  intro W base args ds gs before hval0 hW _ _
  have hval : ∀ (j : Nat) t v, Try.f4.params[j]? = some t → args[j]? = some v → Value.okWide Try.prog W .any base t v := hval0
  have hW' := hW
  obtain ⟨p, q, hA0, hV, rfl, hfz, hnd⟩ := hW
  have hA : DataW.TrodAll enc Try.prog W 0 (fun _ => true) true Try.f4.params.toList args.toList ds p := hA0
  rw [Try.params4] at hA hval
  obtain ⟨v0, vs0, d0, ds0, p0, q0, hargs, rfl, rfl, h0, r0⟩ := trodAll_cons hA
  obtain ⟨rfl, rfl, rfl⟩ := trodAll_nil r0
  obtain rfl : args = #[v0] := by cases args; simp_all
  obtain ⟨rfl, rfl⟩ := trodVars_none hV
  obtain ⟨l0, s0⟩ := readDamageS h0 (hval 0 29 v0 rfl rfl)
  have hcall : Calls Try.prog 4 #[v0] W fun e w' => e = .returned (.bool true) ∧ Below W.heap.size W w' := by
    exact lawAreDamages v0 l0 W s0
  refine hcall.mono fun e W' ⟨he, hb⟩ => ?_
  subst he
  exact ⟨_, rfl, post_below (pa := p0 ++ []) rfl Try.underlying4 hW' rfl rfl rfl (fun sp hsp => (trodAll_cons_mk (WideElems.Trod_stays laidOut (by kernel_rfl) (of_decide_eq_true (by kernel_rfl)) h0 (fun x hx => hb.same (hW'.lt x (by simp [hx]))) (fun x hx => hsp x (by simp [hx]))) trodAll_mk0)) (by simp) hb⟩

theorem holdsAreDamages : Rows.FnExactAreDamagesSaid :=
  OpenClaim.holds_of_wide 4 Try.f4 rfl rfl rfl rfl rfl rfl rfl ⟨rfl, rfl, rfl, rfl, rfl⟩ rfl rfl rfl rfl rfl (by kernel_rfl) Try.func4 (by kernel_rfl)
    (of_decide_eq_true (by kernel_rfl)) (by unfold Func.isWrapper; first | (rw [if_pos (by decide +kernel)]; kernel_rfl) | (rw [if_neg (by decide +kernel)]; exact ⟨rfl, rfl⟩))
    (fun os started H enc _ => liftedAreDamages os started H enc)
end Go.Proofs.Ytkneockpbfamkaa
