/- The law FnExactGradeOf holds: for every input it answers true, and each argument reads behind the call as before. No condition. -/
import Derived.Test.YtkneockpbfamkaaG22
import Derived.Test.YtkneockpbfamkaaRead
namespace Go.Proofs.Ytkneockpbfamkaa
open Go.ChangeShapes Go.WideShapes Go.ChangeAt Go.RowKit
set_option maxHeartbeats 4000000 in
theorem lawGradeOf (x0 : Dmg) (w : World)  : Calls Try.prog 3 #[.agg x0.enc.toArray] w fun e w' => e = .returned (.bool true) ∧ Below w.heap.size w w' := by
  obtain ⟨x0s, x0t, x0f, x0st⟩ := x0
  show Calls Try.prog 3 #[.agg #[.int .i64 x0s, .int .i64 x0t, .int .i64 x0f, .int .i64 x0st]] w _
  have bx0 := BoxAt.new (w) [.int .i64 x0s, .int .i64 x0t, .int .i64 x0f, .int .i64 x0st] 23
  go_enter Try.func3, Try.ntmps3
  go_wp2_with fail
  refine (toDamage_c x0s x0t x0f x0st _).mono ?_
  rintro e w1 ⟨rfl, b1⟩
  have bx0 := bx0.mono b1
  obtain ⟨y00, y01, y02, y03⟩ : w1.cell? ⟨_, 0, none⟩ = some (.int .i64 x0s) ∧ w1.cell? ⟨_, 1, none⟩ = some (.int .i64 x0t) ∧ w1.cell? ⟨_, 2, none⟩ = some (.int .i64 x0f) ∧ w1.cell? ⟨_, 3, none⟩ = some (.int .i64 x0st) := ⟨bx0.2 0 _ rfl, bx0.2 1 _ rfl, bx0.2 2 _ rfl, bx0.2 3 _ rfl⟩
  have B1 := b1
  go_wp2_with fail
  refine (specGradeOf_c ⟨x0s, x0t, x0f, x0st⟩ _).mono ?_
  rintro e w2 ⟨rfl, b2⟩
  clear y00 y01 y02 y03
  have bx0 := bx0.mono b2
  obtain ⟨y00, y01, y02, y03⟩ : w2.cell? ⟨_, 0, none⟩ = some (.int .i64 x0s) ∧ w2.cell? ⟨_, 1, none⟩ = some (.int .i64 x0t) ∧ w2.cell? ⟨_, 2, none⟩ = some (.int .i64 x0f) ∧ w2.cell? ⟨_, 3, none⟩ = some (.int .i64 x0st) := ⟨bx0.2 0 _ rfl, bx0.2 1 _ rfl, bx0.2 2 _ rfl, bx0.2 3 _ rfl⟩
  have B2 := btrans B1 b2
  go_wp2_with fail
  refine (toDamage_c x0s x0t x0f x0st _).mono ?_
  rintro e w3 ⟨rfl, b3⟩
  clear y00 y01 y02 y03
  have bx0 := bx0.mono b3
  obtain ⟨y00, y01, y02, y03⟩ : w3.cell? ⟨_, 0, none⟩ = some (.int .i64 x0s) ∧ w3.cell? ⟨_, 1, none⟩ = some (.int .i64 x0t) ∧ w3.cell? ⟨_, 2, none⟩ = some (.int .i64 x0f) ∧ w3.cell? ⟨_, 3, none⟩ = some (.int .i64 x0st) := ⟨bx0.2 0 _ rfl, bx0.2 1 _ rfl, bx0.2 2 _ rfl, bx0.2 3 _ rfl⟩
  have B3 := btrans B2 b3
  go_wp2_with fail
  refine (gradeOf_c ⟨x0s, x0t, x0f, x0st⟩ _).mono ?_
  rintro e w4 ⟨rfl, b4⟩
  clear y00 y01 y02 y03
  have bx0 := bx0.mono b4
  obtain ⟨y00, y01, y02, y03⟩ : w4.cell? ⟨_, 0, none⟩ = some (.int .i64 x0s) ∧ w4.cell? ⟨_, 1, none⟩ = some (.int .i64 x0t) ∧ w4.cell? ⟨_, 2, none⟩ = some (.int .i64 x0f) ∧ w4.cell? ⟨_, 3, none⟩ = some (.int .i64 x0st) := ⟨bx0.2 0 _ rfl, bx0.2 1 _ rfl, bx0.2 2 _ rfl, bx0.2 3 _ rfl⟩
  have B4 := btrans B3 b4
  go_wp2_with fail
  go_ret
  exact ⟨rfl, ((Below.refl _ _).alloc (Nat.le_refl _) _).trans (B4.mono (by simp))⟩

set_option maxRecDepth 100000 in
theorem liftedGradeOf (os : Os) (started : os.Started) (H : Type) (enc : TypeId × Value → H) :
    ReturnsInHanded {} Try.checked os 3 .any (Rows.fnExactGradeOfSpec.pre6 enc Try.prog Try.f3 Rows.fnExactGradeOfRow.domain false) (Rows.fnExactGradeOfSpec.post enc Try.prog Try.f3 false true false false) := by
  refine returnsInHanded_of_change (C := Try.checked) own started (by kernel_rfl) Try.func3
    (ChangeSpec.witness6 (enc := enc) (C := Try.checked) false ⟨#[], #[.agg #[.int .i64 0, .int .i64 0, .int .i64 0, .int .i64 0]], []⟩ 8 (by kernel_rfl) (by kernel_rfl) (by kernel_rfl) (by kernel_rfl)) ?_
  intro W base args ds gs before hval0 hW _ _
  have hval : ∀ (j : Nat) t v, Try.f3.params[j]? = some t → args[j]? = some v → Value.okWide Try.prog W .any base t v := hval0
  have hW' := hW
  obtain ⟨p, q, hA0, hV, rfl, hfz, hnd⟩ := hW
  have hA : DataW.TrodAll enc Try.prog W 0 (fun _ => true) true Try.f3.params.toList args.toList ds p := hA0
  rw [Try.params3] at hA hval
  obtain ⟨v0, vs0, d0, ds0, p0, q0, hargs, rfl, rfl, h0, r0⟩ := trodAll_cons hA
  obtain ⟨rfl, rfl, rfl⟩ := trodAll_nil r0
  obtain rfl : args = #[v0] := by cases args; simp_all
  obtain ⟨rfl, rfl⟩ := trodVars_none hV
  obtain ⟨x0, e0⟩ := readDamage h0 (hval 0 23 v0 rfl rfl)
  have hcall : Calls Try.prog 3 #[v0] W fun e w' => e = .returned (.bool true) ∧ Below W.heap.size W w' := by
    rw [e0]
    exact lawGradeOf x0 W 
  refine hcall.mono fun e W' ⟨he, hb⟩ => ?_
  subst he
  exact ⟨_, rfl, post_below (pa := p0 ++ []) rfl Try.underlying4 hW' rfl rfl rfl (fun sp hsp => (trodAll_cons_mk (WideElems.Trod_stays laidOut (by kernel_rfl) (of_decide_eq_true (by kernel_rfl)) h0 (fun x hx => hb.same (hW'.lt x (by simp [hx]))) (fun x hx => hsp x (by simp [hx]))) trodAll_mk0)) (by simp) hb⟩

theorem holdsGradeOf : Rows.FnExactGradeOfSaid :=
  OpenClaim.holds_of_wide 3 Try.f3 rfl rfl rfl rfl rfl rfl rfl ⟨rfl, rfl, rfl, rfl, rfl⟩ rfl rfl rfl rfl rfl (by kernel_rfl) Try.func3 (by kernel_rfl)
    (of_decide_eq_true (by kernel_rfl)) (by unfold Func.isWrapper; first | (rw [if_pos (by decide +kernel)]; kernel_rfl) | (rw [if_neg (by decide +kernel)]; exact ⟨rfl, rfl⟩))
    (fun os started H enc _ => liftedGradeOf os started H enc)
end Go.Proofs.Ytkneockpbfamkaa
