/- The law FnExactWordCounts holds: for every input it answers true, and each argument reads behind the call as before. No condition. -/
import Derived.Test.YtemgcbmcjpgelaaWc24
import Derived.Test.YtemgcbmcjpgelaaNRead
namespace Go.Proofs.Ytemgcbmcjpgelaa
open Go.ChangeShapes Go.WideShapes Go.ChangeAt Go.RowKit
set_option maxHeartbeats 4000000 in
set_option maxRecDepth 100000 in
theorem lawWordCounts (v0 : Value) (l0 : List Crd) (s1 : ByteArray) (w : World) (h0 : Sl w Crd.enc 3 v0 l0) (d0 : Crd.Deep w l0) (f0 : ∀ i, i < l0.length → (gd l0 i).Fits) (f1 : s1.size ≤ maxLen) : Calls Try.prog 5 #[v0, .string s1] w fun e w' => e = .returned (.bool true) ∧ Below w.heap.size w w' := by
  have h0s := h0
  obtain ⟨a0, cap0, b0, o0, rfl, hk0, hm0, _⟩ := h0s
  replace f0 := Lib.hid f0
  replace d0 := Lib.hid d0
  replace h0 := Lib.hid h0
  unfold maxLen at f1
  by_cases z1 : 1048576 < s1.size
  · go_enter Try.func5, Try.ntmps5
    go_wp2_with fail
    go_ret
    exact ⟨rfl, Below.refl _ _⟩
  have f1 : s1.size ≤ maxLen := by unfold maxLen; omega
  go_enter Try.func5, Try.ntmps5
  go_wp2_with fail
  refine (szCardS_p _ l0 1048576 _ (h0.out.mono (Below.refl _ _)) (d0.out.mono (Below.refl _ _)) f0.out (by omega) (by omega)).mono ?_
  rintro e w1 ⟨b1, r0, rfl, hr0⟩
  have B1 := b1
  replace hr0 := Lib.hid hr0
  by_cases hz0 : r0 < 0
  · go_wp2_with fail
    go_ret
    exact ⟨rfl, B1⟩
  obtain ⟨hp0, hq0, hS0⟩ : 0 ≤ r0 ∧ r0 ≤ 1048576 ∧ (l0.length ≤ 1048576 ∧ ∀ i, i < l0.length → (gd l0 i).Short) := by
    rcases hr0.out with e | h2
    · omega
    · exact h2
  have n0 : l0.length ≤ 1048576 := hS0.1
  have t0 := Lib.hid (fun i (hi : i < l0.length) => (hS0.2 i hi).1)
  clear hS0
  go_wp2_with fail
  refine (toCardS_p _ l0 _ (h0.out.mono B1) (d0.out.mono B1) n0 t0.out).mono ?_
  rintro e w2 ⟨cs0, ls0, rfl, qs0, es0, b2⟩
  have B2 := btrans B1 b2
  replace es0 := Lib.hid es0
  go_wp2_with fail
  have H := specWordCounts_c cs0 ls0 s1 _ qs0.sl qs0.deep (fun i hi => (Crd.fits es0.out f0.out) i hi) f1
  rw [(wc_same es0.out _).1, (wc_same es0.out _).2.1, (wc_same es0.out _).2.2] at H
  replace H := Lib.hid H
  refine H.out.mono ?_
  rintro e w3 ⟨rfl, b3⟩
  clear H
  replace qs0 := qs0.mono b3
  have B3 := btrans B2 b3
  go_wp2_with fail
  refine (toCardS_p _ l0 _ (h0.out.mono B3) (d0.out.mono B3) n0 t0.out).mono ?_
  rintro e w4 ⟨ck0, lk0, rfl, qk0, ek0, b4⟩
  replace qs0 := qs0.mono b4
  have B4 := btrans B3 b4
  replace ek0 := Lib.hid ek0
  go_wp2_with fail
  have H := wordCounts_c ck0 lk0 s1 _ qk0.sl qk0.deep (fun i hi => (Crd.fits ek0.out f0.out) i hi) f1
  rw [(wc_same ek0.out _).1, (wc_same ek0.out _).2.1, (wc_same ek0.out _).2.2] at H
  replace H := Lib.hid H
  refine H.out.mono ?_
  rintro e w5 ⟨rfl, b5⟩
  clear H
  replace qs0 := qs0.mono b5
  replace qk0 := qk0.mono b5
  have B5 := btrans B4 b5
  go_wp2_with fail
  refine (toCardS_p _ l0 _ (h0.out.mono B5) (d0.out.mono B5) n0 t0.out).mono ?_
  rintro e w6 ⟨ce0, le0, rfl, qe0, ee0, b6⟩
  replace qs0 := qs0.mono b6
  replace qk0 := qk0.mono b6
  have B6 := btrans B5 b6
  replace ee0 := Lib.hid ee0
  go_wp2_with fail
  refine (eqCardS_p ck0 ce0 lk0 le0 _ qk0.sl qk0.deep qe0.sl qe0.deep (ek0.out.trans (Eq.symm ee0.out))).mono ?_
  rintro e w7 ⟨rfl, b7⟩
  replace qs0 := qs0.mono b7
  replace qk0 := qk0.mono b7
  replace qe0 := qe0.mono b7
  have B7 := btrans B6 b7
  go_wp2_with fail
  go_ret
  exact ⟨rfl, B7⟩

set_option maxRecDepth 100000 in
theorem liftedWordCounts (os : Os) (started : os.Started) (H : Type) (enc : TypeId × Value → H) :
    ReturnsInHanded {} Try.checked os 5 .any (Rows.fnExactWordCountsSpec.pre6 enc Try.prog Try.f5 Rows.fnExactWordCountsRow.domain false) (Rows.fnExactWordCountsSpec.post enc Try.prog Try.f5 false true false false) := by
  refine returnsInHanded_of_change (C := Try.checked) own started (by kernel_rfl) Try.func5
    (ChangeSpec.witness6 (enc := enc) (C := Try.checked) false ⟨#[], #[.slice none 0 0, .string ByteArray.empty], []⟩ 8 (by kernel_rfl) (by kernel_rfl) (by kernel_rfl) (by kernel_rfl)) ?_
  intro W base args ds gs before hval0 hW _ _
  have hval : ∀ (j : Nat) t v, Try.f5.params[j]? = some t → args[j]? = some v → Value.okWide Try.prog W .any base t v := hval0
  have hW' := hW
  obtain ⟨p, q, hA0, hV, rfl, hfz, hnd⟩ := hW
  have hA : DataW.TrodAll enc Try.prog W 0 (fun _ => true) true Try.f5.params.toList args.toList ds p := hA0
  rw [Try.params5] at hA hval
  obtain ⟨v0, vs0, d0, ds0, p0, q0, hargs, rfl, rfl, h0, r0⟩ := trodAll_cons hA
  obtain ⟨v1, vs1, d1, ds1, p1, q1, rfl, rfl, rfl, h1, r1⟩ := trodAll_cons r0
  obtain ⟨rfl, rfl, rfl⟩ := trodAll_nil r1
  obtain rfl : args = #[v0, v1] := by cases args; simp_all
  obtain ⟨rfl, rfl⟩ := trodVars_none hV
  obtain ⟨l0, s0, u0, f0⟩ := readCardS h0 (hval 0 31 v0 rfl rfl)
  obtain ⟨s1, e1, f1⟩ := readString h1 (hval 1 9 v1 rfl rfl)
  have hcall : Calls Try.prog 5 #[v0, v1] W fun e w' => e = .returned (.bool true) ∧ Below W.heap.size W w' := by
    rw [e1]
    exact lawWordCounts v0 l0 s1 W s0 u0 f0 f1
  refine hcall.mono fun e W' ⟨he, hb⟩ => ?_
  subst he
  exact ⟨_, rfl, post_below (pa := p0 ++ (p1 ++ [])) rfl Try.underlying4 hW' rfl rfl rfl (fun sp hsp => (trodAll_cons_mk (WideElems.Trod_stays laidOut (by kernel_rfl) (of_decide_eq_true (by kernel_rfl)) h0 (fun x hx => hb.same (hW'.lt x (by simp [hx]))) (fun x hx => hsp x (by simp [hx]))) (trodAll_cons_mk (WideElems.Trod_stays laidOut (by kernel_rfl) (of_decide_eq_true (by kernel_rfl)) h1 (fun x hx => hb.same (hW'.lt x (by simp [hx]))) (fun x hx => hsp x (by simp [hx]))) trodAll_mk0))) (by simp) hb⟩

theorem holdsWordCounts : Rows.FnExactWordCountsSaid :=
  OpenClaim.holds_of_wide 5 Try.f5 rfl rfl rfl rfl rfl rfl rfl ⟨rfl, rfl, rfl, rfl, rfl⟩ rfl rfl rfl rfl rfl (by kernel_rfl) Try.func5 (by kernel_rfl)
    (of_decide_eq_true (by kernel_rfl)) (by unfold Func.isWrapper; first | (rw [if_pos (by decide +kernel)]; kernel_rfl) | (rw [if_neg (by decide +kernel)]; exact ⟨rfl, rfl⟩))
    (fun os started H enc _ => liftedWordCounts os started H enc)
end Go.Proofs.Ytemgcbmcjpgelaa
