/- The law FnExactParseCard holds: for every input it answers true, and the input reads behind the call as before. Condition: Go's listed variables read as they are laid (the card ties them). -/
import Derived.Test.YteainpflmofjaaaDoorMc24
import Derived.Test.YteainpflmofjaaaDoorPi24
import Derived.Test.YteainpflmofjaaaDoorNRead
import Derived.Test.YteainpflmofjaaaDoorEw24
import Derived.Lay
namespace Go.Proofs.YteainpflmofjaaaDoor
open Go.ChangeShapes Go.WideShapes Go.ChangeAt Go.RowKit
set_option maxHeartbeats 8000000 in
set_option maxRecDepth 100000 in
theorem lawParseCard (s : ByteArray) (w : World) (hz : s.size ≤ maxLen) (hE : Env w) : Calls Tryd.prog 3 #[.string s] w fun e w' => e = .returned (.bool true) ∧ Below w.heap.size w w' := by
  unfold maxLen at hz
  replace hE := Lib.hid hE
  by_cases hbig : 1048576 < s.size
  · go_enter Tryd.func3, Tryd.ntmps3
    go_wp2_with fail
    go_ret
    exact ⟨rfl, Below.refl _ _⟩
  have hs : s.size ≤ 1048576 := by omega
  go_enter Tryd.func3, Tryd.ntmps3
  go_wp2_with fail
  refine (specParseCard_c s w hs).mono ?_
  rintro e w1 ⟨x, ok, rfl, hP, hO, hxl, b1⟩
  replace hP := Lib.hid hP
  have hxb := Lib.hid (fun b hb => (hO.bounds b hb).2)
  replace hO := Lib.hid hO
  have z1 := b1.size
  go_wp2_with fail
  refine callsAt (fun w2 hw => ?_)
  have b2 : Below w1.heap.size w1 w2 := by rw [hw]; exact below_alloc _ _
  have bx : BoxAt w2 w1.heap.size x.enc := by rw [hw]; exact BoxAt.new _ _ _
  have hs2 : w2.heap.size = w1.heap.size + 1 := by rw [hw]; simp
  have B2 := btrans b1 b2
  replace hO := Lib.hid (hO.out.mono b2)
  clear hw b2 b1
  refine (parseCard_c s w2 (hE.out.mono B2) hs).mono ?_
  rintro e w3 ⟨y, ok', rfl, hP', hO', hyl, b3⟩
  obtain ⟨rfl, hbare⟩ := PQ.same hP' hP.out
  replace hbare := Lib.hid hbare
  have B3 := btrans B2 b3
  replace hO := Lib.hid (hO.out.mono b3)
  have hob := Lib.hid hO'.bounds
  replace hO' := Lib.hid hO'
  obtain ⟨q0, q1, q2⟩ : _ ∧ _ ∧ _ := ⟨cellOn b3 (bx.2 0 _ rfl), cellOn b3 (bx.2 1 _ rfl), cellOn b3 (bx.2 2 _ rfl)⟩
  have s3 := b3.size
  have ql : w1.heap.size < w3.heap.size := by omega
  clear bx b3 hP'
  go_wp2_with fail
  refine callsAt (fun w4 hw => ?_)
  have b4 : Below w3.heap.size w3 w4 := by rw [hw]; exact below_alloc _ _
  have by4 : BoxAt w4 w3.heap.size y.enc := by rw [hw]; exact BoxAt.new _ _ _
  have hs4 : w4.heap.size = w3.heap.size + 1 := by rw [hw]; simp
  have B4 := btrans B3 b4
  replace hO := Lib.hid (hO.out.mono b4)
  replace hO' := Lib.hid (hO'.out.mono b4)
  replace q0 := cellOn b4 q0
  replace q1 := cellOn b4 q1
  replace q2 := cellOn b4 q2
  clear hw b4
  refine (eqCard_p y x w4 (hO'.out.sl StrE.len) (hO.out.sl StrE.len) hbare.out).mono ?_
  rintro e w5 ⟨rfl, b5⟩
  obtain ⟨p0, p1, p2⟩ : _ ∧ _ ∧ _ := ⟨cellOn b5 (by4.2 0 _ rfl), cellOn b5 (by4.2 1 _ rfl), cellOn b5 (by4.2 2 _ rfl)⟩
  have B5 := btrans B4 b5
  replace hO := Lib.hid (hO.out.mono b5)
  replace hO' := Lib.hid (hO'.out.mono b5)
  replace q0 := cellOn b5 q0
  replace q1 := cellOn b5 q1
  replace q2 := cellOn b5 q2
  have s5 := b5.size
  clear b5 by4
  go_wp2_with fail
  refine (markCard_c y 1 w5 _ hO'.out (by omega) (by omega) (by omega)).mono ?_
  rintro e w6 ⟨rfl, hM, g6⟩
  have hB6 : ∀ g, (Value.slice y.a y.sub.length y.cap).ownBlock = some g → w2.heap.size ≤ g ∧ g < w3.heap.size := hob.out
  have B6 := Lib.hid (B5.grown g6 B5.size (fun g e => by have := (hB6 g e).1; omega))
  have nq : some w1.heap.size ≠ (Value.slice y.a y.sub.length y.cap).ownBlock := fun e => by have := (hB6 _ e.symm).1; omega
  have np : some w3.heap.size ≠ (Value.slice y.a y.sub.length y.cap).ownBlock := fun e => by have := (hB6 _ e.symm).2; omega
  replace q0 := cellGrown q0 g6 nq
  replace q1 := cellGrown q1 g6 nq
  replace q2 := cellGrown q2 g6 nq
  replace p0 := cellGrown p0 g6 np
  replace p1 := cellGrown p1 g6 np
  replace p2 := cellGrown p2 g6 np
  replace hO := Lib.hid (own_keep hO.out g6 (fun b hb e => by
    have h1 := hxb.out b hb
    have h2 := (hB6 b e).1
    omega))
  have s6 := g6.size
  replace hM := Lib.hid hM
  clear g6 nq np hB6 hO'
  go_wp2_with fail
  refine (heldCard_c y 1 w6 (hM.out.sl StrE.len) (by omega) (by omega) (by omega)).mono ?_
  rintro e w7 ⟨rfl, b7⟩
  replace B6 := Lib.hid (btrans B6.out b7)
  replace hO := Lib.hid (hO.out.mono b7)
  replace hM := Lib.hid (hM.out.mono b7)
  replace q0 := cellOn b7 q0
  replace q1 := cellOn b7 q1
  replace q2 := cellOn b7 q2
  replace p0 := cellOn b7 p0
  replace p1 := cellOn b7 p1
  replace p2 := cellOn b7 p2
  have s7 := b7.size
  clear b7
  have hnn : ¬ (1 : Int) + (y.sub.length : Int) < 0 := by omega
  go_wp2_with fail
  refine (parseCard_c s w7 (hE.out.mono B6.out) hs).mono ?_
  rintro e w8 ⟨z, ok'', rfl, hP', hO', hzl, b8⟩
  obtain ⟨rfl, hbare2⟩ := PQ.same hP' hP.out
  replace hbare2 := Lib.hid hbare2
  replace B6 := Lib.hid (btrans B6.out b8)
  replace hO := Lib.hid (hO.out.mono b8)
  replace hM := Lib.hid (hM.out.mono b8)
  replace hO' := Lib.hid hO'
  replace q0 := cellOn b8 q0
  replace q1 := cellOn b8 q1
  replace q2 := cellOn b8 q2
  replace p0 := cellOn b8 p0
  replace p1 := cellOn b8 p1
  replace p2 := cellOn b8 p2
  have s8 := b8.size
  have ql8 : w1.heap.size < w8.heap.size := by omega
  have pl8 : w3.heap.size < w8.heap.size := by omega
  clear b8 hP'
  go_wp2_with fail
  refine callsAt (fun w9 hw => ?_)
  have b9 : Below w8.heap.size w8 w9 := by rw [hw]; exact below_alloc _ _
  replace B6 := Lib.hid (btrans B6.out b9)
  replace hO := Lib.hid (hO.out.mono b9)
  replace hM := Lib.hid (hM.out.mono b9)
  replace hO' := Lib.hid (hO'.out.mono b9)
  replace p0 := cellOn b9 p0
  replace p1 := cellOn b9 p1
  replace p2 := cellOn b9 p2
  clear hw b9 q0 q1 q2
  refine (eqCard_p z x w9 (hO'.out.sl StrE.len) (hO.out.sl StrE.len) hbare2.out).mono ?_
  rintro e w10 ⟨rfl, b10⟩
  replace B6 := Lib.hid (btrans B6.out b10)
  replace hM := Lib.hid (hM.out.mono b10)
  replace p0 := cellOn b10 p0
  replace p1 := cellOn b10 p1
  replace p2 := cellOn b10 p2
  clear b10
  go_wp2_with fail
  refine (heldCard_c y 1 w10 (hM.out.sl StrE.len) (by omega) (by omega) (by omega)).mono ?_
  rintro e w11 ⟨rfl, b11⟩
  replace B6 := Lib.hid (btrans B6.out b11)
  clear b11
  go_wp2_with fail
  go_ret
  exact ⟨rfl, B6.out⟩

set_option maxRecDepth 100000 in
theorem liftedParseCard (os : Os) (started : os.Started) (H : Type) (enc : TypeId × Value → H) :
    ReturnsInHanded {} Tryd.checked os 3 .any (fun w args => (Rows.fnExactParseCardSpec.pre enc Tryd.prog Tryd.f3 [] false w args ∧ laidMetH Tryd.prog Rows.fnExactParseCardRow.laid w) ∧ sizedMet enc Tryd.prog Tryd.f3 (OpenSpec.ofChange Rows.fnExactParseCardSpec) false w args)
      (Rows.fnExactParseCardSpec.post enc Tryd.prog Tryd.f3 false true false false) := by
  refine returnsInHanded_and_shaped (C := Tryd.checked) (X := fun w _ => laidMetH Tryd.prog Rows.fnExactParseCardRow.laid w) (fun _ _ _ hh h => h.of_heap hh) own started (by kernel_rfl) Tryd.func3
    (ChangeSpec.witness_shaped (enc := enc) (C := Tryd.checked) (os := os) (X := fun w _ => laidMetH Tryd.prog Rows.fnExactParseCardRow.laid w) false (World.laidAll Tryd.prog os Rows.fnExactParseCardRow.laid) #[.string ByteArray.empty] 8 (World.laidAll_os _ _ _)
      (World.shaped_of_ZipB (by kernel_rfl) (by kernel_rfl)) (by kernel_rfl) (by kernel_rfl) (by kernel_rfl)
      (by rw [MakeChecks.laidMetH_plain _ _ _ (by kernel_rfl)]; exact laidMet_laidAll _ (by kernel_rfl) (by kernel_rfl))) ?_
  intro W base args ds gs before hval0 hW hL hSh
  have hval : ∀ (j : Nat) t v, Tryd.f3.params[j]? = some t → args[j]? = some v → Value.okWide Tryd.prog W .any base t v := hval0
  have hW' := hW
  obtain ⟨p, q, hA0, hV, rfl, hfz, hnd⟩ := hW
  have hA : DataW.TrodAll enc Tryd.prog W 0 (fun _ => true) true Tryd.f3.params.toList args.toList ds p := hA0
  rw [Tryd.params3] at hA hval
  obtain ⟨v0, vs0, d0, ds0, p0, q0, hargs, rfl, rfl, h0, r0⟩ := trodAll_cons hA
  obtain ⟨rfl, rfl, rfl⟩ := trodAll_nil r0
  obtain rfl : args = #[v0] := by cases args; simp_all
  obtain ⟨rfl, rfl⟩ := trodVars_none hV
  obtain ⟨s0, e0, f0⟩ := readString h0 (hval 0 9 v0 rfl rfl)
  have hcall : Calls Tryd.prog 3 #[v0] W fun e w' => e = .returned (.bool true) ∧ Below W.heap.size W w' := by
    rw [e0]
    exact lawParseCard s0 W f0 (env_of hL hSh)
  refine hcall.mono fun e W' ⟨he, hb⟩ => ?_
  subst he
  exact ⟨_, rfl, post_below (pa := p0 ++ []) rfl Tryd.underlying4 hW' rfl rfl rfl (fun sp hsp => (trodAll_cons_mk (WideElems.Trod_stays laidOut (by kernel_rfl) (of_decide_eq_true (by kernel_rfl)) h0 (fun x hx => hb.same (hW'.lt x (by simp [hx]))) (fun x hx => hsp x (by simp [hx]))) trodAll_mk0)) (by simp) hb⟩

theorem rowParseCard : Rows.FnExactParseCardSaid :=
  OpenClaim.holds_of_wide 3 Tryd.f3 rfl rfl rfl rfl rfl rfl rfl ⟨rfl, rfl, rfl, rfl, rfl⟩ rfl rfl rfl rfl rfl (by kernel_rfl) Tryd.func3 (by kernel_rfl)
    (of_decide_eq_true (by kernel_rfl)) (by unfold Func.isWrapper; first | (rw [if_pos (by decide +kernel)]; kernel_rfl) | (rw [if_neg (by decide +kernel)]; exact ⟨rfl, rfl⟩))
    (fun os started H enc _ => liftedParseCard os started H enc)
theorem holdsParseCard : Rows.FnExactParseCardCardSaid :=
  Claim7.holds_tied_plain_at .later Rows.fnExactParseCardCard.alts Rows.fnExactParseCardCard.laidKinds Rows.fnExactParseCardCard.laidTests Rows.fnExactParseCardCard.stood.harness Rows.fnExactParseCardCard.stood.looks
    rowParseCard (fun _ h => by cases h) (by kernel_rfl) (fun _ h => by cases h) fnExactParseCard_row_tie rfl ⟨rfl, rfl⟩ (by kernel_rfl) rfl
    (fun f fn hf hfn => by
      obtain rfl : f = 3 := Option.some.inj ((show Tryd.prog.funcNamed "loop.example/g01060/laws.FnExactParseCard" = some 3 by kernel_rfl).symm.trans hf) |>.symm
      obtain rfl : fn = Tryd.f3 := (Option.some.inj (Tryd.func3.symm.trans hfn)).symm
      exact ⟨by kernel_rfl, fun j t ht => by
        rw [Tryd.params3] at ht
        have hall : ∀ t, t ∈ Tryd.f3.params.toList → Tryd.prog.wantsStandIn t = false := by
          rw [Tryd.params3]
          intro t ht
          simp at ht
          first | (subst ht; kernel_rfl) | (rcases ht with rfl | rfl <;> kernel_rfl) | (rcases ht with rfl | rfl | rfl <;> kernel_rfl)
        refine hall t ?_
        rw [Tryd.params3]
        exact List.mem_of_getElem? (by simpa using ht)⟩)
    (by kernel_rfl)
end Go.Proofs.YteainpflmofjaaaDoor
