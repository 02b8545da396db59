/- The law FnExactDamageText holds: for every input it answers true, and each argument reads behind the call as before. Condition: the listed tables of Go's library read as they are laid (the card ties them). -/
import Derived.Test.YtkflcpfekaddpaaDoorTd22
import Derived.Test.YtkflcpfekaddpaaDoorRead
import Derived.Test.YtkflcpfekaddpaaDoorTie
import Derived.Test.YtkflcpfekaddpaaDoorCards
import Derived.LaidMore
import Derived.MakeChecks
import Derived.SevenTiedAt
import Derived.LaidSub
import Derived.Stop.Joined
namespace Go.Proofs.YtkflcpfekaddpaaDoor
open Go.ChangeShapes Go.WideShapes Go.ChangeAt Go.RowKit
set_option maxHeartbeats 4000000 in
theorem lawDamageText (x0 : Dmg) (w : World) (ht : Tab w) : Calls Tryd.prog 6 #[.agg x0.enc.toArray] w fun e w' => e = .returned (.bool true) ∧ Below w.heap.size w w' := by
  obtain ⟨x0s, x0t, x0f, x0st⟩ := x0
  show Calls Tryd.prog 6 #[.agg #[.int .i64 x0s, .int .i64 x0t, .int .i64 x0f, .int .i64 x0st]] w _
  have bx0 := BoxAt.new (w) [.int .i64 x0s, .int .i64 x0t, .int .i64 x0f, .int .i64 x0st] 64
  have HTB := Lib.hid (fun (W0 W : World) (h0 : Below w.heap.size w W0) (hb : Below W0.heap.size W0 W) => (ht.mono h0).mono hb)
  clear ht
  go_enter Tryd.func6, Tryd.ntmps6
  go_wp2_with fail
  refine (toDamage_c x0s x0t x0f x0st _).mono ?_
  rintro e w1 ⟨rfl, b1⟩
  have S1 := b1.size
  have B1 := b1
  obtain ⟨y00, y01, y02, y03⟩ : w1.cell? ⟨_, 0, none⟩ = some (.int .i64 x0s) ∧ w1.cell? ⟨_, 1, none⟩ = some (.int .i64 x0t) ∧ w1.cell? ⟨_, 2, none⟩ = some (.int .i64 x0f) ∧ w1.cell? ⟨_, 3, none⟩ = some (.int .i64 x0st) := ⟨(bx0.mono B1).2 0 _ rfl, (bx0.mono B1).2 1 _ rfl, (bx0.mono B1).2 2 _ rfl, (bx0.mono B1).2 3 _ rfl⟩
  go_wp2_with fail
  refine (specDamageText_c ⟨x0s, x0t, x0f, x0st⟩ _).mono ?_
  rintro e w2 ⟨rfl, b2⟩
  have S2 := b2.size
  have B2 := btrans B1 b2
  clear y00 y01 y02 y03
  obtain ⟨y00, y01, y02, y03⟩ : w2.cell? ⟨_, 0, none⟩ = some (.int .i64 x0s) ∧ w2.cell? ⟨_, 1, none⟩ = some (.int .i64 x0t) ∧ w2.cell? ⟨_, 2, none⟩ = some (.int .i64 x0f) ∧ w2.cell? ⟨_, 3, none⟩ = some (.int .i64 x0st) := ⟨(bx0.mono B2).2 0 _ rfl, (bx0.mono B2).2 1 _ rfl, (bx0.mono B2).2 2 _ rfl, (bx0.mono B2).2 3 _ rfl⟩
  go_wp2_with fail
  refine (toDamage_c x0s x0t x0f x0st _).mono ?_
  rintro e w3 ⟨rfl, b3⟩
  have S3 := b3.size
  have B3 := btrans B2 b3
  clear y00 y01 y02 y03
  obtain ⟨y00, y01, y02, y03⟩ : w3.cell? ⟨_, 0, none⟩ = some (.int .i64 x0s) ∧ w3.cell? ⟨_, 1, none⟩ = some (.int .i64 x0t) ∧ w3.cell? ⟨_, 2, none⟩ = some (.int .i64 x0f) ∧ w3.cell? ⟨_, 3, none⟩ = some (.int .i64 x0st) := ⟨(bx0.mono B3).2 0 _ rfl, (bx0.mono B3).2 1 _ rfl, (bx0.mono B3).2 2 _ rfl, (bx0.mono B3).2 3 _ rfl⟩
  go_wp2_with fail
  refine (damageText_c ⟨x0s, x0t, x0f, x0st⟩ _ (HTB.out _ _ (below_alloc _ _) B3)).mono ?_
  rintro e w4 ⟨rfl, b4⟩
  have S4 := b4.size
  have B4 := btrans B3 b4
  clear y00 y01 y02 y03
  obtain ⟨y00, y01, y02, y03⟩ : w4.cell? ⟨_, 0, none⟩ = some (.int .i64 x0s) ∧ w4.cell? ⟨_, 1, none⟩ = some (.int .i64 x0t) ∧ w4.cell? ⟨_, 2, none⟩ = some (.int .i64 x0f) ∧ w4.cell? ⟨_, 3, none⟩ = some (.int .i64 x0st) := ⟨(bx0.mono B4).2 0 _ rfl, (bx0.mono B4).2 1 _ rfl, (bx0.mono B4).2 2 _ rfl, (bx0.mono B4).2 3 _ rfl⟩
  go_wp2_with fail
  go_ret
  exact ⟨rfl, btrans (below_alloc _ _) B4⟩

/-- what the row's condition gives: Go's table reads as it is laid -/
theorem tab_of_laid {W : World} (h : laidMetH Tryd.prog Rows.fnExactDamageTextRow.laid W) : Tab W := by
  have h2 := h.filter (fun x => x.1 == "internal/strconv.uint64pow10")
  have e : (Rows.fnExactDamageTextRow.laid.filter fun x => x.1 == "internal/strconv.uint64pow10") = [("internal/strconv.uint64pow10", Lib.tabData .u64 Lib.pow10Tab)] := by kernel_rfl
  rw [e, MakeChecks.laidMetH_plain _ _ _ (by kernel_rfl)] at h2
  exact Lib.tabIs_of_head (P := Tryd.prog) (g := 0) (t := 168) (e := 102) (by kernel_rfl) (by kernel_rfl) Tryd.underlying168 Tryd.underlying102 (by kernel_rfl) (by kernel_rfl) h2
theorem door_met (os : Os) (args : Array Value) : laidMetH Tryd.prog Rows.fnExactDamageTextRow.laid ((World.doorLaid Tryd.prog 400 os).forCall (fun _ _ => 0) ⟨#[], args, []⟩).memory :=
  laidMetH_of_parts3 (fuel := 8) (laidMet_of_run' 8 (by kernel_rfl) (by kernel_rfl)) (by kernel_rfl) (by kernel_rfl)
set_option maxRecDepth 100000 in
theorem liftedDamageText (os : Os) (started : os.Started) (H : Type) (enc : TypeId × Value → H) :
    ReturnsInHanded {} Tryd.checked os 6 .any (fun w args => (Rows.fnExactDamageTextSpec.pre enc Tryd.prog Tryd.f6 [] false w args ∧ laidMetH Tryd.prog Rows.fnExactDamageTextRow.laid w) ∧ sizedMet enc Tryd.prog Tryd.f6 (OpenSpec.ofChange Rows.fnExactDamageTextSpec) false w args)
      (Rows.fnExactDamageTextSpec.post enc Tryd.prog Tryd.f6 false true false false) := by
  refine returnsInHanded_of_change_and (C := Tryd.checked) (X := fun w _ => laidMetH Tryd.prog Rows.fnExactDamageTextRow.laid w) (fun _ _ _ hh h => h.of_heap hh) own started (by kernel_rfl) Tryd.func6
    (ChangeSpec.witness_shaped (enc := enc) (C := Tryd.checked) (os := os) (X := fun w _ => laidMetH Tryd.prog Rows.fnExactDamageTextRow.laid w) false (World.doorLaid Tryd.prog 400 os) #[.agg #[.int .i64 0, .int .i64 0, .int .i64 0, .int .i64 0]] 8 rfl (World.shaped_of_RefB (by kernel_rfl) (by kernel_rfl)) (by kernel_rfl) (by kernel_rfl) (by kernel_rfl) (door_met os _)) ?_
  intro W base args ds gs before hval0 hW _ _ hL _
  have hval : ∀ (j : Nat) t v, Tryd.f6.params[j]? = some t → args[j]? = some v → Value.okWide Tryd.prog W .any base t v := hval0
  have hW' := hW
  obtain ⟨p, q, hA0, hV, rfl, hfz, hnd⟩ := hW
  have hA : DataW.TrodAll enc Tryd.prog W 0 (fun _ => true) true Tryd.f6.params.toList args.toList ds p := hA0
  rw [Tryd.params6] at hA hval
  obtain ⟨v0, vs0, d0, ds0, p0, q0, hargs, rfl, rfl, h0, r0⟩ := trodAll_cons hA
  obtain ⟨rfl, rfl, rfl⟩ := trodAll_nil r0
  obtain rfl : args = #[v0] := by cases args; simp_all
  obtain ⟨rfl, rfl⟩ := trodVars_none hV
  obtain ⟨x0, e0⟩ := readDamage h0 (hval 0 64 v0 rfl rfl)
  have hcall : Calls Tryd.prog 6 #[v0] W fun e w' => e = .returned (.bool true) ∧ Below W.heap.size W w' := by
    rw [e0]
    exact lawDamageText x0 W (tab_of_laid hL) 
  refine hcall.mono fun e W' ⟨he, hb⟩ => ?_
  subst he
  exact ⟨_, rfl, post_below (pa := p0 ++ []) rfl Tryd.underlying4 hW' rfl rfl rfl (fun sp hsp => (trodAll_cons_mk (WideElems.Trod_stays laidOut (by kernel_rfl) (of_decide_eq_true (by kernel_rfl)) h0 (fun x hx => hb.same (hW'.lt x (by simp [hx]))) (fun x hx => hsp x (by simp [hx]))) trodAll_mk0)) (by simp) hb⟩

theorem rowDamageText : Rows.FnExactDamageTextSaid :=
  OpenClaim.holds_of_wide 6 Tryd.f6 rfl rfl rfl rfl rfl rfl rfl ⟨rfl, rfl, rfl, rfl, rfl⟩ rfl rfl rfl rfl rfl (by kernel_rfl) Tryd.func6 (by kernel_rfl)
    (of_decide_eq_true (by kernel_rfl)) (by unfold Func.isWrapper; first | (rw [if_pos (by decide +kernel)]; kernel_rfl) | (rw [if_neg (by decide +kernel)]; exact ⟨rfl, rfl⟩))
    (fun os started H enc _ => liftedDamageText os started H enc)
theorem holdsDamageText : Rows.FnExactDamageTextCardSaid :=
  Claim7.holds_tied_plain_at .later Rows.fnExactDamageTextCard.alts Rows.fnExactDamageTextCard.laidKinds Rows.fnExactDamageTextCard.laidTests Rows.fnExactDamageTextCard.stood.harness Rows.fnExactDamageTextCard.stood.looks
    rowDamageText (fun _ h => by cases h) (by kernel_rfl) (fun _ h => by cases h) fnExactDamageText_row_tie rfl ⟨rfl, rfl⟩ (by kernel_rfl) rfl
    (fun f fn hf hfn => by
      obtain rfl : f = 6 := Option.some.inj ((show Tryd.prog.funcNamed "loop.example/g01060/laws.FnExactDamageText" = some 6 by kernel_rfl).symm.trans hf) |>.symm
      obtain rfl : fn = Tryd.f6 := (Option.some.inj (Tryd.func6.symm.trans hfn)).symm
      exact ⟨by kernel_rfl, fun j t ht => by
        rw [Tryd.params6] at ht
        have hall : ∀ t, t ∈ Tryd.f6.params.toList → Tryd.prog.wantsStandIn t = false := by
          rw [Tryd.params6]
          intro t ht
          simp at ht
          first | (subst ht; kernel_rfl) | (rcases ht with rfl | rfl <;> kernel_rfl) | (rcases ht with rfl | rfl | rfl <;> kernel_rfl)
        refine hall t ?_
        rw [Tryd.params6]
        exact List.mem_of_getElem? (by simpa using ht)⟩)
    (by kernel_rfl)
end Go.Proofs.YtkflcpfekaddpaaDoor
