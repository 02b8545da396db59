/- The law FnExactChestText holds: for every input it answers true, and each argument reads behind the call as before. Condition: the listed tables of Go's library read as they are laid (the card ties them). -/
import Derived.Test.YtkflcpfekaddpaaDoorTc21
import Derived.Test.YtkflcpfekaddpaaDoorTe21
import Derived.Test.YtkflcpfekaddpaaDoorHeld
import Derived.Test.YtkflcpfekaddpaaDoorRead
import Derived.Test.YtkflcpfekaddpaaDoorTie
import Derived.Test.YtkflcpfekaddpaaDoorCards
import Derived.LaidMore
import Derived.MakeChecks
import Derived.SevenTiedAt
import Derived.LaidSub
import Derived.Stop.Joined
namespace Go.Proofs.YtkflcpfekaddpaaDoor
open Go.ChangeShapes Go.WideShapes Go.ChangeAt Go.RowKit
set_option maxHeartbeats 4000000 in
theorem lawChestText (xst xkey xdu xla xgi : Int) (v : Value) (l : List Int) (w : World) (h0 : Sl w IntE.enc 1 v l) (ht : Tab w) : Calls Tryd.prog 5 #[.agg #[.int .i64 xst, .int .i64 xkey, v, .int .i64 xdu, .int .i64 xla, .int .i64 xgi]] w fun e w' => e = .returned (.bool true) ∧ Below w.heap.size w w' := by
  have h0s := h0
  have HTB := Lib.hid (fun W (hb : Below w.heap.size w W) => ht.mono hb)
  clear ht
  obtain ⟨a0, cap0, b0, o0, rfl, hk0, hm0, _⟩ := h0s
  have Z0 := fun W => szChest_c ⟨xst, xkey, xdu, xla, xgi⟩ a0 l.length cap0 1048576 W (Nat.le_trans hk0 hm0) (by omega) (by omega)
  have T0 := fun W h hl => toChest_c ⟨xst, xkey, xdu, xla, xgi⟩ (.slice a0 l.length cap0) l W h hl
  unfold cval at Z0 T0
  dsimp only at Z0 T0
  replace T0 := Lib.hid T0
  have bx := Lib.hid (BoxAt.new w [.int .i64 xst, .int .i64 xkey, .slice a0 l.length cap0, .int .i64 xdu, .int .i64 xla, .int .i64 xgi] 56)
  have A0 := below_alloc w (.cells ([.int .i64 xst, .int .i64 xkey, .slice a0 l.length cap0, .int .i64 xdu, .int .i64 xla, .int .i64 xgi] : List Value).toArray 56)
  rcases szN_or 1048576 l.length with e | ⟨hp, hq, hr⟩
  · rw [e] at Z0
    replace Z0 := Lib.hid Z0
    clear e
    go_enter Tryd.func5, Tryd.ntmps5
    go_wp2_with (go_at_call 32; refine (Z0.out _).mono ?_; rintro e w' ⟨rfl, hbq⟩; obtain ⟨p, rfl⟩ := ext_of_below hbq; clear hbq)
    go_ret
    exact ⟨rfl, bext A0 (by simp) _⟩
  generalize szN 1048576 l.length = r0 at Z0 hp hq
  replace Z0 := Lib.hid Z0
  go_enter Tryd.func5, Tryd.ntmps5
  go_wp2_with fail
  refine (Z0.out _).mono ?_
  rintro e w1 ⟨rfl, b1⟩
  have B1 := btrans A0 b1
  obtain ⟨y0, y1, y2, y3, y4, y5⟩ : w1.cell? ⟨_, 0, none⟩ = some (.int .i64 xst) ∧ w1.cell? ⟨_, 1, none⟩ = some (.int .i64 xkey) ∧ w1.cell? ⟨_, 2, none⟩ = some (.slice a0 l.length cap0) ∧ w1.cell? ⟨_, 3, none⟩ = some (.int .i64 xdu) ∧ w1.cell? ⟨_, 4, none⟩ = some (.int .i64 xla) ∧ w1.cell? ⟨_, 5, none⟩ = some (.int .i64 xgi) :=
    ⟨(bx.out.mono b1).2 0 _ rfl, (bx.out.mono b1).2 1 _ rfl, (bx.out.mono b1).2 2 _ rfl, (bx.out.mono b1).2 3 _ rfl, (bx.out.mono b1).2 4 _ rfl, (bx.out.mono b1).2 5 _ rfl⟩
  go_wp2_with fail
  refine (T0.out _ (h0.mono B1) (by omega)).mono ?_
  rintro e w2 ⟨cs, rfl, qs, b2⟩
  have B2 := btrans B1 b2
  replace y0 := cellOn b2 y0
  replace y1 := cellOn b2 y1
  replace y2 := cellOn b2 y2
  replace y3 := cellOn b2 y3
  replace y4 := cellOn b2 y4
  replace y5 := cellOn b2 y5
  go_wp2_with fail
  refine (specChestText_c ⟨xst, xkey, xdu, xla, xgi⟩ cs l _ (qs.sl IntE.len)).mono ?_
  rintro e w3 ⟨rfl, b3⟩
  have B3 := btrans B2 b3
  replace y0 := cellOn b3 y0
  replace y1 := cellOn b3 y1
  replace y2 := cellOn b3 y2
  replace y3 := cellOn b3 y3
  replace y4 := cellOn b3 y4
  replace y5 := cellOn b3 y5
  go_wp2_with fail
  refine (T0.out _ (h0.mono B3) (by omega)).mono ?_
  rintro e w4 ⟨ck, rfl, qk, b4⟩
  have B4 := btrans B3 b4
  replace y0 := cellOn b4 y0
  replace y1 := cellOn b4 y1
  replace y2 := cellOn b4 y2
  replace y3 := cellOn b4 y3
  replace y4 := cellOn b4 y4
  replace y5 := cellOn b4 y5
  have sk := qk.sl IntE.len
  obtain ⟨ak, capk, bk, ok, rfl, _, _, _⟩ := sk
  simp only [cval]
  go_wp2_with fail
  refine callsAt fun W5 e5 => ?_
  have b5 : Below w4.heap.size w4 W5 := by rw [e5]; go_grown
  obtain ⟨x0, x1, x2, x3, x4, x5⟩ : W5.cell? ⟨w4.heap.size, 0, none⟩ = some (.int .i64 xst) ∧ W5.cell? ⟨w4.heap.size, 1, none⟩ = some (.int .i64 xkey) ∧ W5.cell? ⟨w4.heap.size, 2, none⟩ = some (.slice ak l.length capk) ∧ W5.cell? ⟨w4.heap.size, 3, none⟩ = some (.int .i64 xdu) ∧ W5.cell? ⟨w4.heap.size, 4, none⟩ = some (.int .i64 xla) ∧ W5.cell? ⟨w4.heap.size, 5, none⟩ = some (.int .i64 xgi) := by
    rw [e5]; simp
  clear e5
  have B5 := btrans B4 b5
  replace qk := qk.mono b5
  replace y0 := cellOn b5 y0
  replace y1 := cellOn b5 y1
  replace y2 := cellOn b5 y2
  replace y3 := cellOn b5 y3
  replace y4 := cellOn b5 y4
  replace y5 := cellOn b5 y5
  refine (chestText_c ⟨xst, xkey, xdu, xla, xgi⟩ (.slice ak l.length capk) l _ (qk.sl IntE.len) (HTB.out _ B5)).mono ?_
  rintro e w6 ⟨rfl, b6⟩
  have B6 := btrans B5 b6
  replace qk := qk.mono b6
  have HS : (Below w.heap.size w w6 ∧ w.heap.size ≤ w6.heap.size) ∧ w6.cell? ⟨w.heap.size, 0, none⟩ = some (.int .i64 xst) ∧ w6.cell? ⟨w.heap.size, 1, none⟩ = some (.int .i64 xkey) ∧ w6.cell? ⟨w.heap.size, 2, none⟩ = some (.slice a0 l.length cap0) ∧ w6.cell? ⟨w.heap.size, 3, none⟩ = some (.int .i64 xdu) ∧ w6.cell? ⟨w.heap.size, 4, none⟩ = some (.int .i64 xla) ∧ w6.cell? ⟨w.heap.size, 5, none⟩ = some (.int .i64 xgi) ∧ w6.cell? ⟨w4.heap.size, 0, none⟩ = some (.int .i64 xst) ∧ w6.cell? ⟨w4.heap.size, 1, none⟩ = some (.int .i64 xkey) ∧ w6.cell? ⟨w4.heap.size, 2, none⟩ = some (.slice ak l.length capk) ∧ w6.cell? ⟨w4.heap.size, 3, none⟩ = some (.int .i64 xdu) ∧ w6.cell? ⟨w4.heap.size, 4, none⟩ = some (.int .i64 xla) ∧ w6.cell? ⟨w4.heap.size, 5, none⟩ = some (.int .i64 xgi) :=
    ⟨⟨B6, B6.size⟩, cellOn b6 y0, cellOn b6 y1, cellOn b6 y2, cellOn b6 y3, cellOn b6 y4, cellOn b6 y5, cellOn b6 x0, cellOn b6 x1, cellOn b6 x2, cellOn b6 x3, cellOn b6 x4, cellOn b6 x5⟩
  go_wp2_with fail
  have D := drewOn w6
  go_region_held3 (fun W => (Below w.heap.size w W ∧ w.heap.size ≤ W.heap.size) ∧ W.cell? ⟨w.heap.size, 0, none⟩ = some (.int .i64 xst) ∧ W.cell? ⟨w.heap.size, 1, none⟩ = some (.int .i64 xkey) ∧ W.cell? ⟨w.heap.size, 2, none⟩ = some (.slice a0 l.length cap0) ∧ W.cell? ⟨w.heap.size, 3, none⟩ = some (.int .i64 xdu) ∧ W.cell? ⟨w.heap.size, 4, none⟩ = some (.int .i64 xla) ∧ W.cell? ⟨w.heap.size, 5, none⟩ = some (.int .i64 xgi) ∧ W.cell? ⟨w4.heap.size, 0, none⟩ = some (.int .i64 xst) ∧ W.cell? ⟨w4.heap.size, 1, none⟩ = some (.int .i64 xkey) ∧ W.cell? ⟨w4.heap.size, 2, none⟩ = some (.slice ak l.length capk) ∧ W.cell? ⟨w4.heap.size, 3, none⟩ = some (.int .i64 xdu) ∧ W.cell? ⟨w4.heap.size, 4, none⟩ = some (.int .i64 xla) ∧ W.cell? ⟨w4.heap.size, 5, none⟩ = some (.int .i64 xgi)) (refine keep12 (by assumption) (by assumption))
    (first | (go_at_call 34; refine (T0.out _ (h0.mono (And.left (And.left (by assumption : (Below w.heap.size w _ ∧ _) ∧ _)))) (by omega)).mono ?_; rintro e w7 ⟨ce, rfl, qe, b7⟩) | (go_at_call 36; refine (eqChest_c ⟨xst, xkey, xdu, xla, xgi⟩ (.slice ak l.length capk) ce l _ ((qk.mono (btrans D b7)).sl IntE.len) (qe.sl IntE.len)).mono ?_; rintro e w8 ⟨rfl, b8⟩))
  go_wp2_with fail
  go_ret
  exact ⟨rfl, And.left (And.left (by assumption : (Below w.heap.size w _ ∧ _) ∧ _))⟩

/-- what the row's condition gives: Go's table reads as it is laid -/
theorem tab_of_laid {W : World} (h : laidMetH Tryd.prog Rows.fnExactChestTextRow.laid W) : Tab W := by
  have h2 := h.filter (fun x => x.1 == "internal/strconv.uint64pow10")
  have e : (Rows.fnExactChestTextRow.laid.filter fun x => x.1 == "internal/strconv.uint64pow10") = [("internal/strconv.uint64pow10", Lib.tabData .u64 Lib.pow10Tab)] := by kernel_rfl
  rw [e, MakeChecks.laidMetH_plain _ _ _ (by kernel_rfl)] at h2
  exact Lib.tabIs_of_head (P := Tryd.prog) (g := 0) (t := 168) (e := 102) (by kernel_rfl) (by kernel_rfl) Tryd.underlying168 Tryd.underlying102 (by kernel_rfl) (by kernel_rfl) h2
theorem door_met (os : Os) (args : Array Value) : laidMetH Tryd.prog Rows.fnExactChestTextRow.laid ((World.doorLaid Tryd.prog 400 os).forCall (fun _ _ => 0) ⟨#[], args, []⟩).memory :=
  laidMetH_of_parts3 (fuel := 8) (laidMet_of_run' 8 (by kernel_rfl) (by kernel_rfl)) (by kernel_rfl) (by kernel_rfl)
set_option maxRecDepth 100000 in
theorem liftedChestText (os : Os) (started : os.Started) (H : Type) (enc : TypeId × Value → H) :
    ReturnsInHanded {} Tryd.checked os 5 .any (fun w args => (Rows.fnExactChestTextSpec.pre enc Tryd.prog Tryd.f5 [] false w args ∧ laidMetH Tryd.prog Rows.fnExactChestTextRow.laid w) ∧ sizedMet enc Tryd.prog Tryd.f5 (OpenSpec.ofChange Rows.fnExactChestTextSpec) false w args)
      (Rows.fnExactChestTextSpec.post enc Tryd.prog Tryd.f5 false true false false) := by
  refine returnsInHanded_of_change_and (C := Tryd.checked) (X := fun w _ => laidMetH Tryd.prog Rows.fnExactChestTextRow.laid w) (fun _ _ _ hh h => h.of_heap hh) own started (by kernel_rfl) Tryd.func5
    (ChangeSpec.witness_shaped (enc := enc) (C := Tryd.checked) (os := os) (X := fun w _ => laidMetH Tryd.prog Rows.fnExactChestTextRow.laid w) false (World.doorLaid Tryd.prog 400 os) #[.agg #[.int .i64 0, .int .i64 0, .slice none 0 0, .int .i64 0, .int .i64 0, .int .i64 0]] 8 rfl (World.shaped_of_RefB (by kernel_rfl) (by kernel_rfl)) (by kernel_rfl) (by kernel_rfl) (by kernel_rfl) (door_met os _)) ?_
  intro W base args ds gs before hval0 hW _ _ hL _
  have hval : ∀ (j : Nat) t v, Tryd.f5.params[j]? = some t → args[j]? = some v → Value.okWide Tryd.prog W .any base t v := hval0
  have hW' := hW
  obtain ⟨p, q, hA0, hV, rfl, hfz, hnd⟩ := hW
  have hA : DataW.TrodAll enc Tryd.prog W 0 (fun _ => true) true Tryd.f5.params.toList args.toList ds p := hA0
  rw [Tryd.params5] at hA hval
  obtain ⟨v0, vs0, d0, ds0, p0, q0, hargs, rfl, rfl, h0, r0⟩ := trodAll_cons hA
  obtain ⟨rfl, rfl, rfl⟩ := trodAll_nil r0
  obtain rfl : args = #[v0] := by cases args; simp_all
  obtain ⟨rfl, rfl⟩ := trodVars_none hV
  obtain ⟨xa, xb, xs, l, xc, xd, xe, e0, s0⟩ := readChest h0 (hval 0 56 v0 rfl rfl)
  have hcall : Calls Tryd.prog 5 #[v0] W fun e w' => e = .returned (.bool true) ∧ Below W.heap.size W w' := by
    rw [e0]
    exact lawChestText xa xb xc xd xe xs l W s0 (tab_of_laid hL)
  refine hcall.mono fun e W' ⟨he, hb⟩ => ?_
  subst he
  exact ⟨_, rfl, post_below (pa := p0 ++ []) rfl Tryd.underlying4 hW' rfl rfl rfl (fun sp hsp => (trodAll_cons_mk (WideElems.Trod_stays laidOut (by kernel_rfl) (of_decide_eq_true (by kernel_rfl)) h0 (fun x hx => hb.same (hW'.lt x (by simp [hx]))) (fun x hx => hsp x (by simp [hx]))) trodAll_mk0)) (by simp) hb⟩

theorem rowChestText : Rows.FnExactChestTextSaid :=
  OpenClaim.holds_of_wide 5 Tryd.f5 rfl rfl rfl rfl rfl rfl rfl ⟨rfl, rfl, rfl, rfl, rfl⟩ rfl rfl rfl rfl rfl (by kernel_rfl) Tryd.func5 (by kernel_rfl)
    (of_decide_eq_true (by kernel_rfl)) (by unfold Func.isWrapper; first | (rw [if_pos (by decide +kernel)]; kernel_rfl) | (rw [if_neg (by decide +kernel)]; exact ⟨rfl, rfl⟩))
    (fun os started H enc _ => liftedChestText os started H enc)
theorem holdsChestText : Rows.FnExactChestTextCardSaid :=
  Claim7.holds_tied_plain_at .later Rows.fnExactChestTextCard.alts Rows.fnExactChestTextCard.laidKinds Rows.fnExactChestTextCard.laidTests Rows.fnExactChestTextCard.stood.harness Rows.fnExactChestTextCard.stood.looks
    rowChestText (fun _ h => by cases h) (by kernel_rfl) (fun _ h => by cases h) fnExactChestText_row_tie rfl ⟨rfl, rfl⟩ (by kernel_rfl) rfl
    (fun f fn hf hfn => by
      obtain rfl : f = 5 := Option.some.inj ((show Tryd.prog.funcNamed "loop.example/g01060/laws.FnExactChestText" = some 5 by kernel_rfl).symm.trans hf) |>.symm
      obtain rfl : fn = Tryd.f5 := (Option.some.inj (Tryd.func5.symm.trans hfn)).symm
      exact ⟨by kernel_rfl, fun j t ht => by
        rw [Tryd.params5] at ht
        have hall : ∀ t, t ∈ Tryd.f5.params.toList → Tryd.prog.wantsStandIn t = false := by
          rw [Tryd.params5]
          intro t ht
          simp at ht
          first | (subst ht; kernel_rfl) | (rcases ht with rfl | rfl <;> kernel_rfl) | (rcases ht with rfl | rfl | rfl <;> kernel_rfl)
        refine hall t ?_
        rw [Tryd.params5]
        exact List.mem_of_getElem? (by simpa using ht)⟩)
    (by kernel_rfl)
end Go.Proofs.YtkflcpfekaddpaaDoor
