/- The law FnExactEntryText holds: for every input it answers true, and each argument reads behind the call as before. Condition: the listed tables of Go's library read as they are laid (the card ties them). -/
import Derived.Test.YtkflcpfekaddpaaDoorTc25
import Derived.Test.YtkflcpfekaddpaaDoorNRead
import Derived.Test.YtkflcpfekaddpaaDoorTie
import Derived.Test.YtkflcpfekaddpaaDoorCards
import Derived.LaidMore
import Derived.MakeChecks
import Derived.SevenTiedAt
import Derived.LaidSub
import Derived.Stop.Joined
namespace Go.Proofs.YtkflcpfekaddpaaDoor
open Go.ChangeShapes Go.WideShapes Go.ChangeAt Go.RowKit
set_option maxHeartbeats 4000000 in
set_option maxRecDepth 100000 in
theorem lawEntryText (x : Ent) (w : World) (h : x.In w) (hf : x.Fits) (ht : Tab w) : Calls Tryd.prog 7 #[.agg #[.int .i64 x.id, .string x.ti, .string x.pl, .int .i64 x.yr, .int .i64 x.ct, .slice x.a x.sub.length x.cap]] w fun e w' => e = .returned (.bool true) ∧ Below w.heap.size w w' := by
  have Z0 := fun W (hb : Below w.heap.size w W) => szEntry_p x 1048576 W (h.mono hb) hf (by omega) (by omega)
  have T0 := fun W (hb : Below w.heap.size w W) hl => toEntry_p x W (h.mono hb) hl
  have h0 := Lib.hid h
  have HTB := Lib.hid (fun W (hb : Below w.heap.size w W) => ht.mono hb)
  clear ht
  have HF := Lib.hid hf
  obtain ⟨xid, xti, xpl, xyr, xct, xa, xcap, xsub⟩ := x
  have HFF := HF
  replace HF := Lib.hid (show IntE.Fits xsub from HF.out.2.2)
  clear h hf
  unfold Ent.Short at Z0
  dsimp only [Ent.Ret] at Z0 T0 ⊢
  replace T0 := Lib.hid T0
  replace Z0 := Lib.hid Z0
  have bx := Lib.hid (BoxAt.new w [.int .i64 xid, .string xti, .string xpl, .int .i64 xyr, .int .i64 xct, .slice xa xsub.length xcap] 70)
  have A0 := below_alloc w (.cells ([.int .i64 xid, .string xti, .string xpl, .int .i64 xyr, .int .i64 xct, .slice xa xsub.length xcap] : List Value).toArray 70)
  go_enter Tryd.func7, Tryd.ntmps7
  go_wp2_with fail
  refine (Z0.out _ A0).mono ?_
  rintro e w1 ⟨b1, r, rfl, hr⟩
  have B1 := btrans A0 b1
  replace hr := Lib.hid hr
  by_cases hr0 : r < 0
  · go_wp2_with fail
    go_ret
    exact ⟨rfl, B1⟩
  have hS : IntE.Short xsub := by
    rcases hr.out with e | h2
    · omega
    · exact h2.2.2.2.2
  have hl : xsub.length ≤ 1048576 := hS
  clear hS
  obtain ⟨y0, y1, y2, y3, y4, y5⟩ : w1.cell? ⟨_, 0, none⟩ = some (.int .i64 xid) ∧ w1.cell? ⟨_, 1, none⟩ = some (.string xti) ∧ w1.cell? ⟨_, 2, none⟩ = some (.string xpl) ∧ w1.cell? ⟨_, 3, none⟩ = some (.int .i64 xyr) ∧ w1.cell? ⟨_, 4, none⟩ = some (.int .i64 xct) ∧ w1.cell? ⟨_, 5, none⟩ = some (.slice xa xsub.length xcap) :=
    ⟨(bx.out.mono b1).2 0 _ rfl, (bx.out.mono b1).2 1 _ rfl, (bx.out.mono b1).2 2 _ rfl, (bx.out.mono b1).2 3 _ rfl, (bx.out.mono b1).2 4 _ rfl, (bx.out.mono b1).2 5 _ rfl⟩
  go_wp2_with fail
  refine (T0.out _ B1 hl).mono ?_
  rintro e w2 ⟨cs, caps, rfl, qs, b2⟩
  have B2 := btrans B1 b2
  replace y0 := cellOn b2 y0
  replace y1 := cellOn b2 y1
  replace y2 := cellOn b2 y2
  replace y3 := cellOn b2 y3
  replace y4 := cellOn b2 y4
  replace y5 := cellOn b2 y5
  go_wp2_with fail
  refine Calls.mono (show Calls Tryd.prog _ _ w2 (fun e w' => e = .returned (.tuple #[.string (enS ⟨xid, xti, xpl, xyr, xct, none, 0, xsub⟩), .bool (isEnt ⟨xid, xti, xpl, xyr, xct, none, 0, xsub⟩)]) ∧ Below w2.heap.size w2 w') from specEntryText_c ⟨xid, xti, xpl, xyr, xct, cs, caps, xsub⟩ _ (qs.sl IntE.len) HFF.out) ?_
  rintro e w3 ⟨rfl, b3⟩
  have B3 := btrans B2 b3
  replace y0 := cellOn b3 y0
  replace y1 := cellOn b3 y1
  replace y2 := cellOn b3 y2
  replace y3 := cellOn b3 y3
  replace y4 := cellOn b3 y4
  replace y5 := cellOn b3 y5
  go_wp2_with fail
  refine (T0.out _ B3 hl).mono ?_
  rintro e w4 ⟨ak, capk, rfl, qk, b4⟩
  have B4 := btrans B3 b4
  replace y0 := cellOn b4 y0
  replace y1 := cellOn b4 y1
  replace y2 := cellOn b4 y2
  replace y3 := cellOn b4 y3
  replace y4 := cellOn b4 y4
  replace y5 := cellOn b4 y5
  go_wp2_with fail
  refine callsAt fun W5 e5 => ?_
  have b5 : Below w4.heap.size w4 W5 := by rw [e5]; go_grown
  obtain ⟨z0, z1, z2, z3, z4, z5⟩ : W5.cell? ⟨w4.heap.size, 0, none⟩ = some (.int .i64 xid) ∧ W5.cell? ⟨w4.heap.size, 1, none⟩ = some (.string xti) ∧ W5.cell? ⟨w4.heap.size, 2, none⟩ = some (.string xpl) ∧ W5.cell? ⟨w4.heap.size, 3, none⟩ = some (.int .i64 xyr) ∧ W5.cell? ⟨w4.heap.size, 4, none⟩ = some (.int .i64 xct) ∧ W5.cell? ⟨w4.heap.size, 5, none⟩ = some (.slice ak xsub.length capk) := by
    rw [e5]; simp
  clear e5
  have B5 := btrans B4 b5
  replace qk := qk.mono b5
  replace y0 := cellOn b5 y0
  replace y1 := cellOn b5 y1
  replace y2 := cellOn b5 y2
  replace y3 := cellOn b5 y3
  replace y4 := cellOn b5 y4
  replace y5 := cellOn b5 y5
  refine Calls.mono (show Calls Tryd.prog _ _ W5 (fun e w' => e = .returned (.tuple #[.string (enS ⟨xid, xti, xpl, xyr, xct, none, 0, xsub⟩), .bool (isEnt ⟨xid, xti, xpl, xyr, xct, none, 0, xsub⟩)]) ∧ Below W5.heap.size W5 w') from entryText_c ⟨xid, xti, xpl, xyr, xct, ak, capk, xsub⟩ _ (qk.sl IntE.len) HFF.out (HTB.out _ B5)) ?_
  rintro e w6 ⟨rfl, b6⟩
  have B6 := btrans B5 b6
  replace qk := qk.mono b6
  have HS : (Below w.heap.size w w6 ∧ w.heap.size ≤ w6.heap.size) ∧ w6.cell? ⟨w.heap.size, 0, none⟩ = some (.int .i64 xid) ∧ w6.cell? ⟨w.heap.size, 1, none⟩ = some (.string xti) ∧ w6.cell? ⟨w.heap.size, 2, none⟩ = some (.string xpl) ∧ w6.cell? ⟨w.heap.size, 3, none⟩ = some (.int .i64 xyr) ∧ w6.cell? ⟨w.heap.size, 4, none⟩ = some (.int .i64 xct) ∧ w6.cell? ⟨w.heap.size, 5, none⟩ = some (.slice xa xsub.length xcap) ∧ w6.cell? ⟨w4.heap.size, 0, none⟩ = some (.int .i64 xid) ∧ w6.cell? ⟨w4.heap.size, 1, none⟩ = some (.string xti) ∧ w6.cell? ⟨w4.heap.size, 2, none⟩ = some (.string xpl) ∧ w6.cell? ⟨w4.heap.size, 3, none⟩ = some (.int .i64 xyr) ∧ w6.cell? ⟨w4.heap.size, 4, none⟩ = some (.int .i64 xct) ∧ w6.cell? ⟨w4.heap.size, 5, none⟩ = some (.slice ak xsub.length capk) :=
    ⟨⟨B6, B6.size⟩, cellOn b6 y0, cellOn b6 y1, cellOn b6 y2, cellOn b6 y3, cellOn b6 y4, cellOn b6 y5, cellOn b6 z0, cellOn b6 z1, cellOn b6 z2, cellOn b6 z3, cellOn b6 z4, cellOn b6 z5⟩
  go_wp2_with fail
  have D := drewOn w6
  go_region_held3 (fun W => (Below w.heap.size w W ∧ w.heap.size ≤ W.heap.size) ∧ W.cell? ⟨w.heap.size, 0, none⟩ = some (.int .i64 xid) ∧ W.cell? ⟨w.heap.size, 1, none⟩ = some (.string xti) ∧ W.cell? ⟨w.heap.size, 2, none⟩ = some (.string xpl) ∧ W.cell? ⟨w.heap.size, 3, none⟩ = some (.int .i64 xyr) ∧ W.cell? ⟨w.heap.size, 4, none⟩ = some (.int .i64 xct) ∧ W.cell? ⟨w.heap.size, 5, none⟩ = some (.slice xa xsub.length xcap) ∧ W.cell? ⟨w4.heap.size, 0, none⟩ = some (.int .i64 xid) ∧ W.cell? ⟨w4.heap.size, 1, none⟩ = some (.string xti) ∧ W.cell? ⟨w4.heap.size, 2, none⟩ = some (.string xpl) ∧ W.cell? ⟨w4.heap.size, 3, none⟩ = some (.int .i64 xyr) ∧ W.cell? ⟨w4.heap.size, 4, none⟩ = some (.int .i64 xct) ∧ W.cell? ⟨w4.heap.size, 5, none⟩ = some (.slice ak xsub.length capk)) (refine keep12 (by assumption) (by assumption))
    (first | (go_at_call 42; refine (T0.out _ (And.left (And.left (by assumption : (Below w.heap.size w _ ∧ _) ∧ _))) hl).mono ?_; rintro e w7 ⟨ae, cape, rfl, qe, b7⟩) | (go_at_call 44; refine (eqEntry_p ⟨xid, xti, xpl, xyr, xct, ak, capk, xsub⟩ ⟨xid, xti, xpl, xyr, xct, ae, cape, xsub⟩ _ ((qk.mono (btrans D b7)).sl IntE.len) (qe.sl IntE.len) rfl).mono ?_; rintro e w8 ⟨rfl, b8⟩))
  go_wp2_with fail
  go_ret
  exact ⟨rfl, And.left (And.left (by assumption : (Below w.heap.size w _ ∧ _) ∧ _))⟩

/-- what the row's condition gives: Go's table reads as it is laid -/
theorem tab_of_laid {W : World} (h : laidMetH Tryd.prog Rows.fnExactEntryTextRow.laid W) : Tab W := by
  have h2 := h.filter (fun x => x.1 == "internal/strconv.uint64pow10")
  have e : (Rows.fnExactEntryTextRow.laid.filter fun x => x.1 == "internal/strconv.uint64pow10") = [("internal/strconv.uint64pow10", Lib.tabData .u64 Lib.pow10Tab)] := by kernel_rfl
  rw [e, MakeChecks.laidMetH_plain _ _ _ (by kernel_rfl)] at h2
  exact Lib.tabIs_of_head (P := Tryd.prog) (g := 0) (t := 168) (e := 102) (by kernel_rfl) (by kernel_rfl) Tryd.underlying168 Tryd.underlying102 (by kernel_rfl) (by kernel_rfl) h2
theorem door_met (os : Os) (args : Array Value) : laidMetH Tryd.prog Rows.fnExactEntryTextRow.laid ((World.doorLaid Tryd.prog 400 os).forCall (fun _ _ => 0) ⟨#[], args, []⟩).memory :=
  laidMetH_of_parts3 (fuel := 8) (laidMet_of_run' 8 (by kernel_rfl) (by kernel_rfl)) (by kernel_rfl) (by kernel_rfl)
set_option maxRecDepth 100000 in
theorem liftedEntryText (os : Os) (started : os.Started) (H : Type) (enc : TypeId × Value → H) :
    ReturnsInHanded {} Tryd.checked os 7 .any (fun w args => (Rows.fnExactEntryTextSpec.pre enc Tryd.prog Tryd.f7 [] false w args ∧ laidMetH Tryd.prog Rows.fnExactEntryTextRow.laid w) ∧ sizedMet enc Tryd.prog Tryd.f7 (OpenSpec.ofChange Rows.fnExactEntryTextSpec) false w args)
      (Rows.fnExactEntryTextSpec.post enc Tryd.prog Tryd.f7 false true false false) := by
  refine returnsInHanded_of_change_and (C := Tryd.checked) (X := fun w _ => laidMetH Tryd.prog Rows.fnExactEntryTextRow.laid w) (fun _ _ _ hh h => h.of_heap hh) own started (by kernel_rfl) Tryd.func7
    (ChangeSpec.witness_shaped (enc := enc) (C := Tryd.checked) (os := os) (X := fun w _ => laidMetH Tryd.prog Rows.fnExactEntryTextRow.laid w) false (World.doorLaid Tryd.prog 400 os) #[.agg #[.int .i64 0, .string ByteArray.empty, .string ByteArray.empty, .int .i64 0, .int .i64 0, .slice none 0 0]] 8 rfl (World.shaped_of_RefB (by kernel_rfl) (by kernel_rfl)) (by kernel_rfl) (by kernel_rfl) (by kernel_rfl) (door_met os _)) ?_
  intro W base args ds gs before hval0 hW _ _ hL _
  have hval : ∀ (j : Nat) t v, Tryd.f7.params[j]? = some t → args[j]? = some v → Value.okWide Tryd.prog W .any base t v := hval0
  have hW' := hW
  obtain ⟨p, q, hA0, hV, rfl, hfz, hnd⟩ := hW
  have hA : DataW.TrodAll enc Tryd.prog W 0 (fun _ => true) true Tryd.f7.params.toList args.toList ds p := hA0
  rw [Tryd.params7] at hA hval
  obtain ⟨v0, vs0, d0, ds0, p0, q0, hargs, rfl, rfl, h0, r0⟩ := trodAll_cons hA
  obtain ⟨rfl, rfl, rfl⟩ := trodAll_nil r0
  obtain rfl : args = #[v0] := by cases args; simp_all
  obtain ⟨rfl, rfl⟩ := trodVars_none hV
  obtain ⟨x0, e0, s0, f0⟩ := readEntry h0 (hval 0 70 v0 rfl rfl)
  have hcall : Calls Tryd.prog 7 #[v0] W fun e w' => e = .returned (.bool true) ∧ Below W.heap.size W w' := by
    rw [e0]
    exact lawEntryText x0 W s0 f0 (tab_of_laid hL)
  refine hcall.mono fun e W' ⟨he, hb⟩ => ?_
  subst he
  exact ⟨_, rfl, post_below (pa := p0 ++ []) rfl Tryd.underlying4 hW' rfl rfl rfl (fun sp hsp => (trodAll_cons_mk (WideElems.Trod_stays laidOut (by kernel_rfl) (of_decide_eq_true (by kernel_rfl)) h0 (fun x hx => hb.same (hW'.lt x (by simp [hx]))) (fun x hx => hsp x (by simp [hx]))) trodAll_mk0)) (by simp) hb⟩

theorem rowEntryText : Rows.FnExactEntryTextSaid :=
  OpenClaim.holds_of_wide 7 Tryd.f7 rfl rfl rfl rfl rfl rfl rfl ⟨rfl, rfl, rfl, rfl, rfl⟩ rfl rfl rfl rfl rfl (by kernel_rfl) Tryd.func7 (by kernel_rfl)
    (of_decide_eq_true (by kernel_rfl)) (by unfold Func.isWrapper; first | (rw [if_pos (by decide +kernel)]; kernel_rfl) | (rw [if_neg (by decide +kernel)]; exact ⟨rfl, rfl⟩))
    (fun os started H enc _ => liftedEntryText os started H enc)
theorem holdsEntryText : Rows.FnExactEntryTextCardSaid :=
  Claim7.holds_tied_plain_at .later Rows.fnExactEntryTextCard.alts Rows.fnExactEntryTextCard.laidKinds Rows.fnExactEntryTextCard.laidTests Rows.fnExactEntryTextCard.stood.harness Rows.fnExactEntryTextCard.stood.looks
    rowEntryText (fun _ h => by cases h) (by kernel_rfl) (fun _ h => by cases h) fnExactEntryText_row_tie rfl ⟨rfl, rfl⟩ (by kernel_rfl) rfl
    (fun f fn hf hfn => by
      obtain rfl : f = 7 := Option.some.inj ((show Tryd.prog.funcNamed "loop.example/g01060/laws.FnExactEntryText" = some 7 by kernel_rfl).symm.trans hf) |>.symm
      obtain rfl : fn = Tryd.f7 := (Option.some.inj (Tryd.func7.symm.trans hfn)).symm
      exact ⟨by kernel_rfl, fun j t ht => by
        rw [Tryd.params7] at ht
        have hall : ∀ t, t ∈ Tryd.f7.params.toList → Tryd.prog.wantsStandIn t = false := by
          rw [Tryd.params7]
          intro t ht
          simp at ht
          first | (subst ht; kernel_rfl) | (rcases ht with rfl | rfl <;> kernel_rfl) | (rcases ht with rfl | rfl | rfl <;> kernel_rfl)
        refine hall t ?_
        rw [Tryd.params7]
        exact List.mem_of_getElem? (by simpa using ht)⟩)
    (by kernel_rfl)
end Go.Proofs.YtkflcpfekaddpaaDoor
