/- The law FnExactDustIn holds: for every input it answers true, and each argument reads behind the call as before. No condition. -/
import Derived.Test.YtbhkokhmoclcpaaDu21
import Derived.Test.YtbhkokhmoclcpaaHeld
import Derived.Test.YtbhkokhmoclcpaaRead
namespace Go.Proofs.Ytbhkokhmoclcpaa
open Go.ChangeShapes Go.WideShapes Go.ChangeAt Go.RowKit
set_option maxHeartbeats 4000000 in
theorem lawDustIn (xst xkey xdu xla xgi : Int) (v : Value) (l : List Int) (n : Int) (w : World) (h0 : Sl w IntE.enc 1 v l) : Calls Try.prog 7 #[.agg #[.int .i64 xst, .int .i64 xkey, v, .int .i64 xdu, .int .i64 xla, .int .i64 xgi], .int .i64 n] w fun e w' => e = .returned (.bool true) ∧ Below w.heap.size w w' := by
  have h0s := h0
  obtain ⟨a0, cap0, b0, o0, rfl, hk0, hm0, _⟩ := h0s
  have Z0 := fun W => szChest_c ⟨xst, xkey, xdu, xla, xgi⟩ a0 l.length cap0 1048576 W (Nat.le_trans hk0 hm0) (by omega) (by omega)
  have T0 := fun W h hl => toChest_c ⟨xst, xkey, xdu, xla, xgi⟩ (.slice a0 l.length cap0) l W h hl
  unfold cval at Z0 T0
  dsimp only at Z0 T0
  replace T0 := Lib.hid T0
  have bx := Lib.hid (BoxAt.new w [.int .i64 xst, .int .i64 xkey, .slice a0 l.length cap0, .int .i64 xdu, .int .i64 xla, .int .i64 xgi] 24)
  have A0 := below_alloc w (.cells ([.int .i64 xst, .int .i64 xkey, .slice a0 l.length cap0, .int .i64 xdu, .int .i64 xla, .int .i64 xgi] : List Value).toArray 24)
  rcases szN_or 1048576 l.length with e | ⟨hp, hq, hr⟩
  · rw [e] at Z0
    replace Z0 := Lib.hid Z0
    clear e
    go_enter Try.func7, Try.ntmps7
    go_wp2_with (go_at_call 8; refine (Z0.out _).mono ?_; rintro e w' ⟨rfl, hbq⟩; obtain ⟨p, rfl⟩ := ext_of_below hbq; clear hbq)
    go_ret
    exact ⟨rfl, bext A0 (by simp) _⟩
  generalize szN 1048576 l.length = r0 at Z0 hp hq
  replace Z0 := Lib.hid Z0
  go_enter Try.func7, Try.ntmps7
  go_wp2_with fail
  refine (Z0.out _).mono ?_
  rintro e w1 ⟨rfl, b1⟩
  have B1 := btrans A0 b1
  obtain ⟨y0, y1, y2, y3, y4, y5⟩ : w1.cell? ⟨_, 0, none⟩ = some (.int .i64 xst) ∧ w1.cell? ⟨_, 1, none⟩ = some (.int .i64 xkey) ∧ w1.cell? ⟨_, 2, none⟩ = some (.slice a0 l.length cap0) ∧ w1.cell? ⟨_, 3, none⟩ = some (.int .i64 xdu) ∧ w1.cell? ⟨_, 4, none⟩ = some (.int .i64 xla) ∧ w1.cell? ⟨_, 5, none⟩ = some (.int .i64 xgi) :=
    ⟨(bx.out.mono b1).2 0 _ rfl, (bx.out.mono b1).2 1 _ rfl, (bx.out.mono b1).2 2 _ rfl, (bx.out.mono b1).2 3 _ rfl, (bx.out.mono b1).2 4 _ rfl, (bx.out.mono b1).2 5 _ rfl⟩
  go_wp2_with fail
  refine (T0.out _ (h0.mono B1) (by omega)).mono ?_
  rintro e w2 ⟨cs, rfl, qs, b2⟩
  have B2 := btrans B1 b2
  replace y0 := cellOn b2 y0
  replace y1 := cellOn b2 y1
  replace y2 := cellOn b2 y2
  replace y3 := cellOn b2 y3
  replace y4 := cellOn b2 y4
  replace y5 := cellOn b2 y5
  go_wp2_with fail
  refine (specDustIn_c ⟨xst, xkey, xdu, xla, xgi⟩ cs l n _ (qs.sl IntE.len) (by omega)).mono ?_
  rintro e w3 ⟨rfl, b3⟩
  have B3 := btrans B2 b3
  replace y0 := cellOn b3 y0
  replace y1 := cellOn b3 y1
  replace y2 := cellOn b3 y2
  replace y3 := cellOn b3 y3
  replace y4 := cellOn b3 y4
  replace y5 := cellOn b3 y5
  go_wp2_with fail
  refine (T0.out _ (h0.mono B3) (by omega)).mono ?_
  rintro e w4 ⟨ck, rfl, qk, b4⟩
  have B4 := btrans B3 b4
  replace y0 := cellOn b4 y0
  replace y1 := cellOn b4 y1
  replace y2 := cellOn b4 y2
  replace y3 := cellOn b4 y3
  replace y4 := cellOn b4 y4
  replace y5 := cellOn b4 y5
  have sk := qk.sl IntE.len
  obtain ⟨ak, capk, bk, ok, rfl, _, _, _⟩ := sk
  simp only [cval]
  go_wp2_with fail
  refine callsAt fun W5 e5 => ?_
  have b5 : Below w4.heap.size w4 W5 := by rw [e5]; go_grown
  obtain ⟨x0, x1, x2, x3, x4, x5⟩ : W5.cell? ⟨w4.heap.size, 0, none⟩ = some (.int .i64 xst) ∧ W5.cell? ⟨w4.heap.size, 1, none⟩ = some (.int .i64 xkey) ∧ W5.cell? ⟨w4.heap.size, 2, none⟩ = some (.slice ak l.length capk) ∧ W5.cell? ⟨w4.heap.size, 3, none⟩ = some (.int .i64 xdu) ∧ W5.cell? ⟨w4.heap.size, 4, none⟩ = some (.int .i64 xla) ∧ W5.cell? ⟨w4.heap.size, 5, none⟩ = some (.int .i64 xgi) := by
    rw [e5]; simp
  clear e5
  have B5 := btrans B4 b5
  replace qk := qk.mono b5
  replace y0 := cellOn b5 y0
  replace y1 := cellOn b5 y1
  replace y2 := cellOn b5 y2
  replace y3 := cellOn b5 y3
  replace y4 := cellOn b5 y4
  replace y5 := cellOn b5 y5
  refine (dustIn_c ⟨xst, xkey, xdu, xla, xgi⟩ (.slice ak l.length capk) l n _ (qk.sl IntE.len)).mono ?_
  rintro e w6 ⟨rfl, b6⟩
  have B6 := btrans B5 b6
  replace qk := qk.mono b6
  have HS : (Below w.heap.size w w6 ∧ w.heap.size ≤ w6.heap.size) ∧ w6.cell? ⟨w.heap.size, 0, none⟩ = some (.int .i64 xst) ∧ w6.cell? ⟨w.heap.size, 1, none⟩ = some (.int .i64 xkey) ∧ w6.cell? ⟨w.heap.size, 2, none⟩ = some (.slice a0 l.length cap0) ∧ w6.cell? ⟨w.heap.size, 3, none⟩ = some (.int .i64 xdu) ∧ w6.cell? ⟨w.heap.size, 4, none⟩ = some (.int .i64 xla) ∧ w6.cell? ⟨w.heap.size, 5, none⟩ = some (.int .i64 xgi) ∧ w6.cell? ⟨w4.heap.size, 0, none⟩ = some (.int .i64 xst) ∧ w6.cell? ⟨w4.heap.size, 1, none⟩ = some (.int .i64 xkey) ∧ w6.cell? ⟨w4.heap.size, 2, none⟩ = some (.slice ak l.length capk) ∧ w6.cell? ⟨w4.heap.size, 3, none⟩ = some (.int .i64 xdu) ∧ w6.cell? ⟨w4.heap.size, 4, none⟩ = some (.int .i64 xla) ∧ w6.cell? ⟨w4.heap.size, 5, none⟩ = some (.int .i64 xgi) :=
    ⟨⟨B6, B6.size⟩, cellOn b6 y0, cellOn b6 y1, cellOn b6 y2, cellOn b6 y3, cellOn b6 y4, cellOn b6 y5, cellOn b6 x0, cellOn b6 x1, cellOn b6 x2, cellOn b6 x3, cellOn b6 x4, cellOn b6 x5⟩
  go_wp2_with fail
  have D := drewOn w6
  go_region_held3 (fun W => (Below w.heap.size w W ∧ w.heap.size ≤ W.heap.size) ∧ W.cell? ⟨w.heap.size, 0, none⟩ = some (.int .i64 xst) ∧ W.cell? ⟨w.heap.size, 1, none⟩ = some (.int .i64 xkey) ∧ W.cell? ⟨w.heap.size, 2, none⟩ = some (.slice a0 l.length cap0) ∧ W.cell? ⟨w.heap.size, 3, none⟩ = some (.int .i64 xdu) ∧ W.cell? ⟨w.heap.size, 4, none⟩ = some (.int .i64 xla) ∧ W.cell? ⟨w.heap.size, 5, none⟩ = some (.int .i64 xgi) ∧ W.cell? ⟨w4.heap.size, 0, none⟩ = some (.int .i64 xst) ∧ W.cell? ⟨w4.heap.size, 1, none⟩ = some (.int .i64 xkey) ∧ W.cell? ⟨w4.heap.size, 2, none⟩ = some (.slice ak l.length capk) ∧ W.cell? ⟨w4.heap.size, 3, none⟩ = some (.int .i64 xdu) ∧ W.cell? ⟨w4.heap.size, 4, none⟩ = some (.int .i64 xla) ∧ W.cell? ⟨w4.heap.size, 5, none⟩ = some (.int .i64 xgi)) (refine keep12 (by assumption) (by assumption))
    (first | (go_at_call 10; refine (T0.out _ (h0.mono (And.left (And.left (by assumption : (Below w.heap.size w _ ∧ _) ∧ _)))) (by omega)).mono ?_; rintro e w7 ⟨ce, rfl, qe, b7⟩) | (go_at_call 12; refine (eqChest_c ⟨xst, xkey, xdu, xla, xgi⟩ (.slice ak l.length capk) ce l _ ((qk.mono (btrans D b7)).sl IntE.len) (qe.sl IntE.len)).mono ?_; rintro e w8 ⟨rfl, b8⟩))
  go_wp2_with fail
  go_ret
  exact ⟨rfl, And.left (And.left (by assumption : (Below w.heap.size w _ ∧ _) ∧ _))⟩

set_option maxRecDepth 100000 in
theorem liftedDustIn (os : Os) (started : os.Started) (H : Type) (enc : TypeId × Value → H) :
    ReturnsInHanded {} Try.checked os 7 .any (Rows.fnExactDustInSpec.pre6 enc Try.prog Try.f7 Rows.fnExactDustInRow.domain false) (Rows.fnExactDustInSpec.post enc Try.prog Try.f7 false true false false) := by
  refine returnsInHanded_of_change (C := Try.checked) own started (by kernel_rfl) Try.func7
    (ChangeSpec.witness6 (enc := enc) (C := Try.checked) false ⟨#[], #[.agg #[.int .i64 0, .int .i64 0, .slice none 0 0, .int .i64 0, .int .i64 0, .int .i64 0], .int .i64 0], []⟩ 8 (by kernel_rfl) (by kernel_rfl) (by kernel_rfl) (by kernel_rfl)) ?_
  intro W base args ds gs before hval0 hW _ _
  have hval : ∀ (j : Nat) t v, Try.f7.params[j]? = some t → args[j]? = some v → Value.okWide Try.prog W .any base t v := hval0
  have hW' := hW
  obtain ⟨p, q, hA0, hV, rfl, hfz, hnd⟩ := hW
  have hA : DataW.TrodAll enc Try.prog W 0 (fun _ => true) true Try.f7.params.toList args.toList ds p := hA0
  rw [Try.params7] at hA hval
  obtain ⟨v0, vs0, d0, ds0, p0, q0, hargs, rfl, rfl, h0, r0⟩ := trodAll_cons hA
  obtain ⟨v1, vs1, d1, ds1, p1, q1, rfl, rfl, rfl, h1, r1⟩ := trodAll_cons r0
  obtain ⟨rfl, rfl, rfl⟩ := trodAll_nil r1
  obtain rfl : args = #[v0, v1] := by cases args; simp_all
  obtain ⟨rfl, rfl⟩ := trodVars_none hV
  obtain ⟨xa, xb, xs, l, xc, xd, xe, e0, s0⟩ := readChest h0 (hval 0 24 v0 rfl rfl)
  obtain ⟨n, e1, _, _⟩ := readInt h1 (hval 1 3 v1 rfl rfl)
  have hcall : Calls Try.prog 7 #[v0, v1] W fun e w' => e = .returned (.bool true) ∧ Below W.heap.size W w' := by
    rw [e0, e1]
    exact lawDustIn xa xb xc xd xe xs l n W s0
  refine hcall.mono fun e W' ⟨he, hb⟩ => ?_
  subst he
  exact ⟨_, rfl, post_below (pa := p0 ++ (p1 ++ [])) rfl Try.underlying4 hW' rfl rfl rfl (fun sp hsp => (trodAll_cons_mk (WideElems.Trod_stays laidOut (by kernel_rfl) (of_decide_eq_true (by kernel_rfl)) h0 (fun x hx => hb.same (hW'.lt x (by simp [hx]))) (fun x hx => hsp x (by simp [hx]))) (trodAll_cons_mk (WideElems.Trod_stays laidOut (by kernel_rfl) (of_decide_eq_true (by kernel_rfl)) h1 (fun x hx => hb.same (hW'.lt x (by simp [hx]))) (fun x hx => hsp x (by simp [hx]))) trodAll_mk0))) (by simp) hb⟩

theorem holdsDustIn : Rows.FnExactDustInSaid :=
  OpenClaim.holds_of_wide 7 Try.f7 rfl rfl rfl rfl rfl rfl rfl ⟨rfl, rfl, rfl, rfl, rfl⟩ rfl rfl rfl rfl rfl (by kernel_rfl) Try.func7 (by kernel_rfl)
    (of_decide_eq_true (by kernel_rfl)) (by unfold Func.isWrapper; first | (rw [if_pos (by decide +kernel)]; kernel_rfl) | (rw [if_neg (by decide +kernel)]; exact ⟨rfl, rfl⟩))
    (fun os started H enc _ => liftedDustIn os started H enc)
end Go.Proofs.Ytbhkokhmoclcpaa
