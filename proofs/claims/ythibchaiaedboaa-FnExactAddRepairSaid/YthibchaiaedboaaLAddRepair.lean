/- The law FnExactAddRepair holds: for every input it answers true, and each argument reads behind the call as before. No condition. -/
import Derived.Test.YthibchaiaedboaaAf22
import Derived.Test.YthibchaiaedboaaRead
import Derived.Test.YthibchaiaedboaaHeld
import Derived.Deep.Cut
import Derived.Outline
namespace Go.Proofs.Ythibchaiaedboaa
open Go.ChangeShapes Go.WideShapes Go.ChangeAt Go.RowKit
set_option maxHeartbeats 4000000 in
set_option maxRecDepth 100000 in
theorem lawAddRepair (v0 : Value) (l0 : List Dmg) (v1 : Value) (l1 : List Rep) (x2 : Rep) (w : World) (h0 : Sl w Dmg.enc 4 v0 l0) (h1 : Sl w Rep.enc 3 v1 l1) : Calls Try.prog 5 #[v0, v1, .agg x2.enc.toArray] w fun e w' => e = .returned (.bool true) ∧ Below w.heap.size w w' := by
  obtain ⟨x2s, x2wk, x2d⟩ := x2
  show Calls Try.prog 5 #[v0, v1, .agg #[.int .i64 x2s, .int .i64 x2wk, .int .i64 x2d]] w _
  have h0s := h0
  obtain ⟨a0, cap0, b0, o0, rfl, hk0, hm0, _⟩ := h0s
  have h1s := h1
  obtain ⟨a1, cap1, b1, o1, rfl, hk1, hm1, _⟩ := h1s
  have Z0 := Lib.hid (fun W => szDamageS_c a0 l0.length cap0 1048576 W (Nat.le_trans hk0 hm0) (by omega) (by omega))
  rcases szN_or 1048576 l0.length with e | ⟨hp0, hq0, hr0⟩
  · rw [e] at Z0
    clear e
    go_enter Try.func5, Try.ntmps5
    go_wp2_with fail
    refine (Z0.out _).mono ?_
    rintro e w' ⟨rfl, rfl⟩
    go_wp2_with fail
    go_ret
    exact ⟨rfl, by go_grown⟩
  generalize szN 1048576 l0.length = r0 at Z0 hp0 hq0
  have Z1 := Lib.hid (fun W => szRepairS_c a1 l1.length cap1 r0 W (Nat.le_trans hk1 hm1) (by omega) (by omega))
  rcases szN_or r0 l1.length with e | ⟨hp1, hq1, hr1⟩
  · rw [e] at Z1
    clear e
    go_enter Try.func5, Try.ntmps5
    go_wp2_with fail
    refine (Z0.out _).mono ?_
    rintro e w' ⟨rfl, rfl⟩
    go_wp2_with fail
    refine (Z1.out _).mono ?_
    rintro e w' ⟨rfl, rfl⟩
    go_wp2_with fail
    go_ret
    exact ⟨rfl, by go_grown⟩
  generalize szN r0 l1.length = r1 at Z1 hp1 hq1
  have bx2 := BoxAt.new (w) [.int .i64 x2s, .int .i64 x2wk, .int .i64 x2d] 59
  go_enter Try.func5, Try.ntmps5
  go_wp2_with fail
  refine (Z0.out _).mono ?_
  rintro e w' ⟨rfl, rfl⟩
  go_wp2_with fail
  refine (Z1.out _).mono ?_
  rintro e w' ⟨rfl, rfl⟩
  have hs0 := h0
  have hs1 := h1
  go_wp2_with fail
  refine wpAt fun W0 hW0 => ?_
  have BX : Below w.heap.size w W0 := by rw [hW0]; exact below_alloc _ _
  have bx2 : BoxAt W0 w.heap.size [.int .i64 x2s, .int .i64 x2wk, .int .i64 x2d] := by rw [hW0]; exact bx2
  have h0 := hs0.mono BX
  have h1 := hs1.mono BX
  clear hW0
  go_cut [8, 9] from 10 (fun s t W => Hid (Own W W0.heap.size 68 Rep.enc 3 s (arR l0 l1 ⟨x2s, x2wk, x2d⟩)) ∧ t = .bool (arB l0 l1 ⟨x2s, x2wk, x2d⟩) ∧ Hid (Below W0.heap.size W0 W))
  case first =>
    have y0 := bx2.2 0 _ rfl
    have y1 := bx2.2 1 _ rfl
    have y2 := bx2.2 2 _ rfl
    have HS : (Below W0.heap.size W0 W0 ∧ W0.heap.size ≤ W0.heap.size) ∧ W0.cell? ⟨w.heap.size, 0, none⟩ = some (.int .i64 x2s) ∧ W0.cell? ⟨w.heap.size, 1, none⟩ = some (.int .i64 x2wk) ∧ W0.cell? ⟨w.heap.size, 2, none⟩ = some (.int .i64 x2d) := ⟨⟨Below.refl _ _, Nat.le_refl _⟩, y0, y1, y2⟩
    have D := drewOn W0
    clear y0 y1 y2
    go_region_held3 (fun W => (Below W0.heap.size W0 W ∧ W0.heap.size ≤ W.heap.size) ∧ W.cell? ⟨w.heap.size, 0, none⟩ = some (.int .i64 x2s) ∧ W.cell? ⟨w.heap.size, 1, none⟩ = some (.int .i64 x2wk) ∧ W.cell? ⟨w.heap.size, 2, none⟩ = some (.int .i64 x2d)) (first | assumption | (exact keep3 D HS) | (exact keep3 zb0 (by assumption)) | (exact keep3 zb1 (by assumption)) | (exact keep3 zb2 (by assumption)) | (exact zS.out) | fail) (first | (go_at_call 38; refine (toDamageS_c _ l0 _ (h0.mono (And.left (And.left (by assumption : (Below W0.heap.size W0 _ ∧ _) ∧ _)))) (by omega)).mono ?_; rintro e zw0 ⟨zv0, rfl, zq0, zb0⟩) | (go_at_call 39; refine (toRepairS_c _ l1 _ (h1.mono (And.left (And.left (by assumption : (Below W0.heap.size W0 _ ∧ _) ∧ _)))) (by omega)).mono ?_; rintro e zw1 ⟨zv1, rfl, zq1, zb1⟩; have zq0 := zq0.mono zb1) | (go_at_call 40; refine (toRepair_c x2s x2wk x2d _).mono ?_; rintro e zw2 ⟨rfl, zb2⟩; have zq0 := zq0.mono zb2; have zq1 := zq1.mono zb2) | (go_at_call 37; refine (specAddRepair_c zv0 zv1 l0 l1 ⟨x2s, x2wk, x2d⟩ _ (zq0.sl Dmg.len) (zq1.sl Rep.len) (by omega)).mono ?_; rintro e zw ⟨zr, rfl, zo, zb⟩; have zS := Lib.hid (keep3 zb (by assumption : (Below W0.heap.size W0 _ ∧ _) ∧ _)); have zO := Lib.hid (zo.lower (And.right (And.left (by assumption : (Below W0.heap.size W0 _ ∧ _) ∧ _))))) | fail)
    all_goals
      go_wp2_with fail
      go_meet
      case rel => exact ⟨zO, rfl, Lib.hid zS.out.1.1⟩
  obtain ⟨ps0, ht, b1⟩ := hcut
  subst ht
  replace ps0 := ps0.out
  replace b1 := b1.out
  have S1 := b1.size
  have B1 := b1
  have du8 := ps0.bounds
  obtain ⟨y20, y21, y22⟩ : wc.cell? ⟨_, 0, none⟩ = some (.int .i64 x2s) ∧ wc.cell? ⟨_, 1, none⟩ = some (.int .i64 x2wk) ∧ wc.cell? ⟨_, 2, none⟩ = some (.int .i64 x2d) := ⟨(bx2.mono B1).2 0 _ rfl, (bx2.mono B1).2 1 _ rfl, (bx2.mono B1).2 2 _ rfl⟩
  go_wp2_with fail
  refine (toDamageS_c _ l0 _ (h0.mono B1) (by omega)).mono ?_
  rintro e w2 ⟨ck0, rfl, qk0, b2⟩
  have ps0 := ps0.mono b2
  have S2 := b2.size
  have B2 := btrans B1 b2
  have dck0 := qk0.bounds
  clear y20 y21 y22
  obtain ⟨y20, y21, y22⟩ : w2.cell? ⟨_, 0, none⟩ = some (.int .i64 x2s) ∧ w2.cell? ⟨_, 1, none⟩ = some (.int .i64 x2wk) ∧ w2.cell? ⟨_, 2, none⟩ = some (.int .i64 x2d) := ⟨(bx2.mono B2).2 0 _ rfl, (bx2.mono B2).2 1 _ rfl, (bx2.mono B2).2 2 _ rfl⟩
  go_wp2_with fail
  refine (toRepairS_c _ l1 _ (h1.mono B2) (by omega)).mono ?_
  rintro e w3 ⟨ck1, rfl, qk1, b3⟩
  have ps0 := ps0.mono b3
  have qk0 := qk0.mono b3
  have S3 := b3.size
  have B3 := btrans B2 b3
  have dck1 := qk1.bounds
  clear y20 y21 y22
  obtain ⟨y20, y21, y22⟩ : w3.cell? ⟨_, 0, none⟩ = some (.int .i64 x2s) ∧ w3.cell? ⟨_, 1, none⟩ = some (.int .i64 x2wk) ∧ w3.cell? ⟨_, 2, none⟩ = some (.int .i64 x2d) := ⟨(bx2.mono B3).2 0 _ rfl, (bx2.mono B3).2 1 _ rfl, (bx2.mono B3).2 2 _ rfl⟩
  go_wp2_with fail
  refine (toRepair_c x2s x2wk x2d _).mono ?_
  rintro e w4 ⟨rfl, b4⟩
  have ps0 := ps0.mono b4
  have qk0 := qk0.mono b4
  have qk1 := qk1.mono b4
  have S4 := b4.size
  have B4 := btrans B3 b4
  clear y20 y21 y22
  obtain ⟨y20, y21, y22⟩ : w4.cell? ⟨_, 0, none⟩ = some (.int .i64 x2s) ∧ w4.cell? ⟨_, 1, none⟩ = some (.int .i64 x2wk) ∧ w4.cell? ⟨_, 2, none⟩ = some (.int .i64 x2d) := ⟨(bx2.mono B4).2 0 _ rfl, (bx2.mono B4).2 1 _ rfl, (bx2.mono B4).2 2 _ rfl⟩
  go_wp2_with fail
  refine (addRepair_c ck0 ck1 l0 l1 ⟨x2s, x2wk, x2d⟩ _ (qk0.sl Dmg.len) (qk1.sl Rep.len) (by omega)).mono ?_
  rintro e w5 ⟨rg0, rfl, pg0, b5⟩
  have ps0 := ps0.mono b5
  have qk0 := qk0.mono b5
  have qk1 := qk1.mono b5
  have S5 := b5.size
  have B5 := btrans B4 b5
  have drg0 := pg0.bounds
  clear y20 y21 y22
  obtain ⟨y20, y21, y22⟩ : w5.cell? ⟨_, 0, none⟩ = some (.int .i64 x2s) ∧ w5.cell? ⟨_, 1, none⟩ = some (.int .i64 x2wk) ∧ w5.cell? ⟨_, 2, none⟩ = some (.int .i64 x2d) := ⟨(bx2.mono B5).2 0 _ rfl, (bx2.mono B5).2 1 _ rfl, (bx2.mono B5).2 2 _ rfl⟩
  go_wp2_with fail
  refine (eqRepairS_c rg0 u8 _ _ (pg0.sl Rep.len) (ps0.sl Rep.len)).mono ?_
  rintro e w6 ⟨rfl, b6⟩
  have ps0 := ps0.mono b6
  have qk0 := qk0.mono b6
  have qk1 := qk1.mono b6
  have pg0 := pg0.mono b6
  have S6 := b6.size
  have B6 := btrans B5 b6
  clear y20 y21 y22
  obtain ⟨y20, y21, y22⟩ : w6.cell? ⟨_, 0, none⟩ = some (.int .i64 x2s) ∧ w6.cell? ⟨_, 1, none⟩ = some (.int .i64 x2wk) ∧ w6.cell? ⟨_, 2, none⟩ = some (.int .i64 x2d) := ⟨(bx2.mono B6).2 0 _ rfl, (bx2.mono B6).2 1 _ rfl, (bx2.mono B6).2 2 _ rfl⟩
  go_wp2_with fail
  refine (toDamageS_c _ l0 _ (h0.mono B6) (by omega)).mono ?_
  rintro e w7 ⟨ce0, rfl, qe0, b7⟩
  have ps0 := ps0.mono b7
  have qk0 := qk0.mono b7
  have qk1 := qk1.mono b7
  have pg0 := pg0.mono b7
  have S7 := b7.size
  have B7 := btrans B6 b7
  have dce0 := qe0.bounds
  clear y20 y21 y22
  obtain ⟨y20, y21, y22⟩ : w7.cell? ⟨_, 0, none⟩ = some (.int .i64 x2s) ∧ w7.cell? ⟨_, 1, none⟩ = some (.int .i64 x2wk) ∧ w7.cell? ⟨_, 2, none⟩ = some (.int .i64 x2d) := ⟨(bx2.mono B7).2 0 _ rfl, (bx2.mono B7).2 1 _ rfl, (bx2.mono B7).2 2 _ rfl⟩
  go_wp2_with fail
  refine (eqDamageS_c ck0 ce0 _ _ (qk0.sl Dmg.len) (qe0.sl Dmg.len)).mono ?_
  rintro e w8 ⟨rfl, b8⟩
  have ps0 := ps0.mono b8
  have qk0 := qk0.mono b8
  have qk1 := qk1.mono b8
  have pg0 := pg0.mono b8
  have qe0 := qe0.mono b8
  have S8 := b8.size
  have B8 := btrans B7 b8
  clear y20 y21 y22
  obtain ⟨y20, y21, y22⟩ : w8.cell? ⟨_, 0, none⟩ = some (.int .i64 x2s) ∧ w8.cell? ⟨_, 1, none⟩ = some (.int .i64 x2wk) ∧ w8.cell? ⟨_, 2, none⟩ = some (.int .i64 x2d) := ⟨(bx2.mono B8).2 0 _ rfl, (bx2.mono B8).2 1 _ rfl, (bx2.mono B8).2 2 _ rfl⟩
  go_wp2_with fail
  refine (toRepairS_c _ l1 _ (h1.mono B8) (by omega)).mono ?_
  rintro e w9 ⟨ce1, rfl, qe1, b9⟩
  have ps0 := ps0.mono b9
  have qk0 := qk0.mono b9
  have qk1 := qk1.mono b9
  have pg0 := pg0.mono b9
  have qe0 := qe0.mono b9
  have S9 := b9.size
  have B9 := btrans B8 b9
  have dce1 := qe1.bounds
  clear y20 y21 y22
  obtain ⟨y20, y21, y22⟩ : w9.cell? ⟨_, 0, none⟩ = some (.int .i64 x2s) ∧ w9.cell? ⟨_, 1, none⟩ = some (.int .i64 x2wk) ∧ w9.cell? ⟨_, 2, none⟩ = some (.int .i64 x2d) := ⟨(bx2.mono B9).2 0 _ rfl, (bx2.mono B9).2 1 _ rfl, (bx2.mono B9).2 2 _ rfl⟩
  go_wp2_with fail
  refine (eqRepairS_c ck1 ce1 _ _ (qk1.sl Rep.len) (qe1.sl Rep.len)).mono ?_
  rintro e w10 ⟨rfl, b10⟩
  have ps0 := ps0.mono b10
  have qk0 := qk0.mono b10
  have qk1 := qk1.mono b10
  have pg0 := pg0.mono b10
  have qe0 := qe0.mono b10
  have qe1 := qe1.mono b10
  have S10 := b10.size
  have B10 := btrans B9 b10
  clear y20 y21 y22
  obtain ⟨y20, y21, y22⟩ : w10.cell? ⟨_, 0, none⟩ = some (.int .i64 x2s) ∧ w10.cell? ⟨_, 1, none⟩ = some (.int .i64 x2wk) ∧ w10.cell? ⟨_, 2, none⟩ = some (.int .i64 x2d) := ⟨(bx2.mono B10).2 0 _ rfl, (bx2.mono B10).2 1 _ rfl, (bx2.mono B10).2 2 _ rfl⟩
  go_wp2_with fail
  refine (markDamageS_c ck0 _ (1) _ _ qk0 (by omega) (by omega) (by omega)).mono ?_
  rintro e w11 ⟨rfl, qk0', g11⟩
  have ps0 := ps0.far dck0 (fun g hg => by have := du8 g hg; omega) g11
  have qk1 := qk1.far dck0 (fun g hg => by have := dck1 g hg; omega) g11
  have pg0 := pg0.far dck0 (fun g hg => by have := drg0 g hg; omega) g11
  have qk0 := qk0'
  have S11 := g11.size
  have B11 := B10.grown g11 B10.size (fun g hg => by have := dck0 g hg; omega)
  clear y20 y21 y22
  obtain ⟨y20, y21, y22⟩ : w11.cell? ⟨_, 0, none⟩ = some (.int .i64 x2s) ∧ w11.cell? ⟨_, 1, none⟩ = some (.int .i64 x2wk) ∧ w11.cell? ⟨_, 2, none⟩ = some (.int .i64 x2d) := ⟨(bx2.mono B11).2 0 _ rfl, (bx2.mono B11).2 1 _ rfl, (bx2.mono B11).2 2 _ rfl⟩
  go_wp2_with fail
  refine (markRepairS_c ck1 _ (1 + 4 * (l0.length : Int)) _ _ qk1 (by omega) (by omega) (by omega)).mono ?_
  rintro e w12 ⟨rfl, qk1', g12⟩
  have ps0 := ps0.far dck1 (fun g hg => by have := du8 g hg; omega) g12
  have pg0 := pg0.far dck1 (fun g hg => by have := drg0 g hg; omega) g12
  have qk1 := qk1'
  have S12 := g12.size
  have B12 := B11.grown g12 B11.size (fun g hg => by have := dck1 g hg; omega)
  clear y20 y21 y22
  obtain ⟨y20, y21, y22⟩ : w12.cell? ⟨_, 0, none⟩ = some (.int .i64 x2s) ∧ w12.cell? ⟨_, 1, none⟩ = some (.int .i64 x2wk) ∧ w12.cell? ⟨_, 2, none⟩ = some (.int .i64 x2d) := ⟨(bx2.mono B12).2 0 _ rfl, (bx2.mono B12).2 1 _ rfl, (bx2.mono B12).2 2 _ rfl⟩
  go_wp2_with fail
  refine (eqRepairS_c rg0 u8 _ _ (pg0.sl Rep.len) (ps0.sl Rep.len)).mono ?_
  rintro e w13 ⟨rfl, b13⟩
  have ps0 := ps0.mono b13
  have pg0 := pg0.mono b13
  have S13 := b13.size
  have B13 := btrans B12 b13
  clear y20 y21 y22
  obtain ⟨y20, y21, y22⟩ : w13.cell? ⟨_, 0, none⟩ = some (.int .i64 x2s) ∧ w13.cell? ⟨_, 1, none⟩ = some (.int .i64 x2wk) ∧ w13.cell? ⟨_, 2, none⟩ = some (.int .i64 x2d) := ⟨(bx2.mono B13).2 0 _ rfl, (bx2.mono B13).2 1 _ rfl, (bx2.mono B13).2 2 _ rfl⟩
  have hlen : (arR l0 l1 ⟨x2s, x2wk, x2d⟩).length ≤ 10000000 := arR_len l0 l1 ⟨x2s, x2wk, x2d⟩
  go_wp2_with fail
  refine (markRepairS_c rg0 _ 1 _ _ pg0 hlen (by omega) (by omega)).mono ?_
  rintro e w14 ⟨rfl, pg0', g14⟩
  have ps0 := ps0.far drg0 (fun g hg => by have := du8 g hg; omega) g14
  have pg0 := pg0'
  have S14 := g14.size
  have B14 := B13.grown g14 B13.size (fun g hg => by have := drg0 g hg; omega)
  clear y20 y21 y22
  obtain ⟨y20, y21, y22⟩ : w14.cell? ⟨_, 0, none⟩ = some (.int .i64 x2s) ∧ w14.cell? ⟨_, 1, none⟩ = some (.int .i64 x2wk) ∧ w14.cell? ⟨_, 2, none⟩ = some (.int .i64 x2d) := ⟨(bx2.mono B14).2 0 _ rfl, (bx2.mono B14).2 1 _ rfl, (bx2.mono B14).2 2 _ rfl⟩
  go_wp2_with fail
  refine (heldRepairS_c rg0 _ 1 _ (pg0.sl Rep.len) hlen (by omega) (by omega)).mono ?_
  rintro e w15 ⟨rfl, e15⟩
  subst e15
  go_wp2_with fail
  go_cut [17, 18] from 19 (fun s t W => Hid (Own W w14.heap.size 68 Rep.enc 3 s (arR l0 l1 ⟨x2s, x2wk, x2d⟩)) ∧ t = .bool (arB l0 l1 ⟨x2s, x2wk, x2d⟩) ∧ Hid (Below w14.heap.size w14 W))
  case first =>
    have y0 := (bx2.mono B14).2 0 _ rfl
    have y1 := (bx2.mono B14).2 1 _ rfl
    have y2 := (bx2.mono B14).2 2 _ rfl
    have HS : (Below w14.heap.size w14 w14 ∧ w14.heap.size ≤ w14.heap.size) ∧ w14.cell? ⟨w.heap.size, 0, none⟩ = some (.int .i64 x2s) ∧ w14.cell? ⟨w.heap.size, 1, none⟩ = some (.int .i64 x2wk) ∧ w14.cell? ⟨w.heap.size, 2, none⟩ = some (.int .i64 x2d) := ⟨⟨Below.refl _ _, Nat.le_refl _⟩, y0, y1, y2⟩
    have D := drewOn w14
    clear y0 y1 y2
    go_region_held3 (fun W => (Below w14.heap.size w14 W ∧ w14.heap.size ≤ W.heap.size) ∧ W.cell? ⟨w.heap.size, 0, none⟩ = some (.int .i64 x2s) ∧ W.cell? ⟨w.heap.size, 1, none⟩ = some (.int .i64 x2wk) ∧ W.cell? ⟨w.heap.size, 2, none⟩ = some (.int .i64 x2d)) (first | assumption | (exact keep3 D HS) | (exact keep3 zb0 (by assumption)) | (exact keep3 zb1 (by assumption)) | (exact keep3 zb2 (by assumption)) | (exact zS.out) | fail) (first | (go_at_call 38; refine (toDamageS_c _ l0 _ ((h0.mono B14).mono (And.left (And.left (by assumption : (Below w14.heap.size w14 _ ∧ _) ∧ _)))) (by omega)).mono ?_; rintro e zw0 ⟨zv0, rfl, zq0, zb0⟩) | (go_at_call 39; refine (toRepairS_c _ l1 _ ((h1.mono B14).mono (And.left (And.left (by assumption : (Below w14.heap.size w14 _ ∧ _) ∧ _)))) (by omega)).mono ?_; rintro e zw1 ⟨zv1, rfl, zq1, zb1⟩; have zq0 := zq0.mono zb1) | (go_at_call 40; refine (toRepair_c x2s x2wk x2d _).mono ?_; rintro e zw2 ⟨rfl, zb2⟩; have zq0 := zq0.mono zb2; have zq1 := zq1.mono zb2) | (go_at_call 41; refine (addRepair_c zv0 zv1 l0 l1 ⟨x2s, x2wk, x2d⟩ _ (zq0.sl Dmg.len) (zq1.sl Rep.len) (by omega)).mono ?_; rintro e zw ⟨zr, rfl, zo, zb⟩; have zS := Lib.hid (keep3 zb (by assumption : (Below w14.heap.size w14 _ ∧ _) ∧ _)); have zO := Lib.hid (zo.lower (And.right (And.left (by assumption : (Below w14.heap.size w14 _ ∧ _) ∧ _))))) | fail)
    all_goals
      go_wp2_with fail
      go_meet
      case rel => exact ⟨zO, rfl, Lib.hid zS.out.1.1⟩
  obtain ⟨ph0, ht, b15⟩ := hcut
  subst ht
  replace ph0 := ph0.out
  replace b15 := b15.out
  have ps0 := ps0.mono b15
  have pg0 := pg0.mono b15
  have S15 := b15.size
  have B15 := btrans B14 b15
  have du17 := ph0.bounds
  clear y20 y21 y22
  obtain ⟨y20, y21, y22⟩ : wc.cell? ⟨_, 0, none⟩ = some (.int .i64 x2s) ∧ wc.cell? ⟨_, 1, none⟩ = some (.int .i64 x2wk) ∧ wc.cell? ⟨_, 2, none⟩ = some (.int .i64 x2d) := ⟨(bx2.mono B15).2 0 _ rfl, (bx2.mono B15).2 1 _ rfl, (bx2.mono B15).2 2 _ rfl⟩
  go_wp2_with fail
  refine (eqRepairS_c u17 u8 _ _ (ph0.sl Rep.len) (ps0.sl Rep.len)).mono ?_
  rintro e w16 ⟨rfl, b16⟩
  have ps0 := ps0.mono b16
  have pg0 := pg0.mono b16
  have ph0 := ph0.mono b16
  have S16 := b16.size
  have B16 := btrans B15 b16
  clear y20 y21 y22
  obtain ⟨y20, y21, y22⟩ : w16.cell? ⟨_, 0, none⟩ = some (.int .i64 x2s) ∧ w16.cell? ⟨_, 1, none⟩ = some (.int .i64 x2wk) ∧ w16.cell? ⟨_, 2, none⟩ = some (.int .i64 x2d) := ⟨(bx2.mono B16).2 0 _ rfl, (bx2.mono B16).2 1 _ rfl, (bx2.mono B16).2 2 _ rfl⟩
  go_wp2_with fail
  refine (heldRepairS_c rg0 _ 1 _ (pg0.sl Rep.len) hlen (by omega) (by omega)).mono ?_
  rintro e w17 ⟨rfl, e17⟩
  subst e17
  go_wp2_with fail
  go_ret
  exact ⟨rfl, btrans BX B16⟩

set_option maxRecDepth 100000 in
theorem liftedAddRepair (os : Os) (started : os.Started) (H : Type) (enc : TypeId × Value → H) :
    ReturnsInHanded {} Try.checked os 5 .any (Rows.fnExactAddRepairSpec.pre6 enc Try.prog Try.f5 Rows.fnExactAddRepairRow.domain false) (Rows.fnExactAddRepairSpec.post enc Try.prog Try.f5 false true false false) := by
  refine returnsInHanded_of_change (C := Try.checked) own started (by kernel_rfl) Try.func5
    (ChangeSpec.witness6 (enc := enc) (C := Try.checked) false ⟨#[], #[.slice none 0 0, .slice none 0 0, .agg #[.int .i64 0, .int .i64 0, .int .i64 0]], []⟩ 8 (by kernel_rfl) (by kernel_rfl) (by kernel_rfl) (by kernel_rfl)) ?_
  intro W base args ds gs before hval0 hW _ _
  have hval : ∀ (j : Nat) t v, Try.f5.params[j]? = some t → args[j]? = some v → Value.okWide Try.prog W .any base t v := hval0
  have hW' := hW
  obtain ⟨p, q, hA0, hV, rfl, hfz, hnd⟩ := hW
  have hA : DataW.TrodAll enc Try.prog W 0 (fun _ => true) true Try.f5.params.toList args.toList ds p := hA0
  rw [Try.params5] at hA hval
  obtain ⟨v0, vs0, d0, ds0, p0, q0, hargs, rfl, rfl, h0, r0⟩ := trodAll_cons hA
  obtain ⟨v1, vs1, d1, ds1, p1, q1, rfl, rfl, rfl, h1, r1⟩ := trodAll_cons r0
  obtain ⟨v2, vs2, d2, ds2, p2, q2, rfl, rfl, rfl, h2, r2⟩ := trodAll_cons r1
  obtain ⟨rfl, rfl, rfl⟩ := trodAll_nil r2
  obtain rfl : args = #[v0, v1, v2] := by cases args; simp_all
  obtain ⟨rfl, rfl⟩ := trodVars_none hV
  obtain ⟨l0, s0⟩ := readDamageS h0 (hval 0 56 v0 rfl rfl)
  obtain ⟨l1, s1⟩ := readRepairS h1 (hval 1 57 v1 rfl rfl)
  obtain ⟨x2, e2⟩ := readRepair h2 (hval 2 59 v2 rfl rfl)
  have hcall : Calls Try.prog 5 #[v0, v1, v2] W fun e w' => e = .returned (.bool true) ∧ Below W.heap.size W w' := by
    rw [e2]
    exact lawAddRepair v0 l0 v1 l1 x2 W s0 s1
  refine hcall.mono fun e W' ⟨he, hb⟩ => ?_
  subst he
  exact ⟨_, rfl, post_below (pa := p0 ++ (p1 ++ (p2 ++ []))) rfl Try.underlying4 hW' rfl rfl rfl (fun sp hsp => (trodAll_cons_mk (WideElems.Trod_stays laidOut (by kernel_rfl) (of_decide_eq_true (by kernel_rfl)) h0 (fun x hx => hb.same (hW'.lt x (by simp [hx]))) (fun x hx => hsp x (by simp [hx]))) (trodAll_cons_mk (WideElems.Trod_stays laidOut (by kernel_rfl) (of_decide_eq_true (by kernel_rfl)) h1 (fun x hx => hb.same (hW'.lt x (by simp [hx]))) (fun x hx => hsp x (by simp [hx]))) (trodAll_cons_mk (WideElems.Trod_stays laidOut (by kernel_rfl) (of_decide_eq_true (by kernel_rfl)) h2 (fun x hx => hb.same (hW'.lt x (by simp [hx]))) (fun x hx => hsp x (by simp [hx]))) trodAll_mk0)))) (by simp) hb⟩

theorem holdsAddRepair : Rows.FnExactAddRepairSaid :=
  OpenClaim.holds_of_wide 5 Try.f5 rfl rfl rfl rfl rfl rfl rfl ⟨rfl, rfl, rfl, rfl, rfl⟩ rfl rfl rfl rfl rfl (by kernel_rfl) Try.func5 (by kernel_rfl)
    (of_decide_eq_true (by kernel_rfl)) (by unfold Func.isWrapper; first | (rw [if_pos (by decide +kernel)]; kernel_rfl) | (rw [if_neg (by decide +kernel)]; exact ⟨rfl, rfl⟩))
    (fun os started H enc _ => liftedAddRepair os started H enc)
end Go.Proofs.Ythibchaiaedboaa
