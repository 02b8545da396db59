/- The law FnExactPutIssue holds: for every input it answers true, and each argument reads behind the call as before. No condition. -/
import Derived.Test.YthibchaiaedboaaPu20
import Derived.Test.YthibchaiaedboaaPs20
import Derived.Test.YthibchaiaedboaaRead
import Derived.Test.YthibchaiaedboaaHeld
import Derived.Deep.Cut
import Derived.Outline
namespace Go.Proofs.Ythibchaiaedboaa
open Go.ChangeShapes Go.WideShapes Go.ChangeAt Go.RowKit
set_option maxHeartbeats 4000000 in
set_option maxRecDepth 100000 in
theorem lawPutIssue (v0 : Value) (l0 : List Iss) (x1 : Iss) (w : World) (h0 : Sl w Iss.enc 4 v0 l0) : Calls Try.prog 3 #[v0, .agg x1.enc.toArray] w fun e w' => e = .returned (.bool true) ∧ Below w.heap.size w w' := by
  obtain ⟨x1s, x1n, x1fr, x1un⟩ := x1
  show Calls Try.prog 3 #[v0, .agg #[.int .i64 x1s, .int .i64 x1n, .int .i64 x1fr, .int .i64 x1un]] w _
  have h0s := h0
  obtain ⟨a0, cap0, b0, o0, rfl, hk0, hm0, _⟩ := h0s
  have Z0 := Lib.hid (fun W => szIssueS_c a0 l0.length cap0 1048576 W (Nat.le_trans hk0 hm0) (by omega) (by omega))
  rcases szN_or 1048576 l0.length with e | ⟨hp0, hq0, hr0⟩
  · rw [e] at Z0
    clear e
    go_enter Try.func3, Try.ntmps3
    go_wp2_with fail
    refine (Z0.out _).mono ?_
    rintro e w' ⟨rfl, rfl⟩
    go_wp2_with fail
    go_ret
    exact ⟨rfl, by go_grown⟩
  generalize szN 1048576 l0.length = r0 at Z0 hp0 hq0
  have bx1 := BoxAt.new (w) [.int .i64 x1s, .int .i64 x1n, .int .i64 x1fr, .int .i64 x1un] 24
  go_enter Try.func3, Try.ntmps3
  go_wp2_with fail
  refine (Z0.out _).mono ?_
  rintro e w' ⟨rfl, rfl⟩
  have hs0 := h0
  go_wp2_with fail
  refine wpAt fun W0 hW0 => ?_
  have BX : Below w.heap.size w W0 := by rw [hW0]; exact below_alloc _ _
  have bx1 : BoxAt W0 w.heap.size [.int .i64 x1s, .int .i64 x1n, .int .i64 x1fr, .int .i64 x1un] := by rw [hW0]; exact bx1
  have h0 := hs0.mono BX
  clear hW0
  go_cut [6, 7] from 8 (fun s t W => Hid (Own W W0.heap.size 30 Iss.enc 4 s (putR l0 ⟨x1s, x1n, x1fr, x1un⟩)) ∧ t = .bool (putGood l0 ⟨x1s, x1n, x1fr, x1un⟩) ∧ Hid (Below W0.heap.size W0 W))
  case first =>
    have y0 := bx1.2 0 _ rfl
    have y1 := bx1.2 1 _ rfl
    have y2 := bx1.2 2 _ rfl
    have y3 := bx1.2 3 _ rfl
    have HS : (Below W0.heap.size W0 W0 ∧ W0.heap.size ≤ W0.heap.size) ∧ W0.cell? ⟨w.heap.size, 0, none⟩ = some (.int .i64 x1s) ∧ W0.cell? ⟨w.heap.size, 1, none⟩ = some (.int .i64 x1n) ∧ W0.cell? ⟨w.heap.size, 2, none⟩ = some (.int .i64 x1fr) ∧ W0.cell? ⟨w.heap.size, 3, none⟩ = some (.int .i64 x1un) := ⟨⟨Below.refl _ _, Nat.le_refl _⟩, y0, y1, y2, y3⟩
    have D := drewOn W0
    clear y0 y1 y2 y3
    go_region_held3 (fun W => (Below W0.heap.size W0 W ∧ W0.heap.size ≤ W.heap.size) ∧ W.cell? ⟨w.heap.size, 0, none⟩ = some (.int .i64 x1s) ∧ W.cell? ⟨w.heap.size, 1, none⟩ = some (.int .i64 x1n) ∧ W.cell? ⟨w.heap.size, 2, none⟩ = some (.int .i64 x1fr) ∧ W.cell? ⟨w.heap.size, 3, none⟩ = some (.int .i64 x1un)) (first | assumption | (exact keep4 D HS) | (exact keep4 zb0 (by assumption)) | (exact keep4 zb1 (by assumption)) | (exact zS.out) | fail) (first | (go_at_call 13; refine (toIssueS_c _ l0 _ (h0.mono (And.left (And.left (by assumption : (Below W0.heap.size W0 _ ∧ _) ∧ _)))) (by omega)).mono ?_; rintro e zw0 ⟨zv0, rfl, zq0, zb0⟩) | (go_at_call 14; refine (toIssue_c x1s x1n x1fr x1un _).mono ?_; rintro e zw1 ⟨rfl, zb1⟩; have zq0 := zq0.mono zb1) | (go_at_call 12; refine (specPutIssue_c zv0 l0 ⟨x1s, x1n, x1fr, x1un⟩ _ (zq0.sl Iss.len) (by omega)).mono ?_; rintro e zw ⟨zr, rfl, zo, zb⟩; have zS := Lib.hid (keep4 zb (by assumption : (Below W0.heap.size W0 _ ∧ _) ∧ _)); have zO := Lib.hid (zo.lower (And.right (And.left (by assumption : (Below W0.heap.size W0 _ ∧ _) ∧ _))))) | fail)
    all_goals
      go_wp2_with fail
      go_meet
      case rel => exact ⟨zO, rfl, Lib.hid zS.out.1.1⟩
  obtain ⟨ps0, ht, b1⟩ := hcut
  subst ht
  replace ps0 := ps0.out
  replace b1 := b1.out
  have S1 := b1.size
  have B1 := b1
  have du6 := ps0.bounds
  obtain ⟨y10, y11, y12, y13⟩ : wc.cell? ⟨_, 0, none⟩ = some (.int .i64 x1s) ∧ wc.cell? ⟨_, 1, none⟩ = some (.int .i64 x1n) ∧ wc.cell? ⟨_, 2, none⟩ = some (.int .i64 x1fr) ∧ wc.cell? ⟨_, 3, none⟩ = some (.int .i64 x1un) := ⟨(bx1.mono B1).2 0 _ rfl, (bx1.mono B1).2 1 _ rfl, (bx1.mono B1).2 2 _ rfl, (bx1.mono B1).2 3 _ rfl⟩
  go_wp2_with fail
  refine (toIssueS_c _ l0 _ (h0.mono B1) (by omega)).mono ?_
  rintro e w2 ⟨ck0, rfl, qk0, b2⟩
  have ps0 := ps0.mono b2
  have S2 := b2.size
  have B2 := btrans B1 b2
  have dck0 := qk0.bounds
  clear y10 y11 y12 y13
  obtain ⟨y10, y11, y12, y13⟩ : w2.cell? ⟨_, 0, none⟩ = some (.int .i64 x1s) ∧ w2.cell? ⟨_, 1, none⟩ = some (.int .i64 x1n) ∧ w2.cell? ⟨_, 2, none⟩ = some (.int .i64 x1fr) ∧ w2.cell? ⟨_, 3, none⟩ = some (.int .i64 x1un) := ⟨(bx1.mono B2).2 0 _ rfl, (bx1.mono B2).2 1 _ rfl, (bx1.mono B2).2 2 _ rfl, (bx1.mono B2).2 3 _ rfl⟩
  go_wp2_with fail
  refine (toIssue_c x1s x1n x1fr x1un _).mono ?_
  rintro e w3 ⟨rfl, b3⟩
  have ps0 := ps0.mono b3
  have qk0 := qk0.mono b3
  have S3 := b3.size
  have B3 := btrans B2 b3
  clear y10 y11 y12 y13
  obtain ⟨y10, y11, y12, y13⟩ : w3.cell? ⟨_, 0, none⟩ = some (.int .i64 x1s) ∧ w3.cell? ⟨_, 1, none⟩ = some (.int .i64 x1n) ∧ w3.cell? ⟨_, 2, none⟩ = some (.int .i64 x1fr) ∧ w3.cell? ⟨_, 3, none⟩ = some (.int .i64 x1un) := ⟨(bx1.mono B3).2 0 _ rfl, (bx1.mono B3).2 1 _ rfl, (bx1.mono B3).2 2 _ rfl, (bx1.mono B3).2 3 _ rfl⟩
  go_wp2_with fail
  refine (putIssue_c ck0 l0 ⟨x1s, x1n, x1fr, x1un⟩ _ (qk0.sl Iss.len) (by omega)).mono ?_
  rintro e w4 ⟨rg0, rfl, pg0, b4⟩
  have ps0 := ps0.mono b4
  have qk0 := qk0.mono b4
  have S4 := b4.size
  have B4 := btrans B3 b4
  have drg0 := pg0.bounds
  clear y10 y11 y12 y13
  obtain ⟨y10, y11, y12, y13⟩ : w4.cell? ⟨_, 0, none⟩ = some (.int .i64 x1s) ∧ w4.cell? ⟨_, 1, none⟩ = some (.int .i64 x1n) ∧ w4.cell? ⟨_, 2, none⟩ = some (.int .i64 x1fr) ∧ w4.cell? ⟨_, 3, none⟩ = some (.int .i64 x1un) := ⟨(bx1.mono B4).2 0 _ rfl, (bx1.mono B4).2 1 _ rfl, (bx1.mono B4).2 2 _ rfl, (bx1.mono B4).2 3 _ rfl⟩
  go_wp2_with fail
  refine (eqIssueS_c rg0 u6 _ _ (pg0.sl Iss.len) (ps0.sl Iss.len)).mono ?_
  rintro e w5 ⟨rfl, b5⟩
  have ps0 := ps0.mono b5
  have qk0 := qk0.mono b5
  have pg0 := pg0.mono b5
  have S5 := b5.size
  have B5 := btrans B4 b5
  clear y10 y11 y12 y13
  obtain ⟨y10, y11, y12, y13⟩ : w5.cell? ⟨_, 0, none⟩ = some (.int .i64 x1s) ∧ w5.cell? ⟨_, 1, none⟩ = some (.int .i64 x1n) ∧ w5.cell? ⟨_, 2, none⟩ = some (.int .i64 x1fr) ∧ w5.cell? ⟨_, 3, none⟩ = some (.int .i64 x1un) := ⟨(bx1.mono B5).2 0 _ rfl, (bx1.mono B5).2 1 _ rfl, (bx1.mono B5).2 2 _ rfl, (bx1.mono B5).2 3 _ rfl⟩
  go_wp2_with fail
  refine (toIssueS_c _ l0 _ (h0.mono B5) (by omega)).mono ?_
  rintro e w6 ⟨ce0, rfl, qe0, b6⟩
  have ps0 := ps0.mono b6
  have qk0 := qk0.mono b6
  have pg0 := pg0.mono b6
  have S6 := b6.size
  have B6 := btrans B5 b6
  have dce0 := qe0.bounds
  clear y10 y11 y12 y13
  obtain ⟨y10, y11, y12, y13⟩ : w6.cell? ⟨_, 0, none⟩ = some (.int .i64 x1s) ∧ w6.cell? ⟨_, 1, none⟩ = some (.int .i64 x1n) ∧ w6.cell? ⟨_, 2, none⟩ = some (.int .i64 x1fr) ∧ w6.cell? ⟨_, 3, none⟩ = some (.int .i64 x1un) := ⟨(bx1.mono B6).2 0 _ rfl, (bx1.mono B6).2 1 _ rfl, (bx1.mono B6).2 2 _ rfl, (bx1.mono B6).2 3 _ rfl⟩
  go_wp2_with fail
  refine (eqIssueS_c ck0 ce0 _ _ (qk0.sl Iss.len) (qe0.sl Iss.len)).mono ?_
  rintro e w7 ⟨rfl, b7⟩
  have ps0 := ps0.mono b7
  have qk0 := qk0.mono b7
  have pg0 := pg0.mono b7
  have qe0 := qe0.mono b7
  have S7 := b7.size
  have B7 := btrans B6 b7
  clear y10 y11 y12 y13
  obtain ⟨y10, y11, y12, y13⟩ : w7.cell? ⟨_, 0, none⟩ = some (.int .i64 x1s) ∧ w7.cell? ⟨_, 1, none⟩ = some (.int .i64 x1n) ∧ w7.cell? ⟨_, 2, none⟩ = some (.int .i64 x1fr) ∧ w7.cell? ⟨_, 3, none⟩ = some (.int .i64 x1un) := ⟨(bx1.mono B7).2 0 _ rfl, (bx1.mono B7).2 1 _ rfl, (bx1.mono B7).2 2 _ rfl, (bx1.mono B7).2 3 _ rfl⟩
  go_wp2_with fail
  refine (markIssueS_c ck0 _ (1) _ _ qk0 (by omega) (by omega) (by omega)).mono ?_
  rintro e w8 ⟨rfl, qk0', g8⟩
  have ps0 := ps0.far dck0 (fun g hg => by have := du6 g hg; omega) g8
  have pg0 := pg0.far dck0 (fun g hg => by have := drg0 g hg; omega) g8
  have qk0 := qk0'
  have S8 := g8.size
  have B8 := B7.grown g8 B7.size (fun g hg => by have := dck0 g hg; omega)
  clear y10 y11 y12 y13
  obtain ⟨y10, y11, y12, y13⟩ : w8.cell? ⟨_, 0, none⟩ = some (.int .i64 x1s) ∧ w8.cell? ⟨_, 1, none⟩ = some (.int .i64 x1n) ∧ w8.cell? ⟨_, 2, none⟩ = some (.int .i64 x1fr) ∧ w8.cell? ⟨_, 3, none⟩ = some (.int .i64 x1un) := ⟨(bx1.mono B8).2 0 _ rfl, (bx1.mono B8).2 1 _ rfl, (bx1.mono B8).2 2 _ rfl, (bx1.mono B8).2 3 _ rfl⟩
  go_wp2_with fail
  refine (eqIssueS_c rg0 u6 _ _ (pg0.sl Iss.len) (ps0.sl Iss.len)).mono ?_
  rintro e w9 ⟨rfl, b9⟩
  have ps0 := ps0.mono b9
  have pg0 := pg0.mono b9
  have S9 := b9.size
  have B9 := btrans B8 b9
  clear y10 y11 y12 y13
  obtain ⟨y10, y11, y12, y13⟩ : w9.cell? ⟨_, 0, none⟩ = some (.int .i64 x1s) ∧ w9.cell? ⟨_, 1, none⟩ = some (.int .i64 x1n) ∧ w9.cell? ⟨_, 2, none⟩ = some (.int .i64 x1fr) ∧ w9.cell? ⟨_, 3, none⟩ = some (.int .i64 x1un) := ⟨(bx1.mono B9).2 0 _ rfl, (bx1.mono B9).2 1 _ rfl, (bx1.mono B9).2 2 _ rfl, (bx1.mono B9).2 3 _ rfl⟩
  have hlen : (putR l0 ⟨x1s, x1n, x1fr, x1un⟩).length ≤ 10000000 := putR_len l0 ⟨x1s, x1n, x1fr, x1un⟩
  go_wp2_with fail
  refine (markIssueS_c rg0 _ 1 _ _ pg0 hlen (by omega) (by omega)).mono ?_
  rintro e w10 ⟨rfl, pg0', g10⟩
  have ps0 := ps0.far drg0 (fun g hg => by have := du6 g hg; omega) g10
  have pg0 := pg0'
  have S10 := g10.size
  have B10 := B9.grown g10 B9.size (fun g hg => by have := drg0 g hg; omega)
  clear y10 y11 y12 y13
  obtain ⟨y10, y11, y12, y13⟩ : w10.cell? ⟨_, 0, none⟩ = some (.int .i64 x1s) ∧ w10.cell? ⟨_, 1, none⟩ = some (.int .i64 x1n) ∧ w10.cell? ⟨_, 2, none⟩ = some (.int .i64 x1fr) ∧ w10.cell? ⟨_, 3, none⟩ = some (.int .i64 x1un) := ⟨(bx1.mono B10).2 0 _ rfl, (bx1.mono B10).2 1 _ rfl, (bx1.mono B10).2 2 _ rfl, (bx1.mono B10).2 3 _ rfl⟩
  go_wp2_with fail
  refine (heldIssueS_c rg0 _ 1 _ (pg0.sl Iss.len) hlen (by omega) (by omega)).mono ?_
  rintro e w11 ⟨rfl, e11⟩
  subst e11
  go_wp2_with fail
  go_cut [14, 15] from 16 (fun s t W => Hid (Own W w10.heap.size 30 Iss.enc 4 s (putR l0 ⟨x1s, x1n, x1fr, x1un⟩)) ∧ t = .bool (putGood l0 ⟨x1s, x1n, x1fr, x1un⟩) ∧ Hid (Below w10.heap.size w10 W))
  case first =>
    have y0 := (bx1.mono B10).2 0 _ rfl
    have y1 := (bx1.mono B10).2 1 _ rfl
    have y2 := (bx1.mono B10).2 2 _ rfl
    have y3 := (bx1.mono B10).2 3 _ rfl
    have HS : (Below w10.heap.size w10 w10 ∧ w10.heap.size ≤ w10.heap.size) ∧ w10.cell? ⟨w.heap.size, 0, none⟩ = some (.int .i64 x1s) ∧ w10.cell? ⟨w.heap.size, 1, none⟩ = some (.int .i64 x1n) ∧ w10.cell? ⟨w.heap.size, 2, none⟩ = some (.int .i64 x1fr) ∧ w10.cell? ⟨w.heap.size, 3, none⟩ = some (.int .i64 x1un) := ⟨⟨Below.refl _ _, Nat.le_refl _⟩, y0, y1, y2, y3⟩
    have D := drewOn w10
    clear y0 y1 y2 y3
    go_region_held3 (fun W => (Below w10.heap.size w10 W ∧ w10.heap.size ≤ W.heap.size) ∧ W.cell? ⟨w.heap.size, 0, none⟩ = some (.int .i64 x1s) ∧ W.cell? ⟨w.heap.size, 1, none⟩ = some (.int .i64 x1n) ∧ W.cell? ⟨w.heap.size, 2, none⟩ = some (.int .i64 x1fr) ∧ W.cell? ⟨w.heap.size, 3, none⟩ = some (.int .i64 x1un)) (first | assumption | (exact keep4 D HS) | (exact keep4 zb0 (by assumption)) | (exact keep4 zb1 (by assumption)) | (exact zS.out) | fail) (first | (go_at_call 13; refine (toIssueS_c _ l0 _ ((h0.mono B10).mono (And.left (And.left (by assumption : (Below w10.heap.size w10 _ ∧ _) ∧ _)))) (by omega)).mono ?_; rintro e zw0 ⟨zv0, rfl, zq0, zb0⟩) | (go_at_call 14; refine (toIssue_c x1s x1n x1fr x1un _).mono ?_; rintro e zw1 ⟨rfl, zb1⟩; have zq0 := zq0.mono zb1) | (go_at_call 15; refine (putIssue_c zv0 l0 ⟨x1s, x1n, x1fr, x1un⟩ _ (zq0.sl Iss.len) (by omega)).mono ?_; rintro e zw ⟨zr, rfl, zo, zb⟩; have zS := Lib.hid (keep4 zb (by assumption : (Below w10.heap.size w10 _ ∧ _) ∧ _)); have zO := Lib.hid (zo.lower (And.right (And.left (by assumption : (Below w10.heap.size w10 _ ∧ _) ∧ _))))) | fail)
    all_goals
      go_wp2_with fail
      go_meet
      case rel => exact ⟨zO, rfl, Lib.hid zS.out.1.1⟩
  obtain ⟨ph0, ht, b11⟩ := hcut
  subst ht
  replace ph0 := ph0.out
  replace b11 := b11.out
  have ps0 := ps0.mono b11
  have pg0 := pg0.mono b11
  have S11 := b11.size
  have B11 := btrans B10 b11
  have du14 := ph0.bounds
  clear y10 y11 y12 y13
  obtain ⟨y10, y11, y12, y13⟩ : wc.cell? ⟨_, 0, none⟩ = some (.int .i64 x1s) ∧ wc.cell? ⟨_, 1, none⟩ = some (.int .i64 x1n) ∧ wc.cell? ⟨_, 2, none⟩ = some (.int .i64 x1fr) ∧ wc.cell? ⟨_, 3, none⟩ = some (.int .i64 x1un) := ⟨(bx1.mono B11).2 0 _ rfl, (bx1.mono B11).2 1 _ rfl, (bx1.mono B11).2 2 _ rfl, (bx1.mono B11).2 3 _ rfl⟩
  go_wp2_with fail
  refine (eqIssueS_c u14 u6 _ _ (ph0.sl Iss.len) (ps0.sl Iss.len)).mono ?_
  rintro e w12 ⟨rfl, b12⟩
  have ps0 := ps0.mono b12
  have pg0 := pg0.mono b12
  have ph0 := ph0.mono b12
  have S12 := b12.size
  have B12 := btrans B11 b12
  clear y10 y11 y12 y13
  obtain ⟨y10, y11, y12, y13⟩ : w12.cell? ⟨_, 0, none⟩ = some (.int .i64 x1s) ∧ w12.cell? ⟨_, 1, none⟩ = some (.int .i64 x1n) ∧ w12.cell? ⟨_, 2, none⟩ = some (.int .i64 x1fr) ∧ w12.cell? ⟨_, 3, none⟩ = some (.int .i64 x1un) := ⟨(bx1.mono B12).2 0 _ rfl, (bx1.mono B12).2 1 _ rfl, (bx1.mono B12).2 2 _ rfl, (bx1.mono B12).2 3 _ rfl⟩
  go_wp2_with fail
  refine (heldIssueS_c rg0 _ 1 _ (pg0.sl Iss.len) hlen (by omega) (by omega)).mono ?_
  rintro e w13 ⟨rfl, e13⟩
  subst e13
  go_wp2_with fail
  go_ret
  exact ⟨rfl, btrans BX B12⟩

set_option maxRecDepth 100000 in
theorem liftedPutIssue (os : Os) (started : os.Started) (H : Type) (enc : TypeId × Value → H) :
    ReturnsInHanded {} Try.checked os 3 .any (Rows.fnExactPutIssueSpec.pre6 enc Try.prog Try.f3 Rows.fnExactPutIssueRow.domain false) (Rows.fnExactPutIssueSpec.post enc Try.prog Try.f3 false true false false) := by
  refine returnsInHanded_of_change (C := Try.checked) own started (by kernel_rfl) Try.func3
    (ChangeSpec.witness6 (enc := enc) (C := Try.checked) false ⟨#[], #[.slice none 0 0, .agg #[.int .i64 0, .int .i64 0, .int .i64 0, .int .i64 0]], []⟩ 8 (by kernel_rfl) (by kernel_rfl) (by kernel_rfl) (by kernel_rfl)) ?_
  intro W base args ds gs before hval0 hW _ _
  have hval : ∀ (j : Nat) t v, Try.f3.params[j]? = some t → args[j]? = some v → Value.okWide Try.prog W .any base t v := hval0
  have hW' := hW
  obtain ⟨p, q, hA0, hV, rfl, hfz, hnd⟩ := hW
  have hA : DataW.TrodAll enc Try.prog W 0 (fun _ => true) true Try.f3.params.toList args.toList ds p := hA0
  rw [Try.params3] at hA hval
  obtain ⟨v0, vs0, d0, ds0, p0, q0, hargs, rfl, rfl, h0, r0⟩ := trodAll_cons hA
  obtain ⟨v1, vs1, d1, ds1, p1, q1, rfl, rfl, rfl, h1, r1⟩ := trodAll_cons r0
  obtain ⟨rfl, rfl, rfl⟩ := trodAll_nil r1
  obtain rfl : args = #[v0, v1] := by cases args; simp_all
  obtain ⟨rfl, rfl⟩ := trodVars_none hV
  obtain ⟨l0, s0⟩ := readIssueS h0 (hval 0 22 v0 rfl rfl)
  obtain ⟨x1, e1⟩ := readIssue h1 (hval 1 24 v1 rfl rfl)
  have hcall : Calls Try.prog 3 #[v0, v1] W fun e w' => e = .returned (.bool true) ∧ Below W.heap.size W w' := by
    rw [e1]
    exact lawPutIssue v0 l0 x1 W s0
  refine hcall.mono fun e W' ⟨he, hb⟩ => ?_
  subst he
  exact ⟨_, rfl, post_below (pa := p0 ++ (p1 ++ [])) rfl Try.underlying4 hW' rfl rfl rfl (fun sp hsp => (trodAll_cons_mk (WideElems.Trod_stays laidOut (by kernel_rfl) (of_decide_eq_true (by kernel_rfl)) h0 (fun x hx => hb.same (hW'.lt x (by simp [hx]))) (fun x hx => hsp x (by simp [hx]))) (trodAll_cons_mk (WideElems.Trod_stays laidOut (by kernel_rfl) (of_decide_eq_true (by kernel_rfl)) h1 (fun x hx => hb.same (hW'.lt x (by simp [hx]))) (fun x hx => hsp x (by simp [hx]))) trodAll_mk0))) (by simp) hb⟩

theorem holdsPutIssue : Rows.FnExactPutIssueSaid :=
  OpenClaim.holds_of_wide 3 Try.f3 rfl rfl rfl rfl rfl rfl rfl ⟨rfl, rfl, rfl, rfl, rfl⟩ rfl rfl rfl rfl rfl (by kernel_rfl) Try.func3 (by kernel_rfl)
    (of_decide_eq_true (by kernel_rfl)) (by unfold Func.isWrapper; first | (rw [if_pos (by decide +kernel)]; kernel_rfl) | (rw [if_neg (by decide +kernel)]; exact ⟨rfl, rfl⟩))
    (fun os started H enc _ => liftedPutIssue os started H enc)
end Go.Proofs.Ythibchaiaedboaa
