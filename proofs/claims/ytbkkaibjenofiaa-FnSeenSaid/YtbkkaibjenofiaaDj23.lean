/- Headings and a number of steps drawn from bytes. No condition. -/
import Derived.Test.YtbkkaibjenofiaaDi23
import Derived.Test.YtbkkaibjenofiaaSi23
import Derived.Test.YtbkkaibjenofiaaHm23
import Derived.Test.YtbkkaibjenofiaaLw23
namespace Go.Proofs.Ytbkkaibjenofiaa
open Go.RowKit
set_option maxHeartbeats 4000000 in
set_option maxRecDepth 100000 in
theorem drawSeenFrom_c (v : Value) (w : World) (h : Bytes w v) : Calls Try.prog 27 #[v] w (DrawH2 w) := by
  have C0 := Lib.hid (Bytes.cur (t := 69) h)
  obtain ⟨a, n0, cap, b, off, rfl, -, -, -⟩ := h
  go_enter Try.func27, Try.ntmps27
  go_wp2_with fail
  refine (headings_c _ _ 0 C0.out (by omega)).mono ?_
  rintro e w1 ⟨lv, l, rfl, S1⟩
  replace S1 := Lib.hid S1
  have hl := S1.out.len
  clear C0
  go_wp2_with fail
  refine (headingId_c _ _ 500 lv l S1.out.cur (by omega) (by omega) (HSt.sls S1.out)).mono ?_
  rintro e w2 ⟨n2, -, rfl, C2, g2⟩
  have S2 := Lib.hid (S1.out.turn g2 C2)
  clear S1 C2 g2
  go_wp2_with fail
  have hC := Lib.hid (S2.out.cur.mono (below_alloc w2 (.cells #[.int .i64 0, .int .i64 1, .int .i64 1, .int .i64 2, .int .i64 3, .int .i64 9, .int .i64 (-1), .int .i64 10] 3)))
  have hL := Lib.hid (LitI.of (w := w2) (t := 3) (cs := [.int .i64 0, .int .i64 1, .int .i64 1, .int .i64 2, .int .i64 3, .int .i64 9, .int .i64 (-1), .int .i64 10]) (P := fun x => -1 ≤ x ∧ x ≤ 10) (by simp))
  have S3 := Lib.hid (S2.out.below (below_alloc w2 (.cells #[.int .i64 0, .int .i64 1, .int .i64 1, .int .i64 2, .int .i64 3, .int .i64 9, .int .i64 (-1), .int .i64 10] 3)))
  have hgB : ¬ w2.heap.size = w.heap.size := by have h1 := S2.out.blt; have h2 := S2.out.size; simp at h1 h2; omega
  clear S2
  refine (pick_c _ _ 504 24 hC.out (by omega) (by omega)).mono ?_
  rintro e w3 ⟨p, hp, rfl, C3, g3⟩
  have hp0 := hp.1
  have hp1 := hp.2.1 (by omega)
  replace S3 := Lib.hid (S3.out.turn g3 C3)
  have hL3 : Hid (LitI w3 w2.heap.size 8 (fun x => -1 ≤ x ∧ x ≤ 10)) := fun i hi => by
    obtain ⟨z, hz, h1⟩ := hL.out i hi
    exact ⟨z, hz, cellGrown h1 g3 (fun e => hgB (Option.some.inj e))⟩
  have hq : p.tdiv 11 = p / 11 := Int.tdiv_eq_ediv_of_nonneg hp0
  obtain ⟨k, hk, hk2⟩ : ∃ k : Nat, p.tdiv 11 = (k : Int) ∧ k ≤ 2 := ⟨(p / 11).toNat, by rw [hq]; omega, by omega⟩
  clear hC hL g3 C3 hq hp
  go_wp2_with fail
  refine (among_c _ _ 506 w2.heap.size (6 + k) 8 (fun x => -1 ≤ x ∧ x ≤ 10) S3.out.cur (by omega) (fun i hi => hL3.out i (by omega)) (by omega) (by omega) hgB).mono ?_
  rintro e w4 ⟨z, -, rfl, C4, g4⟩
  have S4 := Lib.hid (S3.out.turn g4 C4)
  clear S3 C4 g4
  go_wp2_with fail
  go_ret3
  exact ⟨lv, l, n2, z, rfl, HSt.drawn rfl S4.out (by omega)⟩
theorem seenOne_c {W : World} {v : Value} {l : List Hdg} {a : Int} (h : HD W v l) (hs : isSn l a 1 = true) : Calls Try.prog 28 #[v, .int .i64 a, .int .i64 1] W (RetSn W (snR l a 1) true) := by
  have H := seenFrom_c v l a 1 W h.sl h.deep h.fits
  rwa [hs] at H
theorem lowSwap_c {W : World} {v : Value} {l : List Hdg} {a b : Int} (h : HD W v l) : Calls Try.prog 24 #[v, .int .i64 b, .int .i64 a] W fun e w' => e = .returned (.tuple #[.int .i64 (lowV l a b), .bool (lowB l a b)]) ∧ Below W.heap.size W w' := by
  have H := lowestAbove_c v l b a W h.sl h.deep h.fits
  rwa [(low_swap l a b).1, (low_swap l a b).2] at H
end Go.Proofs.Ytbkkaibjenofiaa
