/- Headings: the path of one (the walks). No condition but sizes. -/
import Derived.Test.YtbkkaibjenofiaaHo23
namespace Go.Proofs.Ytbkkaibjenofiaa
open Go.RowKit
set_option maxHeartbeats 4000000 in
set_option maxRecDepth 100000 in
theorem pathOfI_c (v : Value) (l : List Hdg) (n : Int) (w : World) (h : Sl w Hdg.enc 4 v l) (hA : areHd l = true) (hn : standsAt l n) : Calls Try.prog 53 #[v, .int .i64 n] w fun e w' => e = .returned (.string (pathL l n)) ∧ Below w.heap.size w w' := by
  have HS := Lib.hid h
  obtain ⟨a, cap, b, off, rfl, hlc, hm, hc⟩ := h
  have hl1 := upL_len l n
  have h15 := areHd_len hA
  have hat := Lib.hid (fun k hk => @up_at l hA n hn k hk)
  have hsz := Lib.hid (@pth_size l hA n hn)
  have hP := Lib.hid (show pathL l n = pth l (upL l n) (upL l n).length from rfl)
  unfold maxLen at hm
  go_enter Try.func53, Try.ntmps53
  go_wp2_with fail
  refine (upFrom_c _ l n _ HS.out hA hn).mono ?_
  rintro e w2 ⟨v2, rfl, ho2, B2⟩
  obtain ⟨a2, c2, b2, o2, rfl, hl2, hm2, hc2⟩ := ho2.sl IntE.len
  unfold maxLen at hm2
  clear ho2 hn
  generalize upL l n = us at *
  go_wp2_with fail
  go_loopw [5, 13] (fun t i wr => ∃ k : Nat, k ≤ us.length ∧ i = .int .i64 k ∧ t = .string (pth l us k) ∧ Below w2.heap.size w2 wr) (fun _ i _ => us.length - (intOf i).toNat)
  case atStart => exact ⟨0, Nat.zero_le _, rfl, rfl, Below.refl _ _⟩
  case round =>
    obtain ⟨k, hk, rfl, rfl, hb⟩ := hrel
    by_cases hlt : k < us.length
    · obtain ⟨rfl, hbw, c0⟩ := IntE.at (hc2.mono hb) k hlt
      obtain ⟨j, hj, hi, h10, hnm⟩ := hat.out k hlt
      have hps := hsz.out k (by omega)
      have B3 := btrans B2 hb
      obtain ⟨rfl, hbl, g0, g1, g2, g3⟩ := Hdg.at (hc.mono B3) j hj
      have hT := fun W (hB : Below w.heap.size w W) => headingAt_c _ l (gd us k) W (HS.out.mono hB)
      rw [hi] at hT
      replace hT := Lib.hid (show ∀ W (hB : Below w.heap.size w W), Calls Try.prog 59 #[_, .int .i64 (gd us k)] W fun e w' => e = .returned (.int .i64 (j : Int)) ∧ Below W.heap.size W w' from hT)
      have hw2 : w.heap.size ≤ wr.heap.size := B3.size
      by_cases h0 : 0 < k
      · have hst := Lib.hid (show pth l us (k + 1) = ((gd l j).nm ++ ⟨#[47]⟩) ++ pth l us k by rw [pth, hnm, if_pos h0])
        have q1 : (gd l j).nm.size + (⟨#[47]⟩ : ByteArray).size ≤ 9223372036854775807 := by
          have : (⟨#[47]⟩ : ByteArray).size = 1 := rfl
          omega
        have q2 : (gd l j).nm.size + 1 ≤ 9223372036854775807 := by omega
        have q3 : ((gd l j).nm ++ ⟨#[47]⟩).size + (pth l us k).size ≤ 9223372036854775807 := by
          rw [ByteArray.size_append]
          have : (⟨#[47]⟩ : ByteArray).size = 1 := rfl
          omega
        have q4 : (gd l j).nm.size + 1 + (pth l us k).size ≤ 9223372036854775807 := by omega
        clear hi hnm
        go_wp2_with (go_at_call 59; refine (hT.out _ (by repeat' (first | exact Below.refl _ _ | with_reducible assumption | refine bext ?_ ?_ _ | refine Below.alloc ?_ ?_ _ | refine Below.setCell ?_ ?_ _ | refine Below.drew ?_ | (simp; done) | (have hbz := hb.size; first | omega | (simp; omega)) | (simp; omega) | omega))).mono ?_; rintro e w' ⟨rfl, hbq⟩; obtain ⟨p, rfl⟩ := ext_of_below hbq; clear hbq)
        go_roundw
        case rel => exact ⟨k + 1, by omega, by go_num, by rw [hst.out], (by repeat' (first | exact Below.refl _ _ | with_reducible assumption | refine bext ?_ ?_ _ | refine Below.alloc ?_ ?_ _ | refine Below.setCell ?_ ?_ _ | refine Below.drew ?_ | (simp; done) | (have hbz := hb.size; first | omega | (simp; omega)) | (simp; omega) | omega))⟩
        case measure => simp [intOf]; omega
      · have hst := Lib.hid (show pth l us (k + 1) = (gd l j).nm ++ pth l us k by rw [pth, hnm, if_neg h0])
        have q3 : (gd l j).nm.size + (pth l us k).size ≤ 9223372036854775807 := by omega
        clear hi hnm
        go_wp2_with (go_at_call 59; refine (hT.out _ (by repeat' (first | exact Below.refl _ _ | with_reducible assumption | refine bext ?_ ?_ _ | refine Below.alloc ?_ ?_ _ | refine Below.setCell ?_ ?_ _ | refine Below.drew ?_ | (simp; done) | (have hbz := hb.size; first | omega | (simp; omega)) | (simp; omega) | omega))).mono ?_; rintro e w' ⟨rfl, hbq⟩; obtain ⟨p, rfl⟩ := ext_of_below hbq; clear hbq)
        go_roundw
        case rel => exact ⟨k + 1, by omega, by go_num, by rw [hst.out], (by repeat' (first | exact Below.refl _ _ | with_reducible assumption | refine bext ?_ ?_ _ | refine Below.alloc ?_ ?_ _ | refine Below.setCell ?_ ?_ _ | refine Below.drew ?_ | (simp; done) | (have hbz := hb.size; first | omega | (simp; omega)) | (simp; omega) | omega))⟩
        case measure => simp [intOf]; omega
    · obtain rfl : k = us.length := by omega
      go_wp2_with fail
      go_ret
      refine ⟨?_, btrans B2 hb⟩
      rw [hP.out]
      rfl
set_option maxHeartbeats 2000000 in
theorem pathOf_c (v : Value) (l : List Hdg) (n : Int) (w : World) (h : Sl w Hdg.enc 4 v l) (hd : Hdg.Deep w l) (hs : ∀ i, i < l.length → (gd l i).Fits) : Calls Try.prog 8 #[v, .int .i64 n] w fun e w' => e = .returned (.tuple #[.string (pathV l n), .bool (isHd l n)]) ∧ Below w.heap.size w w' := by
  have hI := isHeading_c v l n w h hd hs
  cases hx : isHd l n
  · have hV := Lib.hid (show pathV l n = ⟨#[]⟩ by simp [pathV, hx])
    rw [hx] at hI
    replace hI := Lib.hid hI
    go_enter Try.func8, Try.ntmps8
    go_wp2_with (go_at_call 52; refine hI.out.mono ?_; rintro e w1 ⟨rfl, hb1⟩)
    go_ret2
    refine ⟨?_, hb1⟩
    rw [hV.out]
    rfl
  · have hV := Lib.hid (show pathV l n = pathL l n by simp [pathV, hx])
    obtain ⟨hA, sx⟩ := isHd_some hx
    rw [hx] at hI
    replace hI := Lib.hid hI
    have hp := Lib.hid (fun W (hB : Below w.heap.size w W) => pathOfI_c v l n W (h.mono hB) hA sx)
    go_enter Try.func8, Try.ntmps8
    go_wp2_with (go_at_call 52; refine hI.out.mono ?_; rintro e w1 ⟨rfl, hb1⟩)
    refine (hp.out _ hb1).mono ?_
    rintro e w2 ⟨rfl, hb2⟩
    go_wp2_with fail
    go_ret2
    refine ⟨?_, btrans hb1 hb2⟩
    rw [hV.out]
    rfl
end Go.Proofs.Ytbkkaibjenofiaa
