/- Headings: the path of one, by the reference (the walks). No condition but sizes. -/
import Derived.Test.YtbkkaibjenofiaaHp2
namespace Go.Proofs.Ytbkkaibjenofiaa
open Go.RowKit
set_option maxHeartbeats 4000000 in
set_option maxRecDepth 100000 in
theorem l23Path_c (v : Value) (l : List Hdg) (n : Int) (w : World) (h : Sl w Hdg.enc 4 v l) (hA : areHd l = true) (hn : standsAt l n) : Calls Try.prog 56 #[v, .int .i64 n] w fun e w' => e = .returned (.string (pathL l n)) ∧ Below w.heap.size w w' := by
  have HS := Lib.hid h
  obtain ⟨a, cap, b, off, rfl, hlc, hm, hc⟩ := h
  have hl1 := upL_len l n
  have h15 := areHd_len hA
  have hat := Lib.hid (fun k hk => @up_at l hA n hn k hk)
  have hsz := Lib.hid (@pth_size l hA n hn)
  have hP := Lib.hid (show pathL l n = pth l (upL l n) (upL l n).length from rfl)
  unfold maxLen at hm
  go_enter Try.func56, Try.ntmps56
  go_wp2_with fail
  refine (l23Above_c _ l n _ HS.out hA hn).mono ?_
  rintro e w2 ⟨v2, rfl, ho2, B2⟩
  obtain ⟨a2, c2, b2, o2, rfl, hl2, hm2, hc2⟩ := ho2.sl IntE.len
  unfold maxLen at hm2
  clear ho2 hn
  generalize upL l n = us at *
  have hz : us.length ≤ 16 := by omega
  go_wp2_with fail
  go_loop [6, 7] (fun t i => ∃ (m : Nat) (s : ByteArray), m ≤ us.length ∧ i = .int .i64 ((m : Int) - 1) ∧ t = .string s ∧ Hid (s ++ pth l us m = pth l us us.length)) (fun _ i => (intOf i + 1).toNat)
  case atStart => exact ⟨us.length, ⟨#[]⟩, Nat.le_refl _, rfl, rfl, Lib.hid (by exact ByteArray.empty_append)⟩
  case round =>
    obtain ⟨m, s, hmk, rfl, rfl, hs⟩ := hrel
    cases m with
    | zero =>
      have hs2 := Lib.hid (show s = pth l us us.length by rw [← hs.out]; exact (ByteArray.append_empty).symm)
      go_wp2_with fail
      go_ret
      refine ⟨?_, B2⟩
      rw [hP.out, ← hs2.out]
      rfl
    | succ k =>
      have hlt : k < us.length := by omega
      obtain ⟨rfl, hbw, c0⟩ := IntE.at hc2 k hlt
      obtain ⟨j, hj, hi, h10, hnm⟩ := hat.out k hlt
      obtain ⟨rfl, hbl, g0, g1, g2, g3⟩ := Hdg.at (hc.mono B2) j hj
      have hT := fun W (hB : Below w.heap.size w W) => l23Find_c _ l (gd us k) W (HS.out.mono hB)
      rw [hi] at hT
      replace hT := Lib.hid (show ∀ W (hB : Below w.heap.size w W), Calls Try.prog 55 #[_, .int .i64 (gd us k)] W fun e w' => e = .returned (.int .i64 (j : Int)) ∧ W = w' from hT)
      have hss : s.size ≤ 11 * 16 := by
        have h1 := hsz.out us.length (Nat.le_refl _)
        rw [← hs.out, ByteArray.size_append] at h1
        omega
      have e1 : ((k + 1 : Nat) : Int) - 1 = (k : Int) := by omega
      rw [e1]
      have q1 : s.size + (gd l j).nm.size ≤ 9223372036854775807 := by omega
      have q2 : (s ++ (gd l j).nm).size + (⟨#[47]⟩ : ByteArray).size ≤ 9223372036854775807 := by
        rw [ByteArray.size_append]
        have : (⟨#[47]⟩ : ByteArray).size = 1 := rfl
        omega
      have q3 : s.size + (gd l j).nm.size + (⟨#[47]⟩ : ByteArray).size ≤ 9223372036854775807 := by
        have : (⟨#[47]⟩ : ByteArray).size = 1 := rfl
        omega
      have q4 : s.size + (gd l j).nm.size + 1 ≤ 9223372036854775807 := by omega
      by_cases h0 : 0 < k
      · have hst := Lib.hid (show ((s ++ (gd l j).nm) ++ ⟨#[47]⟩) ++ pth l us k = pth l us us.length by
          rw [← hs.out, pth, hnm, if_pos h0]
          simp only [ByteArray.append_assoc])
        clear hi hnm e1 hss
        go_wp2_with (go_at_call 55; refine (hT.out _ B2).mono ?_; rintro e w' ⟨rfl, rfl⟩)
        go_round
        case rel => exact ⟨k, _, by omega, rfl, rfl, hst⟩
        case measure => simp [intOf]
      · have hst := Lib.hid (show (s ++ (gd l j).nm) ++ pth l us k = pth l us us.length by
          rw [← hs.out, pth, hnm, if_neg h0]
          simp only [ByteArray.append_assoc])
        clear hi hnm e1 hss
        go_wp2_with (go_at_call 55; refine (hT.out _ B2).mono ?_; rintro e w' ⟨rfl, rfl⟩)
        go_round
        case rel => exact ⟨k, _, by omega, rfl, rfl, hst⟩
        case measure => simp [intOf]
theorem spWays (l : List Hdg) (n : Int) : (areHd l = false ∧ isHd l n = false) ∨ (areHd l = true ∧ decide (idxInt (hdIdx l n) < 0) = true ∧ isHd l n = false) ∨ (areHd l = true ∧ decide (idxInt (hdIdx l n) < 0) = false ∧ isHd l n = true) := by
  unfold isHd
  cases areHd l
  · exact .inl ⟨rfl, rfl⟩
  · rcases hd_way (l := l) (n := n) with ⟨h1, h2⟩ | ⟨h1, h2⟩
    · exact .inr (.inl ⟨rfl, by simpa using h2, by rw [h1]; rfl⟩)
    · exact .inr (.inr ⟨rfl, by simpa using h2, by rw [h1]; rfl⟩)
set_option maxHeartbeats 2000000 in
theorem specPathOf_c (v : Value) (l : List Hdg) (n : Int) (w : World) (h : Sl w Hdg.enc 4 v l) (hd : Hdg.Deep w l) (hs : ∀ i, i < l.length → (gd l i).Fits) : Calls Try.prog 9 #[v, .int .i64 n] w fun e w' => e = .returned (.tuple #[.string (pathV l n), .bool (isHd l n)]) ∧ Below w.heap.size w w' := by
  have HA := Lib.hid (fun W (hB : Below w.heap.size w W) => l23Good_c v l W (h.mono hB) (hd.mono hB) hs)
  have hF := Lib.hid (fun n W (hB : Below w.heap.size w W) => l23Find_c v l n W (h.mono hB))
  rcases spWays l n with ⟨hA, hg⟩ | ⟨hA, h1, hg⟩ | ⟨hA, h1, hg⟩
  case' inr.inr =>
    have hV := Lib.hid (show pathV l n = pathL l n by simp [pathV, hg])
    have sx := (isHd_some hg).2
    rw [hg]
    clear hg
    go_enter Try.func9, Try.ntmps9
    go_wp2_with (first | (go_at_call 54; refine (HA.out _ (by repeat' (first | exact Below.refl _ _ | with_reducible assumption | refine bext ?_ ?_ _ | refine Below.alloc ?_ ?_ _ | refine Below.setCell ?_ ?_ _ | refine Below.drew ?_ | (simp; done) | (have hbz := hb.size; first | omega | (simp; omega)) | (simp; omega) | omega))).mono ?_; rintro e w' ⟨rfl, hbq⟩; obtain ⟨p, rfl⟩ := ext_of_below hbq; clear hbq) | (go_at_call 55; refine (hF.out _ _ (by repeat' (first | exact Below.refl _ _ | with_reducible assumption | refine bext ?_ ?_ _ | refine Below.alloc ?_ ?_ _ | refine Below.setCell ?_ ?_ _ | refine Below.drew ?_ | (simp; done) | (have hbz := hb.size; first | omega | (simp; omega)) | (simp; omega) | omega))).mono ?_; rintro e w' ⟨rfl, rfl⟩))
    refine (l23Path_c _ l n _ (h.mono (by repeat' (first | exact Below.refl _ _ | with_reducible assumption | refine bext ?_ ?_ _ | refine Below.alloc ?_ ?_ _ | refine Below.setCell ?_ ?_ _ | refine Below.drew ?_ | (simp; done) | (have hbz := hb.size; first | omega | (simp; omega)) | (simp; omega) | omega))) hA sx).mono ?_
    rintro e w2 ⟨rfl, hb2⟩
    go_wp2_with fail
    go_ret2
    refine ⟨?_, btrans (show Below w.heap.size w _ from (by repeat' (first | exact Below.refl _ _ | with_reducible assumption | refine bext ?_ ?_ _ | refine Below.alloc ?_ ?_ _ | refine Below.setCell ?_ ?_ _ | refine Below.drew ?_ | (simp; done) | (have hbz := hb.size; first | omega | (simp; omega)) | (simp; omega) | omega))) hb2⟩
    rw [hV.out]
    rfl
  all_goals
    have hV := Lib.hid (show pathV l n = ⟨#[]⟩ by simp [pathV, hg])
    rw [hg]
    clear hg
    go_enter Try.func9, Try.ntmps9
    go_wp2_with (first | (go_at_call 54; refine (HA.out _ (by repeat' (first | exact Below.refl _ _ | with_reducible assumption | refine bext ?_ ?_ _ | refine Below.alloc ?_ ?_ _ | refine Below.setCell ?_ ?_ _ | refine Below.drew ?_ | (simp; done) | (have hbz := hb.size; first | omega | (simp; omega)) | (simp; omega) | omega))).mono ?_; rintro e w' ⟨rfl, hbq⟩; obtain ⟨p, rfl⟩ := ext_of_below hbq; clear hbq) | (go_at_call 55; refine (hF.out _ _ (by repeat' (first | exact Below.refl _ _ | with_reducible assumption | refine bext ?_ ?_ _ | refine Below.alloc ?_ ?_ _ | refine Below.setCell ?_ ?_ _ | refine Below.drew ?_ | (simp; done) | (have hbz := hb.size; first | omega | (simp; omega)) | (simp; omega) | omega))).mono ?_; rintro e w' ⟨rfl, rfl⟩))
    go_ret2
    refine ⟨?_, (by repeat' (first | exact Below.refl _ _ | with_reducible assumption | refine bext ?_ ?_ _ | refine Below.alloc ?_ ?_ _ | refine Below.setCell ?_ ?_ _ | refine Below.drew ?_ | (simp; done) | (have hbz := hb.size; first | omega | (simp; omega)) | (simp; omega) | omega))⟩
    rw [hV.out]
    rfl
end Go.Proofs.Ytbkkaibjenofiaa
