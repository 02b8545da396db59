/- Headings: the lowest above two, by the program and by the reference (the walks). No condition but sizes. -/
import Derived.Test.YtbkkaibjenofiaaHl23
namespace Go.Proofs.Ytbkkaibjenofiaa
open Go.RowKit
set_option maxHeartbeats 4000000 in
set_option maxRecDepth 100000 in
theorem lowestAbove_c (v : Value) (l : List Hdg) (x y : Int) (w : World) (h : Sl w Hdg.enc 4 v l) (hd : Hdg.Deep w l) (hs : ∀ i, i < l.length → (gd l i).Fits) : Calls Try.prog 24 #[v, .int .i64 x, .int .i64 y] w fun e w' => e = .returned (.tuple #[.int .i64 (lowV l x y), .bool (lowB l x y)]) ∧ Below w.heap.size w w' := by
  have hI := Lib.hid (fun n W (hB : Below w.heap.size w W) => isHeading_c v l n W (h.mono hB) (hd.mono hB) hs)
  have HS := Lib.hid h
  cases hx : isHd l x
  case' true => cases hy : isHd l y
  case' true.true =>
    have hg : lowG l x y = true := by rw [lowG, hx, hy]; rfl
    obtain ⟨hA, sx⟩ := isHd_some hx
    obtain ⟨-, sy⟩ := isHd_some hy
    have hl1 := upL_len l x
    have h15 := areHd_len hA
    go_enter Try.func24, Try.ntmps24
    go_wp2_with (go_at_call 52; refine (hI.out _ _ (by repeat' (first | exact Below.refl _ _ | with_reducible assumption | refine bext ?_ ?_ _ | refine Below.alloc ?_ ?_ _ | refine Below.setCell ?_ ?_ _ | refine Below.drew ?_ | (simp; done) | (have hbz := hb.size; first | omega | (simp; omega)) | (simp; omega) | omega))).mono ?_; rintro e w' ⟨rfl, hbq⟩; obtain ⟨p, rfl⟩ := ext_of_below hbq; clear hbq)
    refine (upFrom_c _ l y _ (HS.out.mono (by repeat' (first | exact Below.refl _ _ | with_reducible assumption | refine bext ?_ ?_ _ | refine Below.alloc ?_ ?_ _ | refine Below.setCell ?_ ?_ _ | refine Below.drew ?_ | (simp; done) | (have hbz := hb.size; first | omega | (simp; omega)) | (simp; omega) | omega))) hA sy).mono ?_
    rintro e w2 ⟨v2, rfl, ho2, hb2⟩
    have B2 : Below w.heap.size w w2 := btrans (show Below w.heap.size w _ from (by repeat' (first | exact Below.refl _ _ | with_reducible assumption | refine bext ?_ ?_ _ | refine Below.alloc ?_ ?_ _ | refine Below.setCell ?_ ?_ _ | refine Below.drew ?_ | (simp; done) | (have hbz := hb.size; first | omega | (simp; omega)) | (simp; omega) | omega))) hb2
    go_wp2_with fail
    refine (upFrom_c _ l x _ (HS.out.mono B2) hA sx).mono ?_
    rintro e w3 ⟨v3, rfl, ho3, hb3⟩
    have B3 := btrans B2 hb3
    have hs2 := Lib.hid ((ho2.sl IntE.len).mono hb3)
    obtain ⟨a3, c3, b3, o3, rfl, hl3, hm3, hc3⟩ := ho3.sl IntE.len
    unfold maxLen at hm3
    have hC := Lib.hid (fun n W (hB : Below w3.heap.size w3 W) => containsInt_c v2 (upL l y) n W (hs2.out.mono hB))
    have hat := Lib.hid (fun k => @low_yes l x y k hg)
    have hno := Lib.hid (fun (h : lowAt l x y = none) => show lowB l x y = false by rw [lowB, h]; simp)
    have hdef := Lib.hid (show lowAt l x y = findTo (fun k => hasI (upL l y) (gd (upL l x) k)) (upL l x).length from rfl)
    clear ho2 ho3 hg hA sx sy hI HS
    generalize upL l x = ux at *
    generalize upL l y = uy at *
    go_wp2_with fail
    go_loopw [28] (fun i wr => ∃ k : Nat, k ≤ ux.length ∧ i = .int .i64 k ∧ Hid (∀ j, j < k → hasI uy (gd ux j) = false) ∧ Below w3.heap.size w3 wr) (fun i _ => ux.length - (intOf i).toNat)
    case atStart => exact ⟨0, Nat.zero_le _, rfl, fun i hi => by omega, Below.refl _ _⟩
    case round =>
      obtain ⟨k, hk, rfl, hall, hb⟩ := hrel
      by_cases hlt : k < ux.length
      · obtain ⟨rfl, hbw, c0⟩ := IntE.at (hc3.mono hb) k hlt
        have hC2 := fun W (hB : Below w3.heap.size w3 W) => hC.out (gd ux k) W hB
        replace hC2 := (show ∀ W (hB : Below w3.heap.size w3 W), Calls Try.prog 63 #[v2, .int .i64 (gd ux k)] W fun e w' => e = .returned (.bool (hasI uy (gd ux k))) ∧ W = w' from hC2)
        cases hq : hasI uy (gd ux k)
        · rw [hq] at hC2
          replace hC2 := Lib.hid hC2
          replace hq := Lib.hid hq
          go_wp2_with (go_at_call 63; refine (hC2.out _ (by repeat' (first | exact Below.refl _ _ | with_reducible assumption | refine bext ?_ ?_ _ | refine Below.alloc ?_ ?_ _ | refine Below.setCell ?_ ?_ _ | refine Below.drew ?_ | (simp; done) | (have hbz := hb.size; first | omega | (simp; omega)) | (simp; omega) | omega))).mono ?_; rintro e w' ⟨rfl, rfl⟩)
          go_roundw
          case rel => exact ⟨k + 1, by omega, by go_num, upto_succ (f := fun j => hasI uy (gd ux j)) hall.out hq.out, (by repeat' (first | exact Below.refl _ _ | with_reducible assumption | refine bext ?_ ?_ _ | refine Below.alloc ?_ ?_ _ | refine Below.setCell ?_ ?_ _ | refine Below.drew ?_ | (simp; done) | (have hbz := hb.size; first | omega | (simp; omega)) | (simp; omega) | omega))⟩
          case measure => simp [intOf]; omega
        · rw [hq] at hC2
          replace hC2 := Lib.hid hC2
          have hV := Lib.hid (hat.out k (by rw [hdef.out]; exact findTo_some (f := fun k => hasI uy (gd ux k)) hall.out hq hlt))
          clear hq
          go_wp2_with (go_at_call 63; refine (hC2.out _ (by repeat' (first | exact Below.refl _ _ | with_reducible assumption | refine bext ?_ ?_ _ | refine Below.alloc ?_ ?_ _ | refine Below.setCell ?_ ?_ _ | refine Below.drew ?_ | (simp; done) | (have hbz := hb.size; first | omega | (simp; omega)) | (simp; omega) | omega))).mono ?_; rintro e w' ⟨rfl, rfl⟩)
          go_ret2
          exact ⟨ret_int_bool hV.out.2.symm hV.out.1.symm, btrans B3 (by repeat' (first | exact Below.refl _ _ | with_reducible assumption | refine bext ?_ ?_ _ | refine Below.alloc ?_ ?_ _ | refine Below.setCell ?_ ?_ _ | refine Below.drew ?_ | (simp; done) | (have hbz := hb.size; first | omega | (simp; omega)) | (simp; omega) | omega))⟩
      · obtain rfl : k = ux.length := by omega
        have hB := Lib.hid (hno.out (by rw [hdef.out]; exact findTo_none hall.out))
        have hV := Lib.hid (low_no hB.out)
        go_wp2_with fail
        go_ret2
        exact ⟨ret_int_bool hV.out.symm hB.out.symm, btrans B3 hb⟩
  all_goals
    have hB := Lib.hid (show lowB l x y = false by simp [lowB, lowG, *])
    have hV := Lib.hid (low_no hB.out)
    go_enter Try.func24, Try.ntmps24
    go_wp2_with (go_at_call 52; refine (hI.out _ _ (by repeat' (first | exact Below.refl _ _ | with_reducible assumption | refine bext ?_ ?_ _ | refine Below.alloc ?_ ?_ _ | refine Below.setCell ?_ ?_ _ | refine Below.drew ?_ | (simp; done) | (have hbz := hb.size; first | omega | (simp; omega)) | (simp; omega) | omega))).mono ?_; rintro e w' ⟨rfl, hbq⟩; obtain ⟨p, rfl⟩ := ext_of_below hbq; clear hbq)
    go_ret2
    exact ⟨ret_int_bool hV.out.symm hB.out.symm, (by repeat' (first | exact Below.refl _ _ | with_reducible assumption | refine bext ?_ ?_ _ | refine Below.alloc ?_ ?_ _ | refine Below.setCell ?_ ?_ _ | refine Below.drew ?_ | (simp; done) | (have hbz := hb.size; first | omega | (simp; omega)) | (simp; omega) | omega))⟩
set_option maxHeartbeats 4000000 in
set_option maxRecDepth 100000 in
theorem specLowestAbove_c (v : Value) (l : List Hdg) (x y : Int) (w : World) (h : Sl w Hdg.enc 4 v l) (hd : Hdg.Deep w l) (hs : ∀ i, i < l.length → (gd l i).Fits) : Calls Try.prog 40 #[v, .int .i64 x, .int .i64 y] w fun e w' => e = .returned (.tuple #[.int .i64 (lowV l x y), .bool (lowB l x y)]) ∧ Below w.heap.size w w' := by
  have HA := Lib.hid (fun W (hB : Below w.heap.size w W) => l23Good_c v l W (h.mono hB) (hd.mono hB) hs)
  have hF := Lib.hid (fun n W (hB : Below w.heap.size w W) => l23Find_c v l n W (h.mono hB))
  have HS := Lib.hid h
  have hways : (areHd l = false ∧ lowG l x y = false) ∨ (areHd l = true ∧ decide (idxInt (hdIdx l x) < 0) = true ∧ lowG l x y = false) ∨ (areHd l = true ∧ decide (idxInt (hdIdx l x) < 0) = false ∧ decide (idxInt (hdIdx l y) < 0) = true ∧ lowG l x y = false) ∨
      (areHd l = true ∧ decide (idxInt (hdIdx l x) < 0) = false ∧ decide (idxInt (hdIdx l y) < 0) = false ∧ lowG l x y = true) := by
    unfold lowG isHd
    cases areHd l
    · exact .inl ⟨rfl, rfl⟩
    · rcases hd_way (l := l) (n := x) with ⟨h1, h2⟩ | ⟨h1, h2⟩
      · exact .inr (.inl ⟨rfl, by simpa using h2, by rw [h1]; rfl⟩)
      · rcases hd_way (l := l) (n := y) with ⟨h3, h4⟩ | ⟨h3, h4⟩
        · exact .inr (.inr (.inl ⟨rfl, by simpa using h2, by simpa using h4, by rw [h1, h3]; rfl⟩))
        · exact .inr (.inr (.inr ⟨rfl, by simpa using h2, by simpa using h4, by rw [h1, h3]; rfl⟩))
  rcases hways with ⟨hA, hg⟩ | ⟨hA, h1, hg⟩ | ⟨hA, h1, h2, hg⟩ | ⟨hA, h1, h2, hg⟩
  case' inr.inr.inr =>
    have hgx : isHd l x = true ∧ isHd l y = true := by simpa [lowG] using hg
    have sx := (isHd_some hgx.1).2
    have sy := (isHd_some hgx.2).2
    have hl1 := upL_len l x
    have h15 := areHd_len hA
    clear hgx
    go_enter Try.func40, Try.ntmps40
    go_wp2_with (first | (go_at_call 54; refine (HA.out _ (by repeat' (first | exact Below.refl _ _ | with_reducible assumption | refine bext ?_ ?_ _ | refine Below.alloc ?_ ?_ _ | refine Below.setCell ?_ ?_ _ | refine Below.drew ?_ | (simp; done) | (have hbz := hb.size; first | omega | (simp; omega)) | (simp; omega) | omega))).mono ?_; rintro e w' ⟨rfl, hbq⟩; obtain ⟨p, rfl⟩ := ext_of_below hbq; clear hbq) | (go_at_call 55; refine (hF.out _ _ (by repeat' (first | exact Below.refl _ _ | with_reducible assumption | refine bext ?_ ?_ _ | refine Below.alloc ?_ ?_ _ | refine Below.setCell ?_ ?_ _ | refine Below.drew ?_ | (simp; done) | (have hbz := hb.size; first | omega | (simp; omega)) | (simp; omega) | omega))).mono ?_; rintro e w' ⟨rfl, rfl⟩))
    refine (l23Above_c _ l x _ (HS.out.mono (by repeat' (first | exact Below.refl _ _ | with_reducible assumption | refine bext ?_ ?_ _ | refine Below.alloc ?_ ?_ _ | refine Below.setCell ?_ ?_ _ | refine Below.drew ?_ | (simp; done) | (have hbz := hb.size; first | omega | (simp; omega)) | (simp; omega) | omega))) hA sx).mono ?_
    rintro e w2 ⟨v2, rfl, ho2, hb2⟩
    have B2 : Below w.heap.size w w2 := btrans (show Below w.heap.size w _ from (by repeat' (first | exact Below.refl _ _ | with_reducible assumption | refine bext ?_ ?_ _ | refine Below.alloc ?_ ?_ _ | refine Below.setCell ?_ ?_ _ | refine Below.drew ?_ | (simp; done) | (have hbz := hb.size; first | omega | (simp; omega)) | (simp; omega) | omega))) hb2
    go_wp2_with fail
    refine (l23Above_c _ l y _ (HS.out.mono B2) hA sy).mono ?_
    rintro e w3 ⟨v3, rfl, ho3, hb3⟩
    have B3 := btrans B2 hb3
    have hs3 := Lib.hid (ho3.sl IntE.len)
    obtain ⟨a3, c3, b3, o3, rfl, hl3, hm3, hc3⟩ := (ho2.sl IntE.len).mono hb3
    unfold maxLen at hm3
    have hC := Lib.hid (fun n => l1Has_c v3 (upL l y) n w3 hs3.out)
    have hat := Lib.hid (fun k => @low_yes l x y k hg)
    have hno := Lib.hid (fun (h : lowAt l x y = none) => show lowB l x y = false by rw [lowB, h]; simp)
    have hdef := Lib.hid (show lowAt l x y = findTo (fun k => hasI (upL l y) (gd (upL l x) k)) (upL l x).length from rfl)
    clear ho2 ho3 hg hA sx sy HA hF HS h1 h2
    generalize upL l x = ux at *
    generalize upL l y = uy at *
    go_wp2_with fail
    go_loop [10] (fun i => ∃ k : Nat, k ≤ ux.length ∧ i = .int .i64 k ∧ Hid (∀ j, j < k → hasI uy (gd ux j) = false)) (fun i => ux.length - (intOf i).toNat)
    case atStart => exact ⟨0, Nat.zero_le _, rfl, fun i hi => by omega⟩
    case round =>
      obtain ⟨k, hk, rfl, hall⟩ := hrel
      by_cases hlt : k < ux.length
      · obtain ⟨rfl, hbw, c0⟩ := IntE.at hc3 k hlt
        have hC2 := hC.out (gd ux k)
        cases hq : hasI uy (gd ux k)
        · rw [hq] at hC2
          replace hC2 := Lib.hid hC2
          replace hq := Lib.hid hq
          go_wp2_with (go_at_call 65; refine (hC2.out).mono ?_; rintro e w' ⟨rfl, rfl⟩)
          go_round
          case rel => exact ⟨k + 1, by omega, by go_num, upto_succ (f := fun j => hasI uy (gd ux j)) hall.out hq.out⟩
          case measure => simp [intOf]; omega
        · rw [hq] at hC2
          replace hC2 := Lib.hid hC2
          have hV := Lib.hid (hat.out k (by rw [hdef.out]; exact findTo_some (f := fun k => hasI uy (gd ux k)) hall.out hq hlt))
          clear hq
          go_wp2_with (go_at_call 65; refine (hC2.out).mono ?_; rintro e w' ⟨rfl, rfl⟩)
          go_ret2
          exact ⟨ret_int_bool hV.out.2.symm hV.out.1.symm, B3⟩
      · obtain rfl : k = ux.length := by omega
        have hB := Lib.hid (hno.out (by rw [hdef.out]; exact findTo_none hall.out))
        have hV := Lib.hid (low_no hB.out)
        go_wp2_with fail
        go_ret2
        exact ⟨ret_int_bool hV.out.symm hB.out.symm, B3⟩
  all_goals
    have hB := Lib.hid (show lowB l x y = false by rw [lowB, hg]; rfl)
    have hV := Lib.hid (low_no hB.out)
    clear hg
    go_enter Try.func40, Try.ntmps40
    go_wp2_with (first | (go_at_call 54; refine (HA.out _ (by repeat' (first | exact Below.refl _ _ | with_reducible assumption | refine bext ?_ ?_ _ | refine Below.alloc ?_ ?_ _ | refine Below.setCell ?_ ?_ _ | refine Below.drew ?_ | (simp; done) | (have hbz := hb.size; first | omega | (simp; omega)) | (simp; omega) | omega))).mono ?_; rintro e w' ⟨rfl, hbq⟩; obtain ⟨p, rfl⟩ := ext_of_below hbq; clear hbq) | (go_at_call 55; refine (hF.out _ _ (by repeat' (first | exact Below.refl _ _ | with_reducible assumption | refine bext ?_ ?_ _ | refine Below.alloc ?_ ?_ _ | refine Below.setCell ?_ ?_ _ | refine Below.drew ?_ | (simp; done) | (have hbz := hb.size; first | omega | (simp; omega)) | (simp; omega) | omega))).mono ?_; rintro e w' ⟨rfl, rfl⟩))
    go_ret2
    exact ⟨ret_int_bool hV.out.symm hB.out.symm, (by repeat' (first | exact Below.refl _ _ | with_reducible assumption | refine bext ?_ ?_ _ | refine Below.alloc ?_ ?_ _ | refine Below.setCell ?_ ?_ _ | refine Below.drew ?_ | (simp; done) | (have hbz := hb.size; first | omega | (simp; omega)) | (simp; omega) | omega))⟩
end Go.Proofs.Ytbkkaibjenofiaa
