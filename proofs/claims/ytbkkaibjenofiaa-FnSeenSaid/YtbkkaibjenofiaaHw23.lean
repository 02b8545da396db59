/- Headings: what a list of headings is, by the program. No condition but sizes. -/
import Derived.Test.YtbkkaibjenofiaaHv23
namespace Go.Proofs.Ytbkkaibjenofiaa
open Go.RowKit
theorem Cells.take {α : Type} [Inhabited α] {w : World} {enc : α → List Value} {k b off : Nat} {a : Option Addr} {l : List α} (h : Cells w enc k a b off l) (n : Nat) : Cells w enc k a b off (l.take n) := fun i hi => by
  have hi' : i < l.length ∧ i < n := by simp at hi; omega
  obtain ⟨h1, h2, h3⟩ := h i hi'.1
  exact ⟨h1, h2, fun j v hv => h3 j v (by rwa [gd_take hi'.2] at hv)⟩
theorem mid_ways (l : List Hdg) (k : Nat) : (((gd l k).un != 0) = true ∧ idxInt (hdIdx (l.take k) (gd l k).un) < 0 ∧ Hid (hdMid l k = false)) ∨
    (((gd l k).un != 0) = false ∧ decide ((4 : Int) < ((gd l k).sub.length : Int)) = true ∧ Hid (hdMid l k = false)) ∨
    (((gd l k).un != 0) = false ∧ decide ((4 : Int) < ((gd l k).sub.length : Int)) = false ∧ rising (gd l k).sub = false ∧ Hid (hdMid l k = false)) ∨
    (((gd l k).un != 0) = false ∧ decide ((4 : Int) < ((gd l k).sub.length : Int)) = false ∧ rising (gd l k).sub = true ∧ Hid (hdMid l k = true)) ∨
    ((((gd l k).un != 0) = true ∧ ¬ idxInt (hdIdx (l.take k) (gd l k).un) < 0) ∧ decide ((4 : Int) < ((gd l k).sub.length : Int)) = true ∧ Hid (hdMid l k = false)) ∨
    ((((gd l k).un != 0) = true ∧ ¬ idxInt (hdIdx (l.take k) (gd l k).un) < 0) ∧ decide ((4 : Int) < ((gd l k).sub.length : Int)) = false ∧ rising (gd l k).sub = false ∧ Hid (hdMid l k = false)) ∨
    ((((gd l k).un != 0) = true ∧ ¬ idxInt (hdIdx (l.take k) (gd l k).un) < 0) ∧ decide ((4 : Int) < ((gd l k).sub.length : Int)) = false ∧ rising (gd l k).sub = true ∧ Hid (hdMid l k = true)) := by
  have h4 : decide ((gd l k).sub.length ≤ 4) = !decide ((4 : Int) < ((gd l k).sub.length : Int)) := by rw [Bool.eq_iff_iff]; simp; omega
  unfold Hid hdMid
  rw [h4]
  by_cases hu : (gd l k).un = 0
  · cases decide ((4 : Int) < ((gd l k).sub.length : Int)) <;> cases rising (gd l k).sub <;> simp [hu]
  · rcases hd_way (l := l.take k) (n := (gd l k).un) with ⟨h1, h2⟩ | ⟨h1, h2⟩
    · exact .inl ⟨by simp [hu], h2, by simp [hu, h1]⟩
    · cases decide ((4 : Int) < ((gd l k).sub.length : Int)) <;> cases rising (gd l k).sub <;> simp [hu, h1, h2] <;> omega
theorem find_same (l : List Hdg) (k : Nat) (hk : k ≤ l.length) : (findTo (fun i => (gd (l.take k) i).un == (gd l k).un && (gd (l.take k) i).nm.toList == (gd l k).nm.toList) (l.take k).length) = findTo (sameAt l k) k := by
  have hl : (l.take k).length = k := by simp; omega
  rw [hl]
  exact find_congr fun i hi => by rw [gd_take hi]; rfl
set_option maxHeartbeats 4000000 in
set_option maxRecDepth 100000 in
theorem areHeadings_c (v : Value) (l : List Hdg) (w : World) (h : Sl w Hdg.enc 4 v l) (hd : Hdg.Deep w l) (hs : ∀ i, i < l.length → (gd l i).Fits) : Calls Try.prog 25 #[v] w fun e w' => e = .returned (.bool (areHd l)) ∧ Below w.heap.size w w' := by
  have HS := Lib.hid h
  obtain ⟨a, cap, b, off, rfl, hlc, hm, hc⟩ := h
  have hD := Lib.hid hd
  clear hd
  unfold maxLen at hm
  go_enter Try.func25, Try.ntmps25
  go_wp2_with fail
  go_loopw [7] (fun i wr => ∃ k : Nat, k ≤ l.length ∧ i = .int .i64 k ∧ Hid (∀ i, i < k → hdI l i = true) ∧ Below w.heap.size w wr ∧ w.heap.size < wr.heap.size ∧ wr.cell? ⟨w.heap.size, 0, none⟩ = some (.slice a l.length cap)) (fun i _ => l.length - (intOf i).toNat)
  case atStart => exact ⟨0, Nat.zero_le _, rfl, fun i hi => by omega, (by repeat' (first | exact Below.refl _ _ | with_reducible assumption | refine bext ?_ ?_ _ | refine Below.alloc ?_ ?_ _ | refine Below.setCell ?_ ?_ _ | refine Below.drew ?_ | (simp; done) | (have hbz := hb.size; first | omega | (simp; omega)) | (simp; omega) | omega)), by simp, by simp [go_sem]⟩
  case round =>
    obtain ⟨k, hk, rfl, hall, hb, hsz, hbx⟩ := hrel
    by_cases hlt : k < l.length
    · obtain ⟨rfl, hbw, c0, c1, c2, c3⟩ := Hdg.at (hc.mono hb) k hlt
      have d0 := fun (h0 : 0 < k) => (Hdg.at (hc.mono hb) (k - 1) (by omega)).2.2.1
      have hF := hs k hlt
      have hW := fun W => isWord_c (gd l k).nm W hF.1
      rcases hd_ways l k with ⟨h1, ho⟩ | ⟨h1, h2, ho⟩ | ⟨h1, h2, h0, ho⟩ | ⟨h1, h2, h0, h3, ho⟩ | ⟨h1, h2, h0, h3, ho⟩
      all_goals
        try rw [h2] at hW
        replace hW := Lib.hid hW
        go_wp2_with fail
        refine wp_region_ext (by kernel_rfl) (by kernel_rfl) ?_
        repeat (any_goals (first | go_big_quiet_step ((first | (go_at_call 70; exact Calls.ext_same (within_c _ _ _ _)) | (go_at_call 71; exact Calls.ext_of (hW.out _))))))
        (refine wpQuiet_nil ?_)
        (rintro _ ⟨q, rfl⟩)
        go_wp2_with fail
      all_goals try
        (go_ret
         exact ⟨ret_bool (hdI_no1 hlt ho.out).symm, (by repeat' (first | exact Below.refl _ _ | with_reducible assumption | refine bext ?_ ?_ _ | refine Below.alloc ?_ ?_ _ | refine Below.setCell ?_ ?_ _ | refine Below.drew ?_ | (simp; done) | (have hbz := hb.size; first | omega | (simp; omega)) | (simp; omega) | omega))⟩)
      all_goals
        generalize e2 : ext (wr.alloc _) q = W2
        have hb2 : Below wr.heap.size wr W2 := by rw [← e2]; exact (by repeat' (first | exact Below.refl _ _ | with_reducible assumption | refine bext ?_ ?_ _ | refine Below.alloc ?_ ?_ _ | refine Below.setCell ?_ ?_ _ | refine Below.drew ?_ | (simp; done) | (have hbz := hb.size; first | omega | (simp; omega)) | (simp; omega) | omega))
        have z0 : W2.cell? ⟨wr.heap.size, 0, none⟩ = some (.int .i64 (gd l k).id) := by rw [← e2]; simp [go_sem]
        have z1 : W2.cell? ⟨wr.heap.size, 1, none⟩ = some (.string (gd l k).nm) := by rw [← e2]; simp [go_sem]
        have z2 : W2.cell? ⟨wr.heap.size, 2, none⟩ = some (.int .i64 (gd l k).un) := by rw [← e2]; simp [go_sem]
        have z3 : W2.cell? ⟨wr.heap.size, 3, none⟩ = some (.slice (gd l k).a (gd l k).sub.length (gd l k).cap) := by rw [← e2]; simp [go_sem]
        have hbx2 : W2.cell? ⟨w.heap.size, 0, none⟩ = some (.slice (some ⟨b, off, none⟩) l.length cap) := (hb2.cell (p := ⟨w.heap.size, 0, none⟩) hsz).trans hbx
        have hsz2 : wr.heap.size < W2.heap.size := block_lt_of_cell z0
        clear e2 c0 c1 c2 c3 d0 hW hbx
        generalize wr.heap.size = hbk at hsz hbw hb2 z0 z1 z2 z3 hsz2 ⊢
        have hsz3 : w.heap.size < W2.heap.size := by omega
        have hw2 : Below w.heap.size w W2 := hb.trans (hb2.mono (by omega))
        obtain ⟨sb, so, hsl, hsm, hsc⟩ := Hdg.at' (hD.out k hlt)
        unfold maxLen at hsm
        generalize hxa : (gd l k).a = xa at hsc z3
        have hT := fun W (hB : Below W2.heap.size W2 W) => headingAt_c _ _ (gd l k).un W (Sl.take (HS.out.mono (hw2.trans (hB.mono (by omega)))) hk)
        have hR := fun W (hB : Below W2.heap.size W2 W) => isRising_c (.slice xa (gd l k).sub.length (gd l k).cap) (gd l k).sub W (Sl.mono (hxa ▸ hD.out k hlt) (hw2.trans (hB.mono (by omega))))
        rcases mid_ways l k with ⟨m1, m2, mo⟩ | ⟨m1, m2, mo⟩ | ⟨m1, m2, m3, mo⟩ | ⟨m1, m2, m3, mo⟩ | ⟨⟨m1, m4⟩, m2, mo⟩ | ⟨⟨m1, m4⟩, m2, m3, mo⟩ | ⟨⟨m1, m4⟩, m2, m3, mo⟩
      all_goals
        try rw [m3] at hR
        first | generalize idxInt (hdIdx (l.take k) (gd l k).un) = r at hT m4 | generalize idxInt (hdIdx (l.take k) (gd l k).un) = r at hT m2 | generalize idxInt (hdIdx (l.take k) (gd l k).un) = r at hT
        replace hT := Lib.hid hT
        replace hR := Lib.hid hR
        have hlk : (k : Int) ≤ l.length := by omega
        refine wp_region_ext (by kernel_rfl) (by kernel_rfl) ?_
        repeat (any_goals (first | go_big_quiet_step ((first | (go_at_call 59; exact Calls.ext_of (hT.out _ (by repeat' (first | exact Below.refl _ _ | with_reducible assumption | refine bext ?_ ?_ _ | refine Below.alloc ?_ ?_ _ | refine Below.setCell ?_ ?_ _ | refine Below.drew ?_ | (simp; done) | (have hbz := hb.size; first | omega | (simp; omega)) | (simp; omega) | omega)))) | (go_at_call 72; exact Calls.ext_of (hR.out _ (by repeat' (first | exact Below.refl _ _ | with_reducible assumption | refine bext ?_ ?_ _ | refine Below.alloc ?_ ?_ _ | refine Below.setCell ?_ ?_ _ | refine Below.drew ?_ | (simp; done) | (have hbz := hb.size; first | omega | (simp; omega)) | (simp; omega) | omega))))))))
        (refine wpQuiet_nil ?_)
        (rintro _ ⟨q, rfl⟩)
        generalize e3 : ext W2 _ = W3
        have hb3 : Below W2.heap.size W2 W3 := by rw [← e3]; exact (by repeat' (first | exact Below.refl _ _ | with_reducible assumption | refine bext ?_ ?_ _ | refine Below.alloc ?_ ?_ _ | refine Below.setCell ?_ ?_ _ | refine Below.drew ?_ | (simp; done) | (have hbz := hb.size; first | omega | (simp; omega)) | (simp; omega) | omega))
        clear e3
        have hsz4 : w.heap.size < W3.heap.size := Nat.lt_of_lt_of_le hsz3 hb3.size
        have hsz5 : hbk < W3.heap.size := Nat.lt_of_lt_of_le hsz2 hb3.size
        replace z0 := (hb3.cell (p := ⟨hbk, 0, none⟩) hsz2).trans z0
        replace z1 := (hb3.cell (p := ⟨hbk, 1, none⟩) hsz2).trans z1
        replace z2 := (hb3.cell (p := ⟨hbk, 2, none⟩) hsz2).trans z2
        replace z3 := (hb3.cell (p := ⟨hbk, 3, none⟩) hsz2).trans z3
        replace hbx2 := (hb3.cell (p := ⟨w.heap.size, 0, none⟩) hsz3).trans hbx2
        have hw3 : Below w.heap.size w W3 := hw2.trans (hb3.mono (by omega))
        clear hT hR hb2 hb3
        have hC := fun W (hB : Below W3.heap.size W3 W) => containsFuncInt_c xa (gd l k).cap sb so (gd l k).sub W 74 #[.pointer (some ⟨hbk, 0, none⟩), .pointer (some ⟨w.heap.size, 0, none⟩)] (seeBad l k) (by unfold maxLen; omega) (hsc.mono (hw3.trans (hB.mono (by omega)))) (fun _ _ => by kernel_rfl)
          (fun i W' hi hB' => areHeadings1_c _ l (gd (gd l k).sub i) (gd l k).id hbk w.heap.size W' (HS.out.mono ((hw3.trans (hB.mono (by omega))).trans (hB'.mono (Nat.le_trans (Nat.le_of_lt hsz4) hB.size)))) ((btrans hB hB').cell (p := ⟨hbk, 0, none⟩) hsz5 |>.trans z0) ((btrans hB hB').cell (p := ⟨w.heap.size, 0, none⟩) hsz4 |>.trans hbx2))
        have hE := fun W (hB : Below W3.heap.size W3 W) => containsFuncHdg_c (some ⟨b, off, none⟩) cap b off (l.take k) W 76 #[.pointer (some ⟨hbk, 0, none⟩)] (fun i => (gd (l.take k) i).un == (gd l k).un && (gd (l.take k) i).nm.toList == (gd l k).nm.toList) (by unfold maxLen; simp; omega) ((hc.mono (hw3.trans (hB.mono (by omega)))).take k) (fun _ _ => by kernel_rfl)
          (fun i W' hi hB' => areHeadings2_c (gd (l.take k) i) (gd l k) hbk W' ((btrans hB hB').cell (p := ⟨hbk, 1, none⟩) hsz5 |>.trans z1) ((btrans hB hB').cell (p := ⟨hbk, 2, none⟩) hsz5 |>.trans z2))
        rw [find_same l k hk, show (l.take k).length = k by simp; omega] at hE
        generalize hr3 : (findTo (seeBad l k) (gd l k).sub.length).isSome = r3 at hC
        generalize hr4 : (findTo (sameAt l k) k).isSome = r4 at hE
        replace hC := Lib.hid hC
        replace hE := Lib.hid hE
        replace hr3 := Lib.hid hr3
        replace hr4 := Lib.hid hr4
        cases r3 <;> cases r4
        all_goals go_wp2_with (first | (go_at_call 73; refine (hC.out _ (by repeat' (first | exact Below.refl _ _ | with_reducible assumption | refine bext ?_ ?_ _ | refine Below.alloc ?_ ?_ _ | refine Below.setCell ?_ ?_ _ | refine Below.drew ?_ | (simp; done) | (have hbz := hb.size; first | omega | (simp; omega)) | (simp; omega) | omega))).mono ?_; rintro e w' ⟨rfl, hbq⟩; obtain ⟨p, rfl⟩ := ext_of_below hbq; clear hbq) | (go_at_call 75; refine (hE.out _ (by repeat' (first | exact Below.refl _ _ | with_reducible assumption | refine bext ?_ ?_ _ | refine Below.alloc ?_ ?_ _ | refine Below.setCell ?_ ?_ _ | refine Below.drew ?_ | (simp; done) | (have hbz := hb.size; first | omega | (simp; omega)) | (simp; omega) | omega))).mono ?_; rintro e w' ⟨rfl, hbq⟩; obtain ⟨p, rfl⟩ := ext_of_below hbq; clear hbq))
      all_goals try
        (go_ret
         exact ⟨ret_bool (hdI_no2 hlt mo.out).symm, (by repeat' (first | exact Below.refl _ _ | with_reducible assumption | refine bext ?_ ?_ _ | refine Below.alloc ?_ ?_ _ | refine Below.setCell ?_ ?_ _ | refine Below.drew ?_ | (simp; done) | (have hbz := hb.size; first | omega | (simp; omega)) | (simp; omega) | omega))⟩)
      all_goals try
        (go_ret
         exact ⟨ret_bool (hdI_no3 hlt hr3.out).symm, (by repeat' (first | exact Below.refl _ _ | with_reducible assumption | refine bext ?_ ?_ _ | refine Below.alloc ?_ ?_ _ | refine Below.setCell ?_ ?_ _ | refine Below.drew ?_ | (simp; done) | (have hbz := hb.size; first | omega | (simp; omega)) | (simp; omega) | omega))⟩)
      all_goals try
        (go_ret
         exact ⟨ret_bool (hdI_no4 hlt hr4.out).symm, (by repeat' (first | exact Below.refl _ _ | with_reducible assumption | refine bext ?_ ?_ _ | refine Below.alloc ?_ ?_ _ | refine Below.setCell ?_ ?_ _ | refine Below.drew ?_ | (simp; done) | (have hbz := hb.size; first | omega | (simp; omega)) | (simp; omega) | omega))⟩)
      all_goals
        have hok := Lib.hid (show hdI l k = true by rw [hdI, ho.out, mo.out, hr3.out, hr4.out]; rfl)
        go_roundw
        case rel => exact ⟨k + 1, by omega, by go_num, upto_succ hall.out hok.out, (by repeat' (first | exact Below.refl _ _ | with_reducible assumption | refine bext ?_ ?_ _ | refine Below.alloc ?_ ?_ _ | refine Below.setCell ?_ ?_ _ | refine Below.drew ?_ | (simp; done) | (have hbz := hb.size; first | omega | (simp; omega)) | (simp; omega) | omega)), Nat.lt_of_lt_of_le hsz4 (Below.size (show Below W3.heap.size W3 _ from (by repeat' (first | exact Below.refl _ _ | with_reducible assumption | refine bext ?_ ?_ _ | refine Below.alloc ?_ ?_ _ | refine Below.setCell ?_ ?_ _ | refine Below.drew ?_ | (simp; done) | (have hbz := hb.size; first | omega | (simp; omega)) | (simp; omega) | omega)))), cellOn (W := W3) (by repeat' (first | exact Below.refl _ _ | with_reducible assumption | refine bext ?_ ?_ _ | refine Below.alloc ?_ ?_ _ | refine Below.setCell ?_ ?_ _ | refine Below.drew ?_ | (simp; done) | (have hbz := hb.size; first | omega | (simp; omega)) | (simp; omega) | omega)) hbx2⟩
        case measure => simp [intOf]; omega
    · obtain rfl : k = l.length := by omega
      have he := Lib.hid (areHd_end hall.out)
      go_wp2_with fail
      go_ret
      exact ⟨ret_bool (by rw [he.out]; first | rfl | (rw [Bool.eq_iff_iff]; simp; omega)), (by repeat' (first | exact Below.refl _ _ | with_reducible assumption | refine bext ?_ ?_ _ | refine Below.alloc ?_ ?_ _ | refine Below.setCell ?_ ?_ _ | refine Below.drew ?_ | (simp; done) | (have hbz := hb.size; first | omega | (simp; omega)) | (simp; omega) | omega))⟩
end Go.Proofs.Ytbkkaibjenofiaa
