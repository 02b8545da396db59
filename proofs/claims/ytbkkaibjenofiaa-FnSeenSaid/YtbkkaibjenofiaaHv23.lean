/- Headings: what a list of headings is, by the program. No condition but sizes. -/
import Derived.Test.YtbkkaibjenofiaaHp23
import Derived.Test.YtbkkaibjenofiaaFindN
namespace Go.Proofs.Ytbkkaibjenofiaa
open Go.RowKit
theorem Hdg.at' {x : Hdg} {w : World} (h : x.In w) : ∃ b off, x.sub.length ≤ x.cap ∧ x.cap ≤ maxLen ∧ Cells w IntE.enc 1 x.a b off x.sub := by
  obtain ⟨a, cap, b, off, hv, hlc, hm, hc⟩ := h
  injection hv with e1 _ e2
  subst e1 e2
  exact ⟨b, off, hlc, hm, hc⟩
set_option maxHeartbeats 400000 in
theorem headingAt1_c (x : Hdg) (n : Int) (b : Nat) (W : World) (hc : W.cell? ⟨b, 0, none⟩ = some (.int .i64 n)) : Calls Try.prog 105 #[.agg #[.int .i64 x.id, .string x.nm, .int .i64 x.un, .slice x.a x.sub.length x.cap], .pointer (some ⟨b, 0, none⟩)] W fun e w' => e = .returned (.bool (x.id == n)) ∧ Below W.heap.size W w' := by
  have hb := block_lt_of_cell hc
  go_enter Try.func105, Try.ntmps105
  go_wp2_with fail
  go_ret
  exact ⟨rfl, (by repeat' (first | exact Below.refl _ _ | with_reducible assumption | refine bext ?_ ?_ _ | refine Below.alloc ?_ ?_ _ | refine Below.setCell ?_ ?_ _ | refine Below.drew ?_ | (simp; done) | (have hbz := hb.size; first | omega | (simp; omega)) | (simp; omega) | omega))⟩
set_option maxHeartbeats 1000000 in
theorem headingAt_c (v : Value) (l : List Hdg) (n : Int) (w : World) (h : Sl w Hdg.enc 4 v l) : Calls Try.prog 59 #[v, .int .i64 n] w fun e w' => e = .returned (.int .i64 (idxInt (hdIdx l n))) ∧ Below w.heap.size w w' := by
  obtain ⟨a, cap, b, off, rfl, hlc, hm, hc⟩ := h
  have A0 := below_alloc w (.cells #[.int .i64 n] 3)
  have hF := Lib.hid (indexFuncHdg_c a cap b off l (w.alloc (.cells #[.int .i64 n] 3)) 105 #[.pointer (some ⟨w.heap.size, 0, none⟩)] (fun i => (gd l i).id == n) (Nat.le_trans hlc hm) (hc.mono A0) (fun _ _ => by kernel_rfl)
    (fun i W hi hB => headingAt1_c (gd l i) n w.heap.size W ((hB.cell (p := ⟨w.heap.size, 0, none⟩) (by simp)).trans (by simp))))
  go_enter Try.func59, Try.ntmps59
  go_wp2_with fail
  refine hF.out.mono ?_
  rintro e w1 ⟨rfl, hb⟩
  go_wp2_with fail
  go_ret
  exact ⟨rfl, btrans A0 hb⟩
theorem hd_way {l : List Hdg} {n : Int} : (hdIdx l n = none ∧ idxInt (hdIdx l n) < 0) ∨ ((hdIdx l n).isSome = true ∧ ¬ idxInt (hdIdx l n) < 0) := by
  cases h : hdIdx l n with
  | none => exact .inl ⟨rfl, by simp [idxInt]⟩
  | some k => exact .inr ⟨rfl, by simp [idxInt]⟩
set_option maxHeartbeats 1000000 in
theorem areHeadings1_c (v : Value) (l : List Hdg) (n m : Int) (hb lb : Nat) (W : World) (h : Sl W Hdg.enc 4 v l) (h0 : W.cell? ⟨hb, 0, none⟩ = some (.int .i64 m)) (h1 : W.cell? ⟨lb, 0, none⟩ = some v) : Calls Try.prog 74 #[.int .i64 n, .pointer (some ⟨hb, 0, none⟩), .pointer (some ⟨lb, 0, none⟩)] W fun e w' => e = .returned (.bool (n == m || !(hdIdx l n).isSome)) ∧ Below W.heap.size W w' := by
  have hC := Lib.hid (fun W' (hB : Below W.heap.size W W') => headingAt_c v l n W' (h.mono hB))
  by_cases he : n = m
  · go_enter Try.func74, Try.ntmps74
    go_wp2_with fail
    go_ret
    exact ⟨ret_bool (by simp [he]), (by repeat' (first | exact Below.refl _ _ | with_reducible assumption | refine bext ?_ ?_ _ | refine Below.alloc ?_ ?_ _ | refine Below.setCell ?_ ?_ _ | refine Below.drew ?_ | (simp; done) | (have hbz := hb.size; first | omega | (simp; omega)) | (simp; omega) | omega))⟩
  · rcases hd_way (l := l) (n := n) with ⟨hw1, hw2⟩ | ⟨hw1, hw2⟩
    all_goals
      rw [hw1]
      clear hw1
      generalize idxInt (hdIdx l n) = r at hC hw2
      go_enter Try.func74, Try.ntmps74
      go_wp2_with (go_at_call 59; refine (hC.out _ (by repeat' (first | exact Below.refl _ _ | with_reducible assumption | refine bext ?_ ?_ _ | refine Below.alloc ?_ ?_ _ | refine Below.setCell ?_ ?_ _ | refine Below.drew ?_ | (simp; done) | (have hbz := hb.size; first | omega | (simp; omega)) | (simp; omega) | omega))).mono ?_; rintro e w' ⟨rfl, hbq⟩; obtain ⟨p, rfl⟩ := ext_of_below hbq; clear hbq)
      go_ret
      exact ⟨ret_bool (by first | (simp [he, hw2]; done) | (simp [he]; omega)), (by repeat' (first | exact Below.refl _ _ | with_reducible assumption | refine bext ?_ ?_ _ | refine Below.alloc ?_ ?_ _ | refine Below.setCell ?_ ?_ _ | refine Below.drew ?_ | (simp; done) | (have hbz := hb.size; first | omega | (simp; omega)) | (simp; omega) | omega))⟩
set_option maxHeartbeats 1000000 in
theorem areHeadings2_c (x y : Hdg) (hb : Nat) (W : World) (h1 : W.cell? ⟨hb, 1, none⟩ = some (.string y.nm)) (h2 : W.cell? ⟨hb, 2, none⟩ = some (.int .i64 y.un)) : Calls Try.prog 76 #[.agg #[.int .i64 x.id, .string x.nm, .int .i64 x.un, .slice x.a x.sub.length x.cap], .pointer (some ⟨hb, 0, none⟩)] W fun e w' => e = .returned (.bool (x.un == y.un && x.nm.toList == y.nm.toList)) ∧ Below W.heap.size W w' := by
  have hb' := block_lt_of_cell h1
  by_cases hu : x.un = y.un
  all_goals
    go_enter Try.func76, Try.ntmps76
    go_wp2_with fail
    go_ret
    exact ⟨ret_bool (by first | rfl | (rw [Bool.eq_iff_iff]; simp [hu]; done) | simp [hu]), (by repeat' (first | exact Below.refl _ _ | with_reducible assumption | refine bext ?_ ?_ _ | refine Below.alloc ?_ ?_ _ | refine Below.setCell ?_ ?_ _ | refine Below.drew ?_ | (simp; done) | (have hbz := hb.size; first | omega | (simp; omega)) | (simp; omega) | omega))⟩
theorem hd_ways (l : List Hdg) (k : Nat) : (inB (gd l k).id 1 99 = false ∧ Hid (hdHead l k = false)) ∨ (inB (gd l k).id 1 99 = true ∧ wordB (gd l k).nm = false ∧ Hid (hdHead l k = false)) ∨
    (inB (gd l k).id 1 99 = true ∧ wordB (gd l k).nm = true ∧ ¬ 0 < k ∧ Hid (hdHead l k = true)) ∨ (inB (gd l k).id 1 99 = true ∧ wordB (gd l k).nm = true ∧ 0 < k ∧ decide ((gd l k).id ≤ (gd l (k - 1)).id) = false ∧ Hid (hdHead l k = true)) ∨
    (inB (gd l k).id 1 99 = true ∧ wordB (gd l k).nm = true ∧ 0 < k ∧ decide ((gd l k).id ≤ (gd l (k - 1)).id) = true ∧ Hid (hdHead l k = false)) := by
  unfold Hid hdHead
  cases h : inB (gd l k).id 1 99
  · exact .inl ⟨rfl, by simp⟩
  · cases h2 : wordB (gd l k).nm
    · exact .inr (.inl ⟨rfl, rfl, by simp⟩)
    · by_cases h0 : 0 < k
      · by_cases h1 : (gd l (k - 1)).id < (gd l k).id
        · exact .inr (.inr (.inr (.inl ⟨rfl, rfl, h0, by simp; omega, by simp [h1]⟩)))
        · exact .inr (.inr (.inr (.inr ⟨rfl, rfl, h0, by simp; omega, by simp [h1]; omega⟩)))
      · exact .inr (.inr (.inl ⟨rfl, rfl, h0, by simp; omega⟩))
theorem hdI_no1 {l : List Hdg} {k : Nat} (hk : k < l.length) (h : hdHead l k = false) : areHd l = false := areHd_no k hk (by simp [hdI, h])
theorem hdI_no2 {l : List Hdg} {k : Nat} (hk : k < l.length) (h : hdMid l k = false) : areHd l = false := areHd_no k hk (by simp [hdI, h])
theorem hdI_no3 {l : List Hdg} {k : Nat} (hk : k < l.length) (h : (findTo (seeBad l k) (gd l k).sub.length).isSome = true) : areHd l = false := areHd_no k hk (by simp [hdI, h])
theorem hdI_no4 {l : List Hdg} {k : Nat} (hk : k < l.length) (h : (findTo (sameAt l k) k).isSome = true) : areHd l = false := areHd_no k hk (by simp [hdI, h])
end Go.Proofs.Ytbkkaibjenofiaa
