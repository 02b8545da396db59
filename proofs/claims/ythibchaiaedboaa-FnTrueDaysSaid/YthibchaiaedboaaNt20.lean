/- Issues: those that are never true; those true on a day by the reference. No condition but what a slice may hold. -/
import Derived.Test.YthibchaiaedboaaEn20
import Derived.Test.YthibchaiaedboaaTs20
import Derived.Test.YthibchaiaedboaaStep
import Derived.Outline
namespace Go.Proofs.Ythibchaiaedboaa
open Go.RowKit
set_option maxHeartbeats 400000 in
set_option maxRecDepth 100000 in
theorem neverTrue1_c (x : Iss) (v : Value) (l : List Iss) (b1 : Nat) (W : World) (h1 : W.cell? ⟨b1, 0, none⟩ = some v) (hv : ∃ a n c, v = .slice a n c) (hl : Sl W Iss.enc 4 v l) (hx : issOk x = true) (r : Bool) (hr0 : decide ((spans l x).length = 0) = r) :
    Calls Try.prog 114 #[.agg #[.int .i64 x.s, .int .i64 x.n, .int .i64 x.fr, .int .i64 x.un], .pointer (some ⟨b1, 0, none⟩)] W fun e w' => e = .returned (.bool r) ∧ Below W.heap.size W w' := by
  have HX := Lib.hid hx
  clear hx
  obtain ⟨xs, xn, xf, xu⟩ := x
  obtain ⟨a, n, c, rfl⟩ := hv
  have z1 := block_lt_of_cell h1
  have hr := Lib.hid hr0
  clear hr0
  go_enter Try.func114, Try.ntmps114
  go_wp2_with fail
  refine (trueDays_c _ l ⟨xs, xn, xf, xu⟩ _ (hl.mono (by repeat' (first | exact Below.refl _ _ | with_reducible assumption | refine bext ?_ ?_ _ | refine Below.alloc ?_ ?_ _ | refine Below.setCell ?_ ?_ _ | refine Below.drew ?_ | (simp; done) | (have hbz := hb.size; first | omega | (simp; omega)) | (simp; omega) | omega))) HX.out).mono ?_
  rintro e w1 ⟨rv, rfl, ho, hb⟩
  obtain ⟨a', cap', b', off', rfl, -, hm', -⟩ := ho.sl PrE.len
  unfold maxLen at hm'
  go_wp2_with fail
  go_ret
  refine ⟨ret_bool ?_, Below.trans (by repeat' (first | exact Below.refl _ _ | with_reducible assumption | refine bext ?_ ?_ _ | refine Below.alloc ?_ ?_ _ | refine Below.setCell ?_ ?_ _ | refine Below.drew ?_ | (simp; done) | (have hbz := hb.size; first | omega | (simp; omega)) | (simp; omega) | omega)) (hb.mono (by simp))⟩
  rw [← hr.out, Bool.eq_iff_iff]
  simp only [beq_iff_eq, decide_eq_true_eq]
  omega
set_option maxHeartbeats 1000000 in
set_option maxRecDepth 100000 in
theorem neverTrue_c (v : Value) (l : List Iss) (w : World) (h : Sl w Iss.enc 4 v l) : Calls Try.prog 25 #[v] w (RetSlB w 45 PrE.enc 2 (ntR l) (areIss l)) := by
  have hv : ∃ a n c, v = .slice a n c := by obtain ⟨a, cap, b, off, rfl, _⟩ := h; exact ⟨_, _, _, rfl⟩
  have HA := Lib.hid (fun W (hb : Below w.heap.size w W) => areIssues_c v l W (h.mono hb))
  cases hA : areIss l
  · rw [ntR_no hA]
    rw [hA] at HA
    clear hA
    obtain ⟨a, n, c, rfl⟩ := hv
    go_enter Try.func25, Try.ntmps25
    go_wp2_with (first | (go_at_call 100; refine (HA.out _ (by repeat' (first | exact Below.refl _ _ | with_reducible assumption | refine bext ?_ ?_ _ | refine Below.alloc ?_ ?_ _ | refine Below.setCell ?_ ?_ _ | refine Below.drew ?_ | (simp; done) | (have hbz := hb.size; first | omega | (simp; omega)) | (simp; omega) | omega))).mono ?_; rintro e w' ⟨rfl, hbq⟩; obtain ⟨p, rfl⟩ := ext_of_below hbq; clear hbq))
    go_ret2
    exact ⟨_, rfl, Own.nil _ _ _ _ _, (by repeat' (first | exact Below.refl _ _ | with_reducible assumption | refine bext ?_ ?_ _ | refine Below.alloc ?_ ?_ _ | refine Below.setCell ?_ ?_ _ | refine Below.drew ?_ | (simp; done) | (have hbz := hb.size; first | omega | (simp; omega)) | (simp; omega) | omega))⟩
  · have hl16 := areIss_len hA
    have HT := Lib.hid hA
    rw [ntR_yes hA]
    rw [hA] at HA
    clear hA
    obtain ⟨a, n, c, rfl⟩ := hv
    go_enter Try.func25, Try.ntmps25
    go_wp2_with (first | (go_at_call 100; refine (HA.out _ (by repeat' (first | exact Below.refl _ _ | with_reducible assumption | refine bext ?_ ?_ _ | refine Below.alloc ?_ ?_ _ | refine Below.setCell ?_ ?_ _ | refine Below.drew ?_ | (simp; done) | (have hbz := hb.size; first | omega | (simp; omega)) | (simp; omega) | omega))).mono ?_; rintro e w' ⟨rfl, hbq⟩; obtain ⟨p, rfl⟩ := ext_of_below hbq; clear hbq))
    refine (pairsOf_c _ l _ 114 #[.pointer (some ⟨w.heap.size, 0, none⟩)] (ntAt l) (h.mono (by repeat' (first | exact Below.refl _ _ | with_reducible assumption | refine bext ?_ ?_ _ | refine Below.alloc ?_ ?_ _ | refine Below.setCell ?_ ?_ _ | refine Below.drew ?_ | (simp; done) | (have hbz := hb.size; first | omega | (simp; omega)) | (simp; omega) | omega))) hl16 (fun _ _ => by kernel_rfl) (fun i W' hi hB => neverTrue1_c (gd l i) _ l _ W' ((hB.cell (p := ⟨w.heap.size, 0, none⟩) (by first | omega | (simp; done) | (simp; omega) | (have hbz := hb.size; first | omega | (simp; omega)))).trans (by simp [go_sem])) ⟨_, _, _, rfl⟩ ((h.mono (by repeat' (first | exact Below.refl _ _ | with_reducible assumption | refine bext ?_ ?_ _ | refine Below.alloc ?_ ?_ _ | refine Below.setCell ?_ ?_ _ | refine Below.drew ?_ | (simp; done) | (have hbz := hb.size; first | omega | (simp; omega)) | (simp; omega) | omega))).mono hB) (areIss_ok HT.out i hi) _ rfl)).mono ?_
    rintro e w2 ⟨rv, rfl, ho, hb2⟩
    go_wp2_with fail
    go_ret2
    exact ⟨_, rfl, ho.lower (by first | omega | (simp; done) | (simp; omega) | (have hbz := hb.size; first | omega | (simp; omega))), Below.trans (by repeat' (first | exact Below.refl _ _ | with_reducible assumption | refine bext ?_ ?_ _ | refine Below.alloc ?_ ?_ _ | refine Below.setCell ?_ ?_ _ | refine Below.drew ?_ | (simp; done) | (have hbz := hb.size; first | omega | (simp; omega)) | (simp; omega) | omega)) (hb2.mono (by first | omega | (simp; done) | (simp; omega) | (have hbz := hb.size; first | omega | (simp; omega))))⟩
set_option maxHeartbeats 2000000 in
set_option maxRecDepth 100000 in
theorem specNeverTrue_c (v : Value) (l : List Iss) (w : World) (h : Sl w Iss.enc 4 v l) : Calls Try.prog 26 #[v] w (RetSlB w 45 PrE.enc 2 (ntR l) (areIss l)) := by
  have b0 : Below w.heap.size w (w.alloc (.cells #[] 45)) := below_alloc _ _
  have HA := Lib.hid (l20Good_c v l _ (h.mono b0))
  cases hA : areIss l
  · rw [ntR_no hA]
    rw [hA] at HA
    clear hA
    go_enter Try.func26, Try.ntmps26
    go_wp2_with (first | (go_at_call 98; refine HA.out.mono ?_; rintro e w1 ⟨rfl, hb1⟩))
    go_ret2
    exact ⟨_, rfl, (Own.empty w _ _ _ _ (Nat.le_refl _)).mono hb1, btrans b0 hb1⟩
  · have hl16 := areIss_len hA
    have HT := Lib.hid hA
    rw [ntR_yes hA]
    rw [hA] at HA
    clear hA
    obtain ⟨i, hi, hz0, hz1, hz2⟩ := info_parts (show (Try.prog.info? 45).map (fun i => (i.zero, i.size, i.bytes)) = some (some (.agg #[.int .i64 0, .int .i64 0]), 2, 16) by kernel_rfl)
    obtain ⟨a, cap, b, off, rfl, hlc, hm, hc⟩ := id h
    unfold maxLen at hm
    go_enter Try.func26, Try.ntmps26
    go_wp2_with (first | (go_at_call 98; refine HA.out.mono ?_; rintro e w1 ⟨rfl, hb1⟩))
    have hO : Own w1 w.heap.size 45 PrE.enc 2 _ (ntTo l 0) := (Own.empty w _ _ _ _ (Nat.le_refl _)).mono hb1
    have hb1 := btrans b0 hb1
    clear b0 HA
    go_loopw [4, 5] (fun v i wr => ∃ k : Nat, k ≤ l.length ∧ i = .int .i64 (k : Int) ∧ Hid (Own wr w.heap.size 45 PrE.enc 2 v (ntTo l k)) ∧ Below w.heap.size w wr) (fun _ i _ => l.length - (intOf i).toNat)
    case atStart => exact ⟨0, by omega, rfl, hO, hb1⟩
    case round =>
      obtain ⟨k, hk, rfl, ho, hb⟩ := hrel
      clear hO
      by_cases hlt : k < l.length
      · have hul := ntTo_len l k
        obtain ⟨rfl, hbw, c0, c1, c2, c3⟩ := Iss.at (hc.mono hb) k hlt
        have hok := Lib.hid (areIss_ok HT.out k hlt)
        cases hp : ntAt l k
        · have hun := Lib.hid (show ntTo l (k + 1) = ntTo l k from selTo_no hp)
          have hne : ¬ (spans l (gd l k)).length = 0 := by simpa [ntAt] using hp
          clear hp
          go_wp2_with fail
          refine (l20Days_c _ l (gd l k) _ (h.mono hb) HT.out hok.out).mono ?_
          rintro e w2 ⟨rv, rfl, hr, hb2⟩
          obtain ⟨a', cap', b', off', rfl, -, hm', -⟩ := hr.sl PrE.len
          unfold maxLen at hm'
          have hb3 := hb.trans (hb2.mono hb.size)
          have ho3 := Lib.hid (ho.out.mono hb2)
          clear hr hb2
          go_wp2_with fail
          go_roundw
          case rel => exact ⟨k + 1, by omega, by go_num, by rw [hun.out]; exact ho3.out, hb3⟩
          case measure => simp [intOf]; omega
        · have hun := Lib.hid (show ntTo l (k + 1) = ntTo l k ++ [prOf (gd l k)] from selTo_yes hp)
          have hne : (spans l (gd l k)).length = 0 := by simpa [ntAt] using hp
          clear hp
          go_wp2_with fail
          refine (l20Days_c _ l (gd l k) _ (h.mono hb) HT.out hok.out).mono ?_
          rintro e w2 ⟨rv, rfl, hr, hb2⟩
          obtain ⟨a', cap', b', off', rfl, -, hm', -⟩ := hr.sl PrE.len
          unfold maxLen at hm'
          have hz3 := hb2.size
          have hb3 := hb.trans (hb2.mono hb.size)
          have ho3 := Lib.hid (ho.out.mono hb2)
          obtain ⟨-, hbw, c0, c1, c2, c3⟩ := Iss.at (hc.mono hb3) k hlt
          clear hr hb2
          go_wp2_with fail
          go_region_law ((refine step_push PrE.len PrE.one (by rfl) (.tmp 25) (.tmp 37) 39 (by rfl) w.heap.size 45 i _ 16 Try.underlying39 hi hz0 hz1 hz2 (by rfl) (by omega) _ (ntTo l k) (by rfl) (ho3.out.mono (by repeat' (first | exact Below.refl _ _ | with_reducible assumption | refine bext ?_ ?_ _ | refine Below.alloc ?_ ?_ _ | refine Below.setCell ?_ ?_ _ | refine Below.drew ?_ | (simp; done) | (have hbz := hb.size; first | omega | (simp; omega)) | (simp; omega) | omega))) _ 1 (prOf (gd l k)) (by rfl) (by omega) (by unfold maxLen; omega) (fun j u hu => new_cells _ [.int .i64 (gd l k).s, .int .i64 (gd l k).n] _ _ (by simp) j u hu) (by unfold maxLen; omega) (by omega) (by first | omega | (simp; done) | (simp; omega) | (have hbz := hb.size; first | omega | (simp; omega))) ?_; intro v' w3 ho2 hg2))
          all_goals
            have hb2 := below_push (lo := w.heap.size) (B := w.heap.size) (a := w) (by repeat' (first | exact Below.refl _ _ | with_reducible assumption | refine bext ?_ ?_ _ | refine Below.alloc ?_ ?_ _ | refine Below.setCell ?_ ?_ _ | refine Below.drew ?_ | (simp; done) | (have hbz := hb.size; first | omega | (simp; omega)) | (simp; omega) | omega)) (ho3.out.mono (by repeat' (first | exact Below.refl _ _ | with_reducible assumption | refine bext ?_ ?_ _ | refine Below.alloc ?_ ?_ _ | refine Below.setCell ?_ ?_ _ | refine Below.drew ?_ | (simp; done) | (have hbz := hb.size; first | omega | (simp; omega)) | (simp; omega) | omega))) hg2 (Nat.le_refl _) (by first | omega | (simp; done) | (simp; omega) | (have hbz := hb.size; first | omega | (simp; omega)))
            go_wp2_with fail
            go_roundw
            case rel => exact ⟨k + 1, by omega, by go_num, by rw [hun.out]; exact ho2, hb2⟩
            case measure => simp [intOf]; omega
      · have hk4 := Lib.hid (show k = l.length by omega)
        go_wp2_with fail
        go_ret2
        exact ⟨_, rfl, by rw [← hk4.out]; exact ho.out, hb⟩
end Go.Proofs.Ythibchaiaedboaa
