/- Issues: those that are never true; those true on a day by the reference. No condition but what a slice may hold. -/
import Derived.Test.YthibchaiaedboaaDoorEn20
import Derived.Test.YthibchaiaedboaaDoorTs20
import Derived.Test.YthibchaiaedboaaDoorStep
import Derived.Outline
namespace Go.Proofs.YthibchaiaedboaaDoor
open Go.RowKit
set_option maxHeartbeats 2000000 in
set_option maxRecDepth 100000 in
theorem specTrueSheets_c (v : Value) (l : List Iss) (d : Int) (w : World) (h : Sl w Iss.enc 4 v l) : Calls Tryd.prog 9 #[v, .int .i64 d] w (RetSlB w 34 PrE.enc 2 (tsR l d) (tsGood l d)) := by
  have b0 : Below w.heap.size w (w.alloc (.cells #[] 34)) := below_alloc _ _
  have HA := Lib.hid (l20Good_c v l _ (h.mono b0))
  cases hA : areIss l
  case' true =>
    have hl16 := areIss_len hA
    have HT := Lib.hid hA
    cases hd : inB d 0 4000
  case' true.true =>
    have hg : tsGood l d = true := by simp [tsGood, hA, hd]
    rw [hg, tsR_yes hg]
    clear hg
    rw [hA] at HA
    clear hA
    obtain ⟨i, hi, hz0, hz1, hz2⟩ := info_parts (show (Tryd.prog.info? 34).map (fun i => (i.zero, i.size, i.bytes)) = some (some (.agg #[.int .i64 0, .int .i64 0]), 2, 16) by kernel_rfl)
    obtain ⟨a, cap, b, off, rfl, hlc, hm, hc⟩ := id h
    unfold maxLen at hm
    go_enter Tryd.func9, Tryd.ntmps9
    go_wp2_with (first | (go_at_call 56; refine HA.out.mono ?_; rintro e w1 ⟨rfl, hb1⟩) | (go_at_call 57; refine (l2Day_c _ _).mono ?_; rintro e w' ⟨rfl, rfl⟩))
    have hO : Own w1 w.heap.size 34 PrE.enc 2 _ (tsTo l d 0) := (Own.empty w _ _ _ _ (Nat.le_refl _)).mono hb1
    have hb1 := btrans b0 hb1
    clear b0 HA
    go_loopw [6, 7] (fun v i wr => ∃ k : Nat, k ≤ l.length ∧ i = .int .i64 (k : Int) ∧ Hid (Own wr w.heap.size 34 PrE.enc 2 v (tsTo l d k)) ∧ Below w.heap.size w wr) (fun _ i _ => l.length - (intOf i).toNat)
    case atStart => exact ⟨0, by omega, rfl, hO, hb1⟩
    case round =>
      obtain ⟨k, hk, rfl, ho, hb⟩ := hrel
      clear hO
      by_cases hlt : k < l.length
      · have hul := tsTo_len l d k
        obtain ⟨rfl, hbw, c0, c1, c2, c3⟩ := Iss.at (hc.mono hb) k hlt
        cases hp : tsAt l d k
        · have hun := Lib.hid (show tsTo l d (k + 1) = tsTo l d k from selTo_no hp)
          have hne : ¬ trueN l (gd l k).s d = (gd l k).n := by simpa [tsAt] using hp
          clear hp
          go_wp2_with fail
          refine wp_region_ext (by kernel_rfl) (by kernel_rfl) ?_
          repeat (any_goals (first | go_big_quiet_step ((go_at_call 58; exact Calls.ext_of (l20TrueN_c _ l _ _ _ (h.mono (by repeat' (first | exact Below.refl _ _ | with_reducible assumption | refine bext ?_ ?_ _ | refine Below.alloc ?_ ?_ _ | refine Below.setCell ?_ ?_ _ | refine Below.drew ?_ | (simp; done) | (have hbz := hb.size; first | omega | (simp; omega)) | (simp; omega) | omega))) HT.out)))))
          (refine wpQuiet_nil ?_)
          (rintro _ ⟨q, rfl⟩)
          go_wp2_with fail
          go_roundw
          case rel => exact ⟨k + 1, by omega, by go_num, by rw [hun.out]; exact ho.out.mono (by repeat' (first | exact Below.refl _ _ | with_reducible assumption | refine bext ?_ ?_ _ | refine Below.alloc ?_ ?_ _ | refine Below.setCell ?_ ?_ _ | refine Below.drew ?_ | (simp; done) | (have hbz := hb.size; first | omega | (simp; omega)) | (simp; omega) | omega)), (by repeat' (first | exact Below.refl _ _ | with_reducible assumption | refine bext ?_ ?_ _ | refine Below.alloc ?_ ?_ _ | refine Below.setCell ?_ ?_ _ | refine Below.drew ?_ | (simp; done) | (have hbz := hb.size; first | omega | (simp; omega)) | (simp; omega) | omega))⟩
          case measure => simp [intOf]; omega
        · have hun := Lib.hid (show tsTo l d (k + 1) = tsTo l d k ++ [prOf (gd l k)] from selTo_yes hp)
          have hne : trueN l (gd l k).s d = (gd l k).n := by simpa [tsAt] using hp
          clear hp
          go_wp2_with fail
          refine wp_region_ext (by kernel_rfl) (by kernel_rfl) ?_
          repeat (any_goals (first | go_big_quiet_step ((go_at_call 58; exact Calls.ext_of (l20TrueN_c _ l _ _ _ (h.mono (by repeat' (first | exact Below.refl _ _ | with_reducible assumption | refine bext ?_ ?_ _ | refine Below.alloc ?_ ?_ _ | refine Below.setCell ?_ ?_ _ | refine Below.drew ?_ | (simp; done) | (have hbz := hb.size; first | omega | (simp; omega)) | (simp; omega) | omega))) HT.out)))))
          (refine wpQuiet_nil ?_)
          (rintro _ ⟨q, rfl⟩)
          go_wp2_with fail
          go_region_law ((refine step_push PrE.len PrE.one (by rfl) (.tmp 38) (.tmp 50) 27 (by rfl) w.heap.size 34 i _ 16 Tryd.underlying27 hi hz0 hz1 hz2 (by rfl) (by omega) _ (tsTo l d k) (by rfl) (ho.out.mono (by repeat' (first | exact Below.refl _ _ | with_reducible assumption | refine bext ?_ ?_ _ | refine Below.alloc ?_ ?_ _ | refine Below.setCell ?_ ?_ _ | refine Below.drew ?_ | (simp; done) | (have hbz := hb.size; first | omega | (simp; omega)) | (simp; omega) | omega))) _ 1 (prOf (gd l k)) (by rfl) (by omega) (by unfold maxLen; omega) (fun j u hu => new_cells _ [.int .i64 (gd l k).s, .int .i64 (gd l k).n] _ _ (by simp) j u hu) (by unfold maxLen; omega) (by omega) (by first | omega | (simp; done) | (simp; omega) | (have hbz := hb.size; first | omega | (simp; omega))) ?_; intro v' w3 ho2 hg2))
          all_goals
            have hb2 := below_push (lo := w.heap.size) (B := w.heap.size) (a := w) (by repeat' (first | exact Below.refl _ _ | with_reducible assumption | refine bext ?_ ?_ _ | refine Below.alloc ?_ ?_ _ | refine Below.setCell ?_ ?_ _ | refine Below.drew ?_ | (simp; done) | (have hbz := hb.size; first | omega | (simp; omega)) | (simp; omega) | omega)) (ho.out.mono (by repeat' (first | exact Below.refl _ _ | with_reducible assumption | refine bext ?_ ?_ _ | refine Below.alloc ?_ ?_ _ | refine Below.setCell ?_ ?_ _ | refine Below.drew ?_ | (simp; done) | (have hbz := hb.size; first | omega | (simp; omega)) | (simp; omega) | omega))) hg2 (Nat.le_refl _) (by first | omega | (simp; done) | (simp; omega) | (have hbz := hb.size; first | omega | (simp; omega)))
            go_wp2_with fail
            go_roundw
            case rel => exact ⟨k + 1, by omega, by go_num, by rw [hun.out]; exact ho2, hb2⟩
            case measure => simp [intOf]; omega
      · have hk4 := Lib.hid (show k = l.length by omega)
        go_wp2_with fail
        go_ret2
        exact ⟨_, rfl, by rw [← hk4.out]; exact ho.out, hb⟩
  all_goals
    have hg : tsGood l d = false := by simp [tsGood, *]
    rw [hg, tsR_no hg]
    clear hg
    rw [hA] at HA
    clear hA
    go_enter Tryd.func9, Tryd.ntmps9
    go_wp2_with (first | (go_at_call 56; refine HA.out.mono ?_; rintro e w1 ⟨rfl, hb1⟩) | (go_at_call 57; refine (l2Day_c _ _).mono ?_; rintro e w' ⟨rfl, rfl⟩))
    go_ret2
    exact ⟨_, rfl, (Own.empty w _ _ _ _ (Nat.le_refl _)).mono hb1, btrans b0 hb1⟩
end Go.Proofs.YthibchaiaedboaaDoor
