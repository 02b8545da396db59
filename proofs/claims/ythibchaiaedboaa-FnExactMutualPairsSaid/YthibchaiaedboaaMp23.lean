/- Headings: the pairs that refer to each other. Plain law, and by the reference. No condition but what a slice may hold. -/
import Derived.Test.YthibchaiaedboaaGd
import Derived.Test.YthibchaiaedboaaRi
import Derived.Test.YthibchaiaedboaaSel
import Derived.Test.YthibchaiaedboaaHp23
import Derived.Test.YthibchaiaedboaaHx23
import Derived.Test.YthibchaiaedboaaCk
import Derived.Deep.RegionLaw
import Derived.Outline
namespace Go.Proofs.Ythibchaiaedboaa
open Go.RowKit
def mutAt (l : List Hdg) (i k : Nat) : Bool := hasI (gd l i).sub (gd l k).id && hasI (gd l k).sub (gd l i).id
def mpIn (l : List Hdg) (i n : Nat) : List (List Int) := selTo (fun j => mutAt l i (i + 1 + j)) (fun j => [(gd l i).id, (gd l (i + 1 + j)).id]) n
def mpTo (l : List Hdg) : Nat → List (List Int)
  | 0 => []
  | i + 1 => mpTo l i ++ mpIn l i (l.length - (i + 1))
def mpR (l : List Hdg) : List (List Int) := if areHd l then mpTo l l.length else []
theorem mpR_no {l : List Hdg} (h : areHd l = false) : mpR l = [] := by simp [mpR, h]
theorem mpR_yes {l : List Hdg} (h : areHd l = true) : mpR l = mpTo l l.length := by simp [mpR, h]
theorem mpIn_len (l : List Hdg) (i n : Nat) : (mpIn l i n).length ≤ n := selTo_len _ _ _
theorem mpTo_len (l : List Hdg) : ∀ i, (mpTo l i).length ≤ i * l.length
  | 0 => by simp [mpTo]
  | i + 1 => by
    have h1 := mpTo_len l i
    have h2 := mpIn_len l i (l.length - (i + 1))
    have h3 : (i + 1) * l.length = i * l.length + l.length := Nat.succ_mul _ _
    simp only [mpTo, List.length_append]
    omega
theorem mpTo_small {l : List Hdg} (h : l.length ≤ 15) (i : Nat) (hi : i ≤ l.length) : (mpTo l i).length ≤ 225 := by
  have h1 := mpTo_len l i
  have h2 : i * l.length ≤ 15 * 15 := Nat.mul_le_mul (by omega) h
  omega
theorem mp_mem {l : List Hdg} {p : List Int} : ∀ {i : Nat}, p ∈ mpTo l i → ∃ a b, a < b ∧ b < l.length ∧ mutAt l a b = true ∧ p = [(gd l a).id, (gd l b).id]
  | 0, h => by simp [mpTo] at h
  | i + 1, h => by
    simp only [mpTo, List.mem_append] at h
    rcases h with h | h
    · exact mp_mem h
    · obtain ⟨j, h1, h2, h3⟩ := selTo_mem.1 h
      exact ⟨i, i + 1 + j, by omega, by omega, h2, h3⟩
theorem mpR_two {l : List Hdg} {p : List Int} (h : p ∈ mpR l) : p.length = 2 := by
  unfold mpR at h
  split at h
  · obtain ⟨a, b, _, _, _, rfl⟩ := mp_mem h
    rfl
  · simp at h
theorem mpR_len (l : List Hdg) : (mpR l).length ≤ 1048577 := by
  unfold mpR
  split
  · rename_i h
    have := mpTo_small (areHd_len h) l.length (Nat.le_refl _)
    omega
  · simp
theorem Own.made2 {W : World} {lo : Nat} {e : TypeId} (h : lo ≤ W.heap.size) (x y : Int) : Own (W.alloc (.cells #[.int .i64 x, .int .i64 y] e)) lo e IntE.enc 1 (.slice (some ⟨W.heap.size, 0, none⟩) 2 2) [x, y] :=
  ⟨rfl, .inr ⟨W.heap.size, 2, _, rfl, h, heap_alloc_new W _, Nat.le_refl _, by simp [maxLen], rfl, rfl⟩⟩
/-- one more pair is pushed -/
theorem pair_push {w W W' : World} {lo H : Nat} {v v' : Value} {l : List Rw} {x y : Int} (h : Rw.OwnN w lo H v l) (hb : Below w.heap.size w W) (hH : H ≤ w.heap.size)
    (hO : Own W lo 3 IntE.enc 1 (.slice (some ⟨w.heap.size, 0, none⟩) 2 2) [x, y])
    (ho : Own W' lo 49 Rw.enc 1 v' (l ++ [⟨some ⟨w.heap.size, 0, none⟩, 2, [x, y]⟩])) (hg : W.grownBy W' v.ownBlock) (hat : v'.ownBlock = v.ownBlock ∨ v'.ownBlock = some W.heap.size) :
    Rw.OwnN W' lo W'.heap.size v' (l ++ [⟨some ⟨w.heap.size, 0, none⟩, 2, [x, y]⟩]) :=
  NOwn.push (h.mono hb) ho hg hat (Nat.le_trans hH hb.size) hO (fun b hb2 => by
    have : w.heap.size = b := Option.some.inj hb2
    omega)
theorem mpIn_yes {l : List Hdg} {i k : Nat} (h : mutAt l i (i + 1 + k) = true) : mpIn l i (k + 1) = mpIn l i k ++ [[(gd l i).id, (gd l (i + 1 + k)).id]] := selTo_yes (f := fun j => mutAt l i (i + 1 + j)) h
theorem mpIn_no {l : List Hdg} {i k : Nat} (h : mutAt l i (i + 1 + k) = false) : mpIn l i (k + 1) = mpIn l i k := selTo_no (f := fun j => mutAt l i (i + 1 + j)) h
set_option maxHeartbeats 4000000 in
set_option maxRecDepth 100000 in
theorem specMutualPairs_c (v : Value) (l : List Hdg) (w : World) (h : Sl w Hdg.enc 4 v l) (hd : Hdg.Deep w l) (hs : ∀ i, i < l.length → (gd l i).Fits) : Calls Try.prog 48 #[v] w (RetGrid w (mpR l) (areHd l)) := by
  obtain ⟨i0, hi, hz0, hz1, hz2⟩ := info_parts (show (Try.prog.info? 49).map (fun i => (i.zero, i.size, i.bytes)) = some (some (.slice none 0 0), 1, 24) by kernel_rfl)
  have HA := Lib.hid (fun W (hb : Below w.heap.size w W) => l23Good_c v l W (h.mono hb) (hd.mono hb) hs)
  have hD := Lib.hid hd
  clear hd
  obtain ⟨a, cap, b, off, rfl, hlc, hm, hc⟩ := id h
  unfold maxLen at hm
  cases hA : areHd l
  · have hE := Lib.hid (mpR_no hA)
    rw [hA] at HA
    clear hA
    go_enter Try.func48, Try.ntmps48
    go_wp2_with (go_at_call 127; refine (HA.out _ (by repeat' (first | exact Below.refl _ _ | with_reducible assumption | refine bext ?_ ?_ _ | refine Below.alloc ?_ ?_ _ | refine Below.setCell ?_ ?_ _ | refine Below.drew ?_ | (simp; done) | (have hbz := hb.size; first | omega | (simp; omega)) | (simp; omega) | omega))).mono ?_; rintro e w' ⟨rfl, hbq⟩; obtain ⟨p, rfl⟩ := ext_of_below hbq; clear hbq)
    go_ret2
    rw [hE.out]
    exact ⟨_, [], rfl, ((NOwn.empty w _ (Nat.le_refl _)).mono (below_ext _ _)).wide (Nat.le_refl _) (by simp), rfl, (by repeat' (first | exact Below.refl _ _ | with_reducible assumption | refine bext ?_ ?_ _ | refine Below.alloc ?_ ?_ _ | refine Below.setCell ?_ ?_ _ | refine Below.drew ?_ | (simp; done) | (have hbz := hb.size; first | omega | (simp; omega)) | (simp; omega) | omega))⟩
  · have hE := Lib.hid (mpR_yes hA)
    have h15 := areHd_len hA
    have HT := Lib.hid hA
    rw [hA] at HA
    clear hA
    go_enter Try.func48, Try.ntmps48
    go_wp2_with (go_at_call 127; refine (HA.out _ (by repeat' (first | exact Below.refl _ _ | with_reducible assumption | refine bext ?_ ?_ _ | refine Below.alloc ?_ ?_ _ | refine Below.setCell ?_ ?_ _ | refine Below.drew ?_ | (simp; done) | (have hbz := hb.size; first | omega | (simp; omega)) | (simp; omega) | omega))).mono ?_; rintro e w' ⟨rfl, hbq⟩; obtain ⟨p, rfl⟩ := ext_of_below hbq; clear hbq)
    refine wpAt fun W1 hW => ?_
    have BW1 : Below w.heap.size w W1 := by rw [hW]; exact (by repeat' (first | exact Below.refl _ _ | with_reducible assumption | refine bext ?_ ?_ _ | refine Below.alloc ?_ ?_ _ | refine Below.setCell ?_ ?_ _ | refine Below.drew ?_ | (simp; done) | (have hbz := hb.size; first | omega | (simp; omega)) | (simp; omega) | omega))
    have O1 : Rw.OwnN W1 w.heap.size W1.heap.size (.slice (some ⟨w.heap.size, 0, none⟩) 0 0) [] := by rw [hW]; exact ((NOwn.empty w _ (Nat.le_refl _)).mono (below_ext _ _)).wide (Nat.le_refl _) (by simp)
    clear hW
    have O1 := Lib.hid O1
    go_loopw [4, 5, 6] (fun o vi _ wr => ∃ (i : Nat) (l' : List Rw), i ≤ l.length ∧ vi = .int .i64 i ∧ Hid (l'.map Rw.sub = mpTo l i) ∧ Hid (Rw.OwnN wr w.heap.size wr.heap.size o l') ∧ Below w.heap.size w wr) (fun _ vi _ _ => l.length - (intOf vi).toNat)
    case atStart => exact ⟨0, [], Nat.zero_le _, rfl, Lib.hid rfl, O1, BW1⟩
    case round =>
      obtain ⟨i, l', hil, rfl, hl', hO, hb⟩ := hrel
      obtain ⟨wo, hwo⟩ : ∃ x, x = wr := ⟨_, rfl⟩
      subst hwo
      by_cases hlt : i < l.length
      · have hsm := mpTo_small h15 i hil
        go_wp2_with fail
        go_loopw [4, 6] (fun o vk wr => ∃ (j : Nat) (l2 : List Rw), i + 1 ≤ j ∧ j ≤ l.length ∧ vk = .int .i64 j ∧ Hid (l2.map Rw.sub = mpTo l i ++ mpIn l i (j - (i + 1))) ∧ Hid (Rw.OwnN wr w.heap.size wr.heap.size o l2) ∧ Below w.heap.size w wr) (fun _ vk _ => l.length - (intOf vk).toNat)
        case atStart => exact ⟨i + 1, l', Nat.le_refl _, by omega, by go_num, Lib.hid (by rw [hl'.out, Nat.sub_self]; simp [mpIn, selTo]), hO, hb⟩
        case round =>
          obtain ⟨j, l2, hij1, hik, rfl, hl2, hO2, hb2⟩ := hrel
          obtain ⟨k, hk⟩ : ∃ k, k = j - (i + 1) := ⟨_, rfl⟩
          rw [← hk] at hl2
          have hlen2 : l2.length ≤ 225 + 15 := by
            have e1 : l2.length = (mpTo l i ++ mpIn l i k).length := by rw [← hl2.out]; simp
            have e2 := mpIn_len l i k
            rw [e1, List.length_append]; omega
          by_cases hkl : j < l.length
          · have hj : j = i + 1 + k := by omega
            clear hk
            obtain ⟨rfl, hbw, c0, c1, c2, c3⟩ := Hdg.at (hc.mono hb2) i hlt
            obtain ⟨-, -, d0, d1, d2, d3⟩ := Hdg.at (hc.mono hb2) j hkl
            have hS1 := fun W (hB : Below wr.heap.size wr W) => l1Has_c (.slice (gd l i).a (gd l i).sub.length (gd l i).cap) (gd l i).sub (gd l j).id W (Sl.mono (hD.out i hlt) (hb2.trans (hB.mono hb2.size)))
            have hS2 := fun W (hB : Below wr.heap.size wr W) => l1Has_c (.slice (gd l j).a (gd l j).sub.length (gd l j).cap) (gd l j).sub (gd l i).id W (Sl.mono (hD.out j hkl) (hb2.trans (hB.mono hb2.size)))
            have hmu : mutAt l i (i + 1 + k) = (hasI (gd l i).sub (gd l j).id && hasI (gd l j).sub (gd l i).id) := by rw [← hj]; rfl
            have hji : Hid ((gd l (i + 1 + k)).id = (gd l j).id) := by rw [← hj]; exact Lib.hid rfl
            have hij : ¬ j = i := by omega
            replace hj := Lib.hid hj
            cases q1 : hasI (gd l i).sub (gd l j).id
            · rw [q1] at hS1 hmu
              replace hS1 := Lib.hid hS1
              have hn := Lib.hid (mpIn_no hmu)
              clear hmu q1 hS2
              go_wp2_with fail
              refine wp_region_ext (by kernel_rfl) (by kernel_rfl) ?_
              repeat (any_goals (first | go_big_quiet_step ((go_at_call 128; exact Calls.ext_same (hS1.out _ (by repeat' (first | exact Below.refl _ _ | with_reducible assumption | refine bext ?_ ?_ _ | refine Below.alloc ?_ ?_ _ | refine Below.setCell ?_ ?_ _ | refine Below.drew ?_ | (simp; done) | (have hbz := hb.size; first | omega | (simp; omega)) | (simp; omega) | omega)))))))
              (refine wpQuiet_nil ?_)
              (rintro _ ⟨q, rfl⟩)
              go_wp2_with fail
              go_roundw
              case rel => exact ⟨j + 1, l2, by omega, by omega, by go_num, Lib.hid (by rw [show j + 1 - (i + 1) = k + 1 by have := hj.out; omega, hn.out]; exact hl2.out), Lib.hid ((hO2.out.mono (below_ext _ _)).wide (Nat.le_refl _) (by simp)), bext hb2 hb2.size _⟩
              case measure => simp [intOf]; omega
            · rw [q1] at hS1 hmu
              replace hS1 := Lib.hid hS1
              clear q1
              cases q2 : hasI (gd l j).sub (gd l i).id
              · rw [q2] at hS2 hmu
                replace hS2 := Lib.hid hS2
                have hn := Lib.hid (mpIn_no hmu)
                clear hmu q2
                go_wp2_with fail
                refine wp_region_ext (by kernel_rfl) (by kernel_rfl) ?_
                repeat (any_goals (first | go_big_quiet_step ((go_at_call 128; first | ((with_reducible refine Calls.ext_same (hS1.out _ ?_)); exact (by repeat' (first | exact Below.refl _ _ | with_reducible assumption | refine bext ?_ ?_ _ | refine Below.alloc ?_ ?_ _ | refine Below.setCell ?_ ?_ _ | refine Below.drew ?_ | (simp; done) | (have hbz := hb.size; first | omega | (simp; omega)) | (simp; omega) | omega))) | ((with_reducible refine Calls.ext_same (hS2.out _ ?_)); exact (by repeat' (first | exact Below.refl _ _ | with_reducible assumption | refine bext ?_ ?_ _ | refine Below.alloc ?_ ?_ _ | refine Below.setCell ?_ ?_ _ | refine Below.drew ?_ | (simp; done) | (have hbz := hb.size; first | omega | (simp; omega)) | (simp; omega) | omega)))))))
                (refine wpQuiet_nil ?_)
                (rintro _ ⟨q, rfl⟩)
                go_wp2_with fail
                go_roundw
                case rel => exact ⟨j + 1, l2, by omega, by omega, by go_num, Lib.hid (by rw [show j + 1 - (i + 1) = k + 1 by have := hj.out; omega, hn.out]; exact hl2.out), Lib.hid ((hO2.out.mono (below_ext _ _)).wide (Nat.le_refl _) (by simp)), bext hb2 hb2.size _⟩
                case measure => simp [intOf]; omega
              · rw [q2] at hS2 hmu
                replace hS2 := Lib.hid hS2
                have hn := Lib.hid (mpIn_yes hmu)
                clear hmu q2
                go_wp2_with fail
                refine wp_region_ext (by kernel_rfl) (by kernel_rfl) ?_
                repeat (any_goals (first | go_big_quiet_step ((go_at_call 128; first | ((with_reducible refine Calls.ext_same (hS1.out _ ?_)); exact (by repeat' (first | exact Below.refl _ _ | with_reducible assumption | refine bext ?_ ?_ _ | refine Below.alloc ?_ ?_ _ | refine Below.setCell ?_ ?_ _ | refine Below.drew ?_ | (simp; done) | (have hbz := hb.size; first | omega | (simp; omega)) | (simp; omega) | omega))) | ((with_reducible refine Calls.ext_same (hS2.out _ ?_)); exact (by repeat' (first | exact Below.refl _ _ | with_reducible assumption | refine bext ?_ ?_ _ | refine Below.alloc ?_ ?_ _ | refine Below.setCell ?_ ?_ _ | refine Below.drew ?_ | (simp; done) | (have hbz := hb.size; first | omega | (simp; omega)) | (simp; omega) | omega)))))))
                (refine wpQuiet_nil ?_)
                (rintro _ ⟨q, rfl⟩)
                go_wp2_with fail
                refine wpAt fun W9 e9 => ?_
                have b9 : Below wr.heap.size wr W9 := by rw [e9]; exact (by repeat' (first | exact Below.refl _ _ | with_reducible assumption | refine bext ?_ ?_ _ | refine Below.alloc ?_ ?_ _ | refine Below.setCell ?_ ?_ _ | refine Below.drew ?_ | (simp; done) | (have hbz := hb.size; first | omega | (simp; omega)) | (simp; omega) | omega))
                clear e9
                have hb9 : Below w.heap.size w W9 := hb2.trans (b9.mono hb2.size)
                have hz9 := hb9.size
                have hO9 := Lib.hid ((hO2.out.mono b9).wide (Nat.le_refl _) b9.size)
                obtain ⟨-, hbw9, c0, -, -, -⟩ := Hdg.at (hc.mono hb9) i hlt
                obtain ⟨-, -, d0, -, -, -⟩ := Hdg.at (hc.mono hb9) j hkl
                clear hS1 hS2
                go_region_law (first | (refine step_pushAt Rw.len Rw.one (by rfl) (.tmp 50) (.tmp 62) 77 (by rfl) w.heap.size 49 i0 _ 24 Try.underlying77 hi hz0 hz1 hz2 (by rfl) (by omega) _ l2 (by rfl) (hO9.out.own.mono (by repeat' (first | exact Below.refl _ _ | with_reducible assumption | refine bext ?_ ?_ _ | refine Below.alloc ?_ ?_ _ | refine Below.setCell ?_ ?_ _ | refine Below.drew ?_ | (simp; done) | (have hbz := hb.size; first | omega | (simp; omega)) | (simp; omega) | omega))) _ 1 ⟨some ⟨W9.heap.size, 0, none⟩, 2, [(gd l i).id, (gd l j).id]⟩ (by rfl) (cells1 (by simp)) (by unfold maxLen; omega) (by omega) (by simp; omega) ?_; intro v' w3 ho3 hg3 hat3) | fail)
                all_goals
                  have hP := Lib.hid (pair_push hO9.out (by repeat' (first | exact Below.refl _ _ | with_reducible assumption | refine bext ?_ ?_ _ | refine Below.alloc ?_ ?_ _ | refine Below.setCell ?_ ?_ _ | refine Below.drew ?_ | (simp; done) | (have hbz := hb.size; first | omega | (simp; omega)) | (simp; omega) | omega)) (Nat.le_refl _) ((Own.made2 hz9 _ _).mono (by repeat' (first | exact Below.refl _ _ | with_reducible assumption | refine bext ?_ ?_ _ | refine Below.alloc ?_ ?_ _ | refine Below.setCell ?_ ?_ _ | refine Below.drew ?_ | (simp; done) | (have hbz := hb.size; first | omega | (simp; omega)) | (simp; omega) | omega))) ho3 hg3 hat3)
                  have hB3 : Below w.heap.size w w3 := below_push (lo := w.heap.size) (Below.trans hb9 (Below.mono (B := W9.heap.size) (by repeat' (first | exact Below.refl _ _ | with_reducible assumption | refine bext ?_ ?_ _ | refine Below.alloc ?_ ?_ _ | refine Below.setCell ?_ ?_ _ | refine Below.drew ?_ | (simp; done) | (have hbz := hb.size; first | omega | (simp; omega)) | (simp; omega) | omega)) hz9)) (hO9.out.own.mono (by repeat' (first | exact Below.refl _ _ | with_reducible assumption | refine bext ?_ ?_ _ | refine Below.alloc ?_ ?_ _ | refine Below.setCell ?_ ?_ _ | refine Below.drew ?_ | (simp; done) | (have hbz := hb.size; first | omega | (simp; omega)) | (simp; omega) | omega))) hg3 (Nat.le_refl _) (by simp; omega)
                  clear ho3 hg3 hat3
                  go_wp2_with fail
                  go_roundw
                  case rel => exact ⟨j + 1, _, by omega, by omega, by go_num, Lib.hid (by rw [show j + 1 - (i + 1) = k + 1 by have := hj.out; omega, hn.out, List.map_append, hl2.out, List.append_assoc, hji.out]; rfl), hP.out, hB3⟩
                  case measure => simp [intOf]; omega
          · obtain rfl : j = l.length := by omega
            replace hk := Lib.hid hk
            go_wp2_with fail
            go_roundw
            case rel => exact ⟨i + 1, l2, by omega, by go_num, Lib.hid (by rw [hl2.out, mpTo, hk.out]), hO2, hb2⟩
            case measure => simp [intOf]; omega
      · obtain rfl : i = l.length := by omega
        go_wp2_with fail
        go_ret2
        rw [hE.out]
        exact ⟨_, l', rfl, hO.out, hl'.out, hb⟩
end Go.Proofs.Ythibchaiaedboaa
