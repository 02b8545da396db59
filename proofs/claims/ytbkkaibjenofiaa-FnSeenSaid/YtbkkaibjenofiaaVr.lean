/- What the composite laws ask of results: are two the same, is one among them. No condition but sizes. -/
import Derived.Test.YtbkkaibjenofiaaMark
import Derived.Test.YtbkkaibjenofiaaRi
import Derived.Test.YtbkkaibjenofiaaHp23
namespace Go.Proofs.Ytbkkaibjenofiaa
open Go.RowKit
set_option maxHeartbeats 1000000 in
theorem rHas_c (v : Value) (l : List Int) (n : Int) (w : World) (h : Sl w IntE.enc 1 v l) : Calls Try.prog 19 #[v, .int .i64 n] w fun e w' => e = .returned (.bool (hasI l n)) ∧ w = w' := by
  obtain ⟨a, cap, b, off, rfl, hlc, hm, hc⟩ := h
  unfold maxLen at hm
  go_enter Try.func19, Try.ntmps19
  go_wp2_with fail
  go_loop [5] (fun i => ∃ k : Nat, k ≤ l.length ∧ i = .int .i64 k ∧ Hid (∀ j, j < k → (gd l j == n) = false)) (fun i => l.length - (intOf i).toNat)
  case atStart => exact ⟨0, Nat.zero_le _, rfl, fun j hj => by omega⟩
  case round =>
    obtain ⟨k, hk, rfl, hall⟩ := hrel
    by_cases hlt : k < l.length
    · obtain ⟨rfl, hbw, c0⟩ := IntE.at hc k hlt
      cases he : (gd l k == n)
      · have hall2 : Hid (∀ j, j < k + 1 → (gd l j == n) = false) := Lib.hid (upto_succ hall.out he)
        generalize gd l k = y at c0 he
        go_wp2_with fail
        go_round
        case rel => exact ⟨k + 1, by omega, by go_num, hall2.out⟩
        case measure => simp [intOf]; omega
      · have hF := Lib.hid (show hasI l n = true by rw [hasI, findTo_some (f := fun i => gd l i == n) hall.out he hlt]; rfl)
        have he2 : gd l k = n := by simpa using he
        rw [he2] at c0
        clear he he2
        go_wp2_with fail
        go_ret
        exact ⟨ret_bool hF.out.symm, rfl⟩
    · obtain rfl : k = l.length := by omega
      have hF := Lib.hid (show hasI l n = false by rw [hasI, findTo_none (f := fun i => gd l i == n) hall.out]; rfl)
      go_wp2_with fail
      go_ret
      exact ⟨ret_bool hF.out.symm, rfl⟩
set_option maxHeartbeats 1000000 in
theorem rInts_c (v v' : Value) (l : List Int) (w : World) (h : Sl w IntE.enc 1 v l) (h' : Sl w IntE.enc 1 v' l) : Calls Try.prog 16 #[v, v'] w fun e w' => e = .returned (.bool true) ∧ Below w.heap.size w w' := by
  obtain ⟨a, cap, b, off, rfl, hlc, hm, hc⟩ := h
  obtain ⟨a', cap', b', off', rfl, hlc', hm', hc'⟩ := h'
  unfold maxLen at hm hm'
  go_enter Try.func16, Try.ntmps16
  go_wp2_with fail
  go_loopw [5] (fun i wr => ∃ k : Nat, k ≤ l.length ∧ i = .int .i64 k ∧ Below w.heap.size w wr) (fun i _ => l.length - (intOf i).toNat)
  case atStart => exact ⟨0, Nat.zero_le _, rfl, Below.refl _ _⟩
  case round =>
    obtain ⟨k, hk, rfl, hb⟩ := hrel
    by_cases hlt : k < l.length
    · obtain ⟨rfl, hbw, c0⟩ := IntE.at (hc.mono hb) k hlt
      obtain ⟨rfl, hbw', c0'⟩ := IntE.at (hc'.mono hb) k hlt
      go_wp2_with fail
      refine wp_region_ext (by kernel_rfl) (by kernel_rfl) ?_
      repeat (any_goals (first | go_big_quiet_step (fail)))
      (refine wpQuiet_nil ?_)
      (rintro _ ⟨q, rfl⟩)
      go_wp2_with fail
      go_roundw
      case rel => exact ⟨k + 1, by omega, by go_num, bext hb hb.size _⟩
      case measure => simp [intOf]; omega
    · go_wp2_with fail
      go_ret
      exact ⟨rfl, hb⟩
set_option maxHeartbeats 2000000 in
set_option maxRecDepth 100000 in
theorem rHeadings_c (v v' : Value) (l l' : List Hdg) (w : World) (h : Sl w Hdg.enc 4 v l) (hd : Hdg.Deep w l) (h' : Sl w Hdg.enc 4 v' l') (hd' : Hdg.Deep w l') (he : l'.map Hdg.bare = l.map Hdg.bare) : Calls Try.prog 23 #[v, v'] w fun e w' => e = .returned (.bool true) ∧ Below w.heap.size w w' := by
  obtain ⟨a, cap, b, off, rfl, hlc, hm, hc⟩ := h
  obtain ⟨a', cap', b', off', rfl, hlc', hm', hc'⟩ := h'
  have hE := Lib.hid he
  have hll : l'.length = l.length := by simpa using congrArg List.length he
  clear he
  unfold maxLen at hm hm'
  rw [hll] at hlc' ⊢
  go_enter Try.func23, Try.ntmps23
  go_wp2_with fail
  go_loopw [5] (fun i wr => ∃ k : Nat, k ≤ l.length ∧ i = .int .i64 k ∧ Below w.heap.size w wr) (fun i _ => l.length - (intOf i).toNat)
  case atStart => exact ⟨0, Nat.zero_le _, rfl, Below.refl _ _⟩
  case round =>
    obtain ⟨k, hk, rfl, hb⟩ := hrel
    by_cases hlt : k < l.length
    · obtain ⟨rfl, hbw, c0, c1, c2, c3⟩ := Hdg.at (hc.mono hb) k hlt
      obtain ⟨rfl, hbw', d0, d1, d2, d3⟩ := Hdg.at (hc'.mono hb) k (by omega)
      obtain ⟨e0, e1, e2, e3⟩ := hd_bare hE.out k hlt
      have hQ := Lib.hid (fun p => rInts_c (.slice (gd l k).a (gd l k).sub.length (gd l k).cap) (.slice (gd l' k).a (gd l' k).sub.length (gd l' k).cap) (gd l k).sub (ext wr p) ((hd k hlt).mono (btrans hb (below_ext wr p))) (by have := (hd' k (by omega)).mono (btrans hb (below_ext wr p)); unfold Hdg.In at this; rw [e3] at this ⊢; exact this))
      rw [e0] at d0
      rw [e1] at d1
      rw [e2] at d2
      clear e0 e1 e2 e3
      go_wp2_with fail
      refine wp_region_ext (by kernel_rfl) (by kernel_rfl) ?_
      repeat (any_goals (first | go_big_quiet_step ((go_at_call 16; exact Calls.ext_of (hQ.out _)))))
      (refine wpQuiet_nil ?_)
      (rintro _ ⟨q, rfl⟩)
      go_wp2_with fail
      go_roundw
      case rel => exact ⟨k + 1, by omega, by go_num, bext hb hb.size _⟩
      case measure => simp [intOf]; omega
    · go_wp2_with fail
      go_ret
      exact ⟨rfl, hb⟩
end Go.Proofs.Ytbkkaibjenofiaa
