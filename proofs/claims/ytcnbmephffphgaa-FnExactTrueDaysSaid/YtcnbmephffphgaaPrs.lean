/- Contracts of the law helpers at slices of pairs. No condition but sizes. -/
import Derived.Test.YtcnbmephffphgaaSel
namespace Go.Proofs.Ytcnbmephffphgaa
open Go.RowKit
set_option maxHeartbeats 400000 in
theorem eqIntA2_c (x y : Int) (w : World) : Calls Try.prog 63 #[.agg #[.int .i64 x, .int .i64 y], .agg #[.int .i64 x, .int .i64 y]] w fun e w' => e = .returned (.bool true) ∧ Below w.heap.size w w' := by
  go_enter Try.func63, Try.ntmps63
  go_wp2_with fail
  refine wpAt fun W0 e0 => ?_
  have B0 : Below w.heap.size w W0 := by rw [e0]; go_grown
  have hs : W0.cell? ⟨w.heap.size, 0, none⟩ = some (.int .i64 x) ∧ W0.cell? ⟨w.heap.size, 1, none⟩ = some (.int .i64 y) ∧ W0.cell? ⟨w.heap.size + 1, 0, none⟩ = some (.int .i64 x) ∧ W0.cell? ⟨w.heap.size + 1, 1, none⟩ = some (.int .i64 y) ∧ w.heap.size + 1 < W0.heap.size := by rw [e0]; simp
  clear e0
  obtain ⟨c0, c1, c2, c3, hz⟩ := hs
  have hz0 : w.heap.size < W0.heap.size := by omega
  go_loopw [5] (fun i wr => (i = .int .i64 0 ∨ i = .int .i64 1 ∨ i = .int .i64 2) ∧ ∃ q : Gap, wr = ext W0 q) (fun i _ => 2 - (intOf i).toNat)
  case atStart => exact ⟨.inl rfl, ⟨W0.drawn, #[]⟩, by simp [ext]⟩
  case round =>
    obtain ⟨rfl | rfl | rfl, q, rfl⟩ := hrel
    · go_wp2_with fail
      refine wp_region_ext (by kernel_rfl) (by kernel_rfl) ?_
      repeat (any_goals (first | go_big_quiet_step (fail)))
      (refine wpQuiet_nil ?_)
      (rintro _ ⟨q, rfl⟩)
      go_wp2_with fail
      go_roundw
      case rel => exact ⟨.inr (.inl rfl), ext_of_below (bext (below_ext _ _) (below_ext _ _).size _)⟩
      case measure => simp [intOf]
    · go_wp2_with fail
      refine wp_region_ext (by kernel_rfl) (by kernel_rfl) ?_
      repeat (any_goals (first | go_big_quiet_step (fail)))
      (refine wpQuiet_nil ?_)
      (rintro _ ⟨q, rfl⟩)
      go_wp2_with fail
      go_roundw
      case rel => exact ⟨.inr (.inr rfl), ext_of_below (bext (below_ext _ _) (below_ext _ _).size _)⟩
      case measure => simp [intOf]
    · go_wp2_with fail
      go_ret
      exact ⟨rfl, bext B0 (by omega) _⟩
set_option maxHeartbeats 1000000 in
theorem eqIntA2S_c (v v' : Value) (l : List (Int × Int)) (w : World) (h : Sl w PrE.enc 2 v l) (h' : Sl w PrE.enc 2 v' l) : Calls Try.prog 30 #[v, v'] w fun e w' =>
    e = .returned (.bool true) ∧ Below w.heap.size w w' := by
  obtain ⟨a, cap, b, off, rfl, hlc, hm, hc⟩ := h
  obtain ⟨a', cap', b', off', rfl, hlc', hm', hc'⟩ := h'
  unfold maxLen at hm hm'
  go_enter Try.func30, Try.ntmps30
  go_wp2_with fail
  go_loopw [5] (fun i wr => ∃ k : Nat, k ≤ l.length ∧ i = .int .i64 k ∧ Below w.heap.size w wr) (fun i _ => l.length - (intOf i).toNat)
  case atStart => exact ⟨0, Nat.zero_le _, rfl, Below.refl _ _⟩
  case round =>
    obtain ⟨k, hk, rfl, hb⟩ := hrel
    by_cases hlt : k < l.length
    · obtain ⟨rfl, hbw, c0, c1⟩ := PrE.at (hc.mono hb) k hlt
      obtain ⟨rfl, hbw', c0', c1'⟩ := PrE.at (hc'.mono hb) k hlt
      go_wp2_with fail
      refine wp_region_ext (by kernel_rfl) (by kernel_rfl) ?_
      repeat (any_goals (first | go_big_quiet_step ((go_at_call 63; exact Calls.ext_of (eqIntA2_c _ _ _)))))
      (refine wpQuiet_nil ?_)
      (rintro _ ⟨q, rfl⟩)
      go_wp2_with fail
      go_roundw
      case rel => exact ⟨k + 1, by omega, by go_num, bext hb hb.size _⟩
      case measure => simp [intOf]; omega
    · go_wp2_with fail
      go_ret
      exact ⟨rfl, hb⟩
set_option maxHeartbeats 1000000 in
theorem markIntA2S_c (v : Value) (l : List (Int × Int)) (k0 : Int) (w : World) (lo : Nat) (h : Own w lo 59 PrE.enc 2 v l) (hl : l.length ≤ 10000000) (h0 : 0 ≤ k0) (h1 : k0 ≤ 1000000000) : Calls Try.prog 31 #[v, .int .i64 k0] w fun e w' =>
    e = .returned (.int .i64 (k0 + 2 * (l.length : Int))) ∧ Own w' lo 59 PrE.enc 2 v (PrE.marks k0 l.length) ∧ w.grownBy w' v.ownBlock := by
  have hS := h.sl PrE.len
  obtain ⟨a, cap, b, off, rfl, hlc, hm, hc⟩ := hS
  unfold maxLen at hm
  have hf : Fill w lo 59 2 (.slice a l.length cap) l.length ((PrE.marks k0 l.length).flatMap PrE.enc) 0 := Fill.start (by rw [flat_len PrE.len, PrE.marks_len]) h
  unfold Own
  rw [PrE.marks_len]
  clear hc h
  go_enter Try.func31, Try.ntmps31
  go_wp2_with fail
  go_loopw [1, 5] (fun m i wr => ∃ k : Nat, k ≤ l.length ∧ i = .int .i64 k ∧ m = .int .i64 (k0 + 2 * (k : Int)) ∧ w.grownBy wr (Value.slice a l.length cap).ownBlock ∧ Fill wr lo 59 2 (.slice a l.length cap) l.length ((PrE.marks k0 l.length).flatMap PrE.enc) (k * 2)) (fun _ i _ => l.length - (intOf i).toNat)
  case atStart => exact ⟨0, Nat.zero_le _, rfl, by simp, World.grownBy.refl _ _, hf⟩
  case round =>
    obtain ⟨k, hk, rfl, rfl, hb, hfk⟩ := hrel
    by_cases hlt : k < l.length
    · obtain ⟨g, rfl⟩ := hfk.some (by omega)
      have hg := hfk.lt.2
      have hM := PrE.marks_at k0 hlt
      have f0 := flat_get PrE.len (PrE.marks k0 l.length) k 0 (by rw [PrE.marks_len]; exact hlt) (by omega)
      rw [hM] at f0
      replace f0 : Hid (((PrE.marks k0 l.length).flatMap PrE.enc)[k * 2]? = some (Value.int .i64 (k0 + 2 * (k : Int)))) := f0
      have f1 := flat_get PrE.len (PrE.marks k0 l.length) k 1 (by rw [PrE.marks_len]; exact hlt) (by omega)
      rw [hM] at f1
      replace f1 : Hid (((PrE.marks k0 l.length).flatMap PrE.enc)[k * 2 + 1]? = some (Value.int .i64 (k0 + 2 * (k : Int) + 1))) := f1
      clear hM
      have hb : Hid (w.grownBy wr (some g)) := hb
      have hfk := Lib.hid hfk
      go_wp2_with fail
      go_loopw [1, 6] (fun m j wq => (j = .int .i64 0 ∧ m = .int .i64 (k0 + 2 * (k : Int)) ∧ w.grownBy wq (some g) ∧ Fill wq lo 59 2 (.slice (some ⟨g, 0, none⟩) l.length cap) l.length ((PrE.marks k0 l.length).flatMap PrE.enc) (k * 2)) ∨ (j = .int .i64 1 ∧ m = .int .i64 (k0 + 2 * (k : Int) + 1) ∧ w.grownBy wq (some g) ∧ Fill wq lo 59 2 (.slice (some ⟨g, 0, none⟩) l.length cap) l.length ((PrE.marks k0 l.length).flatMap PrE.enc) (k * 2 + 1)) ∨ (j = .int .i64 2 ∧ m = .int .i64 (k0 + 2 * (k : Int) + 1 + 1) ∧ w.grownBy wq (some g) ∧ Fill wq lo 59 2 (.slice (some ⟨g, 0, none⟩) l.length cap) l.length ((PrE.marks k0 l.length).flatMap PrE.enc) (k * 2 + 1 + 1))) (fun _ j _ => 2 - (intOf j).toNat)
      case atStart => exact .inl ⟨rfl, rfl, hb.out, hfk.out⟩
      case round =>
        clear hfk hb
        rcases hrel with ⟨rfl, rfl, hb, hfk⟩ | ⟨rfl, rfl, hb, hfk⟩ | ⟨rfl, rfl, hb, hfk⟩
        · obtain ⟨u0, d0⟩ := hfk.cell (k * 2) (by omega)
          have z0 := hfk.frozen (k * 2)
          have hg := hfk.lt.2
          have hb := Lib.hid hb
          have hfk := Lib.hid hfk
          go_wp2_with fail
          go_roundw
          case rel => exact .inr (.inl ⟨rfl, rfl, only_setCell hb.out ⟨g, k * 2, none⟩ rfl _, hfk.out.step f0.out⟩)
          case measure => simp [intOf]
        · obtain ⟨u0, d0⟩ := hfk.cell (k * 2 + 1) (by omega)
          have z0 := hfk.frozen (k * 2 + 1)
          have hg := hfk.lt.2
          have hb := Lib.hid hb
          have hfk := Lib.hid hfk
          go_wp2_with fail
          go_roundw
          case rel => exact .inr (.inr ⟨rfl, rfl, only_setCell hb.out ⟨g, k * 2 + 1, none⟩ rfl _, hfk.out.step f1.out⟩)
          case measure => simp [intOf]
        · have hb := Lib.hid hb
          have hfk := Lib.hid hfk
          go_wp2_with fail
          go_roundw
          case rel => exact ⟨k + 1, by omega, by go_num, congrArg (Value.int .i64) (by omega), hb.out, by rw [show (k + 1) * 2 = k * 2 + 1 + 1 by omega]; exact hfk.out⟩
          case measure => simp [intOf]; omega
    · obtain rfl : k = l.length := by omega
      have HF := Lib.hid (hfk.all (by omega))
      clear hfk
      go_wp2_with fail
      go_ret
      exact ⟨rfl, HF.out, hb⟩
set_option maxHeartbeats 1000000 in
theorem heldIntA2S_c (v : Value) (n : Nat) (k0 : Int) (w : World) (h : Sl w PrE.enc 2 v (PrE.marks k0 n)) (hl : n ≤ 10000000) (h0 : 0 ≤ k0) (h1 : k0 ≤ 1000000000) : Calls Try.prog 32 #[v, .int .i64 k0] w fun e w' =>
    e = .returned (.int .i64 (k0 + 2 * (n : Int))) ∧ w = w' := by
  obtain ⟨a, cap, b, off, rfl, hlc, hm, hc⟩ := h
  unfold maxLen at hm
  rw [PrE.marks_len] at hlc ⊢
  go_enter Try.func32, Try.ntmps32
  go_wp2_with fail
  go_loop [1, 5] (fun m i => ∃ k : Nat, k ≤ n ∧ i = .int .i64 k ∧ m = .int .i64 (k0 + 2 * (k : Int))) (fun _ i => n - (intOf i).toNat)
  case atStart => exact ⟨0, Nat.zero_le _, rfl, by simp⟩
  case round =>
    obtain ⟨k, hk, rfl, rfl⟩ := hrel
    by_cases hlt : k < n
    · have hM := PrE.marks_at k0 hlt
      obtain ⟨rfl, hbw, c0, c1⟩ := PrE.at hc k (by rw [PrE.marks_len]; exact hlt)
      rw [hM] at c0 c1
      simp only [PrE.mark] at c0 c1
      clear hM hc
      go_wp2_with fail
      go_loop [1, 6] (fun m j => (j = .int .i64 0 ∧ m = .int .i64 (k0 + 2 * (k : Int))) ∨ (j = .int .i64 1 ∧ m = .int .i64 (k0 + 2 * (k : Int) + 1)) ∨ (j = .int .i64 2 ∧ m = .int .i64 (k0 + 2 * (k : Int) + 1 + 1))) (fun _ j => 2 - (intOf j).toNat)
      case atStart => exact .inl ⟨rfl, rfl⟩
      case round =>
        rcases hrel with ⟨rfl, rfl⟩ | ⟨rfl, rfl⟩ | ⟨rfl, rfl⟩
        · go_wp2_with fail
          go_round
          case rel => exact .inr (.inl ⟨rfl, rfl⟩)
          case measure => simp [intOf]
        · go_wp2_with fail
          go_round
          case rel => exact .inr (.inr ⟨rfl, rfl⟩)
          case measure => simp [intOf]
        · go_wp2_with fail
          go_round
          case rel => exact ⟨k + 1, by omega, by go_num, congrArg (Value.int .i64) (by omega)⟩
          case measure => simp [intOf]; omega
    · obtain rfl : k = n := by omega
      go_wp2_with fail
      go_ret
      exact ⟨rfl, rfl⟩
end Go.Proofs.Ytcnbmephffphgaa
