/- What the composite laws ask of slices of slices: are two the same. No condition but sizes. -/
import Derived.Test.YtbkkaibjenofiaaVr
import Derived.Test.YtbkkaibjenofiaaGd
namespace Go.Proofs.Ytbkkaibjenofiaa
open Go.RowKit
set_option maxHeartbeats 1000000 in
theorem rTable_c (v v' : Value) (l l' : List Rw) (w : World) (h : Sl w Rw.enc 1 v l) (hd : Rw.Deep w l) (h' : Sl w Rw.enc 1 v' l') (hd' : Rw.Deep w l') (he : l.map Rw.sub = l'.map Rw.sub) : Calls Try.prog 32 #[v, v'] w fun e w' =>
    e = .returned (.bool true) ∧ Below w.heap.size w w' := by
  obtain ⟨a, cap, b, off, rfl, hlc, hm, hc⟩ := h
  obtain ⟨a', cap', b', off', rfl, hlc', hm', hc'⟩ := h'
  have hE := Lib.hid he
  have hll : l.length = l'.length := by simpa using congrArg List.length he
  clear he
  unfold maxLen at hm hm'
  rw [← hll] at hlc' ⊢
  go_enter Try.func32, Try.ntmps32
  go_wp2_with fail
  go_loopw [5] (fun i wr => ∃ k : Nat, k ≤ l.length ∧ i = .int .i64 k ∧ Below w.heap.size w wr) (fun i _ => l.length - (intOf i).toNat)
  case atStart => exact ⟨0, Nat.zero_le _, rfl, Below.refl _ _⟩
  case round =>
    obtain ⟨k, hk, rfl, hb⟩ := hrel
    by_cases hlt : k < l.length
    · obtain ⟨rfl, hbw, c0⟩ := Rw.at (hc.mono hb) k hlt
      obtain ⟨rfl, hbw', c0'⟩ := Rw.at (hc'.mono hb) k (by omega)
      have hQ := Lib.hid (fun p => rInts_c _ _ (gd l k).sub (ext wr p) ((hd k hlt).mono (btrans hb (below_ext wr p))) (by rw [(Rw.sub_at hE.out k hlt).2]; exact (hd' k (by omega)).mono (btrans hb (below_ext wr p))))
      rw [(Rw.sub_at hE.out k hlt).2] at hQ c0
      go_wp2_with fail
      refine wp_region_ext (by kernel_rfl) (by kernel_rfl) ?_
      repeat (any_goals (first | go_big_quiet_step ((go_at_call 16; exact Calls.ext_of (hQ.out _)))))
      (refine wpQuiet_nil ?_)
      (rintro _ ⟨q, rfl⟩)
      go_wp2_with fail
      go_roundw
      case rel => exact ⟨k + 1, by omega, by go_num, bext hb hb.size _⟩
      case measure => simp [intOf]; omega
    · go_wp2_with fail
      go_ret
      exact ⟨rfl, hb⟩
end Go.Proofs.Ytbkkaibjenofiaa
