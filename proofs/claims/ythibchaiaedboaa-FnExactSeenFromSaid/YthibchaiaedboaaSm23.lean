/- Marks on the memory of a slice that lies behind one cell. No condition but sizes. -/
import Derived.Test.YthibchaiaedboaaSi23
import Derived.Test.YthibchaiaedboaaTurned
namespace Go.Proofs.Ythibchaiaedboaa
open Go.RowKit
theorem TailOwn.turned {w w' : World} {z lo hi : Nat} {v : Value} {l : List Int} (h : TailOwn w z v l) (hg : Turned lo hi w w') (hv : ∀ g, v.ownBlock = some g → g < lo ∨ hi ≤ g) : TailOwn w' z v l := by
  rcases h with ⟨h1, h2, h⟩ | ⟨x, g, cap, h1, rfl, h⟩
  · exact .inl ⟨h1, h2, fun g hq => ⟨(h g hq).1, Nat.lt_of_lt_of_le (h g hq).2 hg.size⟩⟩
  · exact .inr ⟨x, g, cap, h1, rfl, h.turned hg (fun q hq => hv q hq)⟩
set_option maxHeartbeats 1000000 in
theorem markTail_c (v : Value) (l : List Int) (k0 : Int) (w : World) (lo : Nat) (h : TailOwn w lo v l) (hl : l.length ≤ 10000000) (h0 : 0 ≤ k0) (h1 : k0 ≤ 100000000000000000) : Calls Try.prog 80 #[v, .int .i64 k0] w fun e w' =>
    e = .returned (.int .i64 (k0 + (l.length : Int))) ∧ TailOwn w' lo v (IntE.marks k0 l.length) ∧ w.grownBy w' v.ownBlock := by
  rcases h with ⟨rfl, ⟨a, c, rfl, hc⟩, hB⟩ | ⟨x, g, cap, hcap, rfl, h⟩
  · unfold maxLen at hc
    go_enter Try.func80, Try.ntmps80
    go_wp2_with fail
    go_loopw [1, 5] (fun m i wr => i = .int .i64 0 ∧ m = .int .i64 k0 ∧ wr = w) (fun _ _ _ => 0)
    case atStart => exact ⟨rfl, rfl, rfl⟩
    case round =>
      obtain ⟨rfl, rfl, rfl⟩ := hrel
      go_wp2_with fail
      go_ret
      exact ⟨by simp, .inl ⟨by simp [IntE.marks], ⟨_, _, rfl, by unfold maxLen; omega⟩, hB⟩, World.grownBy.refl _ _⟩
  · obtain ⟨g', cap', hv, -, hgz, hlc, hm, -⟩ := own_at h (by simp)
    injection hv with e1 _ e3
    injection e1 with e1
    injection e1 with e1 _
    subst e1 e3
    rw [List.length_cons] at hlc
    unfold maxLen at hm
    have hf : Fill w lo 3 1 (.slice (some ⟨g, 0, none⟩) (l.length + 1) cap) (l.length + 1) ((x :: IntE.marks k0 l.length).flatMap IntE.enc) (1 + 0) := ⟨by rw [flat_len IntE.len, List.length_cons, IntE.marks_len], _, h, fun j hj => by
      obtain rfl : j = 0 := by omega
      rfl⟩
    have hF := IntE.marks_len k0 l.length
    go_enter Try.func80, Try.ntmps80
    go_wp2_with fail
    go_loopw [1, 5] (fun m i wr => ∃ k : Nat, k ≤ l.length ∧ i = .int .i64 k ∧ m = .int .i64 (k0 + (k : Int)) ∧ Hid (w.grownBy wr (some g)) ∧ Fill wr lo 3 1 (.slice (some ⟨g, 0, none⟩) (l.length + 1) cap) (l.length + 1) ((x :: IntE.marks k0 l.length).flatMap IntE.enc) (1 + k)) (fun _ i _ => l.length - (intOf i).toNat)
    case atStart => exact ⟨0, Nat.zero_le _, rfl, by simp, World.grownBy.refl _ _, hf⟩
    case round =>
      obtain ⟨k, hk, rfl, rfl, hb, hfk⟩ := hrel
      clear hf
      by_cases hlt : k < l.length
      · have hg := hfk.lt.2
        obtain ⟨u0, d0⟩ := hfk.cell (1 + k) (by omega)
        have z0 := hfk.frozen (1 + k)
        have f0 : Hid (((x :: IntE.marks k0 l.length).flatMap IntE.enc)[1 + k]? = some (Value.int .i64 (k0 + (k : Int)))) := by
          have := flat_get IntE.len (x :: IntE.marks k0 l.length) (k + 1) 0 (by simp [IntE.marks_len]; omega) (by omega)
          rw [show gd (x :: IntE.marks k0 l.length) (k + 1) = IntE.mark (k0 + (k : Int)) by rw [← IntE.marks_at k0 hlt]; simp [gd]] at this
          rw [Nat.mul_one, Nat.add_zero, Nat.add_comm] at this
          exact this
        go_wp2_with fail
        go_roundw
        case rel =>
          refine ⟨k + 1, by omega, by go_num, congrArg (Value.int .i64) (by omega), ?_, ?_⟩
          · exact (only_setCell hb.out ⟨g, 1 + k, none⟩ rfl _)
          · exact (hfk).step f0.out
        case measure => simp [intOf]; omega
      · obtain rfl : k = l.length := by omega
        have HF := Lib.hid (hfk.all (by omega))
        clear hfk
        go_wp2_with fail
        go_ret
        exact ⟨rfl, .inr ⟨x, g, cap, hcap, by rw [hF], by unfold Own; rw [List.length_cons, hF]; exact HF.out⟩, hb.out⟩
end Go.Proofs.Ythibchaiaedboaa
