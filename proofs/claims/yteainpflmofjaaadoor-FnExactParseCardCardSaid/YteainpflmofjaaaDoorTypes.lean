/- Contracts of the law helpers (to.., sz.., eq.., mark.., held..) at the types of this seat. No condition but sizes. -/
import Derived.Test.YteainpflmofjaaaDoorBase
namespace Go.Proofs.YteainpflmofjaaaDoor
open Go.RowKit
/-- what is left of 'left' behind n more; -1 where it does not reach -/
def szN (left : Int) (n : Nat) : Int := if left < n then -1 else left - n
theorem szN_no {left : Int} {n : Nat} (h : left < n) : szN left n = -1 := by simp [szN, h]
theorem szN_yes {left : Int} {n : Nat} (h : ¬ left < n) : szN left n = left - n := by simp [szN, h]
theorem szN_or (left : Int) (n : Nat) : szN left n = -1 ∨ (0 ≤ szN left n ∧ szN left n ≤ left ∧ (n : Int) ≤ left) := by
  by_cases h : left < n
  · exact .inl (szN_no h)
  · rw [szN_yes h]; omega

def IntE.enc (x : Int) : List Value := [.int .i64 x]
theorem IntE.len (x : Int) : (IntE.enc x).length = 1 := rfl
theorem IntE.at {w : World} {a : Option Addr} {b off : Nat} {l : List Int} (h : Cells w IntE.enc 1 a b off l) (i : Nat) (hi : i < l.length) : a = some ⟨b, off, none⟩ ∧ b < w.heap.size ∧
    w.cell? ⟨b, off + i, none⟩ = some (.int .i64 (gd l i)) := by
  obtain ⟨ha, hb, c⟩ := h i hi
  have c0 := c 0 _ rfl
  rw [Nat.mul_one, Nat.add_zero] at c0
  exact ⟨ha, hb, c0⟩

theorem szIntS_c (a : Option Addr) (n cap : Nat) (left : Int) (w : World) (hn : n ≤ maxLen) (h0 : 0 ≤ left) (h1 : left ≤ 1048576) : Calls Tryd.prog 89 #[.slice a n cap, .int .i64 left] w fun e w' =>
    e = .returned (.int .i64 (szN left n)) ∧ w = w' := by
  unfold maxLen at hn
  by_cases hlt : left < n
  all_goals
    first | have Hs := Lib.hid (szN_no hlt) | have Hs := Lib.hid (szN_yes hlt)
    go_enter Tryd.func89, Tryd.ntmps89
    go_wp2
    go_ret
    exact ⟨ret_int Hs.out.symm, rfl⟩

set_option maxHeartbeats 400000 in
theorem toIntS_c (v : Value) (l : List Int) (w : World) (h : Sl w IntE.enc 1 v l) (hl : l.length ≤ 1048576) : Calls Tryd.prog 93 #[v] w (RetOwn w 3 IntE.enc 1 l) := by
  obtain ⟨a, cap, b, off, rfl, hlc, hm, hc⟩ := h
  obtain ⟨i, hi, hz0, hz1, hz2⟩ := info_parts (show (Tryd.prog.info? 3).map (fun i => (i.zero, i.size, i.bytes)) = some (some (.int .i64 0), 1, 8) by kernel_rfl)
  go_enter Tryd.func93, Tryd.ntmps93
  go_wp2_with (at_make; refine wpList_make_full _ rfl _ _ 49 rfl w.heap.size 3 i _ 1 Tryd.underlying49 hi hz0 hz1 _ _ _ _ l.length rfl rfl rfl rfl (by rw [hz2]; omega) (by unfold maxLen; omega) (Nat.le_refl _) ?_)
  intro w1 hown hgr
  have hb1 := (Below.refl w.heap.size w).grown hgr (Nat.le_refl _) (fun k hk => by cases hk)
  have hf := Fill.start (flat_len IntE.len l) hown
  clear hown hgr
  go_wp2_with fail
  go_loopw [4] (fun i wr => ∃ k : Nat, k ≤ l.length ∧ i = .int .i64 k ∧ Below w.heap.size w wr ∧ Fill wr w.heap.size 3 1 (.slice (some ⟨w.heap.size, 0, none⟩) l.length l.length) l.length (l.flatMap IntE.enc) k) (fun i _ => l.length - (intOf i).toNat)
  case atStart => exact ⟨0, Nat.zero_le _, rfl, hb1, hf⟩
  case round =>
    obtain ⟨k, hk, rfl, hb, hfk⟩ := hrel
    by_cases hlt : k < l.length
    · obtain ⟨rfl, hbw, c0⟩ := IntE.at (hc.mono hb) k hlt
      have hg := hfk.lt.2
      obtain ⟨u0, d0⟩ := hfk.cell (k) (by omega)
      have z0 := hfk.frozen (k)
      have f0 := Lib.hid (flat_get IntE.len l k 0 hlt (by omega))
      rw [Nat.mul_one, Nat.add_zero] at f0
      go_wp2_with fail
      go_roundw
      case rel =>
        refine ⟨k + 1, by omega, by go_num, ?_, ?_⟩
        · exact (hb.setCell (Nat.le_refl _) _)
        · exact (hfk).step f0.out
      case measure => simp [intOf]; omega
    · go_wp2_with fail
      go_ret
      exact ⟨_, rfl, hfk.all (by omega), hb⟩

set_option maxHeartbeats 400000 in
theorem eqIntS_c (v v' : Value) (l : List Int) (w : World) (h : Sl w IntE.enc 1 v l) (h' : Sl w IntE.enc 1 v' l) : Calls Tryd.prog 95 #[v, v'] w fun e w' =>
    e = .returned (.bool true) ∧ Below w.heap.size w w' := by
  obtain ⟨a, cap, b, off, rfl, hlc, hm, hc⟩ := h
  obtain ⟨a', cap', b', off', rfl, hlc', hm', hc'⟩ := h'
  unfold maxLen at hm hm'
  go_enter Tryd.func95, Tryd.ntmps95
  go_wp2_with fail
  go_loopw [5] (fun i wr => ∃ k : Nat, k ≤ l.length ∧ i = .int .i64 k ∧ Below w.heap.size w wr) (fun i _ => l.length - (intOf i).toNat)
  case atStart => exact ⟨0, Nat.zero_le _, rfl, Below.refl _ _⟩
  case round =>
    obtain ⟨k, hk, rfl, hb⟩ := hrel
    by_cases hlt : k < l.length
    · obtain ⟨rfl, hbw, c0⟩ := IntE.at (hc.mono hb) k hlt
      obtain ⟨rfl, hbw', c0'⟩ := IntE.at (hc'.mono hb) k hlt
      go_wp2_with fail
      refine wp_region_ext (by kernel_rfl) (by kernel_rfl) ?_
      repeat (any_goals (first | go_big_quiet_step (fail)))
      refine wpQuiet_nil ?_
      rintro _ ⟨q, rfl⟩
      go_wp2_with fail
      go_roundw
      case rel => exact ⟨k + 1, by omega, by go_num, bext hb hb.size _⟩
      case measure => simp [intOf]; omega
    · go_wp2_with fail
      go_ret
      exact ⟨rfl, hb⟩

def IntE.mark (k : Int) : Int := k
/-- the marks from k0 on -/
def IntE.marks (k0 : Int) (n : Nat) : List Int := (List.range n).map fun (i : Nat) => IntE.mark (k0 + (i : Int))
theorem IntE.marks_len (k0 : Int) (n : Nat) : (IntE.marks k0 n).length = n := by simp [IntE.marks]
theorem IntE.marks_at (k0 : Int) {n i : Nat} (h : i < n) : gd (IntE.marks k0 n) i = IntE.mark (k0 + (i : Int)) := by simp [IntE.marks, gd, h]

set_option maxHeartbeats 400000 in
theorem markIntS_c (v : Value) (l : List Int) (k0 : Int) (w : World) (lo : Nat) (h : Own w lo 3 IntE.enc 1 v l) (hl : l.length ≤ 10000000) (h0 : 0 ≤ k0) (h1 : k0 ≤ 100000000000000000) : Calls Tryd.prog 57 #[v, .int .i64 k0] w fun e w' =>
    e = .returned (.int .i64 (k0 + (l.length : Int))) ∧ Own w' lo 3 IntE.enc 1 v (IntE.marks k0 l.length) ∧ w.grownBy w' v.ownBlock := by
  have hS := h.sl IntE.len
  obtain ⟨a, cap, b, off, rfl, hlc, hm, hc⟩ := hS
  unfold maxLen at hm
  have hf : Fill w lo 3 1 (.slice a l.length cap) l.length ((IntE.marks k0 l.length).flatMap IntE.enc) 0 := Fill.start (by rw [flat_len IntE.len, IntE.marks_len]) h
  unfold Own
  rw [IntE.marks_len]
  clear hc h
  go_enter Tryd.func57, Tryd.ntmps57
  go_wp2_with fail
  go_loopw [1, 5] (fun m i wr => ∃ k : Nat, k ≤ l.length ∧ i = .int .i64 k ∧ m = .int .i64 (k0 + (k : Int)) ∧ w.grownBy wr (Value.slice a l.length cap).ownBlock ∧ Fill wr lo 3 1 (.slice a l.length cap) l.length ((IntE.marks k0 l.length).flatMap IntE.enc) k) (fun _ i _ => l.length - (intOf i).toNat)
  case atStart => exact ⟨0, Nat.zero_le _, rfl, by simp, World.grownBy.refl _ _, hf⟩
  case round =>
    obtain ⟨k, hk, rfl, rfl, hb, hfk⟩ := hrel
    by_cases hlt : k < l.length
    · obtain ⟨g, rfl⟩ := hfk.some (by omega)
      have hg := hfk.lt.2
      obtain ⟨u0, d0⟩ := hfk.cell (k) (by omega)
      have z0 := hfk.frozen (k)
      have hM := IntE.marks_at k0 hlt
      have f0 := flat_get IntE.len (IntE.marks k0 l.length) k 0 (by rw [IntE.marks_len]; exact hlt) (by omega)
      rw [hM] at f0
      replace f0 : Hid (((IntE.marks k0 l.length).flatMap IntE.enc)[k]? = some (Value.int .i64 (k0 + (k : Int)))) := by rw [Nat.mul_one, Nat.add_zero] at f0; exact f0
      clear hM
      have hb : Hid (w.grownBy wr (some g)) := hb
      go_wp2_with fail
      go_roundw
      case rel =>
        refine ⟨k + 1, by omega, by go_num, congrArg (Value.int .i64) (by omega), ?_, ?_⟩
        · exact (only_setCell hb.out ⟨g, k, none⟩ rfl _)
        · exact (hfk).step f0.out
      case measure => simp [intOf]; omega
    · obtain rfl : k = l.length := by omega
      have HF := Lib.hid (hfk.all (by omega))
      clear hfk
      go_wp2_with fail
      go_ret
      exact ⟨rfl, HF.out, hb⟩

end Go.Proofs.YteainpflmofjaaaDoor
