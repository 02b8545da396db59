/- Contracts of the law helpers (to.., sz.., eq.., mark.., held..) at the types of this seat. No condition but sizes. -/
import Derived.Test.YthibchaiaedboaaBase
namespace Go.Proofs.Ythibchaiaedboaa
open Go.RowKit
/-- what is left of 'left' behind n more; -1 where it does not reach -/
def szN (left : Int) (n : Nat) : Int := if left < n then -1 else left - n
theorem szN_no {left : Int} {n : Nat} (h : left < n) : szN left n = -1 := by simp [szN, h]
theorem szN_yes {left : Int} {n : Nat} (h : ¬ left < n) : szN left n = left - n := by simp [szN, h]
theorem szN_or (left : Int) (n : Nat) : szN left n = -1 ∨ (0 ≤ szN left n ∧ szN left n ≤ left ∧ (n : Int) ≤ left) := by
  by_cases h : left < n
  · exact .inl (szN_no h)
  · rw [szN_yes h]; omega

def IntE.enc (x : Int) : List Value := [.int .i64 x]
theorem IntE.len (x : Int) : (IntE.enc x).length = 1 := rfl
theorem IntE.at {w : World} {a : Option Addr} {b off : Nat} {l : List Int} (h : Cells w IntE.enc 1 a b off l) (i : Nat) (hi : i < l.length) : a = some ⟨b, off, none⟩ ∧ b < w.heap.size ∧
    w.cell? ⟨b, off + i, none⟩ = some (.int .i64 (gd l i)) := by
  obtain ⟨ha, hb, c⟩ := h i hi
  have c0 := c 0 _ rfl
  rw [Nat.mul_one, Nat.add_zero] at c0
  exact ⟨ha, hb, c0⟩

theorem szIntS_c (a : Option Addr) (n cap : Nat) (left : Int) (w : World) (hn : n ≤ maxLen) (h0 : 0 ≤ left) (h1 : left ≤ 1048576) : Calls Try.prog 190 #[.slice a n cap, .int .i64 left] w fun e w' =>
    e = .returned (.int .i64 (szN left n)) ∧ w = w' := by
  unfold maxLen at hn
  by_cases hlt : left < n
  all_goals
    first | have Hs := Lib.hid (szN_no hlt) | have Hs := Lib.hid (szN_yes hlt)
    go_enter Try.func190, Try.ntmps190
    go_wp2
    go_ret
    exact ⟨ret_int Hs.out.symm, rfl⟩

set_option maxHeartbeats 400000 in
theorem toIntS_c (v : Value) (l : List Int) (w : World) (h : Sl w IntE.enc 1 v l) (hl : l.length ≤ 1048576) : Calls Try.prog 193 #[v] w (RetOwn w 3 IntE.enc 1 l) := by
  obtain ⟨a, cap, b, off, rfl, hlc, hm, hc⟩ := h
  obtain ⟨i, hi, hz0, hz1, hz2⟩ := info_parts (show (Try.prog.info? 3).map (fun i => (i.zero, i.size, i.bytes)) = some (some (.int .i64 0), 1, 8) by kernel_rfl)
  go_enter Try.func193, Try.ntmps193
  go_wp2_with (at_make; refine wpList_make_full _ rfl _ _ 49 rfl w.heap.size 3 i _ 1 Try.underlying49 hi hz0 hz1 _ _ _ _ l.length rfl rfl rfl rfl (by rw [hz2]; omega) (by unfold maxLen; omega) (Nat.le_refl _) ?_)
  intro w1 hown hgr
  have hb1 := (Below.refl w.heap.size w).grown hgr (Nat.le_refl _) (fun k hk => by cases hk)
  have hf := Fill.start (flat_len IntE.len l) hown
  clear hown hgr
  go_wp2_with fail
  go_loopw [4] (fun i wr => ∃ k : Nat, k ≤ l.length ∧ i = .int .i64 k ∧ Below w.heap.size w wr ∧ Fill wr w.heap.size 3 1 (.slice (some ⟨w.heap.size, 0, none⟩) l.length l.length) l.length (l.flatMap IntE.enc) k) (fun i _ => l.length - (intOf i).toNat)
  case atStart => exact ⟨0, Nat.zero_le _, rfl, hb1, hf⟩
  case round =>
    obtain ⟨k, hk, rfl, hb, hfk⟩ := hrel
    by_cases hlt : k < l.length
    · obtain ⟨rfl, hbw, c0⟩ := IntE.at (hc.mono hb) k hlt
      have hg := hfk.lt.2
      obtain ⟨u0, d0⟩ := hfk.cell (k) (by omega)
      have z0 := hfk.frozen (k)
      have f0 := Lib.hid (flat_get IntE.len l k 0 hlt (by omega))
      rw [Nat.mul_one, Nat.add_zero] at f0
      go_wp2_with fail
      go_roundw
      case rel =>
        refine ⟨k + 1, by omega, by go_num, ?_, ?_⟩
        · exact (hb.setCell (Nat.le_refl _) _)
        · exact (hfk).step f0.out
      case measure => simp [intOf]; omega
    · go_wp2_with fail
      go_ret
      exact ⟨_, rfl, hfk.all (by omega), hb⟩

set_option maxHeartbeats 400000 in
theorem eqIntS_c (v v' : Value) (l : List Int) (w : World) (h : Sl w IntE.enc 1 v l) (h' : Sl w IntE.enc 1 v' l) : Calls Try.prog 79 #[v, v'] w fun e w' =>
    e = .returned (.bool true) ∧ Below w.heap.size w w' := by
  obtain ⟨a, cap, b, off, rfl, hlc, hm, hc⟩ := h
  obtain ⟨a', cap', b', off', rfl, hlc', hm', hc'⟩ := h'
  unfold maxLen at hm hm'
  go_enter Try.func79, Try.ntmps79
  go_wp2_with fail
  go_loopw [5] (fun i wr => ∃ k : Nat, k ≤ l.length ∧ i = .int .i64 k ∧ Below w.heap.size w wr) (fun i _ => l.length - (intOf i).toNat)
  case atStart => exact ⟨0, Nat.zero_le _, rfl, Below.refl _ _⟩
  case round =>
    obtain ⟨k, hk, rfl, hb⟩ := hrel
    by_cases hlt : k < l.length
    · obtain ⟨rfl, hbw, c0⟩ := IntE.at (hc.mono hb) k hlt
      obtain ⟨rfl, hbw', c0'⟩ := IntE.at (hc'.mono hb) k hlt
      go_wp2_with fail
      refine wp_region_ext (by kernel_rfl) (by kernel_rfl) ?_
      repeat (any_goals (first | go_big_quiet_step (fail)))
      refine wpQuiet_nil ?_
      rintro _ ⟨q, rfl⟩
      go_wp2_with fail
      go_roundw
      case rel => exact ⟨k + 1, by omega, by go_num, bext hb hb.size _⟩
      case measure => simp [intOf]; omega
    · go_wp2_with fail
      go_ret
      exact ⟨rfl, hb⟩

def IntE.mark (k : Int) : Int := k
/-- the marks from k0 on -/
def IntE.marks (k0 : Int) (n : Nat) : List Int := (List.range n).map fun (i : Nat) => IntE.mark (k0 + (i : Int))
theorem IntE.marks_len (k0 : Int) (n : Nat) : (IntE.marks k0 n).length = n := by simp [IntE.marks]
theorem IntE.marks_at (k0 : Int) {n i : Nat} (h : i < n) : gd (IntE.marks k0 n) i = IntE.mark (k0 + (i : Int)) := by simp [IntE.marks, gd, h]

set_option maxHeartbeats 400000 in
theorem markIntS_c (v : Value) (l : List Int) (k0 : Int) (w : World) (lo : Nat) (h : Own w lo 3 IntE.enc 1 v l) (hl : l.length ≤ 10000000) (h0 : 0 ≤ k0) (h1 : k0 ≤ 100000000000000000) : Calls Try.prog 80 #[v, .int .i64 k0] w fun e w' =>
    e = .returned (.int .i64 (k0 + (l.length : Int))) ∧ Own w' lo 3 IntE.enc 1 v (IntE.marks k0 l.length) ∧ w.grownBy w' v.ownBlock := by
  have hS := h.sl IntE.len
  obtain ⟨a, cap, b, off, rfl, hlc, hm, hc⟩ := hS
  unfold maxLen at hm
  have hf : Fill w lo 3 1 (.slice a l.length cap) l.length ((IntE.marks k0 l.length).flatMap IntE.enc) 0 := Fill.start (by rw [flat_len IntE.len, IntE.marks_len]) h
  unfold Own
  rw [IntE.marks_len]
  clear hc h
  go_enter Try.func80, Try.ntmps80
  go_wp2_with fail
  go_loopw [1, 5] (fun m i wr => ∃ k : Nat, k ≤ l.length ∧ i = .int .i64 k ∧ m = .int .i64 (k0 + (k : Int)) ∧ w.grownBy wr (Value.slice a l.length cap).ownBlock ∧ Fill wr lo 3 1 (.slice a l.length cap) l.length ((IntE.marks k0 l.length).flatMap IntE.enc) k) (fun _ i _ => l.length - (intOf i).toNat)
  case atStart => exact ⟨0, Nat.zero_le _, rfl, by simp, World.grownBy.refl _ _, hf⟩
  case round =>
    obtain ⟨k, hk, rfl, rfl, hb, hfk⟩ := hrel
    by_cases hlt : k < l.length
    · obtain ⟨g, rfl⟩ := hfk.some (by omega)
      have hg := hfk.lt.2
      obtain ⟨u0, d0⟩ := hfk.cell (k) (by omega)
      have z0 := hfk.frozen (k)
      have hM := IntE.marks_at k0 hlt
      have f0 := flat_get IntE.len (IntE.marks k0 l.length) k 0 (by rw [IntE.marks_len]; exact hlt) (by omega)
      rw [hM] at f0
      replace f0 : Hid (((IntE.marks k0 l.length).flatMap IntE.enc)[k]? = some (Value.int .i64 (k0 + (k : Int)))) := by rw [Nat.mul_one, Nat.add_zero] at f0; exact f0
      clear hM
      have hb : Hid (w.grownBy wr (some g)) := hb
      go_wp2_with fail
      go_roundw
      case rel =>
        refine ⟨k + 1, by omega, by go_num, congrArg (Value.int .i64) (by omega), ?_, ?_⟩
        · exact (only_setCell hb.out ⟨g, k, none⟩ rfl _)
        · exact (hfk).step f0.out
      case measure => simp [intOf]; omega
    · obtain rfl : k = l.length := by omega
      have HF := Lib.hid (hfk.all (by omega))
      clear hfk
      go_wp2_with fail
      go_ret
      exact ⟨rfl, HF.out, hb⟩

set_option maxHeartbeats 400000 in
theorem heldIntS_c (v : Value) (n : Nat) (k0 : Int) (w : World) (h : Sl w IntE.enc 1 v (IntE.marks k0 n)) (hl : n ≤ 10000000) (h0 : 0 ≤ k0) (h1 : k0 ≤ 100000000000000000) : Calls Try.prog 81 #[v, .int .i64 k0] w fun e w' =>
    e = .returned (.int .i64 (k0 + (n : Int))) ∧ w = w' := by
  obtain ⟨a, cap, b, off, rfl, hlc, hm, hc⟩ := h
  unfold maxLen at hm
  rw [IntE.marks_len] at hlc ⊢
  go_enter Try.func81, Try.ntmps81
  go_wp2_with fail
  go_loop [1, 5] (fun m i => ∃ k : Nat, k ≤ n ∧ i = .int .i64 k ∧ m = .int .i64 (k0 + (k : Int))) (fun _ i => n - (intOf i).toNat)
  case atStart => exact ⟨0, Nat.zero_le _, rfl, by simp⟩
  case round =>
    obtain ⟨k, hk, rfl, rfl⟩ := hrel
    by_cases hlt : k < n
    · have hM := IntE.marks_at k0 hlt
      obtain ⟨rfl, hbw, c0⟩ := IntE.at hc k (by rw [IntE.marks_len]; exact hlt)
      rw [hM] at c0
      simp only [IntE.mark] at c0
      clear hM hc
      go_wp2_with fail
      go_round
      case rel => exact ⟨k + 1, by omega, by go_num, congrArg (Value.int .i64) (by omega)⟩
      case measure => simp [intOf]; omega
    · obtain rfl : k = n := by omega
      go_wp2_with fail
      go_ret
      exact ⟨rfl, rfl⟩

structure Dmg where
  s : Int
  t : Int
  f : Int
  st : Int
instance : Inhabited Dmg := ⟨⟨0, 0, 0, 0⟩⟩
def Dmg.enc (x : Dmg) : List Value := [.int .i64 x.s, .int .i64 x.t, .int .i64 x.f, .int .i64 x.st]
theorem Dmg.len (x : Dmg) : x.enc.length = 4 := rfl
theorem Dmg.at {w : World} {a : Option Addr} {b off : Nat} {l : List Dmg} (h : Cells w Dmg.enc 4 a b off l) (i : Nat) (hi : i < l.length) : a = some ⟨b, off, none⟩ ∧ b < w.heap.size ∧
    w.cell? ⟨b, off + i * 4, none⟩ = some (.int .i64 (gd l i).s) ∧
    w.cell? ⟨b, off + i * 4 + 1, none⟩ = some (.int .i64 (gd l i).t) ∧
    w.cell? ⟨b, off + i * 4 + 2, none⟩ = some (.int .i64 (gd l i).f) ∧
    w.cell? ⟨b, off + i * 4 + 3, none⟩ = some (.int .i64 (gd l i).st) := by
  obtain ⟨ha, hb, c⟩ := h i hi
  exact ⟨ha, hb, c 0 _ rfl, c 1 _ rfl, c 2 _ rfl, c 3 _ rfl⟩

set_option maxHeartbeats 400000 in
theorem toDamage_c (x0 : Int) (x1 : Int) (x2 : Int) (x3 : Int) (w : World) : Calls Try.prog 121 #[.agg #[.int .i64 x0, .int .i64 x1, .int .i64 x2, .int .i64 x3]] w fun e w' =>
    e = .returned (.agg #[.int .i64 x0, .int .i64 x1, .int .i64 x2, .int .i64 x3]) ∧ Below w.heap.size w w' := by
  go_enter Try.func121, Try.ntmps121
  go_wp2
  go_returns
  exact ⟨rfl, by go_grown⟩

theorem szDamageS_c (a : Option Addr) (n cap : Nat) (left : Int) (w : World) (hn : n ≤ maxLen) (h0 : 0 ≤ left) (h1 : left ≤ 1048576) : Calls Try.prog 35 #[.slice a n cap, .int .i64 left] w fun e w' =>
    e = .returned (.int .i64 (szN left n)) ∧ w = w' := by
  unfold maxLen at hn
  by_cases hlt : left < n
  all_goals
    first | have Hs := Lib.hid (szN_no hlt) | have Hs := Lib.hid (szN_yes hlt)
    go_enter Try.func35, Try.ntmps35
    go_wp2
    go_ret
    exact ⟨ret_int Hs.out.symm, rfl⟩

set_option maxHeartbeats 400000 in
theorem toDamageS_c (v : Value) (l : List Dmg) (w : World) (h : Sl w Dmg.enc 4 v l) (hl : l.length ≤ 1048576) : Calls Try.prog 38 #[v] w (RetOwn w 140 Dmg.enc 4 l) := by
  obtain ⟨a, cap, b, off, rfl, hlc, hm, hc⟩ := h
  obtain ⟨i, hi, hz0, hz1, hz2⟩ := info_parts (show (Try.prog.info? 140).map (fun i => (i.zero, i.size, i.bytes)) = some (some (.agg #[.int .i64 0, .int .i64 0, .int .i64 0, .int .i64 0]), 4, 32) by kernel_rfl)
  go_enter Try.func38, Try.ntmps38
  go_wp2_with (at_make; refine wpList_make_full _ rfl _ _ 65 rfl w.heap.size 140 i _ 4 Try.underlying65 hi hz0 hz1 _ _ _ _ l.length rfl rfl rfl rfl (by rw [hz2]; omega) (by unfold maxLen; omega) (Nat.le_refl _) ?_)
  intro w1 hown hgr
  have hb1 := (Below.refl w.heap.size w).grown hgr (Nat.le_refl _) (fun k hk => by cases hk)
  have hf := Fill.start (flat_len Dmg.len l) hown
  clear hown hgr
  go_wp2_with fail
  go_loopw [4] (fun i wr => ∃ k : Nat, k ≤ l.length ∧ i = .int .i64 k ∧ Below w.heap.size w wr ∧ Fill wr w.heap.size 140 4 (.slice (some ⟨w.heap.size, 0, none⟩) l.length l.length) l.length (l.flatMap Dmg.enc) (k * 4)) (fun i _ => l.length - (intOf i).toNat)
  case atStart => exact ⟨0, Nat.zero_le _, rfl, hb1, hf⟩
  case round =>
    obtain ⟨k, hk, rfl, hb, hfk⟩ := hrel
    by_cases hlt : k < l.length
    · obtain ⟨rfl, hbw, c0, c1, c2, c3⟩ := Dmg.at (hc.mono hb) k hlt
      have hg := hfk.lt.2
      obtain ⟨u0, d0⟩ := hfk.cell (k * 4) (by omega)
      obtain ⟨u1, d1⟩ := hfk.cell (k * 4 + 1) (by omega)
      obtain ⟨u2, d2⟩ := hfk.cell (k * 4 + 2) (by omega)
      obtain ⟨u3, d3⟩ := hfk.cell (k * 4 + 3) (by omega)
      have z0 := hfk.frozen (k * 4)
      have z1 := hfk.frozen (k * 4 + 1)
      have z2 := hfk.frozen (k * 4 + 2)
      have z3 := hfk.frozen (k * 4 + 3)
      have f0 := Lib.hid (flat_get Dmg.len l k 0 hlt (by omega))
      have f1 := Lib.hid (flat_get Dmg.len l k 1 hlt (by omega))
      have f2 := Lib.hid (flat_get Dmg.len l k 2 hlt (by omega))
      have f3 := Lib.hid (flat_get Dmg.len l k 3 hlt (by omega))
      go_wp2_with (go_at_call 121; refine (toDamage_c _ _ _ _ _).mono ?_; rintro e w' ⟨rfl, hb2⟩; obtain ⟨p, rfl⟩ := ext_of_below hb2)
      go_roundw
      case rel =>
        refine ⟨k + 1, by omega, by go_num, ?_, ?_⟩
        · exact (((((bext hb hb.size p).setCell (Nat.le_refl _) _).setCell (Nat.le_refl _) _).setCell (Nat.le_refl _) _).setCell (Nat.le_refl _) _)
        · rw [show (k + 1) * 4 = k * 4 + 3 + 1 by omega]
          exact (((((hfk.mono (below_ext wr p))).step f0.out).step f1.out).step f2.out).step f3.out
      case measure => simp [intOf]; omega
    · go_wp2_with fail
      go_ret
      exact ⟨_, rfl, hfk.all (by omega), hb⟩

set_option maxHeartbeats 400000 in
theorem eqDamage_c (x0 : Int) (x1 : Int) (x2 : Int) (x3 : Int) (w : World) : Calls Try.prog 125 #[.agg #[.int .i64 x0, .int .i64 x1, .int .i64 x2, .int .i64 x3], .agg #[.int .i64 x0, .int .i64 x1, .int .i64 x2, .int .i64 x3]] w fun e w' =>
    e = .returned (.bool true) ∧ Below w.heap.size w w' := by
  go_enter Try.func125, Try.ntmps125
  go_wp2
  go_ret
  exact ⟨rfl, by go_grown⟩

set_option maxHeartbeats 400000 in
theorem eqDamageS_c (v v' : Value) (l : List Dmg) (w : World) (h : Sl w Dmg.enc 4 v l) (h' : Sl w Dmg.enc 4 v' l) : Calls Try.prog 43 #[v, v'] w fun e w' =>
    e = .returned (.bool true) ∧ Below w.heap.size w w' := by
  obtain ⟨a, cap, b, off, rfl, hlc, hm, hc⟩ := h
  obtain ⟨a', cap', b', off', rfl, hlc', hm', hc'⟩ := h'
  unfold maxLen at hm hm'
  go_enter Try.func43, Try.ntmps43
  go_wp2_with fail
  go_loopw [5] (fun i wr => ∃ k : Nat, k ≤ l.length ∧ i = .int .i64 k ∧ Below w.heap.size w wr) (fun i _ => l.length - (intOf i).toNat)
  case atStart => exact ⟨0, Nat.zero_le _, rfl, Below.refl _ _⟩
  case round =>
    obtain ⟨k, hk, rfl, hb⟩ := hrel
    by_cases hlt : k < l.length
    · obtain ⟨rfl, hbw, c0, c1, c2, c3⟩ := Dmg.at (hc.mono hb) k hlt
      obtain ⟨rfl, hbw', c0', c1', c2', c3'⟩ := Dmg.at (hc'.mono hb) k hlt
      go_wp2_with fail
      refine wp_region_ext (by kernel_rfl) (by kernel_rfl) ?_
      repeat (any_goals (first | go_big_quiet_step ((go_at_call 125; exact Calls.ext_of (eqDamage_c _ _ _ _ _)))))
      refine wpQuiet_nil ?_
      rintro _ ⟨q, rfl⟩
      go_wp2_with fail
      go_roundw
      case rel => exact ⟨k + 1, by omega, by go_num, bext hb hb.size _⟩
      case measure => simp [intOf]; omega
    · go_wp2_with fail
      go_ret
      exact ⟨rfl, hb⟩

def Dmg.mark (k : Int) : Dmg := ⟨k, k + 1, k + 1 + 1, k + 1 + 1 + 1⟩
/-- the marks from k0 on -/
def Dmg.marks (k0 : Int) (n : Nat) : List Dmg := (List.range n).map fun (i : Nat) => Dmg.mark (k0 + 4 * (i : Int))
theorem Dmg.marks_len (k0 : Int) (n : Nat) : (Dmg.marks k0 n).length = n := by simp [Dmg.marks]
theorem Dmg.marks_at (k0 : Int) {n i : Nat} (h : i < n) : gd (Dmg.marks k0 n) i = Dmg.mark (k0 + 4 * (i : Int)) := by simp [Dmg.marks, gd, h]

set_option maxHeartbeats 400000 in
theorem markDamageS_c (v : Value) (l : List Dmg) (k0 : Int) (w : World) (lo : Nat) (h : Own w lo 140 Dmg.enc 4 v l) (hl : l.length ≤ 10000000) (h0 : 0 ≤ k0) (h1 : k0 ≤ 100000000000000000) : Calls Try.prog 44 #[v, .int .i64 k0] w fun e w' =>
    e = .returned (.int .i64 (k0 + 4 * (l.length : Int))) ∧ Own w' lo 140 Dmg.enc 4 v (Dmg.marks k0 l.length) ∧ w.grownBy w' v.ownBlock := by
  have hS := h.sl Dmg.len
  obtain ⟨a, cap, b, off, rfl, hlc, hm, hc⟩ := hS
  unfold maxLen at hm
  have hf : Fill w lo 140 4 (.slice a l.length cap) l.length ((Dmg.marks k0 l.length).flatMap Dmg.enc) 0 := Fill.start (by rw [flat_len Dmg.len, Dmg.marks_len]) h
  unfold Own
  rw [Dmg.marks_len]
  clear hc h
  go_enter Try.func44, Try.ntmps44
  go_wp2_with fail
  go_loopw [1, 5] (fun m i wr => ∃ k : Nat, k ≤ l.length ∧ i = .int .i64 k ∧ m = .int .i64 (k0 + 4 * (k : Int)) ∧ w.grownBy wr (Value.slice a l.length cap).ownBlock ∧ Fill wr lo 140 4 (.slice a l.length cap) l.length ((Dmg.marks k0 l.length).flatMap Dmg.enc) (k * 4)) (fun _ i _ => l.length - (intOf i).toNat)
  case atStart => exact ⟨0, Nat.zero_le _, rfl, by simp, World.grownBy.refl _ _, hf⟩
  case round =>
    obtain ⟨k, hk, rfl, rfl, hb, hfk⟩ := hrel
    by_cases hlt : k < l.length
    · obtain ⟨g, rfl⟩ := hfk.some (by omega)
      have hg := hfk.lt.2
      obtain ⟨u0, d0⟩ := hfk.cell (k * 4) (by omega)
      obtain ⟨u1, d1⟩ := hfk.cell (k * 4 + 1) (by omega)
      obtain ⟨u2, d2⟩ := hfk.cell (k * 4 + 2) (by omega)
      obtain ⟨u3, d3⟩ := hfk.cell (k * 4 + 3) (by omega)
      have z0 := hfk.frozen (k * 4)
      have z1 := hfk.frozen (k * 4 + 1)
      have z2 := hfk.frozen (k * 4 + 2)
      have z3 := hfk.frozen (k * 4 + 3)
      have hM := Dmg.marks_at k0 hlt
      have f0 := flat_get Dmg.len (Dmg.marks k0 l.length) k 0 (by rw [Dmg.marks_len]; exact hlt) (by omega)
      rw [hM] at f0
      replace f0 : Hid (((Dmg.marks k0 l.length).flatMap Dmg.enc)[k * 4]? = some (Value.int .i64 (k0 + 4 * (k : Int)))) := f0
      have f1 := flat_get Dmg.len (Dmg.marks k0 l.length) k 1 (by rw [Dmg.marks_len]; exact hlt) (by omega)
      rw [hM] at f1
      replace f1 : Hid (((Dmg.marks k0 l.length).flatMap Dmg.enc)[k * 4 + 1]? = some (Value.int .i64 (k0 + 4 * (k : Int) + 1))) := f1
      have f2 := flat_get Dmg.len (Dmg.marks k0 l.length) k 2 (by rw [Dmg.marks_len]; exact hlt) (by omega)
      rw [hM] at f2
      replace f2 : Hid (((Dmg.marks k0 l.length).flatMap Dmg.enc)[k * 4 + 2]? = some (Value.int .i64 (k0 + 4 * (k : Int) + 1 + 1))) := f2
      have f3 := flat_get Dmg.len (Dmg.marks k0 l.length) k 3 (by rw [Dmg.marks_len]; exact hlt) (by omega)
      rw [hM] at f3
      replace f3 : Hid (((Dmg.marks k0 l.length).flatMap Dmg.enc)[k * 4 + 3]? = some (Value.int .i64 (k0 + 4 * (k : Int) + 1 + 1 + 1))) := f3
      clear hM
      have hb : Hid (w.grownBy wr (some g)) := hb
      go_wp2_with fail
      go_roundw
      case rel =>
        refine ⟨k + 1, by omega, by go_num, congrArg (Value.int .i64) (by omega), ?_, ?_⟩
        · exact (only_setCell (only_setCell (only_setCell (only_setCell hb.out ⟨g, k * 4, none⟩ rfl _) ⟨g, k * 4 + 1, none⟩ rfl _) ⟨g, k * 4 + 2, none⟩ rfl _) ⟨g, k * 4 + 3, none⟩ rfl _)
        · rw [show (k + 1) * 4 = k * 4 + 3 + 1 by omega]
          exact ((((hfk).step f0.out).step f1.out).step f2.out).step f3.out
      case measure => simp [intOf]; omega
    · obtain rfl : k = l.length := by omega
      have HF := Lib.hid (hfk.all (by omega))
      clear hfk
      go_wp2_with fail
      go_ret
      exact ⟨rfl, HF.out, hb⟩

structure Rep where
  s : Int
  wk : Int
  d : Int
instance : Inhabited Rep := ⟨⟨0, 0, 0⟩⟩
def Rep.enc (x : Rep) : List Value := [.int .i64 x.s, .int .i64 x.wk, .int .i64 x.d]
theorem Rep.len (x : Rep) : x.enc.length = 3 := rfl
theorem Rep.at {w : World} {a : Option Addr} {b off : Nat} {l : List Rep} (h : Cells w Rep.enc 3 a b off l) (i : Nat) (hi : i < l.length) : a = some ⟨b, off, none⟩ ∧ b < w.heap.size ∧
    w.cell? ⟨b, off + i * 3, none⟩ = some (.int .i64 (gd l i).s) ∧
    w.cell? ⟨b, off + i * 3 + 1, none⟩ = some (.int .i64 (gd l i).wk) ∧
    w.cell? ⟨b, off + i * 3 + 2, none⟩ = some (.int .i64 (gd l i).d) := by
  obtain ⟨ha, hb, c⟩ := h i hi
  exact ⟨ha, hb, c 0 _ rfl, c 1 _ rfl, c 2 _ rfl⟩

set_option maxHeartbeats 400000 in
theorem toRepair_c (x0 : Int) (x1 : Int) (x2 : Int) (w : World) : Calls Try.prog 40 #[.agg #[.int .i64 x0, .int .i64 x1, .int .i64 x2]] w fun e w' =>
    e = .returned (.agg #[.int .i64 x0, .int .i64 x1, .int .i64 x2]) ∧ Below w.heap.size w w' := by
  go_enter Try.func40, Try.ntmps40
  go_wp2
  go_returns
  exact ⟨rfl, by go_grown⟩

theorem szRepairS_c (a : Option Addr) (n cap : Nat) (left : Int) (w : World) (hn : n ≤ maxLen) (h0 : 0 ≤ left) (h1 : left ≤ 1048576) : Calls Try.prog 36 #[.slice a n cap, .int .i64 left] w fun e w' =>
    e = .returned (.int .i64 (szN left n)) ∧ w = w' := by
  unfold maxLen at hn
  by_cases hlt : left < n
  all_goals
    first | have Hs := Lib.hid (szN_no hlt) | have Hs := Lib.hid (szN_yes hlt)
    go_enter Try.func36, Try.ntmps36
    go_wp2
    go_ret
    exact ⟨ret_int Hs.out.symm, rfl⟩

set_option maxHeartbeats 400000 in
theorem toRepairS_c (v : Value) (l : List Rep) (w : World) (h : Sl w Rep.enc 3 v l) (hl : l.length ≤ 1048576) : Calls Try.prog 39 #[v] w (RetOwn w 68 Rep.enc 3 l) := by
  obtain ⟨a, cap, b, off, rfl, hlc, hm, hc⟩ := h
  obtain ⟨i, hi, hz0, hz1, hz2⟩ := info_parts (show (Try.prog.info? 68).map (fun i => (i.zero, i.size, i.bytes)) = some (some (.agg #[.int .i64 0, .int .i64 0, .int .i64 0]), 3, 24) by kernel_rfl)
  go_enter Try.func39, Try.ntmps39
  go_wp2_with (at_make; refine wpList_make_full _ rfl _ _ 62 rfl w.heap.size 68 i _ 3 Try.underlying62 hi hz0 hz1 _ _ _ _ l.length rfl rfl rfl rfl (by rw [hz2]; omega) (by unfold maxLen; omega) (Nat.le_refl _) ?_)
  intro w1 hown hgr
  have hb1 := (Below.refl w.heap.size w).grown hgr (Nat.le_refl _) (fun k hk => by cases hk)
  have hf := Fill.start (flat_len Rep.len l) hown
  clear hown hgr
  go_wp2_with fail
  go_loopw [4] (fun i wr => ∃ k : Nat, k ≤ l.length ∧ i = .int .i64 k ∧ Below w.heap.size w wr ∧ Fill wr w.heap.size 68 3 (.slice (some ⟨w.heap.size, 0, none⟩) l.length l.length) l.length (l.flatMap Rep.enc) (k * 3)) (fun i _ => l.length - (intOf i).toNat)
  case atStart => exact ⟨0, Nat.zero_le _, rfl, hb1, hf⟩
  case round =>
    obtain ⟨k, hk, rfl, hb, hfk⟩ := hrel
    by_cases hlt : k < l.length
    · obtain ⟨rfl, hbw, c0, c1, c2⟩ := Rep.at (hc.mono hb) k hlt
      have hg := hfk.lt.2
      obtain ⟨u0, d0⟩ := hfk.cell (k * 3) (by omega)
      obtain ⟨u1, d1⟩ := hfk.cell (k * 3 + 1) (by omega)
      obtain ⟨u2, d2⟩ := hfk.cell (k * 3 + 2) (by omega)
      have z0 := hfk.frozen (k * 3)
      have z1 := hfk.frozen (k * 3 + 1)
      have z2 := hfk.frozen (k * 3 + 2)
      have f0 := Lib.hid (flat_get Rep.len l k 0 hlt (by omega))
      have f1 := Lib.hid (flat_get Rep.len l k 1 hlt (by omega))
      have f2 := Lib.hid (flat_get Rep.len l k 2 hlt (by omega))
      go_wp2_with (go_at_call 40; refine (toRepair_c _ _ _ _).mono ?_; rintro e w' ⟨rfl, hb2⟩; obtain ⟨p, rfl⟩ := ext_of_below hb2)
      go_roundw
      case rel =>
        refine ⟨k + 1, by omega, by go_num, ?_, ?_⟩
        · exact ((((bext hb hb.size p).setCell (Nat.le_refl _) _).setCell (Nat.le_refl _) _).setCell (Nat.le_refl _) _)
        · rw [show (k + 1) * 3 = k * 3 + 2 + 1 by omega]
          exact ((((hfk.mono (below_ext wr p))).step f0.out).step f1.out).step f2.out
      case measure => simp [intOf]; omega
    · go_wp2_with fail
      go_ret
      exact ⟨_, rfl, hfk.all (by omega), hb⟩

set_option maxHeartbeats 400000 in
theorem eqRepair_c (x0 : Int) (x1 : Int) (x2 : Int) (w : World) : Calls Try.prog 124 #[.agg #[.int .i64 x0, .int .i64 x1, .int .i64 x2], .agg #[.int .i64 x0, .int .i64 x1, .int .i64 x2]] w fun e w' =>
    e = .returned (.bool true) ∧ Below w.heap.size w w' := by
  go_enter Try.func124, Try.ntmps124
  go_wp2
  go_ret
  exact ⟨rfl, by go_grown⟩

set_option maxHeartbeats 400000 in
theorem eqRepairS_c (v v' : Value) (l : List Rep) (w : World) (h : Sl w Rep.enc 3 v l) (h' : Sl w Rep.enc 3 v' l) : Calls Try.prog 42 #[v, v'] w fun e w' =>
    e = .returned (.bool true) ∧ Below w.heap.size w w' := by
  obtain ⟨a, cap, b, off, rfl, hlc, hm, hc⟩ := h
  obtain ⟨a', cap', b', off', rfl, hlc', hm', hc'⟩ := h'
  unfold maxLen at hm hm'
  go_enter Try.func42, Try.ntmps42
  go_wp2_with fail
  go_loopw [5] (fun i wr => ∃ k : Nat, k ≤ l.length ∧ i = .int .i64 k ∧ Below w.heap.size w wr) (fun i _ => l.length - (intOf i).toNat)
  case atStart => exact ⟨0, Nat.zero_le _, rfl, Below.refl _ _⟩
  case round =>
    obtain ⟨k, hk, rfl, hb⟩ := hrel
    by_cases hlt : k < l.length
    · obtain ⟨rfl, hbw, c0, c1, c2⟩ := Rep.at (hc.mono hb) k hlt
      obtain ⟨rfl, hbw', c0', c1', c2'⟩ := Rep.at (hc'.mono hb) k hlt
      go_wp2_with fail
      refine wp_region_ext (by kernel_rfl) (by kernel_rfl) ?_
      repeat (any_goals (first | go_big_quiet_step ((go_at_call 124; exact Calls.ext_of (eqRepair_c _ _ _ _)))))
      refine wpQuiet_nil ?_
      rintro _ ⟨q, rfl⟩
      go_wp2_with fail
      go_roundw
      case rel => exact ⟨k + 1, by omega, by go_num, bext hb hb.size _⟩
      case measure => simp [intOf]; omega
    · go_wp2_with fail
      go_ret
      exact ⟨rfl, hb⟩

def Rep.mark (k : Int) : Rep := ⟨k, k + 1, k + 1 + 1⟩
/-- the marks from k0 on -/
def Rep.marks (k0 : Int) (n : Nat) : List Rep := (List.range n).map fun (i : Nat) => Rep.mark (k0 + 3 * (i : Int))
theorem Rep.marks_len (k0 : Int) (n : Nat) : (Rep.marks k0 n).length = n := by simp [Rep.marks]
theorem Rep.marks_at (k0 : Int) {n i : Nat} (h : i < n) : gd (Rep.marks k0 n) i = Rep.mark (k0 + 3 * (i : Int)) := by simp [Rep.marks, gd, h]

set_option maxHeartbeats 400000 in
theorem markRepairS_c (v : Value) (l : List Rep) (k0 : Int) (w : World) (lo : Nat) (h : Own w lo 68 Rep.enc 3 v l) (hl : l.length ≤ 10000000) (h0 : 0 ≤ k0) (h1 : k0 ≤ 100000000000000000) : Calls Try.prog 45 #[v, .int .i64 k0] w fun e w' =>
    e = .returned (.int .i64 (k0 + 3 * (l.length : Int))) ∧ Own w' lo 68 Rep.enc 3 v (Rep.marks k0 l.length) ∧ w.grownBy w' v.ownBlock := by
  have hS := h.sl Rep.len
  obtain ⟨a, cap, b, off, rfl, hlc, hm, hc⟩ := hS
  unfold maxLen at hm
  have hf : Fill w lo 68 3 (.slice a l.length cap) l.length ((Rep.marks k0 l.length).flatMap Rep.enc) 0 := Fill.start (by rw [flat_len Rep.len, Rep.marks_len]) h
  unfold Own
  rw [Rep.marks_len]
  clear hc h
  go_enter Try.func45, Try.ntmps45
  go_wp2_with fail
  go_loopw [1, 5] (fun m i wr => ∃ k : Nat, k ≤ l.length ∧ i = .int .i64 k ∧ m = .int .i64 (k0 + 3 * (k : Int)) ∧ w.grownBy wr (Value.slice a l.length cap).ownBlock ∧ Fill wr lo 68 3 (.slice a l.length cap) l.length ((Rep.marks k0 l.length).flatMap Rep.enc) (k * 3)) (fun _ i _ => l.length - (intOf i).toNat)
  case atStart => exact ⟨0, Nat.zero_le _, rfl, by simp, World.grownBy.refl _ _, hf⟩
  case round =>
    obtain ⟨k, hk, rfl, rfl, hb, hfk⟩ := hrel
    by_cases hlt : k < l.length
    · obtain ⟨g, rfl⟩ := hfk.some (by omega)
      have hg := hfk.lt.2
      obtain ⟨u0, d0⟩ := hfk.cell (k * 3) (by omega)
      obtain ⟨u1, d1⟩ := hfk.cell (k * 3 + 1) (by omega)
      obtain ⟨u2, d2⟩ := hfk.cell (k * 3 + 2) (by omega)
      have z0 := hfk.frozen (k * 3)
      have z1 := hfk.frozen (k * 3 + 1)
      have z2 := hfk.frozen (k * 3 + 2)
      have hM := Rep.marks_at k0 hlt
      have f0 := flat_get Rep.len (Rep.marks k0 l.length) k 0 (by rw [Rep.marks_len]; exact hlt) (by omega)
      rw [hM] at f0
      replace f0 : Hid (((Rep.marks k0 l.length).flatMap Rep.enc)[k * 3]? = some (Value.int .i64 (k0 + 3 * (k : Int)))) := f0
      have f1 := flat_get Rep.len (Rep.marks k0 l.length) k 1 (by rw [Rep.marks_len]; exact hlt) (by omega)
      rw [hM] at f1
      replace f1 : Hid (((Rep.marks k0 l.length).flatMap Rep.enc)[k * 3 + 1]? = some (Value.int .i64 (k0 + 3 * (k : Int) + 1))) := f1
      have f2 := flat_get Rep.len (Rep.marks k0 l.length) k 2 (by rw [Rep.marks_len]; exact hlt) (by omega)
      rw [hM] at f2
      replace f2 : Hid (((Rep.marks k0 l.length).flatMap Rep.enc)[k * 3 + 2]? = some (Value.int .i64 (k0 + 3 * (k : Int) + 1 + 1))) := f2
      clear hM
      have hb : Hid (w.grownBy wr (some g)) := hb
      go_wp2_with fail
      go_roundw
      case rel =>
        refine ⟨k + 1, by omega, by go_num, congrArg (Value.int .i64) (by omega), ?_, ?_⟩
        · exact (only_setCell (only_setCell (only_setCell hb.out ⟨g, k * 3, none⟩ rfl _) ⟨g, k * 3 + 1, none⟩ rfl _) ⟨g, k * 3 + 2, none⟩ rfl _)
        · rw [show (k + 1) * 3 = k * 3 + 2 + 1 by omega]
          exact (((hfk).step f0.out).step f1.out).step f2.out
      case measure => simp [intOf]; omega
    · obtain rfl : k = l.length := by omega
      have HF := Lib.hid (hfk.all (by omega))
      clear hfk
      go_wp2_with fail
      go_ret
      exact ⟨rfl, HF.out, hb⟩

set_option maxHeartbeats 400000 in
theorem heldRepairS_c (v : Value) (n : Nat) (k0 : Int) (w : World) (h : Sl w Rep.enc 3 v (Rep.marks k0 n)) (hl : n ≤ 10000000) (h0 : 0 ≤ k0) (h1 : k0 ≤ 100000000000000000) : Calls Try.prog 46 #[v, .int .i64 k0] w fun e w' =>
    e = .returned (.int .i64 (k0 + 3 * (n : Int))) ∧ w = w' := by
  obtain ⟨a, cap, b, off, rfl, hlc, hm, hc⟩ := h
  unfold maxLen at hm
  rw [Rep.marks_len] at hlc ⊢
  go_enter Try.func46, Try.ntmps46
  go_wp2_with fail
  go_loop [1, 5] (fun m i => ∃ k : Nat, k ≤ n ∧ i = .int .i64 k ∧ m = .int .i64 (k0 + 3 * (k : Int))) (fun _ i => n - (intOf i).toNat)
  case atStart => exact ⟨0, Nat.zero_le _, rfl, by simp⟩
  case round =>
    obtain ⟨k, hk, rfl, rfl⟩ := hrel
    by_cases hlt : k < n
    · have hM := Rep.marks_at k0 hlt
      obtain ⟨rfl, hbw, c0, c1, c2⟩ := Rep.at hc k (by rw [Rep.marks_len]; exact hlt)
      rw [hM] at c0 c1 c2
      simp only [Rep.mark] at c0 c1 c2
      clear hM hc
      go_wp2_with fail
      go_round
      case rel => exact ⟨k + 1, by omega, by go_num, congrArg (Value.int .i64) (by omega)⟩
      case measure => simp [intOf]; omega
    · obtain rfl : k = n := by omega
      go_wp2_with fail
      go_ret
      exact ⟨rfl, rfl⟩

structure Iss where
  s : Int
  n : Int
  fr : Int
  un : Int
instance : Inhabited Iss := ⟨⟨0, 0, 0, 0⟩⟩
def Iss.enc (x : Iss) : List Value := [.int .i64 x.s, .int .i64 x.n, .int .i64 x.fr, .int .i64 x.un]
theorem Iss.len (x : Iss) : x.enc.length = 4 := rfl
theorem Iss.at {w : World} {a : Option Addr} {b off : Nat} {l : List Iss} (h : Cells w Iss.enc 4 a b off l) (i : Nat) (hi : i < l.length) : a = some ⟨b, off, none⟩ ∧ b < w.heap.size ∧
    w.cell? ⟨b, off + i * 4, none⟩ = some (.int .i64 (gd l i).s) ∧
    w.cell? ⟨b, off + i * 4 + 1, none⟩ = some (.int .i64 (gd l i).n) ∧
    w.cell? ⟨b, off + i * 4 + 2, none⟩ = some (.int .i64 (gd l i).fr) ∧
    w.cell? ⟨b, off + i * 4 + 3, none⟩ = some (.int .i64 (gd l i).un) := by
  obtain ⟨ha, hb, c⟩ := h i hi
  exact ⟨ha, hb, c 0 _ rfl, c 1 _ rfl, c 2 _ rfl, c 3 _ rfl⟩

set_option maxHeartbeats 400000 in
theorem toIssue_c (x0 : Int) (x1 : Int) (x2 : Int) (x3 : Int) (w : World) : Calls Try.prog 14 #[.agg #[.int .i64 x0, .int .i64 x1, .int .i64 x2, .int .i64 x3]] w fun e w' =>
    e = .returned (.agg #[.int .i64 x0, .int .i64 x1, .int .i64 x2, .int .i64 x3]) ∧ Below w.heap.size w w' := by
  go_enter Try.func14, Try.ntmps14
  go_wp2
  go_returns
  exact ⟨rfl, by go_grown⟩

theorem szIssueS_c (a : Option Addr) (n cap : Nat) (left : Int) (w : World) (hn : n ≤ maxLen) (h0 : 0 ≤ left) (h1 : left ≤ 1048576) : Calls Try.prog 11 #[.slice a n cap, .int .i64 left] w fun e w' =>
    e = .returned (.int .i64 (szN left n)) ∧ w = w' := by
  unfold maxLen at hn
  by_cases hlt : left < n
  all_goals
    first | have Hs := Lib.hid (szN_no hlt) | have Hs := Lib.hid (szN_yes hlt)
    go_enter Try.func11, Try.ntmps11
    go_wp2
    go_ret
    exact ⟨ret_int Hs.out.symm, rfl⟩

set_option maxHeartbeats 400000 in
theorem toIssueS_c (v : Value) (l : List Iss) (w : World) (h : Sl w Iss.enc 4 v l) (hl : l.length ≤ 1048576) : Calls Try.prog 13 #[v] w (RetOwn w 30 Iss.enc 4 l) := by
  obtain ⟨a, cap, b, off, rfl, hlc, hm, hc⟩ := h
  obtain ⟨i, hi, hz0, hz1, hz2⟩ := info_parts (show (Try.prog.info? 30).map (fun i => (i.zero, i.size, i.bytes)) = some (some (.agg #[.int .i64 0, .int .i64 0, .int .i64 0, .int .i64 0]), 4, 32) by kernel_rfl)
  go_enter Try.func13, Try.ntmps13
  go_wp2_with (at_make; refine wpList_make_full _ rfl _ _ 26 rfl w.heap.size 30 i _ 4 Try.underlying26 hi hz0 hz1 _ _ _ _ l.length rfl rfl rfl rfl (by rw [hz2]; omega) (by unfold maxLen; omega) (Nat.le_refl _) ?_)
  intro w1 hown hgr
  have hb1 := (Below.refl w.heap.size w).grown hgr (Nat.le_refl _) (fun k hk => by cases hk)
  have hf := Fill.start (flat_len Iss.len l) hown
  clear hown hgr
  go_wp2_with fail
  go_loopw [4] (fun i wr => ∃ k : Nat, k ≤ l.length ∧ i = .int .i64 k ∧ Below w.heap.size w wr ∧ Fill wr w.heap.size 30 4 (.slice (some ⟨w.heap.size, 0, none⟩) l.length l.length) l.length (l.flatMap Iss.enc) (k * 4)) (fun i _ => l.length - (intOf i).toNat)
  case atStart => exact ⟨0, Nat.zero_le _, rfl, hb1, hf⟩
  case round =>
    obtain ⟨k, hk, rfl, hb, hfk⟩ := hrel
    by_cases hlt : k < l.length
    · obtain ⟨rfl, hbw, c0, c1, c2, c3⟩ := Iss.at (hc.mono hb) k hlt
      have hg := hfk.lt.2
      obtain ⟨u0, d0⟩ := hfk.cell (k * 4) (by omega)
      obtain ⟨u1, d1⟩ := hfk.cell (k * 4 + 1) (by omega)
      obtain ⟨u2, d2⟩ := hfk.cell (k * 4 + 2) (by omega)
      obtain ⟨u3, d3⟩ := hfk.cell (k * 4 + 3) (by omega)
      have z0 := hfk.frozen (k * 4)
      have z1 := hfk.frozen (k * 4 + 1)
      have z2 := hfk.frozen (k * 4 + 2)
      have z3 := hfk.frozen (k * 4 + 3)
      have f0 := Lib.hid (flat_get Iss.len l k 0 hlt (by omega))
      have f1 := Lib.hid (flat_get Iss.len l k 1 hlt (by omega))
      have f2 := Lib.hid (flat_get Iss.len l k 2 hlt (by omega))
      have f3 := Lib.hid (flat_get Iss.len l k 3 hlt (by omega))
      go_wp2_with (go_at_call 14; refine (toIssue_c _ _ _ _ _).mono ?_; rintro e w' ⟨rfl, hb2⟩; obtain ⟨p, rfl⟩ := ext_of_below hb2)
      go_roundw
      case rel =>
        refine ⟨k + 1, by omega, by go_num, ?_, ?_⟩
        · exact (((((bext hb hb.size p).setCell (Nat.le_refl _) _).setCell (Nat.le_refl _) _).setCell (Nat.le_refl _) _).setCell (Nat.le_refl _) _)
        · rw [show (k + 1) * 4 = k * 4 + 3 + 1 by omega]
          exact (((((hfk.mono (below_ext wr p))).step f0.out).step f1.out).step f2.out).step f3.out
      case measure => simp [intOf]; omega
    · go_wp2_with fail
      go_ret
      exact ⟨_, rfl, hfk.all (by omega), hb⟩

set_option maxHeartbeats 400000 in
theorem eqIssue_c (x0 : Int) (x1 : Int) (x2 : Int) (x3 : Int) (w : World) : Calls Try.prog 104 #[.agg #[.int .i64 x0, .int .i64 x1, .int .i64 x2, .int .i64 x3], .agg #[.int .i64 x0, .int .i64 x1, .int .i64 x2, .int .i64 x3]] w fun e w' =>
    e = .returned (.bool true) ∧ Below w.heap.size w w' := by
  go_enter Try.func104, Try.ntmps104
  go_wp2
  go_ret
  exact ⟨rfl, by go_grown⟩

set_option maxHeartbeats 400000 in
theorem eqIssueS_c (v v' : Value) (l : List Iss) (w : World) (h : Sl w Iss.enc 4 v l) (h' : Sl w Iss.enc 4 v' l) : Calls Try.prog 16 #[v, v'] w fun e w' =>
    e = .returned (.bool true) ∧ Below w.heap.size w w' := by
  obtain ⟨a, cap, b, off, rfl, hlc, hm, hc⟩ := h
  obtain ⟨a', cap', b', off', rfl, hlc', hm', hc'⟩ := h'
  unfold maxLen at hm hm'
  go_enter Try.func16, Try.ntmps16
  go_wp2_with fail
  go_loopw [5] (fun i wr => ∃ k : Nat, k ≤ l.length ∧ i = .int .i64 k ∧ Below w.heap.size w wr) (fun i _ => l.length - (intOf i).toNat)
  case atStart => exact ⟨0, Nat.zero_le _, rfl, Below.refl _ _⟩
  case round =>
    obtain ⟨k, hk, rfl, hb⟩ := hrel
    by_cases hlt : k < l.length
    · obtain ⟨rfl, hbw, c0, c1, c2, c3⟩ := Iss.at (hc.mono hb) k hlt
      obtain ⟨rfl, hbw', c0', c1', c2', c3'⟩ := Iss.at (hc'.mono hb) k hlt
      go_wp2_with fail
      refine wp_region_ext (by kernel_rfl) (by kernel_rfl) ?_
      repeat (any_goals (first | go_big_quiet_step ((go_at_call 104; exact Calls.ext_of (eqIssue_c _ _ _ _ _)))))
      refine wpQuiet_nil ?_
      rintro _ ⟨q, rfl⟩
      go_wp2_with fail
      go_roundw
      case rel => exact ⟨k + 1, by omega, by go_num, bext hb hb.size _⟩
      case measure => simp [intOf]; omega
    · go_wp2_with fail
      go_ret
      exact ⟨rfl, hb⟩

def Iss.mark (k : Int) : Iss := ⟨k, k + 1, k + 1 + 1, k + 1 + 1 + 1⟩
/-- the marks from k0 on -/
def Iss.marks (k0 : Int) (n : Nat) : List Iss := (List.range n).map fun (i : Nat) => Iss.mark (k0 + 4 * (i : Int))
theorem Iss.marks_len (k0 : Int) (n : Nat) : (Iss.marks k0 n).length = n := by simp [Iss.marks]
theorem Iss.marks_at (k0 : Int) {n i : Nat} (h : i < n) : gd (Iss.marks k0 n) i = Iss.mark (k0 + 4 * (i : Int)) := by simp [Iss.marks, gd, h]

set_option maxHeartbeats 400000 in
theorem markIssueS_c (v : Value) (l : List Iss) (k0 : Int) (w : World) (lo : Nat) (h : Own w lo 30 Iss.enc 4 v l) (hl : l.length ≤ 10000000) (h0 : 0 ≤ k0) (h1 : k0 ≤ 100000000000000000) : Calls Try.prog 17 #[v, .int .i64 k0] w fun e w' =>
    e = .returned (.int .i64 (k0 + 4 * (l.length : Int))) ∧ Own w' lo 30 Iss.enc 4 v (Iss.marks k0 l.length) ∧ w.grownBy w' v.ownBlock := by
  have hS := h.sl Iss.len
  obtain ⟨a, cap, b, off, rfl, hlc, hm, hc⟩ := hS
  unfold maxLen at hm
  have hf : Fill w lo 30 4 (.slice a l.length cap) l.length ((Iss.marks k0 l.length).flatMap Iss.enc) 0 := Fill.start (by rw [flat_len Iss.len, Iss.marks_len]) h
  unfold Own
  rw [Iss.marks_len]
  clear hc h
  go_enter Try.func17, Try.ntmps17
  go_wp2_with fail
  go_loopw [1, 5] (fun m i wr => ∃ k : Nat, k ≤ l.length ∧ i = .int .i64 k ∧ m = .int .i64 (k0 + 4 * (k : Int)) ∧ w.grownBy wr (Value.slice a l.length cap).ownBlock ∧ Fill wr lo 30 4 (.slice a l.length cap) l.length ((Iss.marks k0 l.length).flatMap Iss.enc) (k * 4)) (fun _ i _ => l.length - (intOf i).toNat)
  case atStart => exact ⟨0, Nat.zero_le _, rfl, by simp, World.grownBy.refl _ _, hf⟩
  case round =>
    obtain ⟨k, hk, rfl, rfl, hb, hfk⟩ := hrel
    by_cases hlt : k < l.length
    · obtain ⟨g, rfl⟩ := hfk.some (by omega)
      have hg := hfk.lt.2
      obtain ⟨u0, d0⟩ := hfk.cell (k * 4) (by omega)
      obtain ⟨u1, d1⟩ := hfk.cell (k * 4 + 1) (by omega)
      obtain ⟨u2, d2⟩ := hfk.cell (k * 4 + 2) (by omega)
      obtain ⟨u3, d3⟩ := hfk.cell (k * 4 + 3) (by omega)
      have z0 := hfk.frozen (k * 4)
      have z1 := hfk.frozen (k * 4 + 1)
      have z2 := hfk.frozen (k * 4 + 2)
      have z3 := hfk.frozen (k * 4 + 3)
      have hM := Iss.marks_at k0 hlt
      have f0 := flat_get Iss.len (Iss.marks k0 l.length) k 0 (by rw [Iss.marks_len]; exact hlt) (by omega)
      rw [hM] at f0
      replace f0 : Hid (((Iss.marks k0 l.length).flatMap Iss.enc)[k * 4]? = some (Value.int .i64 (k0 + 4 * (k : Int)))) := f0
      have f1 := flat_get Iss.len (Iss.marks k0 l.length) k 1 (by rw [Iss.marks_len]; exact hlt) (by omega)
      rw [hM] at f1
      replace f1 : Hid (((Iss.marks k0 l.length).flatMap Iss.enc)[k * 4 + 1]? = some (Value.int .i64 (k0 + 4 * (k : Int) + 1))) := f1
      have f2 := flat_get Iss.len (Iss.marks k0 l.length) k 2 (by rw [Iss.marks_len]; exact hlt) (by omega)
      rw [hM] at f2
      replace f2 : Hid (((Iss.marks k0 l.length).flatMap Iss.enc)[k * 4 + 2]? = some (Value.int .i64 (k0 + 4 * (k : Int) + 1 + 1))) := f2
      have f3 := flat_get Iss.len (Iss.marks k0 l.length) k 3 (by rw [Iss.marks_len]; exact hlt) (by omega)
      rw [hM] at f3
      replace f3 : Hid (((Iss.marks k0 l.length).flatMap Iss.enc)[k * 4 + 3]? = some (Value.int .i64 (k0 + 4 * (k : Int) + 1 + 1 + 1))) := f3
      clear hM
      have hb : Hid (w.grownBy wr (some g)) := hb
      go_wp2_with fail
      go_roundw
      case rel =>
        refine ⟨k + 1, by omega, by go_num, congrArg (Value.int .i64) (by omega), ?_, ?_⟩
        · exact (only_setCell (only_setCell (only_setCell (only_setCell hb.out ⟨g, k * 4, none⟩ rfl _) ⟨g, k * 4 + 1, none⟩ rfl _) ⟨g, k * 4 + 2, none⟩ rfl _) ⟨g, k * 4 + 3, none⟩ rfl _)
        · rw [show (k + 1) * 4 = k * 4 + 3 + 1 by omega]
          exact ((((hfk).step f0.out).step f1.out).step f2.out).step f3.out
      case measure => simp [intOf]; omega
    · obtain rfl : k = l.length := by omega
      have HF := Lib.hid (hfk.all (by omega))
      clear hfk
      go_wp2_with fail
      go_ret
      exact ⟨rfl, HF.out, hb⟩

set_option maxHeartbeats 400000 in
theorem heldIssueS_c (v : Value) (n : Nat) (k0 : Int) (w : World) (h : Sl w Iss.enc 4 v (Iss.marks k0 n)) (hl : n ≤ 10000000) (h0 : 0 ≤ k0) (h1 : k0 ≤ 100000000000000000) : Calls Try.prog 18 #[v, .int .i64 k0] w fun e w' =>
    e = .returned (.int .i64 (k0 + 4 * (n : Int))) ∧ w = w' := by
  obtain ⟨a, cap, b, off, rfl, hlc, hm, hc⟩ := h
  unfold maxLen at hm
  rw [Iss.marks_len] at hlc ⊢
  go_enter Try.func18, Try.ntmps18
  go_wp2_with fail
  go_loop [1, 5] (fun m i => ∃ k : Nat, k ≤ n ∧ i = .int .i64 k ∧ m = .int .i64 (k0 + 4 * (k : Int))) (fun _ i => n - (intOf i).toNat)
  case atStart => exact ⟨0, Nat.zero_le _, rfl, by simp⟩
  case round =>
    obtain ⟨k, hk, rfl, rfl⟩ := hrel
    by_cases hlt : k < n
    · have hM := Iss.marks_at k0 hlt
      obtain ⟨rfl, hbw, c0, c1, c2, c3⟩ := Iss.at hc k (by rw [Iss.marks_len]; exact hlt)
      rw [hM] at c0 c1 c2 c3
      simp only [Iss.mark] at c0 c1 c2 c3
      clear hM hc
      go_wp2_with fail
      go_round
      case rel => exact ⟨k + 1, by omega, by go_num, congrArg (Value.int .i64) (by omega)⟩
      case measure => simp [intOf]; omega
    · obtain rfl : k = n := by omega
      go_wp2_with fail
      go_ret
      exact ⟨rfl, rfl⟩

end Go.Proofs.Ythibchaiaedboaa
