/- Clashes as results: comparison, marks, the look at marks. No condition but sizes. -/
import Derived.Test.YteainpflmofjaaaDoorAl25
import Derived.Test.YteainpflmofjaaaDoorNst
namespace Go.Proofs.YteainpflmofjaaaDoor
open Go.RowKit
theorem Cls.at {w : World} {a : Option Addr} {b off : Nat} {l : List Cls} (h : Cells w Cls.enc 3 a b off l) (i : Nat) (hi : i < l.length) : a = some ⟨b, off, none⟩ ∧ b < w.heap.size ∧
    w.cell? ⟨b, off + i * 3, none⟩ = some (.int .i64 (gd l i).f) ∧
    w.cell? ⟨b, off + i * 3 + 1, none⟩ = some (.string (gd l i).x) ∧
    w.cell? ⟨b, off + i * 3 + 2, none⟩ = some (.string (gd l i).y) := by
  obtain ⟨ha, hb, c⟩ := h i hi
  exact ⟨ha, hb, c 0 _ rfl, c 1 _ rfl, c 2 _ rfl⟩
def Cls.mark (k : Int) : Cls := ⟨k, markT (k + 1), markT (k + 1 + 1)⟩
def Cls.marks (k0 : Int) (n : Nat) : List Cls := (List.range n).map fun (i : Nat) => Cls.mark (k0 + 3 * (i : Int))
theorem Cls.marks_len (k0 : Int) (n : Nat) : (Cls.marks k0 n).length = n := by simp [Cls.marks]
theorem Cls.marks_at (k0 : Int) {n i : Nat} (h : i < n) : gd (Cls.marks k0 n) i = Cls.mark (k0 + 3 * (i : Int)) := by simp [Cls.marks, gd, h]
set_option maxHeartbeats 1000000 in
theorem eqClash_c (x : Cls) (w : World) : Calls Tryd.prog 54 #[.agg #[.int .i64 x.f, .string x.x, .string x.y], .agg #[.int .i64 x.f, .string x.x, .string x.y]] w fun e w' => e = .returned (.bool true) ∧ Below w.heap.size w w' := by
  go_enter Tryd.func54, Tryd.ntmps54
  go_wp2
  go_ret
  exact ⟨rfl, by go_grown⟩
set_option maxHeartbeats 1000000 in
theorem eqClashS_c (v v' : Value) (l : List Cls) (w : World) (h : Sl w Cls.enc 3 v l) (h' : Sl w Cls.enc 3 v' l) : Calls Tryd.prog 15 #[v, v'] w fun e w' => e = .returned (.bool true) ∧ Below w.heap.size w w' := by
  obtain ⟨a, cap, b, off, rfl, hlc, hm, hc⟩ := h
  obtain ⟨a', cap', b', off', rfl, hlc', hm', hc'⟩ := h'
  unfold maxLen at hm hm'
  go_enter Tryd.func15, Tryd.ntmps15
  go_wp2_with fail
  go_loopw [5] (fun i wr => ∃ k : Nat, k ≤ l.length ∧ i = .int .i64 k ∧ Below w.heap.size w wr) (fun i _ => l.length - (intOf i).toNat)
  case atStart => exact ⟨0, Nat.zero_le _, rfl, Below.refl _ _⟩
  case round =>
    obtain ⟨k, hk, rfl, hb⟩ := hrel
    by_cases hlt : k < l.length
    · obtain ⟨rfl, hbw, c0, c1, c2⟩ := Cls.at (hc.mono hb) k hlt
      obtain ⟨rfl, hbw', d0, d1, d2⟩ := Cls.at (hc'.mono hb) k hlt
      go_wp2_with fail
      refine wp_region_ext (by kernel_rfl) (by kernel_rfl) ?_
      repeat (any_goals (first | go_big_quiet_step ((go_at_call 54; exact Calls.ext_of (eqClash_c _ _)))))
      (refine wpQuiet_nil ?_)
      (rintro _ ⟨q, rfl⟩)
      go_wp2_with fail
      go_roundw
      case rel => exact ⟨k + 1, by omega, by go_num, bext hb hb.size _⟩
      case measure => simp [intOf]; omega
    · go_wp2_with fail
      go_ret
      exact ⟨rfl, hb⟩
set_option maxHeartbeats 2000000 in
theorem markClashS_c (v : Value) (l : List Cls) (k0 : Int) (w : World) (lo : Nat) (h : Own w lo 81 Cls.enc 3 v l) (hl : l.length ≤ 10000000) (h0 : 0 < k0) (h1 : k0 ≤ 100000000000000000) : Calls Tryd.prog 18 #[v, .int .i64 k0] w fun e w' =>
    e = .returned (.int .i64 (k0 + 3 * (l.length : Int))) ∧ Own w' lo 81 Cls.enc 3 v (Cls.marks k0 l.length) ∧ w.grownBy w' v.ownBlock := by
  have hS := h.sl Cls.len
  obtain ⟨a, cap, b, off, rfl, hlc, hm, hc⟩ := hS
  unfold maxLen at hm
  have hf : Fill w lo 81 3 (.slice a l.length cap) l.length ((Cls.marks k0 l.length).flatMap Cls.enc) 0 := Fill.start (by rw [flat_len Cls.len, Cls.marks_len]) h
  unfold Own
  rw [Cls.marks_len]
  clear hc h
  go_enter Tryd.func18, Tryd.ntmps18
  go_wp2_with fail
  go_loopw [1, 5] (fun m i wr => ∃ k : Nat, k ≤ l.length ∧ i = .int .i64 k ∧ m = .int .i64 (k0 + 3 * (k : Int)) ∧ w.grownBy wr (Value.slice a l.length cap).ownBlock ∧ Fill wr lo 81 3 (.slice a l.length cap) l.length ((Cls.marks k0 l.length).flatMap Cls.enc) (k * 3)) (fun _ i _ => l.length - (intOf i).toNat)
  case atStart => exact ⟨0, Nat.zero_le _, rfl, by simp, World.grownBy.refl _ _, hf⟩
  case round =>
    obtain ⟨k, hk, rfl, rfl, hb, hfk⟩ := hrel
    by_cases hlt : k < l.length
    · obtain ⟨g, rfl⟩ := hfk.some (by omega)
      have hg := hfk.lt.2
      obtain ⟨u0, d0⟩ := hfk.cell (k * 3) (by omega)
      obtain ⟨u1, d1⟩ := hfk.cell (k * 3 + 1) (by omega)
      obtain ⟨u2, d2⟩ := hfk.cell (k * 3 + 2) (by omega)
      have z0 := hfk.frozen (k * 3)
      have z1 := hfk.frozen (k * 3 + 1)
      have z2 := hfk.frozen (k * 3 + 2)
      have hM := Cls.marks_at k0 hlt
      have f0 := flat_get Cls.len (Cls.marks k0 l.length) k 0 (by rw [Cls.marks_len]; exact hlt) (by omega)
      rw [hM] at f0
      replace f0 : Hid (((Cls.marks k0 l.length).flatMap Cls.enc)[k * 3]? = some (Value.int .i64 (k0 + 3 * (k : Int)))) := f0
      have f1 := flat_get Cls.len (Cls.marks k0 l.length) k 1 (by rw [Cls.marks_len]; exact hlt) (by omega)
      rw [hM] at f1
      replace f1 : Hid (((Cls.marks k0 l.length).flatMap Cls.enc)[k * 3 + 1]? = some (Value.string (markT (k0 + 3 * (k : Int) + 1)))) := f1
      have f2 := flat_get Cls.len (Cls.marks k0 l.length) k 2 (by rw [Cls.marks_len]; exact hlt) (by omega)
      rw [hM] at f2
      replace f2 : Hid (((Cls.marks k0 l.length).flatMap Cls.enc)[k * 3 + 2]? = some (Value.string (markT (k0 + 3 * (k : Int) + 1 + 1)))) := f2
      clear hM
      have hb : Hid (w.grownBy wr (some g)) := hb
      go_wp2_with (go_at_call 56; refine (markText_c _ _ (by omega) (by omega)).mono ?_; rintro e w' ⟨rfl, hbq⟩; obtain ⟨p, rfl⟩ := ext_of_below hbq; clear hbq)
      go_roundw
      case rel =>
        refine ⟨k + 1, by omega, by go_num, congrArg (Value.int .i64) (by omega), ?_, ?_⟩
        · exact only_trans (only_trans (only_setCell (only_setCell (only_setCell hb.out ⟨g, k * 3, none⟩ rfl _) ⟨g, k * 3 + 1, none⟩ rfl _) ⟨g, k * 3 + 2, none⟩ rfl _) (only_of_below (below_ext _ _) _)) (only_of_below (below_ext _ _) _)
        · rw [show (k + 1) * 3 = k * 3 + 2 + 1 by omega]
          exact ((((hfk.step f0.out).step f1.out).step f2.out).mono (below_ext _ _)).mono (below_ext _ _)
      case measure => simp [intOf]; omega
    · obtain rfl : k = l.length := by omega
      have HF := Lib.hid (hfk.all (by omega))
      clear hfk
      go_wp2_with fail
      go_ret
      exact ⟨rfl, HF.out, hb⟩
set_option maxHeartbeats 2000000 in
theorem heldClashS_c (v : Value) (n : Nat) (k0 : Int) (w : World) (h : Sl w Cls.enc 3 v (Cls.marks k0 n)) (hl : n ≤ 10000000) (h0 : 0 < k0) (h1 : k0 ≤ 100000000000000000) : Calls Tryd.prog 19 #[v, .int .i64 k0] w fun e w' =>
    e = .returned (.int .i64 (k0 + 3 * (n : Int))) ∧ Below w.heap.size w w' := by
  obtain ⟨a, cap, b, off, rfl, hlc, hm, hc⟩ := h
  unfold maxLen at hm
  rw [Cls.marks_len] at hlc ⊢
  go_enter Tryd.func19, Tryd.ntmps19
  go_wp2_with fail
  go_loopw [1, 5] (fun m i wr => ∃ k : Nat, k ≤ n ∧ i = .int .i64 k ∧ m = .int .i64 (k0 + 3 * (k : Int)) ∧ Below w.heap.size w wr) (fun _ i _ => n - (intOf i).toNat)
  case atStart => exact ⟨0, Nat.zero_le _, rfl, by simp, Below.refl _ _⟩
  case round =>
    obtain ⟨k, hk, rfl, rfl, hb⟩ := hrel
    by_cases hlt : k < n
    · have hM := Cls.marks_at k0 hlt
      obtain ⟨rfl, hbw, c0, c1, c2⟩ := Cls.at (hc.mono hb) k (by rw [Cls.marks_len]; exact hlt)
      rw [hM] at c0 c1 c2
      simp only [Cls.mark] at c0 c1 c2
      clear hM hc
      go_wp2_with fail
      refine wp_region_ext (by kernel_rfl) (by kernel_rfl) ?_
      repeat (any_goals (first | go_big_quiet_step ((go_at_call 56; exact Calls.ext_of (markText_c _ _ (by omega) (by omega))))))
      (refine wpQuiet_nil ?_)
      (rintro _ ⟨q, rfl⟩)
      go_wp2_with fail
      refine wp_region_ext (by kernel_rfl) (by kernel_rfl) ?_
      repeat (any_goals (first | go_big_quiet_step ((go_at_call 56; exact Calls.ext_of (markText_c _ _ (by omega) (by omega))))))
      (refine wpQuiet_nil ?_)
      (rintro _ ⟨q, rfl⟩)
      go_wp2_with fail
      go_roundw
      case rel => exact ⟨k + 1, by omega, by go_num, congrArg (Value.int .i64) (by omega), bext (bext hb hb.size _) (by have := hb.size; simp; omega) _⟩
      case measure => simp [intOf]; omega
    · obtain rfl : k = n := by omega
      go_wp2_with fail
      go_ret
      exact ⟨rfl, hb⟩
end Go.Proofs.YteainpflmofjaaaDoor
