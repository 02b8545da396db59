/- Chests: the law helpers, the searches in a stack, what a chest is. No condition but sizes. -/
import Derived.Test.YtkflcpfekaddpaaDoorTypes
import Derived.Test.YtkflcpfekaddpaaDoorMore
namespace Go.Proofs.YtkflcpfekaddpaaDoor
open Go.RowKit

structure Cst where
  st : Int
  key : Int
  du : Int
  la : Int
  gi : Int
def cval (c : Cst) (v : Value) : Value := .agg #[.int .i64 c.st, .int .i64 c.key, v, .int .i64 c.du, .int .i64 c.la, .int .i64 c.gi]
/-- a call that hands back a chest with a stack of its own -/
def RetCh (w : World) (c : Cst) (l : List Int) (e : Ending) (w' : World) : Prop := ∃ v, e = .returned (cval c v) ∧ Own w' w.heap.size 3 IntE.enc 1 v l ∧ Below w.heap.size w w'

set_option maxHeartbeats 400000 in
theorem szChest_c (c : Cst) (a : Option Addr) (n cap : Nat) (left : Int) (w : World) (hn : n ≤ maxLen) (h0 : 0 ≤ left) (h1 : left ≤ 1048576) : Calls Tryd.prog 32 #[cval c (.slice a n cap), .int .i64 left] w fun e w' =>
    e = .returned (.int .i64 (szN left n)) ∧ Below w.heap.size w w' := by
  have H := Lib.hid (fun w => szIntS_c a n cap left w hn h0 h1)
  rcases szN_or left n with e | ⟨hp, hq, hr⟩
  · rw [e] at H ⊢
    clear e
    unfold cval
    go_enter Tryd.func32, Tryd.ntmps32
    go_wp2_with (go_at_call 90; refine (H.out _).mono ?_; rintro e w' ⟨rfl, rfl⟩)
    go_ret
    exact ⟨rfl, by go_grown⟩
  · generalize szN left n = r at H hp hq ⊢
    unfold cval
    go_enter Tryd.func32, Tryd.ntmps32
    go_wp2_with (go_at_call 90; refine (H.out _).mono ?_; rintro e w' ⟨rfl, rfl⟩)
    go_ret
    exact ⟨rfl, by go_grown⟩
set_option maxHeartbeats 400000 in
theorem toChest_c (c : Cst) (v : Value) (l : List Int) (w : World) (h : Sl w IntE.enc 1 v l) (hl : l.length ≤ 1048576) : Calls Tryd.prog 34 #[cval c v] w (RetCh w c l) := by
  have hs := h
  obtain ⟨a, cap, b, off, rfl, _, _, _⟩ := hs
  have h0 := Lib.hid h
  clear h
  unfold cval
  go_enter Tryd.func34, Tryd.ntmps34
  go_wp2_with fail
  refine (toIntS_c _ l _ (h0.out.mono (btrans (below_alloc _ _) (btrans (below_alloc _ _) (below_alloc _ _)))) hl).mono ?_
  rintro e w1 ⟨v1, rfl, o1, b1⟩
  have hv := o1.sl IntE.len
  obtain ⟨a1, cap1, b1', off1, rfl, _, _, _⟩ := hv
  obtain ⟨p, rfl⟩ := ext_of_below b1
  go_wp2
  go_returns
  refine ⟨_, rfl, (o1.rebase (by simp) (by simp)).lower (by simp; omega), ?_⟩
  exact bext (btrans (below_alloc _ _) (btrans (below_alloc _ _) (below_alloc _ _))) (by simp; omega) _
set_option maxHeartbeats 400000 in
theorem eqChest_c (c : Cst) (v v' : Value) (l : List Int) (w : World) (h : Sl w IntE.enc 1 v l) (h' : Sl w IntE.enc 1 v' l) : Calls Tryd.prog 36 #[cval c v, cval c v'] w fun e w' => e = .returned (.bool true) ∧ Below w.heap.size w w' := by
  have hs := h
  obtain ⟨a, cap, b, off, rfl, _, _, _⟩ := hs
  have hs' := h'
  obtain ⟨a', cap', b', off', rfl, _, _, _⟩ := hs'
  have h0 := Lib.hid h
  have h0' := Lib.hid h'
  clear h h'
  unfold cval
  go_enter Tryd.func36, Tryd.ntmps36
  go_wp2_with (go_at_call 94; refine (eqIntS_c _ _ l _ (h0.out.mono (btrans (below_alloc _ _) (below_alloc _ _))) (h0'.out.mono (btrans (below_alloc _ _) (below_alloc _ _)))).mono ?_; rintro e w' ⟨rfl, hbq⟩; obtain ⟨p, rfl⟩ := ext_of_below hbq; clear hbq)
  go_ret
  exact ⟨rfl, bext (btrans (below_alloc _ _) (below_alloc _ _)) (by simp; omega) _⟩

/-! ### searches -/
set_option maxHeartbeats 400000 in
theorem l21Find_c (v : Value) (l : List Int) (s : Int) (w : World) (h : Sl w IntE.enc 1 v l) : Calls Tryd.prog 132 #[v, .int .i64 s] w fun e w' => e = .returned (.int .i64 (idxInt (findTo (fun i => gd l i == s) l.length))) ∧ w = w' := by
  obtain ⟨a, cap, b, off, rfl, hlc, hm, hc⟩ := h
  unfold maxLen at hm
  go_enter Tryd.func132, Tryd.ntmps132
  go_wp2_with fail
  go_loop [5] (fun i => ∃ k : Nat, k ≤ l.length ∧ i = .int .i64 k ∧ Hid (∀ i, i < k → (gd l i == s) = false)) (fun i => l.length - (intOf i).toNat)
  case atStart => exact ⟨0, Nat.zero_le _, rfl, fun i hi => by omega⟩
  case round =>
    obtain ⟨k, hk, rfl, hall⟩ := hrel
    by_cases hlt : k < l.length
    · obtain ⟨rfl, hbw, c0⟩ := IntE.at hc k hlt
      cases hq : gd l k == s
      · go_wp2_with fail
        go_round
        case rel => exact ⟨k + 1, by omega, by go_num, upto_succ hall.out hq⟩
        case measure => simp [intOf]; omega
      · have he := Lib.hid (findTo_some (f := fun i => gd l i == s) hall.out hq hlt)
        go_wp2_with fail
        go_ret
        exact ⟨ret_int (by rw [he.out]; rfl), rfl⟩
    · obtain rfl : k = l.length := by omega
      have he := Lib.hid (findTo_none (f := fun i => gd l i == s) hall.out)
      go_wp2_with fail
      go_ret
      exact ⟨ret_int (by rw [he.out]; rfl), rfl⟩
set_option maxHeartbeats 400000 in
theorem index_c (v : Value) (l : List Int) (s : Int) (w : World) (h : Sl w IntE.enc 1 v l) : Calls Tryd.prog 157 #[v, .int .i64 s] w fun e w' => e = .returned (.int .i64 (idxInt (findTo (fun i => gd l i == s) l.length))) ∧ w = w' := by
  obtain ⟨a, cap, b, off, rfl, hlc, hm, hc⟩ := h
  unfold maxLen at hm
  go_enter Tryd.func157, Tryd.ntmps157
  go_wp2_with fail
  go_loop [8] (fun i => ∃ k : Nat, k ≤ l.length ∧ i = .int .i64 k ∧ Hid (∀ i, i < k → (gd l i == s) = false)) (fun i => l.length - (intOf i).toNat)
  case atStart => exact ⟨0, Nat.zero_le _, rfl, fun i hi => by omega⟩
  case round =>
    obtain ⟨k, hk, rfl, hall⟩ := hrel
    by_cases hlt : k < l.length
    · obtain ⟨rfl, hbw, c0⟩ := IntE.at hc k hlt
      cases hq : gd l k == s
      · have hq2 : (s == gd l k) = false := by rw [← hq]; exact Bool.beq_comm
        go_wp2_with fail
        go_round
        case rel => exact ⟨k + 1, by omega, by go_num, upto_succ hall.out hq⟩
        case measure => simp [intOf]; omega
      · have hq2 : (s == gd l k) = true := by rw [← hq]; exact Bool.beq_comm
        have he := Lib.hid (findTo_some (f := fun i => gd l i == s) hall.out hq hlt)
        go_wp2_with fail
        go_ret
        exact ⟨ret_int (by rw [he.out]; rfl), rfl⟩
    · obtain rfl : k = l.length := by omega
      have he := Lib.hid (findTo_none (f := fun i => gd l i == s) hall.out)
      go_wp2_with fail
      go_ret
      exact ⟨ret_int (by rw [he.out]; rfl), rfl⟩
theorem contains_c (v : Value) (l : List Int) (s : Int) (w : World) (h : Sl w IntE.enc 1 v l) : Calls Tryd.prog 133 #[v, .int .i64 s] w fun e w' => e = .returned (.bool (findTo (fun i => gd l i == s) l.length).isSome) ∧ w = w' := by
  have H := Lib.hid (index_c v l s w h)
  clear h
  cases ho : findTo (fun i => gd l i == s) l.length
  all_goals
    rw [ho] at H
    clear ho
    go_enter Tryd.func133, Tryd.ntmps133
    go_wp2_with fail
    refine H.out.mono ?_
    rintro e w' ⟨rfl, rfl⟩
    simp only [idxInt]
    go_wp2_with fail
    go_ret
    exact ⟨rfl, rfl⟩
end Go.Proofs.YtkflcpfekaddpaaDoor
