/- Chests: what a valid chest is, by the program and by the reference. No condition but what a slice may hold. -/
import Derived.Test.YtkflcpfekaddpaaDoorCh21
import Derived.Test.YtkflcpfekaddpaaDoorBnd
namespace Go.Proofs.YtkflcpfekaddpaaDoor
open Go.RowKit
def stkAt (l : List Int) (k : Nat) : Bool := inB (gd l k) 1 999 && !(findTo (fun i => gd l i == gd l k) k).isSome
def keyB (c : Cst) : Bool := if c.st = 2 then inB c.key 1 9999 else c.key == 0
def tailB (c : Cst) (n : Nat) : Bool := inB c.st 0 2 && keyB c && decide (n ≤ 10) && inB c.du 0 100 && inB c.la 0 9999 && inB c.gi 0 9999 && (c.la - c.gi == (n : Int))
def areCh (c : Cst) (l : List Int) : Bool := allTo (stkAt l) l.length && tailB c l.length
theorem areCh_no {c : Cst} {l : List Int} (k : Nat) (hk : k < l.length) (h : stkAt l k = false) : areCh c l = false := by simp [areCh, allTo_false k hk h]
theorem areCh_end {c : Cst} {l : List Int} (h : ∀ i, i < l.length → stkAt l i = true) : areCh c l = tailB c l.length := by simp [areCh, allTo_true h]
theorem areCh_long {c : Cst} {l : List Int} (h : ¬ l.length ≤ 10) : areCh c l = false := by simp [areCh, tailB, h]
theorem find_take (l : List Int) (k : Nat) (s : Int) (hk : k ≤ l.length) : findTo (fun i => gd (l.take k) i == s) (l.take k).length = findTo (fun i => gd l i == s) k := by
  have hl : (l.take k).length = k := by simp; omega
  rw [hl]
  have : ∀ n, n ≤ k → findTo (fun i => gd (l.take k) i == s) n = findTo (fun i => gd l i == s) n := by
    intro n
    induction n with
    | zero => intro _; rfl
    | succ n ih => intro h; simp only [findTo]; rw [ih (by omega)]; simp only [gd_take (show n < k by omega)]
  exact this k (Nat.le_refl _)
/-- the first place of what stands at k is k itself where it stands at no place ahead -/
theorem find_self (l : List Int) (k : Nat) (hk : k < l.length) : (idxInt (findTo (fun i => gd l i == gd l k) l.length) != (k : Int)) = (findTo (fun i => gd l i == gd l k) k).isSome := by
  cases h : findTo (fun i => gd l i == gd l k) k with
  | none =>
    have := findTo_some (f := fun i => gd l i == gd l k) (k := k) (findTo_none_spec h) (by simp) hk
    rw [this]; simp [idxInt]
  | some j =>
    obtain ⟨h1, h2, h3⟩ := findTo_spec h
    rw [findTo_some (f := fun i => gd l i == gd l k) (k := j) h3 h2 (by omega)]
    simp [idxInt]; omega
set_option maxHeartbeats 2000000 in
theorem isChest_c (c : Cst) (v : Value) (l : List Int) (w : World) (h : Sl w IntE.enc 1 v l) : Calls Tryd.prog 93 #[cval c v] w fun e w' => e = .returned (.bool (areCh c l)) ∧ Below w.heap.size w w' := by
  have h0 := h
  obtain ⟨a, cap, b, off, rfl, hlc, hm, hc⟩ := h
  unfold maxLen at hm
  unfold cval
  go_enter Tryd.func93, Tryd.ntmps93
  go_wp2_with fail
  go_loopw [9] (fun i wr => ∃ k : Nat, k ≤ l.length ∧ i = .int .i64 k ∧ Hid (∀ i, i < k → stkAt l i = true) ∧ Hid (BoxAt wr w.heap.size [.int .i64 c.st, .int .i64 c.key, .slice a l.length cap, .int .i64 c.du, .int .i64 c.la, .int .i64 c.gi]) ∧ Below w.heap.size w wr) (fun i _ => l.length - (intOf i).toNat)
  case atStart => exact ⟨0, Nat.zero_le _, rfl, fun i hi => by omega, BoxAt.new _ _ _, below_alloc _ _⟩
  case round =>
    obtain ⟨k, hk, rfl, hall, hbx, hb⟩ := hrel
    obtain ⟨hB, y0, y1, y2, y3, y4, y5⟩ : w.heap.size < wr.heap.size ∧ wr.cell? ⟨_, 0, none⟩ = some (.int .i64 c.st) ∧ wr.cell? ⟨_, 1, none⟩ = some (.int .i64 c.key) ∧ wr.cell? ⟨_, 2, none⟩ = some (.slice a l.length cap) ∧ wr.cell? ⟨_, 3, none⟩ = some (.int .i64 c.du) ∧ wr.cell? ⟨_, 4, none⟩ = some (.int .i64 c.la) ∧ wr.cell? ⟨_, 5, none⟩ = some (.int .i64 c.gi) :=
      ⟨hbx.out.1, hbx.out.2 0 _ rfl, hbx.out.2 1 _ rfl, hbx.out.2 2 _ rfl, hbx.out.2 3 _ rfl, hbx.out.2 4 _ rfl, hbx.out.2 5 _ rfl⟩
    by_cases hlt : k < l.length
    · obtain ⟨ha, hbw, c0⟩ := IntE.at (hc.mono hb) k hlt
      subst ha
      have hT := Lib.hid ((h0.mono hb).take (n := k) (by omega))
      have hC := Lib.hid (fun W (h : Sl W IntE.enc 1 (.slice (some ⟨b, off, none⟩) k cap) (l.take k)) => contains_c _ (l.take k) (gd l k) W h)
      rw [find_take l k (gd l k) hk] at hC
      cases h1 : inB (gd l k) 1 999
      · have ho : Hid (stkAt l k = false) := by show _ = _; simp [stkAt, h1]
        go_wp2_with (go_at_call 79; refine (isId_c _ _).mono ?_; rintro e w' ⟨rfl, rfl⟩)
        go_ret
        exact ⟨ret_bool (areCh_no k hlt ho.out).symm, hb⟩
      · cases h2 : (findTo (fun i => gd l i == gd l k) k).isSome
        all_goals
          rw [h2] at hC
          have ho : Hid (stkAt l k = _) := (show stkAt l k = (_ && !_) by rw [stkAt, h1, h2])
          clear h2
          go_wp2_with (first | (go_at_call 79; refine (isId_c _ _).mono ?_; rintro e w' ⟨rfl, rfl⟩) | (go_at_call 133; refine (hC.out _ hT.out).mono ?_; rintro e w' ⟨rfl, rfl⟩))
        · go_roundw
          case rel => exact ⟨k + 1, by omega, by go_num, upto_succ hall.out ho.out, hbx, hb⟩
          case measure => simp [intOf]; omega
        · go_ret
          exact ⟨ret_bool (areCh_no k hlt ho.out).symm, hb⟩
    · obtain rfl : k = l.length := by omega
      have he := Lib.hid (areCh_end (c := c) hall.out)
      clear hall hc h0
      cases h1 : inB c.la 0 9999 <;> cases h2 : inB c.gi 0 9999
      case true.true =>
        obtain ⟨q1, q2⟩ := inB_iff.1 h1
        obtain ⟨q3, q4⟩ := inB_iff.1 h2
        go_wp2_with (first | (go_at_call 89; refine (within_c _ _ _ _).mono ?_; rintro e w' ⟨rfl, rfl⟩) | (go_at_call 134; refine (isKey_c _ _).mono ?_; rintro e w' ⟨rfl, rfl⟩) | (go_at_call 135; refine (isCounted_c _ _).mono ?_; rintro e w' ⟨rfl, rfl⟩))
        all_goals go_ret
        all_goals refine ⟨ret_bool ?_, hb⟩
        all_goals rw [he.out]
        all_goals first | (simp_all [tailB, keyB]; done) | (simp_all [tailB, keyB]; intros; omega) | (simp_all [tailB, keyB]; omega)
      all_goals
        go_wp2_with (first | (go_at_call 89; refine (within_c _ _ _ _).mono ?_; rintro e w' ⟨rfl, rfl⟩) | (go_at_call 134; refine (isKey_c _ _).mono ?_; rintro e w' ⟨rfl, rfl⟩) | (go_at_call 135; refine (isCounted_c _ _).mono ?_; rintro e w' ⟨rfl, rfl⟩))
        all_goals go_ret
        all_goals refine ⟨ret_bool ?_, hb⟩
        all_goals rw [he.out]
        all_goals first | (simp_all [tailB, keyB]; done) | (simp_all [tailB, keyB]; intros; omega) | (simp_all [tailB, keyB]; omega)
end Go.Proofs.YtkflcpfekaddpaaDoor
