/- Clones: slices.Clone and l1Own at slices of numbers, of strings. No condition but sizes. -/
import Derived.Test.YteainpflmofjaaaDoorNst
import Derived.Test.YteainpflmofjaaaDoorCat
import Derived.Lib.SliceRun
namespace Go.Proofs.YteainpflmofjaaaDoor
open Go.RowKit
theorem IntE.one (x : Int) : ∀ u ∈ IntE.enc x, u.oneCell' = true := fun u hu => by simp [IntE.enc] at hu; subst hu; rfl
set_option maxHeartbeats 1000000 in
theorem cloneStr_c (v : Value) (l : List ByteArray) (w : World) (h : Sl w StrE.enc 1 v l) (hl : l.length ≤ 10000000) : Calls Tryd.prog 43 #[v] w (RetOwn w 9 StrE.enc 1 l) := by
  obtain ⟨i, hi, hz0, hz1, hz2⟩ := info_parts (show (Tryd.prog.info? 9).map (fun i => (i.zero, i.size, i.bytes)) = some (some (.string ByteArray.empty), 1, 16) by kernel_rfl)
  have hq : ∀ (w : World) (a : Option Addr) (n c n' c' : Nat), (binOp .eql 22 (.slice a n c) (.slice none n' c')).run Tryd.prog w = .ok (.bool a.isNone) w := fun w a n c n' c' => Lib.run_eql_slice_nil w _ _ a n c n' c' Tryd.underlying22
  have h0 := h
  obtain ⟨a, cap, b, off, rfl, hlc, hm, hc⟩ := h0
  rcases a with _ | a
  · have hl0 : l = [] := by
      cases l with
      | nil => rfl
      | cons x l => have := (hc 0 (by simp)).1; cases this
    subst hl0
    go_enter Tryd.func43, Tryd.ntmps43
    go_wp2_with fail
    go_ret
    exact ⟨_, rfl, Own.nil _ _ _ _ _, Below.refl _ _⟩
  · go_enter Tryd.func43, Tryd.ntmps43
    go_wp2_with (at_builtin; refine wpList_cat StrE.len StrE.one rfl _ _ 22 rfl w.heap.size 9 i _ 16 Tryd.underlying22 hi hz0 hz1 hz2 rfl (by omega) _ [] rfl (Own.empty w _ _ _ _ (Nat.le_refl _)) _ l rfl (h.mono (below_alloc _ _)) (by simp [maxLen]; omega) (by simp; omega) (by simp) ?_)
    intro v' w' h2 h3
    go_wp2_with fail
    go_ret
    exact ⟨v', rfl, by simpa using h2, (below_alloc _ _).grown h3 (by simp) (fun g hg => (Own.empty w w.heap.size 9 StrE.enc 1 (Nat.le_refl _)).bounds g hg |>.1)⟩
set_option maxHeartbeats 1000000 in
theorem cloneEnt_c (v : Value) (l : List Ent) (w : World) (h : Sl w Ent.enc 6 v l) (hl : l.length ≤ 10000000) : Calls Tryd.prog 60 #[v] w (RetOwn w 51 Ent.enc 6 l) := by
  obtain ⟨i, hi, hz0, hz1, hz2⟩ := info_parts (show (Tryd.prog.info? 51).map (fun i => (i.zero, i.size, i.bytes)) = some (some (.agg #[.int .i64 0, .string ByteArray.empty, .string ByteArray.empty, .int .i64 0, .int .i64 0, .slice none 0 0]), 6, 80) by kernel_rfl)
  have hq : ∀ (w : World) (a : Option Addr) (n c n' c' : Nat), (binOp .eql 35 (.slice a n c) (.slice none n' c')).run Tryd.prog w = .ok (.bool a.isNone) w := fun w a n c n' c' => Lib.run_eql_slice_nil w _ _ a n c n' c' Tryd.underlying35
  have h0 := h
  obtain ⟨a, cap, b, off, rfl, hlc, hm, hc⟩ := h0
  rcases a with _ | a
  · have hl0 : l = [] := by
      cases l with
      | nil => rfl
      | cons x l => have := (hc 0 (by simp)).1; cases this
    subst hl0
    go_enter Tryd.func60, Tryd.ntmps60
    go_wp2_with fail
    go_ret
    exact ⟨_, rfl, Own.nil _ _ _ _ _, Below.refl _ _⟩
  · go_enter Tryd.func60, Tryd.ntmps60
    go_wp2_with (at_builtin; refine wpList_cat Ent.len Ent.one rfl _ _ 35 rfl w.heap.size 51 i _ 80 Tryd.underlying35 hi hz0 hz1 hz2 rfl (by omega) _ [] rfl (Own.empty w _ _ _ _ (Nat.le_refl _)) _ l rfl (h.mono (below_alloc _ _)) (by simp [maxLen]; omega) (by simp; omega) (by simp) ?_)
    intro v' w' h2 h3
    go_wp2_with fail
    go_ret
    exact ⟨v', rfl, by simpa using h2, (below_alloc _ _).grown h3 (by simp) (fun g hg => (Own.empty w w.heap.size 51 Ent.enc 6 (Nat.le_refl _)).bounds g hg |>.1)⟩
end Go.Proofs.YteainpflmofjaaaDoor
