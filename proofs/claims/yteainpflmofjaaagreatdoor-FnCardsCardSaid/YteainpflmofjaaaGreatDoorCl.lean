/- Clones: slices.Clone and l1Own at slices of numbers, of strings. No condition but sizes. -/
import Derived.Test.YteainpflmofjaaaGreatDoorNst
import Derived.Test.YteainpflmofjaaaGreatDoorCat
import Derived.Lib.SliceRun
namespace Go.Proofs.YteainpflmofjaaaGreatDoor
open Go.RowKit
theorem IntE.one (x : Int) : ∀ u ∈ IntE.enc x, u.oneCell' = true := fun u hu => by simp [IntE.enc] at hu; subst hu; rfl
set_option maxHeartbeats 1000000 in
theorem cloneStr_c (v : Value) (l : List ByteArray) (w : World) (h : Sl w StrE.enc 1 v l) (hl : l.length ≤ 10000000) : Calls Tryz.prog 54 #[v] w (RetOwn w 9 StrE.enc 1 l) := by
  obtain ⟨i, hi, hz0, hz1, hz2⟩ := info_parts (show (Tryz.prog.info? 9).map (fun i => (i.zero, i.size, i.bytes)) = some (some (.string ByteArray.empty), 1, 16) by kernel_rfl)
  have hq : ∀ (w : World) (a : Option Addr) (n c n' c' : Nat), (binOp .eql 25 (.slice a n c) (.slice none n' c')).run Tryz.prog w = .ok (.bool a.isNone) w := fun w a n c n' c' => Lib.run_eql_slice_nil w _ _ a n c n' c' Tryz.underlying25
  have h0 := h
  obtain ⟨a, cap, b, off, rfl, hlc, hm, hc⟩ := h0
  rcases a with _ | a
  · have hl0 : l = [] := by
      cases l with
      | nil => rfl
      | cons x l => have := (hc 0 (by simp)).1; cases this
    subst hl0
    go_enter Tryz.func54, Tryz.ntmps54
    go_wp2_with fail
    go_ret
    exact ⟨_, rfl, Own.nil _ _ _ _ _, Below.refl _ _⟩
  · go_enter Tryz.func54, Tryz.ntmps54
    go_wp2_with (at_builtin; refine wpList_cat StrE.len StrE.one rfl _ _ 25 rfl w.heap.size 9 i _ 16 Tryz.underlying25 hi hz0 hz1 hz2 rfl (by omega) _ [] rfl (Own.empty w _ _ _ _ (Nat.le_refl _)) _ l rfl (h.mono (below_alloc _ _)) (by simp [maxLen]; omega) (by simp; omega) (by simp) ?_)
    intro v' w' h2 h3
    go_wp2_with fail
    go_ret
    exact ⟨v', rfl, by simpa using h2, (below_alloc _ _).grown h3 (by simp) (fun g hg => (Own.empty w w.heap.size 9 StrE.enc 1 (Nat.le_refl _)).bounds g hg |>.1)⟩
set_option maxHeartbeats 1000000 in
theorem cloneCrd_c (v : Value) (l : List Crd) (w : World) (h : Sl w Crd.enc 3 v l) (hl : l.length ≤ 10000000) : Calls Tryz.prog 68 #[v] w (RetOwn w 34 Crd.enc 3 l) := by
  obtain ⟨i, hi, hz0, hz1, hz2⟩ := info_parts (show (Tryz.prog.info? 34).map (fun i => (i.zero, i.size, i.bytes)) = some (some (.agg #[.int .i64 0, .int .i64 0, .slice none 0 0]), 3, 40) by kernel_rfl)
  have hq : ∀ (w : World) (a : Option Addr) (n c n' c' : Nat), (binOp .eql 24 (.slice a n c) (.slice none n' c')).run Tryz.prog w = .ok (.bool a.isNone) w := fun w a n c n' c' => Lib.run_eql_slice_nil w _ _ a n c n' c' Tryz.underlying24
  have h0 := h
  obtain ⟨a, cap, b, off, rfl, hlc, hm, hc⟩ := h0
  rcases a with _ | a
  · have hl0 : l = [] := by
      cases l with
      | nil => rfl
      | cons x l => have := (hc 0 (by simp)).1; cases this
    subst hl0
    go_enter Tryz.func68, Tryz.ntmps68
    go_wp2_with fail
    go_ret
    exact ⟨_, rfl, Own.nil _ _ _ _ _, Below.refl _ _⟩
  · go_enter Tryz.func68, Tryz.ntmps68
    go_wp2_with (at_builtin; refine wpList_cat Crd.len Crd.one rfl _ _ 24 rfl w.heap.size 34 i _ 40 Tryz.underlying24 hi hz0 hz1 hz2 rfl (by omega) _ [] rfl (Own.empty w _ _ _ _ (Nat.le_refl _)) _ l rfl (h.mono (below_alloc _ _)) (by simp [maxLen]; omega) (by simp; omega) (by simp) ?_)
    intro v' w' h2 h3
    go_wp2_with fail
    go_ret
    exact ⟨v', rfl, by simpa using h2, (below_alloc _ _).grown h3 (by simp) (fun g hg => (Own.empty w w.heap.size 34 Crd.enc 3 (Nat.le_refl _)).bounds g hg |>.1)⟩
end Go.Proofs.YteainpflmofjaaaGreatDoor
