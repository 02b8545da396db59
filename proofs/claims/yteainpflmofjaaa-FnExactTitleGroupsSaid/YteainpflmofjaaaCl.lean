/- Clones: slices.Clone and l1Own at slices of numbers, of strings. No condition but sizes. -/
import Derived.Test.YteainpflmofjaaaNst
import Derived.Test.YteainpflmofjaaaCat
import Derived.Lib.SliceRun
namespace Go.Proofs.Yteainpflmofjaaa
open Go.RowKit
theorem IntE.one (x : Int) : ∀ u ∈ IntE.enc x, u.oneCell' = true := fun u hu => by simp [IntE.enc] at hu; subst hu; rfl
set_option maxHeartbeats 1000000 in
theorem cloneEnt_c (v : Value) (l : List Ent) (w : World) (h : Sl w Ent.enc 6 v l) (hl : l.length ≤ 10000000) : Calls Try.prog 17 #[v] w (RetOwn w 40 Ent.enc 6 l) := by
  obtain ⟨i, hi, hz0, hz1, hz2⟩ := info_parts (show (Try.prog.info? 40).map (fun i => (i.zero, i.size, i.bytes)) = some (some (.agg #[.int .i64 0, .string ByteArray.empty, .string ByteArray.empty, .int .i64 0, .int .i64 0, .slice none 0 0]), 6, 80) by kernel_rfl)
  have hq : ∀ (w : World) (a : Option Addr) (n c n' c' : Nat), (binOp .eql 27 (.slice a n c) (.slice none n' c')).run Try.prog w = .ok (.bool a.isNone) w := fun w a n c n' c' => Lib.run_eql_slice_nil w _ _ a n c n' c' Try.underlying27
  have h0 := h
  obtain ⟨a, cap, b, off, rfl, hlc, hm, hc⟩ := h0
  rcases a with _ | a
  · have hl0 : l = [] := by
      cases l with
      | nil => rfl
      | cons x l => have := (hc 0 (by simp)).1; cases this
    subst hl0
    go_enter Try.func17, Try.ntmps17
    go_wp2_with fail
    go_ret
    exact ⟨_, rfl, Own.nil _ _ _ _ _, Below.refl _ _⟩
  · go_enter Try.func17, Try.ntmps17
    go_wp2_with (at_builtin; refine wpList_cat Ent.len Ent.one rfl _ _ 27 rfl w.heap.size 40 i _ 80 Try.underlying27 hi hz0 hz1 hz2 rfl (by omega) _ [] rfl (Own.empty w _ _ _ _ (Nat.le_refl _)) _ l rfl (h.mono (below_alloc _ _)) (by simp [maxLen]; omega) (by simp; omega) (by simp) ?_)
    intro v' w' h2 h3
    go_wp2_with fail
    go_ret
    exact ⟨v', rfl, by simpa using h2, (below_alloc _ _).grown h3 (by simp) (fun g hg => (Own.empty w w.heap.size 40 Ent.enc 6 (Nat.le_refl _)).bounds g hg |>.1)⟩
end Go.Proofs.Yteainpflmofjaaa
