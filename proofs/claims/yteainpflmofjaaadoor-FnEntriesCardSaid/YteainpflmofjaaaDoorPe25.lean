/- Entries: what FnEntries asks of them: each group's numbers are as many as there are entries, and each number seen is found. Plain facts; comparison of grids. No condition but sizes. -/
import Derived.Test.YteainpflmofjaaaDoorTh25
import Derived.Test.YteainpflmofjaaaDoorTc25
import Derived.Test.YteainpflmofjaaaDoorGd
import Derived.Test.YteainpflmofjaaaDoorFe25
namespace Go.Proofs.YteainpflmofjaaaDoor
open Go.RowKit
theorem fe_seen {l : List Ent} (hA : areEnt l = true) {i j : Nat} (hi : i < l.length) (hj : j < (gd l i).sub.length) : feB l (gd (gd l i).sub j) = true ∧ feV l (gd (gd l i).sub j) = (gd l i).id := by
  have hE := isEnt_facts (areEnt_ok hA i hi)
  have hb := hE.2.2.2.2.2.2.2.2.2 j hj
  have hn : inB (gd (gd l i).sub j) 1 999 = true := inB_iff.2 hb
  have hk : knows (gd l i) (gd (gd l i).sub j) = true := by
    unfold knows
    rw [hasI_iff.2 ⟨j, hj, rfl⟩, Bool.or_true]
  have h1 := hA
  rw [areEnt_alt, Bool.and_eq_true] at h1
  have h2 := allTo_iff.1 h1.2 i hi
  have h3 := allTo_iff.1 (show allTo (aloneAt l i) (gd l i).sub.length = true from h2) j hj
  have h4 : ∀ n, n < i → knows (gd l n) (gd (gd l i).sub j) = false := fun n hni => by
    have := allTo_iff.1 (show allTo (fun n => decide (n = i) || !knows (gd l n) (gd (gd l i).sub j)) l.length = true from h3) n (by omega)
    have hne : decide (n = i) = false := decide_eq_false (by omega)
    rw [hne, Bool.false_or] at this
    simpa using this
  exact fe_yes hA hn (findTo_some (f := fun n => knows (gd l n) (gd (gd l i).sub j)) h4 hk hi)
/-- the sum of the first i lengths -/
def lenTo (G : List (List Int)) : Nat → Nat
  | 0 => 0
  | i + 1 => lenTo G i + (gd G i).length
theorem lenTo_sum (G : List (List Int)) : ∀ i, i ≤ G.length → lenTo G i = ((G.take i).map List.length).sum
  | 0, _ => by simp [lenTo]
  | i + 1, h => by
    rw [lenTo, lenTo_sum G i (by omega), take_succ_gd (by omega), List.map_append, List.sum_append]
    simp
theorem lenTo_tg {l : List Ent} (hA : areEnt l = true) : lenTo (tgR l) (tgR l).length = l.length := by
  rw [lenTo_sum _ _ (Nat.le_refl _), List.take_length, tgR_yes hA]
  have h := congrArg List.length (sort_flat l)
  rw [List.length_reverse, sortR_len] at h
  rw [h, flatG, List.length_flatMap, tgL, List.map_map]
  congr 1
  apply List.map_congr_left
  intro q _
  simp
theorem tgR_small (l : List Ent) : (tgR l).length ≤ 12 ∧ ∀ i, i < (tgR l).length → (gd (tgR l) i).length ≤ 12 := by
  unfold tgR
  split
  · rename_i h
    have h12 := areEnt_len h
    obtain ⟨h1, h2⟩ := grps_len l
    refine ⟨by simp [tgL]; omega, fun i hi => ?_⟩
    have hm : gd (tgL l) i ∈ tgL l := by rw [gd_get hi]; exact List.getElem_mem hi
    obtain ⟨q, hq, e⟩ := List.mem_map.1 hm
    have := h2 q hq
    rw [← e]
    simp; omega
  · simp
theorem lenTo_le (l : List Ent) : ∀ i, i ≤ (tgR l).length → lenTo (tgR l) i ≤ 12 * i
  | 0, _ => by simp [lenTo]
  | i + 1, h => by
    have h1 := lenTo_le l i (by omega)
    have h2 := (tgR_small l).2 i (by omega)
    rw [lenTo]; omega
set_option maxHeartbeats 1000000 in
theorem vInts_c (v v' : Value) (l : List Int) (w : World) (h : Sl w IntE.enc 1 v l) (h' : Sl w IntE.enc 1 v' l) : Calls Tryd.prog 65 #[v, v'] w fun e w' => e = .returned (.bool true) ∧ Below w.heap.size w w' := by
  obtain ⟨a, cap, b, off, rfl, hlc, hm, hc⟩ := h
  obtain ⟨a', cap', b', off', rfl, hlc', hm', hc'⟩ := h'
  unfold maxLen at hm hm'
  go_enter Tryd.func65, Tryd.ntmps65
  go_wp2_with fail
  go_loopw [5] (fun i wr => ∃ k : Nat, k ≤ l.length ∧ i = .int .i64 k ∧ Below w.heap.size w wr) (fun i _ => l.length - (intOf i).toNat)
  case atStart => exact ⟨0, Nat.zero_le _, rfl, Below.refl _ _⟩
  case round =>
    obtain ⟨k, hk, rfl, hb⟩ := hrel
    by_cases hlt : k < l.length
    · obtain ⟨rfl, hbw, c0⟩ := IntE.at (hc.mono hb) k hlt
      obtain ⟨rfl, hbw', c0'⟩ := IntE.at (hc'.mono hb) k hlt
      go_wp2_with fail
      refine wp_region_ext (by kernel_rfl) (by kernel_rfl) ?_
      repeat (any_goals (first | go_big_quiet_step (fail)))
      (refine wpQuiet_nil ?_)
      (rintro _ ⟨q, rfl⟩)
      go_wp2_with fail
      go_roundw
      case rel => exact ⟨k + 1, by omega, by go_num, bext hb hb.size _⟩
      case measure => simp [intOf]; omega
    · go_wp2_with fail
      go_ret
      exact ⟨rfl, hb⟩
set_option maxHeartbeats 1000000 in
theorem vGrid_c (v v' : Value) (l l' : List Rw) (w : World) (h : Sl w Rw.enc 1 v l) (hd : Rw.Deep w l) (h' : Sl w Rw.enc 1 v' l') (hd' : Rw.Deep w l') (he : l.map Rw.sub = l'.map Rw.sub) : Calls Tryd.prog 24 #[v, v'] w fun e w' =>
    e = .returned (.bool true) ∧ Below w.heap.size w w' := by
  obtain ⟨a, cap, b, off, rfl, hlc, hm, hc⟩ := h
  obtain ⟨a', cap', b', off', rfl, hlc', hm', hc'⟩ := h'
  have hE := Lib.hid he
  have hll : l.length = l'.length := by simpa using congrArg List.length he
  clear he
  unfold maxLen at hm hm'
  rw [← hll] at hlc' ⊢
  go_enter Tryd.func24, Tryd.ntmps24
  go_wp2_with fail
  go_loopw [5] (fun i wr => ∃ k : Nat, k ≤ l.length ∧ i = .int .i64 k ∧ Below w.heap.size w wr) (fun i _ => l.length - (intOf i).toNat)
  case atStart => exact ⟨0, Nat.zero_le _, rfl, Below.refl _ _⟩
  case round =>
    obtain ⟨k, hk, rfl, hb⟩ := hrel
    by_cases hlt : k < l.length
    · obtain ⟨rfl, hbw, c0⟩ := Rw.at (hc.mono hb) k hlt
      obtain ⟨rfl, hbw', c0'⟩ := Rw.at (hc'.mono hb) k (by omega)
      have hQ := Lib.hid (fun p => vInts_c _ _ (gd l k).sub (ext wr p) ((hd k hlt).mono (btrans hb (below_ext wr p))) (by rw [(Rw.sub_at hE.out k hlt).2]; exact (hd' k (by omega)).mono (btrans hb (below_ext wr p))))
      rw [(Rw.sub_at hE.out k hlt).2] at hQ c0
      go_wp2_with fail
      refine wp_region_ext (by kernel_rfl) (by kernel_rfl) ?_
      repeat (any_goals (first | go_big_quiet_step ((go_at_call 65; exact Calls.ext_of (hQ.out _)))))
      (refine wpQuiet_nil ?_)
      (rintro _ ⟨q, rfl⟩)
      go_wp2_with fail
      go_roundw
      case rel => exact ⟨k + 1, by omega, by go_num, bext hb hb.size _⟩
      case measure => simp [intOf]; omega
    · go_wp2_with fail
      go_ret
      exact ⟨rfl, hb⟩
end Go.Proofs.YteainpflmofjaaaDoor
