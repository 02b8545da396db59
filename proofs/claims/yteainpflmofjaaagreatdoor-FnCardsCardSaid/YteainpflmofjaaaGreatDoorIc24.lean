/- slices.SortStableFunc at cards of the call's own, at most 19 of them: insertion sort. The closure is any that answers and writes nothing old. -/
import Derived.Test.YteainpflmofjaaaGreatDoorNp
import Derived.Test.YteainpflmofjaaaGreatDoorIns
import Derived.StillTailTactics
namespace Go.Proofs.YteainpflmofjaaaGreatDoor
open Go.RowKit
def ltC (cf : Crd → Crd → Int) (x y : Crd) : Bool := decide (cf x y < 0)
theorem swp_mem {α : Type} [Inhabited α] {L l : List α} {j : Nat} (hm : ∀ x, x ∈ L → x ∈ l) (hj : j + 1 < L.length) : ∀ x, x ∈ swp L (j + 1) → x ∈ l := fun x hx => by
  rw [swp, Nat.add_sub_cancel] at hx
  rcases List.mem_or_eq_of_mem_set hx with h | h
  · rcases List.mem_or_eq_of_mem_set h with h2 | h2
    · exact hm _ h2
    · rw [h2]; exact hm _ (gd_mem (by omega))
  · rw [h]; exact hm _ (gd_mem (by omega))
set_option maxHeartbeats 8000000 in
set_option maxRecDepth 100000 in
theorem insSortCrd_c (g cap : Nat) (l : List Crd) (lo : Nat) (w : World) (g0 : Nat) (cb : Array Value) (cf : Crd → Crd → Int) (h : Own w lo 34 Crd.enc 3 (.slice (some ⟨g, 0, none⟩) l.length cap) l) (hl : l.length ≤ 19) (hl0 : 0 < l.length)
    (eg : ∀ (args : Array Value) (W : World), (callFunc g0 args).run Tryz.prog W = .ok (.enter g0 args) W)
    (hf : ∀ x y W, x ∈ l → y ∈ l → w.grownBy W (some g) → Calls Tryz.prog g0 (#[.agg #[.int .i64 x.id, .int .i64 x.yr, .slice x.a x.sub.length x.cap], .agg #[.int .i64 y.id, .int .i64 y.yr, .slice y.a y.sub.length y.cap]] ++ cb) W fun e w' => e = .returned (.int .i64 (cf x y)) ∧ Below W.heap.size W w') :
    Calls Tryz.prog 89 #[.slice (some ⟨g, 0, none⟩) l.length cap, .int .i64 0, .int .i64 l.length, .func (.func g0) #[] cb] w fun e w' => e = .returned (.tuple #[]) ∧ Own w' lo 34 Crd.enc 3 (.slice (some ⟨g, 0, none⟩) l.length cap) (insAt (ltC cf) l l.length) ∧ w.grownBy w' (some g) := by
  have hF := Lib.hid hf
  clear hf
  go_enter Tryz.func89, Tryz.ntmps89
  go_wp2_with fail
  go_loopw [8] (fun vi wr => ∃ i : Nat, 1 ≤ i ∧ i ≤ l.length ∧ vi = .int .i64 i ∧ Hid (∀ x, x ∈ insAt (ltC cf) l i → x ∈ l) ∧ Hid (Own wr lo 34 Crd.enc 3 (.slice (some ⟨g, 0, none⟩) l.length cap) (insAt (ltC cf) l i)) ∧ Hid (w.grownBy wr (some g))) (fun vi _ => l.length - (intOf vi).toNat)
  case atStart => exact ⟨1, Nat.le_refl _, hl0, rfl, by rw [insAt_one]; exact fun x hx => hx, by rw [insAt_one]; exact h, World.grownBy.refl _ _⟩
  case round =>
    obtain ⟨i, hi1, hil, rfl, hM, hO, hG⟩ := hrel
    by_cases hlt : i < l.length
    · have hT := Lib.hid (insAt_succ (ltC cf) l i hlt)
      obtain ⟨wo, hwo⟩ : ∃ x, x = wr := ⟨_, rfl⟩
      subst hwo
      go_wp2_with fail
      go_loopw [9] (fun vj wi => ∃ (j : Nat) (L : List Crd), j ≤ i ∧ L.length = l.length ∧ vj = .int .i64 j ∧ Hid (bub (ltC cf) j L = insAt (ltC cf) l (i + 1)) ∧ Hid (∀ x, x ∈ L → x ∈ l) ∧ Hid (Own wi lo 34 Crd.enc 3 (.slice (some ⟨g, 0, none⟩) l.length cap) L) ∧ Hid (w.grownBy wi (some g))) (fun vj _ => (intOf vj).toNat)
      case atStart => exact ⟨i, insAt (ltC cf) l i, Nat.le_refl _, insAt_len _ _ _, rfl, hT.out, hM.out, hO.out, hG.out⟩
      case round =>
      obtain ⟨j, L, hji, hLl, rfl, hB, hM2, hO2, hG2⟩ := hrel
      replace hLl := Lib.hid hLl
      cases j with
      | zero =>
        go_wp2_with fail
        refine wp_region_ext (by kernel_rfl) (by kernel_rfl) ?_
        repeat (any_goals (first | go_big_quiet_step (fail)))
        (refine wpQuiet_nil ?_)
        (rintro _ ⟨q, rfl⟩)
        go_wp2_with fail
        go_roundw
        case rel => exact ⟨i + 1, by omega, by omega, by go_num, by rw [← hB.out]; exact hM2.out, by rw [← hB.out]; exact hO2.out.mono (below_ext _ _), only_trans hG2.out (only_of_below (below_ext _ _) _)⟩
        case measure => simp [intOf]; omega
      | succ j =>
        have hj1 : j + 1 < L.length := by rw [hLl.out]; omega
        have hO2' : Own wr lo 34 Crd.enc 3 (.slice (some ⟨g, 0, none⟩) L.length cap) L := by rw [hLl.out]; exact hO2.out
        obtain ⟨g', cap', hv', -, hgw, -, hm', hfz, hcc⟩ := hO2'.form Crd.len (by omega)
        have eg' : g = g' := by injection hv' with e1; injection e1 with e1; injection e1
        have ec' : cap = cap' := by injection hv'
        subst eg' ec'
        clear hv' hO2'
        unfold maxLen at hm'
        obtain ⟨-, -, c0, c1, c2⟩ := Crd.at hcc (j + 1) hj1
        obtain ⟨-, -, d0, d1, d2⟩ := Crd.at hcc j (by omega)
        rw [Nat.zero_add] at c0 c1 c2 d0 d1 d2
        have hx1 := hM2.out _ (gd_mem hj1)
        have hy1 := hM2.out _ (gd_mem (show j < L.length by omega))
        have hCl := Lib.hid (fun W (hW : Below wr.heap.size wr W) => hF.out (gd L (j + 1)) (gd L j) W hx1 hy1 (only_trans hG2.out (only_of_below hW _)))
        have hbu := Lib.hid (show bub (ltC cf) (j + 1) L = if ltC cf (gd L (j + 1)) (gd L j) then bub (ltC cf) j (swp L (j + 1)) else L from rfl)
        have hMs := Lib.hid (swp_mem (l := l) hM2.out hj1)
        have hLs := Lib.hid ((swp_len L (j + 1)).trans hLl.out)
        have hsw := Lib.hid (show swp L (j + 1) = (L.set (j + 1) (gd L j)).set j (gd L (j + 1)) from rfl)
        have hS1 := fun W (hW : Below wr.heap.size wr W) => Own.storeAll Crd.len (hO2.out.mono hW) hLl.out.symm (j + 1) hj1 (gd L j)
        have hlz := hLl.out
        generalize swp L (j + 1) = L' at hbu hMs hLs hsw
        generalize hx : gd L (j + 1) = x at *
        generalize hy : gd L j = y at *
        clear hx hy hx1 hy1 hcc
        by_cases hlv : cf x y < 0
        · have hbu2 := Lib.hid (show bub (ltC cf) (j + 1) L = bub (ltC cf) j L' by rw [hbu.out, ltC, decide_eq_true hlv]; rfl)
          clear hbu
          go_wp2_with fail
          refine wp_region_ext (by kernel_rfl) (by kernel_rfl) ?_
          repeat (any_goals (first | go_big_quiet_step ((exact Calls.ext_of (hCl.out _ (by repeat' (first | exact Below.refl _ _ | with_reducible assumption | refine bext ?_ ?_ _ | refine Below.alloc ?_ ?_ _ | refine Below.setCell ?_ ?_ _ | refine Below.drew ?_ | (simp; done) | (have hbz := hb.size; first | omega | (simp; omega)) | (simp; omega) | omega)))))))
          (refine wpQuiet_nil ?_)
          (rintro _ ⟨q, rfl⟩)
          go_wp2_with fail
          have B2 := below_ext wr q
          have hO3 := hO2.out.mono B2
          have hS1 := Own.storeAll Crd.len hO3 hLl.out.symm (j + 1) hj1 y
          have hS2 := Own.storeAll Crd.len hS1.1 (by rw [List.length_set]; exact hLl.out.symm) j (by rw [List.length_set]; omega) x
          rw [← hsw.out] at hS2
          have hG3 := Lib.hid (only_trans (only_trans (only_trans (only_trans hG2.out (only_of_below B2 _)) hS1.2) hS2.2) (only_of_below (drewOn _) _))
          have hO4 := Lib.hid (hS2.1.mono (drewOn _))
          have x0 := cellOn B2 c0
          have x1 := cellOn B2 c1
          have x2 := cellOn B2 c2
          have y0 := cellOn B2 d0
          have y1 := cellOn B2 d1
          have y2 := cellOn B2 d2
          have hfz3 : ∀ t, (ext wr q).frozen? ⟨g, t, none⟩ = false := fun t => (B2.frozen (p := ⟨g, t, none⟩) hgw).trans (hfz t)
          have hgw3 : g < (ext wr q).heap.size := Nat.lt_of_lt_of_le hgw B2.size
          clear hS1 hS2 hO3 c0 c1 c2 d0 d1 d2 hfz
          have z0 := hfz3 ((j + 1) * 3)
          have z1 := hfz3 ((j + 1) * 3 + 1)
          have z2 := hfz3 ((j + 1) * 3 + 2)
          have z3 := hfz3 (j * 3)
          have z4 := hfz3 (j * 3 + 1)
          have z5 := hfz3 (j * 3 + 2)
          clear hfz3
          generalize ext wr q = W2 at *
          have hwp : IntKind.i64.wrap (j : Int) = (j : Int) := by rw [IntKind.wrap_i64]; omega
          have e0 : ((j : Int) + 1).toNat = j + 1 := by omega
          have hjl : j < l.length := by omega
          have hjl1 : (j : Int) + 1 < (l.length : Int) := by omega
          have p0 : (0 : Int) ≤ (j : Int) + 1 := by omega
          go_region
          obtain ⟨W3, hW3⟩ : ∃ W3, W3 = ((((((W2.setCell ⟨g, (j + 1) * 3, none⟩ (.int .i64 y.id)).setCell ⟨g, (j + 1) * 3 + 1, none⟩ (.int .i64 y.yr)).setCell ⟨g, (j + 1) * 3 + 2, none⟩ (.slice y.a y.sub.length y.cap)).setCell ⟨g, j * 3, none⟩ (.int .i64 x.id)).setCell ⟨g, j * 3 + 1, none⟩ (.int .i64 x.yr)).setCell ⟨g, j * 3 + 2, none⟩ (.slice x.a x.sub.length x.cap)).drew := ⟨_, rfl⟩
          have hO5 : Hid (Own W3 lo 34 Crd.enc 3 (.slice (some ⟨g, 0, none⟩) l.length cap) L') := by rw [hW3]; exact hO4.out
          have hG5 : Hid (w.grownBy W3 (some g)) := by rw [hW3]; exact hG3.out
          rw [← hW3]
          clear hW3 hwp e0 hO4 hG3 z0 z1 z2 z3 z4 z5 x0 x1 x2 y0 y1 y2 hgw3
          go_wp2_with fail
          go_roundw
          case rel => exact ⟨j, L', by omega, hLs.out, by go_num, by rw [← hbu2.out]; exact hB.out, hMs.out, hO5.out, hG5.out⟩
          case measure => simp [intOf]
        · have hbu2 := Lib.hid (show bub (ltC cf) (j + 1) L = L by rw [hbu.out, ltC, decide_eq_false hlv]; rfl)
          clear hbu
          go_wp2_with fail
          refine wp_region_ext (by kernel_rfl) (by kernel_rfl) ?_
          repeat (any_goals (first | go_big_quiet_step ((exact Calls.ext_of (hCl.out _ (by repeat' (first | exact Below.refl _ _ | with_reducible assumption | refine bext ?_ ?_ _ | refine Below.alloc ?_ ?_ _ | refine Below.setCell ?_ ?_ _ | refine Below.drew ?_ | (simp; done) | (have hbz := hb.size; first | omega | (simp; omega)) | (simp; omega) | omega)))))))
          (refine wpQuiet_nil ?_)
          (rintro _ ⟨q, rfl⟩)
          go_wp2_with fail
          go_roundw
          case rel => exact ⟨i + 1, by omega, by omega, by go_num, by rw [← hB.out, hbu2.out]; exact hM2.out, by rw [← hB.out, hbu2.out]; exact hO2.out.mono (below_ext _ _), only_trans hG2.out (only_of_below (below_ext _ _) _)⟩
          case measure => simp [intOf]; omega
    · obtain rfl : i = l.length := by omega
      go_wp2_with fail
      go_end0
      exact ⟨rfl, hO.out, hG.out⟩
set_option maxHeartbeats 2000000 in
set_option maxRecDepth 100000 in
theorem stableCrd_c (g cap : Nat) (l : List Crd) (lo : Nat) (w : World) (g0 : Nat) (cb : Array Value) (cf : Crd → Crd → Int) (h : Own w lo 34 Crd.enc 3 (.slice (some ⟨g, 0, none⟩) l.length cap) l) (hl : l.length ≤ 19) (hl0 : 0 < l.length)
    (eg : ∀ (args : Array Value) (W : World), (callFunc g0 args).run Tryz.prog W = .ok (.enter g0 args) W)
    (hf : ∀ x y W, x ∈ l → y ∈ l → w.grownBy W (some g) → Calls Tryz.prog g0 (#[.agg #[.int .i64 x.id, .int .i64 x.yr, .slice x.a x.sub.length x.cap], .agg #[.int .i64 y.id, .int .i64 y.yr, .slice y.a y.sub.length y.cap]] ++ cb) W fun e w' => e = .returned (.int .i64 (cf x y)) ∧ Below W.heap.size W w') :
    Calls Tryz.prog 73 #[.slice (some ⟨g, 0, none⟩) l.length cap, .int .i64 l.length, .func (.func g0) #[] cb] w fun e w' => e = .returned (.tuple #[]) ∧ Own w' lo 34 Crd.enc 3 (.slice (some ⟨g, 0, none⟩) l.length cap) (sortR (ltC cf) l).reverse ∧ w.grownBy w' (some g) := by
  have H := insSortCrd_c g cap l lo w g0 cb cf h hl hl0 eg hf
  rw [insAt_all] at H
  replace H := Lib.hid H
  clear h hf eg
  go_enter Tryz.func73, Tryz.ntmps73
  go_wp2_with fail
  refine wp_loop_rounds 1 ?_
  rw [rounds_succ]
  go_wp2_with fail
  refine H.out.mono ?_
  rintro e w1 ⟨rfl, o1, g1⟩
  replace o1 := Lib.hid o1
  replace g1 := Lib.hid g1
  go_wp2_with fail
  refine wp_loop_rounds 1 ?_
  rw [rounds_succ]
  go_wp2_with fail
  go_end0
  exact ⟨rfl, o1.out, g1.out⟩
set_option maxHeartbeats 400000 in
theorem insSort0_c (v f : Value) (w : World) : Calls Tryz.prog 89 #[v, .int .i64 0, .int .i64 0, f] w fun e w' => e = .returned (.tuple #[]) ∧ w = w' := by
  go_enter Tryz.func89, Tryz.ntmps89
  go_wp2_with fail
  refine wp_loop_rounds 1 ?_
  rw [rounds_succ]
  go_wp2_with fail
  go_end0
  exact ⟨rfl, rfl⟩
set_option maxHeartbeats 400000 in
theorem stable0_c (v f : Value) (w : World) : Calls Tryz.prog 73 #[v, .int .i64 0, f] w fun e w' => e = .returned (.tuple #[]) ∧ w = w' := by
  go_enter Tryz.func73, Tryz.ntmps73
  go_wp2_with fail
  refine wp_loop_rounds 1 ?_
  rw [rounds_succ]
  go_wp2_with (go_at_call 89; refine (insSort0_c _ _ _).mono ?_; rintro e w' ⟨rfl, rfl⟩)
  refine wp_loop_rounds 1 ?_
  rw [rounds_succ]
  go_wp2_with fail
  go_end0
  exact ⟨rfl, rfl⟩
set_option maxHeartbeats 1000000 in
/-- slices.SortStableFunc at cards of the call's own. -/
theorem sortStableCrd_c (v : Value) (l : List Crd) (lo : Nat) (w : World) (g0 : Nat) (cb : Array Value) (cf : Crd → Crd → Int) (h : Own w lo 34 Crd.enc 3 v l) (hl : l.length ≤ 19)
    (eg : ∀ (args : Array Value) (W : World), (callFunc g0 args).run Tryz.prog W = .ok (.enter g0 args) W)
    (hf : ∀ x y W, x ∈ l → y ∈ l → w.grownBy W v.ownBlock → Calls Tryz.prog g0 (#[.agg #[.int .i64 x.id, .int .i64 x.yr, .slice x.a x.sub.length x.cap], .agg #[.int .i64 y.id, .int .i64 y.yr, .slice y.a y.sub.length y.cap]] ++ cb) W fun e w' => e = .returned (.int .i64 (cf x y)) ∧ Below W.heap.size W w') :
    Calls Tryz.prog 37 #[v, .func (.func g0) #[] cb] w fun e w' => e = .returned (.tuple #[]) ∧ Own w' lo 34 Crd.enc 3 v (sortR (ltC cf) l).reverse ∧ w.grownBy w' v.ownBlock := by
  rcases Nat.eq_zero_or_pos l.length with h0 | h0
  · have hS := h.sl Crd.len
    obtain rfl := List.eq_nil_of_length_eq_zero h0
    obtain ⟨a, cap, b, off, rfl, -, -, -⟩ := hS
    have hO := Lib.hid h
    clear h hf eg
    go_enter Tryz.func37, Tryz.ntmps37
    go_wp2_with (go_at_call 73; refine (stable0_c _ _ _).mono ?_; rintro e w' ⟨rfl, rfl⟩)
    go_end0
    exact ⟨rfl, hO.out, World.grownBy.refl _ _⟩
  · obtain ⟨g, cap, rfl, -, -, -, -, -, -⟩ := h.form Crd.len h0
    have H := Lib.hid (stableCrd_c g cap l lo w g0 cb cf h hl h0 eg hf)
    clear h hf eg
    go_enter Tryz.func37, Tryz.ntmps37
    go_wp2_with fail
    refine H.out.mono ?_
    rintro e w1 ⟨rfl, o1, g1⟩
    replace o1 := Lib.hid o1
    replace g1 := Lib.hid g1
    go_wp2_with fail
    go_end0
    exact ⟨rfl, o1.out, g1.out⟩
end Go.Proofs.YteainpflmofjaaaGreatDoor
