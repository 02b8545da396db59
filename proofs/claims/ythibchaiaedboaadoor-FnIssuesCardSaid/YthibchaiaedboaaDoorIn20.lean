/- Issues: slices.Insert of one issue into a slice of the call's own. No condition but sizes. -/
import Derived.Test.YthibchaiaedboaaDoorSe20
import Derived.Test.YthibchaiaedboaaDoorIg
import Derived.Test.YthibchaiaedboaaDoorStep
import Derived.Laws.Externs
import Derived.Lib.Overlaps
import Derived.Lib.AppendZerosOnto
import Derived.Laws.NewBlocks
import Derived.Outline
namespace Go.Proofs.YthibchaiaedboaaDoor
open Go.RowKit
theorem Iss.one4 (l : List Iss) : ∀ u ∈ l.flatMap Iss.enc, u.oneCell' = true := by
  intro u hu
  obtain ⟨y, _, hy⟩ := List.mem_flatMap.1 hu
  exact Iss.one y u hy
set_option maxHeartbeats 4000000 in
set_option maxRecDepth 100000 in
/-- there is room, and the place is ahead of the end: in place -/
theorem insRoom_c (g cap i vb : Nat) (cur : List Value) (l : List Iss) (x : Iss) (w : World) (hi : i < l.length) (hc : l.length + 1 ≤ cap) (hm : cap ≤ 9223372036854775807) (hg : w.heap[g]? = some (.cells cur.toArray 41 (0, 0)))
    (hcl : cur.length = cap * 4) (ht : cur.take (l.length * 4) = l.flatMap Iss.enc) (hv : w.heap[vb]? = some (.cells x.enc.toArray 41 (0, 0))) (hne : vb ≠ g) :
    Calls Tryd.prog 68 #[.slice (some ⟨g, 0, none⟩) l.length cap, .int .i64 i, .slice (some ⟨vb, 0, none⟩) 1 1] w fun e w' =>
      e = .returned (.slice (some ⟨g, 0, none⟩) (l.length + 1) cap) ∧ w'.heap[g]? = some (.cells (splice (splice cur ((i + 1) * 4) ((l.drop i).flatMap Iss.enc)) (i * 4) x.enc).toArray 41 (0, 0)) ∧ w.grownBy w' (some g) := by
  have hsz : (Tryd.prog.info? 41).map (·.size) = some 4 := by kernel_rfl
  have hD : ((l.drop i).flatMap Iss.enc).length = (l.length - i) * 4 := by rw [flat_len Iss.len, List.length_drop]
  have hX : x.enc.length = 4 := Iss.len x
  obtain ⟨X, hXe⟩ : ∃ X, X = x.enc := ⟨_, rfl⟩
  obtain ⟨D, hDe⟩ : ∃ D, D = (l.drop i).flatMap Iss.enc := ⟨_, rfl⟩
  have h1D : ∀ u ∈ D, u.oneCell' = true := by rw [hDe]; exact Iss.one4 _
  have h1X : ∀ u ∈ X, u.oneCell' = true := by rw [hXe]; exact Iss.one x
  have hDs : ∀ j u, D[j]? = some u → cur[i * 4 + j]? = some u := fun j u hj => by
    rw [hDe, ← (takeDrop Iss.len l i (by omega)).2, ← ht, List.getElem?_drop, List.getElem?_take] at hj
    split at hj
    · exact hj
    · cases hj
  rw [← hXe] at hv hX ⊢
  rw [← hDe] at hD ⊢
  have hov : ∀ (W : World) (o lb cb : Nat) (cw : Array Value), W.heap[vb]? = w.heap[vb]? → W.heap[g]? = some (.cells cw 41 (0, 0)) → cw.size ≠ 0 → (callFunc 109 #[.slice (some ⟨vb, 0, none⟩) 1 1, .slice (some ⟨g, o, none⟩) lb cb]).run Tryd.prog W = .ok (.value (.bool false)) W := fun W o lb cb cw e1 e2 e3 => by
    rw [hv] at e1
    rw [run_callFunc_extern Tryd.func109 (by kernel_rfl) (by kernel_rfl) (by kernel_rfl) (e := Extern.SlicesOverlaps.overlaps #[24, 24] #[4]) (by kernel_rfl),
      Lib.run_overlaps_apart W 24 4 41 Tryd.underlying24 4 (fun w => by kernel_rfl) ⟨vb, 0, none⟩ ⟨g, o, none⟩ 1 1 lb cb hne 41 41 4 cw.size (by simp [World.shape?, e1, hX]) (by simp [World.shape?, e2]) e3 (by simp [World.frozen?, e1]) (by simp [World.frozen?, e1])]
    rfl
  have hov0 : ∀ o lb cb, (callFunc 109 #[.slice (some ⟨vb, 0, none⟩) 1 1, .slice (some ⟨g, o, none⟩) lb cb]).run Tryd.prog w = .ok (.value (.bool false)) w := fun o lb cb => hov w o lb cb _ rfl hg (by simp only [List.size_toArray]; omega)
  clear hov
  have hz1 : ¬ ((i : Int) = (l.length : Int)) := by omega
  have hz2 : ¬ ((cap : Int) < (l.length : Int) + 1) := by omega
  have hin : i ≤ l.length := by omega
  have hb2 : ¬ (cap = i + 1) := by omega
  have hb3 : (i : Int) ≤ (l.length : Int) + 1 := by omega
  have hb4 : ¬ (cap = i) := by omega
  have hw1 : IntKind.i64.wrap ((i : Int) + 1) = (i : Int) + 1 := by rw [IntKind.wrap_i64]; omega
  have hb1 : (0 : Int) ≤ (i : Int) + 1 := by omega
  have htn : ((i : Int) + 1).toNat = i + 1 := by omega
  go_enter Tryd.func68, Tryd.ntmps68
  go_wp2_with (simp only [hov0])
  have hmn : Nat.min (l.length + 1 - i) (l.length - i) = l.length - i := Nat.min_eq_right (by omega)
  have hmx : Nat.min 1 (l.length + 1 - i) = 1 := Nat.min_eq_left (by omega)
  go_region_law ((refine step_copy_rowK (by rfl) (.tmp 73) (.tmp 76) 24 24 (by rfl) 41 4 Tryd.underlying24 hsz g ((i + 1) * 4) (l.length - i) (cap - (i + 1)) ⟨g, i * 4, none⟩ (l.length + 1 - i) (cap - i) (by simp [Act.eval, Act.put]) (by simp [Act.eval, Act.put]) cur 41 hg D (by rw [hmn, hD]) (fun j v hj => rowCell (t := 41) hg (i * 4) j v (hDs j v hj)) (by omega) h1D ?_; intro w1 hg1 gb1))
  have hv1 : w1.heap[vb]? = some (.cells X.toArray 41 (0, 0)) := (gb1.out.block vb (Array.getElem?_eq_some_iff.1 hv).1 (by simp; exact hne)).trans hv
  have hl1 : (splice cur ((i + 1) * 4) D).length = cur.length := length_splice _ _ _ (by omega)
  go_wp2_with ((with_reducible refine wpList_copy_rowK rfl (.tmp 80) (.tmp 81) 24 24 rfl 41 4 Tryd.underlying24 hsz g (i * 4) (l.length + 1 - i) (cap - i) ⟨vb, 0, none⟩ 1 1 ?q1 ?q2 (splice cur ((i + 1) * 4) D) 41 hg1.out X ?q3 ?q4 ?q5 h1X ?q6); (case q1 => simp [Act.eval]); (case q2 => simp [Act.eval]); (case q3 => rw [hmx, hX]); (case q4 => exact fun j v hj => rowCell (t := 41) hv1 0 j v (by simpa using hj)); (case q5 => omega); intro w2 hg2 gb2)
  go_ret
  exact ⟨rfl, hg2.out, only_trans (only_trans (only_of_below (drewOn w) _) gb1.out) gb2.out⟩
set_option maxHeartbeats 4000000 in
set_option maxRecDepth 100000 in
/-- there is no room, and the place is ahead of the end: a new row -/
theorem insGrow_c (g cap i vb : Nat) (cur : List Value) (l : List Iss) (x : Iss) (w : World) (hi : i < l.length) (hlc : l.length ≤ cap) (hc : cap < l.length + 1) (hl : l.length ≤ 1048576) (hg : w.heap[g]? = some (.cells cur.toArray 41 (0, 0)))
    (_ : cur.length = cap * 4) (ht : cur.take (l.length * 4) = l.flatMap Iss.enc) (hv : w.heap[vb]? = some (.cells x.enc.toArray 41 (0, 0))) :
    Calls Tryd.prog 68 #[.slice (some ⟨g, 0, none⟩) l.length cap, .int .i64 i, .slice (some ⟨vb, 0, none⟩) 1 1] w fun e w' =>
      ∃ (C : Nat) (Z : List Value), e = .returned (.slice (some ⟨w.heap.size, 0, none⟩) (l.length + 1) C) ∧ l.length + 1 ≤ C ∧ C ≤ maxLen ∧ Z.length = C * 4 ∧ Z.take (i * 4) = (l.take i).flatMap Iss.enc ∧ w'.heap[w.heap.size]? = some (.cells (splice (splice Z (i * 4) x.enc) ((i + 1) * 4) ((l.drop i).flatMap Iss.enc)).toArray 41 (0, 0)) ∧ Below w.heap.size w w' := by
  have hsz : (Tryd.prog.info? 41).map (·.size) = some 4 := by kernel_rfl
  obtain ⟨i0, hi0, hz0, hzs, hzb⟩ := info_parts (show (Tryd.prog.info? 41).map (fun i => (i.zero, i.size, i.bytes)) = some (some (.agg #[.int .i64 0, .int .i64 0, .int .i64 0, .int .i64 0]), 4, 32) by kernel_rfl)
  have hD : ((l.drop i).flatMap Iss.enc).length = (l.length - i) * 4 := by rw [flat_len Iss.len, List.length_drop]
  have hX : x.enc.length = 4 := Iss.len x
  have hTl : ((l.take i).flatMap Iss.enc).length = i * 4 := by rw [flat_len Iss.len, List.length_take, Nat.min_eq_left (by omega)]
  obtain ⟨X, hXe⟩ : ∃ X, X = x.enc := ⟨_, rfl⟩
  obtain ⟨D, hDe⟩ : ∃ D, D = (l.drop i).flatMap Iss.enc := ⟨_, rfl⟩
  obtain ⟨T, hTe⟩ : ∃ T, T = (l.take i).flatMap Iss.enc := ⟨_, rfl⟩
  have h1D : ∀ u ∈ D, u.oneCell' = true := by rw [hDe]; exact Iss.one4 _
  have h1X : ∀ u ∈ X, u.oneCell' = true := by rw [hXe]; exact Iss.one x
  have hDs : ∀ j u, D[j]? = some u → cur[i * 4 + j]? = some u := fun j u hj => by
    rw [hDe, ← (takeDrop Iss.len l i (by omega)).2, ← ht, List.getElem?_drop, List.getElem?_take] at hj
    split at hj
    · exact hj
    · cases hj
  have hTs : ∀ j u, T[j]? = some u → cur[0 + j]? = some u := fun j u hj => by
    rw [hTe, ← (takeDrop Iss.len l i (by omega)).1, ← ht, List.getElem?_take, List.getElem?_take] at hj
    split at hj
    · split at hj
      · simpa using hj
      · cases hj
    · cases hj
  rw [← hXe] at hv hX ⊢
  rw [← hDe] at hD ⊢
  rw [← hTe] at hTl ⊢
  have hold : (Builtin.firstCells i0.size i (.slice (some ⟨g, 0, none⟩) i cap)).run Tryd.prog w.drew = .ok T.toArray w.drew := by
    rw [hzs]
    exact run_firstCells_some w.drew 4 i ⟨g, 0, none⟩ i cap T (by omega) (fun j u hj => rowCell (t := 41) (w := w.drew) hg 0 j u (hTs j u hj))
  have hik : i + (l.length + 1 - i) = l.length + 1 := by omega
  have hkk : (l.length : Int) + 1 - (i : Int) = ((l.length + 1 - i : Nat) : Int) := by omega
  obtain ⟨C, hC⟩ : ∃ C, C = grownCap w (l.length + 1) cap 41 := ⟨_, rfl⟩
  obtain ⟨Z, hZ⟩ : ∃ Z : List Value, Z = T ++ (Builtin.zeroCells (Value.agg #[.int .i64 0, .int .i64 0, .int .i64 0, .int .i64 0]).cells (l.length + 1 - i)).toList ++ (Builtin.zeroCells (Value.agg #[.int .i64 0, .int .i64 0, .int .i64 0, .int .i64 0]).cells (C - (l.length + 1))).toList := ⟨_, rfl⟩
  have hCge : l.length + 1 ≤ C := by rw [hC]; exact grownCap_ge w _ _ _
  have hCm : C ≤ maxLen := by rw [hC]; exact grownCap_le_maxLen w _ _ _ (by unfold maxLen; omega)
  have hZl : Z.length = C * 4 := by
    rw [hZ]
    simp only [List.length_append, hTl, Array.length_toList, size_zeroCells]
    have : (Value.agg #[.int .i64 0, .int .i64 0, .int .i64 0, .int .i64 0]).cells.size = 4 := rfl
    rw [this]; omega
  have hZt : Z.take (i * 4) = T := by rw [hZ, List.append_assoc, List.take_append_of_le_length (by omega), List.take_of_length_le (by omega)]
  have hrz : ∀ ty, (Builtin.append_ #[24, 3] ty #[.slice (some ⟨g, 0, none⟩) i cap, .int .i64 ((l.length : Int) + 1 - (i : Int))]).run Tryd.prog w = .ok (.slice (some ⟨w.heap.size, 0, none⟩) (l.length + 1) C) (w.drew.alloc (.cells Z.toArray 41)) := fun ty => by
    have h := Lib.run_append_grow_zeros w 24 3 ty 41 i0 _ .i64 .i64 Tryd.underlying24 Tryd.underlying3 hi0 hz0 (some ⟨g, 0, none⟩) i cap T hold (l.length + 1 - i) (by omega) (by omega) (by omega) (by omega) (by rw [hzb]; omega) (by rw [hzb, hik]; exact growslice_fits hc (by omega))
    rw [hik, ← hC] at h
    have hZa : T.toArray ++ Builtin.zeroCells (Value.agg #[.int .i64 0, .int .i64 0, .int .i64 0, .int .i64 0]).cells (l.length + 1 - i) ++ Builtin.zeroCells (Value.agg #[.int .i64 0, .int .i64 0, .int .i64 0, .int .i64 0]).cells (C - (l.length + 1)) = Z.toArray := by
      rw [hZ]
      apply Array.toList_inj.1
      simp
    rw [hkk, h, hZa]
  clear hold hik hkk hZ hC
  obtain ⟨W1, hW1⟩ : ∃ W1, W1 = w.drew.alloc (.cells Z.toArray 41) := ⟨_, rfl⟩
  rw [← hW1] at hrz
  have hgw : g < w.heap.size := (Array.getElem?_eq_some_iff.1 hg).1
  have hvw : vb < w.heap.size := (Array.getElem?_eq_some_iff.1 hv).1
  have hG1 : W1.heap[w.heap.size]? = some (.cells Z.toArray 41 (0, 0)) := by rw [hW1]; exact heap_alloc_new w.drew _
  have hB1 : Below w.heap.size w W1 := by rw [hW1]; exact (drewOn w).trans (below_alloc w.drew _)
  have hg1 : W1.heap[g]? = some (.cells cur.toArray 41 (0, 0)) := (hB1.block g hgw).trans hg
  have hv1 : W1.heap[vb]? = some (.cells X.toArray 41 (0, 0)) := (hB1.block vb hvw).trans hv
  clear hW1
  have hmn : Nat.min (l.length - i) (l.length + 1 - (i + 1)) = l.length - i := Nat.min_eq_left (by omega)
  have hmx : Nat.min 1 (l.length + 1 - i) = 1 := Nat.min_eq_left (by omega)
  have hz1 : ¬ ((i : Int) = (l.length : Int)) := by omega
  have hz2 : (cap : Int) < (l.length : Int) + 1 := by omega
  have hin : i ≤ l.length := by omega
  have hCi : ¬ (C = i) := by omega
  have hCim : ¬ (C = i + 1) := by omega
  have hci : ¬ (cap = i) := by omega
  have hC63 : C ≤ 9223372036854775807 := by unfold maxLen at hCm; exact hCm
  have hw1 : IntKind.i64.wrap ((i : Int) + 1) = (i : Int) + 1 := by rw [IntKind.wrap_i64]; omega
  have hb1 : (0 : Int) ≤ (i : Int) + 1 := by omega
  have htn : ((i : Int) + 1).toNat = i + 1 := by omega
  have hb3 : (i : Int) ≤ (l.length : Int) := by omega
  have hb4 : (i : Int) + 1 ≤ (l.length : Int) + 1 := by omega
  go_enter Tryd.func68, Tryd.ntmps68
  go_wp2_with (first
    | (at_builtin; refine Lib.wpList_append_run _ rfl _ _ _ _ rfl _ _ rfl rfl _ _ (hrz _) ?_)
    | ((with_reducible refine wpList_copy_rowK rfl (.tmp 43) (.tmp 44) 24 24 rfl 41 4 Tryd.underlying24 hsz w.heap.size (i * 4) (l.length + 1 - i) (C - i) ⟨vb, 0, none⟩ 1 1 ?q1 ?q2 Z 41 hG1 X ?q3 ?q4 ?q5 h1X ?q6); (case q1 => simp [Act.eval]); (case q2 => simp [Act.eval]); (case q3 => rw [hmx, hX]); (case q4 => exact fun j v hj => rowCell (t := 41) hv1 0 j v (by simpa using hj)); (case q5 => omega); intro w2 hg2 gb2))
  have hgg : w2.heap[g]? = some (.cells cur.toArray 41 (0, 0)) := (gb2.out.block g (by have := hB1.size; omega) (by simp; omega)).trans hg1
  have hl2 : (splice Z (i * 4) X).length = Z.length := length_splice _ _ _ (by omega)
  have hmn : Nat.min (l.length - i) (l.length - i) = l.length - i := Nat.min_self _
  clear hrz
  go_region_law ((refine step_copy_rowK (by rfl) (.tmp 50) (.tmp 53) 24 24 (by rfl) 41 4 Tryd.underlying24 hsz w.heap.size ((i + 1) * 4) (l.length - i) (C - (i + 1)) ⟨g, i * 4, none⟩ (l.length - i) (cap - i) (by simp [Act.eval, Act.put]) (by simp [Act.eval, Act.put]) (splice Z (i * 4) X) 41 hg2.out D (by rw [hmn, hD]) (fun j v hj => rowCell (t := 41) hgg (i * 4) j v (hDs j v hj)) (by omega) h1D ?_; intro w3 hg3 gb3))
  go_wp2_with fail
  go_ret
  have B2 : Below w.heap.size w w2.drew := (hB1.grown gb2.out hB1.size (fun k hk => by cases hk; exact Nat.le_refl _)).drew
  exact ⟨C, Z, rfl, hCge, hCm, hZl, hZt, hg3.out, B2.grown gb3.out B2.size (fun k hk => by cases hk; exact Nat.le_refl _)⟩
set_option maxHeartbeats 4000000 in
set_option maxRecDepth 100000 in
/-- at the end: an append -/
theorem insEnd_c (lo : Nat) (v : Value) (l : List Iss) (vb : Nat) (x : Iss) (w : World) (h : Own w lo 41 Iss.enc 4 v l) (hlo : lo ≤ w.heap.size) (hl : l.length ≤ 1048576) (hv : w.heap[vb]? = some (.cells x.enc.toArray 41 (0, 0))) :
    Calls Tryd.prog 68 #[v, .int .i64 (l.length : Int), .slice (some ⟨vb, 0, none⟩) 1 1] w fun e w' =>
      ∃ v', e = .returned v' ∧ Own w' lo 41 Iss.enc 4 v' (l ++ [x]) ∧ w.grownBy w' v.ownBlock := by
  obtain ⟨i0, hi0, hz0, hzs, hzb⟩ := info_parts (show (Tryd.prog.info? 41).map (fun i => (i.zero, i.size, i.bytes)) = some (some (.agg #[.int .i64 0, .int .i64 0, .int .i64 0, .int .i64 0]), 4, 32) by kernel_rfl)
  have hx : Sl w Iss.enc 4 (.slice (some ⟨vb, 0, none⟩) 1 1) [x] := sl_one Iss.len (by omega) (Nat.le_refl _) (by simp [maxLen]) (fun j u hu => by
    have := rowCell (t := 41) hv 0 j u (by simpa using hu)
    rwa [show ((⟨vb, 0, none⟩ : Addr).add j) = ⟨vb, j, none⟩ from by unfold Addr.add; split <;> simp_all] at this)
  have h0 := h
  obtain ⟨hfl, ⟨rfl, hn⟩ | ⟨g, cap, cur, rfl, hlg, hg, hlc, hm, _⟩⟩ := h0
  · go_enter Tryd.func68, Tryd.ntmps68
    rw [hn]
    rw [hn] at hl
    have HN := Lib.hid hn
    clear hn hfl
    go_wp2_with (at_builtin; refine wpList_cat Iss.len Iss.one rfl _ _ 24 rfl lo 41 i0 _ 32 Tryd.underlying24 hi0 hz0 hzs hzb rfl (by omega) _ l rfl h _ [x] rfl hx (by rw [HN.out]; simp [maxLen]) (by rw [HN.out]; simp) hlo ?_; intro v' w' h2 h3)
    go_ret
    exact ⟨_, rfl, h2, h3⟩
  · unfold maxLen at hm
    go_enter Tryd.func68, Tryd.ntmps68
    go_wp2_with (at_builtin; refine wpList_cat Iss.len Iss.one rfl _ _ 24 rfl lo 41 i0 _ 32 Tryd.underlying24 hi0 hz0 hzs hzb rfl (by omega) _ l rfl h _ [x] rfl hx (by simp [maxLen]; omega) (by simp; omega) hlo ?_; intro v' w' h2 h3)
    all_goals
      go_ret
      exact ⟨_, rfl, h2, h3⟩
theorem insertIssue_c (lo : Nat) (v : Value) (l : List Iss) (i vb : Nat) (x : Iss) (w : World) (h : Own w lo 41 Iss.enc 4 v l) (hlo : lo ≤ w.heap.size) (hi : i ≤ l.length) (hl : l.length ≤ 1048576) (hv : w.heap[vb]? = some (.cells x.enc.toArray 41 (0, 0))) (hne : v.ownBlock ≠ some vb) :
    Calls Tryd.prog 68 #[v, .int .i64 (i : Int), .slice (some ⟨vb, 0, none⟩) 1 1] w fun e w' =>
      ∃ v', e = .returned v' ∧ Own w' lo 41 Iss.enc 4 v' (l.take i ++ [x] ++ l.drop i) ∧ w.grownBy w' v.ownBlock := by
  rcases Nat.lt_or_eq_of_le hi with hlt | rfl
  · have h0 := h
    obtain ⟨hfl, ⟨rfl, hn⟩ | ⟨g, cap, cur, rfl, hlg, hg, hlc, hm, hcs, ht⟩⟩ := h0
    · omega
    · have hfin : (l.take i ++ [x] ++ l.drop i).flatMap Iss.enc = (l.take i).flatMap Iss.enc ++ x.enc ++ (l.drop i).flatMap Iss.enc := by simp [List.flatMap_append]
      have hfn : (l.take i ++ [x] ++ l.drop i).length = l.length + 1 := by simp; omega
      have hTl : ((l.take i).flatMap Iss.enc).length = i * 4 := by rw [flat_len Iss.len, List.length_take, Nat.min_eq_left hi]
      have hDl : ((l.drop i).flatMap Iss.enc).length = (l.length - i) * 4 := by rw [flat_len Iss.len, List.length_drop]
      have hX : x.enc.length = 4 := Iss.len x
      have hown : ∀ (w' : World) (G C : Nat) (row : List Value), lo ≤ G → l.length + 1 ≤ C → C ≤ maxLen → row.length = C * 4 → w'.heap[G]? = some (.cells row.toArray 41 (0, 0)) → (∃ R, row = (l.take i).flatMap Iss.enc ++ x.enc ++ (l.drop i).flatMap Iss.enc ++ R) → Own w' lo 41 Iss.enc 4 (.slice (some ⟨G, 0, none⟩) (l.length + 1) C) (l.take i ++ [x] ++ l.drop i) := fun w' G C row h1 h2 h3 h4 h5 h6 => by
        obtain ⟨R, rfl⟩ := h6
        unfold Own
        rw [hfn, hfin]
        refine ⟨by simp only [List.length_append, hTl, hDl, hX]; omega, .inr ⟨G, C, _, rfl, h1, h5, h2, h3, by simpa using h4, ?_⟩⟩
        rw [List.toList_toArray, List.take_append_of_le_length (by simp only [List.length_append, hTl, hDl, hX]; omega), List.take_of_length_le (by simp only [List.length_append, hTl, hDl, hX]; omega)]
      have hcl : cur.toList.length = cap * 4 := by simpa using hcs
      by_cases hc : l.length + 1 ≤ cap
      · refine (insRoom_c g cap i vb cur.toList l x w hlt hc (by unfold maxLen at hm; exact hm) (by simpa using hg) hcl ht hv (fun e => hne (by rw [e]; rfl))).mono ?_
        rintro e w' ⟨rfl, hg2, hgr⟩
        refine ⟨_, rfl, hown w' g cap _ hlg hc hm ?_ hg2 ?_, hgr⟩
        · rw [length_splice _ _ _ (by rw [length_splice _ _ _ (by omega)]; omega), length_splice _ _ _ (by omega), hcl]
        · rw [show (i + 1) * 4 = i * 4 + 4 by omega, splice_shift cur.toList _ x.enc (i * 4) 4 ((l.length - i) * 4) hX hDl (by omega)]
          refine ⟨cur.toList.drop (i * 4 + 4 + (l.length - i) * 4), ?_⟩
          have e1 : cur.toList.take (i * 4) = (l.take i).flatMap Iss.enc := by
            rw [← (takeDrop Iss.len l i hi).1, ← ht, List.take_take, Nat.min_eq_left (by omega)]
          rw [e1]
      · refine (insGrow_c g cap i vb cur.toList l x w hlt hlc (by omega) hl (by simpa using hg) hcl ht hv).mono ?_
        rintro e w' ⟨C, Z, rfl, h1, h2, h3, h4, h5, h6⟩
        refine ⟨_, rfl, hown w' w.heap.size C _ hlo h1 h2 ?_ h5 ?_, only_of_below h6 _⟩
        · rw [length_splice _ _ _ (by rw [length_splice _ _ _ (by omega)]; omega), length_splice _ _ _ (by omega), h3]
        · rw [show (i + 1) * 4 = i * 4 + 4 by omega, splice_fill Z _ x.enc (i * 4) 4 ((l.length - i) * 4) hX hDl (by omega), h4]
          exact ⟨_, rfl⟩
  · refine (insEnd_c lo v l vb x w h hlo hl hv).mono ?_
    rintro e w' ⟨v', rfl, h1, h2⟩
    exact ⟨v', rfl, by simpa using h1, h2⟩
end Go.Proofs.YthibchaiaedboaaDoor
