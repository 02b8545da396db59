/- Cards: the words that two cards have, by the program and by the reference. No condition but sizes. -/
import Derived.Test.YteainpflmofjaaaGreatAc24
import Derived.Test.YteainpflmofjaaaGreatFindN
namespace Go.Proofs.YteainpflmofjaaaGreat
open Go.RowKit
theorem BoxAt.grown {W W' : World} {b : Nat} {cs : List Value} {row : Option Nat} (h : BoxAt W b cs) (hg : W.grownBy W' row) (hne : some b ≠ row) : BoxAt W' b cs := by
  refine ⟨Nat.lt_of_lt_of_le h.1 hg.size, fun j v hv => ?_⟩
  have e := hg.block b h.1 hne
  have := h.2 j v hv
  simp only [World.cell?] at this ⊢
  rw [e]
  exact this
theorem Own.empty' {α : Type} {W : World} {lo g : Nat} {e : TypeId} {enc : α → List Value} {k : Nat} (hg : g = W.heap.size) (h : lo ≤ W.heap.size) : Own (W.alloc (.cells #[] e)) lo e enc k (.slice (some ⟨g, 0, none⟩) 0 0) ([] : List α) := by
  subst hg; exact Own.empty _ _ _ _ _ h
def hasW (l : List ByteArray) (s : ByteArray) : Bool := (findTo (fun i => ((gd l i).toList == s.toList)) l.length).isSome
def commonL (a b : List ByteArray) : List ByteArray := a.filter (hasW b)
theorem commonL_yes {a b : List ByteArray} {k : Nat} (hk : k < a.length) (h : hasW b (gd a k) = true) : commonL (a.take (k + 1)) b = commonL (a.take k) b ++ [gd a k] := by
  rw [commonL, take_succ_gd hk, List.filter_append]; simp [commonL, h]
theorem commonL_no {a b : List ByteArray} {k : Nat} (hk : k < a.length) (h : hasW b (gd a k) = false) : commonL (a.take (k + 1)) b = commonL (a.take k) b := by
  rw [commonL, take_succ_gd hk, List.filter_append]; simp [commonL, h]
theorem commonL_len (a b : List ByteArray) : (commonL a b).length ≤ a.length := List.length_filter_le _ _
set_option maxHeartbeats 1000000 in
theorem l24Has_c (v : Value) (l : List ByteArray) (s : ByteArray) (w : World) (h : Sl w StrE.enc 1 v l) : Calls Tryz.prog 36 #[v, .string s] w fun e w' => e = .returned (.bool (hasW l s)) ∧ w = w' := by
  obtain ⟨a, cap, b, off, rfl, hlc, hm, hc⟩ := h
  unfold maxLen at hm
  go_enter Tryz.func36, Tryz.ntmps36
  go_wp2_with fail
  go_loop [5] (fun i => ∃ k : Nat, k ≤ l.length ∧ i = .int .i64 k ∧ Hid (∀ i, i < k → ((gd l i).toList == s.toList) = false)) (fun i => l.length - (intOf i).toNat)
  case atStart => exact ⟨0, Nat.zero_le _, rfl, fun i hi => by omega⟩
  case round =>
    obtain ⟨k, hk, rfl, hall⟩ := hrel
    by_cases hlt : k < l.length
    · obtain ⟨rfl, hbw, c0⟩ := StrE.at hc k hlt
      cases hq : ((gd l k).toList == s.toList)
      · have ho := Lib.hid hq
        go_wp2_with fail
        go_round
        case rel => exact ⟨k + 1, by omega, by go_num, upto_succ hall.out ho.out⟩
        case measure => simp [intOf]; omega
      · have he := Lib.hid (show hasW l s = true by rw [hasW, findTo_some (f := fun i => ((gd l i).toList == s.toList)) hall.out hq hlt]; rfl)
        go_wp2_with fail
        go_ret
        exact ⟨ret_bool he.out.symm, rfl⟩
    · obtain rfl : k = l.length := by omega
      have he := Lib.hid (show hasW l s = false by rw [hasW, findTo_none (f := fun i => ((gd l i).toList == s.toList)) hall.out]; rfl)
      go_wp2_with fail
      go_ret
      exact ⟨ret_bool he.out.symm, rfl⟩
set_option maxHeartbeats 2000000 in
set_option maxRecDepth 100000 in
theorem common_c (x y : Crd) (w : World) (hx : x.In w) (hy : y.In w) (hl : x.sub.length ≤ 1048576) : Calls Tryz.prog 48 #[.agg #[.int .i64 x.id, .int .i64 x.yr, .slice x.a x.sub.length x.cap], .agg #[.int .i64 y.id, .int .i64 y.yr, .slice y.a y.sub.length y.cap]] w (RetOwn w 9 StrE.enc 1 (commonL x.sub y.sub)) := by
  obtain ⟨xid, xyr, xa, xcap, xs⟩ := x
  obtain ⟨yid, yyr, ya, ycap, ys⟩ := y
  have hY := Lib.hid (fun s W (hB : Below w.heap.size w W) => containsStr_c (.slice ya ys.length ycap) ys s W (Sl.mono hy hB))
  clear hy
  obtain ⟨a, cap, b, off, hv, hlc, hm, hc⟩ := hx
  injection hv with e1 _ e2
  subst e1 e2
  dsimp only at hlc hm hc hl ⊢
  unfold maxLen at hm
  obtain ⟨i, hi, hz0, hz1, hz2⟩ := info_parts (show (Tryz.prog.info? 9).map (fun i => (i.zero, i.size, i.bytes)) = some (some (.string ByteArray.empty), 1, 16) by kernel_rfl)
  go_enter Tryz.func48, Tryz.ntmps48
  go_wp2_with fail
  go_loopw [5, 11] (fun o i wr => ∃ k : Nat, k ≤ xs.length ∧ i = .int .i64 k ∧ Hid (Own wr (w.heap.size + 2) 9 StrE.enc 1 o (commonL (xs.take k) ys)) ∧ Hid (BoxAt wr (w.heap.size + 1) [.int .i64 yid, .int .i64 yyr, .slice ya ys.length ycap]) ∧ Below w.heap.size w wr ∧ w.heap.size + 2 ≤ wr.heap.size) (fun _ i _ => xs.length - (intOf i).toNat)
  case atStart => exact ⟨0, Nat.zero_le _, rfl, Own.nil _ _ _ _ _, by show BoxAt _ _ _; simpa using BoxAt.new (w.alloc _) _ _, btrans (below_alloc _ _) (below_alloc _ _), by simp⟩
  case round =>
    obtain ⟨k, hk, rfl, ho, hbx, hb, hz⟩ := hrel
    obtain ⟨hB, y0, y1, y2⟩ : w.heap.size + 1 < wr.heap.size ∧ wr.cell? ⟨_, 0, none⟩ = some (.int .i64 yid) ∧ wr.cell? ⟨_, 1, none⟩ = some (.int .i64 yyr) ∧ wr.cell? ⟨_, 2, none⟩ = some (.slice ya ys.length ycap) :=
      ⟨hbx.out.1, hbx.out.2 0 _ rfl, hbx.out.2 1 _ rfl, hbx.out.2 2 _ rfl⟩
    by_cases hlt : k < xs.length
    · obtain ⟨ha, hbw, c0⟩ := StrE.at (hc.mono hb) k hlt
      subst ha
      have hC := Lib.hid (show ∀ W, Below w.heap.size w W → Calls Tryz.prog 45 #[.slice ya ys.length ycap, .string (gd xs k)] W fun e w' => e = .returned (.bool (hasW ys (gd xs k))) ∧ W = w' from hY.out (gd xs k))
      have hlen := commonL_len (xs.take k) ys
      have htk : (xs.take k).length = k := by simp; omega
      cases hh : hasW ys (gd xs k)
      · rw [hh] at hC
        have hun := Lib.hid (commonL_no hlt hh)
        clear hh
        go_wp2_with (go_at_call 45; refine (hC.out _ (by repeat' (first | exact Below.refl _ _ | with_reducible assumption | refine bext ?_ ?_ _ | refine Below.alloc ?_ ?_ _ | refine Below.setCell ?_ ?_ _ | refine Below.drew ?_ | (simp; done) | (have hbz := hb.size; first | omega | (simp; omega)) | (simp; omega) | omega))).mono ?_; rintro e w' ⟨rfl, rfl⟩)
        go_roundw
        case rel => exact ⟨k + 1, by omega, by go_num, by rw [hun.out]; exact ho.out, hbx.out, hb, hz⟩
        case measure => simp [intOf]; omega
      · rw [hh] at hC
        have hun := Lib.hid (commonL_yes hlt hh)
        clear hh
        go_wp2_with (first | (go_at_call 45; refine (hC.out _ (by repeat' (first | exact Below.refl _ _ | with_reducible assumption | refine bext ?_ ?_ _ | refine Below.alloc ?_ ?_ _ | refine Below.setCell ?_ ?_ _ | refine Below.drew ?_ | (simp; done) | (have hbz := hb.size; first | omega | (simp; omega)) | (simp; omega) | omega))).mono ?_; rintro e w' ⟨rfl, rfl⟩) | (at_builtin; refine wpList_push StrE.len StrE.one rfl _ _ 33 rfl (w.heap.size + 2) 9 i _ 16 Tryz.underlying33 hi hz0 hz1 hz2 rfl (by omega) _ (commonL (xs.take k) ys) rfl (ho.out.mono (by repeat' (first | exact Below.refl _ _ | with_reducible assumption | refine bext ?_ ?_ _ | refine Below.alloc ?_ ?_ _ | refine Below.setCell ?_ ?_ _ | refine Below.drew ?_ | (simp; done) | (have hbz := hb.size; first | omega | (simp; omega)) | (simp; omega) | omega))) _ 1 (gd xs k) rfl (fun j u hu => new_cells _ [.string (gd xs k)] _ _ (by simp) j u hu) (by unfold maxLen; omega) (by omega) (by simp; omega) ?_))
        intro v' w2 ho2 hg2
        have hb2 := below_push (lo := w.heap.size + 2) (B := w.heap.size) (a := w) (by repeat' (first | exact Below.refl _ _ | with_reducible assumption | refine bext ?_ ?_ _ | refine Below.alloc ?_ ?_ _ | refine Below.setCell ?_ ?_ _ | refine Below.drew ?_ | (simp; done) | (have hbz := hb.size; first | omega | (simp; omega)) | (simp; omega) | omega)) (ho.out.mono (by repeat' (first | exact Below.refl _ _ | with_reducible assumption | refine bext ?_ ?_ _ | refine Below.alloc ?_ ?_ _ | refine Below.setCell ?_ ?_ _ | refine Below.drew ?_ | (simp; done) | (have hbz := hb.size; first | omega | (simp; omega)) | (simp; omega) | omega))) hg2 (by omega) (by simp; omega)
        have hbx2 := (hbx.out.mono (below_alloc _ _)).grown hg2 (by
          intro e
          have := ho.out.bounds _ e.symm
          omega)
        have hs2 := hg2.size
        go_wp2_with fail
        go_roundw
        case rel => exact ⟨k + 1, by omega, by go_num, by rw [hun.out]; exact ho2, hbx2, hb2, by simp at hs2; omega⟩
        case measure => simp [intOf]; omega
    · obtain rfl : k = xs.length := by omega
      rw [List.take_length] at ho
      go_wp2_with fail
      go_ret
      exact ⟨_, rfl, ho.out.lower (by omega), hb⟩
set_option maxHeartbeats 2000000 in
set_option maxRecDepth 100000 in
theorem l24Common_c (x y : Crd) (w : World) (hx : x.In w) (hy : y.In w) (hl : x.sub.length ≤ 1048576) : Calls Tryz.prog 49 #[.agg #[.int .i64 x.id, .int .i64 x.yr, .slice x.a x.sub.length x.cap], .agg #[.int .i64 y.id, .int .i64 y.yr, .slice y.a y.sub.length y.cap]] w (RetOwn w 9 StrE.enc 1 (commonL x.sub y.sub)) := by
  obtain ⟨xid, xyr, xa, xcap, xs⟩ := x
  obtain ⟨yid, yyr, ya, ycap, ys⟩ := y
  have hY := Lib.hid (fun s W (hB : Below w.heap.size w W) => l24Has_c (.slice ya ys.length ycap) ys s W (Sl.mono hy hB))
  clear hy
  obtain ⟨a, cap, b, off, hv, hlc, hm, hc⟩ := hx
  injection hv with e1 _ e2
  subst e1 e2
  dsimp only at hlc hm hc hl ⊢
  unfold maxLen at hm
  obtain ⟨i, hi, hz0, hz1, hz2⟩ := info_parts (show (Tryz.prog.info? 9).map (fun i => (i.zero, i.size, i.bytes)) = some (some (.string ByteArray.empty), 1, 16) by kernel_rfl)
  go_enter Tryz.func49, Tryz.ntmps49
  go_wp2_with fail
  go_loopw [5, 6] (fun o i wr => ∃ k : Nat, k ≤ xs.length ∧ i = .int .i64 k ∧ Hid (Own wr (w.heap.size + 2) 9 StrE.enc 1 o (commonL (xs.take k) ys)) ∧ Hid (BoxAt wr (w.heap.size + 1) [.int .i64 yid, .int .i64 yyr, .slice ya ys.length ycap]) ∧ Hid (BoxAt wr w.heap.size [.int .i64 xid, .int .i64 xyr, .slice xa xs.length xcap]) ∧ Below w.heap.size w wr ∧ w.heap.size + 2 ≤ wr.heap.size) (fun _ i _ => xs.length - (intOf i).toNat)
  case atStart =>
    refine ⟨0, Nat.zero_le _, rfl, Own.empty' (by simp) (by simp), ?_, ?_, btrans (btrans (below_alloc _ _) (below_alloc _ _)) (below_alloc _ _), by simp⟩
    · show BoxAt _ _ _
      exact BoxAt.mono (by simpa using BoxAt.new (w.alloc _) _ _) (below_alloc _ _)
    · show BoxAt _ _ _
      exact ((BoxAt.new w _ _).mono (below_alloc _ _)).mono (below_alloc _ _)
  case round =>
    obtain ⟨k, hk, rfl, ho, hbx, hbx', hb, hz⟩ := hrel
    obtain ⟨hB, y0, y1, y2⟩ : w.heap.size + 1 < wr.heap.size ∧ wr.cell? ⟨_, 0, none⟩ = some (.int .i64 yid) ∧ wr.cell? ⟨_, 1, none⟩ = some (.int .i64 yyr) ∧ wr.cell? ⟨_, 2, none⟩ = some (.slice ya ys.length ycap) :=
      ⟨hbx.out.1, hbx.out.2 0 _ rfl, hbx.out.2 1 _ rfl, hbx.out.2 2 _ rfl⟩
    obtain ⟨hB', x0, x1, x2⟩ : w.heap.size < wr.heap.size ∧ wr.cell? ⟨_, 0, none⟩ = some (.int .i64 xid) ∧ wr.cell? ⟨_, 1, none⟩ = some (.int .i64 xyr) ∧ wr.cell? ⟨_, 2, none⟩ = some (.slice xa xs.length xcap) :=
      ⟨hbx'.out.1, hbx'.out.2 0 _ rfl, hbx'.out.2 1 _ rfl, hbx'.out.2 2 _ rfl⟩
    by_cases hlt : k < xs.length
    · obtain ⟨ha, hbw, c0⟩ := StrE.at (hc.mono hb) k hlt
      subst ha
      have hC := Lib.hid (hY.out (gd xs k))
      have hlen := commonL_len (xs.take k) ys
      have htk : (xs.take k).length = k := by simp; omega
      cases hh : hasW ys (gd xs k)
      · rw [hh] at hC
        have hun := Lib.hid (commonL_no hlt hh)
        clear hh
        go_wp2_with fail
        refine wp_region_ext (by kernel_rfl) (by kernel_rfl) ?_
        repeat (any_goals (first | go_big_quiet_step ((go_at_call 36; exact Calls.ext_same (hC.out _ (by repeat' (first | exact Below.refl _ _ | with_reducible assumption | refine bext ?_ ?_ _ | refine Below.alloc ?_ ?_ _ | refine Below.setCell ?_ ?_ _ | refine Below.drew ?_ | (simp; done) | (have hbz := hb.size; first | omega | (simp; omega)) | (simp; omega) | omega)))))))
        (refine wpQuiet_nil ?_)
        (rintro _ ⟨q, rfl⟩)
        go_wp2_with fail
        go_roundw
        case rel => exact ⟨k + 1, by omega, by go_num, by rw [hun.out]; exact ho.out.mono (below_ext _ _), hbx.out.mono (below_ext _ _), hbx'.out.mono (below_ext _ _), (by repeat' (first | exact Below.refl _ _ | with_reducible assumption | refine bext ?_ ?_ _ | refine Below.alloc ?_ ?_ _ | refine Below.setCell ?_ ?_ _ | refine Below.drew ?_ | (simp; done) | (have hbz := hb.size; first | omega | (simp; omega)) | (simp; omega) | omega)), by simp; omega⟩
        case measure => simp [intOf]; omega
      · rw [hh] at hC
        have hun := Lib.hid (commonL_yes hlt hh)
        clear hh
        go_wp2_with fail
        refine wp_region_ext (by kernel_rfl) (by kernel_rfl) ?_
        repeat (any_goals (first | go_big_quiet_step ((go_at_call 36; exact Calls.ext_same (hC.out _ (by repeat' (first | exact Below.refl _ _ | with_reducible assumption | refine bext ?_ ?_ _ | refine Below.alloc ?_ ?_ _ | refine Below.setCell ?_ ?_ _ | refine Below.drew ?_ | (simp; done) | (have hbz := hb.size; first | omega | (simp; omega)) | (simp; omega) | omega)))))))
        (refine wpQuiet_nil ?_)
        (rintro _ ⟨q, rfl⟩)
        go_wp2_with (at_builtin; refine wpList_push StrE.len StrE.one rfl _ _ 33 rfl (w.heap.size + 2) 9 i _ 16 Tryz.underlying33 hi hz0 hz1 hz2 rfl (by omega) _ (commonL (xs.take k) ys) rfl (ho.out.mono (by repeat' (first | exact Below.refl _ _ | with_reducible assumption | refine bext ?_ ?_ _ | refine Below.alloc ?_ ?_ _ | refine Below.setCell ?_ ?_ _ | refine Below.drew ?_ | (simp; done) | (have hbz := hb.size; first | omega | (simp; omega)) | (simp; omega) | omega))) _ 1 (gd xs k) rfl (fun j u hu => new_cells _ [.string (gd xs k)] _ _ (by simp) j u hu) (by unfold maxLen; omega) (by omega) (by simp; omega) ?_)
        intro v' w2 ho2 hg2
        have hb2 := below_push (lo := w.heap.size + 2) (B := w.heap.size) (a := w) (by repeat' (first | exact Below.refl _ _ | with_reducible assumption | refine bext ?_ ?_ _ | refine Below.alloc ?_ ?_ _ | refine Below.setCell ?_ ?_ _ | refine Below.drew ?_ | (simp; done) | (have hbz := hb.size; first | omega | (simp; omega)) | (simp; omega) | omega)) (ho.out.mono (by repeat' (first | exact Below.refl _ _ | with_reducible assumption | refine bext ?_ ?_ _ | refine Below.alloc ?_ ?_ _ | refine Below.setCell ?_ ?_ _ | refine Below.drew ?_ | (simp; done) | (have hbz := hb.size; first | omega | (simp; omega)) | (simp; omega) | omega))) hg2 (by omega) (by simp; omega)
        have hne : ∀ g, g < w.heap.size + 2 → some g ≠ Value.ownBlock _ := fun g hg e => by
          have := ho.out.bounds _ e.symm
          omega
        have hbx2 := ((hbx.out.mono (below_ext _ _)).mono (below_alloc _ _)).grown hg2 (hne _ (by omega))
        have hbx2' := ((hbx'.out.mono (below_ext _ _)).mono (below_alloc _ _)).grown hg2 (hne _ (by omega))
        have hs2 := hg2.size
        go_wp2_with fail
        go_roundw
        case rel => exact ⟨k + 1, by omega, by go_num, by rw [hun.out]; exact ho2, hbx2, hbx2', hb2, by simp at hs2; omega⟩
        case measure => simp [intOf]; omega
    · obtain rfl : k = xs.length := by omega
      rw [List.take_length] at ho
      go_wp2_with fail
      go_ret
      exact ⟨_, rfl, ho.out.lower (by omega), hb⟩
/-! ### where a card stands -/
def crdIdx (l : List Crd) (n : Int) : Option Nat := findTo (fun i => (gd l i).id == n) l.length
set_option maxHeartbeats 1000000 in
theorem l24Find_c (v : Value) (l : List Crd) (n : Int) (w : World) (h : Sl w Crd.enc 3 v l) : Calls Tryz.prog 34 #[v, .int .i64 n] w fun e w' => e = .returned (.int .i64 (idxInt (crdIdx l n))) ∧ w = w' := by
  obtain ⟨a, cap, b, off, rfl, hlc, hm, hc⟩ := h
  unfold maxLen at hm
  go_enter Tryz.func34, Tryz.ntmps34
  go_wp2_with fail
  go_loop [5] (fun i => ∃ k : Nat, k ≤ l.length ∧ i = .int .i64 k ∧ Hid (∀ i, i < k → ((gd l i).id == n) = false)) (fun i => l.length - (intOf i).toNat)
  case atStart => exact ⟨0, Nat.zero_le _, rfl, fun i hi => by omega⟩
  case round =>
    obtain ⟨k, hk, rfl, hall⟩ := hrel
    by_cases hlt : k < l.length
    · obtain ⟨rfl, hbw, c0, -, -⟩ := Crd.at hc k hlt
      cases hq : (gd l k).id == n
      · go_wp2_with fail
        go_round
        case rel => exact ⟨k + 1, by omega, by go_num, upto_succ hall.out hq⟩
        case measure => simp [intOf]; omega
      · have he : Hid (crdIdx l n = some k) := findTo_some hall.out hq hlt
        go_wp2_with fail
        go_ret
        exact ⟨ret_int (by rw [he.out]; rfl), rfl⟩
    · obtain rfl : k = l.length := by omega
      have he : Hid (crdIdx l n = none) := findTo_none hall.out
      go_wp2_with fail
      go_ret
      exact ⟨ret_int (by rw [he.out]; rfl), rfl⟩
set_option maxHeartbeats 400000 in
theorem cardAt1_c (x y : Int) (z : Value) (_ : z.oneCell' = true) (n : Int) (b : Nat) (W : World) (hc : W.cell? ⟨b, 0, none⟩ = some (.int .i64 n)) : Calls Tryz.prog 64 #[.agg #[.int .i64 x, .int .i64 y, z], .pointer (some ⟨b, 0, none⟩)] W fun e w' =>
    e = .returned (.bool (x == n)) ∧ Below W.heap.size W w' := by
  have hb := block_lt_of_cell hc
  go_enter Tryz.func64, Tryz.ntmps64
  go_wp2
  go_ret
  exact ⟨rfl, by go_grown⟩
set_option maxHeartbeats 400000 in
theorem cardAt_c (v : Value) (l : List Crd) (n : Int) (w : World) (h : Sl w Crd.enc 3 v l) : Calls Tryz.prog 30 #[v, .int .i64 n] w fun e w' => e = .returned (.int .i64 (idxInt (crdIdx l n))) ∧ Below w.heap.size w w' := by
  obtain ⟨a, cap, b, off, rfl, hlc, hm, hc⟩ := h
  have H := Lib.hid (indexFuncCrd_c a cap b off l (w.alloc (.cells #[.int .i64 n] 3)) 64 #[.pointer (some ⟨w.heap.size, 0, none⟩)] (fun i => (gd l i).id == n) (by omega) (hc.mono (below_alloc _ _)) (fun _ _ => by kernel_rfl) (fun i W hi hB =>
    cardAt1_c _ _ _ rfl n w.heap.size W ((hB.cell (p := ⟨w.heap.size, 0, none⟩) (by simp)).trans (by simp))))
  clear hc
  go_enter Tryz.func30, Tryz.ntmps30
  go_wp2_with fail
  refine H.out.mono ?_
  rintro e w' ⟨rfl, hb⟩
  go_wp2_with fail
  go_ret
  exact ⟨rfl, btrans (below_alloc _ _) hb⟩
end Go.Proofs.YteainpflmofjaaaGreat
