/- Issues drawn from bytes: the arguments of FnIssues. No condition. -/
import Derived.Test.YthibchaiaedboaaDoorDx20
import Derived.Outline
import Derived.OwnWalk
namespace Go.Proofs.YthibchaiaedboaaDoor
open Go.RowKit
theorem below_of_row {w w' : World} {B : Nat} (h : w.grownBy w' (some B)) (hB : w.heap.size ≤ B) : Below w.heap.size w w' := (Below.refl _ _).grown h (Nat.le_refl _) (fun g hg => by injection hg with hg; omega)
def DrawLI2 (w : World) (e : Ending) (w' : World) : Prop := ∃ (v : Value) (l : List Iss) (s : Int), e = .returned (.tuple #[v, .int .i64 s]) ∧ DrawL w w' v l
set_option maxHeartbeats 4000000 in
theorem drawTrueSheets_c (v : Value) (w : World) (h : Bytes w v) : Calls Tryd.prog 7 #[v] w (DrawLI2 w) := by
  have C0 := Lib.hid (Bytes.cur (t := 81) h)
  obtain ⟨a, n0, cap, b, off, rfl, -, -, -⟩ := h
  go_enter Tryd.func7, Tryd.ntmps7
  go_wp2_with fail
  refine (issues_c _ _ 0 C0.out (by omega)).mono ?_
  rintro e w1 ⟨lv, l, rfl, S1⟩
  have S1 := Lib.hid S1
  go_wp2_with fail
  refine (issueDay_c _ _ 200 S1.out.2.2.1 (by omega)).mono ?_
  rintro e w3 ⟨d, hd, rfl, C3, g3⟩
  have S3 := Lib.hid (S1.out.turn g3 C3)
  clear S1 C3 g3 hd
  go_wp2_with fail
  go_ret2
  exact ⟨lv, l, d, rfl, DrawL.of rfl S3.out (by omega)⟩
def DrawLII2 (w : World) (e : Ending) (w' : World) : Prop := ∃ (v : Value) (l : List Iss) (s d : Int), e = .returned (.tuple #[v, .int .i64 s, .int .i64 d]) ∧ DrawL w w' v l
set_option maxHeartbeats 4000000 in
theorem drawTrueIssue_c (v : Value) (w : World) (h : Bytes w v) : Calls Tryd.prog 14 #[v] w (DrawLII2 w) := by
  have C0 := Lib.hid (Bytes.cur (t := 81) h)
  obtain ⟨a, n0, cap, b, off, rfl, -, -, -⟩ := h
  go_enter Tryd.func14, Tryd.ntmps14
  go_wp2_with fail
  refine (issues_c _ _ 0 C0.out (by omega)).mono ?_
  rintro e w1 ⟨lv, l, rfl, S1⟩
  have S1 := Lib.hid S1
  go_wp2_with fail
  refine (issueOf_c _ _ 200 lv l S1.out.2.2.1 (by omega) (by have := S1.out.2.1; omega) S1.out.sls).mono ?_
  rintro e w2 ⟨s, n, rfl, C2, g2⟩
  have S2 := Lib.hid (S1.out.turn g2 C2)
  clear S1 C2 g2
  go_wp2_with fail
  refine (issueDay_c _ _ 206 S2.out.2.2.1 (by omega)).mono ?_
  rintro e w3 ⟨d, hd, rfl, C3, g3⟩
  have S3 := Lib.hid (S2.out.turn g3 C3)
  clear S2 C3 g3 hd
  go_wp2_with fail
  go_ret3
  exact ⟨lv, l, s, d, rfl, DrawL.of rfl S3.out (by omega)⟩
def DrawLI4 (w : World) (e : Ending) (w' : World) : Prop := ∃ (v : Value) (l : List Iss) (s f u : Int), e = .returned (.tuple #[v, .int .i64 s, .int .i64 f, .int .i64 u]) ∧ DrawL w w' v l
set_option maxHeartbeats 4000000 in
theorem drawFirstGap_c (v : Value) (w : World) (h : Bytes w v) : Calls Tryd.prog 16 #[v] w (DrawLI4 w) := by
  have C0 := Lib.hid (Bytes.cur (t := 81) h)
  obtain ⟨a, n0, cap, b, off, rfl, -, -, -⟩ := h
  go_enter Tryd.func16, Tryd.ntmps16
  go_wp2_with fail
  refine (issues_c _ _ 0 C0.out (by omega)).mono ?_
  rintro e w1 ⟨lv, l, rfl, S1⟩
  have S1 := Lib.hid S1
  go_wp2_with fail
  refine (issueOf_c _ _ 200 lv l S1.out.2.2.1 (by omega) (by have := S1.out.2.1; omega) S1.out.sls).mono ?_
  rintro e w2 ⟨s, n, rfl, C2, g2⟩
  have S2 := Lib.hid (S1.out.turn g2 C2)
  clear S1 C2 g2
  go_wp2_with fail
  refine (issueDay_c _ _ 206 S2.out.2.2.1 (by omega)).mono ?_
  rintro e w3 ⟨d, hd, rfl, C3, g3⟩
  have S3 := Lib.hid (S2.out.turn g3 C3)
  clear S2 C3 g3
  go_wp2_with fail
  refine (amongL_c [.int .i64 0, .int .i64 1, .int .i64 5, .int .i64 10, .int .i64 100, .int .i64 (-1)] (fun _ => True) S3.out.2.2.1 (by omega) (by simp) (by simp) (by simp) (by simp) (by simp)).mono ?_
  rintro e w4 ⟨u, -, rfl, C4, g4⟩
  have S4 := Lib.hid (S3.out.turn g4 C4)
  clear S3 C4 g4
  go_wp2_with fail
  go_returns
  exact ⟨lv, l, s, d, _, rfl, DrawL.of rfl S4.out (by omega)⟩
def DrawLX (w : World) (e : Ending) (w' : World) : Prop := ∃ (v : Value) (l : List Iss) (x : Iss), e = .returned (.tuple #[v, .agg #[.int .i64 x.s, .int .i64 x.n, .int .i64 x.fr, .int .i64 x.un]]) ∧ Own w' w.heap.size 41 Iss.enc 4 v l ∧ l.length ≤ 17 ∧ Below w.heap.size w w'
set_option maxHeartbeats 4000000 in
set_option maxRecDepth 100000 in
theorem drawPutIssue_c (v : Value) (w : World) (h : Bytes w v) : Calls Tryd.prog 19 #[v] w (DrawLX w) := by
  have R0 := Lib.hid (Blk.new w 41 [.int .i64 0, .int .i64 0, .int .i64 0, .int .i64 0])
  have C0 := Lib.hid (Bytes.cur (t := 81) (h.mono (below_alloc w (.cells #[.int .i64 0, .int .i64 0, .int .i64 0, .int .i64 0] 41))))
  obtain ⟨a, n0, cap, b, off, rfl, -, -, -⟩ := h
  rw [show (w.alloc (.cells #[.int .i64 0, .int .i64 0, .int .i64 0, .int .i64 0] 41)).heap.size = w.heap.size + 1 by simp] at C0
  go_enter Tryd.func19, Tryd.ntmps19
  go_wp2_with fail
  refine callsAt (fun W0 hW0 => ?_)
  have C0 : Hid (Cur W0 (w.heap.size + 1) 0) := by rw [hW0]; exact C0
  have R0 : Hid (Blk W0 w.heap.size 41 [.int .i64 0, .int .i64 0, .int .i64 0, .int .i64 0]) := by rw [hW0]; exact Lib.hid (R0.out.mono (below_alloc _ _))
  have G0 : Hid (w.grownBy W0 (some (w.heap.size + 1))) := by rw [hW0]; exact Lib.hid (only_new (only_new (World.grownBy.refl _ _)))
  have hz0' : w.heap.size + 1 < W0.heap.size := C0.out.lt
  clear hW0
  refine (issues_c _ _ 0 C0.out (by omega)).mono ?_
  rintro e w1 ⟨lv, l, rfl, S1⟩
  have R1 := Lib.hid (R0.out.grown S1.2.2.2.1 (by omega))
  have G1 := Lib.hid (only_trans G0.out S1.2.2.2.1)
  have S1 := Lib.hid S1
  clear C0 R0
  go_wp2_with fail
  refine (issueOf_c _ _ 200 lv l S1.out.2.2.1 (by omega) (by have := S1.out.2.1; omega) S1.out.sls).mono ?_
  rintro e w2 ⟨s, n, rfl, C2, g2⟩
  have S2 := Lib.hid (S1.out.turn g2 C2)
  have R2 := Lib.hid (R1.out.grown g2 (by omega))
  clear S1 C2 g2 R1 G1
  go_wp2_with fail
  refine (amongL_c [.int .i64 n, .int .i64 n, .int .i64 9, .int .i64 99] (fun _ => True) S2.out.2.2.1 (by omega) (by simp) (by simp) (by simp) (by simp) (by simp)).mono ?_
  rintro e w3 ⟨k, -, rfl, C3, g3⟩
  have S3 := Lib.hid (S2.out.turn g3 C3)
  have R3 := Lib.hid (R2.out.grown g3 (by omega))
  clear S2 C3 g3 R2
  go_wp2_with fail
  refine (issue_c _ _ _ s k S3.out.2.2.1 (by omega)).mono ?_
  rintro e w4 ⟨f, u, rfl, C4, g4⟩
  have S4 := Lib.hid (S3.out.turn g4 C4)
  have R4 := Lib.hid (R3.out.grown g4 (by omega))
  clear S3 C4 g4 R3
  have r0 := R4.out.cell 0 _ rfl
  have r1 := R4.out.cell 1 _ rfl
  have r2 := R4.out.cell 2 _ rfl
  have r3 := R4.out.cell 3 _ rfl
  have rz0 := R4.out.frozen 0
  have rz1 := R4.out.frozen 1
  have rz2 := R4.out.frozen 2
  have rz3 := R4.out.frozen 3
  have hR4 := R4.out.lt
  go_wp2_with fail
  refine bodyPost_ret (v := .tuple #[lv, .agg #[.int .i64 s, .int .i64 k, .int .i64 f, .int .i64 u]]) (by simp [results, Tryd.results19, go_sem, r0, r1, r2, r3]) rfl ?_
  have hg := fun (a0 a1 a2 a3 : Value) => only_set (j := 3) (v := a3) (only_set (j := 2) (v := a2) (only_set (j := 1) (v := a1) (only_set (j := 0) (v := a0) (World.grownBy.refl w4 (some w.heap.size)))))
  have ho := S4.out.1.lower (lo' := w.heap.size) (by omega)
  refine ⟨lv, l, ⟨s, k, f, u⟩, rfl, World.ownsRow.kept ho (hg _ _ _ _) ?_, S4.out.2.1, (below_of_row (only_trans G0.out S4.out.2.2.2.1) (by omega)).grown (hg _ _ _ _) (by omega) (fun g hg => by injection hg with hg; omega)⟩
  cases hb : lv.ownBlock with
  | none => exact .inl rfl
  | some b => exact .inr (fun e => by have := (S4.out.1.bounds b hb).1; injection e with e; omega)
def DrawX (w : World) (e : Ending) (w' : World) : Prop := ∃ (x : Iss), e = .returned (.agg #[.int .i64 x.s, .int .i64 x.n, .int .i64 x.fr, .int .i64 x.un]) ∧ Below w.heap.size w w'
set_option maxHeartbeats 4000000 in
set_option maxRecDepth 100000 in
theorem drawIsIssue_c (v : Value) (w : World) (h : Bytes w v) : Calls Tryd.prog 70 #[v] w (DrawX w) := by
  have R0 := Lib.hid (Blk.new w 41 [.int .i64 0, .int .i64 0, .int .i64 0, .int .i64 0])
  have C0 := Lib.hid (Bytes.cur (t := 81) (h.mono (below_alloc w (.cells #[.int .i64 0, .int .i64 0, .int .i64 0, .int .i64 0] 41))))
  obtain ⟨a, n0, cap, b, off, rfl, -, -, -⟩ := h
  rw [show (w.alloc (.cells #[.int .i64 0, .int .i64 0, .int .i64 0, .int .i64 0] 41)).heap.size = w.heap.size + 1 by simp] at C0
  go_enter Tryd.func70, Tryd.ntmps70
  go_wp2_with fail
  refine (amongL_c [.int .i64 1, .int .i64 12, .int .i64 999, .int .i64 0] (fun _ => True) C0.out (by omega) (by simp) (by simp) (by simp) (by simp) (by simp)).mono ?_
  rintro e w2 ⟨s, -, rfl, C2, g2⟩
  have R2 := Lib.hid ((R0.out.mono (below_alloc _ _)).grown g2 (by omega))
  have G2 := Lib.hid (only_trans (show w.grownBy _ (some (w.heap.size + 1)) from only_new (only_new (World.grownBy.refl _ _))) g2)
  replace C2 := Lib.hid C2
  clear g2 R0 C0
  go_wp2_with fail
  refine (amongL_c [.int .i64 1, .int .i64 9, .int .i64 99, .int .i64 0, .int .i64 100] (fun _ => True) C2.out (by omega) (by simp) (by simp) (by simp) (by simp) (by simp)).mono ?_
  rintro e w3 ⟨k, -, rfl, C3, g3⟩
  have R3 := Lib.hid (R2.out.grown g3 (by omega))
  have G3 := Lib.hid (only_trans G2.out g3)
  replace C3 := Lib.hid C3
  clear g3 R2 C2 G2
  go_wp2_with fail
  refine (issue_c _ _ _ s k C3.out (by omega)).mono ?_
  rintro e w4 ⟨f, u, rfl, C4, g4⟩
  have R4 := Lib.hid (R3.out.grown g4 (by omega))
  have G4 := Lib.hid (only_trans G3.out g4)
  clear g4 R3 G3 C4 C3
  have r0 := R4.out.cell 0 _ rfl
  have r1 := R4.out.cell 1 _ rfl
  have r2 := R4.out.cell 2 _ rfl
  have r3 := R4.out.cell 3 _ rfl
  have rz0 := R4.out.frozen 0
  have rz1 := R4.out.frozen 1
  have rz2 := R4.out.frozen 2
  have rz3 := R4.out.frozen 3
  have hR4 := R4.out.lt
  go_wp2_with fail
  refine bodyPost_ret (v := .agg #[.int .i64 s, .int .i64 k, .int .i64 f, .int .i64 u]) (by simp [results, Tryd.results70, go_sem, r0, r1, r2, r3]) rfl ?_
  have hg := fun (a0 a1 a2 a3 : Value) => only_set (j := 3) (v := a3) (only_set (j := 2) (v := a2) (only_set (j := 1) (v := a1) (only_set (j := 0) (v := a0) (World.grownBy.refl w4 (some w.heap.size)))))
  exact ⟨⟨s, k, f, u⟩, rfl, (below_of_row G4.out (by omega)).grown (hg _ _ _ _) (by omega) (fun g hg => by injection hg with hg; omega)⟩
set_option maxHeartbeats 4000000 in
set_option maxRecDepth 100000 in
theorem drawIssueText_c (v : Value) (w : World) (h : Bytes w v) : Calls Tryd.prog 23 #[v] w (DrawX w) := by
  have R0 := Lib.hid (Blk.new w 41 [.int .i64 0, .int .i64 0, .int .i64 0, .int .i64 0])
  have H0 := Lib.hid (drawIsIssue_c v _ (h.mono (below_alloc w (.cells #[.int .i64 0, .int .i64 0, .int .i64 0, .int .i64 0] 41))))
  obtain ⟨a, n0, cap, b, off, rfl, -, -, -⟩ := h
  go_enter Tryd.func23, Tryd.ntmps23
  go_wp2_with fail
  refine H0.out.mono ?_
  rintro e w4 ⟨x, rfl, hb⟩
  have R4 := Lib.hid (R0.out.mono hb)
  have B4 := (below_alloc w (.cells #[.int .i64 0, .int .i64 0, .int .i64 0, .int .i64 0] 41)).trans (hb.mono (by simp))
  have r0 := R4.out.cell 0 _ rfl
  have r1 := R4.out.cell 1 _ rfl
  have r2 := R4.out.cell 2 _ rfl
  have r3 := R4.out.cell 3 _ rfl
  have rz0 := R4.out.frozen 0
  have rz1 := R4.out.frozen 1
  have rz2 := R4.out.frozen 2
  have rz3 := R4.out.frozen 3
  have hR4 := R4.out.lt
  replace B4 := Lib.hid B4
  clear hb H0 R0
  go_wp2_with fail
  refine bodyPost_ret (v := .agg #[.int .i64 x.s, .int .i64 x.n, .int .i64 x.fr, .int .i64 x.un]) (by simp [results, Tryd.results23, go_sem, r0, r1, r2, r3]) rfl ?_
  have hg := fun (a0 a1 a2 a3 : Value) => only_set (j := 3) (v := a3) (only_set (j := 2) (v := a2) (only_set (j := 1) (v := a1) (only_set (j := 0) (v := a0) (World.grownBy.refl w4 (some w.heap.size)))))
  exact ⟨x, rfl, B4.out.grown (hg _ _ _ _) B4.out.size (fun g hg => by injection hg with hg; omega)⟩
end Go.Proofs.YthibchaiaedboaaDoor
