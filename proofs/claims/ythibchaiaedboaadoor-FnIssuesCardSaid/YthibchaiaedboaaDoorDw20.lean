/- Issues drawn from choices: what each draw leaves. No condition but that not too many choices were read. -/
import Derived.Test.YthibchaiaedboaaDoorCu
import Derived.Test.YthibchaiaedboaaDoorSe20
import Derived.Test.YthibchaiaedboaaDoorStep
import Derived.Test.YthibchaiaedboaaDoorPn
import Derived.Outline
import Derived.Deep.Cut
import Derived.Deep.CutBlock
namespace Go.Proofs.YthibchaiaedboaaDoor
open Go.RowKit
/-- a call that hands back an issue and has read choices -/
def CurX (w : World) (B m : Nat) (s n : Int) (e : Ending) (w' : World) : Prop := ∃ f u : Int, e = .returned (.agg #[.int .i64 s, .int .i64 n, .int .i64 f, .int .i64 u]) ∧ Cur w' B m ∧ w.grownBy w' (some B)
set_option maxHeartbeats 4000000 in
set_option maxRecDepth 100000 in
theorem issue_c (w : World) (B m : Nat) (s n : Int) (h : Cur w B m) (hm : m ≤ 100000000) : Calls Tryd.prog 65 #[.pointer (some ⟨B, 0, none⟩), .int .i64 s, .int .i64 n] w (CurX w B (m + 8) s n) := by
  have hB := h.lt
  have R0 := Lib.hid (Blk.new w 41 [.int .i64 0, .int .i64 0, .int .i64 0, .int .i64 0])
  go_enter Tryd.func65, Tryd.ntmps65
  go_wp2_with fail
  refine (amongL_c [.int .i64 0, .int .i64 5, .int .i64 10, .int .i64 10, .int .i64 20, .int .i64 3990] (fun _ => True) (h.mono (below_alloc _ _)) (by omega) (by simp) (by simp) (by simp) (by simp) (by simp)).mono ?_
  rintro e W2 ⟨f, -, rfl, C2, g2⟩
  have R2 := Lib.hid (R0.out.grown g2 (by omega))
  have G2 := Lib.hid (only_trans (only_of_below (below_alloc _ _) _) g2)
  replace C2 := Lib.hid C2
  have hz2 := G2.out.size
  have hR2 := R2.out.lt
  clear R0 g2 h
  go_wp2_with fail
  refine (amongL_c [.int .i64 0, .int .i64 4, .int .i64 5, .int .i64 10, .int .i64 10] (fun _ => True) C2.out (by omega) (by simp) (by simp) (by simp) (by simp) (by simp)).mono ?_
  rintro e W3 ⟨u, -, rfl, C3, g3⟩
  have R3 := Lib.hid (R2.out.grown g3 (by omega))
  have G3 := Lib.hid (only_trans G2.out g3)
  replace C3 := Lib.hid C3
  have hz3 := G3.out.size
  have hR3 := R3.out.lt
  clear R2 g3 C2 G2
  go_wp2_with fail
  generalize wrap64 (f + u) = u2
  have X3 := Lib.hid (Blk.new W3 41 [.int .i64 s, .int .i64 n, .int .i64 f, .int .i64 u2])
  refine (pick_c _ B (m + 4) 64 (C3.out.mono (below_alloc _ _)) (by omega) (by omega)).mono ?_
  rintro e W4 ⟨p, -, rfl, C4, g4⟩
  have R4 := Lib.hid ((R3.out.mono (below_alloc _ _)).grown g4 (by omega))
  have X4 := Lib.hid (X3.out.grown g4 (by omega))
  have G4 := Lib.hid (only_trans (only_trans G3.out (only_of_below (below_alloc _ _) _)) g4)
  replace C4 := Lib.hid C4
  have hz4 := G4.out.size
  have hR4 := R4.out.lt
  have hX4 := X4.out.lt
  have hRX : w.heap.size < W3.heap.size := hR3
  clear R3 g4 C3 G3 X3
  generalize hXb : W3.heap.size = X at X4 hX4 hRX ⊢
  clear hXb
  have hRX2 : ¬ w.heap.size = X := by omega
  have x0 := X4.out.cell 0 _ rfl
  have x1 := X4.out.cell 1 _ rfl
  have x2 := X4.out.cell 2 _ rfl
  have x3 := X4.out.cell 3 _ rfl
  have xz2 := X4.out.frozen 2
  have xz3 := X4.out.frozen 3
  have r0 := R4.out.cell 0 _ rfl
  have r1 := R4.out.cell 1 _ rfl
  have r2 := R4.out.cell 2 _ rfl
  have r3 := R4.out.cell 3 _ rfl
  have rz0 := R4.out.frozen 0
  have rz1 := R4.out.frozen 1
  have rz2 := R4.out.frozen 2
  have rz3 := R4.out.frozen 3
  by_cases hp0 : p = 0
  · subst hp0
    go_wp2_with fail
    generalize wrap64 (u2 + 1) = u3
    clear x0 x1 x2 x3 xz2 xz3 r0 r1 r2 r3 rz0 rz1 rz2 rz3
    refine (amongL_c [.int .i64 (-1), .int .i64 u3] (fun _ => True) C4.out (by omega) (by simp) (by simp) (by simp) (by simp) (by simp)).mono ?_
    rintro e W5 ⟨f2, -, rfl, C5, g5⟩
    have R5 := Lib.hid (R4.out.grown g5 (by omega))
    have X5 := Lib.hid (X4.out.grown g5 (by omega))
    have G5 := Lib.hid (only_trans G4.out g5)
    replace C5 := Lib.hid C5
    clear R4 X4 g5 C4 G4
    have hz5 := G5.out.size
    have hR5 := R5.out.lt
    have hX5 := X5.out.lt
    have x0 := X5.out.cell 0 _ rfl
    have x1 := X5.out.cell 1 _ rfl
    have x2 := X5.out.cell 2 _ rfl
    have x3 := X5.out.cell 3 _ rfl
    have xz2 := X5.out.frozen 2
    have xz3 := X5.out.frozen 3
    have r0 := R5.out.cell 0 _ rfl
    have r1 := R5.out.cell 1 _ rfl
    have r2 := R5.out.cell 2 _ rfl
    have r3 := R5.out.cell 3 _ rfl
    have rz0 := R5.out.frozen 0
    have rz1 := R5.out.frozen 1
    have rz2 := R5.out.frozen 2
    have rz3 := R5.out.frozen 3
    go_wp2_with fail
    refine bodyPost_ret (v := .agg #[.int .i64 s, .int .i64 n, .int .i64 f2, .int .i64 u2]) (by simp [results, Tryd.results65, go_sem, r0, r1, r2, r3]) rfl ?_
    exact ⟨f2, u2, rfl, (((((C5.out.le (by omega)).set (by omega)).set (by omega)).set (by omega)).set (by omega)).set (by omega), only_setN (only_setN (only_setN (only_setN (only_setN G5.out (by omega)) (by omega)) (by omega)) (by omega)) (by omega)⟩
  · have hp0' : (p == 0) = false := by simpa using hp0
    by_cases hp1 : p = 1
    · subst hp1
      go_wp2_with fail
      clear x0 x1 x2 x3 xz2 xz3 r0 r1 r2 r3 rz0 rz1 rz2 rz3
      refine (amongL_c [.int .i64 4000, .int .i64 4001] (fun _ => True) C4.out (by omega) (by simp) (by simp) (by simp) (by simp) (by simp)).mono ?_
      rintro e W5 ⟨f2, -, rfl, C5, g5⟩
      have R5 := Lib.hid (R4.out.grown g5 (by omega))
      have X5 := Lib.hid (X4.out.grown g5 (by omega))
      have G5 := Lib.hid (only_trans G4.out g5)
      replace C5 := Lib.hid C5
      clear R4 X4 g5 C4 G4
      have hz5 := G5.out.size
      have hR5 := R5.out.lt
      have hX5 := X5.out.lt
      have x0 := X5.out.cell 0 _ rfl
      have x1 := X5.out.cell 1 _ rfl
      have x2 := X5.out.cell 2 _ rfl
      have x3 := X5.out.cell 3 _ rfl
      have xz2 := X5.out.frozen 2
      have xz3 := X5.out.frozen 3
      have r0 := R5.out.cell 0 _ rfl
      have r1 := R5.out.cell 1 _ rfl
      have r2 := R5.out.cell 2 _ rfl
      have r3 := R5.out.cell 3 _ rfl
      have rz0 := R5.out.frozen 0
      have rz1 := R5.out.frozen 1
      have rz2 := R5.out.frozen 2
      have rz3 := R5.out.frozen 3
      go_wp2_with fail
      refine bodyPost_ret (v := .agg #[.int .i64 s, .int .i64 n, .int .i64 f, .int .i64 f2]) (by simp [results, Tryd.results65, go_sem, r0, r1, r2, r3]) rfl ?_
      exact ⟨f, f2, rfl, (((((C5.out.le (by omega)).set (by omega)).set (by omega)).set (by omega)).set (by omega)).set (by omega), only_setN (only_setN (only_setN (only_setN (only_setN G5.out (by omega)) (by omega)) (by omega)) (by omega)) (by omega)⟩
    · have hp1' : (p == 1) = false := by simpa using hp1
      go_wp2_with fail
      refine bodyPost_ret (v := .agg #[.int .i64 s, .int .i64 n, .int .i64 f, .int .i64 u2]) (by simp [results, Tryd.results65, go_sem, r0, r1, r2, r3]) rfl ?_
      exact ⟨f, u2, rfl, ((((C4.out.le (by omega)).set (by omega)).set (by omega)).set (by omega)).set (by omega), only_setN (only_setN (only_setN (only_setN G4.out (by omega)) (by omega)) (by omega)) (by omega)⟩
/-- a call that hands back a list of issues and has read choices -/
def CurIss (w : World) (B m : Nat) (e : Ending) (w' : World) : Prop := ∃ (v : Value) (l : List Iss), e = .returned v ∧ LSt w w' B 41 Iss.enc 4 v l m 17
abbrev ISt (w0 w : World) (B : Nat) (v : Value) (l : List Iss) (m N : Nat) : Prop := LSt w0 w B 41 Iss.enc 4 v l m N
set_option maxHeartbeats 8000000 in
set_option maxRecDepth 100000 in
theorem issues_c (w : World) (B m : Nat) (h : Cur w B m) (hm : m ≤ 10000000) : Calls Tryd.prog 50 #[.pointer (some ⟨B, 0, none⟩)] w (CurIss w B (m + 200)) := by
  have hB := h.lt
  obtain ⟨i0, hi, hz0, hz1, hz2⟩ := info_parts (show (Tryd.prog.info? 41).map (fun i => (i.zero, i.size, i.bytes)) = some (some (.agg #[.int .i64 0, .int .i64 0, .int .i64 0, .int .i64 0]), 4, 32) by kernel_rfl)
  have S0 : Hid (ISt w (w.alloc (.cells #[] 41)) B (.slice (some ⟨w.heap.size, 0, none⟩) 0 0) [] m 0) := Lib.hid ⟨Own.empty _ _ _ _ _ (Nat.le_refl _), Nat.le_refl _, h.mono (below_alloc _ _), only_new (World.grownBy.refl _ _), hB⟩
  clear h
  go_enter Tryd.func50, Tryd.ntmps50
  go_wp2_with fail
  go_loopw [3, 4] (fun o vi wr => ∃ (j : Nat) (l : List Iss), j ≤ 2 ∧ vi = .int .i64 (3 + 9 * (j : Int)) ∧ Hid (ISt w wr B o l (m + 60 * j) (5 * j))) (fun _ vi _ => (30 - intOf vi).toNat)
  case atStart => exact ⟨0, [], by omega, by simp, S0⟩
  case round =>
    obtain ⟨j, l, hj, rfl, hS⟩ := hrel
    by_cases hj2 : j < 2
    · have hjj : 3 + 9 * (j : Int) ≤ 12 := by omega
      go_wp2_with fail
      go_loopw [3, 5] (fun o vn wr => ∃ (q : Nat) (l : List Iss), q ≤ 5 ∧ vn = .int .i64 (1 + (q : Int)) ∧ Hid (ISt w wr B o l (m + 60 * j + 10 * q) (5 * j + q))) (fun _ vn _ => (30 - intOf vn).toNat)
      case atStart => exact ⟨0, l, by omega, by simp, hS⟩
      case round =>
        obtain ⟨q, l, hq, rfl, hS⟩ := hrel
        by_cases hq5 : q < 5
        · have hqq : 1 + (q : Int) < 6 := by omega
          have hl := hS.out.2.1
          go_wp2_with fail
          refine (one_c _ B (m + 60 * j + 10 * q) 2 hS.out.2.2.1 (by omega) (by omega)).mono ?_
          rintro e w1 ⟨b, rfl, C1, g1⟩
          have S1 := Lib.hid (hS.out.turn g1 C1)
          clear hS C1 g1
          cases b
          · go_wp2_with fail
            go_roundw
            case rel => exact ⟨q + 1, l, by omega, by go_num, Lib.hid (S1.out.le (by omega) (by omega))⟩
            case measure => simp [intOf]; omega
          · go_wp2_with fail
            refine (issue_c _ B (m + 60 * j + 10 * q + 2) _ _ S1.out.2.2.1 (by omega)).mono ?_
            rintro e w2 ⟨f, u, rfl, C2, g2⟩
            have S2 := Lib.hid (S1.out.turn g2 C2)
            have hsz := S2.out.2.2.2.1.size
            clear S1 C2 g2
            go_wp2_with (at_builtin; refine wpList_pushAt Iss.len Iss.one rfl (.tmp 17) (.tmp 22) 24 rfl w.heap.size 41 i0 _ 32 Tryd.underlying24 hi hz0 hz1 hz2 rfl (by omega) _ l rfl (S2.out.alloc _).1 _ 1 ⟨3 + 9 * (j : Int), 1 + (q : Int), f, u⟩ rfl (cells4 (by simp) (by simp) (by simp) (by simp)) (by unfold maxLen; omega) (by omega) (by simp; omega) ?_; intro v' w6 ho6 hg6 _)
            have S3 := Lib.hid ((S2.out.alloc _).push ho6 hg6)
            clear S2 ho6 hg6
            go_wp2_with fail
            go_roundw
            case rel => exact ⟨q + 1, _, by omega, by go_num, Lib.hid (S3.out.le (by omega) (by omega))⟩
            case measure => simp [intOf]; omega
        · obtain rfl : q = 5 := by omega
          go_wp2_with fail
          go_roundw
          case rel => exact ⟨j + 1, l, by omega, by go_num, Lib.hid (hS.out.le (by omega) (by omega))⟩
          case measure => simp [intOf]; omega
    · obtain rfl : j = 2 := by omega
      have hl := hS.out.2.1
      go_wp2_with fail
      refine (pick_c _ B (m + 120) 32 hS.out.2.2.1 (by omega) (by omega)).mono ?_
      rintro e w1 ⟨p, -, rfl, C1, g1⟩
      have S1 := Lib.hid (hS.out.turn g1 C1)
      clear hS C1 g1
      by_cases hp0 : p = 0
      · subst hp0
        go_wp2_with fail
        refine (amongL_c [.int .i64 0, .int .i64 3, .int .i64 999, .int .i64 1000] (fun _ => True) S1.out.2.2.1 (by omega) (by simp) (by simp) (by simp) (by simp) (by simp)).mono ?_
        rintro e w2 ⟨x, -, rfl, C2, g2⟩
        have S2 := Lib.hid (S1.out.turn g2 C2)
        clear S1 C2 g2
        go_wp2_with fail
        refine (amongL_c [.int .i64 0, .int .i64 1, .int .i64 99, .int .i64 100] (fun _ => True) S2.out.2.2.1 (by omega) (by simp) (by simp) (by simp) (by simp) (by simp)).mono ?_
        rintro e w3 ⟨y, -, rfl, C3, g3⟩
        have S3 := Lib.hid (S2.out.turn g3 C3)
        clear S2 C3 g3
        go_wp2_with fail
        refine (issue_c _ B _ _ _ S3.out.2.2.1 (by omega)).mono ?_
        rintro e w4 ⟨f, u, rfl, C4, g4⟩
        have S4 := Lib.hid (S3.out.turn g4 C4)
        have hsz := S4.out.2.2.2.1.size
        clear S3 C4 g4
        go_wp2_with (at_builtin; refine wpList_pushAt Iss.len Iss.one rfl (.tmp 28) (.tmp 37) 24 rfl w.heap.size 41 i0 _ 32 Tryd.underlying24 hi hz0 hz1 hz2 rfl (by omega) _ l rfl (S4.out.alloc _).1 _ 1 ⟨x, y, f, u⟩ rfl (cells4 (by simp) (by simp) (by simp) (by simp)) (by unfold maxLen; omega) (by omega) (by simp; omega) ?_; intro v' w6 ho6 hg6 _)
        have S5 := Lib.hid ((S4.out.alloc _).push ho6 hg6)
        clear S4 ho6 hg6
        go_wp2_with fail
        go_ret
        exact ⟨_, _, rfl, S5.out.le (by omega) (by omega)⟩
      · have hp0' : (p == 0) = false := by simpa using hp0
        by_cases hp1 : p = 1
        · subst hp1
          go_wp2_with fail
          go_loopw [3] (fun o wr => ∃ (l : List Iss), Hid (ISt w wr B o l (m + 122 + 2 * l.length) 17)) (fun o _ => 17 - lenV o)
          case atStart => exact ⟨l, Lib.hid (S1.out.le (by omega) (by omega))⟩
          case round =>
            obtain ⟨l, hS⟩ := hrel
            have hl := hS.out.2.1
            obtain ⟨a, cap, b, off, hv, hlc, hcm, -⟩ := hS.out.1.sl Iss.len
            subst hv
            go_wp2_with fail
            refine (pick_c _ B (m + 122 + 2 * l.length) 2 hS.out.2.2.1 (by omega) (by omega)).mono ?_
            rintro e w1 ⟨p, hp, rfl, C1, g1⟩
            have hp2 := hp.1
            have hp3 := hp.2.1 (by omega)
            have S1 := Lib.hid (hS.out.turn g1 C1)
            have hsz := S1.out.2.2.2.1.size
            clear hS C1 g1 hp
            by_cases hlt : (l.length : Int) < 16 + p
            · go_wp2_with (at_builtin; refine wpList_pushAt Iss.len Iss.one rfl (.tmp 47) (.tmp 52) 24 rfl w.heap.size 41 i0 _ 32 Tryd.underlying24 hi hz0 hz1 hz2 rfl (by omega) _ l rfl (S1.out.alloc _).1 _ 1 ⟨50 + (l.length : Int), 7, 0, 3⟩ rfl (cells4 (by simp) (by simp) (by simp) (by simp)) (by unfold maxLen; omega) (by omega) (by simp; omega) ?_; intro v' w6 ho6 hg6 _)
              have S3 := Lib.hid ((S1.out.alloc _).push ho6 hg6)
              obtain ⟨a', cap', b', off', hv', -, -, -⟩ := ho6.sl Iss.len
              clear S1 hg6 ho6
              subst hv'
              go_wp2_with fail
              go_roundw
              case rel =>
                refine ⟨_, Lib.hid ⟨S3.out.1, ?_, ?_, S3.out.2.2.2⟩⟩
                · simp; omega
                · exact S3.out.2.2.1.le (by simp; omega)
              case measure => simp [lenV]; omega
            · go_wp2_with fail
              go_ret
              exact ⟨_, _, rfl, S1.out.le (by omega) (by omega)⟩
        · have hp1' : (p == 1) = false := by simpa using hp1
          go_wp2_with fail
          go_ret
          exact ⟨_, _, rfl, S1.out.le (by omega) (by omega)⟩
end Go.Proofs.YthibchaiaedboaaDoor
