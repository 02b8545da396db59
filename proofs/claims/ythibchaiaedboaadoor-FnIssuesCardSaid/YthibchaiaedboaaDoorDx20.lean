/- Issues drawn from bytes: the arguments of the laws. No condition. -/
import Derived.Test.YthibchaiaedboaaDoorDw20
import Derived.Outline
import Derived.OwnWalk
namespace Go.Proofs.YthibchaiaedboaaDoor
open Go.RowKit
set_option maxHeartbeats 2000000 in
theorem issueDay_c (w : World) (B m : Nat) (h : Cur w B m) (hm : m ≤ 100000000) : Calls Tryd.prog 51 #[.pointer (some ⟨B, 0, none⟩)] w (CurI w B (m + 2) (fun x => -1 ≤ x ∧ x ≤ 4001)) := by
  have h := Lib.hid h
  go_enter Tryd.func51, Tryd.ntmps51
  go_wp2_with fail
  refine (amongL_c [.int .i64 0, .int .i64 4, .int .i64 5, .int .i64 9, .int .i64 10, .int .i64 14, .int .i64 15, .int .i64 16, .int .i64 20, .int .i64 25, .int .i64 3999, .int .i64 4000, .int .i64 4001, .int .i64 (-1)] (fun x => -1 ≤ x ∧ x ≤ 4001) h.out (by omega) (by simp) (by simp) (by simp) (by simp) (by simp)).mono ?_
  rintro e w2 ⟨x, hx, rfl, C2, g2⟩
  replace hx := Lib.hid hx
  replace C2 := Lib.hid C2
  replace g2 := Lib.hid g2
  go_wp2_with fail
  go_ret
  exact ⟨x, hx.out, rfl, C2.out, g2.out⟩
/-- a call that hands back two numbers and has read choices -/
def CurII (w : World) (B m : Nat) (e : Ending) (w' : World) : Prop := ∃ s n : Int, e = .returned (.tuple #[.int .i64 s, .int .i64 n]) ∧ Cur w' B m ∧ w.grownBy w' (some B)
set_option maxHeartbeats 4000000 in
set_option maxRecDepth 100000 in
theorem issueOf_c (w : World) (B m : Nat) (v : Value) (l : List Iss) (h : Cur w B m) (hm : m ≤ 100000000) (hl : l.length ≤ 1000000) (hS : ∀ w', w.grownBy w' (some B) → Sl w' Iss.enc 4 v l) : Calls Tryd.prog 61 #[.pointer (some ⟨B, 0, none⟩), v] w (CurII w B (m + 6)) := by
  obtain ⟨a, cap, b, off, rfl, hlc, hcm, -⟩ := hS w (World.grownBy.refl _ _)
  unfold maxLen at hcm
  have hS := Lib.hid hS
  have h := Lib.hid h
  by_cases h0 : l.length = 0
  · have hl0 : (l.length : Int) = 0 := by omega
    go_enter Tryd.func61, Tryd.ntmps61
    rw [h0]
    have h0 := Lib.hid h0
    clear hl0
    go_wp2_with fail
    refine (amongL_c [.int .i64 0, .int .i64 3, .int .i64 500] (fun _ => True) h.out (by omega) (by simp) (by simp) (by simp) (by simp) (by simp)).mono ?_
    rintro e w2 ⟨x, -, rfl, C2, g2⟩
    replace C2 := Lib.hid C2
    replace g2 := Lib.hid g2
    go_wp2_with fail
    refine (amongL_c [.int .i64 0, .int .i64 1, .int .i64 5] (fun _ => True) C2.out (by omega) (by simp) (by simp) (by simp) (by simp) (by simp)).mono ?_
    rintro e w3 ⟨y, -, rfl, C3, g3⟩
    replace C3 := Lib.hid C3
    replace g3 := Lib.hid g3
    go_wp2_with fail
    go_ret2
    exact ⟨x, y, rfl, C3.out.le (by omega), only_trans g2.out g3.out⟩
  · have hl0 : ((l.length : Int) == 0) = false := by simp; intro e; apply h0; simp [e]
    have hl1 : ¬ (l.length : Int) = 0 := by omega
    go_enter Tryd.func61, Tryd.ntmps61
    go_wp2_with fail
    refine (one_c _ B m 10 h.out (by omega) (by omega)).mono ?_
    rintro e w1 ⟨b1, rfl, C1, g1⟩
    replace C1 := Lib.hid C1
    replace g1 := Lib.hid g1
    cases b1
    · go_wp2_with fail
      refine (pick_c _ B (m + 2) _ C1.out (by omega) (by omega)).mono ?_
      rintro e w2 ⟨p, hp, rfl, C2, g2⟩
      obtain ⟨k, rfl⟩ : ∃ k : Nat, p = (k : Int) := ⟨p.toNat, by have := hp.1; omega⟩
      have hk : k < l.length := by
        rcases Nat.lt_or_ge 1 l.length with h1 | h1
        · have := hp.2.1 (by omega); omega
        · have := hp.2.2 (by omega); omega
      have G2 := Lib.hid (only_trans g1.out g2)
      have hS2 := hS.out w2 G2.out
      obtain ⟨a', cap', b', off', hv, hlc', hm', hc⟩ := hS2
      injection hv with e1 e2 e3
      subst e1 e3
      clear e2 hp
      obtain ⟨rfl, hbw, c0, c1, c2, c3⟩ := Iss.at hc k hk
      replace C2 := Lib.hid C2
      clear hc g2
      go_wp2_with fail
      refine wp_region_ext (by kernel_rfl) (by kernel_rfl) ?_
      repeat (any_goals (first | go_big_quiet_step (fail)))
      (refine wpQuiet_nil ?_)
      (rintro _ ⟨q, rfl⟩)
      go_wp2_with fail
      go_ret2
      exact ⟨_, _, rfl, ((C2.out.mono (below_alloc _ _)).mono (below_ext _ _)).le (by omega), only_ext (only_new G2.out)⟩
    · go_wp2_with fail
      refine (amongL_c [.int .i64 0, .int .i64 3, .int .i64 500] (fun _ => True) C1.out (by omega) (by simp) (by simp) (by simp) (by simp) (by simp)).mono ?_
      rintro e w2 ⟨x, -, rfl, C2, g2⟩
      replace C2 := Lib.hid C2
      replace g2 := Lib.hid g2
      go_wp2_with fail
      refine (amongL_c [.int .i64 0, .int .i64 1, .int .i64 5] (fun _ => True) C2.out (by omega) (by simp) (by simp) (by simp) (by simp) (by simp)).mono ?_
      rintro e w3 ⟨y, -, rfl, C3, g3⟩
      replace C3 := Lib.hid C3
      replace g3 := Lib.hid g3
      go_wp2_with fail
      go_ret2
      exact ⟨x, y, rfl, C3.out.le (by omega), only_trans (only_trans g1.out g2.out) g3.out⟩
/-- a slice of bytes that came in -/
def Bytes (w : World) (v : Value) : Prop := ∃ (a : Option Addr) (n cap b off : Nat), v = .slice a n cap ∧ n ≤ cap ∧ cap ≤ maxLen ∧ ∀ i, i < n → a = some ⟨b, off, none⟩ ∧ b < w.heap.size ∧ ∃ x : Int, 0 ≤ x ∧ x ≤ 255 ∧ w.cell? ⟨b, off + i, none⟩ = some (.int .u8 x)
theorem Bytes.mono {w w' : World} {v : Value} (h : Bytes w v) (hb : Below w.heap.size w w') : Bytes w' v := by
  obtain ⟨a, n, cap, b, off, rfl, h1, h2, h3⟩ := h
  refine ⟨a, n, cap, b, off, rfl, h1, h2, fun i hi => ?_⟩
  obtain ⟨e, h4, x, x1, x2, x3⟩ := h3 i hi
  exact ⟨e, Nat.lt_of_lt_of_le h4 hb.size, x, x1, x2, cellOn hb x3⟩
theorem Bytes.cur {w : World} {v : Value} {t : TypeId} (h : Bytes w v) : Cur (w.alloc (.cells #[v, .int .i64 0, .int .u64 0] t)) w.heap.size 0 := by
  obtain ⟨a, n, cap, b, off, rfl, h1, h2, h3⟩ := h
  refine ⟨a, n, cap, b, off, 0, 0, by simp, h1, h2, fun i hi => ?_, by simp, Nat.le_refl _, by simp, fun j => by simp⟩
  obtain ⟨e, h4, x, x1, x2, x3⟩ := h3 i hi
  exact ⟨e, h4, x, x1, x2, cellOn (below_alloc _ _) x3⟩
/-- what a draw leaves: a list of its own, old memory as it was -/
def DrawL (w w' : World) (v : Value) (l : List Iss) : Prop := Own w' w.heap.size 41 Iss.enc 4 v l ∧ l.length ≤ 17 ∧ Below w.heap.size w w'
theorem below_of_grown {w w' : World} {o : Obj} (h : (w.alloc o).grownBy w' (some w.heap.size)) : Below w.heap.size w w' := by
  have h1 := below_alloc w o
  exact h1.grown h (by simp) (fun g hg => by injection hg with hg; omega)
theorem DrawL.of {w w' : World} {o : Obj} {B m N : Nat} {v : Value} {l : List Iss} (hB : B = w.heap.size) (h : LSt (w.alloc o) w' B 41 Iss.enc 4 v l m N) (hN : N ≤ 17) : DrawL w w' v l := by
  subst hB
  exact ⟨h.1.lower (by simp), Nat.le_trans h.2.1 hN, below_of_grown h.2.2.2.1⟩
theorem LSt.sls {w0 w : World} {B m N : Nat} {v : Value} {l : List Iss} (h : LSt w0 w B 41 Iss.enc 4 v l m N) : ∀ w', w.grownBy w' (some B) → Sl w' Iss.enc 4 v l := fun w' hg => by
  obtain ⟨h1, h2, h3, h4, h5⟩ := h
  have h6 : Own w' w0.heap.size 41 Iss.enc 4 v l := h1.kept hg (by
    cases hb : v.ownBlock with
    | none => exact .inl rfl
    | some b => exact .inr (fun e => by have := (h1.bounds b hb).1; injection e with e; omega))
  exact h6.sl Iss.len
end Go.Proofs.YthibchaiaedboaaDoor
