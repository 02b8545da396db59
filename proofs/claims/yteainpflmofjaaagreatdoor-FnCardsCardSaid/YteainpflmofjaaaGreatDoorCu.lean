/- The reader of choices: what each call of it leaves. General. No condition but that not too many choices were read. -/
import Derived.Test.YteainpflmofjaaaGreatDoorTypes
import Derived.Test.YteainpflmofjaaaGreatDoorHeld
import Derived.Test.YteainpflmofjaaaGreatDoorCk
import Derived.Outline
import Derived.Deep.Cut
namespace Go.Proofs.YteainpflmofjaaaGreatDoor
open Go.RowKit
theorem only_ext {a w : World} {r : Option Nat} {p : Gap} (h : a.grownBy w r) : a.grownBy (ext w p) r := only_trans h (only_of_below (below_ext _ _) _)
theorem only_set {a w : World} {g j : Nat} {v : Value} (h : a.grownBy w (some g)) : a.grownBy (w.setCell ⟨g, j, none⟩ v) (some g) := only_trans h (only_setCell (World.grownBy.refl _ _) ⟨g, j, none⟩ rfl _)
theorem only_new {a w : World} {r : Option Nat} {o : Obj} (h : a.grownBy w r) : a.grownBy (w.alloc o) r := only_trans h (only_of_below (below_alloc _ _) _)
theorem only_drew {a w : World} {r : Option Nat} (h : a.grownBy w r) : a.grownBy w.drew r := only_trans h (only_of_below (drewOn _) _)
/-- A reader of choices lies in block B; at most m bytes were read. -/
def Cur (w : World) (B m : Nat) : Prop := ∃ (a : Option Addr) (n cap b off k : Nat) (s : Int), w.cell? ⟨B, 0, none⟩ = some (.slice a n cap) ∧ n ≤ cap ∧ cap ≤ maxLen ∧
  (∀ i, i < n → a = some ⟨b, off, none⟩ ∧ b < B ∧ ∃ x : Int, 0 ≤ x ∧ x ≤ 255 ∧ w.cell? ⟨b, off + i, none⟩ = some (.int .u8 x)) ∧
  w.cell? ⟨B, 1, none⟩ = some (.int .i64 (k : Int)) ∧ k ≤ m ∧ w.cell? ⟨B, 2, none⟩ = some (.int .u64 s) ∧ ∀ j, w.frozen? ⟨B, j, none⟩ = false
theorem Cur.lt {w : World} {B m : Nat} (h : Cur w B m) : B < w.heap.size := by
  obtain ⟨_, _, _, _, _, _, _, h0, _⟩ := h
  exact block_lt_of_cell h0
theorem Cur.le {w : World} {B m m' : Nat} (h : Cur w B m) (hm : m ≤ m') : Cur w B m' := by
  obtain ⟨a, n, cap, b, off, k, s, h0, h1, h2, h3, h4, h5, h6, h7⟩ := h
  exact ⟨a, n, cap, b, off, k, s, h0, h1, h2, h3, h4, Nat.le_trans h5 hm, h6, h7⟩
theorem Cur.mono {w w' : World} {B m : Nat} (h : Cur w B m) (hb : Below w.heap.size w w') : Cur w' B m := by
  have hB := h.lt
  obtain ⟨a, n, cap, b, off, k, s, h0, h1, h2, h3, h4, h5, h6, h7⟩ := h
  refine ⟨a, n, cap, b, off, k, s, cellOn hb h0, h1, h2, fun i hi => ?_, cellOn hb h4, h5, cellOn hb h6, fun j => (hb.frozen (p := ⟨B, j, none⟩) hB).trans (h7 j)⟩
  obtain ⟨e, hne, x, x1, x2, x3⟩ := h3 i hi
  exact ⟨e, hne, x, x1, x2, cellOn hb x3⟩
/-- what the turning of a younger block leaves -/
theorem Cur.grown {w w' : World} {B m g : Nat} (h : Cur w B m) (hg : w.grownBy w' (some g)) (hlt : B < g) : Cur w' B m := by
  have hB := h.lt
  obtain ⟨a, n, cap, b, off, k, s, h0, h1, h2, h3, h4, h5, h6, h7⟩ := h
  have hB2 : some B ≠ some g := fun e => by have := Option.some.inj e; omega
  refine ⟨a, n, cap, b, off, k, s, cellGrown h0 hg hB2, h1, h2, fun i hi => ?_, cellGrown h4 hg hB2, h5, cellGrown h6 hg hB2, fun j => (World.frozen?_of_block (a := ⟨B, j, none⟩) (hg.block B hB hB2)).trans (h7 j)⟩
  obtain ⟨e, hnb, x, x1, x2, x3⟩ := h3 i hi
  exact ⟨e, hnb, x, x1, x2, cellGrown x3 hg (fun e => by have := Option.some.inj e; simp at this; omega)⟩
theorem and255 (s : Int) : 0 ≤ wrap64 (bits BinOp.and IntKind.u64 s 255) ∧ wrap64 (bits BinOp.and IntKind.u64 s 255) ≤ 255 := by
  have h : ((BitVec.ofInt 64 s) &&& (BitVec.ofInt 64 255)).toNat ≤ 255 := by
    rw [BitVec.toNat_and]; exact Nat.le_trans Nat.and_le_right (by decide)
  have e : bits BinOp.and IntKind.u64 s 255 = (((BitVec.ofInt 64 s) &&& (BitVec.ofInt 64 255)).toNat : Int) := by
    show IntKind.u64.wrap (((BitVec.ofInt 64 s) &&& (BitVec.ofInt 64 255)).toNat : Int) = _
    generalize ((BitVec.ofInt 64 s) &&& (BitVec.ofInt 64 255)).toNat = v at h
    simp [IntKind.wrap, IntKind.signed, IntKind.bits]
    omega
  rw [e]
  generalize ((BitVec.ofInt 64 s) &&& (BitVec.ofInt 64 255)).toNat = v at h
  unfold wrap64
  omega
/-- a call that hands back a number and has read choices -/
def CurI (w : World) (B m : Nat) (P : Int → Prop) (e : Ending) (w' : World) : Prop := ∃ x : Int, P x ∧ e = .returned (.int .i64 x) ∧ Cur w' B m ∧ w.grownBy w' (some B)
set_option maxHeartbeats 2000000 in
set_option maxRecDepth 100000 in
theorem next_c (w : World) (B m : Nat) (h : Cur w B m) (hm : m ≤ 1000000000000) : Calls Tryz.prog 86 #[.pointer (some ⟨B, 0, none⟩)] w (CurI w B (m + 1) (fun x => 0 ≤ x ∧ x ≤ 255)) := by
  have hB := h.lt
  obtain ⟨a, n, cap, b, off, k, s, h0, h1, h2, h3, h4, h5, h6, h7⟩ := h
  unfold maxLen at h2
  have z1 := h7 1
  have z2 := h7 2
  by_cases hlt : k < n
  · obtain ⟨rfl, hnb, x, x1, x2, x3⟩ := h3 k hlt
    have hbl := block_lt_of_cell x3
    have H3 := Lib.hid h3
    have H7 := Lib.hid h7
    clear h3 h7
    go_enter Tryz.func86, Tryz.ntmps86
    go_wp2_with fail
    refine wp_region_ext (by kernel_rfl) (by kernel_rfl) ?_
    repeat (any_goals (first | go_big_quiet_step (fail)))
    (refine wpQuiet_nil ?_)
    (rintro _ ⟨q, rfl⟩)
    go_wp2_with fail
    refine wp_region_ext (by kernel_rfl) (by kernel_rfl) ?_
    repeat (any_goals (first | go_big_quiet_step (fail)))
    (refine wpQuiet_nil ?_)
    (rintro _ ⟨q, rfl⟩)
    go_upto_region 6 with fail
    refine wpAt fun W3 e3 => ?_
    have g3 : w.grownBy W3 (some B) := by
      rw [e3]
      repeat (first | exact World.grownBy.refl _ _ | refine only_ext ?_ | refine only_set ?_ | refine only_new ?_ | refine only_drew ?_)
    have y0 : W3.cell? ⟨B, 0, none⟩ = some (.slice (some ⟨b, off, none⟩) n cap) := by rw [e3]; simp [go_sem, h0, hB]
    have y1 : W3.cell? ⟨B, 1, none⟩ = some (.int .i64 ((k : Int) + 1)) := by rw [e3]; simp [go_sem, h4, hB]
    obtain ⟨s2, y2⟩ : ∃ s2 : Int, W3.cell? ⟨B, 2, none⟩ = some (.int .u64 s2) := ⟨_, by rw [e3]; simp [go_sem, h6, hB]; rfl⟩
    have hB3 : B < W3.heap.size := block_lt_of_cell y0
    have hC : Hid (Cur W3 B (m + 1)) := by
      refine ⟨(some ⟨b, off, none⟩), n, cap, b, off, k + 1, s2, y0, h1, by unfold maxLen; exact h2, fun i hi => ?_, y1, by omega, y2, fun j => ?_⟩
      · obtain ⟨e, hne, q, q1, q2, q3⟩ := H3.out i hi
        exact ⟨rfl, hne, q, q1, q2, cellGrown q3 g3 (fun e => by have := Option.some.inj e; simp at this; omega)⟩
      · rw [e3]; simp [go_sem, H7.out, hB]
    clear e3
    have hk1 : (k : Int) + 1 ≤ (n : Int) := by omega
    go_wp2_with fail
    refine wp_region_ext (by kernel_rfl) (by kernel_rfl) ?_
    repeat (any_goals (first | go_big_quiet_step (fail)))
    (refine wpQuiet_nil ?_)
    (rintro _ ⟨q, rfl⟩)
    go_wp2_with fail
    go_ret
    exact ⟨x, ⟨x1, x2⟩, rfl, hC.out.mono (below_ext _ _), only_ext g3⟩
  · have H3 := Lib.hid h3
    have H7 := Lib.hid h7
    clear h3 h7
    go_enter Tryz.func86, Tryz.ntmps86
    go_wp2_with fail
    refine wp_region_ext (by kernel_rfl) (by kernel_rfl) ?_
    repeat (any_goals (first | go_big_quiet_step (fail)))
    (refine wpQuiet_nil ?_)
    (rintro _ ⟨q, rfl⟩)
    go_upto_region 6 with fail
    refine wpAt fun W3 e3 => ?_
    have g3 : w.grownBy W3 (some B) := by
      rw [e3]
      repeat (first | exact World.grownBy.refl _ _ | refine only_ext ?_ | refine only_set ?_ | refine only_new ?_ | refine only_drew ?_)
    have y0 : W3.cell? ⟨B, 0, none⟩ = some (.slice a n cap) := by rw [e3]; simp [go_sem, h0, hB]
    have y1 : W3.cell? ⟨B, 1, none⟩ = some (.int .i64 ((k : Int) + 1)) := by rw [e3]; simp [go_sem, h4, hB]
    obtain ⟨s2, y2⟩ : ∃ s2 : Int, W3.cell? ⟨B, 2, none⟩ = some (.int .u64 s2) := ⟨_, by rw [e3]; simp [go_sem, h6, hB]; rfl⟩
    have hB3 : B < W3.heap.size := block_lt_of_cell y0
    have hC : Hid (Cur W3 B (m + 1)) := by
      refine ⟨a, n, cap, b, off, k + 1, s2, y0, h1, by unfold maxLen; exact h2, fun i hi => ?_, y1, by omega, y2, fun j => ?_⟩
      · obtain ⟨e, hne, q, q1, q2, q3⟩ := H3.out i hi
        exact ⟨e, hne, q, q1, q2, cellGrown q3 g3 (fun e => by have := Option.some.inj e; simp at this; omega)⟩
      · rw [e3]; simp [go_sem, H7.out, hB]
    clear e3
    have hk1 : ¬ (k : Int) + 1 ≤ (n : Int) := by omega
    go_wp2_with fail
    refine wp_region_ext (by kernel_rfl) (by kernel_rfl) ?_
    repeat (any_goals (first | go_big_quiet_step (fail)))
    (refine wpQuiet_nil ?_)
    (rintro _ ⟨q, rfl⟩)
    go_wp2_with fail
    go_ret
    exact ⟨_, and255 _, rfl, hC.out.mono (below_ext _ _), only_ext g3⟩
/-- what is picked among n -/
def pickOk (n x : Int) : Prop := 0 ≤ x ∧ (1 < n → x < n) ∧ (n ≤ 1 → x = 0)
set_option maxHeartbeats 2000000 in
set_option maxRecDepth 100000 in
theorem pick_c (w : World) (B m : Nat) (n : Int) (h : Cur w B m) (hm : m ≤ 1000000000) (hn : n ≤ 1000000) : Calls Tryz.prog 61 #[.pointer (some ⟨B, 0, none⟩), .int .i64 n] w (CurI w B (m + 2) (pickOk n)) := by
  have HN := Lib.hid (fun W (m' : Nat) (hC : Cur W B m') (hm' : m' ≤ 1000000000000) => next_c W B m' hC hm')
  replace h := Lib.hid h
  by_cases h1 : n ≤ 1
  · go_enter Tryz.func61, Tryz.ntmps61
    go_wp2_with fail
    go_ret
    exact ⟨0, ⟨Int.le_refl _, fun h2 => by omega, fun _ => rfl⟩, rfl, h.out.le (by omega), World.grownBy.refl _ _⟩
  · by_cases h2 : 200 < n
    · go_enter Tryz.func61, Tryz.ntmps61
      go_wp2_with fail
      refine (HN.out w m h.out (by omega)).mono ?_
      rintro e w1 ⟨x, ⟨x0, x1⟩, rfl, hC1, hg1⟩
      replace hC1 := Lib.hid hC1
      replace hg1 := Lib.hid hg1
      go_wp2_with fail
      refine (HN.out w1 (m + 1) hC1.out (by omega)).mono ?_
      rintro e w2 ⟨y, ⟨y0, y1⟩, rfl, hC2, hg2⟩
      replace hC2 := Lib.hid hC2
      replace hg2 := Lib.hid hg2
      go_wp2_with fail
      go_ret
      have e1 := Int.emod_nonneg (x * 256 + y) (show n ≠ 0 by omega)
      have e2 := Int.emod_lt_of_pos (x * 256 + y) (show 0 < n by omega)
      exact ⟨(x * 256 + y) % n, ⟨e1, fun _ => e2, fun h => by omega⟩, rfl, hC2.out, only_trans hg1.out hg2.out⟩
    · go_enter Tryz.func61, Tryz.ntmps61
      go_wp2_with fail
      refine (HN.out w m h.out (by omega)).mono ?_
      rintro e w1 ⟨x, ⟨x0, x1⟩, rfl, hC1, hg1⟩
      replace hC1 := Lib.hid hC1
      replace hg1 := Lib.hid hg1
      go_wp2_with fail
      go_ret
      have e1 := Int.emod_nonneg x (show n ≠ 0 by omega)
      have e2 := Int.emod_lt_of_pos x (show 0 < n by omega)
      exact ⟨x % n, ⟨e1, fun _ => e2, fun h => by omega⟩, rfl, hC1.out.le (by omega), hg1.out⟩
def CurB (w : World) (B m : Nat) (e : Ending) (w' : World) : Prop := ∃ b : Bool, e = .returned (.bool b) ∧ Cur w' B m ∧ w.grownBy w' (some B)
set_option maxHeartbeats 1000000 in
theorem one_c (w : World) (B m : Nat) (n : Int) (h : Cur w B m) (hm : m ≤ 1000000000) (hn : n ≤ 1000000) : Calls Tryz.prog 56 #[.pointer (some ⟨B, 0, none⟩), .int .i64 n] w (CurB w B (m + 2)) := by
  have HN := Lib.hid (pick_c w B m n h hm hn)
  clear h
  go_enter Tryz.func56, Tryz.ntmps56
  go_wp2_with fail
  refine HN.out.mono ?_
  rintro e w1 ⟨x, -, rfl, hC1, hg1⟩
  replace hC1 := Lib.hid hC1
  replace hg1 := Lib.hid hg1
  go_wp2_with fail
  go_ret
  exact ⟨_, rfl, hC1.out, hg1.out⟩
/-- block R holds the cells cs, none of them frozen -/
def Blk (w : World) (R : Nat) (t : TypeId) (cs : List Value) : Prop := w.heap[R]? = some (.cells cs.toArray t (0, 0))
theorem Blk.new (w : World) (t : TypeId) (cs : List Value) : Blk (w.alloc (.cells cs.toArray t)) w.heap.size t cs := heap_alloc_new w _
theorem Blk.lt {w : World} {R : Nat} {t : TypeId} {cs : List Value} (h : Blk w R t cs) : R < w.heap.size := (Array.getElem?_eq_some_iff.1 h).1
theorem Blk.mono {w w' : World} {R : Nat} {t : TypeId} {cs : List Value} (h : Blk w R t cs) (hb : Below w.heap.size w w') : Blk w' R t cs := (hb.block R h.lt).trans h
theorem Blk.grown {w w' : World} {R B : Nat} {t : TypeId} {cs : List Value} (h : Blk w R t cs) (hg : w.grownBy w' (some B)) (hne : R ≠ B) : Blk w' R t cs := (hg.block R h.lt (fun e => hne (Option.some.inj e))).trans h
theorem Blk.cell {w : World} {R : Nat} {t : TypeId} {cs : List Value} (h : Blk w R t cs) (j : Nat) (v : Value) (hj : cs[j]? = some v) : w.cell? ⟨R, j, none⟩ = some v := by
  rw [cell_of_row w R j _ t (0, 0) h]; simpa using hj
theorem Blk.frozen {w : World} {R : Nat} {t : TypeId} {cs : List Value} (h : Blk w R t cs) (j : Nat) : w.frozen? ⟨R, j, none⟩ = false := by
  unfold World.frozen?
  rw [show w.heap[(⟨R, j, none⟩ : Addr).block]? = _ from h]
  simp
theorem Cur.set {w : World} {B m g j : Nat} {v : Value} (h : Cur w B m) (hlt : B < g) : Cur (w.setCell ⟨g, j, none⟩ v) B m := h.grown (only_set (World.grownBy.refl _ _)) hlt
theorem only_setN {a w : World} {r : Option Nat} {g j : Nat} {v : Value} (h : a.grownBy w r) (hg : a.heap.size ≤ g) : a.grownBy (w.setCell ⟨g, j, none⟩ v) r := by
  have h2 : w.grownBy (w.setCell ⟨g, j, none⟩ v) (some g) := only_setCell (World.grownBy.refl _ _) ⟨g, j, none⟩ rfl _
  exact ⟨h2.os.trans h.os, h2.tape.trans h.tape, h2.output.trans h.output, Nat.le_trans h.size h2.size, fun k hk hne => (h2.block k (Nat.lt_of_lt_of_le hk h.size) (fun e => by have := Option.some.inj e; omega)).trans (h.block k hk hne)⟩
theorem Cur.grownO {w w' : World} {B m : Nat} {r : Option Nat} (h : Cur w B m) (hg : w.grownBy w' r) (hlt : ∀ g, r = some g → B < g) : Cur w' B m := by
  cases r with
  | none => exact h.grown (g := B + 1) ⟨hg.os, hg.tape, hg.output, hg.size, fun k hk _ => hg.block k hk (by simp)⟩ (by omega)
  | some g => exact h.grown hg (hlt g rfl)
section
variable {α : Type}
/-- A list of the call's own that grows while choices are read. w0: the world at the call's beginning. -/
def LSt (w0 w : World) (B : Nat) (t : TypeId) (enc : α → List Value) (k : Nat) (v : Value) (l : List α) (m N : Nat) : Prop :=
  Own w w0.heap.size t enc k v l ∧ l.length ≤ N ∧ Cur w B m ∧ w0.grownBy w (some B) ∧ B < w0.heap.size
variable {t : TypeId} {enc : α → List Value} {k : Nat}
theorem LSt.le {w0 w : World} {B m m' N N' : Nat} {v : Value} {l : List α} (h : LSt w0 w B t enc k v l m N) (h1 : m ≤ m') (h2 : N ≤ N') : LSt w0 w B t enc k v l m' N' :=
  ⟨h.1, Nat.le_trans h.2.1 h2, h.2.2.1.le h1, h.2.2.2⟩
theorem LSt.turn {w0 w w' : World} {B m m' N : Nat} {v : Value} {l : List α} (h : LSt w0 w B t enc k v l m N) (hg : w.grownBy w' (some B)) (hC : Cur w' B m') : LSt w0 w' B t enc k v l m' N := by
  obtain ⟨h1, h2, h3, h4, h5⟩ := h
  refine ⟨h1.kept hg ?_, h2, hC, only_trans h4 hg, h5⟩
  cases hb : v.ownBlock with
  | none => exact .inl rfl
  | some b => exact .inr (fun e => by have := (h1.bounds b hb).1; injection e with e; omega)
theorem LSt.alloc {w0 w : World} {B m N : Nat} {v : Value} {l : List α} (h : LSt w0 w B t enc k v l m N) (o : Obj) : LSt w0 (w.alloc o) B t enc k v l m N :=
  h.turn (only_of_below (below_alloc _ _) _) (h.2.2.1.mono (below_alloc _ _))
theorem LSt.push {w0 w w' : World} {B m N : Nat} {v v' : Value} {l : List α} {y : α} (h : LSt w0 w B t enc k v l m N) (ho : Own w' w0.heap.size t enc k v' (l ++ [y])) (hg : w.grownBy w' v.ownBlock) : LSt w0 w' B t enc k v' (l ++ [y]) m (N + 1) := by
  obtain ⟨h1, h2, h3, h4, h5⟩ := h
  have hb := h1.bounds
  refine ⟨ho, by rw [List.length_append, List.length_singleton]; omega, h3.grownO hg (fun g e => by have := (hb g e).1; omega), ?_, h5⟩
  exact ⟨hg.os.trans h4.os, hg.tape.trans h4.tape, hg.output.trans h4.output, Nat.le_trans h4.size hg.size, fun q hq hne => (hg.block q (Nat.lt_of_lt_of_le hq h4.size) (fun e => by have := (hb q e.symm).1; omega)).trans (h4.block q hq hne)⟩
end
def lenV : Value → Nat
  | .slice _ n _ => n
  | _ => 0
/-- n cells of block b that hold numbers for which P holds -/
def LitI (w : World) (b : Nat) (n : Nat) (P : Int → Prop) : Prop := ∀ i, i < n → ∃ z : Int, P z ∧ w.cell? ⟨b, i, none⟩ = some (.int .i64 z)
theorem LitI.of {w : World} {cs : List Value} {t : TypeId} {P : Int → Prop} (h : ∀ v, v ∈ cs → ∃ z : Int, P z ∧ v = .int .i64 z) : LitI (w.alloc (.cells cs.toArray t)) w.heap.size cs.length P := fun i hi => by
  obtain ⟨z, h1, h2⟩ := h cs[i] (List.getElem_mem hi)
  exact ⟨z, h1, new_cells w cs t _ rfl i _ (by rw [List.getElem?_eq_getElem hi, h2])⟩
set_option maxHeartbeats 2000000 in
theorem among_c (w : World) (B m b n c : Nat) (P : Int → Prop) (h : Cur w B m) (hm : m ≤ 1000000000) (hL : LitI w b n P) (hn0 : 0 < n) (hn : n ≤ 1000000) (hne : b ≠ B) : Calls Tryz.prog 64 #[.pointer (some ⟨B, 0, none⟩), .slice (some ⟨b, 0, none⟩) n c] w (CurI w B (m + 2) P) := by
  have HN := Lib.hid (pick_c w B m n h hm (by omega))
  have HL := Lib.hid hL
  clear h hL
  go_enter Tryz.func64, Tryz.ntmps64
  go_wp2_with fail
  refine HN.out.mono ?_
  rintro e w1 ⟨x, ⟨hx0, hx1, hx2⟩, rfl, hC1, hg1⟩
  replace hC1 := Lib.hid hC1
  obtain ⟨k, rfl⟩ : ∃ k : Nat, x = (k : Int) := ⟨x.toNat, by omega⟩
  have hk : k < n := by
    rcases Nat.lt_or_ge 1 n with h1 | h1
    · have := hx1 (by omega); omega
    · have := hx2 (by omega); omega
  obtain ⟨z, hz, h0⟩ := HL.out k hk
  have h1 := cellGrown h0 hg1 (fun e => hne (Option.some.inj e))
  replace hg1 := Lib.hid hg1
  replace hz := Lib.hid hz
  clear hx1 hx2 h0
  go_wp2_with fail
  go_ret
  exact ⟨z, hz.out, rfl, hC1.out, hg1.out⟩
/-- 'among' at a slice that is written out -/
theorem amongL_c {W : World} {B m g n : Nat} {t : TypeId} (cs : List Value) (P : Int → Prop) (h : Cur W B m) (hm : m ≤ 1000000000) (hP : ∀ v, v ∈ cs → ∃ z : Int, P z ∧ v = .int .i64 z) (hg : g = W.heap.size) (hn : n = cs.length) (h0 : 0 < cs.length) (h1 : cs.length ≤ 1000000) :
    Calls Tryz.prog 64 #[.pointer (some ⟨B, 0, none⟩),   .slice (some ⟨g, 0, none⟩) n n] (W.alloc (.cells cs.toArray t)) (CurI W B (m + 2) P) := by
  subst hg hn
  have hB := h.lt
  refine (among_c _ B m _ cs.length cs.length P (h.mono (below_alloc _ _)) hm (LitI.of hP) h0 h1 (by omega)).mono ?_
  rintro e w' ⟨z, hz, rfl, hC, hg⟩
  exact ⟨z, hz, rfl, hC, only_trans (only_of_below (below_alloc _ _) _) hg⟩
end Go.Proofs.YteainpflmofjaaaGreatDoor
