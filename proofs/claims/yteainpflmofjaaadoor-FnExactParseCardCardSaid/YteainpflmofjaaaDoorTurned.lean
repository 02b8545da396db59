/- Worlds of which only a stretch of blocks has turned; the text of a mark. General. -/
import Derived.Test.YteainpflmofjaaaDoorStore
import Derived.Test.YteainpflmofjaaaDoorTail
import Derived.Laws.BytesArg
namespace Go.Proofs.YteainpflmofjaaaDoor
open Go.RowKit
/-- Of the blocks that were there only those from lo up to hi may have turned. -/
structure Turned (lo hi : Nat) (w w' : World) : Prop where
  os : w'.os = w.os
  tape : w'.tape = w.tape
  output : w'.output = w.output
  size : w.heap.size ≤ w'.heap.size
  block : ∀ b, b < w.heap.size → (b < lo ∨ hi ≤ b) → w'.heap[b]? = w.heap[b]?
theorem Turned.refl (lo hi : Nat) (w : World) : Turned lo hi w w := ⟨rfl, rfl, rfl, Nat.le_refl _, fun _ _ _ => rfl⟩
theorem Turned.trans {lo hi : Nat} {a b c : World} (h : Turned lo hi a b) (k : Turned lo hi b c) : Turned lo hi a c :=
  ⟨k.os.trans h.os, k.tape.trans h.tape, k.output.trans h.output, Nat.le_trans h.size k.size, fun i hi ho => (k.block i (Nat.lt_of_lt_of_le hi h.size) ho).trans (h.block i hi ho)⟩
theorem Turned.of_below {lo hi : Nat} {w w' : World} (h : Below w.heap.size w w') : Turned lo hi w w' := ⟨h.os, h.tape, h.output, h.size, fun b hb _ => h.block b hb⟩
theorem Turned.of_grown {lo hi : Nat} {w w' : World} {row : Option Nat} (h : w.grownBy w' row) (hr : ∀ g, row = some g → lo ≤ g ∧ g < hi) : Turned lo hi w w' :=
  ⟨h.os, h.tape, h.output, h.size, fun b hb ho => h.block b hb (fun e => by have := hr b e.symm; omega)⟩
theorem Turned.wide {lo hi lo' hi' : Nat} {w w' : World} (h : Turned lo hi w w') (h1 : lo' ≤ lo) (h2 : hi ≤ hi') : Turned lo' hi' w w' :=
  ⟨h.os, h.tape, h.output, h.size, fun b hb ho => h.block b hb (by omega)⟩
theorem Turned.set {lo hi : Nat} {w w' : World} (h : Turned lo hi w w') {g o : Nat} (h1 : lo ≤ g) (h2 : g < hi) (u : Value) : Turned lo hi w (w'.setCell ⟨g, o, none⟩ u) :=
  h.trans (Turned.of_grown (row := some g) (only_setCell (World.grownBy.refl _ _) ⟨g, o, none⟩ rfl u) (fun x hx => by injection hx with hx; omega))
theorem Below.turned {B lo hi : Nat} {a w w' : World} (h : Below B a w) (hg : Turned lo hi w w') (hB : B ≤ w.heap.size) (hlo : B ≤ lo) : Below B a w' :=
  ⟨hg.os.trans h.os, hg.tape.trans h.tape, hg.output.trans h.output, Nat.le_trans h.size hg.size, fun k hk => (hg.block k (by omega) (by omega)).trans (h.block k hk)⟩
theorem Own.turned {α : Type} {w w' : World} {z lo hi : Nat} {e : TypeId} {enc : α → List Value} {k : Nat} {v : Value} {l : List α} (h : Own w z e enc k v l) (hg : Turned lo hi w w') (hv : ∀ g, v.ownBlock = some g → g < lo ∨ hi ≤ g) : Own w' z e enc k v l := by
  refine ⟨h.1, ?_⟩
  rcases h.2 with hn | ⟨g, cap, cur, rfl, hlo, hgg, rest⟩
  · exact .inl hn
  · exact .inr ⟨g, cap, cur, rfl, hlo, (hg.block g (Array.getElem?_eq_some_iff.1 hgg).1 (hv g rfl)).trans hgg, rest⟩
/-! ### the text of a mark -/
def digB (n : Int) : ByteArray := ⟨#[UInt8.ofNat (48 + n % 10).toNat]⟩
/-- the digits of k ahead of o -/
def digs : Nat → Int → ByteArray → ByteArray
  | 0, _, o => o
  | f + 1, k, o => if 0 < k then digs f (k / 10) (digB k ++ o) else o
/-- the text that marks with k -/
def markT (k : Int) : ByteArray := ⟨#[109]⟩ ++ digs 20 k ⟨#[]⟩
theorem digs_done (f : Nat) (o : ByteArray) : digs f 0 o = o := by cases f <;> simp [digs]
theorem digs_step {f : Nat} {k : Int} {o : ByteArray} (h : 0 < k) : digs (f + 1) k o = digs f (k / 10) (digB k ++ o) := by simp [digs, h]
theorem digs_size : ∀ (f : Nat) (k : Int) (o : ByteArray), (digs f k o).size ≤ f + o.size
  | 0, _, o => by simp [digs]
  | f + 1, k, o => by
    unfold digs
    split
    · have := digs_size f (k / 10) (digB k ++ o)
      have h1 : (digB k ++ o).size = 1 + o.size := by rw [ByteArray.size_append]; rfl
      omega
    · omega
set_option maxHeartbeats 2000000 in
set_option maxRecDepth 100000 in
theorem markText_c (k : Int) (w : World) (h0 : 0 < k) (h2 : k ≤ 9000000000000000000) : Calls Tryd.prog 56 #[.int .i64 k] w fun e w' => e = .returned (.string (markT k)) ∧ Below w.heap.size w w' := by
  have hT := Lib.hid (show markT k = ⟨#[109]⟩ ++ digs 20 k ⟨#[]⟩ from rfl)
  go_enter Tryd.func56, Tryd.ntmps56
  go_wp2_with fail
  go_loopw [0, 3] (fun n o wr => ∃ (f : Nat) (m : Int) (x : ByteArray), f ≤ 20 ∧ n = .int .i64 m ∧ o = .string x ∧ 0 ≤ m ∧ Hid (m < 10 ^ f) ∧ m ≤ 9000000000000000000 ∧ x.size ≤ 20 - f ∧ Hid (digs f m x = digs 20 k ⟨#[]⟩) ∧ Below w.heap.size w wr) (fun n _ _ => (intOf n).toNat)
  case atStart => exact ⟨20, k, _, by omega, rfl, rfl, by omega, (show k < 10 ^ 20 by omega), h2, by simp [ByteArray.size], rfl, Below.refl _ _⟩
  case round =>
    obtain ⟨f, m, x, hf, rfl, rfl, hm0, hm1, hm2, hx, hd, hb⟩ := hrel
    by_cases hm : 0 < m
    · obtain ⟨g, rfl⟩ : ∃ g, f = g + 1 := ⟨f - 1, by
        rcases Nat.eq_zero_or_pos f with h | h
        · subst h; have := hm1.out; simp at this; omega
        · omega⟩
      have hd2 := Lib.hid (show digs g (m / 10) (digB m ++ x) = _ from (digs_step hm).symm.trans hd.out)
      have hcl : ∀ i, i < 1 → (wr.alloc (.cells #[.int .u8 (48 + m % 10)] 5)).cell? ⟨wr.heap.size, 0 + i, none⟩ = some (.int .u8 ([48 + m % 10].getD i 0)) := fun i hi => by
        obtain rfl : i = 0 := by omega
        simp
      have hconv := run_convert_bytes_arg (P := Tryd.prog) (wr.alloc (.cells #[.int .u8 (48 + m % 10)] 5)) 42 5 Tryd.underlying42 Tryd.underlying5 wr.heap.size 0 1 1 [48 + m % 10] rfl hcl 9 Tryd.underlying9
      clear hcl
      have hs1 : (strOfNums [48 + m % 10]).size + x.size ≤ 9223372036854775807 := by
        have : (strOfNums [48 + m % 10]).size = 1 := rfl
        omega
      have e1 : m.tdiv 10 = m / 10 := Int.tdiv_eq_ediv_of_nonneg hm0
      go_wp2_with fail
      go_roundw
      case rel =>
        refine ⟨g, m / 10, digB m ++ x, by omega, by first | rfl | (rw [← e1]; go_num), rfl, by omega, ?_, by omega, ?_, hd2.out, (by repeat' (first | exact Below.refl _ _ | with_reducible assumption | refine bext ?_ ?_ _ | refine Below.alloc ?_ ?_ _ | refine Below.setCell ?_ ?_ _ | refine Below.drew ?_ | (simp; done) | (have hbz := hb.size; first | omega | (simp; omega)) | (simp; omega) | omega))⟩
        · have := hm1.out
          have hp : (10 : Int) ^ (g + 1) = 10 ^ g * 10 := Int.pow_succ 10 g
          rw [hp] at this
          exact (by omega : m / 10 < 10 ^ g)
        · rw [ByteArray.size_append]
          have : (digB m).size = 1 := rfl
          omega
      case measure => simp [intOf]; omega
    · obtain rfl : m = 0 := by omega
      have hx2 := hd.out
      rw [digs_done] at hx2
      subst hx2
      clear hd
      have hs1 : 1 + (digs 20 k ⟨#[]⟩).size ≤ 9223372036854775807 := by omega
      clear hx
      go_wp2_with fail
      go_ret
      exact ⟨by rw [hT.out]; rfl, hb⟩
end Go.Proofs.YteainpflmofjaaaDoor
