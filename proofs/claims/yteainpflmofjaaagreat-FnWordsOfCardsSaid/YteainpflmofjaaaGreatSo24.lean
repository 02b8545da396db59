/- slices.Sort at strings of the call's own, by the shelf's contract. No condition but sizes. -/
import Derived.Test.YteainpflmofjaaaGreatSh24
import Derived.Test.YteainpflmofjaaaGreatNest
import Derived.Test.YteainpflmofjaaaGreatStore
import Derived.Sort.OwnSorted
namespace Go.Proofs.YteainpflmofjaaaGreat
open Go.RowKit
def bts (s : ByteArray) : List UInt8 := s.data.toList
def ofB (b : List UInt8) : ByteArray := ⟨b.toArray⟩
theorem ofB_bts (s : ByteArray) : ofB (bts s) = s := by cases s; simp [ofB, bts]
theorem bts_ofB (b : List UInt8) : bts (ofB b) = b := by simp [ofB, bts]
theorem ofB_size (b : List UInt8) : (ofB b).size = b.length := by simp [ofB, ByteArray.size]
def sortS (l : List ByteArray) : List ByteArray := ((l.map bts).mergeSort (fun x y => decide (x ≤ y))).map ofB
theorem sortS_len (l : List ByteArray) : (sortS l).length = l.length := by simp [sortS]
theorem flat_str (l : List ByteArray) : l.flatMap StrE.enc = (l.map bts).map encStr := by
  induction l with
  | nil => rfl
  | cons x l ih =>
    rw [List.flatMap_cons, ih, List.map_cons, List.map_cons]
    have : StrE.enc x = [encStr (bts x)] := by
      show [Value.string x] = [Value.string (ofB (bts x))]
      rw [ofB_bts]
    rw [this]; rfl
set_option maxHeartbeats 1000000 in
theorem sortStr_c (v : Value) (l : List ByteArray) (lo : Nat) (w : World) (h : Own w lo 9 StrE.enc 1 v l) (hl : l.length ≤ 10000000) : Calls Tryz.prog 33 #[v] w fun e w' => e = .returned (.tuple #[]) ∧ Own w' lo 9 StrE.enc 1 v (sortS l) ∧ w.grownBy w' v.ownBlock := by
  rcases Nat.eq_zero_or_pos l.length with h0 | h0
  · have hS := h.sl StrE.len
    obtain rfl := List.eq_nil_of_length_eq_zero h0
    obtain ⟨a, cap, b, off, rfl, -, -, -⟩ := hS
    refine (slices_Sort_string_none a cap w).mono ?_
    rintro e w' ⟨rfl, rfl⟩
    exact ⟨rfl, by rw [show sortS [] = [] by simp [sortS]]; exact h, World.grownBy.refl _ _⟩
  · obtain ⟨hlen, hn | ⟨g, cap, cur, rfl, hlo, hg, hc, hm, hsz, ht⟩⟩ := h
    · omega
    · have ht' : cur.toList.take (l.map bts).length = (l.map bts).map encStr := by
        rw [List.length_map, ← flat_str, ← ht, Nat.mul_one]
      have H := slices_Sort_string g 0 cap (l.map bts) w (holds_of_block hg ht') (Array.getElem?_eq_some_iff.1 hg).1 (by simp; omega)
      rw [List.length_map] at H
      refine H.mono ?_
      rintro e w' ⟨rfl, n, os, rfl⟩
      refine ⟨rfl, ?_, grownBy_sorted _⟩
      have h2 := ownsRow_sorted (w := w) (n := n) (os := os) (ts := (l.map bts).mergeSort (fun x y => decide (x ≤ y))) (ss := l.map bts) (by simp) hlo hg (by simpa using hc) hm hsz
      rw [List.length_map] at h2
      show World.ownsRow _ _ _ _ _ (sortS l).length ((sortS l).flatMap StrE.enc)
      have e1 : (sortS l).map bts = (l.map bts).mergeSort (fun x y => decide (x ≤ y)) := by
        rw [sortS, List.map_map, show (bts ∘ ofB) = id from by funext b; exact bts_ofB b, List.map_id]
      rw [sortS_len, flat_str, e1]
      exact h2
/-! ### what a sort gives -/
theorem le_total' (x y : List UInt8) : (decide (x ≤ y) || decide (y ≤ x)) = true := by
  simp only [Bool.or_eq_true, decide_eq_true_eq]; exact List.le_total x y
theorem sortS_perm (l : List ByteArray) : (sortS l).Perm l := by
  have h := (List.mergeSort_perm (l.map bts) (fun x y => decide (x ≤ y))).map ofB
  rw [List.map_map, show (ofB ∘ bts) = id from by funext b; exact ofB_bts b, List.map_id] at h
  exact h
theorem sortS_sorted (l : List ByteArray) : (sortS l).Pairwise (fun x y => bts x ≤ bts y) := by
  have h := List.pairwise_mergeSort (le := fun x y : List UInt8 => decide (x ≤ y)) (fun _ _ _ h1 h2 => by simp only [decide_eq_true_eq] at *; exact List.le_trans h1 h2) le_total' (l.map bts)
  rw [sortS, List.pairwise_map]
  refine h.imp (fun {a b} hab => ?_)
  rw [bts_ofB, bts_ofB]
  simpa using hab
theorem bts_inj {x y : ByteArray} (h : bts x = bts y) : x = y := by rw [← ofB_bts x, h, ofB_bts]
/-- a list in order with the same elements is the sorted one -/
theorem sortS_eq (l m : List ByteArray) (hp : m.Perm l) (hs : m.Pairwise (fun x y => bts x ≤ bts y)) : sortS l = m :=
  List.Perm.eq_of_pairwise (fun _ _ _ _ h1 h2 => bts_inj (List.le_antisymm h1 h2)) (sortS_sorted l) hs ((sortS_perm l).trans hp.symm)
theorem less_iff (a b : ByteArray) : Op.bytesLess a.toList b.toList = true ↔ bts a < bts b := by
  rw [bytesLess_eq, decide_eq_true_iff, ByteArray.toList_eq, ByteArray.toList_eq, bts, bts]
end Go.Proofs.YteainpflmofjaaaGreat
