/- clear on the rest of a slice of the call's own; picked elements. General. -/
import Derived.Test.YteainpflmofjaaaGreatDoorPn
import Derived.Lib.SliceRun
namespace Go.Proofs.YteainpflmofjaaaGreatDoor
open Go.RowKit
section
variable {P : Program}
theorem zeroCells_len (z : Array Value) (n : Nat) : (Builtin.zeroCells z n).toList.length = n * z.size := by simp [Builtin.zeroCells]
theorem zeroCells_one {z : Array Value} (hz : 0 < z.size) (h1 : ∀ u ∈ z, u.oneCell' = true) (n : Nat) : ∀ u ∈ (Builtin.zeroCells z n).toList, u.oneCell' = true := fun u hu => by
  simp only [Builtin.zeroCells, Array.toList_map, List.mem_map, Array.mem_toList_iff] at hu
  obtain ⟨i, _, rfl⟩ := hu
  have hm := Nat.mod_lt i hz
  rw [getElem!_pos z (i % z.size) hm]
  exact h1 _ (Array.getElem_mem hm)
/-- 'clear(s)' of n > 0 elements of k cells each. -/
theorem run_clear_rows (w : World) (t e ty : TypeId) (i : TypeInfo) (z : Value) (ht : P.underlying t = some (.slice e)) (hi : P.info? e = some i) (hz : i.zero = some z) (hk0 : 0 < z.cells.size) (h1 : ∀ u ∈ z.cells, u.oneCell' = true) (b o n c : Nat) (hn : 0 < n)
    (hc : ∀ j, j < n * z.cells.size → (w.cell? ⟨b, o + j, none⟩).isSome = true) (hf : ∀ j, j < n * z.cells.size → w.frozen? ⟨b, o + j, none⟩ = false) :
    (Builtin.clear_ #[t] ty #[.slice (some ⟨b, o, none⟩) n c]).run P w = .ok (.tuple #[]) (w.setCells b o (Builtin.zeroCells z.cells n).toList) := by
  have hv : ∀ w, (zeroValue e).run P w = .ok z w := fun w => by simp [zeroValue, typeInfo, hi, hz]
  have hst := run_storeCells_cells (P := P) b o (Builtin.zeroCells z.cells n).toList 0 w (by rw [zeroCells_len]; simpa using hc) (by rw [zeroCells_len]; simpa using hf) (zeroCells_one hk0 h1 n)
  simp only [Nat.add_zero] at hst
  obtain ⟨m, rfl⟩ : ∃ m, n = m + 1 := ⟨n - 1, by omega⟩
  simp [Builtin.clear_, run_underlying ht, hv, hst]
theorem ownsRow_setCells {lo : Nat} {e : TypeId} {k g n cap : Nat} (m : Nat) : ∀ (vs : List Value) (o : Nat) (w : World) (xs : List Value), m ≤ o → w.ownsRow lo e k (.slice (some ⟨g, 0, none⟩) n cap) n xs →
    ∃ xs', (w.setCells g o vs).ownsRow lo e k (.slice (some ⟨g, 0, none⟩) n cap) n xs' ∧ xs'.take m = xs.take m ∧ w.grownBy (w.setCells g o vs) (some g) ∧ (w.setCells g o vs).heap.size = w.heap.size
  | [], _, w, xs, _, h => ⟨xs, h, rfl, World.grownBy.refl _ _, rfl⟩
  | v :: vs, o, w, xs, hm, h => by
    obtain ⟨h1, h2⟩ := h.stored o v
    obtain ⟨xs', h3, h4, h5, h6⟩ := ownsRow_setCells m vs (o + 1) _ _ (by omega) h1
    refine ⟨xs', h3, ?_, only_trans h2 h5, by rw [World.setCells, h6]; simp [World.setCell]⟩
    rw [h4, List.take_set_of_le hm]
theorem ownsRow_prefix {w : World} {lo : Nat} {e : TypeId} {k g n cap m : Nat} {xs : List Value} (h : w.ownsRow lo e k (.slice (some ⟨g, 0, none⟩) n cap) n xs) (hm : m ≤ n) : w.ownsRow lo e k (.slice (some ⟨g, 0, none⟩) m cap) m (xs.take (m * k)) := by
  obtain ⟨h1, h2⟩ := h
  have hmk : m * k ≤ n * k := Nat.mul_le_mul_right k hm
  refine ⟨by rw [List.length_take, h1]; omega, ?_⟩
  rcases h2 with ⟨h3, _⟩ | ⟨g', cap', cur, h3, h4, h5, h6, h7, h8, h9⟩
  · cases h3
  · simp only [Value.slice.injEq, Option.some.injEq, Addr.mk.injEq, and_true, true_and] at h3
    obtain ⟨rfl, rfl⟩ := h3
    refine .inr ⟨g, cap, cur, rfl, h4, h5, by omega, h7, h8, ?_⟩
    rw [← h9, List.take_take, Nat.min_eq_left hmk]
variable {α : Type}
theorem flat_take {enc : α → List Value} {k : Nat} (hk : ∀ x, (enc x).length = k) (l : List α) (m : Nat) : (l.flatMap enc).take (m * k) = (l.take m).flatMap enc := by
  induction l generalizing m with
  | nil => simp
  | cons x l ih =>
    cases m with
    | zero => simp
    | succ m =>
      rw [List.flatMap_cons, List.take_succ_cons, List.flatMap_cons, ← ih m, Nat.succ_mul, Nat.add_comm, ← hk x, List.take_append]
      simp
      exact List.take_of_length_le (Nat.le_add_right _ _)
theorem flat_drop {enc : α → List Value} {k : Nat} (hk : ∀ x, (enc x).length = k) (l : List α) (m : Nat) : (l.flatMap enc).drop (m * k) = (l.drop m).flatMap enc := by
  induction l generalizing m with
  | nil => simp
  | cons x l ih =>
    cases m with
    | zero => simp
    | succ m =>
      rw [List.flatMap_cons, List.drop_succ_cons, ← ih m, Nat.succ_mul, Nat.add_comm, List.drop_append, ← hk x]
      simp
theorem ownsRow_splice {lo : Nat} {e : TypeId} {k g n cap : Nat} : ∀ (vs : List Value) (o : Nat) (w : World) (xs : List Value), o + vs.length ≤ xs.length → w.ownsRow lo e k (.slice (some ⟨g, 0, none⟩) n cap) n xs →
    (w.setCells g o vs).ownsRow lo e k (.slice (some ⟨g, 0, none⟩) n cap) n (xs.take o ++ vs ++ xs.drop (o + vs.length)) ∧ w.grownBy (w.setCells g o vs) (some g)
  | [], o, w, xs, _, h => ⟨by simpa [World.setCells] using h, World.grownBy.refl _ _⟩
  | v :: vs, o, w, xs, hl, h => by
    simp only [List.length_cons] at hl
    obtain ⟨h1, h2⟩ := h.stored o v
    obtain ⟨h3, h4⟩ := ownsRow_splice vs (o + 1) _ _ (by simp; omega) h1
    refine ⟨?_, only_trans h2 h4⟩
    have e : (xs.set o v).take (o + 1) ++ vs ++ (xs.set o v).drop (o + 1 + vs.length) = xs.take o ++ v :: vs ++ xs.drop (o + (v :: vs).length) := by
      have e1 : (xs.set o v).take (o + 1) = xs.take o ++ [v] := by
        rw [List.take_succ_eq_append_getElem (by simp; omega)]
        simp [List.take_set_of_le (Nat.le_refl o)]
      have e2 : (xs.set o v).drop (o + 1 + vs.length) = xs.drop (o + (v :: vs).length) := by
        rw [List.drop_set_of_lt (by omega)]
        congr 1
        simp; omega
      rw [e1, e2]
      simp
    rw [← e]
    exact h3
/-- one element written anew -/
theorem Own.storeAll [Inhabited α] {w : World} {lo : Nat} {e : TypeId} {enc : α → List Value} {k : Nat} (hk : ∀ x, (enc x).length = k) {g n cap : Nat} {l : List α} (h : Own w lo e enc k (.slice (some ⟨g, 0, none⟩) n cap) l) (hn : n = l.length) (i : Nat) (hi : i < l.length) (y : α) :
    Own (w.setCells g (i * k) (enc y)) lo e enc k (.slice (some ⟨g, 0, none⟩) n cap) (l.set i y) ∧ w.grownBy (w.setCells g (i * k) (enc y)) (some g) := by
  subst hn
  have hle : i * k + k ≤ l.length * k := by
    have := Nat.mul_le_mul_right k (show i + 1 ≤ l.length by omega)
    rw [Nat.succ_mul] at this
    exact this
  obtain ⟨h1, h2⟩ := ownsRow_splice (enc y) (i * k) w (l.flatMap enc) (by rw [hk, flat_len hk]; exact hle) (show w.ownsRow lo e k _ l.length (l.flatMap enc) from h)
  refine ⟨?_, h2⟩
  show World.ownsRow _ _ _ _ _ (l.set i y).length _
  rw [List.length_set]
  have e : (l.flatMap enc).take (i * k) ++ enc y ++ (l.flatMap enc).drop (i * k + (enc y).length) = (l.set i y).flatMap enc := by
    rw [hk, flat_take hk, show i * k + k = (i + 1) * k by rw [Nat.succ_mul], flat_drop hk, List.set_eq_take_append_cons_drop, if_pos hi]
    simp
  rw [← e]
  exact h1
/-- a slice of the call's own cut to its first m elements -/
theorem Own.cut [Inhabited α] {w : World} {lo : Nat} {e : TypeId} {enc : α → List Value} {k : Nat} (hk : ∀ x, (enc x).length = k) {g n cap m : Nat} {l : List α} (h : Own w lo e enc k (.slice (some ⟨g, 0, none⟩) n cap) l) (hn : n = l.length) (hm : m ≤ n) : Own w lo e enc k (.slice (some ⟨g, 0, none⟩) m cap) (l.take m) := by
  subst hn
  have := ownsRow_prefix (m := m) h hm
  rw [flat_take hk] at this
  show World.ownsRow _ _ _ _ _ (l.take m).length _
  rwa [List.length_take, Nat.min_eq_left hm]
/-- .. and what lies behind them turned -/
theorem Own.clearCut [Inhabited α] {w : World} {lo : Nat} {e : TypeId} {enc : α → List Value} {k : Nat} (hk : ∀ x, (enc x).length = k) {g n cap m : Nat} {l : List α} (h : Own w lo e enc k (.slice (some ⟨g, 0, none⟩) n cap) l) (hn : n = l.length) (hm : m ≤ n) (vs : List Value) :
    Own (w.setCells g (m * k) vs) lo e enc k (.slice (some ⟨g, 0, none⟩) m cap) (l.take m) ∧ w.grownBy (w.setCells g (m * k) vs) (some g) := by
  subst hn
  obtain ⟨xs', h1, h2, h3, _⟩ := ownsRow_setCells (m * k) vs (m * k) w _ (Nat.le_refl _) (show w.ownsRow lo e k _ l.length (l.flatMap enc) from h)
  refine ⟨?_, h3⟩
  have h4 := ownsRow_prefix (m := m) h1 hm
  rw [h2, flat_take hk] at h4
  show World.ownsRow _ _ _ _ _ (l.take m).length _
  rwa [List.length_take, Nat.min_eq_left hm]
end
/-! ### picked elements -/
/-- the values f at the places below n for which p holds -/
def pickG {α : Type} (p : Nat → Bool) (f : Nat → α) (n : Nat) : List α := ((List.range n).filter p).map f
section
variable {α : Type}
theorem pickG_yes {p : Nat → Bool} {f : Nat → α} {k : Nat} (h : p k = true) : pickG p f (k + 1) = pickG p f k ++ [f k] := by simp [pickG, List.range_succ, List.filter_append, h]
theorem pickG_no {p : Nat → Bool} {f : Nat → α} {k : Nat} (h : p k = false) : pickG p f (k + 1) = pickG p f k := by simp [pickG, List.range_succ, List.filter_append, h]
theorem pickG_len (p : Nat → Bool) (f : Nat → α) (n : Nat) : (pickG p f n).length ≤ n := by
  have := List.length_filter_le p (List.range n)
  simpa [pickG] using this
theorem pickG_congr {p p' : Nat → Bool} {f f' : Nat → α} {n : Nat} (hp : ∀ i, i < n → p' i = p i) (hf : ∀ i, i < n → f' i = f i) : pickG p' f' n = pickG p f n := by
  induction n with
  | zero => rfl
  | succ n ih =>
    have ih := ih (fun i hi => hp i (by omega)) (fun i hi => hf i (by omega))
    cases h : p n
    · rw [pickG_no h, pickG_no (by rw [hp n (by omega)]; exact h), ih]
    · rw [pickG_yes h, pickG_yes (by rw [hp n (by omega)]; exact h), ih, hf n (by omega)]
theorem pickG_all [Inhabited α] (p : Nat → Bool) (l : List α) : ∀ n, n ≤ l.length → (∀ i, i < n → p i = true) → pickG p (gd l) n = l.take n
  | 0, _, _ => by simp [pickG]
  | n + 1, hn, h => by
    rw [pickG_yes (h n (by omega)), pickG_all p l n (by omega) (fun i hi => h i (by omega)), take_succ_gd (by omega)]
theorem pickG_sub [Inhabited α] (p : Nat → Bool) (l : List α) : ∀ n, n ≤ l.length → (pickG p (gd l) n).Sublist (l.take n)
  | 0, _ => by simp [pickG]
  | n + 1, hn => by
    rw [take_succ_gd (by omega)]
    cases h : p n
    · rw [pickG_no h]
      exact (pickG_sub p l n (by omega)).trans (List.sublist_append_left _ _)
    · rw [pickG_yes h]
      exact (pickG_sub p l n (by omega)).append (List.Sublist.refl _)
theorem pickG_map {β : Type} (p : Nat → Bool) (f : Nat → α) (g : α → β) (n : Nat) : (pickG p f n).map g = pickG p (fun i => g (f i)) n := by simp [pickG]
end
end Go.Proofs.YteainpflmofjaaaGreatDoor
