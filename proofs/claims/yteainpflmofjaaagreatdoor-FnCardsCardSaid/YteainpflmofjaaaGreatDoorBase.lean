/- General lemmas for the proofs of this seat: worlds that have only grown, rows of cells that a slice owns, loops that ask all or search. No condition. -/
import Derived.Test.YteainpflmofjaaaGreatDoorRows
import Derived.WalkKit
import Derived.WalkSpells
import Derived.WalkLawsBesides
import Derived.BigQuiet
import Derived.Deep.QuietTactic
import Derived.Deep.LoopGhost
import Derived.Lib.Hide
import Derived.Handy
namespace Go.Proofs.YteainpflmofjaaaGreatDoor
open Go.RowKit

/-! ### worlds that have only grown -/
/-- What a call that writes nothing old leaves behind: draws, and new blocks. -/
structure Gap where
  d : Nat
  os : Array Obj
instance : Inhabited Gap := ⟨⟨0, #[]⟩⟩
def ext (w : World) (p : Gap) : World := { w with drawn := p.d, heap := w.heap ++ p.os }
theorem below_ext (w : World) (p : Gap) : Below w.heap.size w (ext w p) :=
  ⟨rfl, rfl, rfl, by simp [ext], fun k hk => by simp [ext, Array.getElem?_append, hk]⟩
theorem ext_of_below {w w' : World} (h : Below w.heap.size w w') : ∃ p : Gap, w' = ext w p := by
  refine ⟨⟨w'.drawn, w'.heap.extract w.heap.size w'.heap.size⟩, ?_⟩
  obtain ⟨heap', tape', drawn', os', output'⟩ := w'
  have e1 : os' = w.os := h.os
  have e2 : tape' = w.tape := h.tape
  have e3 : output' = w.output := h.output
  have hs : w.heap.size ≤ heap'.size := h.size
  have hb : ∀ k, k < w.heap.size → heap'[k]? = w.heap[k]? := h.block
  subst e1 e2 e3
  have eh : heap' = w.heap ++ heap'.extract w.heap.size heap'.size := by
    apply Array.ext_getElem?
    intro k
    by_cases hk : k < w.heap.size
    · rw [Array.getElem?_append_left hk]; exact hb k hk
    · rw [Array.getElem?_append_right (by omega), Array.getElem?_extract]
      by_cases hk2 : k < heap'.size
      · rw [if_pos (by omega)]; congr 1; omega
      · rw [if_neg (by omega), Array.getElem?_eq_none (by omega)]
  simp only [ext]
  congr 1
theorem heap_ext (w : World) (p : Gap) (k : Nat) (h : k < w.heap.size) : (ext w p).heap[k]? = w.heap[k]? := (below_ext w p).block k h
@[go_sem, simp] theorem size_ext (w : World) (p : Gap) : (ext w p).heap.size = w.heap.size + p.os.size := by simp [ext]
@[go_sem] theorem cell?_ext (w : World) (p : Gap) (b o : Nat) (s : Option Nat) (h : b < w.heap.size) : (ext w p).cell? ⟨b, o, s⟩ = w.cell? ⟨b, o, s⟩ :=
  (below_ext w p).cell (p := ⟨b, o, s⟩) h
@[go_sem] theorem frozen?_ext (w : World) (p : Gap) (b o : Nat) (s : Option Nat) (h : b < w.heap.size) : (ext w p).frozen? ⟨b, o, s⟩ = w.frozen? ⟨b, o, s⟩ :=
  (below_ext w p).frozen (p := ⟨b, o, s⟩) h
@[go_sem] theorem lt_add_any (a b c : Nat) (h : a < b) : a < b + c := Nat.lt_add_right c h
@[go_sem] theorem lt_add_one_add (a c : Nat) : a < a + 1 + c := by omega
theorem bext {B : Nat} {a w : World} (h : Below B a w) (hB : B ≤ w.heap.size) (p : Gap) : Below B a (ext w p) :=
  h.trans ((below_ext w p).mono hB)
theorem btrans {a b c : World} (h : Below a.heap.size a b) (k : Below b.heap.size b c) : Below a.heap.size a c := h.trans (k.mono h.size)

/-- A drawn region, walked once, over callees that write nothing old. -/
theorem wp_region_ext {P : Program} {id : Nat} {Q : Exit → Act → World → Prop} {a : Act} {w : World} {l : List Oper} (hm : P.follows .mixedOrders = true) (hB : Region.lexB .any l.toArray = true)
    (h : wpQuiet P l.toArray (fun w' => ∃ p : Gap, w' = ext w p) (fun a' => ∀ w', (∃ p : Gap, w' = ext w p) → Q .normal a' w') l a) : (Code.region id l.toArray true).wp P Q a w :=
  wp_region_quiet (C := fun w' => ∃ p : Gap, w' = ext w p) hm hB ⟨⟨w.drawn + 1, #[]⟩, by simp [ext]⟩ (by simpa using h)
theorem Calls.ext_of {P : Program} {f : FuncId} {args : Array Value} {w : World} {p : Gap} {v : Value}
    (h : Calls P f args (ext w p) fun e w' => e = .returned v ∧ Below (ext w p).heap.size (ext w p) w') : Calls P f args (ext w p) fun e w'' => e = .returned v ∧ ∃ q : Gap, w'' = ext w q :=
  h.mono fun _ _ ⟨he, hb⟩ => ⟨he, ext_of_below ((below_ext w p).trans (hb.mono (below_ext w p).size))⟩
theorem Calls.ext_same {P : Program} {f : FuncId} {args : Array Value} {w : World} {p : Gap} {v : Value}
    (h : Calls P f args (ext w p) fun e w' => e = .returned v ∧ ext w p = w') : Calls P f args (ext w p) fun e w'' => e = .returned v ∧ ∃ q : Gap, w'' = ext w q :=
  h.mono fun _ _ ⟨he, hb⟩ => ⟨he, p, hb.symm⟩

/-! ### results -/
theorem ret_bool {a b : Bool} (h : a = b) : Ending.returned (.bool a) = .returned (.bool b) := by rw [h]
theorem ret_int {k : IntKind} {a b : Int} (h : a = b) : Ending.returned (.int k a) = .returned (.int k b) := by rw [h]
theorem ret_str {a b : ByteArray} (h : a = b) : Ending.returned (.string a) = .returned (.string b) := by rw [h]
theorem ret_int_bool {a c : Int} {b d : Bool} (h : a = c) (h' : b = d) : Ending.returned (.tuple #[.int .i64 a, .bool b]) = .returned (.tuple #[.int .i64 c, .bool d]) := by rw [h, h']

/-! ### bounds, loops that ask all, loops that search -/
def inB (x a b : Int) : Bool := decide (a ≤ x) && decide (x ≤ b)
theorem inB_iff {x a b : Int} : inB x a b = true ↔ a ≤ x ∧ x ≤ b := by simp [inB]
def allTo (f : Nat → Bool) (n : Nat) : Bool := (List.range n).all f
theorem allTo_true {f : Nat → Bool} {n : Nat} (h : ∀ i, i < n → f i = true) : allTo f n = true := by simpa [allTo] using h
theorem allTo_iff {f : Nat → Bool} {n : Nat} : allTo f n = true ↔ ∀ i, i < n → f i = true := by simp [allTo]
theorem allTo_false {f : Nat → Bool} {n : Nat} (k : Nat) (hk : k < n) (h : f k = false) : allTo f n = false := by
  simp only [allTo, List.all_eq_false]; exact ⟨k, by simpa using hk, by simp [h]⟩
theorem upto_succ {f : Nat → Bool} {v : Bool} {k : Nat} (h : ∀ i, i < k → f i = v) (hk : f k = v) : ∀ i, i < k + 1 → f i = v := fun i hi => by
  rcases Nat.lt_or_eq_of_le (Nat.lt_succ_iff.1 hi) with h1 | rfl
  · exact h i h1
  · exact hk
/-- the first place below n at which f holds -/
def findTo (f : Nat → Bool) : Nat → Option Nat
  | 0 => none
  | n + 1 => (findTo f n).or (if f n then some n else none)
theorem findTo_none {f : Nat → Bool} : ∀ {n : Nat}, (∀ i, i < n → f i = false) → findTo f n = none
  | 0, _ => rfl
  | n + 1, h => by simp [findTo, findTo_none (fun i hi => h i (Nat.lt_succ_of_lt hi)), h n (Nat.lt_succ_self n)]
theorem findTo_some {f : Nat → Bool} {k : Nat} (h : ∀ i, i < k → f i = false) (hk : f k = true) : ∀ {n : Nat}, k < n → findTo f n = some k
  | n + 1, hn => by
    rcases Nat.lt_or_eq_of_le (Nat.lt_succ_iff.1 hn) with h1 | rfl
    · simp [findTo, findTo_some h hk h1]
    · simp [findTo, findTo_none h, hk]
theorem findTo_spec {f : Nat → Bool} {k : Nat} : ∀ {n : Nat}, findTo f n = some k → k < n ∧ f k = true ∧ ∀ i, i < k → f i = false
  | 0, h => by simp [findTo] at h
  | n + 1, h => by
    simp only [findTo, Option.or_eq_some_iff] at h
    rcases h with h | ⟨h1, h2⟩
    · obtain ⟨a, b, c⟩ := findTo_spec h
      exact ⟨Nat.lt_succ_of_lt a, b, c⟩
    · by_cases hf : f n
      · rw [if_pos hf] at h2
        obtain rfl := Option.some.inj h2
        refine ⟨Nat.lt_succ_self _, hf, fun i hi => ?_⟩
        cases hfi : f i
        · rfl
        · exfalso
          have hne : ∀ {m : Nat}, i < m → findTo f m ≠ none := by
            intro m
            induction m with
            | zero => intro h; omega
            | succ m ih =>
              intro hm
              rcases Nat.lt_or_eq_of_le (Nat.lt_succ_iff.1 hm) with h3 | rfl
              · simp only [findTo]
                cases hfm : findTo f m
                · exact absurd hfm (ih h3)
                · simp
              · simp [findTo, hfi]
          exact hne hi h1
      · rw [if_neg hf] at h2; cases h2
theorem findTo_none_spec {f : Nat → Bool} {n : Nat} (h : findTo f n = none) : ∀ i, i < n → f i = false := fun i hi => by
  induction n with
  | zero => omega
  | succ n ih =>
    simp only [findTo, Option.or_eq_none_iff] at h
    rcases Nat.lt_or_eq_of_le (Nat.lt_succ_iff.1 hi) with h1 | rfl
    · exact ih h.1 h1
    · cases hf : f i
      · rfl
      · rw [hf] at h; simp at h
/-- the index as Go has it: -1 where there is none -/
def idxInt : Option Nat → Int
  | some k => k
  | none => -1
theorem idxInt_neg {o : Option Nat} : idxInt o < 0 ↔ o = none := by cases o <;> simp [idxInt] <;> omega

/-! ### rows of cells -/
def gd {α : Type} [Inhabited α] (l : List α) (i : Nat) : α := l.getD i default
theorem gd_eq {α : Type} [Inhabited α] {l : List α} {i : Nat} (h : i < l.length) : l[i]? = some (gd l i) := by simp [gd, h]
theorem gd_get {α : Type} [Inhabited α] {l : List α} {i : Nat} (h : i < l.length) : gd l i = l[i] := by simp [gd, h]
theorem gd_take {α : Type} [Inhabited α] {l : List α} {i k : Nat} (h : i < k) : gd (l.take k) i = gd l i := by simp [gd, List.getD, h]
theorem gd_drop {α : Type} [Inhabited α] {l : List α} {i k : Nat} : gd (l.drop k) i = gd l (k + i) := by simp [gd, List.getD]
theorem gd_append {α : Type} [Inhabited α] {l r : List α} {i : Nat} (h : i < l.length) : gd (l ++ r) i = gd l i := by simp [gd, List.getD, List.getElem?_append, h]
theorem gd_append_last {α : Type} [Inhabited α] {l : List α} {x : α} : gd (l ++ [x]) l.length = x := by simp [gd]
theorem take_succ_gd {α : Type} [Inhabited α] {l : List α} {k : Nat} (h : k < l.length) : l.take (k + 1) = l.take k ++ [gd l k] := by
  rw [List.take_succ_eq_append_getElem h, gd_get h]

section
variable {α : Type} [Inhabited α]
/-- The elements of l lie, each in k cells, from the address a = ⟨b, off⟩ on. -/
def Cells (w : World) (enc : α → List Value) (k : Nat) (a : Option Addr) (b off : Nat) (l : List α) : Prop :=
  ∀ i, i < l.length → a = some ⟨b, off, none⟩ ∧ b < w.heap.size ∧ ∀ j v, (enc (gd l i))[j]? = some v → w.cell? ⟨b, off + i * k + j, none⟩ = some v
theorem Cells.mono {w w' : World} {enc : α → List Value} {k : Nat} {a : Option Addr} {b off : Nat} {l : List α} (h : Cells w enc k a b off l) (hb : Below w.heap.size w w') : Cells w' enc k a b off l := fun i hi => by
  obtain ⟨ha, h0, c⟩ := h i hi
  exact ⟨ha, Nat.lt_of_lt_of_le h0 hb.size, fun j v hv => (hb.cell (p := ⟨b, off + i * k + j, none⟩) h0).trans (c j v hv)⟩
/-- v is a slice that reads as l. -/
def Sl (w : World) (enc : α → List Value) (k : Nat) (v : Value) (l : List α) : Prop :=
  ∃ (a : Option Addr) (cap b off : Nat), v = .slice a l.length cap ∧ l.length ≤ cap ∧ cap ≤ maxLen ∧ Cells w enc k a b off l
theorem Sl.mono {w w' : World} {enc : α → List Value} {k : Nat} {v : Value} {l : List α} (h : Sl w enc k v l) (hb : Below w.heap.size w w') : Sl w' enc k v l := by
  obtain ⟨a, cap, b, off, hv, h1, h2, hc⟩ := h
  exact ⟨a, cap, b, off, hv, h1, h2, hc.mono hb⟩
theorem flat_len {α : Type} {enc : α → List Value} {k : Nat} (hk : ∀ x, (enc x).length = k) (l : List α) : (l.flatMap enc).length = l.length * k := by
  induction l with
  | nil => simp
  | cons x l ih => simp [List.flatMap_cons, hk, ih, Nat.succ_mul, Nat.add_comm]
theorem flat_get {enc : α → List Value} {k : Nat} (hk : ∀ x, (enc x).length = k) : ∀ (l : List α) (i j : Nat), i < l.length → j < k → (l.flatMap enc)[i * k + j]? = (enc (gd l i))[j]?
  | x :: l, 0, j, _, hj => by simp [List.flatMap_cons, gd, List.getElem?_append, hk, hj]
  | x :: l, i + 1, j, hi, hj => by
    have e : (i + 1) * k + j = k + (i * k + j) := by rw [Nat.succ_mul]; omega
    have g : gd (x :: l) (i + 1) = gd l i := by simp [gd]
    rw [e, g, List.flatMap_cons, List.getElem?_append_right (by rw [hk]; omega), hk, Nat.add_sub_cancel_left]
    exact flat_get hk l i j (by simpa using hi) hj
/-- v is a slice in memory of the call's own, from block lo on, that reads as l. -/
def Own (w : World) (lo : Nat) (e : TypeId) (enc : α → List Value) (k : Nat) (v : Value) (l : List α) : Prop := w.ownsRow lo e k v l.length (l.flatMap enc)
theorem Own.sl {w : World} {lo : Nat} {e : TypeId} {enc : α → List Value} {k : Nat} (hk : ∀ x, (enc x).length = k) {v : Value} {l : List α} (h : Own w lo e enc k v l) : Sl w enc k v l := by
  obtain ⟨hlen, hn | ⟨g, cap, cur, hv, hlo, hg, hc, hm, hsz, ht⟩⟩ := h
  · obtain ⟨rfl, h0⟩ := hn
    obtain rfl := List.eq_nil_of_length_eq_zero h0
    exact ⟨none, 0, 0, 0, rfl, Nat.le_refl _, Nat.zero_le _, fun i hi => absurd hi (by simp)⟩
  · refine ⟨_, cap, g, 0, hv, hc, hm, fun i hi => ⟨rfl, (Array.getElem?_eq_some_iff.1 hg).1, fun j u hu => ?_⟩⟩
    have hj : j < k := by have := (List.getElem?_eq_some_iff.1 hu).1; rwa [hk] at this
    rw [cell_of_row w g _ cur e (0, 0) hg, Nat.zero_add]
    have h2 := flat_get hk l i j hi hj
    rw [hu, ← ht, List.getElem?_take] at h2
    split at h2
    · simpa using h2
    · cases h2
theorem Own.mono {α : Type} {w w' : World} {lo : Nat} {e : TypeId} {enc : α → List Value} {k : Nat} {v : Value} {l : List α} (h : Own w lo e enc k v l) (hb : Below w.heap.size w w') : Own w' lo e enc k v l := by
  refine ⟨h.1, ?_⟩
  rcases h.2 with hn | ⟨g, cap, cur, hv, hlo, hg, rest⟩
  · exact .inl hn
  · exact .inr ⟨g, cap, cur, hv, hlo, (hb.block g (Array.getElem?_eq_some_iff.1 hg).1).trans hg, rest⟩
theorem Own.lower {α : Type} {w : World} {lo lo' : Nat} {e : TypeId} {enc : α → List Value} {k : Nat} {v : Value} {l : List α} (h : Own w lo e enc k v l) (hl : lo' ≤ lo) : Own w lo' e enc k v l := by
  refine ⟨h.1, ?_⟩
  rcases h.2 with hn | ⟨g, cap, cur, hv, hlo, rest⟩
  · exact .inl hn
  · exact .inr ⟨g, cap, cur, hv, Nat.le_trans hl hlo, rest⟩
theorem Own.nil {α : Type} (w : World) (lo : Nat) (e : TypeId) (enc : α → List Value) (k : Nat) : Own w lo e enc k (.slice none 0 0) ([] : List α) := World.ownsRow_nil w lo e k
end

/-- A row of the call's own behind the slice v, n elements of k cells, of whose cells the first m hold what F says. -/
def Fill (w : World) (lo : Nat) (e : TypeId) (k : Nat) (v : Value) (n : Nat) (F : List Value) (m : Nat) : Prop :=
  F.length = n * k ∧ ∃ xs, w.ownsRow lo e k v n xs ∧ ∀ j, j < m → xs[j]? = F[j]?
theorem Fill.start {w : World} {lo : Nat} {e : TypeId} {k n : Nat} {v : Value} {F xs : List Value} (hF : F.length = n * k) (h : w.ownsRow lo e k v n xs) : Fill w lo e k v n F 0 :=
  ⟨hF, xs, h, fun j hj => by omega⟩
theorem Fill.step {w : World} {lo : Nat} {e : TypeId} {k g n cap : Nat} {F : List Value} {m : Nat} (h : Fill w lo e k (.slice (some ⟨g, 0, none⟩) n cap) n F m) {v : Value} (hv : F[m]? = some v) : Fill (w.setCell ⟨g, m, none⟩ v) lo e k (.slice (some ⟨g, 0, none⟩) n cap) n F (m + 1) := by
  obtain ⟨hF, xs, ho, hx⟩ := h
  have hm : m < n * k := by have := (List.getElem?_eq_some_iff.1 hv).1; omega
  refine ⟨hF, xs.set m v, (ho.stored m v).1, fun j hj => ?_⟩
  rw [List.getElem?_set]
  by_cases e : m = j
  · subst e
    rw [if_pos rfl, if_pos (by rw [ho.1]; exact hm), hv]
  · rw [if_neg e]; exact hx j (by omega)
theorem Fill.cell {w : World} {lo : Nat} {e : TypeId} {k g n cap : Nat} {F : List Value} {m : Nat} (h : Fill w lo e k (.slice (some ⟨g, 0, none⟩) n cap) n F m) (j : Nat) (hj : j < n * k) : ∃ v, w.cell? ⟨g, j, none⟩ = some v := by
  obtain ⟨hF, xs, ho, _⟩ := h
  rw [ho.cellAt j hj]
  exact ⟨_, List.getElem?_eq_getElem (by rw [ho.1]; exact hj)⟩
theorem Fill.frozen {w : World} {lo : Nat} {e : TypeId} {k g n cap : Nat} {F : List Value} {m : Nat} (h : Fill w lo e k (.slice (some ⟨g, 0, none⟩) n cap) n F m) (j : Nat) : w.frozen? ⟨g, j, none⟩ = false := by
  obtain ⟨hF, xs, ho, _⟩ := h
  exact ho.frozenAt j
theorem Fill.lt {w : World} {lo : Nat} {e : TypeId} {k g n cap : Nat} {F : List Value} {m : Nat} (h : Fill w lo e k (.slice (some ⟨g, 0, none⟩) n cap) n F m) : lo ≤ g ∧ g < w.heap.size := by
  obtain ⟨hF, xs, ho, _⟩ := h
  exact ho.lt g rfl
/-- where there is an element the slice has a block -/
theorem Fill.some {w : World} {lo : Nat} {e : TypeId} {k n cap : Nat} {a : Option Addr} {F : List Value} {m : Nat} (h : Fill w lo e k (.slice a n cap) n F m) (hn : 0 < n) : ∃ g, a = some ⟨g, 0, none⟩ := by
  obtain ⟨hF, xs, ho, _⟩ := h
  rcases ho.2 with ⟨_, h0⟩ | ⟨g, _, _, hv, _⟩
  · omega
  · exact ⟨g, by injection hv⟩
theorem Fill.mono {w w' : World} {lo : Nat} {e : TypeId} {k n : Nat} {v : Value} {F : List Value} {m : Nat} (h : Fill w lo e k v n F m) (hb : Below w.heap.size w w') : Fill w' lo e k v n F m := by
  obtain ⟨hF, xs, ho, hx⟩ := h
  refine ⟨hF, xs, ⟨ho.1, ?_⟩, hx⟩
  rcases ho.2 with hn | ⟨g', cap, cur, hv, hlo, hg, rest⟩
  · exact .inl hn
  · exact .inr ⟨g', cap, cur, hv, hlo, (hb.block g' (Array.getElem?_eq_some_iff.1 hg).1).trans hg, rest⟩
theorem Fill.all {w : World} {lo : Nat} {e : TypeId} {k n : Nat} {v : Value} {F : List Value} {m : Nat} (h : Fill w lo e k v n F m) (hm : n * k ≤ m) : w.ownsRow lo e k v n F := by
  obtain ⟨hF, xs, ho, hx⟩ := h
  have : xs = F := by
    apply List.ext_getElem?
    intro j
    by_cases hj : j < m
    · exact hx j hj
    · rw [List.getElem?_eq_none (by rw [ho.1]; omega), List.getElem?_eq_none (by omega)]
  exact this ▸ ho
/-- only the block 'row', and what is new, has turned -/
theorem only_setCell {a w : World} {g : Nat} (h : a.grownBy w (some g)) (p : Addr) (hp : p.block = g) (u : Value) : a.grownBy (w.setCell p u) (some g) :=
  ⟨h.os, h.tape, h.output, by simpa [World.setCell] using h.size, fun i hi hne => (Below.heap_setCell w p u i (by
    rintro rfl
    exact hne (by rw [hp]))).trans (h.block i hi hne)⟩
theorem only_trans {a b c : World} {row : Option Nat} (h : a.grownBy b row) (k : b.grownBy c row) : a.grownBy c row :=
  ⟨k.os.trans h.os, k.tape.trans h.tape, k.output.trans h.output, Nat.le_trans h.size k.size, fun i hi hne => (k.block i (Nat.lt_of_lt_of_le hi h.size) hne).trans (h.block i hi hne)⟩
theorem only_of_below {a w : World} (h : Below a.heap.size a w) (row : Option Nat) : a.grownBy w row := ⟨h.os, h.tape, h.output, h.size, fun i hi _ => h.block i hi⟩
/-- below B only what the call itself made has turned -/
theorem Below.only {B : Nat} {a w w' : World} {row : Option Nat} (h : Below B a w) (hg : w.grownBy w' row) (hB : B ≤ w.heap.size) (hr : ∀ k, row = some k → B ≤ k) : Below B a w' := h.grown hg hB hr

/-- A box of a struct's cells. -/
def BoxAt (W : World) (b : Nat) (cs : List Value) : Prop := b < W.heap.size ∧ ∀ j v, cs[j]? = some v → W.cell? ⟨b, j, none⟩ = some v
theorem BoxAt.new (w : World) (cs : List Value) (t : TypeId) : BoxAt (w.alloc (.cells cs.toArray t)) w.heap.size cs := ⟨by simp, fun j v h => by simpa using h⟩
theorem BoxAt.mono {W W' : World} {b : Nat} {cs : List Value} (h : BoxAt W b cs) (hb : Below W.heap.size W W') : BoxAt W' b cs :=
  ⟨Nat.lt_of_lt_of_le h.1 hb.size, fun j v hv => (hb.cell (p := ⟨b, j, none⟩) h.1).trans (h.2 j v hv)⟩
theorem below_alloc (w : World) (o : Obj) : Below w.heap.size w (w.alloc o) := (Below.refl _ _).alloc (Nat.le_refl _) o
/-- A call that hands back a new slice. -/
def RetOwn {α : Type} [Inhabited α] (w : World) (e : TypeId) (enc : α → List Value) (k : Nat) (l : List α) (en : Ending) (w' : World) : Prop :=
  ∃ v, en = .returned v ∧ Own w' w.heap.size e enc k v l ∧ Below w.heap.size w w'
end Go.Proofs.YteainpflmofjaaaGreatDoor
