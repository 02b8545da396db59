/- Lists of structs that hold slices, all of the call's own, that grow while choices are read; a box of one struct. General. No condition. -/
import Derived.Test.YteainpflmofjaaaGreatDoorCs
import Derived.Test.YteainpflmofjaaaGreatDoorDf
import Derived.Test.YteainpflmofjaaaGreatDoorPn
namespace Go.Proofs.YteainpflmofjaaaGreatDoor
open Go.RowKit
/-- all texts, none longer than n -/
def isS (n : Nat) : Value → Bool
  | .string z => decide (z.size ≤ n)
  | _ => false
theorem allS {n : Nat} {cs : List Value} (h : cs.all (isS n) = true) : ∀ v, v ∈ cs → ∃ z : ByteArray, z.size ≤ n ∧ v = .string z := fun v hv => by
  have := List.all_eq_true.1 h v hv
  cases v <;> simp [isS] at this
  exact ⟨_, this, rfl⟩
/-- all numbers -/
def isI : Value → Bool
  | .int .i64 _ => true
  | _ => false
theorem allI {cs : List Value} (h : cs.all isI = true) : ∀ v, v ∈ cs → ∃ z : Int, True ∧ v = .int .i64 z := fun v hv => by
  have := List.all_eq_true.1 h v hv
  unfold isI at this
  split at this
  · exact ⟨_, trivial, rfl⟩
  · cases this
section
variable {α β : Type}
/-- the slice in x is the call's own, and not v's block -/
def NIn (w0 w : World) (tI : TypeId) (encI : β → List Value) (hv : α → Value) (sub : α → List β) (Q : α → Prop) (v : Value) (x : α) : Prop :=
  Own w w0.heap.size tI encI 1 (hv x) (sub x) ∧ (∀ b, (hv x).ownBlock = some b → v.ownBlock ≠ some b) ∧ Q x
variable {tI : TypeId} {encI : β → List Value} {hv : α → Value} {sub : α → List β} {Q : α → Prop}
theorem own_keep {w w' : World} {lo : Nat} {t : TypeId} {γ : Type} {en : γ → List Value} {k : Nat} {v : Value} {l : List γ} {r : Option Nat} (h : Own w lo t en k v l) (hg : w.grownBy w' r) (hn : ∀ b, v.ownBlock = some b → r ≠ some b) : Own w' lo t en k v l :=
  h.kept hg (by
    cases hb : v.ownBlock with
    | none => exact .inl rfl
    | some b => exact .inr (fun e => hn b hb e.symm))
theorem NIn.keep {w0 w w' : World} {v : Value} {x : α} {r : Option Nat} (h : NIn w0 w tI encI hv sub Q v x) (hg : w.grownBy w' r) (hn : ∀ b, (hv x).ownBlock = some b → r ≠ some b) : NIn w0 w' tI encI hv sub Q v x :=
  ⟨own_keep h.1 hg hn, h.2⟩
theorem NIn.turn {w0 w w' : World} {B : Nat} {v : Value} {x : α} (h : NIn w0 w tI encI hv sub Q v x) (hg : w.grownBy w' (some B)) (hB : B < w0.heap.size) : NIn w0 w' tI encI hv sub Q v x :=
  h.keep hg (fun b hb e => by have := (h.1.bounds b hb).1; injection e with e; omega)
theorem NIn.nil (w0 w : World) {v : Value} {x : α} (h1 : hv x = .slice none 0 0) (h2 : sub x = []) (h3 : Q x) : NIn w0 w tI encI hv sub Q v x := by
  refine ⟨by rw [h1, h2]; exact Own.nil _ _ _ _ _, fun b hb => ?_, h3⟩
  rw [h1] at hb
  cases hb
/-- a slice made anew, behind v -/
theorem NIn.new {w0 w w' : World} {v : Value} {x : α} (h : Own w' w.heap.size tI encI 1 (hv x) (sub x)) (hv0 : ∀ b, v.ownBlock = some b → b < w.heap.size) (h0 : w0.heap.size ≤ w.heap.size) (hq : Q x) : NIn w0 w' tI encI hv sub Q v x :=
  ⟨h.lower h0, fun b hb e => by have h1 := (h.bounds b hb).1; have h2 := hv0 b e; omega, hq⟩
/-! ### a box of one struct, read and written as a row of one element -/
variable {tE : TypeId} {enc : α → List Value} {K : Nat}
def Bx (w : World) (lo : Nat) (tE : TypeId) (enc : α → List Value) (K : Nat) (b : Nat) (x : α) : Prop := Own w lo tE enc K (.slice (some ⟨b, 0, none⟩) 1 1) [x]
theorem Bx.new (hk : ∀ x, (enc x).length = K) (w : World) (lo : Nat) (h : lo ≤ w.heap.size) (x : α) : Bx (w.alloc (.cells (enc x).toArray tE)) lo tE enc K w.heap.size x :=
  ⟨by simp [hk], .inr ⟨w.heap.size, 1, _, rfl, h, heap_alloc_new w _, Nat.le_refl _, by simp [maxLen], by simp [hk], by simpa [hk] using List.take_of_length_le (Nat.le_of_eq (hk x))⟩⟩
theorem Bx.keep {w w' : World} {lo b : Nat} {x : α} {r : Option Nat} (h : Bx w lo tE enc K b x) (hg : w.grownBy w' r) (hn : r ≠ some b) : Bx w' lo tE enc K b x :=
  own_keep h hg (fun c hc => by have hc' : some b = some c := hc; rw [← hc']; exact hn)
theorem Bx.mono {w w' : World} {lo b : Nat} {x : α} (h : Bx w lo tE enc K b x) (hb : Below w.heap.size w w') : Bx w' lo tE enc K b x := Own.mono h hb
theorem Bx.lt {w : World} {lo b : Nat} {x : α} (h : Bx w lo tE enc K b x) : lo ≤ b ∧ b < w.heap.size := Own.bounds h b rfl
theorem Bx.frozen {w : World} {lo b : Nat} {x : α} (h : Bx w lo tE enc K b x) (j : Nat) : w.frozen? ⟨b, j, none⟩ = false := World.ownsRow.frozenAt h j
end
section
variable {α β : Type} [Inhabited α]
def NSt (w0 w : World) (B : Nat) (tE : TypeId) (enc : α → List Value) (K : Nat) (tI : TypeId) (encI : β → List Value) (hv : α → Value) (sub : α → List β) (Q : α → Prop) (v : Value) (l : List α) (m N : Nat) : Prop :=
  LSt w0 w B tE enc K v l m N ∧ ∀ i, i < l.length → NIn w0 w tI encI hv sub Q v (gd l i)
variable {tE tI : TypeId} {enc : α → List Value} {K : Nat} {encI : β → List Value} {hv : α → Value} {sub : α → List β} {Q : α → Prop}
theorem NSt.cur {w0 w : World} {B m N : Nat} {v : Value} {l : List α} (h : NSt w0 w B tE enc K tI encI hv sub Q v l m N) : Cur w B m := h.1.2.2.1
theorem NSt.own {w0 w : World} {B m N : Nat} {v : Value} {l : List α} (h : NSt w0 w B tE enc K tI encI hv sub Q v l m N) : Own w w0.heap.size tE enc K v l := h.1.1
theorem NSt.len {w0 w : World} {B m N : Nat} {v : Value} {l : List α} (h : NSt w0 w B tE enc K tI encI hv sub Q v l m N) : l.length ≤ N := h.1.2.1
theorem NSt.gr {w0 w : World} {B m N : Nat} {v : Value} {l : List α} (h : NSt w0 w B tE enc K tI encI hv sub Q v l m N) : w0.grownBy w (some B) := h.1.2.2.2.1
theorem NSt.size {w0 w : World} {B m N : Nat} {v : Value} {l : List α} (h : NSt w0 w B tE enc K tI encI hv sub Q v l m N) : w0.heap.size ≤ w.heap.size := h.gr.size
theorem NSt.blt {w0 w : World} {B m N : Nat} {v : Value} {l : List α} (h : NSt w0 w B tE enc K tI encI hv sub Q v l m N) : B < w0.heap.size := h.1.2.2.2.2
theorem NSt.vlt {w0 w : World} {B m N : Nat} {v : Value} {l : List α} (h : NSt w0 w B tE enc K tI encI hv sub Q v l m N) : ∀ b, v.ownBlock = some b → b < w.heap.size := fun b hb => (h.own.bounds b hb).2
theorem NSt.le {w0 w : World} {B m m' N N' : Nat} {v : Value} {l : List α} (h : NSt w0 w B tE enc K tI encI hv sub Q v l m N) (h1 : m ≤ m') (h2 : N ≤ N') : NSt w0 w B tE enc K tI encI hv sub Q v l m' N' := ⟨h.1.le h1 h2, h.2⟩
theorem NSt.weak {w0 w : World} {B m N : Nat} {v : Value} {l : List α} {Q' : α → Prop} (h : NSt w0 w B tE enc K tI encI hv sub Q v l m N) (hq : ∀ x, Q x → Q' x) : NSt w0 w B tE enc K tI encI hv sub Q' v l m N := ⟨h.1, fun i hi => ⟨(h.2 i hi).1, (h.2 i hi).2.1, hq _ (h.2 i hi).2.2⟩⟩
theorem NSt.cut {w0 w : World} {B m N M : Nat} {v : Value} {l : List α} (h : NSt w0 w B tE enc K tI encI hv sub Q v l m N) (hl : l.length ≤ M) : NSt w0 w B tE enc K tI encI hv sub Q v l m M := ⟨⟨h.1.1, hl, h.1.2.2⟩, h.2⟩
theorem NSt.turn {w0 w w' : World} {B m m' N : Nat} {v : Value} {l : List α} (h : NSt w0 w B tE enc K tI encI hv sub Q v l m N) (hg : w.grownBy w' (some B)) (hC : Cur w' B m') : NSt w0 w' B tE enc K tI encI hv sub Q v l m' N :=
  ⟨h.1.turn hg hC, fun i hi => (h.2 i hi).turn hg h.blt⟩
theorem NSt.below {w0 w w' : World} {B m N : Nat} {v : Value} {l : List α} (h : NSt w0 w B tE enc K tI encI hv sub Q v l m N) (hb : Below w.heap.size w w') : NSt w0 w' B tE enc K tI encI hv sub Q v l m N :=
  h.turn (only_of_below hb _) (h.cur.mono hb)
theorem NSt.alloc {w0 w : World} {B m N : Nat} {v : Value} {l : List α} (h : NSt w0 w B tE enc K tI encI hv sub Q v l m N) (o : Obj) : NSt w0 (w.alloc o) B tE enc K tI encI hv sub Q v l m N := h.below (below_alloc _ _)
theorem NSt.start {w : World} {B m : Nat} (h : Cur w B m) : NSt w (w.alloc (.cells #[] tE)) B tE enc K tI encI hv sub Q (.slice (some ⟨w.heap.size, 0, none⟩) 0 0) ([] : List α) m 0 :=
  ⟨⟨Own.empty _ _ _ _ _ (Nat.le_refl _), Nat.le_refl _, h.mono (below_alloc _ _), only_new (World.grownBy.refl _ _), h.lt⟩, fun i hi => absurd hi (by simp)⟩
/-- a list begun anew -/
theorem NSt.empty {w0 w : World} {B m N g : Nat} {v : Value} {l : List α} (h : NSt w0 w B tE enc K tI encI hv sub Q v l m N) (hg : g = w.heap.size) : NSt w0 (w.alloc (.cells #[] tE)) B tE enc K tI encI hv sub Q (.slice (some ⟨g, 0, none⟩) 0 0) ([] : List α) m 0 := by
  subst hg
  exact ⟨⟨Own.empty _ _ _ _ _ h.size, Nat.le_refl _, h.cur.mono (below_alloc _ _), only_new h.gr, h.blt⟩, fun i hi => absurd hi (by simp)⟩
/-- the list copied, and one more element -/
theorem NSt.fresh {w0 w w' : World} {B m N : Nat} {v v' : Value} {l : List α} {x : α} (h : NSt w0 w B tE enc K tI encI hv sub Q v l m N) (hb : Below w.heap.size w w') (ho : Own w' w.heap.size tE enc K v' (l ++ [x]))
    (hx : Own w w0.heap.size tI encI 1 (hv x) (sub x)) (hq : Q x) : NSt w0 w' B tE enc K tI encI hv sub Q v' (l ++ [x]) m (N + 1) := by
  have hz := h.size
  refine ⟨⟨ho.lower hz, by have := h.len; simp; omega, h.cur.mono hb, only_trans h.gr (only_of_below hb _), h.blt⟩, fun i hi => ?_⟩
  have old : ∀ {y : α}, Own w w0.heap.size tI encI 1 (hv y) (sub y) → Q y → NIn w0 w' tI encI hv sub Q v' y := fun hy hqy =>
    ⟨hy.mono hb, fun b hb1 hb2 => by have h1 := (hy.bounds b hb1).2; have h2 := (ho.bounds b hb2).1; omega, hqy⟩
  rw [List.length_append, List.length_singleton] at hi
  by_cases e : i < l.length
  · rw [gd_append e]; exact old (h.2 i e).1 (h.2 i e).2.2
  · obtain rfl : i = l.length := by omega
    rw [gd_append_last]; exact old hx hq
/-- one more element -/
theorem NSt.push {w0 w w' : World} {B m N : Nat} {v v' : Value} {l : List α} {y : α} (h : NSt w0 w B tE enc K tI encI hv sub Q v l m N) (ho : Own w' w0.heap.size tE enc K v' (l ++ [y])) (hg : w.grownBy w' v.ownBlock)
    (hat : v'.ownBlock = v.ownBlock ∨ v'.ownBlock = some w.heap.size) (hy : NIn w0 w tI encI hv sub Q v y) : NSt w0 w' B tE enc K tI encI hv sub Q v' (l ++ [y]) m (N + 1) := by
  refine ⟨h.1.push ho hg, fun i hi => ?_⟩
  have old : ∀ {y : α}, NIn w0 w tI encI hv sub Q v y → NIn w0 w' tI encI hv sub Q v' y := fun hy =>
    ⟨own_keep hy.1 hg hy.2.1, fun b hb e => by
      rcases hat with e3 | e3
      · exact hy.2.1 b hb (by rw [← e3]; exact e)
      · rw [e3] at e
        have := (hy.1.bounds b hb).2
        injection e with e
        omega, hy.2.2⟩
  rw [List.length_append, List.length_singleton] at hi
  by_cases e : i < l.length
  · rw [gd_append e]; exact old (h.2 i e)
  · obtain rfl : i = l.length := by omega
    rw [gd_append_last]; exact old hy
/-- one element written anew -/
theorem NSt.put {w0 w w' : World} {B m N : Nat} {v : Value} {l : List α} {i : Nat} {y : α} (h : NSt w0 w B tE enc K tI encI hv sub Q v l m N) (hi : i < l.length) (ho : Own w' w0.heap.size tE enc K v (l.set i y)) (hg : w.grownBy w' v.ownBlock)
    (hy : NIn w0 w tI encI hv sub Q v y) : NSt w0 w' B tE enc K tI encI hv sub Q v (l.set i y) m N := by
  have hb := h.own.bounds
  have hlt := h.blt
  have hgr := h.gr
  refine ⟨⟨ho, by rw [List.length_set]; exact h.len, h.cur.grownO hg (fun g e => by have := (hb g e).1; omega), ?_, hlt⟩, fun j hj => ?_⟩
  · exact ⟨hg.os.trans hgr.os, hg.tape.trans hgr.tape, hg.output.trans hgr.output, Nat.le_trans hgr.size hg.size, fun q hq hne => (hg.block q (Nat.lt_of_lt_of_le hq hgr.size) (fun e => by have := (hb q e.symm).1; omega)).trans (hgr.block q hq hne)⟩
  · rw [List.length_set] at hj
    by_cases e : i = j
    · subst e
      rw [gd_set_at hi]
      exact hy.keep hg hy.2.1
    · rw [gd_set_ne e]
      exact (h.2 j hj).keep hg (h.2 j hj).2.1
theorem Bx.cell (hk : ∀ x, (enc x).length = K) {w : World} {lo b : Nat} {x : α} (h : Bx w lo tE enc K b x) (j : Nat) (u : Value) (hj : (enc x)[j]? = some u) : w.cell? ⟨b, j, none⟩ = some u := by
  obtain ⟨a, cap, b', off, hv', hlc, hm, hc⟩ := Own.sl hk h
  obtain ⟨ha, h0, c⟩ := hc 0 (by simp)
  injection hv' with e1 e2 e3
  rw [ha] at e1
  injection e1 with e1
  injection e1 with e4 e5 e6
  subst e4 e5
  have := c j u (by simpa [gd] using hj)
  simpa using this
theorem Bx.store (hk : ∀ x, (enc x).length = K) {w : World} {lo b : Nat} {x : α} (h : Bx w lo tE enc K b x) (y : α) (j : Nat) (hj : j < K) (u : Value) (hy : enc y = (enc x).set j u) : Bx (w.setCell ⟨b, j, none⟩ u) lo tE enc K b y ∧ w.grownBy (w.setCell ⟨b, j, none⟩ u) (some b) := by
  have := Own.store hk h 0 (by simp) y j hj u (by simpa [gd] using hy)
  rw [Nat.zero_mul, Nat.zero_add] at this
  exact ⟨this, only_setCell (World.grownBy.refl _ _) _ rfl _⟩
/-- the list behind a store to a box -/
theorem NSt.box {w0 w w' : World} {B m N b : Nat} {v : Value} {l : List α} (h : NSt w0 w B tE enc K tI encI hv sub Q v l m N) (hg : w.grownBy w' (some b)) (hlo : w0.heap.size ≤ b) (hv0 : v.ownBlock ≠ some b) (hs : ∀ i, i < l.length → (hv (gd l i)).ownBlock ≠ some b) : NSt w0 w' B tE enc K tI encI hv sub Q v l m N := by
  have hgr := h.gr
  have hlt := h.blt
  refine ⟨⟨own_keep h.own hg (fun c hc e => hv0 (by rw [hc]; exact e.symm)), h.len, h.cur.grown hg (by omega), ?_, hlt⟩, fun i hi => (h.2 i hi).keep hg (fun c hc e => hs i hi (by rw [hc]; exact e.symm))⟩
  exact ⟨hg.os.trans hgr.os, hg.tape.trans hgr.tape, hg.output.trans hgr.output, Nat.le_trans hgr.size hg.size, fun q hq hne => (hg.block q (Nat.lt_of_lt_of_le hq hgr.size) (fun e => by injection e with e; omega)).trans (hgr.block q hq hne)⟩
/-- the list, and a box of one struct beside it -/
def NSB (w0 w : World) (B : Nat) (tE : TypeId) (enc : α → List Value) (K : Nat) (tI : TypeId) (encI : β → List Value) (hv : α → Value) (sub : α → List β) (Q : α → Prop) (v : Value) (l : List α) (m N hb : Nat) (y : α) : Prop :=
  NSt w0 w B tE enc K tI encI hv sub Q v l m N ∧ Bx w w0.heap.size tE enc K hb y ∧ NIn w0 w tI encI hv sub Q v y ∧ (v.ownBlock ≠ some hb ∧ (∀ i, i < l.length → (hv (gd l i)).ownBlock ≠ some hb) ∧ (hv y).ownBlock ≠ some hb)
theorem NSB.start (hk : ∀ x, (enc x).length = K) {w0 w : World} {B m N : Nat} {v : Value} {l : List α} (h : NSt w0 w B tE enc K tI encI hv sub Q v l m N) (x : α) (hx : NIn w0 w tI encI hv sub Q v x) : NSB w0 (w.alloc (.cells (enc x).toArray tE)) B tE enc K tI encI hv sub Q v l m N w.heap.size x := by
  refine ⟨h.alloc _, Bx.new hk _ _ h.size x, hx.turn (only_of_below (below_alloc _ _) _) h.blt, fun e => ?_, fun i hi e => ?_, fun e => ?_⟩
  · have := h.vlt _ e; omega
  · have := ((h.2 i hi).1.bounds _ e).2; omega
  · have := (hx.1.bounds _ e).2; omega
theorem NSB.st {w0 w : World} {B m N hb : Nat} {v : Value} {l : List α} {y : α} (h : NSB w0 w B tE enc K tI encI hv sub Q v l m N hb y) : NSt w0 w B tE enc K tI encI hv sub Q v l m N := h.1
theorem NSB.cur {w0 w : World} {B m N hb : Nat} {v : Value} {l : List α} {y : α} (h : NSB w0 w B tE enc K tI encI hv sub Q v l m N hb y) : Cur w B m := h.1.cur
theorem NSB.le {w0 w : World} {B m m' N N' hb : Nat} {v : Value} {l : List α} {y : α} (h : NSB w0 w B tE enc K tI encI hv sub Q v l m N hb y) (h1 : m ≤ m') (h2 : N ≤ N') : NSB w0 w B tE enc K tI encI hv sub Q v l m' N' hb y := ⟨h.1.le h1 h2, h.2⟩
theorem NSB.weak {w0 w : World} {B m N hb : Nat} {v : Value} {l : List α} {y : α} {Q' : α → Prop} (h : NSB w0 w B tE enc K tI encI hv sub Q v l m N hb y) (hq : ∀ x, Q x → Q' x) : NSB w0 w B tE enc K tI encI hv sub Q' v l m N hb y := ⟨h.1.weak hq, h.2.1, ⟨h.2.2.1.1, h.2.2.1.2.1, hq _ h.2.2.1.2.2⟩, h.2.2.2⟩
theorem NSB.turn {w0 w w' : World} {B m m' N hb : Nat} {v : Value} {l : List α} {y : α} (h : NSB w0 w B tE enc K tI encI hv sub Q v l m N hb y) (hg : w.grownBy w' (some B)) (hC : Cur w' B m') : NSB w0 w' B tE enc K tI encI hv sub Q v l m' N hb y :=
  ⟨h.1.turn hg hC, h.2.1.keep hg (fun e => by have h1 := h.1.blt; have h2 := h.2.1.lt.1; injection e with e; omega), h.2.2.1.turn hg h.1.blt, h.2.2.2⟩
theorem NSB.below {w0 w w' : World} {B m N hb : Nat} {v : Value} {l : List α} {y : α} (h : NSB w0 w B tE enc K tI encI hv sub Q v l m N hb y) (hb2 : Below w.heap.size w w') : NSB w0 w' B tE enc K tI encI hv sub Q v l m N hb y := h.turn (only_of_below hb2 _) (h.cur.mono hb2)
theorem NSB.alloc {w0 w : World} {B m N hb : Nat} {v : Value} {l : List α} {y : α} (h : NSB w0 w B tE enc K tI encI hv sub Q v l m N hb y) (o : Obj) : NSB w0 (w.alloc o) B tE enc K tI encI hv sub Q v l m N hb y := h.below (below_alloc _ _)
/-- a cell of the box turned -/
theorem NSB.set (hk : ∀ x, (enc x).length = K) {w0 w : World} {B m N hb : Nat} {v : Value} {l : List α} {y : α} (h : NSB w0 w B tE enc K tI encI hv sub Q v l m N hb y) (z : α) (j : Nat) (hj : j < K) (u : Value) (hz : enc z = (enc y).set j u)
    (hn : NIn w0 w tI encI hv sub Q v z) (hne : (hv z).ownBlock ≠ some hb) : NSB w0 (w.setCell ⟨hb, j, none⟩ u) B tE enc K tI encI hv sub Q v l m N hb z := by
  obtain ⟨h1, h2, h3, h4, h5, h6⟩ := h
  obtain ⟨hs, hg⟩ := h2.store hk z j hj u hz
  exact ⟨h1.box hg h2.lt.1 h4 h5, hs, hn.keep hg (fun c hc e => hne (by rw [hc]; exact e.symm)), h4, h5, hne⟩
theorem NSB.scal (hk : ∀ x, (enc x).length = K) {w0 w : World} {B m N hb : Nat} {v : Value} {l : List α} {y : α} (h : NSB w0 w B tE enc K tI encI hv sub Q v l m N hb y) (z : α) (j : Nat) (hj : j < K) (u : Value) (hz : enc z = (enc y).set j u)
    (h1 : hv z = hv y) (h2 : sub z = sub y) (hq : Q z) : NSB w0 (w.setCell ⟨hb, j, none⟩ u) B tE enc K tI encI hv sub Q v l m N hb z :=
  h.set hk z j hj u hz ⟨by rw [h1, h2]; exact h.2.2.1.1, by rw [h1]; exact h.2.2.1.2.1, hq⟩ (by rw [h1]; exact h.2.2.2.2.2)
end
end Go.Proofs.YteainpflmofjaaaGreatDoor
