/- More general lemmas: calls that hand back a slice and a bool; two slices' blocks. No condition. -/
import Derived.Test.YteainpflmofjaaaGreatDoorBase
namespace Go.Proofs.YteainpflmofjaaaGreatDoor
open Go.RowKit
/-- A call that hands back a new slice and a bool. -/
def RetSlB {α : Type} [Inhabited α] (w : World) (e : TypeId) (enc : α → List Value) (k : Nat) (l : List α) (ok : Bool) (en : Ending) (w' : World) : Prop :=
  ∃ v, en = .returned (.tuple #[v, .bool ok]) ∧ Own w' w.heap.size e enc k v l ∧ Below w.heap.size w w'
/-- a new slice of no elements -/
theorem Own.empty {α : Type} (w : World) (lo : Nat) (e : TypeId) (enc : α → List Value) (k : Nat) (h : lo ≤ w.heap.size) : Own (w.alloc (.cells #[] e)) lo e enc k (.slice (some ⟨w.heap.size, 0, none⟩) 0 0) ([] : List α) :=
  World.ownsRow_made w #[] 0 h (Nat.zero_le _) (by simp)
/-- blocks of two slices that were made one behind the other are two -/
theorem Own.far {α : Type} {w w' : World} {lo lo2 hi : Nat} {e : TypeId} {enc : α → List Value} {k : Nat} {v v2 : Value} {l : List α}
    (h : Own w lo e enc k v l) (hw : ∀ g, v2.ownBlock = some g → lo2 ≤ g ∧ g < hi) (hv : ∀ g, v.ownBlock = some g → hi ≤ g ∨ g < lo2) (hg : w.grownBy w' v2.ownBlock) : Own w' lo e enc k v l := by
  refine h.kept hg ?_
  cases hb : v.ownBlock with
  | none => exact .inl rfl
  | some g =>
    refine .inr fun e => ?_
    have h1 := hv g hb
    have h2 := hw g e.symm
    omega
theorem Own.bounds {α : Type} {w : World} {lo : Nat} {e : TypeId} {enc : α → List Value} {k : Nat} {v : Value} {l : List α} (h : Own w lo e enc k v l) : ∀ g, v.ownBlock = some g → lo ≤ g ∧ g < w.heap.size := World.ownsRow.lt h
@[go_sem] theorem setCell_ext (w : World) (p : Gap) (b o : Nat) (s : Option Nat) (v : Value) (h : b < w.heap.size) : (ext w p).setCell ⟨b, o, s⟩ v = ext (w.setCell ⟨b, o, s⟩ v) p := by
  simp only [ext, World.setCell]
  congr 1
  apply Array.ext_getElem?
  intro k
  simp only [Array.getElem?_modify, Array.getElem?_append, Array.size_modify]
  by_cases hk : k < w.heap.size
  · simp [hk]
  · have : b ≠ k := by omega
    simp [hk, this]
/-- what a call has made is there whatever its caller's older blocks hold -/
theorem Own.rebase {α : Type} {W W' : World} {p : Gap} {lo : Nat} {e : TypeId} {enc : α → List Value} {k : Nat} {v : Value} {l : List α} (h : Own (ext W p) lo e enc k v l) (h1 : W.heap.size ≤ lo) (h2 : W'.heap.size = W.heap.size) : Own (ext W' p) lo e enc k v l := by
  refine ⟨h.1, ?_⟩
  rcases h.2 with hn | ⟨g, cap, cur, hv, hlo, hg, rest⟩
  · exact .inl hn
  · refine .inr ⟨g, cap, cur, hv, hlo, ?_, rest⟩
    rw [← hg]
    simp only [ext]
    rw [Array.getElem?_append_right (by omega), Array.getElem?_append_right (by omega), h2]
theorem Sl.take {α : Type} [Inhabited α] {w : World} {enc : α → List Value} {k n cap : Nat} {a : Option Addr} {l : List α} (h : Sl w enc k (.slice a l.length cap) l) (hn : n ≤ l.length) : Sl w enc k (.slice a n cap) (l.take n) := by
  obtain ⟨a', cap', b, off, hv, h1, h2, hc⟩ := h
  injection hv with e1 e2 e3
  subst e1 e3
  have hl : (l.take n).length = n := by simp; omega
  refine ⟨a, cap, b, off, by rw [hl], by omega, h2, fun i hi => ?_⟩
  rw [hl] at hi
  obtain ⟨x, y, z⟩ := hc i (by omega)
  rw [gd_take hi]
  exact ⟨x, y, z⟩
/-- 'append(s, y)' of one element to a slice of the call's own. -/
theorem wpList_push {P : Program} {α : Type} {enc : α → List Value} {k : Nat} (hk : ∀ x, (enc x).length = k) (h1 : ∀ x, ∀ u ∈ enc x, u.oneCell' = true) {w : World} {ops : Array Oper} {rest : List Oper} {o : Oper} {a : Act} {Q : Exit → Act → World → Prop} (hgd : o.guard = none) (s x : Operand) (t : TypeId)
    (ho : o.op = .call { callee := .builtin .append, args := #[s, x], argTypes := #[t, t] }) (lo : Nat) (e : TypeId) (i : TypeInfo) (z : Value) (bytes : Nat) (ht : P.underlying t = some (.slice e)) (hi : P.info? e = some i) (hz : i.zero = some z)
    (hsize : i.size = k) (hby : i.bytes = bytes) (hzs : z.cells.size = k) (hk0 : 0 < k) (v : Value) (l : List α) (hs : a.eval s = v) (hown : Own w lo e enc k v l) (b c : Nat) (y : α) (hx : a.eval x = .slice (some ⟨b, 0, none⟩) 1 c)
    (hnews : ∀ j u, (enc y)[j]? = some u → w.cell? ⟨b, j, none⟩ = some u) (h63 : l.length + 1 ≤ maxLen) (hbytes : (l.length + 1) * bytes ≤ 140737488355328) (hbase : lo ≤ w.heap.size)
    (h : ∀ v' w', Own w' lo e enc k v' (l ++ [y]) → w.grownBy w' v.ownBlock → wpList P ops Q rest (a.put o.dst v') w') : wpList P ops Q (o :: rest) a w := by
  refine wpList_append_own w hgd s x t ho lo e i z k bytes ht hi hz hsize hby hzs hk0 v l.length (l.flatMap enc) hs hown ⟨b, 0, none⟩ 1 c (enc y) hx (by rw [hk]; omega) (fun j u hu => ?_) (h1 y) h63 hbytes hbase (fun v' w' h2 h3 _ => h v' w' ?_ h3)
  · have : (⟨b, 0, none⟩ : Addr).add j = ⟨b, j, none⟩ := by unfold Addr.add; split <;> simp_all
    rw [this]; exact hnews j u hu
  · show w'.ownsRow lo e k v' (l ++ [y]).length ((l ++ [y]).flatMap enc)
    rw [List.flatMap_append, List.length_append]
    simpa using h2
theorem new_cells (w : World) (cs : List Value) (t : TypeId) (b : Nat) (hb : b = w.heap.size) (j : Nat) (u : Value) (h : cs[j]? = some u) : (w.alloc (.cells cs.toArray t)).cell? ⟨b, j, none⟩ = some u := by
  subst hb; simpa using h
/-- what has grown by an append to a slice of the call's own has turned nothing below -/
theorem below_push {B : Nat} {a w w' : World} {lo : Nat} {e : TypeId} {α : Type} {enc : α → List Value} {k : Nat} {v : Value} {l : List α} (h : Below B a w) (ho : Own w lo e enc k v l) (hg : w.grownBy w' v.ownBlock) (hl : B ≤ lo) (hB : B ≤ w.heap.size) : Below B a w' :=
  h.grown hg hB (fun g hg => Nat.le_trans hl (ho.bounds g hg).1)
end Go.Proofs.YteainpflmofjaaaGreatDoor
