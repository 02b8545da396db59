/- append of one element inside a region that draws its order. General. -/
import Derived.Test.YteainpflmofjaaaGreatDoorCat
import Derived.Test.YteainpflmofjaaaGreatDoorTail
import Derived.Deep.RegionLaw
import Derived.Deep.DrawnRows
namespace Go.Proofs.YteainpflmofjaaaGreatDoor
open Go.RowKit
theorem sl_one {α : Type} [Inhabited α] {w : World} {enc : α → List Value} {k : Nat} (hk : ∀ x, (enc x).length = k) (hk0 : 0 < k) {b c : Nat} {y : α} (hc1 : 1 ≤ c) (hc2 : c ≤ maxLen) (hnews : ∀ j u, (enc y)[j]? = some u → w.cell? ⟨b, j, none⟩ = some u) : Sl w enc k (.slice (some ⟨b, 0, none⟩) 1 c) [y] := by
  refine ⟨_, c, b, 0, rfl, hc1, hc2, fun i hi => ?_⟩
  obtain rfl : i = 0 := by simpa using hi
  refine ⟨rfl, ?_, fun j v hv => ?_⟩
  · have h0 : (enc y)[0]? = some (enc y)[0]! := by
      have : 0 < (enc y).length := by rw [hk]; exact hk0
      simp [this]
    exact block_lt_of_cell (hnews 0 _ h0)
  · have := hnews j v (by simpa [gd] using hv)
    simpa using this
/-- 'append(s, y)' as one step of a drawn region. -/
theorem step_push {P : Program} {α : Type} [Inhabited α] {w : World} {enc : α → List Value} {k : Nat} (hk : ∀ x, (enc x).length = k) (h1 : ∀ x, ∀ u ∈ enc x, u.oneCell' = true) {ops : Array Oper} {o : Oper} {a : Act} {K : Act → World → Prop} {Q : Exit → Act → World → Prop} {E : Prop} (hgd : o.guard = none) (s x : Operand) (t : TypeId)
    (ho : o.op = .call { callee := .builtin .append, args := #[s, x], argTypes := #[t, t] }) (lo : Nat) (e : TypeId) (i : TypeInfo) (z : Value) (bytes : Nat) (ht : P.underlying t = some (.slice e)) (hi : P.info? e = some i) (hz : i.zero = some z)
    (hsize : i.size = k) (hby : i.bytes = bytes) (hzs : z.cells.size = k) (hk0 : 0 < k) (v : Value) (l : List α) (hs : a.eval s = v) (hown : Own w lo e enc k v l) (b c : Nat) (y : α) (hx : a.eval x = .slice (some ⟨b, 0, none⟩) 1 c) (hc1 : 1 ≤ c) (hc2 : c ≤ maxLen)
    (hnews : ∀ j u, (enc y)[j]? = some u → w.cell? ⟨b, j, none⟩ = some u) (h63 : l.length + 1 ≤ maxLen) (hbytes : (l.length + 1) * bytes ≤ 140737488355328) (hbase : lo ≤ w.heap.size)
    (h : ∀ v' w', Own w' lo e enc k v' (l ++ [y]) → w.grownBy w' v.ownBlock → K (a.put o.dst v') w') : if Region.wanted o (yielded ops a.tmps) = true then Oper.wp P o a w K Q else E :=
  step_cat hk h1 hgd s x t ho lo e i z bytes ht hi hz hsize hby hzs hk0 v l hs hown _ [y] hx (sl_one hk hk0 hc1 hc2 hnews) h63 hbytes hbase h
end Go.Proofs.YteainpflmofjaaaGreatDoor
