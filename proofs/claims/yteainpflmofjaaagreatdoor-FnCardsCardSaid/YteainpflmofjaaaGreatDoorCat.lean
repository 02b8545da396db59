/- append of a whole slice (nil, empty or not) to a slice of the call's own. No condition but sizes. -/
import Derived.Test.YteainpflmofjaaaGreatDoorMore
import Derived.Maps.AppendAt
import Derived.Deep.AppendLies
import Derived.RegionTactic
import Derived.OwnWalk
namespace Go.Proofs.YteainpflmofjaaaGreatDoor
open Go.RowKit
section
variable {α : Type} [Inhabited α] {P : Program}
theorem Cells.flat {w : World} {enc : α → List Value} {k b off : Nat} {a : Option Addr} {l : List α} (hk : ∀ x, (enc x).length = k) (h : Cells w enc k a b off l) (j : Nat) (u : Value) (hu : (l.flatMap enc)[j]? = some u) : a = some ⟨b, off, none⟩ ∧ w.cell? ⟨b, off + j, none⟩ = some u := by
  have hj : j < l.length * k := by have := (List.getElem?_eq_some_iff.1 hu).1; rwa [flat_len hk] at this
  have hk0 : 0 < k := by rcases Nat.eq_zero_or_pos k with h0 | h0; · subst h0; omega
                         · exact h0
  have hi : j / k < l.length := by rw [Nat.div_lt_iff_lt_mul hk0]; exact hj
  have hm := Nat.mod_lt j hk0
  have e : j / k * k + j % k = j := by rw [Nat.mul_comm]; exact Nat.div_add_mod j k
  obtain ⟨ha, _, c⟩ := h (j / k) hi
  refine ⟨ha, ?_⟩
  have := c (j % k) u (by rw [← flat_get hk l _ _ hi hm, e]; exact hu)
  rwa [Nat.add_assoc, e] at this
theorem run_cat_none {w : World} {lo : Nat} {t ty e : TypeId} {i : TypeInfo} {k : Nat} (ht : P.underlying t = some (.slice e)) (hi : P.info? e = some i) {v : Value} {n : Nat} {xs : List Value} (hown : w.ownsRow lo e k v n xs) (c : Nat) :
    (Builtin.append_ #[t, t] ty #[v, .slice none 0 c]).run P w = .ok v w := by
  rcases hown.2 with ⟨rfl, rfl⟩ | ⟨g, cap, cur, rfl, _, _, hnc, _⟩
  · simp [Builtin.append_, run_underlying ht, sizeOf, typeInfo, hi, Builtin.lenOf, Builtin.firstCells]
  · simp [Builtin.append_, run_underlying ht, sizeOf, typeInfo, hi, Builtin.lenOf, Builtin.firstCells, hnc, storeCells]
theorem run_cat {w : World} {enc : α → List Value} {k : Nat} (hk : ∀ x, (enc x).length = k) (h1 : ∀ x, ∀ u ∈ enc x, u.oneCell' = true) {lo : Nat} {t ty e : TypeId} {i : TypeInfo} {z : Value} {bytes : Nat} (ht : P.underlying t = some (.slice e)) (hi : P.info? e = some i) (hz : i.zero = some z)
    (hsize : i.size = k) (hby : i.bytes = bytes) (hzs : z.cells.size = k) (hk0 : 0 < k) {v : Value} {l : List α} (hown : Own w lo e enc k v l) {x : Value} {r : List α} (hx : Sl w enc k x r)
    (h63 : l.length + r.length ≤ maxLen) (hbytes : (l.length + r.length) * bytes ≤ 140737488355328) (hbase : lo ≤ w.heap.size) :
    ∃ v' w', (Builtin.append_ #[t, t] ty #[v, x]).run P w = .ok v' w' ∧ Own w' lo e enc k v' (l ++ r) ∧ w.grownBy w' v.ownBlock := by
  obtain ⟨a, cap, b, off, rfl, hlc, hm, hc⟩ := hx
  by_cases hr : r = []
  · subst hr
    rcases a with _ | ad
    · exact ⟨v, w, run_cat_none ht hi hown cap, by simpa using hown, World.grownBy.refl w _⟩
    · obtain ⟨v', w', hrun, h2, h3, _, _⟩ := run_append_own_at (P := P) w lo t ty e i z k bytes ht hi hz hsize hby hzs hk0 v l.length (l.flatMap enc) hown ad 0 cap [] (by simp) (fun j u hu => by simp at hu) (fun u hu => by cases hu) (by simpa using h63) (by simpa using hbytes) hbase
      exact ⟨v', w', hrun, by simpa [Own] using h2, h3⟩
  · obtain ⟨rfl, _, _⟩ := hc 0 (List.length_pos_iff.2 hr)
    obtain ⟨v', w', hrun, h2, h3, _, _⟩ := run_append_own_at (P := P) w lo t ty e i z k bytes ht hi hz hsize hby hzs hk0 v l.length (l.flatMap enc) hown ⟨b, off, none⟩ r.length cap (r.flatMap enc) (flat_len hk r) (fun j u hu => by
      have := (hc.flat hk j u hu).2
      rwa [show (⟨b, off, none⟩ : Addr).add j = ⟨b, off + j, none⟩ from by unfold Addr.add; split <;> simp_all])
      (fun u hu => by obtain ⟨y, _, hy⟩ := List.mem_flatMap.1 hu; exact h1 y u hy) h63 hbytes hbase
    refine ⟨v', w', hrun, ?_, h3⟩
    show w'.ownsRow lo e k v' (l ++ r).length ((l ++ r).flatMap enc)
    rw [List.flatMap_append, List.length_append]
    exact h2
theorem wp_cat {w : World} {enc : α → List Value} {k : Nat} (hk : ∀ x, (enc x).length = k) (h1 : ∀ x, ∀ u ∈ enc x, u.oneCell' = true) {o : Oper} {a : Act} {K : Act → World → Prop} {Q : Exit → Act → World → Prop} (s x : Operand) (t : TypeId)
    (ho : o.op = .call { callee := .builtin .append, args := #[s, x], argTypes := #[t, t] }) (lo : Nat) (e : TypeId) (i : TypeInfo) (z : Value) (bytes : Nat) (ht : P.underlying t = some (.slice e)) (hi : P.info? e = some i) (hz : i.zero = some z)
    (hsize : i.size = k) (hby : i.bytes = bytes) (hzs : z.cells.size = k) (hk0 : 0 < k) (v : Value) (l : List α) (hs : a.eval s = v) (hown : Own w lo e enc k v l) (y : Value) (r : List α) (hxy : a.eval x = y) (hx : Sl w enc k y r)
    (h63 : l.length + r.length ≤ maxLen) (hbytes : (l.length + r.length) * bytes ≤ 140737488355328) (hbase : lo ≤ w.heap.size)
    (h : ∀ v' w', Own w' lo e enc k v' (l ++ r) → w.grownBy w' v.ownBlock → K (a.put o.dst v') w') : o.wp P a w K Q := by
  obtain ⟨v', w', hrun, h2, h3⟩ := run_cat (P := P) (ty := o.type) hk h1 ht hi hz hsize hby hzs hk0 hown hx h63 hbytes hbase
  unfold Oper.wp execOp
  simp only [ho, resolve, invoke, builtin, Sem.run_bind, Sem.run_pure, Result.andThen_ok, List.map_toArray, List.map_cons, List.map_nil, hs, hxy, hrun]
  exact h v' w' h2 h3
/-- 'append(s, xs...)': s a slice of the call's own, xs any slice. -/
theorem wpList_cat {w : World} {enc : α → List Value} {k : Nat} (hk : ∀ x, (enc x).length = k) (h1 : ∀ x, ∀ u ∈ enc x, u.oneCell' = true) {ops : Array Oper} {rest : List Oper} {o : Oper} {a : Act} {Q : Exit → Act → World → Prop} (hgd : o.guard = none) (s x : Operand) (t : TypeId)
    (ho : o.op = .call { callee := .builtin .append, args := #[s, x], argTypes := #[t, t] }) (lo : Nat) (e : TypeId) (i : TypeInfo) (z : Value) (bytes : Nat) (ht : P.underlying t = some (.slice e)) (hi : P.info? e = some i) (hz : i.zero = some z)
    (hsize : i.size = k) (hby : i.bytes = bytes) (hzs : z.cells.size = k) (hk0 : 0 < k) (v : Value) (l : List α) (hs : a.eval s = v) (hown : Own w lo e enc k v l) (y : Value) (r : List α) (hxy : a.eval x = y) (hx : Sl w enc k y r)
    (h63 : l.length + r.length ≤ maxLen) (hbytes : (l.length + r.length) * bytes ≤ 140737488355328) (hbase : lo ≤ w.heap.size)
    (h : ∀ v' w', Own w' lo e enc k v' (l ++ r) → w.grownBy w' v.ownBlock → wpList P ops Q rest (a.put o.dst v') w') : wpList P ops Q (o :: rest) a w :=
  wpList_plain hgd fun _ hK => wp_cat hk h1 s x t ho lo e i z bytes ht hi hz hsize hby hzs hk0 v l hs hown y r hxy hx h63 hbytes hbase fun v' w' h2 h3 => hK _ _ (h v' w' h2 h3)
/-- The same in a region that draws its order. -/
theorem step_cat {w : World} {enc : α → List Value} {k : Nat} (hk : ∀ x, (enc x).length = k) (h1 : ∀ x, ∀ u ∈ enc x, u.oneCell' = true) {ops : Array Oper} {o : Oper} {a : Act} {K : Act → World → Prop} {Q : Exit → Act → World → Prop} {E : Prop} (hgd : o.guard = none) (s x : Operand) (t : TypeId)
    (ho : o.op = .call { callee := .builtin .append, args := #[s, x], argTypes := #[t, t] }) (lo : Nat) (e : TypeId) (i : TypeInfo) (z : Value) (bytes : Nat) (ht : P.underlying t = some (.slice e)) (hi : P.info? e = some i) (hz : i.zero = some z)
    (hsize : i.size = k) (hby : i.bytes = bytes) (hzs : z.cells.size = k) (hk0 : 0 < k) (v : Value) (l : List α) (hs : a.eval s = v) (hown : Own w lo e enc k v l) (y : Value) (r : List α) (hxy : a.eval x = y) (hx : Sl w enc k y r)
    (h63 : l.length + r.length ≤ maxLen) (hbytes : (l.length + r.length) * bytes ≤ 140737488355328) (hbase : lo ≤ w.heap.size)
    (h : ∀ v' w', Own w' lo e enc k v' (l ++ r) → w.grownBy w' v.ownBlock → K (a.put o.dst v') w') : if Region.wanted o (yielded ops a.tmps) = true then Oper.wp P o a w K Q else E := by
  have hw : Region.wanted o (yielded ops a.tmps) = true := by simp [Region.wanted, hgd]
  rw [if_pos hw]
  exact wp_cat hk h1 s x t ho lo e i z bytes ht hi hz hsize hby hzs hk0 v l hs hown y r hxy hx h63 hbytes hbase h
end
end Go.Proofs.YteainpflmofjaaaGreatDoor
