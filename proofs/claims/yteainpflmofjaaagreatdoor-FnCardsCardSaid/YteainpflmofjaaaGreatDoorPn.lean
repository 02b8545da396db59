/- append of one element to a slice of the call's own: where the new slice lies; elements that hold slices. General. -/
import Derived.Test.YteainpflmofjaaaGreatDoorCl
namespace Go.Proofs.YteainpflmofjaaaGreatDoor
open Go.RowKit
/-- 'append(s, y)' of one element to a slice of the call's own; the new slice lies where the old one did or in a new block. -/
theorem wpList_pushAt {P : Program} {α : Type} {enc : α → List Value} {k : Nat} (hk : ∀ x, (enc x).length = k) (h1 : ∀ x, ∀ u ∈ enc x, u.oneCell' = true) {w : World} {ops : Array Oper} {rest : List Oper} {o : Oper} {a : Act} {Q : Exit → Act → World → Prop} (hgd : o.guard = none) (s x : Operand) (t : TypeId)
    (ho : o.op = .call { callee := .builtin .append, args := #[s, x], argTypes := #[t, t] }) (lo : Nat) (e : TypeId) (i : TypeInfo) (z : Value) (bytes : Nat) (ht : P.underlying t = some (.slice e)) (hi : P.info? e = some i) (hz : i.zero = some z)
    (hsize : i.size = k) (hby : i.bytes = bytes) (hzs : z.cells.size = k) (hk0 : 0 < k) (v : Value) (l : List α) (hs : a.eval s = v) (hown : Own w lo e enc k v l) (b c : Nat) (y : α) (hx : a.eval x = .slice (some ⟨b, 0, none⟩) 1 c)
    (hnews : ∀ j u, (enc y)[j]? = some u → w.cell? ⟨b, j, none⟩ = some u) (h63 : l.length + 1 ≤ maxLen) (hbytes : (l.length + 1) * bytes ≤ 140737488355328) (hbase : lo ≤ w.heap.size)
    (h : ∀ v' w', Own w' lo e enc k v' (l ++ [y]) → w.grownBy w' v.ownBlock → (v'.ownBlock = v.ownBlock ∨ v'.ownBlock = some w.heap.size) → wpList P ops Q rest (a.put o.dst v') w') : wpList P ops Q (o :: rest) a w := by
  refine wpList_append_own_at w hgd s x t ho lo e i z k bytes ht hi hz hsize hby hzs hk0 v l.length (l.flatMap enc) hs hown ⟨b, 0, none⟩ 1 c (enc y) hx (by rw [hk]; omega) (fun j u hu => ?_) (h1 y) h63 hbytes hbase (fun v' w' h2 h3 _ h4 => h v' w' ?_ h3 h4)
  · have : (⟨b, 0, none⟩ : Addr).add j = ⟨b, j, none⟩ := by unfold Addr.add; split <;> simp_all
    rw [this]; exact hnews j u hu
  · show w'.ownsRow lo e k v' (l ++ [y]).length ((l ++ [y]).flatMap enc)
    rw [List.flatMap_append, List.length_append]
    simpa using h2
/-- The same as one step of a drawn region. -/
theorem step_pushAt {P : Program} {α : Type} {enc : α → List Value} {k : Nat} (hk : ∀ x, (enc x).length = k) (h1 : ∀ x, ∀ u ∈ enc x, u.oneCell' = true) {w : World} {ops : Array Oper} {o : Oper} {a : Act} {K : Act → World → Prop} {Q : Exit → Act → World → Prop} {E : Prop} (hgd : o.guard = none) (s x : Operand) (t : TypeId)
    (ho : o.op = .call { callee := .builtin .append, args := #[s, x], argTypes := #[t, t] }) (lo : Nat) (e : TypeId) (i : TypeInfo) (z : Value) (bytes : Nat) (ht : P.underlying t = some (.slice e)) (hi : P.info? e = some i) (hz : i.zero = some z)
    (hsize : i.size = k) (hby : i.bytes = bytes) (hzs : z.cells.size = k) (hk0 : 0 < k) (v : Value) (l : List α) (hs : a.eval s = v) (hown : Own w lo e enc k v l) (b c : Nat) (y : α) (hx : a.eval x = .slice (some ⟨b, 0, none⟩) 1 c)
    (hnews : ∀ j u, (enc y)[j]? = some u → w.cell? ⟨b, j, none⟩ = some u) (h63 : l.length + 1 ≤ maxLen) (hbytes : (l.length + 1) * bytes ≤ 140737488355328) (hbase : lo ≤ w.heap.size)
    (h : ∀ v' w', Own w' lo e enc k v' (l ++ [y]) → w.grownBy w' v.ownBlock → (v'.ownBlock = v.ownBlock ∨ v'.ownBlock = some w.heap.size) → K (a.put o.dst v') w') : if Region.wanted o (yielded ops a.tmps) = true then Oper.wp P o a w K Q else E := by
  have hw : Region.wanted o (yielded ops a.tmps) = true := by simp [Region.wanted, hgd]
  rw [if_pos hw]
  obtain ⟨v', w', hrun, h2, h3, _, h5⟩ := run_append_own_at (P := P) w lo t o.type e i z k bytes ht hi hz hsize hby hzs hk0 v l.length (l.flatMap enc) hown ⟨b, 0, none⟩ 1 c (enc y) (by rw [hk]; omega) (fun j u hu => by
    have : (⟨b, 0, none⟩ : Addr).add j = ⟨b, j, none⟩ := by unfold Addr.add; split <;> simp_all
    rw [this]; exact hnews j u hu) (h1 y) h63 hbytes hbase
  unfold Oper.wp execOp
  simp only [ho, resolve, invoke, builtin, Sem.run_bind, Sem.run_pure, Result.andThen_ok, List.map_toArray, List.map_cons, List.map_nil, hs, hx, hrun]
  refine h v' w' ?_ h3 h5
  show w'.ownsRow lo e k v' (l ++ [y]).length ((l ++ [y]).flatMap enc)
  rw [List.flatMap_append, List.length_append]
  simpa using h2
section
variable {α β : Type} [Inhabited α] {tE tI : TypeId} {enc : α → List Value} {K : Nat} {encI : β → List Value} {hv : α → Value} {sub : α → List β}
theorem NOwn.push {W W' : World} {lo H : Nat} {v v' : Value} {l : List α} {y : α} (h : NOwn W lo H tE enc K tI encI hv sub v l) (ho : Own W' lo tE enc K v' (l ++ [y])) (hg : W.grownBy W' v.ownBlock) (hat : v'.ownBlock = v.ownBlock ∨ v'.ownBlock = some W.heap.size)
    (hH : H ≤ W.heap.size) (hy : Own W lo tI encI 1 (hv y) (sub y)) (hyb : ∀ b, (hv y).ownBlock = some b → H ≤ b) : NOwn W' lo W'.heap.size tE enc K tI encI hv sub v' (l ++ [y]) := by
  have hs := hg.size
  have keep : ∀ {u : Value} {s : List β}, Own W lo tI encI 1 u s → (∀ b, u.ownBlock = some b → v.ownBlock ≠ some b) → Own W' lo tI encI 1 u s := fun ho2 hne => ho2.kept hg (by
    cases hb : Value.ownBlock _ with
    | none => exact .inl rfl
    | some b => exact .inr (fun e => hne b hb e.symm))
  have hne : ∀ b, (hv y).ownBlock = some b → v.ownBlock ≠ some b := fun b hb e => by
    have h1 := h.2.1 b e
    have h2 := hyb b hb
    omega
  have old : ∀ i, i < l.length → gd (l ++ [y]) i = gd l i := fun i hi => gd_append hi
  have last : gd (l ++ [y]) l.length = y := gd_append_last
  refine ⟨ho, fun b hb => (ho.bounds b hb).2, fun i hi => ?_, fun i j b hij hj hb => ?_⟩
  · rw [List.length_append, List.length_singleton] at hi
    by_cases e : i < l.length
    · rw [old i e]
      obtain ⟨h1, h2⟩ := h.2.2.1 i e
      refine ⟨keep h1 (fun b hb => (h2 b hb).2), fun b hb => ⟨Nat.lt_of_lt_of_le (h1.bounds b hb).2 hs, fun e2 => ?_⟩⟩
      rcases hat with e3 | e3
      · exact (h2 b hb).2 (by rw [← e3]; exact e2)
      · rw [e3] at e2
        have := (h2 b hb).1
        injection e2 with e2
        omega
    · obtain rfl : i = l.length := by omega
      rw [last]
      refine ⟨keep hy hne, fun b hb => ⟨Nat.lt_of_lt_of_le (hy.bounds b hb).2 hs, fun e2 => ?_⟩⟩
      rcases hat with e3 | e3
      · exact hne b hb (by rw [← e3]; exact e2)
      · rw [e3] at e2
        have := (hy.bounds b hb).2
        injection e2 with e2
        omega
  · rw [List.length_append, List.length_singleton] at hj
    rw [old i (by omega)] at hb
    by_cases e : j < l.length
    · rw [old j e]
      exact h.2.2.2 i j b hij e hb
    · obtain rfl : j = l.length := by omega
      rw [last]
      intro e2
      have h1 := ((h.2.2.1 i (by omega)).2 b hb).1
      have h2 := hyb b e2
      omega
theorem NOwn.nil (W : World) (lo hi : Nat) : NOwn W lo hi tE enc K tI encI hv sub (.slice none 0 0) ([] : List α) := ⟨Own.nil _ _ _ _ _, fun b hb => (by cases hb), fun i hi => (by simp at hi), fun i j b _ hj => (by simp at hj)⟩
theorem NOwn.empty (W : World) (lo : Nat) (h : lo ≤ W.heap.size) : NOwn (W.alloc (.cells #[] tE)) lo (W.heap.size + 1) tE enc K tI encI hv sub (.slice (some ⟨W.heap.size, 0, none⟩) 0 0) ([] : List α) :=
  ⟨Own.empty _ _ _ _ _ h, fun b hb => (by
    have : W.heap.size = b := Option.some.inj hb
    omega), fun i hi => (by simp at hi), fun i j b _ hj => (by simp at hj)⟩
theorem NOwn.empty' {W : World} {lo g : Nat} (hg : g = W.heap.size) (h : lo ≤ W.heap.size) : NOwn (W.alloc (.cells #[] tE)) lo (W.alloc (.cells #[] tE)).heap.size tE enc K tI encI hv sub (.slice (some ⟨g, 0, none⟩) 0 0) ([] : List α) := by
  subst hg
  exact (NOwn.empty W lo h).wide (Nat.le_refl _) (by simp)
end
end Go.Proofs.YteainpflmofjaaaGreatDoor
