/- 'copy' into a row that is known whole, for elements of several cells; what two such copies leave. General. No condition. -/
import Derived.Test.YthibchaiaedboaaDoorStore
import Derived.Test.YthibchaiaedboaaDoorCk
import Derived.Laws.CopyRow
import Derived.Laws.CopyOwn
import Derived.Deep.RegionLaw
namespace Go.Proofs.YthibchaiaedboaaDoor
open Go.RowKit
section
variable {P : Program}
theorem run_copy_rowK (w : World) (dT sT ty elem : TypeId) (k g o dLen dCap : Nat) (a : Addr) (sLen sCap : Nat) (cur : List Value) (t : TypeId) (cs : List Value)
    (hu : P.underlying dT = some (.slice elem)) (hs : (P.info? elem).map (·.size) = some k)
    (hg : w.heap[g]? = some (.cells cur.toArray t (0, 0))) (hn : cs.length = Nat.min sLen dLen * k)
    (hsrc : ∀ j v, cs[j]? = some v → w.cell? (a.add j) = some v) (hfit : o + cs.length ≤ cur.length) (h1 : ∀ v ∈ cs, v.oneCell' = true) :
    (Builtin.copy_ #[dT, sT] ty #[.slice (some ⟨g, o, none⟩) dLen dCap, .slice (some a) sLen sCap]).run P w =
      .ok (goInt (Nat.min sLen dLen)) (w.setRow g (splice cur o cs).toArray) := by
  have hl := run_loadCells_list (P := P) w a cs hsrc
  have hst := run_storeCells_at P g o t cs 0 cur.toArray w hg (by simpa using hfit) h1
  cases hq : P.info? elem with
  | none => simp [hq] at hs
  | some i =>
    have hi : i.size = k := by simpa [hq] using hs
    simp [Builtin.copy_, run_underlying hu, Builtin.lenOf, Builtin.firstCells, sizeOf, typeInfo, hq, hi, ← hn, hl, hst, splice]
theorem grown_setRow (w : World) (g : Nat) (cs : Array Value) : w.grownBy (w.setRow g cs) (some g) :=
  ⟨rfl, rfl, rfl, by simp [World.setRow], fun k _ hne => setRow_other w g k cs (fun e => hne (by rw [e]))⟩
theorem wpList_copy_rowK {w : World} {ops : Array Oper} {rest : List Oper} {o : Oper} {a : Act} {Q : Exit → Act → World → Prop} (hgd : o.guard = none) (d s : Operand) (dT sT : TypeId)
    (ho : o.op = .call { callee := .builtin .copy, args := #[d, s], argTypes := #[dT, sT] }) (elem : TypeId) (k : Nat) (hu : P.underlying dT = some (.slice elem)) (hsz : (P.info? elem).map (·.size) = some k)
    (g off dLen dCap : Nat) (ad : Addr) (sLen sCap : Nat) (hd : a.eval d = .slice (some ⟨g, off, none⟩) dLen dCap) (hs : a.eval s = .slice (some ad) sLen sCap)
    (cur : List Value) (t : TypeId) (hg : w.heap[g]? = some (.cells cur.toArray t (0, 0))) (cs : List Value) (hn : cs.length = Nat.min sLen dLen * k)
    (hsrc : ∀ j v, cs[j]? = some v → w.cell? (ad.add j) = some v) (hfit : off + cs.length ≤ cur.length) (h1 : ∀ v ∈ cs, v.oneCell' = true)
    (h : ∀ w', Hid (w'.heap[g]? = some (.cells (splice cur off cs).toArray t (0, 0))) → Hid (w.grownBy w' (some g)) → wpList P ops Q rest (a.put o.dst (goInt (Nat.min sLen dLen))) w') : wpList P ops Q (o :: rest) a w := by
  refine wpList_plain hgd fun K hK => ?_
  have hrun := run_copy_rowK (P := P) w dT sT o.type elem k g off dLen dCap ad sLen sCap cur t cs hu hsz hg hn hsrc hfit h1
  unfold Oper.wp
  simp [execOp, ho, resolve, invoke, builtin, hd, hs, hrun, Result.andThen]
  exact hK _ _ (h _ (setRow_heap w g _ _ t _ hg) (grown_setRow w g _))
theorem step_copy_rowK {ops : Array Oper} {o : Oper} {a : Act} {w : World} {K : Act → World → Prop} {Q : Exit → Act → World → Prop} {E : Prop} (hgd : o.guard = none) (d s : Operand) (dT sT : TypeId)
    (ho : o.op = .call { callee := .builtin .copy, args := #[d, s], argTypes := #[dT, sT] }) (elem : TypeId) (k : Nat) (hu : P.underlying dT = some (.slice elem)) (hsz : (P.info? elem).map (·.size) = some k)
    (g off dLen dCap : Nat) (ad : Addr) (sLen sCap : Nat) (hd : a.eval d = .slice (some ⟨g, off, none⟩) dLen dCap) (hs : a.eval s = .slice (some ad) sLen sCap)
    (cur : List Value) (t : TypeId) (hg : w.heap[g]? = some (.cells cur.toArray t (0, 0))) (cs : List Value) (hn : cs.length = Nat.min sLen dLen * k)
    (hsrc : ∀ j v, cs[j]? = some v → w.cell? (ad.add j) = some v) (hfit : off + cs.length ≤ cur.length) (h1 : ∀ v ∈ cs, v.oneCell' = true)
    (h : ∀ w', Hid (w'.heap[g]? = some (.cells (splice cur off cs).toArray t (0, 0))) → Hid (w.grownBy w' (some g)) → K (a.put o.dst (goInt (Nat.min sLen dLen))) w') :
    if Region.wanted o (yielded ops a.tmps) = true then Oper.wp P o a w K Q else E := by
  have hw : Region.wanted o (yielded ops a.tmps) = true := by simp [Region.wanted, hgd]
  rw [if_pos hw]
  have hrun := run_copy_rowK (P := P) w dT sT o.type elem k g off dLen dCap ad sLen sCap cur t cs hu hsz hg hn hsrc hfit h1
  unfold Oper.wp
  simp [execOp, ho, resolve, invoke, builtin, hd, hs, hrun, Result.andThen]
  exact h _ (setRow_heap w g _ _ t _ hg) (grown_setRow w g _)
end
theorem rowCell {w : World} {g : Nat} {cur : List Value} {t : TypeId} (hg : w.heap[g]? = some (.cells cur.toArray t (0, 0))) (o j : Nat) (v : Value) (h : cur[o + j]? = some v) : w.cell? ((⟨g, o, none⟩ : Addr).add j) = some v := by
  have hadd : (⟨g, o, none⟩ : Addr).add j = ⟨g, o + j, none⟩ := by unfold Addr.add; split <;> simp_all
  rw [hadd, cell_of_row w g (o + j) _ t (0, 0) hg]
  simpa using h
/-- the tail first, then the new cells: what stood behind has moved on -/
theorem splice_shift (Cur D X : List Value) (p k q : Nat) (hX : X.length = k) (hD : D.length = q) (hl : p + k + q ≤ Cur.length) : splice (splice Cur (p + k) D) p X = Cur.take p ++ X ++ D ++ Cur.drop (p + k + q) := by
  subst hX hD
  have hlen : (Cur.take (p + X.length)).length = p + X.length := by simp; omega
  have e1 : (splice Cur (p + X.length) D).take p = Cur.take p := by
    unfold splice
    rw [List.take_append_of_le_length (by rw [hlen]; omega), List.take_take]
    congr 1; omega
  have e2 : (splice Cur (p + X.length) D).drop (p + X.length) = D ++ Cur.drop (p + X.length + D.length) := by
    unfold splice
    rw [List.drop_append, hlen]
    simp
  show (splice Cur (p + X.length) D).take p ++ (X ++ (splice Cur (p + X.length) D).drop (p + X.length)) = _
  rw [e1, e2]; simp
/-- the new cells first, then the tail -/
theorem splice_fill (Row D X : List Value) (p k q : Nat) (hX : X.length = k) (hD : D.length = q) (hl : p + k + q ≤ Row.length) : splice (splice Row p X) (p + k) D = Row.take p ++ X ++ D ++ Row.drop (p + k + q) := by
  subst hX hD
  have hlen : (Row.take p).length = p := by simp; omega
  have e1 : (splice Row p X).take (p + X.length) = Row.take p ++ X := by
    unfold splice
    rw [← List.append_assoc, List.take_append_of_le_length (by simp; omega), List.take_of_length_le (by simp; omega)]
  have e2 : (splice Row p X).drop (p + X.length + D.length) = Row.drop (p + X.length + D.length) := by
    unfold splice
    rw [← List.append_assoc, List.drop_append, List.drop_of_length_le (by simp; omega)]
    simp [hlen]
  show (splice Row p X).take (p + X.length) ++ (D ++ (splice Row p X).drop (p + X.length + D.length)) = _
  rw [e1, e2]; simp
theorem takeDrop {α : Type} {enc : α → List Value} {k : Nat} (hk : ∀ x, (enc x).length = k) (l : List α) (i : Nat) (hi : i ≤ l.length) : (l.flatMap enc).take (i * k) = (l.take i).flatMap enc ∧ (l.flatMap enc).drop (i * k) = (l.drop i).flatMap enc := by
  have h := List.take_append_drop i l
  have e : l.flatMap enc = (l.take i).flatMap enc ++ (l.drop i).flatMap enc := by rw [← List.flatMap_append, h]
  have hlen : ((l.take i).flatMap enc).length = i * k := by rw [flat_len hk, List.length_take, Nat.min_eq_left hi]
  constructor
  · rw [e, List.take_append_of_le_length (by omega), List.take_of_length_le (by omega)]
  · rw [e, List.drop_append, List.drop_of_length_le (by omega), hlen]; simp
end Go.Proofs.YthibchaiaedboaaDoor
