/- The step from a law's walk to its row: what the arguments read as, and that they read so behind the call. No condition. -/
import Derived.Test.YteainpflmofjaaaGreatDoorTypes
import Derived.ProofKit
import Derived.OpenShut
import Derived.Carry
import Derived.Deep.Slices
import Derived.Deep.Fields
import Derived.ChangeSame
namespace Go.Proofs.YteainpflmofjaaaGreatDoor
open Go.ChangeShapes Go.WideShapes Go.ChangeAt Go.RowKit

theorem own : ownKnob Tryz.prog.godebug = none := by kernel_rfl
theorem laidOut : laidOutB Tryz.prog = true := by kernel_rfl

theorem choose_list {α : Type} [Inhabited α] {P : Nat → α → Prop} : ∀ (n : Nat), (∀ i, i < n → ∃ x, P i x) → ∃ l : List α, l.length = n ∧ ∀ i, i < n → P i (gd l i)
  | 0, _ => ⟨[], rfl, fun i hi => by omega⟩
  | n + 1, h => by
    obtain ⟨l, hl, hp⟩ := choose_list n (fun i hi => h i (by omega))
    obtain ⟨x, hx⟩ := h n (by omega)
    refine ⟨l ++ [x], by simp [hl], fun i hi => ?_⟩
    rcases Nat.lt_or_eq_of_le (Nat.lt_succ_iff.1 hi) with h1 | h1
    · rw [gd_append (by omega)]; exact hp i h1
    · subst h1; subst hl; rw [gd_append_last]; exact hx

section
variable {H : Type} {enc : TypeId × Value → H} {P : Program} {w : World}
/-- A slice that can be read: its elements as a list, where each element's cells read as one thing. -/
theorem read_slice {α : Type} [Inhabited α] (en : World → α → List Value → Prop) {t e : TypeId} {v : Value} {d : DataW H} {ps : List MemPlace} (ht : P.underlying t = some (.slice e))
    (hel : ∀ n cs x, DataW.trod enc P w 0 (fun _ => true) true n e cs = some x → ∃ y : α, en w y cs) (h : DataW.Trod enc P w 0 (fun _ => true) true t v d ps) (hv : ∃ a len cap, v = .slice a len cap) :
    ∃ (l : List α) (a : Option Addr) (cap b off : Nat), v = .slice a l.length cap ∧ l.length ≤ cap ∧ cap ≤ maxLen ∧
      ∀ i, i < l.length → ∃ cs, en w (gd l i) cs ∧ cs.length = P.cellsOf e ∧ (0 < P.cellsOf e → a = some ⟨b, off, none⟩ ∧ b < w.heap.size) ∧ ∀ j u, cs[j]? = some u → w.cell? ⟨b, off + i * P.cellsOf e + j, none⟩ = some u := by
  obtain ⟨a0, len, cap, rfl⟩ := hv
  obtain ⟨fuel, hf⟩ := h
  rcases Go.Deep.open_slice ht hf with ⟨hcs, _⟩ | ⟨a, len', cap', m, n, D, Pl, hcs, _, hl, hm, hmm, _, hi⟩
  · have : Value.slice a0 len cap = .slice none 0 0 := by simpa [Value.cells] using hcs
    exact ⟨[], none, 0, 0, 0, this, Nat.le_refl _, Nat.zero_le _, fun i hi => absurd hi (by simp)⟩
  · have hv : Value.slice a0 len cap = .slice (some a) len' cap' := by simpa [Value.cells] using hcs
    have hlm : len' ≤ m := by rw [hmm]; split <;> omega
    obtain ⟨l, hll, hp⟩ := choose_list (P := fun i y => ∃ cs, en w y cs ∧ cs.length = P.cellsOf e ∧ ∀ j, j < P.cellsOf e → w.cell? (a.add (i * P.cellsOf e + j)) = cs[j]?) len' (fun i hi' => by
      obtain ⟨cs, hc, hr⟩ := hi i (by omega)
      obtain ⟨y, hy⟩ := hel _ _ _ hr
      obtain ⟨_, hcl, hat⟩ := World.cells?_some hc
      exact ⟨y, cs, hy, hcl, fun j hj => by rw [← Go.Deep.add_add]; exact hat j hj⟩)
    have hadd : ∀ (x : Nat), a.spot = none → a.add x = ⟨a.block, a.off + x, none⟩ := fun x hs => by
      obtain ⟨b, o, s⟩ := a
      simp only at hs
      subst hs
      exact Go.WideShapes.add_plain ..
    refine ⟨l, some a, cap', a.block, a.off, by rw [hv, hll], by omega, hm, fun i hi' => ?_⟩
    obtain ⟨cs, h1, h2, h3⟩ := hp i (by omega)
    have hone : ∀ j u, cs[j]? = some u → a.spot = none ∧ w.cell? ⟨a.block, a.off + i * P.cellsOf e + j, none⟩ = some u := fun j u hu => by
      have hj : j < P.cellsOf e := by have := (List.getElem?_eq_some_iff.1 hu).1; omega
      have h4 := h3 j hj
      rw [hu] at h4
      have hs : a.spot = none := by
        have h5 := World.cell?_spot h4
        unfold Addr.add at h5
        split at h5
        · exact h5
        · rename_i hne
          -- the first cell of the row tells
          have h0 := hp 0 (by omega)
          obtain ⟨cs0, _, hl0, h30⟩ := h0
          have h6 := h30 0 (by omega)
          rw [List.getElem?_eq_getElem (by omega)] at h6
          have h7 := World.cell?_spot h6
          simpa [Addr.add] using h7
      refine ⟨hs, ?_⟩
      rw [hadd _ hs] at h4
      rw [Nat.add_assoc]
      exact h4
    refine ⟨cs, h1, h2, fun hk => ?_, fun j u hu => (hone j u hu).2⟩
    obtain ⟨hs, hc⟩ := hone 0 _ (List.getElem?_eq_getElem (by omega))
    refine ⟨?_, (block_lt_of_cell hc : (⟨a.block, a.off + i * P.cellsOf e + 0, none⟩ : Addr).block < _)⟩
    obtain ⟨b, o, s⟩ := a
    simp only at hs
    subst hs
    rfl

/-- The same for elements that their cells alone tell. -/
theorem read_flat {α : Type} [Inhabited α] (en : α → List Value) {k : Nat} {t e : TypeId} {v : Value} {d : DataW H} {ps : List MemPlace} (ht : P.underlying t = some (.slice e)) (hk : P.cellsOf e = k) (hk0 : 0 < k)
    (hel : ∀ n cs x, DataW.trod enc P w 0 (fun _ => true) true n e cs = some x → ∃ y : α, cs = en y) (h : DataW.Trod enc P w 0 (fun _ => true) true t v d ps) (hv : ∃ a len cap, v = .slice a len cap) :
    ∃ l : List α, Sl w en k v l := by
  obtain ⟨l, a, cap, b, off, rfl, h1, h2, h3⟩ := read_slice (fun _ y cs => cs = en y) ht hel h hv
  refine ⟨l, a, cap, b, off, rfl, h1, h2, fun i hi => ?_⟩
  obtain ⟨cs, rfl, _, h4, h5⟩ := h3 i hi
  rw [hk] at h4 h5
  exact ⟨(h4 hk0).1, (h4 hk0).2, h5⟩

/-- One cell that reads as a slice. -/
theorem read_cell {t e : TypeId} {fuel : Nat} {v : Value} {x : DataW H × List MemPlace} (ht : P.underlying t = some (.slice e)) (h : DataW.trod enc P w 0 (fun _ => true) true fuel t [v] = some x) :
    (∃ a len cap, v = .slice a len cap) ∧ DataW.Trod enc P w 0 (fun _ => true) true t v x.1 x.2 := by
  rcases Go.Deep.open_slice ht h with ⟨hcs, _⟩ | ⟨a, len', cap', m, n, D, Pl, hcs, _⟩
  · obtain rfl : v = .slice none 0 0 := by simpa using hcs
    exact ⟨⟨_, _, _, rfl⟩, fuel, h⟩
  · obtain rfl : v = .slice (some a) len' cap' := by simpa using hcs
    exact ⟨⟨_, _, _, rfl⟩, fuel, h⟩

/-- The row's last step, where of the world behind the call 'Below' alone is known. -/
theorem post_below {F : Func} {s : ChangeSpec} {W W' : World} {args : Array Value} {ds gs : List (DataW H)} {before pa : List MemPlace} (hrt : F.resultTypes = #[4]) (h4 : P.underlying 4 = some .bool)
    (hW : DataW.Whole enc P F.params.toList s.vars false W args.toList ds gs before) (hres : (s.fn H (ds ++ gs)).results = [.lit (.bool true)]) (hvs : s.vars = []) (hvs2 : (s.fn H (ds ++ gs)).vars = [])
    (hargs : ∀ sp : Nat → Bool, (∀ p ∈ before, sp p.block = true) → DataW.TrodAll enc P W' 0 sp true F.params.toList args.toList (s.fn H (ds ++ gs)).args pa) (hps : before = pa) (hb : Below W.heap.size W W') :
    s.post enc P F false true false false W args (.bool true) W' := by
  have hlt : ∀ p ∈ before, p.block < W.heap.size := fun p hp => hW.lt p hp
  refine ⟨ds, gs, before, [], pa, [], hW, ?_, hargs _ (fun p hp => by simpa using hlt p hp), ?_, World.keptBut_mono (fun p hp => ⟨hp, .inr (.inl (by rw [← hps]; exact hp))⟩) (hb.frame (· ∈ before)), fun h => by cases h⟩
  · rw [hres, hrt]
    exact trodAll_mk1 (shut_bool h4 true)
  · rw [hvs, hvs2]
    exact rfl
end
end Go.Proofs.YteainpflmofjaaaGreatDoor
