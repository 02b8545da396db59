/- Cards: the words that two cards have, by the program and by the reference. No condition but sizes. -/
import Derived.Test.YteainpflmofjaaaGreatDoorAc24
import Derived.Test.YteainpflmofjaaaGreatDoorFindN
namespace Go.Proofs.YteainpflmofjaaaGreatDoor
open Go.RowKit
theorem BoxAt.grown {W W' : World} {b : Nat} {cs : List Value} {row : Option Nat} (h : BoxAt W b cs) (hg : W.grownBy W' row) (hne : some b ≠ row) : BoxAt W' b cs := by
  refine ⟨Nat.lt_of_lt_of_le h.1 hg.size, fun j v hv => ?_⟩
  have e := hg.block b h.1 hne
  have := h.2 j v hv
  simp only [World.cell?] at this ⊢
  rw [e]
  exact this
theorem Own.empty' {α : Type} {W : World} {lo g : Nat} {e : TypeId} {enc : α → List Value} {k : Nat} (hg : g = W.heap.size) (h : lo ≤ W.heap.size) : Own (W.alloc (.cells #[] e)) lo e enc k (.slice (some ⟨g, 0, none⟩) 0 0) ([] : List α) := by
  subst hg; exact Own.empty _ _ _ _ _ h
def hasW (l : List ByteArray) (s : ByteArray) : Bool := (findTo (fun i => ((gd l i).toList == s.toList)) l.length).isSome
def commonL (a b : List ByteArray) : List ByteArray := a.filter (hasW b)
theorem commonL_yes {a b : List ByteArray} {k : Nat} (hk : k < a.length) (h : hasW b (gd a k) = true) : commonL (a.take (k + 1)) b = commonL (a.take k) b ++ [gd a k] := by
  rw [commonL, take_succ_gd hk, List.filter_append]; simp [commonL, h]
theorem commonL_no {a b : List ByteArray} {k : Nat} (hk : k < a.length) (h : hasW b (gd a k) = false) : commonL (a.take (k + 1)) b = commonL (a.take k) b := by
  rw [commonL, take_succ_gd hk, List.filter_append]; simp [commonL, h]
theorem commonL_len (a b : List ByteArray) : (commonL a b).length ≤ a.length := List.length_filter_le _ _
set_option maxHeartbeats 1000000 in
theorem l24Has_c (v : Value) (l : List ByteArray) (s : ByteArray) (w : World) (h : Sl w StrE.enc 1 v l) : Calls Tryz.prog 34 #[v, .string s] w fun e w' => e = .returned (.bool (hasW l s)) ∧ w = w' := by
  obtain ⟨a, cap, b, off, rfl, hlc, hm, hc⟩ := h
  unfold maxLen at hm
  go_enter Tryz.func34, Tryz.ntmps34
  go_wp2_with fail
  go_loop [5] (fun i => ∃ k : Nat, k ≤ l.length ∧ i = .int .i64 k ∧ Hid (∀ i, i < k → ((gd l i).toList == s.toList) = false)) (fun i => l.length - (intOf i).toNat)
  case atStart => exact ⟨0, Nat.zero_le _, rfl, fun i hi => by omega⟩
  case round =>
    obtain ⟨k, hk, rfl, hall⟩ := hrel
    by_cases hlt : k < l.length
    · obtain ⟨rfl, hbw, c0⟩ := StrE.at hc k hlt
      cases hq : ((gd l k).toList == s.toList)
      · have ho := Lib.hid hq
        go_wp2_with fail
        go_round
        case rel => exact ⟨k + 1, by omega, by go_num, upto_succ hall.out ho.out⟩
        case measure => simp [intOf]; omega
      · have he := Lib.hid (show hasW l s = true by rw [hasW, findTo_some (f := fun i => ((gd l i).toList == s.toList)) hall.out hq hlt]; rfl)
        go_wp2_with fail
        go_ret
        exact ⟨ret_bool he.out.symm, rfl⟩
    · obtain rfl : k = l.length := by omega
      have he := Lib.hid (show hasW l s = false by rw [hasW, findTo_none (f := fun i => ((gd l i).toList == s.toList)) hall.out]; rfl)
      go_wp2_with fail
      go_ret
      exact ⟨ret_bool he.out.symm, rfl⟩
/-! ### where a card stands -/
def crdIdx (l : List Crd) (n : Int) : Option Nat := findTo (fun i => (gd l i).id == n) l.length
set_option maxHeartbeats 1000000 in
theorem l24Find_c (v : Value) (l : List Crd) (n : Int) (w : World) (h : Sl w Crd.enc 3 v l) : Calls Tryz.prog 41 #[v, .int .i64 n] w fun e w' => e = .returned (.int .i64 (idxInt (crdIdx l n))) ∧ w = w' := by
  obtain ⟨a, cap, b, off, rfl, hlc, hm, hc⟩ := h
  unfold maxLen at hm
  go_enter Tryz.func41, Tryz.ntmps41
  go_wp2_with fail
  go_loop [5] (fun i => ∃ k : Nat, k ≤ l.length ∧ i = .int .i64 k ∧ Hid (∀ i, i < k → ((gd l i).id == n) = false)) (fun i => l.length - (intOf i).toNat)
  case atStart => exact ⟨0, Nat.zero_le _, rfl, fun i hi => by omega⟩
  case round =>
    obtain ⟨k, hk, rfl, hall⟩ := hrel
    by_cases hlt : k < l.length
    · obtain ⟨rfl, hbw, c0, -, -⟩ := Crd.at hc k hlt
      cases hq : (gd l k).id == n
      · go_wp2_with fail
        go_round
        case rel => exact ⟨k + 1, by omega, by go_num, upto_succ hall.out hq⟩
        case measure => simp [intOf]; omega
      · have he : Hid (crdIdx l n = some k) := findTo_some hall.out hq hlt
        go_wp2_with fail
        go_ret
        exact ⟨ret_int (by rw [he.out]; rfl), rfl⟩
    · obtain rfl : k = l.length := by omega
      have he : Hid (crdIdx l n = none) := findTo_none hall.out
      go_wp2_with fail
      go_ret
      exact ⟨ret_int (by rw [he.out]; rfl), rfl⟩
end Go.Proofs.YteainpflmofjaaaGreatDoor
