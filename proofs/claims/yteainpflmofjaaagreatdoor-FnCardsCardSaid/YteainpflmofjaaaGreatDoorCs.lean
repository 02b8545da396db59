/- The reader of choices: one of some texts. General. No condition but that not too many choices were read. -/
import Derived.Test.YteainpflmofjaaaGreatDoorCu
import Derived.Outline
namespace Go.Proofs.YteainpflmofjaaaGreatDoor
open Go.RowKit
/-- a call that hands back a text and has read choices -/
def CurS (w : World) (B m : Nat) (P : ByteArray → Prop) (e : Ending) (w' : World) : Prop := ∃ x : ByteArray, P x ∧ e = .returned (.string x) ∧ Cur w' B m ∧ w.grownBy w' (some B)
/-- n cells of block b that hold texts for which P holds -/
def LitS (w : World) (b : Nat) (n : Nat) (P : ByteArray → Prop) : Prop := ∀ i, i < n → ∃ z : ByteArray, P z ∧ w.cell? ⟨b, i, none⟩ = some (.string z)
theorem LitS.of {w : World} {cs : List Value} {t : TypeId} {P : ByteArray → Prop} (h : ∀ v, v ∈ cs → ∃ z : ByteArray, P z ∧ v = .string z) : LitS (w.alloc (.cells cs.toArray t)) w.heap.size cs.length P := fun i hi => by
  obtain ⟨z, h1, h2⟩ := h cs[i] (List.getElem_mem hi)
  exact ⟨z, h1, new_cells w cs t _ rfl i _ (by rw [List.getElem?_eq_getElem hi, h2])⟩
set_option maxHeartbeats 2000000 in
theorem of_c (w : World) (B m b n c : Nat) (P : ByteArray → Prop) (h : Cur w B m) (hm : m ≤ 1000000000) (hL : LitS w b n P) (hn0 : 0 < n) (hn : n ≤ 1000000) (hne : b ≠ B) : Calls Tryz.prog 63 #[.pointer (some ⟨B, 0, none⟩), .slice (some ⟨b, 0, none⟩) n c] w (CurS w B (m + 2) P) := by
  have HN := Lib.hid (pick_c w B m n h hm (by omega))
  have HL := Lib.hid hL
  clear h hL
  go_enter Tryz.func63, Tryz.ntmps63
  go_wp2_with fail
  refine HN.out.mono ?_
  rintro e w1 ⟨x, ⟨hx0, hx1, hx2⟩, rfl, hC1, hg1⟩
  replace hC1 := Lib.hid hC1
  obtain ⟨k, rfl⟩ : ∃ k : Nat, x = (k : Int) := ⟨x.toNat, by omega⟩
  have hk : k < n := by
    rcases Nat.lt_or_ge 1 n with h1 | h1
    · have := hx1 (by omega); omega
    · have := hx2 (by omega); omega
  obtain ⟨z, hz, h0⟩ := HL.out k hk
  have h1 := cellGrown h0 hg1 (fun e => hne (Option.some.inj e))
  replace hg1 := Lib.hid hg1
  replace hz := Lib.hid hz
  clear hx1 hx2 h0
  go_wp2_with fail
  go_ret
  exact ⟨z, hz.out, rfl, hC1.out, hg1.out⟩
/-- 'of' at a slice that is written out -/
theorem ofL_c {W : World} {B m g n : Nat} {t : TypeId} (cs : List Value) (P : ByteArray → Prop) (h : Cur W B m) (hm : m ≤ 1000000000) (hP : ∀ v, v ∈ cs → ∃ z : ByteArray, P z ∧ v = .string z) (hg : g = W.heap.size) (hn : n = cs.length) (h0 : 0 < cs.length) (h1 : cs.length ≤ 1000000) :
    Calls Tryz.prog 63 #[.pointer (some ⟨B, 0, none⟩), .slice (some ⟨g, 0, none⟩) n n] (W.alloc (.cells cs.toArray t)) (CurS W B (m + 2) P) := by
  subst hg hn
  have hB := h.lt
  refine (of_c _ B m _ cs.length cs.length P (h.mono (below_alloc _ _)) hm (LitS.of hP) h0 h1 (by omega)).mono ?_
  rintro e w' ⟨z, hz, rfl, hC, hg⟩
  exact ⟨z, hz, rfl, hC, only_trans (only_of_below (below_alloc _ _) _) hg⟩
end Go.Proofs.YteainpflmofjaaaGreatDoor
