/- Cards: those for which a condition holds, and the ids of cards. No condition but sizes. -/
import Derived.Test.YteainpflmofjaaaGreatDoorCm24
import Derived.Test.YteainpflmofjaaaGreatDoorDel
import Derived.Test.YteainpflmofjaaaGreatDoorCk
namespace Go.Proofs.YteainpflmofjaaaGreatDoor
open Go.RowKit
set_option maxHeartbeats 1000000 in
theorem cardsFor1_c (x : Crd) (g : Nat) (cb : Array Value) (r : Bool) (kb : Nat) (W : World) (hc : W.cell? ⟨kb, 0, none⟩ = some (.func (.func g) #[] cb))
    (eg : ∀ (args : Array Value) (W : World), (callFunc g args).run Tryz.prog W = .ok (.enter g args) W)
    (hf : ∀ W', Below W.heap.size W W' → Calls Tryz.prog g (#[.agg #[.int .i64 x.id, .int .i64 x.yr, .slice x.a x.sub.length x.cap]] ++ cb) W' fun e w' => e = .returned (.bool r) ∧ Below W'.heap.size W' w') :
    Calls Tryz.prog 69 #[.agg #[.int .i64 x.id, .int .i64 x.yr, .slice x.a x.sub.length x.cap], .pointer (some ⟨kb, 0, none⟩)] W fun e w' => e = .returned (.bool (!r)) ∧ Below W.heap.size W w' := by
  have hb := block_lt_of_cell hc
  dsimp only at hb
  have A0 := below_alloc W (.cells #[.int .i64 x.id, .int .i64 x.yr, .slice x.a x.sub.length x.cap] 34)
  have hF := Lib.hid (hf _ A0)
  clear hf
  go_enter Tryz.func69, Tryz.ntmps69
  go_wp2_with fail
  refine hF.out.mono ?_
  rintro e w1 ⟨rfl, b1⟩
  go_wp2_with fail
  go_ret
  exact ⟨rfl, btrans A0 b1⟩
set_option maxHeartbeats 2000000 in
set_option maxRecDepth 100000 in
theorem cardsFor_c (v : Value) (l : List Crd) (w : World) (g : Nat) (cb : Array Value) (p : Nat → Bool) (hS : Sl w Crd.enc 3 v l) (hl : l.length ≤ 1048577)
    (eg : ∀ (args : Array Value) (W : World), (callFunc g args).run Tryz.prog W = .ok (.enter g args) W)
    (hf : ∀ i W, i < l.length → Below w.heap.size w W → Calls Tryz.prog g (#[.agg #[.int .i64 (gd l i).id, .int .i64 (gd l i).yr, .slice (gd l i).a (gd l i).sub.length (gd l i).cap]] ++ cb) W fun e w' => e = .returned (.bool (p i)) ∧ Below W.heap.size W w') :
    Calls Tryz.prog 27 #[v, .func (.func g) #[] cb] w (RetOwn w 34 Crd.enc 3 (pickG p (gd l) l.length)) := by
  have A0 := below_alloc w (.cells #[.func (.func g) #[] cb] 39)
  have k0 : (w.alloc (.cells #[.func (.func g) #[] cb] 39)).cell? ⟨w.heap.size, 0, none⟩ = some (.func (.func g) #[] cb) := by simp
  have hC := Lib.hid (cloneCrd_c v l _ (hS.mono A0) (by omega))
  go_enter Tryz.func27, Tryz.ntmps27
  go_wp2_with fail
  refine hC.out.mono ?_
  rintro e w2 ⟨v2, rfl, o2, b2⟩
  have k2 := cellOn b2 k0
  have B2 := btrans A0 b2
  have hz1 : w.heap.size + 1 ≤ (w.alloc (.cells #[.func (.func g) #[] cb] 39)).heap.size := by simp
  have hbnd : ∀ q, v2.ownBlock = some q → w.heap.size + 1 ≤ q := fun q hq => by have := (o2.bounds q hq).1; omega
  have hne : some w.heap.size ≠ v2.ownBlock := fun e => by have := hbnd _ e.symm; omega
  have hD := Lib.hid (deleteFuncCrd_c v2 l _ w2 69 #[.pointer (some ⟨w.heap.size, 0, none⟩)] (fun i => !p i) o2 (fun _ _ => by kernel_rfl) (fun i W hi hg =>
    cardsFor1_c (gd l i) g cb (p i) w.heap.size W (cellGrown k2 hg hne) eg (fun W' hB => hf i W' hi ((B2.grown hg B2.size (fun q hq => by have := hbnd q hq; omega)).trans (hB.mono (by have := B2.size; have := hg.size; omega))))))
  go_wp2_with fail
  refine hD.out.mono ?_
  rintro e w3 ⟨v3, rfl, h3, o3, g3⟩
  go_wp2_with fail
  go_ret
  refine ⟨_, rfl, ?_, B2.grown g3 B2.size (fun q hq => by have := hbnd q hq; omega)⟩
  simp only [Bool.not_not] at o3
  exact o3.lower (by omega)
def idsC (l : List Crd) : List Int := l.map Crd.id
set_option maxHeartbeats 2000000 in
set_option maxRecDepth 100000 in
theorem cardIds_c (v : Value) (l : List Crd) (w : World) (h : Sl w Crd.enc 3 v l) (hl : l.length ≤ 1048577) : Calls Tryz.prog 26 #[v] w (RetOwn w 3 IntE.enc 1 (idsC l)) := by
  obtain ⟨i, hi, hz0, hz1, hz2⟩ := info_parts (show (Tryz.prog.info? 3).map (fun i => (i.zero, i.size, i.bytes)) = some (some (.int .i64 0), 1, 8) by kernel_rfl)
  obtain ⟨a, cap, b, off, rfl, hlc, hm, hc⟩ := h
  unfold maxLen at hm
  go_enter Tryz.func26, Tryz.ntmps26
  go_wp2_with fail
  go_loopw [3, 8] (fun o i wr => ∃ k : Nat, k ≤ l.length ∧ i = .int .i64 k ∧ Hid (Own wr w.heap.size 3 IntE.enc 1 o (idsC (l.take k))) ∧ Below w.heap.size w wr) (fun _ i _ => l.length - (intOf i).toNat)
  case atStart => exact ⟨0, Nat.zero_le _, rfl, Own.nil _ _ _ _ _, Below.refl _ _⟩
  case round =>
    obtain ⟨k, hk, rfl, ho, hb⟩ := hrel
    by_cases hlt : k < l.length
    · obtain ⟨rfl, hbw, c0, c1, c2⟩ := Crd.at (hc.mono hb) k hlt
      have hun := Lib.hid (show idsC (l.take (k + 1)) = idsC (l.take k) ++ [(gd l k).id] by rw [take_succ_gd hlt, idsC, List.map_append]; rfl)
      have hpl : (idsC (l.take k)).length ≤ k := by simp [idsC]; omega
      have hzb := hb.size
      go_wp2_with (at_builtin; refine wpList_push IntE.len IntE.one rfl _ _ 28 rfl w.heap.size 3 i _ 8 Tryz.underlying28 hi hz0 hz1 hz2 rfl (by omega) _ _ rfl (ho.out.mono (btrans (below_alloc _ _) (below_alloc _ _))) _ 1 (gd l k).id rfl (fun j u hu => new_cells _ [.int .i64 (gd l k).id] _ _ (by simp) j u hu) (by unfold maxLen; omega) (by omega) (by simp; omega) ?_)
      intro v' w3 ho3 hg3
      have hb3 := below_push (lo := w.heap.size) (B := w.heap.size) (a := w) (hb.trans ((btrans (below_alloc _ _) (below_alloc _ _)).mono hzb)) (ho.out.mono (btrans (below_alloc _ _) (below_alloc _ _))) hg3 (Nat.le_refl _) (by simp; omega)
      go_wp2_with fail
      go_roundw
      case rel => exact ⟨k + 1, by omega, by go_num, by rw [hun.out]; exact ho3, hb3⟩
      case measure => simp [intOf]; omega
    · obtain rfl : k = l.length := by omega
      go_wp2_with fail
      go_ret
      exact ⟨_, rfl, by rw [List.take_length] at ho; exact ho.out, hb⟩
end Go.Proofs.YteainpflmofjaaaGreatDoor
