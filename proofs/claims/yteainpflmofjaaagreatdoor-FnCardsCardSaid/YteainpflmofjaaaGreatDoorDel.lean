/- slices.DeleteFunc at slices of the call's own: the closure is any that answers and writes nothing old. No condition but sizes. -/
import Derived.Test.YteainpflmofjaaaGreatDoorDf
import Derived.Test.YteainpflmofjaaaGreatDoorFindN
namespace Go.Proofs.YteainpflmofjaaaGreatDoor
open Go.RowKit
theorem Sl.toCells {α : Type} [Inhabited α] {w : World} {enc : α → List Value} {k n cap : Nat} {a : Option Addr} {l : List α} (h : Sl w enc k (.slice a n cap) l) : ∃ b off, n = l.length ∧ l.length ≤ cap ∧ cap ≤ maxLen ∧ Cells w enc k a b off l := by
  obtain ⟨a', cap', b, off, hv, h1, h2, hc⟩ := h
  injection hv with e1 e2 e3
  subst e1 e2 e3
  exact ⟨b, off, rfl, h1, h2, hc⟩

set_option maxHeartbeats 4000000 in
set_option maxRecDepth 100000 in
theorem deleteFuncCrd_c (v : Value) (l : List Crd) (lo : Nat) (w : World) (g0 : Nat) (cb : Array Value) (p : Nat → Bool) (h : Own w lo 34 Crd.enc 3 v l)
    (eg : ∀ (args : Array Value) (W : World), (callFunc g0 args).run Tryz.prog W = .ok (.enter g0 args) W)
    (hf : ∀ i W, i < l.length → w.grownBy W v.ownBlock → Calls Tryz.prog g0 (#[.agg #[.int .i64 (gd l i).id, .int .i64 (gd l i).yr, .slice (gd l i).a (gd l i).sub.length (gd l i).cap]] ++ cb) W fun e w' => e = .returned (.bool (p i)) ∧ Below W.heap.size W w') :
    Calls Tryz.prog 67 #[v, .func (.func g0) #[] cb] w fun e w' => ∃ v', e = .returned v' ∧ v'.ownBlock = v.ownBlock ∧ Own w' lo 34 Crd.enc 3 v' (pickG (fun i => !p i) (gd l) l.length) ∧ w.grownBy w' v.ownBlock := by
  obtain ⟨ti, hi, hz0, hz1, hz2⟩ := info_parts (show (Tryz.prog.info? 34).map (fun i => (i.zero, i.size, i.bytes)) = some (some (.agg #[.int .i64 0, .int .i64 0, .slice none 0 0]), 3, 40) by kernel_rfl)
  obtain ⟨a, cap, b, off, rfl, hlc, hm, hc⟩ := h.sl Crd.len
  have hIF := indexFuncCrd_c a cap b off l w g0 cb p (Nat.le_trans hlc hm) hc eg (fun i W hi hB => hf i W hi (only_of_below hB _))
  unfold maxLen at hm
  have hF := Lib.hid hf
  clear hf
  cases ho : findTo p l.length with
  | none =>
    rw [ho] at hIF
    replace hIF := Lib.hid hIF
    have hall := findTo_none_spec ho
    have hP := Lib.hid (show pickG (fun i => !p i) (gd l) l.length = l by rw [pickG_all _ l l.length (Nat.le_refl _) (fun i hi => by rw [hall i hi]; rfl), List.take_length])
    have hO := Lib.hid h
    clear ho hall h hc
    go_enter Tryz.func67, Tryz.ntmps67
    go_wp2_with fail
    refine hIF.out.mono ?_
    rintro e w1 ⟨rfl, hb⟩
    simp only [idxInt]
    go_wp2_with fail
    go_ret
    exact ⟨_, rfl, rfl, by rw [hP.out]; exact hO.out.mono hb, only_of_below hb _⟩
  | some i0 =>
    obtain ⟨hi0, hpi, hbf⟩ := findTo_spec ho
    rw [ho] at hIF
    replace hIF : Hid (Calls Tryz.prog 88 #[.slice a l.length cap, .func (.func g0) #[] cb] w fun e w' => e = .returned (.int .i64 (i0 : Int)) ∧ Below w.heap.size w w') := hIF
    obtain ⟨g, cap', hv', hlo, hg, -, -, -, -⟩ := h.form Crd.len (by omega)
    have ea : a = some ⟨g, 0, none⟩ := by injection hv'
    clear hv'
    subst ea
    have hO := Lib.hid h
    have hS := Lib.hid (show l.take i0 = pickG (fun i => !p i) (gd l) (i0 + 1) by rw [pickG_no (p := fun i => !p i) (by rw [hpi]; rfl), pickG_all (fun i => !p i) l i0 (by omega) (fun i hi => by rw [hbf i hi]; rfl)])
    have hne : ((i0 : Int) == -1) = false := by simp
    clear ho hpi hbf h hc
    go_enter Tryz.func67, Tryz.ntmps67
    go_wp2_with fail
    refine hIF.out.mono ?_
    rintro e w1 ⟨rfl, hb⟩
    have hO1 := Lib.hid (hO.out.mono hb)
    have hG1 := Lib.hid (only_of_below hb (some g))
    go_wp2_with fail
    go_loopw [5, 6, 7] (fun s5 s6 _ wr => ∃ (i j : Nat) (cur : List Crd), s5 = .int .i64 i ∧ s6 = .int .i64 j ∧ i < j ∧ j ≤ l.length ∧ cur.length = l.length ∧ Hid (cur.take i = pickG (fun i => !p i) (gd l) j) ∧ Hid (∀ m, j ≤ m → m < l.length → gd cur m = gd l m) ∧ Hid (Own wr lo 34 Crd.enc 3 (.slice (some ⟨g, 0, none⟩) l.length cap) cur) ∧ Hid (w.grownBy wr (some g))) (fun _ j _ _ => l.length - (intOf j).toNat)
    case atStart => exact ⟨i0, i0 + 1, l, rfl, by go_num, by omega, by omega, rfl, hS.out, fun _ _ _ => rfl, hO1.out, hG1.out⟩
    case round =>
    obtain ⟨i, j, cur, rfl, rfl, hij, hjl, hcl, hT, hR, hO2, hG⟩ := hrel
    have hO2' : Own wr lo 34 Crd.enc 3 (.slice (some ⟨g, 0, none⟩) cur.length cap) cur := by rw [hcl]; exact hO2.out
    obtain ⟨g', cap', hv', -, hgw, -, -, hfz, hcc⟩ := hO2'.form Crd.len (by omega)
    have eg' : g = g' := by injection hv' with e1; injection e1 with e1; injection e1
    subst eg'
    clear hv' hO2'
    by_cases hlt : j < l.length
    · obtain ⟨-, -, c0, c1, c2⟩ := Crd.at hcc j (by omega)
      obtain ⟨-, -, e0, e1, e2⟩ := Crd.at hcc i (by omega)
      rw [hR.out j (Nat.le_refl _) hlt] at c0 c1 c2
      rw [Nat.zero_add] at c0 c1 c2 e0 e1 e2
      obtain ⟨v0, o0⟩ : ∃ u, wr.cell? ⟨g, i * 3, none⟩ = some u := ⟨_, e0⟩
      obtain ⟨v1, o1⟩ : ∃ u, wr.cell? ⟨g, i * 3 + 1, none⟩ = some u := ⟨_, e1⟩
      obtain ⟨v2, o2⟩ : ∃ u, wr.cell? ⟨g, i * 3 + 2, none⟩ = some u := ⟨_, e2⟩
      have z0 := hfz (i * 3)
      have z1 := hfz (i * 3 + 1)
      have z2 := hfz (i * 3 + 2)
      have A0 := below_alloc wr (.cells #[.int .i64 (gd l j).id, .int .i64 (gd l j).yr, .slice (gd l j).a (gd l j).sub.length (gd l j).cap] 34)
      have hCl := hF.out j (wr.alloc (.cells #[.int .i64 (gd l j).id, .int .i64 (gd l j).yr, .slice (gd l j).a (gd l j).sub.length (gd l j).cap] 34)) hlt (only_trans hG.out (only_of_below A0 _))
      clear e0 e1 e2 hcc hfz
      cases hp : p j
      · rw [hp] at hCl
        replace hCl := Lib.hid hCl
        have hT2 := Lib.hid (show (cur.set i (gd l j)).take (i + 1) = pickG (fun i => !p i) (gd l) (j + 1) by rw [pickG_yes (p := fun i => !p i) (by rw [hp]; rfl), ← hT.out, take_succ_gd (by simp; omega), gd_set_at (by omega), List.take_set_of_le (Nat.le_refl i)])
        have hSt := Own.storeAll Crd.len hO2.out (by omega) i (by omega) (gd l j)
        have hO3 := Lib.hid hSt.1
        have hG3 := Lib.hid (only_trans hG.out hSt.2)
        clear hp hSt
        go_wp2_with fail
        refine hCl.out.mono ?_
        rintro e w3 ⟨rfl, hb3⟩
        obtain ⟨p3, rfl⟩ := ext_of_below hb3
        go_wp2_with fail
        go_roundw
        case rel =>
          refine ⟨i + 1, j + 1, _, by go_num, by go_num, by omega, by omega, by simp [hcl], hT2.out, fun m h1 h2 => ?_, Own.mono (Own.mono hO3.out (below_alloc _ _)) (below_ext _ _), only_trans (only_trans hG3.out (only_of_below (below_alloc _ _) _)) (only_of_below (below_ext _ _) _)⟩
          rw [gd_set_ne (by omega)]
          exact hR.out m (by omega) h2
        case measure => simp [intOf]; omega
      · rw [hp] at hCl
        replace hCl := Lib.hid hCl
        have hT2 := Lib.hid (show cur.take i = pickG (fun i => !p i) (gd l) (j + 1) by rw [pickG_no (p := fun i => !p i) (by rw [hp]; rfl), ← hT.out])
        clear hp
        go_wp2_with fail
        refine hCl.out.mono ?_
        rintro e w3 ⟨rfl, hb3⟩
        go_wp2_with fail
        go_roundw
        case rel => exact ⟨i, j + 1, cur, rfl, by go_num, by omega, by omega, hcl, hT2.out, fun m h1 h2 => hR.out m (by omega) h2, Own.mono (Own.mono hO2.out A0) hb3, only_trans (only_trans hG.out (only_of_below A0 _)) (only_of_below hb3 _)⟩
        case measure => simp [intOf]; omega
    · obtain rfl : j = l.length := by omega
      have hK : 3 * (l.length - i) + i * 3 = l.length * 3 := by omega
      have hcl2 : ∀ ty, (Builtin.clear_ #[24] ty #[.slice (some ⟨g, i * 3, none⟩) (l.length - i) (cap - i)]).run Tryz.prog wr = .ok (.tuple #[]) (wr.setCells g (i * 3) (Builtin.zeroCells (Value.cells (.agg #[.int .i64 0, .int .i64 0, .slice none 0 0])) (l.length - i)).toList) := fun ty => run_clear_rows wr 24 34 ty ti (.agg #[.int .i64 0, .int .i64 0, .slice none 0 0]) Tryz.underlying24 hi hz0 (by decide) (fun u hu => by simp [Value.cells] at hu; first | (subst hu; rfl) | (rcases hu with rfl | rfl | rfl <;> rfl)) g (i * 3) (l.length - i) (cap - i) (by omega)
        (fun m hm => by
          have hm' : m < (l.length - i) * 3 := hm
          rw [World.ownsRow.cellAt (n := l.length) (xs := cur.flatMap Crd.enc) (by rw [← hcl]; rw [← hcl] at hO2; exact hO2.out) (i * 3 + m) (by omega)]
          rw [List.getElem?_eq_getElem (by rw [flat_len Crd.len]; omega)]
          rfl)
        (fun m hm => hfz _)
      have hCC := Own.clearCut (m := i) Crd.len hO2.out (by omega) (by omega) (Builtin.zeroCells (Value.cells (.agg #[.int .i64 0, .int .i64 0, .slice none 0 0])) (l.length - i)).toList
      have hR1 := Lib.hid hCC.1
      have hR2 := Lib.hid (only_trans hG.out hCC.2)
      have hTT := Lib.hid hT.out
      clear hCC hcc hfz
      go_wp2_with fail
      go_ret
      exact ⟨_, rfl, rfl, by rw [← hTT.out]; exact hR1.out, hR2.out⟩

end Go.Proofs.YteainpflmofjaaaGreatDoor
