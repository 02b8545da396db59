/- A number is put to its place in an ascending list, by the reference. No condition but what a slice may hold. -/
import Derived.Test.YtbkkaibjenofiaaSp23
import Derived.Test.YtbkkaibjenofiaaStep
import Derived.Test.YtbkkaibjenofiaaSd
import Derived.Test.YtbkkaibjenofiaaCk
import Derived.Test.YtbkkaibjenofiaaFind
import Derived.Outline
import Derived.Deep.Cut
import Derived.Deep.CutBlock
namespace Go.Proofs.Ytbkkaibjenofiaa
open Go.RowKit
/-- a call that hands back a slice that reads as l, old memory as it was -/
def RetInts (w : World) (l : List Int) (e : Ending) (w' : World) : Prop := ∃ v, e = .returned v ∧ Sl w' IntE.enc 1 v l ∧ Below w.heap.size w w'
/-- the same, and the slice is v itself or lies in new memory -/
def RetPut (w : World) (v0 : Value) (l0 l : List Int) (e : Ending) (w' : World) : Prop := ∃ v, e = .returned v ∧ Sl w' IntE.enc 1 v l ∧ ((v = v0 ∧ l = l0) ∨ Own w' w.heap.size 3 IntE.enc 1 v l) ∧ Below w.heap.size w w'
theorem ltTo_stop {S : List Int} {t : Int} {k : Nat} (hk : k < S.length) (h1 : ∀ i, i < k → gd S i < t) (h2 : ¬ gd S k < t) : ltTo S t = k := by
  unfold ltTo
  rw [findTo_some (k := k) (fun i hi => by simp [h1 i hi]) (by simp; omega) hk]
theorem ltTo_end {S : List Int} {t : Int} (h1 : ∀ i, i < S.length → gd S i < t) : ltTo S t = S.length := by
  unfold ltTo
  rw [findTo_none (fun i hi => by simp [h1 i hi])]
set_option maxHeartbeats 8000000 in
set_option maxRecDepth 100000 in
theorem l1Put_p (v : Value) (l : List Int) (n : Int) (w : World) (h : Sl w IntE.enc 1 v l) (hl : l.length ≤ 3000000) : Calls Try.prog 83 #[v, .int .i64 n] w (RetPut w v l (putI l n)) := by
  obtain ⟨i, hi, hz0, hz1, hz2⟩ := info_parts (show (Try.prog.info? 3).map (fun i => (i.zero, i.size, i.bytes)) = some (some (.int .i64 0), 1, 8) by kernel_rfl)
  obtain ⟨a, cap, b, off, rfl, hlc, hm, hc⟩ := id h
  unfold maxLen at hm
  go_enter Try.func83, Try.ntmps83
  go_upto_block 0 with fail
  go_cut [5] from 6 (fun s W => s = .int .i64 (ltTo l n : Int) ∧ w = W)
  case first =>
    go_wp2_with fail
    go_loop [5] (fun u => ∃ k : Nat, k ≤ l.length ∧ u = .int .i64 k ∧ Hid (∀ q, q < k → gd l q < n)) (fun u => l.length - (intOf u).toNat)
    case atStart => exact ⟨0, Nat.zero_le _, rfl, fun q hq => by omega⟩
    case round =>
      obtain ⟨k, hk, rfl, hall⟩ := hrel
      by_cases hlt : k < l.length
      · obtain ⟨rfl, hbw, c0⟩ := IntE.at hc k hlt
        by_cases hcmp : gd l k < n
        · have hall2 : Hid (∀ q, q < k + 1 → gd l q < n) := Lib.hid (fun q hq => by
            rcases Nat.lt_or_eq_of_le (Nat.lt_succ_iff.1 hq) with h1 | rfl
            · exact hall.out q h1
            · exact hcmp)
          generalize gd l k = y at c0 hcmp
          go_wp2_with fail
          go_round
          case rel => exact ⟨k + 1, by omega, by go_num, hall2.out⟩
          case measure => simp [intOf]; omega
        · have hpos := Lib.hid (ltTo_stop hlt hall.out hcmp)
          generalize gd l k = y at c0 hcmp
          go_wp2_with fail
          go_meet
          case rel => exact ⟨by rw [hpos.out], rfl⟩
      · obtain rfl : k = l.length := by omega
        have hpos := Lib.hid (ltTo_end hall.out)
        go_wp2_with fail
        go_meet
        case rel => exact ⟨by rw [hpos.out], rfl⟩
  case rest =>
    obtain ⟨rfl, rfl⟩ := hcut
    obtain ⟨wc, hwc⟩ : ∃ wc, wc = w := ⟨_, rfl⟩
    have hbw : Below w.heap.size w wc := by rw [hwc]; exact Below.refl _ _
    have hzw := hbw.size
    have hb := Below.refl wc.heap.size wc
    rw [← hwc]
    replace hwc := Lib.hid hwc
    have hkl := (ltTo_spec l n).1
    have hPe := Lib.hid (show putI l n = if ltTo l n < l.length ∧ gd l (ltTo l n) = n then l else l.take (ltTo l n) ++ [n] ++ l.drop (ltTo l n) from rfl)
    generalize ltTo l n = k at hkl hPe ⊢
    have hkk : k ≤ cap := by omega
    have hkk1 : (k : Int) ≤ (cap : Int) := by omega
    have hkk2 : (k : Int) ≤ (l.length : Int) := by omega
    have hS1 := Lib.hid (fun W (hB : Below wc.heap.size wc W) => (h.mono (hbw.trans (hB.mono hzw))).takeAt (n := k) hkl)
    by_cases hlt : k < l.length
    · obtain ⟨rfl, hbb, c0⟩ := IntE.at (hc.mono hbw) k hlt
      have hS3 := Lib.hid (fun W (hB : Below wc.heap.size wc W) => by have H := (h.mono (hbw.trans (hB.mono hzw))).drop (n := k) hkl; rw [Nat.mul_one] at H; exact H)
      have hck : ¬ cap = k := by omega
      have hck2 : ¬ (cap : Int) = (k : Int) := by omega
      by_cases hsk : gd l k = n
      · have hP : Hid (putI l n = l) := Lib.hid (by rw [hPe.out, if_pos ⟨hlt, hsk⟩])
        rw [hsk] at c0
        clear hsk
        go_wp2_with fail
        go_ret
        rw [hP.out]
        exact ⟨_, rfl, h.mono hbw, .inl ⟨rfl, rfl⟩, hbw⟩
      · have hP : Hid (putI l n = l.take k ++ [n] ++ l.drop k) := Lib.hid (by rw [hPe.out, if_neg (fun e => hsk e.2)])
        have hsk2 : (gd l k == n) = false := by simpa using hsk
        clear hsk
        generalize gd l k = y at c0 hsk2
        go_wp2_with fail
        refine wpAt fun W9 e9 => ?_
        have b9 : Below wc.heap.size wc W9 := by rw [e9]; first | exact Below.refl _ _ | exact (by repeat' (first | exact Below.refl _ _ | with_reducible assumption | refine bext ?_ ?_ _ | refine Below.alloc ?_ ?_ _ | refine Below.setCell ?_ ?_ _ | refine Below.drew ?_ | (simp; done) | (have hbz := hb.size; first | omega | (simp; omega)) | (simp; omega) | omega))
        clear e9
        have hbw9 : Below w.heap.size w W9 := hbw.trans (b9.mono hzw)
        have hzw9 := hbw9.size
        have hS1 := Lib.hid (fun W (hB : Below W9.heap.size W9 W) => hS1.out W (b9.trans (hB.mono b9.size)))
        have hS3 := Lib.hid (fun W (hB : Below W9.heap.size W9 W) => hS3.out W (b9.trans (hB.mono b9.size)))
        have hb := Below.refl W9.heap.size W9
        go_region_law (first | (refine step_cat IntE.len IntE.one (by rfl) (.tmp 33) (.tmp 36) 33 (by rfl) W9.heap.size 3 i _ 8 Try.underlying33 hi hz0 hz1 hz2 (by rfl) (by omega) (.slice (some ⟨W9.heap.size, 0, none⟩) 0 0) ([] : List Int) (by rfl) (by first | exact Own.mono (Own.emptyAt (by simp) (by simp)) (drewOn _) | exact Own.mono (Own.emptyAt (by simp) (by simp)) (btrans (below_alloc _ _) (drewOn _)) | exact Own.emptyAt (by simp) (by simp) | exact Own.mono (Own.emptyAt (by simp) (by simp)) (below_alloc _ _)) _ (l.take k) (by rfl) (hS1.out _ (by repeat' (first | exact Below.refl _ _ | with_reducible assumption | refine bext ?_ ?_ _ | refine Below.alloc ?_ ?_ _ | refine Below.setCell ?_ ?_ _ | refine Below.drew ?_ | (simp; done) | (have hbz := hb.size; first | omega | (simp; omega)) | (simp; omega) | omega))) (by unfold maxLen; simp; omega) (by simp; omega) (by first | omega | (simp; done) | (simp; omega) | (have hbz := hb.size; first | omega | (simp; omega))) ?_; intro v1 w1 oa ga; have ba := below_push (lo := W9.heap.size) (B := W9.heap.size) (a := W9) (by repeat' (first | exact Below.refl _ _ | with_reducible assumption | refine bext ?_ ?_ _ | refine Below.alloc ?_ ?_ _ | refine Below.setCell ?_ ?_ _ | refine Below.drew ?_ | (simp; done) | (have hbz := hb.size; first | omega | (simp; omega)) | (simp; omega) | omega)) ((by first | exact Own.mono (Own.emptyAt (by simp) (by simp)) (drewOn _) | exact Own.mono (Own.emptyAt (by simp) (by simp)) (btrans (below_alloc _ _) (drewOn _)) | exact Own.emptyAt (by simp) (by simp) | exact Own.mono (Own.emptyAt (by simp) (by simp)) (below_alloc _ _)) : Own _ W9.heap.size 3 IntE.enc 1 (.slice (some ⟨W9.heap.size, 0, none⟩) 0 0) ([] : List Int)) ga (Nat.le_refl _) (by first | omega | (simp; done) | (simp; omega) | (have hbz := hb.size; first | omega | (simp; omega))); have za := ba.size) | (refine step_cat IntE.len IntE.one (by rfl) (.tmp 33) (.tmp 36) 33 (by rfl) W9.heap.size 3 i _ 8 Try.underlying33 hi hz0 hz1 hz2 (by rfl) (by omega) (.slice (some ⟨W9.heap.size + 1, 0, none⟩) 0 0) ([] : List Int) (by rfl) (by first | exact Own.mono (Own.emptyAt (by simp) (by simp)) (drewOn _) | exact Own.mono (Own.emptyAt (by simp) (by simp)) (btrans (below_alloc _ _) (drewOn _)) | exact Own.emptyAt (by simp) (by simp) | exact Own.mono (Own.emptyAt (by simp) (by simp)) (below_alloc _ _)) _ (l.take k) (by rfl) (hS1.out _ (by repeat' (first | exact Below.refl _ _ | with_reducible assumption | refine bext ?_ ?_ _ | refine Below.alloc ?_ ?_ _ | refine Below.setCell ?_ ?_ _ | refine Below.drew ?_ | (simp; done) | (have hbz := hb.size; first | omega | (simp; omega)) | (simp; omega) | omega))) (by unfold maxLen; simp; omega) (by simp; omega) (by first | omega | (simp; done) | (simp; omega) | (have hbz := hb.size; first | omega | (simp; omega))) ?_; intro v1 w1 oa ga; have ba := below_push (lo := W9.heap.size) (B := W9.heap.size) (a := W9) (by repeat' (first | exact Below.refl _ _ | with_reducible assumption | refine bext ?_ ?_ _ | refine Below.alloc ?_ ?_ _ | refine Below.setCell ?_ ?_ _ | refine Below.drew ?_ | (simp; done) | (have hbz := hb.size; first | omega | (simp; omega)) | (simp; omega) | omega)) ((by first | exact Own.mono (Own.emptyAt (by simp) (by simp)) (drewOn _) | exact Own.mono (Own.emptyAt (by simp) (by simp)) (btrans (below_alloc _ _) (drewOn _)) | exact Own.emptyAt (by simp) (by simp) | exact Own.mono (Own.emptyAt (by simp) (by simp)) (below_alloc _ _)) : Own _ W9.heap.size 3 IntE.enc 1 (.slice (some ⟨W9.heap.size + 1, 0, none⟩) 0 0) ([] : List Int)) ga (Nat.le_refl _) (by first | omega | (simp; done) | (simp; omega) | (have hbz := hb.size; first | omega | (simp; omega))); have za := ba.size) | (refine step_push IntE.len IntE.one (by rfl) (.tmp 37) (.tmp 39) 33 (by rfl) W9.heap.size 3 i _ 8 Try.underlying33 hi hz0 hz1 hz2 (by rfl) (by omega) v1 ([] ++ l.take k) (by rfl) (oa.mono (by repeat' (first | exact Below.refl _ _ | with_reducible assumption | refine bext ?_ ?_ _ | refine Below.alloc ?_ ?_ _ | refine Below.setCell ?_ ?_ _ | refine Below.drew ?_ | (simp; done) | (have hbz := hb.size; first | omega | (simp; omega)) | (simp; omega) | omega))) _ 1 n (by rfl) (by omega) (by unfold maxLen; omega) (cells1 (by first | (simp; done) | (refine cellGrown ?_ ga ?_ <;> simp [Value.ownBlock]; done))) (by unfold maxLen; simp; omega) (by simp; omega) (by first | omega | (simp; done) | (simp; omega) | (have hbz := hb.size; first | omega | (simp; omega))) ?_; intro v2 w2 ob gb; have bb := below_push (lo := W9.heap.size) (B := W9.heap.size) (a := W9) (Below.trans ba (by repeat' (first | exact Below.refl _ _ | with_reducible assumption | refine bext ?_ ?_ _ | refine Below.alloc ?_ ?_ _ | refine Below.setCell ?_ ?_ _ | refine Below.drew ?_ | (simp; done) | (have hbz := hb.size; first | omega | (simp; omega)) | (simp; omega) | omega))) (oa.mono (by repeat' (first | exact Below.refl _ _ | with_reducible assumption | refine bext ?_ ?_ _ | refine Below.alloc ?_ ?_ _ | refine Below.setCell ?_ ?_ _ | refine Below.drew ?_ | (simp; done) | (have hbz := hb.size; first | omega | (simp; omega)) | (simp; omega) | omega))) gb (Nat.le_refl _) (by first | omega | (simp; done) | (simp; omega) | (have hbz := hb.size; first | omega | (simp; omega))); have zb := bb.size) | (refine step_cat IntE.len IntE.one (by rfl) (.tmp 40) (.tmp 43) 33 (by rfl) W9.heap.size 3 i _ 8 Try.underlying33 hi hz0 hz1 hz2 (by rfl) (by omega) v2 (([] ++ l.take k) ++ [n]) (by rfl) (ob.mono (by repeat' (first | exact Below.refl _ _ | with_reducible assumption | refine bext ?_ ?_ _ | refine Below.alloc ?_ ?_ _ | refine Below.setCell ?_ ?_ _ | refine Below.drew ?_ | (simp; done) | (have hbz := hb.size; first | omega | (simp; omega)) | (simp; omega) | omega))) _ (l.drop k) (by rfl) (hS3.out _ (Below.trans bb (by repeat' (first | exact Below.refl _ _ | with_reducible assumption | refine bext ?_ ?_ _ | refine Below.alloc ?_ ?_ _ | refine Below.setCell ?_ ?_ _ | refine Below.drew ?_ | (simp; done) | (have hbz := hb.size; first | omega | (simp; omega)) | (simp; omega) | omega)))) (by unfold maxLen; simp; omega) (by simp; omega) (by first | omega | (simp; done) | (simp; omega) | (have hbz := hb.size; first | omega | (simp; omega))) ?_; intro v3 w3 oc gc; have bc := below_push (lo := W9.heap.size) (B := W9.heap.size) (a := W9) (Below.trans bb (by repeat' (first | exact Below.refl _ _ | with_reducible assumption | refine bext ?_ ?_ _ | refine Below.alloc ?_ ?_ _ | refine Below.setCell ?_ ?_ _ | refine Below.drew ?_ | (simp; done) | (have hbz := hb.size; first | omega | (simp; omega)) | (simp; omega) | omega))) (ob.mono (by repeat' (first | exact Below.refl _ _ | with_reducible assumption | refine bext ?_ ?_ _ | refine Below.alloc ?_ ?_ _ | refine Below.setCell ?_ ?_ _ | refine Below.drew ?_ | (simp; done) | (have hbz := hb.size; first | omega | (simp; omega)) | (simp; omega) | omega))) gc (Nat.le_refl _) (by first | omega | (simp; done) | (simp; omega) | (have hbz := hb.size; first | omega | (simp; omega)))) | fail)
        all_goals
          have hfin := Lib.hid (show (([] ++ l.take k) ++ [n]) ++ (l.drop k) = putI l n by rw [hP.out]; simp)
          rw [hfin.out] at oc
          have B5 := Lib.hid (hbw9.trans (bc.mono hzw9))
          have ho6 := Lib.hid (Own.lower oc hzw9)
          have ho5 := Lib.hid (oc.sl IntE.len)
          clear oa ob oc ga gb gc ba bb bc za zb
          go_wp2_with fail
          go_ret
          exact ⟨v3, rfl, ho5.out, .inr ho6.out, B5.out⟩
    · obtain rfl : k = l.length := by omega
      have hP : Hid (putI l n = l.take l.length ++ [n] ++ l.drop l.length) := Lib.hid (by rw [hPe.out, if_neg (fun e => hlt e.1)])
      have hS3 : Hid (∀ W, Below wc.heap.size wc W → ∀ (a : Option Addr) (c : Nat), c ≤ maxLen → Sl W IntE.enc 1 (.slice a 0 c) (l.drop l.length)) := fun W _ a c hc => by rw [List.drop_length]; exact Sl.none hc
      by_cases hck : cap = l.length
      · subst hck
        rcases a with _ | ⟨ab, ao, asp⟩
        all_goals
          go_wp2_with fail
          refine wpAt fun W9 e9 => ?_
          have b9 : Below wc.heap.size wc W9 := by rw [e9]; first | exact Below.refl _ _ | exact (by repeat' (first | exact Below.refl _ _ | with_reducible assumption | refine bext ?_ ?_ _ | refine Below.alloc ?_ ?_ _ | refine Below.setCell ?_ ?_ _ | refine Below.drew ?_ | (simp; done) | (have hbz := hb.size; first | omega | (simp; omega)) | (simp; omega) | omega))
          clear e9
          have hbw9 : Below w.heap.size w W9 := hbw.trans (b9.mono hzw)
          have hzw9 := hbw9.size
          have hS1 := Lib.hid (fun W (hB : Below W9.heap.size W9 W) => hS1.out W (b9.trans (hB.mono b9.size)))
          have hS3 := Lib.hid (fun W (hB : Below W9.heap.size W9 W) => hS3.out W (b9.trans (hB.mono b9.size)))
          have hb := Below.refl W9.heap.size W9
          go_region_law (first | (refine step_cat IntE.len IntE.one (by rfl) (.tmp 33) (.tmp 36) 33 (by rfl) W9.heap.size 3 i _ 8 Try.underlying33 hi hz0 hz1 hz2 (by rfl) (by omega) (.slice (some ⟨W9.heap.size, 0, none⟩) 0 0) ([] : List Int) (by rfl) (by first | exact Own.mono (Own.emptyAt (by simp) (by simp)) (drewOn _) | exact Own.mono (Own.emptyAt (by simp) (by simp)) (btrans (below_alloc _ _) (drewOn _)) | exact Own.emptyAt (by simp) (by simp) | exact Own.mono (Own.emptyAt (by simp) (by simp)) (below_alloc _ _)) _ (l.take l.length) (by rfl) (hS1.out _ (by repeat' (first | exact Below.refl _ _ | with_reducible assumption | refine bext ?_ ?_ _ | refine Below.alloc ?_ ?_ _ | refine Below.setCell ?_ ?_ _ | refine Below.drew ?_ | (simp; done) | (have hbz := hb.size; first | omega | (simp; omega)) | (simp; omega) | omega))) (by unfold maxLen; simp; omega) (by simp; omega) (by first | omega | (simp; done) | (simp; omega) | (have hbz := hb.size; first | omega | (simp; omega))) ?_; intro v1 w1 oa ga; have ba := below_push (lo := W9.heap.size) (B := W9.heap.size) (a := W9) (by repeat' (first | exact Below.refl _ _ | with_reducible assumption | refine bext ?_ ?_ _ | refine Below.alloc ?_ ?_ _ | refine Below.setCell ?_ ?_ _ | refine Below.drew ?_ | (simp; done) | (have hbz := hb.size; first | omega | (simp; omega)) | (simp; omega) | omega)) ((by first | exact Own.mono (Own.emptyAt (by simp) (by simp)) (drewOn _) | exact Own.mono (Own.emptyAt (by simp) (by simp)) (btrans (below_alloc _ _) (drewOn _)) | exact Own.emptyAt (by simp) (by simp) | exact Own.mono (Own.emptyAt (by simp) (by simp)) (below_alloc _ _)) : Own _ W9.heap.size 3 IntE.enc 1 (.slice (some ⟨W9.heap.size, 0, none⟩) 0 0) ([] : List Int)) ga (Nat.le_refl _) (by first | omega | (simp; done) | (simp; omega) | (have hbz := hb.size; first | omega | (simp; omega))); have za := ba.size) | (refine step_cat IntE.len IntE.one (by rfl) (.tmp 33) (.tmp 36) 33 (by rfl) W9.heap.size 3 i _ 8 Try.underlying33 hi hz0 hz1 hz2 (by rfl) (by omega) (.slice (some ⟨W9.heap.size + 1, 0, none⟩) 0 0) ([] : List Int) (by rfl) (by first | exact Own.mono (Own.emptyAt (by simp) (by simp)) (drewOn _) | exact Own.mono (Own.emptyAt (by simp) (by simp)) (btrans (below_alloc _ _) (drewOn _)) | exact Own.emptyAt (by simp) (by simp) | exact Own.mono (Own.emptyAt (by simp) (by simp)) (below_alloc _ _)) _ (l.take l.length) (by rfl) (hS1.out _ (by repeat' (first | exact Below.refl _ _ | with_reducible assumption | refine bext ?_ ?_ _ | refine Below.alloc ?_ ?_ _ | refine Below.setCell ?_ ?_ _ | refine Below.drew ?_ | (simp; done) | (have hbz := hb.size; first | omega | (simp; omega)) | (simp; omega) | omega))) (by unfold maxLen; simp; omega) (by simp; omega) (by first | omega | (simp; done) | (simp; omega) | (have hbz := hb.size; first | omega | (simp; omega))) ?_; intro v1 w1 oa ga; have ba := below_push (lo := W9.heap.size) (B := W9.heap.size) (a := W9) (by repeat' (first | exact Below.refl _ _ | with_reducible assumption | refine bext ?_ ?_ _ | refine Below.alloc ?_ ?_ _ | refine Below.setCell ?_ ?_ _ | refine Below.drew ?_ | (simp; done) | (have hbz := hb.size; first | omega | (simp; omega)) | (simp; omega) | omega)) ((by first | exact Own.mono (Own.emptyAt (by simp) (by simp)) (drewOn _) | exact Own.mono (Own.emptyAt (by simp) (by simp)) (btrans (below_alloc _ _) (drewOn _)) | exact Own.emptyAt (by simp) (by simp) | exact Own.mono (Own.emptyAt (by simp) (by simp)) (below_alloc _ _)) : Own _ W9.heap.size 3 IntE.enc 1 (.slice (some ⟨W9.heap.size + 1, 0, none⟩) 0 0) ([] : List Int)) ga (Nat.le_refl _) (by first | omega | (simp; done) | (simp; omega) | (have hbz := hb.size; first | omega | (simp; omega))); have za := ba.size) | (refine step_push IntE.len IntE.one (by rfl) (.tmp 37) (.tmp 39) 33 (by rfl) W9.heap.size 3 i _ 8 Try.underlying33 hi hz0 hz1 hz2 (by rfl) (by omega) v1 ([] ++ l.take l.length) (by rfl) (oa.mono (by repeat' (first | exact Below.refl _ _ | with_reducible assumption | refine bext ?_ ?_ _ | refine Below.alloc ?_ ?_ _ | refine Below.setCell ?_ ?_ _ | refine Below.drew ?_ | (simp; done) | (have hbz := hb.size; first | omega | (simp; omega)) | (simp; omega) | omega))) _ 1 n (by rfl) (by omega) (by unfold maxLen; omega) (cells1 (by first | (simp; done) | (refine cellGrown ?_ ga ?_ <;> simp [Value.ownBlock]; done))) (by unfold maxLen; simp; omega) (by simp; omega) (by first | omega | (simp; done) | (simp; omega) | (have hbz := hb.size; first | omega | (simp; omega))) ?_; intro v2 w2 ob gb; have bb := below_push (lo := W9.heap.size) (B := W9.heap.size) (a := W9) (Below.trans ba (by repeat' (first | exact Below.refl _ _ | with_reducible assumption | refine bext ?_ ?_ _ | refine Below.alloc ?_ ?_ _ | refine Below.setCell ?_ ?_ _ | refine Below.drew ?_ | (simp; done) | (have hbz := hb.size; first | omega | (simp; omega)) | (simp; omega) | omega))) (oa.mono (by repeat' (first | exact Below.refl _ _ | with_reducible assumption | refine bext ?_ ?_ _ | refine Below.alloc ?_ ?_ _ | refine Below.setCell ?_ ?_ _ | refine Below.drew ?_ | (simp; done) | (have hbz := hb.size; first | omega | (simp; omega)) | (simp; omega) | omega))) gb (Nat.le_refl _) (by first | omega | (simp; done) | (simp; omega) | (have hbz := hb.size; first | omega | (simp; omega))); have zb := bb.size) | (refine step_cat IntE.len IntE.one (by rfl) (.tmp 40) (.tmp 43) 33 (by rfl) W9.heap.size 3 i _ 8 Try.underlying33 hi hz0 hz1 hz2 (by rfl) (by omega) v2 (([] ++ l.take l.length) ++ [n]) (by rfl) (ob.mono (by repeat' (first | exact Below.refl _ _ | with_reducible assumption | refine bext ?_ ?_ _ | refine Below.alloc ?_ ?_ _ | refine Below.setCell ?_ ?_ _ | refine Below.drew ?_ | (simp; done) | (have hbz := hb.size; first | omega | (simp; omega)) | (simp; omega) | omega))) _ (l.drop l.length) (by rfl) (hS3.out _ (Below.trans bb (by repeat' (first | exact Below.refl _ _ | with_reducible assumption | refine bext ?_ ?_ _ | refine Below.alloc ?_ ?_ _ | refine Below.setCell ?_ ?_ _ | refine Below.drew ?_ | (simp; done) | (have hbz := hb.size; first | omega | (simp; omega)) | (simp; omega) | omega))) _ _ (by unfold maxLen; omega)) (by unfold maxLen; simp; omega) (by simp; omega) (by first | omega | (simp; done) | (simp; omega) | (have hbz := hb.size; first | omega | (simp; omega))) ?_; intro v3 w3 oc gc; have bc := below_push (lo := W9.heap.size) (B := W9.heap.size) (a := W9) (Below.trans bb (by repeat' (first | exact Below.refl _ _ | with_reducible assumption | refine bext ?_ ?_ _ | refine Below.alloc ?_ ?_ _ | refine Below.setCell ?_ ?_ _ | refine Below.drew ?_ | (simp; done) | (have hbz := hb.size; first | omega | (simp; omega)) | (simp; omega) | omega))) (ob.mono (by repeat' (first | exact Below.refl _ _ | with_reducible assumption | refine bext ?_ ?_ _ | refine Below.alloc ?_ ?_ _ | refine Below.setCell ?_ ?_ _ | refine Below.drew ?_ | (simp; done) | (have hbz := hb.size; first | omega | (simp; omega)) | (simp; omega) | omega))) gc (Nat.le_refl _) (by first | omega | (simp; done) | (simp; omega) | (have hbz := hb.size; first | omega | (simp; omega)))) | fail)
          all_goals
            have hfin := Lib.hid (show (([] ++ l.take l.length) ++ [n]) ++ (l.drop l.length) = putI l n by rw [hP.out]; simp)
            rw [hfin.out] at oc
            have B5 := Lib.hid (hbw9.trans (bc.mono hzw9))
            have ho6 := Lib.hid (Own.lower oc hzw9)
            have ho5 := Lib.hid (oc.sl IntE.len)
            clear oa ob oc ga gb gc ba bb bc za zb
            go_wp2_with fail
            go_ret
            exact ⟨v3, rfl, ho5.out, .inr ho6.out, B5.out⟩
      · have hck2 : ¬ (cap : Int) = (l.length : Int) := by omega
        rcases a with _ | ⟨ab, ao, asp⟩
        all_goals
          go_wp2_with fail
          refine wpAt fun W9 e9 => ?_
          have b9 : Below wc.heap.size wc W9 := by rw [e9]; first | exact Below.refl _ _ | exact (by repeat' (first | exact Below.refl _ _ | with_reducible assumption | refine bext ?_ ?_ _ | refine Below.alloc ?_ ?_ _ | refine Below.setCell ?_ ?_ _ | refine Below.drew ?_ | (simp; done) | (have hbz := hb.size; first | omega | (simp; omega)) | (simp; omega) | omega))
          clear e9
          have hbw9 : Below w.heap.size w W9 := hbw.trans (b9.mono hzw)
          have hzw9 := hbw9.size
          have hS1 := Lib.hid (fun W (hB : Below W9.heap.size W9 W) => hS1.out W (b9.trans (hB.mono b9.size)))
          have hS3 := Lib.hid (fun W (hB : Below W9.heap.size W9 W) => hS3.out W (b9.trans (hB.mono b9.size)))
          have hb := Below.refl W9.heap.size W9
          go_region_law (first | (refine step_cat IntE.len IntE.one (by rfl) (.tmp 33) (.tmp 36) 33 (by rfl) W9.heap.size 3 i _ 8 Try.underlying33 hi hz0 hz1 hz2 (by rfl) (by omega) (.slice (some ⟨W9.heap.size, 0, none⟩) 0 0) ([] : List Int) (by rfl) (by first | exact Own.mono (Own.emptyAt (by simp) (by simp)) (drewOn _) | exact Own.mono (Own.emptyAt (by simp) (by simp)) (btrans (below_alloc _ _) (drewOn _)) | exact Own.emptyAt (by simp) (by simp) | exact Own.mono (Own.emptyAt (by simp) (by simp)) (below_alloc _ _)) _ (l.take l.length) (by rfl) (hS1.out _ (by repeat' (first | exact Below.refl _ _ | with_reducible assumption | refine bext ?_ ?_ _ | refine Below.alloc ?_ ?_ _ | refine Below.setCell ?_ ?_ _ | refine Below.drew ?_ | (simp; done) | (have hbz := hb.size; first | omega | (simp; omega)) | (simp; omega) | omega))) (by unfold maxLen; simp; omega) (by simp; omega) (by first | omega | (simp; done) | (simp; omega) | (have hbz := hb.size; first | omega | (simp; omega))) ?_; intro v1 w1 oa ga; have ba := below_push (lo := W9.heap.size) (B := W9.heap.size) (a := W9) (by repeat' (first | exact Below.refl _ _ | with_reducible assumption | refine bext ?_ ?_ _ | refine Below.alloc ?_ ?_ _ | refine Below.setCell ?_ ?_ _ | refine Below.drew ?_ | (simp; done) | (have hbz := hb.size; first | omega | (simp; omega)) | (simp; omega) | omega)) ((by first | exact Own.mono (Own.emptyAt (by simp) (by simp)) (drewOn _) | exact Own.mono (Own.emptyAt (by simp) (by simp)) (btrans (below_alloc _ _) (drewOn _)) | exact Own.emptyAt (by simp) (by simp) | exact Own.mono (Own.emptyAt (by simp) (by simp)) (below_alloc _ _)) : Own _ W9.heap.size 3 IntE.enc 1 (.slice (some ⟨W9.heap.size, 0, none⟩) 0 0) ([] : List Int)) ga (Nat.le_refl _) (by first | omega | (simp; done) | (simp; omega) | (have hbz := hb.size; first | omega | (simp; omega))); have za := ba.size) | (refine step_cat IntE.len IntE.one (by rfl) (.tmp 33) (.tmp 36) 33 (by rfl) W9.heap.size 3 i _ 8 Try.underlying33 hi hz0 hz1 hz2 (by rfl) (by omega) (.slice (some ⟨W9.heap.size + 1, 0, none⟩) 0 0) ([] : List Int) (by rfl) (by first | exact Own.mono (Own.emptyAt (by simp) (by simp)) (drewOn _) | exact Own.mono (Own.emptyAt (by simp) (by simp)) (btrans (below_alloc _ _) (drewOn _)) | exact Own.emptyAt (by simp) (by simp) | exact Own.mono (Own.emptyAt (by simp) (by simp)) (below_alloc _ _)) _ (l.take l.length) (by rfl) (hS1.out _ (by repeat' (first | exact Below.refl _ _ | with_reducible assumption | refine bext ?_ ?_ _ | refine Below.alloc ?_ ?_ _ | refine Below.setCell ?_ ?_ _ | refine Below.drew ?_ | (simp; done) | (have hbz := hb.size; first | omega | (simp; omega)) | (simp; omega) | omega))) (by unfold maxLen; simp; omega) (by simp; omega) (by first | omega | (simp; done) | (simp; omega) | (have hbz := hb.size; first | omega | (simp; omega))) ?_; intro v1 w1 oa ga; have ba := below_push (lo := W9.heap.size) (B := W9.heap.size) (a := W9) (by repeat' (first | exact Below.refl _ _ | with_reducible assumption | refine bext ?_ ?_ _ | refine Below.alloc ?_ ?_ _ | refine Below.setCell ?_ ?_ _ | refine Below.drew ?_ | (simp; done) | (have hbz := hb.size; first | omega | (simp; omega)) | (simp; omega) | omega)) ((by first | exact Own.mono (Own.emptyAt (by simp) (by simp)) (drewOn _) | exact Own.mono (Own.emptyAt (by simp) (by simp)) (btrans (below_alloc _ _) (drewOn _)) | exact Own.emptyAt (by simp) (by simp) | exact Own.mono (Own.emptyAt (by simp) (by simp)) (below_alloc _ _)) : Own _ W9.heap.size 3 IntE.enc 1 (.slice (some ⟨W9.heap.size + 1, 0, none⟩) 0 0) ([] : List Int)) ga (Nat.le_refl _) (by first | omega | (simp; done) | (simp; omega) | (have hbz := hb.size; first | omega | (simp; omega))); have za := ba.size) | (refine step_push IntE.len IntE.one (by rfl) (.tmp 37) (.tmp 39) 33 (by rfl) W9.heap.size 3 i _ 8 Try.underlying33 hi hz0 hz1 hz2 (by rfl) (by omega) v1 ([] ++ l.take l.length) (by rfl) (oa.mono (by repeat' (first | exact Below.refl _ _ | with_reducible assumption | refine bext ?_ ?_ _ | refine Below.alloc ?_ ?_ _ | refine Below.setCell ?_ ?_ _ | refine Below.drew ?_ | (simp; done) | (have hbz := hb.size; first | omega | (simp; omega)) | (simp; omega) | omega))) _ 1 n (by rfl) (by omega) (by unfold maxLen; omega) (cells1 (by first | (simp; done) | (refine cellGrown ?_ ga ?_ <;> simp [Value.ownBlock]; done))) (by unfold maxLen; simp; omega) (by simp; omega) (by first | omega | (simp; done) | (simp; omega) | (have hbz := hb.size; first | omega | (simp; omega))) ?_; intro v2 w2 ob gb; have bb := below_push (lo := W9.heap.size) (B := W9.heap.size) (a := W9) (Below.trans ba (by repeat' (first | exact Below.refl _ _ | with_reducible assumption | refine bext ?_ ?_ _ | refine Below.alloc ?_ ?_ _ | refine Below.setCell ?_ ?_ _ | refine Below.drew ?_ | (simp; done) | (have hbz := hb.size; first | omega | (simp; omega)) | (simp; omega) | omega))) (oa.mono (by repeat' (first | exact Below.refl _ _ | with_reducible assumption | refine bext ?_ ?_ _ | refine Below.alloc ?_ ?_ _ | refine Below.setCell ?_ ?_ _ | refine Below.drew ?_ | (simp; done) | (have hbz := hb.size; first | omega | (simp; omega)) | (simp; omega) | omega))) gb (Nat.le_refl _) (by first | omega | (simp; done) | (simp; omega) | (have hbz := hb.size; first | omega | (simp; omega))); have zb := bb.size) | (refine step_cat IntE.len IntE.one (by rfl) (.tmp 40) (.tmp 43) 33 (by rfl) W9.heap.size 3 i _ 8 Try.underlying33 hi hz0 hz1 hz2 (by rfl) (by omega) v2 (([] ++ l.take l.length) ++ [n]) (by rfl) (ob.mono (by repeat' (first | exact Below.refl _ _ | with_reducible assumption | refine bext ?_ ?_ _ | refine Below.alloc ?_ ?_ _ | refine Below.setCell ?_ ?_ _ | refine Below.drew ?_ | (simp; done) | (have hbz := hb.size; first | omega | (simp; omega)) | (simp; omega) | omega))) _ (l.drop l.length) (by rfl) (hS3.out _ (Below.trans bb (by repeat' (first | exact Below.refl _ _ | with_reducible assumption | refine bext ?_ ?_ _ | refine Below.alloc ?_ ?_ _ | refine Below.setCell ?_ ?_ _ | refine Below.drew ?_ | (simp; done) | (have hbz := hb.size; first | omega | (simp; omega)) | (simp; omega) | omega))) _ _ (by unfold maxLen; omega)) (by unfold maxLen; simp; omega) (by simp; omega) (by first | omega | (simp; done) | (simp; omega) | (have hbz := hb.size; first | omega | (simp; omega))) ?_; intro v3 w3 oc gc; have bc := below_push (lo := W9.heap.size) (B := W9.heap.size) (a := W9) (Below.trans bb (by repeat' (first | exact Below.refl _ _ | with_reducible assumption | refine bext ?_ ?_ _ | refine Below.alloc ?_ ?_ _ | refine Below.setCell ?_ ?_ _ | refine Below.drew ?_ | (simp; done) | (have hbz := hb.size; first | omega | (simp; omega)) | (simp; omega) | omega))) (ob.mono (by repeat' (first | exact Below.refl _ _ | with_reducible assumption | refine bext ?_ ?_ _ | refine Below.alloc ?_ ?_ _ | refine Below.setCell ?_ ?_ _ | refine Below.drew ?_ | (simp; done) | (have hbz := hb.size; first | omega | (simp; omega)) | (simp; omega) | omega))) gc (Nat.le_refl _) (by first | omega | (simp; done) | (simp; omega) | (have hbz := hb.size; first | omega | (simp; omega)))) | fail)
          all_goals
            have hfin := Lib.hid (show (([] ++ l.take l.length) ++ [n]) ++ (l.drop l.length) = putI l n by rw [hP.out]; simp)
            rw [hfin.out] at oc
            have B5 := Lib.hid (hbw9.trans (bc.mono hzw9))
            have ho6 := Lib.hid (Own.lower oc hzw9)
            have ho5 := Lib.hid (oc.sl IntE.len)
            clear oa ob oc ga gb gc ba bb bc za zb
            go_wp2_with fail
            go_ret
            exact ⟨v3, rfl, ho5.out, .inr ho6.out, B5.out⟩
theorem l1Put_c (v : Value) (l : List Int) (n : Int) (w : World) (h : Sl w IntE.enc 1 v l) (hl : l.length ≤ 3000000) : Calls Try.prog 83 #[v, .int .i64 n] w (RetInts w (putI l n)) := (l1Put_p v l n w h hl).mono fun _ _ ⟨v, h1, h2, _, h3⟩ => ⟨v, h1, h2, h3⟩
end Go.Proofs.Ytbkkaibjenofiaa
