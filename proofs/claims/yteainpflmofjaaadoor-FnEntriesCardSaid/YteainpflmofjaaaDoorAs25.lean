/- Entries: what a list of entries is, by the reference; an entry by an id; the copies. No condition but sizes. -/
import Derived.Test.YteainpflmofjaaaDoorAe25
namespace Go.Proofs.YteainpflmofjaaaDoor
open Go.RowKit
theorem areEnt_long {l : List Ent} (h : ¬ l.length ≤ 12) : areEnt l = false := by simp [areEnt, h]
theorem areEnt_bad {l : List Ent} (k : Nat) (hk : k < l.length) (h : entAt l k = false) : areEnt l = false := areEnt_no k hk (by rw [h]; rfl)
theorem areEnt_not {l : List Ent} (k : Nat) (hk : k < l.length) (h : alone l k = false) : areEnt l = false := areEnt_no k hk (by rw [h]; simp)
theorem areEnt_all {l : List Ent} (h12 : l.length ≤ 12) (h1 : ∀ i, i < l.length → entAt l i = true) (h2 : ∀ i, i < l.length → alone l i = true) : areEnt l = true := by
  rw [areEnt_alt, allTo_true h1, allTo_true h2]; simp [h12]
theorem ent_waysG (l : List Ent) (k : Nat) : (isEnt (gd l k) = false ∧ Hid (entAt l k = false)) ∨ (isEnt (gd l k) = true ∧ ¬ 0 < k ∧ Hid (entAt l k = true)) ∨
    (isEnt (gd l k) = true ∧ 0 < k ∧ decide ((gd l k).id ≤ (gd l (k - 1)).id) = false ∧ Hid (entAt l k = true)) ∨ (isEnt (gd l k) = true ∧ 0 < k ∧ decide ((gd l k).id ≤ (gd l (k - 1)).id) = true ∧ Hid (entAt l k = false)) := ent_ways l k
set_option maxHeartbeats 4000000 in
set_option maxRecDepth 100000 in
theorem l25Good_c (v : Value) (l : List Ent) (w : World) (h : Sl w Ent.enc 6 v l) (hd : Ent.Deep w l) (hs : ∀ i, i < l.length → (gd l i).Fits) : Calls Tryd.prog 64 #[v] w fun e w' => e = .returned (.bool (areEnt l)) ∧ Below w.heap.size w w' := by
  obtain ⟨a, cap, b, off, rfl, hlc, hm, hc⟩ := h
  have hD := Lib.hid hd
  clear hd
  unfold maxLen at hm
  by_cases h12 : l.length ≤ 12
  case neg =>
    have hlo := Lib.hid (areEnt_long h12)
    go_enter Tryd.func64, Tryd.ntmps64
    go_wp2_with fail
    go_ret
    exact ⟨ret_bool hlo.out.symm, Below.refl _ _⟩
  go_enter Tryd.func64, Tryd.ntmps64
  go_wp2_with fail
  go_loopw [3] (fun i wr => ∃ k : Nat, k ≤ l.length ∧ i = .int .i64 k ∧ Hid (∀ i, i < k → entAt l i = true) ∧ Below w.heap.size w wr) (fun i _ => l.length - (intOf i).toNat)
  case atStart => exact ⟨0, Nat.zero_le _, rfl, fun i hi => by omega, Below.refl _ _⟩
  case round =>
    obtain ⟨k, hk, rfl, hall, hb⟩ := hrel
    by_cases hlt : k < l.length
    · obtain ⟨rfl, hbw, c0, c1, c2, c3, c4, c5⟩ := Ent.at (hc.mono hb) k hlt
      have d0 := fun (h0 : 0 < k) => (Ent.at (hc.mono hb) (k - 1) (by omega)).2.2.1
      have hC := fun W (hB : Below w.heap.size w W) => l25One_c (gd l k) W ((hD.out k hlt).mono hB) (hs k hlt)
      rcases ent_ways l k with ⟨hd, ho⟩ | ⟨hd, hk0, ho⟩ | ⟨hd, hk0, h2, ho⟩ | ⟨hd, hk0, h2, ho⟩
      all_goals
        rw [hd] at hC
        replace hC := Lib.hid hC
        go_wp2_with fail
        refine wp_region_ext (by kernel_rfl) (by kernel_rfl) ?_
        repeat (any_goals (first | go_big_quiet_step ((go_at_call 74; exact Calls.ext_of (hC.out _ (by repeat' (first | exact Below.refl _ _ | with_reducible assumption | refine bext ?_ ?_ _ | refine Below.alloc ?_ ?_ _ | refine Below.setCell ?_ ?_ _ | refine Below.drew ?_ | (simp; done) | (have hbz := hb.size; first | omega | (simp; omega)) | (simp; omega) | omega)))))))
        (refine wpQuiet_nil ?_)
        (rintro _ ⟨q, rfl⟩)
        go_wp2_with fail
      all_goals first
        | (go_ret
           exact ⟨ret_bool (areEnt_bad k hlt ho.out).symm, (by repeat' (first | exact Below.refl _ _ | with_reducible assumption | refine bext ?_ ?_ _ | refine Below.alloc ?_ ?_ _ | refine Below.setCell ?_ ?_ _ | refine Below.drew ?_ | (simp; done) | (have hbz := hb.size; first | omega | (simp; omega)) | (simp; omega) | omega))⟩)
        | (go_roundw
           case rel => exact ⟨k + 1, by omega, by go_num, upto_succ hall.out ho.out, (by repeat' (first | exact Below.refl _ _ | with_reducible assumption | refine bext ?_ ?_ _ | refine Below.alloc ?_ ?_ _ | refine Below.setCell ?_ ?_ _ | refine Below.drew ?_ | (simp; done) | (have hbz := hb.size; first | omega | (simp; omega)) | (simp; omega) | omega))⟩
           case measure => simp [intOf]; omega)
    · obtain rfl : k = l.length := by omega
      have H1 := hall
      clear hall
      go_wp2_with fail
      go_loopw [4] (fun i wr => ∃ k : Nat, k ≤ l.length ∧ i = .int .i64 k ∧ Hid (∀ i, i < k → alone l i = true) ∧ Below w.heap.size w wr) (fun i _ => l.length - (intOf i).toNat)
      case atStart => exact ⟨0, Nat.zero_le _, rfl, fun i hi => by omega, hb⟩
      case round =>
        clear hb
        obtain ⟨k, hk, rfl, hall, hb⟩ := hrel
        by_cases hlt : k < l.length
        · obtain ⟨rfl, hbw, -⟩ := Ent.at (hc.mono hb) k hlt
          obtain ⟨sb, so, hsl, hsm, hsc⟩ := Ent.at' (hD.out k hlt)
          unfold maxLen at hsm
          go_wp2_with fail
          go_loopw [5] (fun i wq => ∃ j : Nat, j ≤ (gd l k).sub.length ∧ i = .int .i64 j ∧ Hid (∀ i, i < j → aloneAt l k i = true) ∧ Below w.heap.size w wq) (fun i _ => (gd l k).sub.length - (intOf i).toNat)
          case atStart => exact ⟨0, Nat.zero_le _, rfl, fun i hi => by omega, hb⟩
          case round =>
            obtain ⟨j, hj, rfl, hjall, hbq⟩ := hrel
            obtain ⟨-, hbw2, -, -, -, -, -, c5⟩ := Ent.at (hc.mono hbq) k hlt
            by_cases hjl : j < (gd l k).sub.length
            · obtain ⟨ha, -, -⟩ := IntE.at (hsc.mono hbq) j hjl
              go_wp2_with fail
              go_loopw [6] (fun i wz => ∃ n : Nat, n ≤ l.length ∧ i = .int .i64 n ∧ Hid (∀ i, i < n → (decide (i = k) || !knows (gd l i) (gd (gd l k).sub j)) = true) ∧ Below w.heap.size w wz) (fun i _ => l.length - (intOf i).toNat)
              case atStart => exact ⟨0, Nat.zero_le _, rfl, fun i hi => by omega, hbq⟩
              case round =>
                obtain ⟨n, hn, rfl, hnall, hbz⟩ := hrel
                have hzz := hbz.size
                by_cases hnl : n < l.length
                · by_cases hnk : n = k
                  · have hst := Lib.hid (show (decide (n = k) || !knows (gd l n) (gd (gd l k).sub j)) = true by simp [hnk])
                    go_wp2_with fail
                    refine wp_region_ext (by kernel_rfl) (by kernel_rfl) ?_
                    repeat (any_goals (first | go_big_quiet_step (fail)))
                    (refine wpQuiet_nil ?_)
                    (rintro _ ⟨q, rfl⟩)
                    go_wp2_with fail
                    go_roundw
                    case rel => exact ⟨n + 1, by omega, by go_num, upto_succ (f := fun i => decide (i = k) || !knows (gd l i) (gd (gd l k).sub j)) hnall.out hst.out, (by repeat' (first | exact Below.refl _ _ | with_reducible assumption | refine bext ?_ ?_ _ | refine Below.alloc ?_ ?_ _ | refine Below.setCell ?_ ?_ _ | refine Below.drew ?_ | (simp; done) | (have hbz := hb.size; first | omega | (simp; omega)) | (simp; omega) | omega))⟩
                    case measure => simp [intOf]; omega
                  · obtain ⟨-, hbw3, g0, g1, g2, g3, g4, g5⟩ := Ent.at (hc.mono hbz) n hnl
                    obtain ⟨-, -, -, -, -, -, -, c5⟩ := Ent.at (hc.mono hbz) k hlt
                    obtain ⟨-, hbs, s0⟩ := IntE.at (hsc.mono hbz) j hjl
                    have y1 : ((n : Int) == (k : Int)) = false := by simp; omega
                    have y2 : ((n : Int) != (k : Int)) = true := by simp; omega
                    have y3 : (n == k) = false := by simp; omega
                    have y4 : (n != k) = true := by simp; omega
                    have y5 : decide ((n : Int) = (k : Int)) = false := by simp; omega
                    have hH := fun W (hB : Below w.heap.size w W) => l25Holds_c (gd l n) (gd (gd l k).sub j) W ((hD.out n hnl).mono hB)
                    cases hkn : knows (gd l n) (gd (gd l k).sub j)
                    · rw [hkn] at hH
                      replace hH := Lib.hid hH
                      have hst := Lib.hid (show (decide (n = k) || !knows (gd l n) (gd (gd l k).sub j)) = true by simp [hkn])
                      clear hkn
                      go_wp2_with fail
                      refine wp_region_ext (by kernel_rfl) (by kernel_rfl) ?_
                      repeat (any_goals (first | go_big_quiet_step ((go_at_call 71; exact Calls.ext_of (hH.out _ (by repeat' (first | exact Below.refl _ _ | with_reducible assumption | refine bext ?_ ?_ _ | refine Below.alloc ?_ ?_ _ | refine Below.setCell ?_ ?_ _ | refine Below.drew ?_ | (simp; done) | (have hbz := hb.size; first | omega | (simp; omega)) | (simp; omega) | omega)))))))
                      (refine wpQuiet_nil ?_)
                      (rintro _ ⟨q, rfl⟩)
                      go_wp2_with fail
                      go_roundw
                      case rel => exact ⟨n + 1, by omega, by go_num, upto_succ (f := fun i => decide (i = k) || !knows (gd l i) (gd (gd l k).sub j)) hnall.out hst.out, (by repeat' (first | exact Below.refl _ _ | with_reducible assumption | refine bext ?_ ?_ _ | refine Below.alloc ?_ ?_ _ | refine Below.setCell ?_ ?_ _ | refine Below.drew ?_ | (simp; done) | (have hbz := hb.size; first | omega | (simp; omega)) | (simp; omega) | omega))⟩
                      case measure => simp [intOf]; omega
                    · rw [hkn] at hH
                      replace hH := Lib.hid hH
                      have hno := Lib.hid (show alone l k = false from allTo_false (f := aloneAt l k) j hjl (allTo_false (f := fun i => decide (i = k) || !knows (gd l i) (gd (gd l k).sub j)) n hnl (by simp [hkn, hnk])))
                      clear hkn
                      go_wp2_with fail
                      refine wp_region_ext (by kernel_rfl) (by kernel_rfl) ?_
                      repeat (any_goals (first | go_big_quiet_step ((go_at_call 71; exact Calls.ext_of (hH.out _ (by repeat' (first | exact Below.refl _ _ | with_reducible assumption | refine bext ?_ ?_ _ | refine Below.alloc ?_ ?_ _ | refine Below.setCell ?_ ?_ _ | refine Below.drew ?_ | (simp; done) | (have hbz := hb.size; first | omega | (simp; omega)) | (simp; omega) | omega)))))))
                      (refine wpQuiet_nil ?_)
                      (rintro _ ⟨q, rfl⟩)
                      go_wp2_with fail
                      go_ret
                      exact ⟨ret_bool (areEnt_not k hlt hno.out).symm, (by repeat' (first | exact Below.refl _ _ | with_reducible assumption | refine bext ?_ ?_ _ | refine Below.alloc ?_ ?_ _ | refine Below.setCell ?_ ?_ _ | refine Below.drew ?_ | (simp; done) | (have hbz := hb.size; first | omega | (simp; omega)) | (simp; omega) | omega))⟩
                · obtain rfl : n = l.length := by omega
                  have hst := Lib.hid (show aloneAt l k j = true from allTo_true hnall.out)
                  clear c5
                  go_wp2_with fail
                  go_roundw
                  case rel => exact ⟨j + 1, by omega, by go_num, upto_succ hjall.out hst.out, hbz⟩
                  case measure => simp [intOf]; omega
            · obtain rfl : j = (gd l k).sub.length := by omega
              have hyes := Lib.hid (show alone l k = true from allTo_true hjall.out)
              go_wp2_with fail
              go_roundw
              case rel => exact ⟨k + 1, by omega, by go_num, upto_succ hall.out hyes.out, hbq⟩
              case measure => simp [intOf]; omega
        · obtain rfl : k = l.length := by omega
          have he := Lib.hid (areEnt_all h12 H1.out hall.out)
          go_wp2_with fail
          go_ret
          exact ⟨ret_bool he.out.symm, hb⟩
end Go.Proofs.YteainpflmofjaaaDoor
