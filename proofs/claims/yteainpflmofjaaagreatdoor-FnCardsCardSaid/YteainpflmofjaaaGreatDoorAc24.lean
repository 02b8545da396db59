/- Cards: what a list of cards is, by the program and by the reference. No condition but sizes. -/
import Derived.Test.YteainpflmofjaaaGreatDoorCd24
namespace Go.Proofs.YteainpflmofjaaaGreatDoor
open Go.RowKit
def crdAt (l : List Crd) (k : Nat) : Bool := isCrd (gd l k) && (k == 0 || decide ((gd l (k - 1)).id < (gd l k).id))
def areCrd (l : List Crd) : Bool := allTo (crdAt l) l.length && decide (l.length ≤ 12)
theorem areCrd_no {l : List Crd} (k : Nat) (hk : k < l.length) (h : crdAt l k = false) : areCrd l = false := by simp [areCrd, allTo_false k hk h]
theorem areCrd_end {l : List Crd} (h : ∀ i, i < l.length → crdAt l i = true) : areCrd l = decide (l.length ≤ 12) := by simp [areCrd, allTo_true h]
theorem allTo_congr {p q : Nat → Bool} {n : Nat} (h : ∀ i, i < n → p i = q i) : allTo p n = allTo q n := by
  rw [Bool.eq_iff_iff, allTo_iff, allTo_iff]
  exact ⟨fun k i hi => (h i hi) ▸ k i hi, fun k i hi => (h i hi).symm ▸ k i hi⟩
theorem crd_same {l l' : List Crd} (h : l'.map Crd.bare = l.map Crd.bare) (i : Nat) (hi : i < l.length) : (gd l' i).id = (gd l i).id ∧ (gd l' i).yr = (gd l i).yr ∧ (gd l' i).sub = (gd l i).sub ∧ isCrd (gd l' i) = isCrd (gd l i) := by
  have e := (map_same_at h i hi).2
  obtain ⟨a, b, c⟩ := Crd.sub_eq e
  exact ⟨a, b, c, by rw [← isCrd_bare, e, isCrd_bare]⟩
theorem areCrd_same {l l' : List Crd} (h : l'.map Crd.bare = l.map Crd.bare) : areCrd l' = areCrd l := by
  have hl : l'.length = l.length := by simpa using congrArg List.length h
  rw [areCrd, areCrd, hl]
  congr 1
  refine allTo_congr fun i hi => ?_
  obtain ⟨a, _, _, d⟩ := crd_same h i hi
  rw [crdAt, crdAt, a, d, (crd_same h (i - 1) (by omega)).1]
theorem crd_ways (l : List Crd) (k : Nat) : (isCrd (gd l k) = false ∧ Hid (crdAt l k = false)) ∨ (isCrd (gd l k) = true ∧ ¬ 0 < k ∧ Hid (crdAt l k = true)) ∨
    (isCrd (gd l k) = true ∧ 0 < k ∧ (gd l (k - 1)).id < (gd l k).id ∧ Hid (crdAt l k = true)) ∨ (isCrd (gd l k) = true ∧ 0 < k ∧ ¬ (gd l (k - 1)).id < (gd l k).id ∧ Hid (crdAt l k = false)) := by
  unfold Hid
  cases h : isCrd (gd l k)
  · exact .inl ⟨rfl, by simp [crdAt, h]⟩
  · by_cases h0 : 0 < k
    · by_cases h1 : (gd l (k - 1)).id < (gd l k).id
      · exact .inr (.inr (.inl ⟨rfl, h0, h1, by simp [crdAt, h, h1]⟩))
      · exact .inr (.inr (.inr ⟨rfl, h0, h1, by simp [crdAt, h, h1]; omega⟩))
    · exact .inr (.inl ⟨rfl, h0, by simp [crdAt, h]; omega⟩)
set_option maxHeartbeats 2000000 in
set_option maxRecDepth 100000 in
theorem areCards_c (v : Value) (l : List Crd) (w : World) (h : Sl w Crd.enc 3 v l) (hd : Crd.Deep w l) (hs : ∀ i, i < l.length → StrE.Fits (gd l i).sub) : Calls Tryz.prog 21 #[v] w fun e w' => e = .returned (.bool (areCrd l)) ∧ Below w.heap.size w w' := by
  obtain ⟨a, cap, b, off, rfl, hlc, hm, hc⟩ := h
  have hD := Lib.hid hd
  clear hd
  unfold maxLen at hm
  go_enter Tryz.func21, Tryz.ntmps21
  go_wp2_with fail
  go_loopw [7] (fun i wr => ∃ k : Nat, k ≤ l.length ∧ i = .int .i64 k ∧ Hid (∀ i, i < k → crdAt l i = true) ∧ Below w.heap.size w wr) (fun i _ => l.length - (intOf i).toNat)
  case atStart => exact ⟨0, Nat.zero_le _, rfl, fun i hi => by omega, Below.refl _ _⟩
  case round =>
    obtain ⟨k, hk, rfl, hall, hb⟩ := hrel
    by_cases hlt : k < l.length
    · obtain ⟨rfl, hbw, c0, c1, c2⟩ := Crd.at (hc.mono hb) k hlt
      have d0 := fun (h0 : 0 < k) => (Crd.at (hc.mono hb) (k - 1) (by omega)).2.2.1
      have hC := Lib.hid (fun W (hB : Below w.heap.size w W) => isCard_c (gd l k) W ((hD.out k hlt).mono hB) (hs k hlt))
      rcases crd_ways l k with ⟨hd, ho⟩ | ⟨hd, hk0, ho⟩ | ⟨hd, hk0, h2, ho⟩ | ⟨hd, hk0, h2, ho⟩
      all_goals
        go_wp2_with fail
        refine wp_region_ext (by kernel_rfl) (by kernel_rfl) ?_
        repeat (any_goals (first | go_big_quiet_step ((go_at_call 16; exact Calls.ext_of (hC.out _ (by repeat' (first | exact Below.refl _ _ | with_reducible assumption | refine bext ?_ ?_ _ | refine Below.alloc ?_ ?_ _ | refine Below.setCell ?_ ?_ _ | refine Below.drew ?_ | (simp; done) | (have hbz := hb.size; first | omega | (simp; omega)) | (simp; omega) | omega)))))))
        (refine wpQuiet_nil ?_)
        (rintro _ ⟨q, rfl⟩)
        go_wp2_with fail
      all_goals first
        | (go_ret
           exact ⟨ret_bool (areCrd_no k hlt ho.out).symm, (by repeat' (first | exact Below.refl _ _ | with_reducible assumption | refine bext ?_ ?_ _ | refine Below.alloc ?_ ?_ _ | refine Below.setCell ?_ ?_ _ | refine Below.drew ?_ | (simp; done) | (have hbz := hb.size; first | omega | (simp; omega)) | (simp; omega) | omega))⟩)
        | (go_roundw
           case rel => exact ⟨k + 1, by omega, by go_num, upto_succ hall.out ho.out, (by repeat' (first | exact Below.refl _ _ | with_reducible assumption | refine bext ?_ ?_ _ | refine Below.alloc ?_ ?_ _ | refine Below.setCell ?_ ?_ _ | refine Below.drew ?_ | (simp; done) | (have hbz := hb.size; first | omega | (simp; omega)) | (simp; omega) | omega))⟩
           case measure => simp [intOf]; omega)
    · obtain rfl : k = l.length := by omega
      have he := Lib.hid (areCrd_end hall.out)
      go_wp2_with fail
      go_ret
      exact ⟨ret_bool (by rw [he.out]; simp; omega), hb⟩
set_option maxHeartbeats 2000000 in
set_option maxRecDepth 100000 in
theorem l24Good_c (v : Value) (l : List Crd) (w : World) (h : Sl w Crd.enc 3 v l) (hd : Crd.Deep w l) (hs : ∀ i, i < l.length → StrE.Fits (gd l i).sub) : Calls Tryz.prog 32 #[v] w fun e w' => e = .returned (.bool (areCrd l)) ∧ Below w.heap.size w w' := by
  obtain ⟨a, cap, b, off, rfl, hlc, hm, hc⟩ := h
  have hD := Lib.hid hd
  clear hd
  unfold maxLen at hm
  go_enter Tryz.func32, Tryz.ntmps32
  go_wp2_with fail
  go_loopw [3] (fun i wr => ∃ k : Nat, k ≤ l.length ∧ i = .int .i64 k ∧ Hid (∀ i, i < k → crdAt l i = true) ∧ Below w.heap.size w wr) (fun i _ => l.length - (intOf i).toNat)
  case atStart => exact ⟨0, Nat.zero_le _, rfl, fun i hi => by omega, Below.refl _ _⟩
  case round =>
    obtain ⟨k, hk, rfl, hall, hb⟩ := hrel
    by_cases hlt : k < l.length
    · obtain ⟨rfl, hbw, c0, c1, c2⟩ := Crd.at (hc.mono hb) k hlt
      have d0 := fun (h0 : 0 < k) => (Crd.at (hc.mono hb) (k - 1) (by omega)).2.2.1
      have hC := Lib.hid (fun W (hB : Below w.heap.size w W) => l24One_c (gd l k) W ((hD.out k hlt).mono hB) (hs k hlt))
      rcases crd_ways l k with ⟨hd, ho⟩ | ⟨hd, hk0, ho⟩ | ⟨hd, hk0, h2, ho⟩ | ⟨hd, hk0, h2, ho⟩
      all_goals
        go_wp2_with fail
        refine wp_region_ext (by kernel_rfl) (by kernel_rfl) ?_
        repeat (any_goals (first | go_big_quiet_step ((go_at_call 45; exact Calls.ext_of (hC.out _ (by repeat' (first | exact Below.refl _ _ | with_reducible assumption | refine bext ?_ ?_ _ | refine Below.alloc ?_ ?_ _ | refine Below.setCell ?_ ?_ _ | refine Below.drew ?_ | (simp; done) | (have hbz := hb.size; first | omega | (simp; omega)) | (simp; omega) | omega)))))))
        (refine wpQuiet_nil ?_)
        (rintro _ ⟨q, rfl⟩)
        go_wp2_with fail
      all_goals first
        | (go_ret
           exact ⟨ret_bool (areCrd_no k hlt ho.out).symm, (by repeat' (first | exact Below.refl _ _ | with_reducible assumption | refine bext ?_ ?_ _ | refine Below.alloc ?_ ?_ _ | refine Below.setCell ?_ ?_ _ | refine Below.drew ?_ | (simp; done) | (have hbz := hb.size; first | omega | (simp; omega)) | (simp; omega) | omega))⟩)
        | (go_roundw
           case rel => exact ⟨k + 1, by omega, by go_num, upto_succ hall.out ho.out, (by repeat' (first | exact Below.refl _ _ | with_reducible assumption | refine bext ?_ ?_ _ | refine Below.alloc ?_ ?_ _ | refine Below.setCell ?_ ?_ _ | refine Below.drew ?_ | (simp; done) | (have hbz := hb.size; first | omega | (simp; omega)) | (simp; omega) | omega))⟩
           case measure => simp [intOf]; omega)
    · obtain rfl : k = l.length := by omega
      have he := Lib.hid (areCrd_end hall.out)
      go_wp2_with fail
      go_ret
      exact ⟨ret_bool (by rw [he.out]; simp; omega), hb⟩
theorem specAreCards_c (v : Value) (l : List Crd) (w : World) (h : Sl w Crd.enc 3 v l) (hd : Crd.Deep w l) (hs : ∀ i, i < l.length → StrE.Fits (gd l i).sub) : Calls Tryz.prog 22 #[v] w fun e w' => e = .returned (.bool (areCrd l)) ∧ Below w.heap.size w w' := by
  go_enter Tryz.func22, Tryz.ntmps22
  go_wp2_with (go_at_call 32; refine (l24Good_c v l w h hd hs).mono ?_)
  rintro e w' ⟨rfl, hb⟩
  go_wp2
  go_ret
  exact ⟨rfl, hb⟩
end Go.Proofs.YteainpflmofjaaaGreatDoor
