/- Entries: an entry by an id, the copies: by the program and by the reference. No condition but sizes. -/
import Derived.Test.YteainpflmofjaaaDoorAs25
namespace Go.Proofs.YteainpflmofjaaaDoor
open Go.RowKit
theorem feB_parts {l : List Ent} {n : Int} : feB l n = (areEnt l && inB n 1 999 && (entOf l n).isSome) := rfl
theorem fe_no {l : List Ent} {n : Int} (h : feB l n = false) : feV l n = 0 := by simp [feV, h]
theorem fe_yes {l : List Ent} {n : Int} {k : Nat} (hA : areEnt l = true) (hn : inB n 1 999 = true) (h : entOf l n = some k) : feB l n = true ∧ feV l n = (gd l k).id := by
  have : feB l n = true := by simp [feB, hA, hn, h]
  exact ⟨this, by simp [feV, this, h]⟩
set_option maxHeartbeats 2000000 in
theorem findEntry_c (v : Value) (l : List Ent) (n : Int) (w : World) (h : Sl w Ent.enc 6 v l) (hd : Ent.Deep w l) (hs : ∀ i, i < l.length → (gd l i).Fits) : Calls Tryd.prog 25 #[v, .int .i64 n] w fun e w' => e = .returned (.tuple #[.int .i64 (feV l n), .bool (feB l n)]) ∧ Below w.heap.size w w' := by
  have HA := fun W (hB : Below w.heap.size w W) => areEntries_c v l W (h.mono hB) (hd.mono hB) hs
  have HE := entryOf_c v l n w h hd
  obtain ⟨a, cap, b, off, rfl, hlc, hm, hc⟩ := id h
  unfold maxLen at hm
  cases hA : areEnt l
  · have hB := Lib.hid (show feB l n = false by simp [feB, hA])
    have hV := Lib.hid (fe_no hB.out)
    rw [hA] at HA
    replace HA := Lib.hid HA
    replace HE := Lib.hid HE
    clear hA
    go_enter Tryd.func25, Tryd.ntmps25
    go_wp2_with (first | (go_at_call 66; refine (HE.out).mono ?_; rintro e w' ⟨rfl, hbq⟩; obtain ⟨p, rfl⟩ := ext_of_below hbq; clear hbq) | (go_at_call 59; refine (HA.out _ (by repeat' (first | exact Below.refl _ _ | with_reducible assumption | refine bext ?_ ?_ _ | refine Below.alloc ?_ ?_ _ | refine Below.setCell ?_ ?_ _ | refine Below.drew ?_ | (simp; done) | (have hbz := hb.size; first | omega | (simp; omega)) | (simp; omega) | omega))).mono ?_; rintro e w' ⟨rfl, hbq⟩; obtain ⟨p, rfl⟩ := ext_of_below hbq; clear hbq))
    go_ret2
    exact ⟨ret_int_bool hV.out.symm hB.out.symm, (by repeat' (first | exact Below.refl _ _ | with_reducible assumption | refine bext ?_ ?_ _ | refine Below.alloc ?_ ?_ _ | refine Below.setCell ?_ ?_ _ | refine Below.drew ?_ | (simp; done) | (have hbz := hb.size; first | omega | (simp; omega)) | (simp; omega) | omega))⟩
  · rw [hA] at HA
    replace HA := Lib.hid HA
    replace hA := Lib.hid hA
    cases hn : inB n 1 999
    · have hB := Lib.hid (show feB l n = false by simp [feB, hn])
      have hV := Lib.hid (fe_no hB.out)
      replace HE := Lib.hid HE
      go_enter Tryd.func25, Tryd.ntmps25
      go_wp2_with (first | (go_at_call 66; refine (HE.out).mono ?_; rintro e w' ⟨rfl, hbq⟩; obtain ⟨p, rfl⟩ := ext_of_below hbq; clear hbq) | (go_at_call 59; refine (HA.out _ (by repeat' (first | exact Below.refl _ _ | with_reducible assumption | refine bext ?_ ?_ _ | refine Below.alloc ?_ ?_ _ | refine Below.setCell ?_ ?_ _ | refine Below.drew ?_ | (simp; done) | (have hbz := hb.size; first | omega | (simp; omega)) | (simp; omega) | omega))).mono ?_; rintro e w' ⟨rfl, hbq⟩; obtain ⟨p, rfl⟩ := ext_of_below hbq; clear hbq) | (go_at_call 67; refine (isId_c _ _).mono ?_; rintro e w' ⟨rfl, rfl⟩))
      go_ret2
      exact ⟨ret_int_bool hV.out.symm hB.out.symm, (by repeat' (first | exact Below.refl _ _ | with_reducible assumption | refine bext ?_ ?_ _ | refine Below.alloc ?_ ?_ _ | refine Below.setCell ?_ ?_ _ | refine Below.drew ?_ | (simp; done) | (have hbz := hb.size; first | omega | (simp; omega)) | (simp; omega) | omega))⟩
    · cases he : entOf l n with
      | none =>
        have hB := Lib.hid (show feB l n = false by simp [feB, he])
        have hV := Lib.hid (fe_no hB.out)
        rw [he] at HE
        replace HE : Hid (Calls Tryd.prog 66 #[.slice a l.length cap, .int .i64 n] w fun e w' => e = .returned (.int .i64 (-1)) ∧ Below w.heap.size w w') := HE
        clear he
        go_enter Tryd.func25, Tryd.ntmps25
        go_wp2_with (first | (go_at_call 66; refine (HE.out).mono ?_; rintro e w' ⟨rfl, hbq⟩; obtain ⟨p, rfl⟩ := ext_of_below hbq; clear hbq) | (go_at_call 59; refine (HA.out _ (by repeat' (first | exact Below.refl _ _ | with_reducible assumption | refine bext ?_ ?_ _ | refine Below.alloc ?_ ?_ _ | refine Below.setCell ?_ ?_ _ | refine Below.drew ?_ | (simp; done) | (have hbz := hb.size; first | omega | (simp; omega)) | (simp; omega) | omega))).mono ?_; rintro e w' ⟨rfl, hbq⟩; obtain ⟨p, rfl⟩ := ext_of_below hbq; clear hbq) | (go_at_call 67; refine (isId_c _ _).mono ?_; rintro e w' ⟨rfl, rfl⟩))
        go_ret2
        exact ⟨ret_int_bool hV.out.symm hB.out.symm, (by repeat' (first | exact Below.refl _ _ | with_reducible assumption | refine bext ?_ ?_ _ | refine Below.alloc ?_ ?_ _ | refine Below.setCell ?_ ?_ _ | refine Below.drew ?_ | (simp; done) | (have hbz := hb.size; first | omega | (simp; omega)) | (simp; omega) | omega))⟩
      | some k =>
        have hF := Lib.hid (fe_yes hA.out hn he)
        have hkl := (findTo_spec he).1
        rw [he] at HE
        obtain ⟨rfl, -⟩ := hc k hkl
        obtain ⟨-, hbl, c0, -⟩ := Ent.at hc k hkl
        have hk0 : decide ((k : Int) < 0) = false := by simp
        replace HE : Hid (Calls Tryd.prog 66 #[.slice (some ⟨b, off, none⟩) l.length cap, .int .i64 n] w fun e w' => e = .returned (.int .i64 (k : Int)) ∧ Below w.heap.size w w') := HE
        clear he
        go_enter Tryd.func25, Tryd.ntmps25
        go_wp2_with (first | (go_at_call 66; refine (HE.out).mono ?_; rintro e w' ⟨rfl, hbq⟩; obtain ⟨p, rfl⟩ := ext_of_below hbq; clear hbq) | (go_at_call 59; refine (HA.out _ (by repeat' (first | exact Below.refl _ _ | with_reducible assumption | refine bext ?_ ?_ _ | refine Below.alloc ?_ ?_ _ | refine Below.setCell ?_ ?_ _ | refine Below.drew ?_ | (simp; done) | (have hbz := hb.size; first | omega | (simp; omega)) | (simp; omega) | omega))).mono ?_; rintro e w' ⟨rfl, hbq⟩; obtain ⟨p, rfl⟩ := ext_of_below hbq; clear hbq) | (go_at_call 67; refine (isId_c _ _).mono ?_; rintro e w' ⟨rfl, rfl⟩))
        go_ret2
        exact ⟨ret_int_bool hF.out.2.symm hF.out.1.symm, (by repeat' (first | exact Below.refl _ _ | with_reducible assumption | refine bext ?_ ?_ _ | refine Below.alloc ?_ ?_ _ | refine Below.setCell ?_ ?_ _ | refine Below.drew ?_ | (simp; done) | (have hbz := hb.size; first | omega | (simp; omega)) | (simp; omega) | omega))⟩
set_option maxHeartbeats 2000000 in
theorem specFindEntry_c (v : Value) (l : List Ent) (n : Int) (w : World) (h : Sl w Ent.enc 6 v l) (hd : Ent.Deep w l) (hs : ∀ i, i < l.length → (gd l i).Fits) : Calls Tryd.prog 27 #[v, .int .i64 n] w fun e w' => e = .returned (.tuple #[.int .i64 (feV l n), .bool (feB l n)]) ∧ Below w.heap.size w w' := by
  have HA := l25Good_c v l w h hd hs
  obtain ⟨a, cap, b, off, rfl, hlc, hm, hc⟩ := id h
  have hD := Lib.hid hd
  unfold maxLen at hm
  cases hA : areEnt l
  case' true => cases hn : inB n 1 999
  case' true.true =>
    rw [hA] at HA
    replace HA := Lib.hid HA
    have hA := Lib.hid hA
    go_enter Tryd.func27, Tryd.ntmps27
    go_wp2_with (first | (go_at_call 64; refine HA.out.mono ?_; rintro e w1 ⟨rfl, hb1⟩) | (go_at_call 36; refine (l1In_c _ _ _ _).mono ?_; rintro e w' ⟨rfl, rfl⟩))
    go_loopw [6] (fun i wr => ∃ k : Nat, k ≤ l.length ∧ i = .int .i64 k ∧ Hid (∀ i, i < k → knows (gd l i) n = false) ∧ Below w.heap.size w wr) (fun i _ => l.length - (intOf i).toNat)
    case atStart => exact ⟨0, Nat.zero_le _, rfl, fun i hi => by omega, hb1⟩
    case round =>
      obtain ⟨k, hk, rfl, hall, hb⟩ := hrel
      by_cases hlt : k < l.length
      · obtain ⟨rfl, hbw, c0, c1, c2, c3, c4, c5⟩ := Ent.at (hc.mono hb) k hlt
        have hH := fun W (hB : Below w.heap.size w W) => l25Holds_c (gd l k) n W ((hD.out k hlt).mono hB)
        cases hkn : knows (gd l k) n
        · rw [hkn] at hH
          replace hH := Lib.hid hH
          replace hkn := Lib.hid hkn
          go_wp2_with (go_at_call 71; refine (hH.out _ (by repeat' (first | exact Below.refl _ _ | with_reducible assumption | refine bext ?_ ?_ _ | refine Below.alloc ?_ ?_ _ | refine Below.setCell ?_ ?_ _ | refine Below.drew ?_ | (simp; done) | (have hbz := hb.size; first | omega | (simp; omega)) | (simp; omega) | omega))).mono ?_; rintro e w' ⟨rfl, hbq⟩; obtain ⟨p, rfl⟩ := ext_of_below hbq; clear hbq)
          go_roundw
          case rel => exact ⟨k + 1, by omega, by go_num, upto_succ hall.out hkn.out, (by repeat' (first | exact Below.refl _ _ | with_reducible assumption | refine bext ?_ ?_ _ | refine Below.alloc ?_ ?_ _ | refine Below.setCell ?_ ?_ _ | refine Below.drew ?_ | (simp; done) | (have hbz := hb.size; first | omega | (simp; omega)) | (simp; omega) | omega))⟩
          case measure => simp [intOf]; omega
        · rw [hkn] at hH
          replace hH := Lib.hid hH
          have hF := Lib.hid (fe_yes hA.out hn (findTo_some (f := fun i => knows (gd l i) n) hall.out hkn hlt))
          clear hkn
          go_wp2_with (go_at_call 71; refine (hH.out _ (by repeat' (first | exact Below.refl _ _ | with_reducible assumption | refine bext ?_ ?_ _ | refine Below.alloc ?_ ?_ _ | refine Below.setCell ?_ ?_ _ | refine Below.drew ?_ | (simp; done) | (have hbz := hb.size; first | omega | (simp; omega)) | (simp; omega) | omega))).mono ?_; rintro e w' ⟨rfl, hbq⟩; obtain ⟨p, rfl⟩ := ext_of_below hbq; clear hbq)
          go_ret2
          exact ⟨ret_int_bool hF.out.2.symm hF.out.1.symm, (by repeat' (first | exact Below.refl _ _ | with_reducible assumption | refine bext ?_ ?_ _ | refine Below.alloc ?_ ?_ _ | refine Below.setCell ?_ ?_ _ | refine Below.drew ?_ | (simp; done) | (have hbz := hb.size; first | omega | (simp; omega)) | (simp; omega) | omega))⟩
      · obtain rfl : k = l.length := by omega
        have hB := Lib.hid (show feB l n = false by rw [feB, show entOf l n = none from findTo_none hall.out]; simp)
        have hV := Lib.hid (fe_no hB.out)
        go_wp2_with fail
        go_ret2
        exact ⟨ret_int_bool hV.out.symm hB.out.symm, hb⟩
  all_goals
    have hB := Lib.hid (show feB l n = false by simp [feB, *])
    have hV := Lib.hid (fe_no hB.out)
    rw [hA] at HA
    replace HA := Lib.hid HA
    clear hA
    go_enter Tryd.func27, Tryd.ntmps27
    go_wp2_with (first | (go_at_call 64; refine HA.out.mono ?_; rintro e w1 ⟨rfl, hb1⟩) | (go_at_call 36; refine (l1In_c _ _ _ _).mono ?_; rintro e w' ⟨rfl, rfl⟩))
    go_ret2
    exact ⟨ret_int_bool hV.out.symm hB.out.symm, hb1⟩
set_option maxHeartbeats 2000000 in
theorem copiesOf_c (v : Value) (l : List Ent) (w : World) (h : Sl w Ent.enc 6 v l) (hd : Ent.Deep w l) (hs : ∀ i, i < l.length → (gd l i).Fits) : Calls Tryd.prog 29 #[v] w fun e w' => e = .returned (.tuple #[.int .i64 (cpV l), .bool (areEnt l)]) ∧ Below w.heap.size w w' := by
  have HA := areEntries_c v l w h hd hs
  obtain ⟨a, cap, b, off, rfl, hlc, hm, hc⟩ := id h
  unfold maxLen at hm
  cases hA : areEnt l
  · have hV := Lib.hid (show cpV l = 0 by simp [cpV, hA])
    rw [hA] at HA
    replace HA := Lib.hid HA
    clear hA
    go_enter Tryd.func29, Tryd.ntmps29
    go_wp2_with (go_at_call 59; refine HA.out.mono ?_; rintro e w1 ⟨rfl, hb1⟩)
    go_ret2
    exact ⟨ret_int_bool hV.out.symm rfl, hb1⟩
  · have hV := Lib.hid (show cpV l = sumCt l l.length by simp [cpV, hA])
    have hS := Lib.hid (fun k hk => sumCt_b hA k hk)
    have hC := Lib.hid (fun k hk => isEnt_b (areEnt_ok hA k hk))
    have hl12 := areEnt_len hA
    rw [hA] at HA
    replace HA := Lib.hid HA
    clear hA
    go_enter Tryd.func29, Tryd.ntmps29
    go_wp2_with (go_at_call 59; refine HA.out.mono ?_; rintro e w1 ⟨rfl, hb1⟩)
    go_loopw [4, 12] (fun t i wr => ∃ k : Nat, k ≤ l.length ∧ i = .int .i64 k ∧ t = .int .i64 (sumCt l k) ∧ Below w.heap.size w wr) (fun _ i _ => l.length - (intOf i).toNat)
    case atStart => exact ⟨0, Nat.zero_le _, rfl, rfl, hb1⟩
    case round =>
      obtain ⟨k, hk, rfl, rfl, hb⟩ := hrel
      by_cases hlt : k < l.length
      · obtain ⟨rfl, hbw, c0, c1, c2, c3, c4, c5⟩ := Ent.at (hc.mono hb) k hlt
        obtain ⟨s1, s2⟩ := hS.out k hk
        obtain ⟨-, -, s3, s4, -⟩ := hC.out k hlt
        have hsum := Lib.hid (show sumCt l (k + 1) = sumCt l k + (gd l k).ct from rfl)
        go_wp2_with fail
        go_roundw
        case rel => exact ⟨k + 1, by omega, by go_num, by rw [hsum.out], (by repeat' (first | exact Below.refl _ _ | with_reducible assumption | refine bext ?_ ?_ _ | refine Below.alloc ?_ ?_ _ | refine Below.setCell ?_ ?_ _ | refine Below.drew ?_ | (simp; done) | (have hbz := hb.size; first | omega | (simp; omega)) | (simp; omega) | omega))⟩
        case measure => simp [intOf]; omega
      · obtain rfl : k = l.length := by omega
        go_wp2_with fail
        go_ret2
        exact ⟨ret_int_bool hV.out.symm rfl, hb⟩
set_option maxHeartbeats 2000000 in
theorem specCopiesOf_c (v : Value) (l : List Ent) (w : World) (h : Sl w Ent.enc 6 v l) (hd : Ent.Deep w l) (hs : ∀ i, i < l.length → (gd l i).Fits) : Calls Tryd.prog 30 #[v] w fun e w' => e = .returned (.tuple #[.int .i64 (cpV l), .bool (areEnt l)]) ∧ Below w.heap.size w w' := by
  have HA := l25Good_c v l w h hd hs
  obtain ⟨a, cap, b, off, rfl, hlc, hm, hc⟩ := id h
  unfold maxLen at hm
  cases hA : areEnt l
  · have hV := Lib.hid (show cpV l = 0 by simp [cpV, hA])
    rw [hA] at HA
    replace HA := Lib.hid HA
    clear hA
    go_enter Tryd.func30, Tryd.ntmps30
    go_wp2_with (go_at_call 64; refine HA.out.mono ?_; rintro e w1 ⟨rfl, hb1⟩)
    go_ret2
    exact ⟨ret_int_bool hV.out.symm rfl, hb1⟩
  · have hV := Lib.hid (show cpV l = sumCt l l.length by simp [cpV, hA])
    have hS := Lib.hid (fun k hk => sumCt_b hA k hk)
    have hC := Lib.hid (fun k hk => isEnt_b (areEnt_ok hA k hk))
    have hl12 := areEnt_len hA
    rw [hA] at HA
    replace HA := Lib.hid HA
    clear hA
    go_enter Tryd.func30, Tryd.ntmps30
    go_wp2_with (go_at_call 64; refine HA.out.mono ?_; rintro e w1 ⟨rfl, hb1⟩)
    go_loop [4, 5] (fun t i => ∃ k : Nat, k ≤ l.length ∧ i = .int .i64 k ∧ t = .int .i64 (sumCt l k)) (fun _ i => l.length - (intOf i).toNat)
    case atStart => exact ⟨0, Nat.zero_le _, rfl, rfl⟩
    case round =>
      obtain ⟨k, hk, rfl, rfl⟩ := hrel
      by_cases hlt : k < l.length
      · obtain ⟨rfl, hbw, c0, c1, c2, c3, c4, c5⟩ := Ent.at (hc.mono hb1) k hlt
        obtain ⟨s1, s2⟩ := hS.out k hk
        obtain ⟨-, -, s3, s4, -⟩ := hC.out k hlt
        have hsum := Lib.hid (show sumCt l (k + 1) = sumCt l k + (gd l k).ct from rfl)
        go_wp2_with fail
        go_round
        case rel => exact ⟨k + 1, by omega, by go_num, by rw [hsum.out]⟩
        case measure => simp [intOf]; omega
      · obtain rfl : k = l.length := by omega
        go_wp2_with fail
        go_ret2
        exact ⟨ret_int_bool hV.out.symm rfl, hb1⟩
end Go.Proofs.YteainpflmofjaaaDoor
