/- Headings: what a list of headings is, by the reference. No condition but sizes. -/
import Derived.Test.YtbkkaibjenofiaaHv23
namespace Go.Proofs.Ytbkkaibjenofiaa
open Go.RowKit
set_option maxHeartbeats 400000 in
theorem l23Find_c (v : Value) (l : List Hdg) (n : Int) (w : World) (h : Sl w Hdg.enc 4 v l) : Calls Try.prog 55 #[v, .int .i64 n] w fun e w' => e = .returned (.int .i64 (idxInt (hdIdx l n))) ∧ w = w' := by
  obtain ⟨a, cap, b, off, rfl, hlc, hm, hc⟩ := h
  unfold maxLen at hm
  go_enter Try.func55, Try.ntmps55
  go_wp2_with fail
  go_loop [5] (fun i => ∃ k : Nat, k ≤ l.length ∧ i = .int .i64 k ∧ Hid (∀ i, i < k → ((gd l i).id == n) = false)) (fun i => l.length - (intOf i).toNat)
  case atStart => exact ⟨0, Nat.zero_le _, rfl, fun i hi => by omega⟩
  case round =>
    obtain ⟨k, hk, rfl, hall⟩ := hrel
    by_cases hlt : k < l.length
    · obtain ⟨rfl, hbw, c0, c1, c2, c3⟩ := Hdg.at hc k hlt
      by_cases hq : (gd l k).id = n
      · have ho := Lib.hid (show ((gd l k).id == n) = true by simp [hq])
        go_wp2_with fail
        go_ret
        exact ⟨ret_int (by unfold hdIdx; rw [findTo_some (f := fun i => (gd l i).id == n) hall.out ho.out hlt]; rfl), rfl⟩
      · have ho := Lib.hid (show ((gd l k).id == n) = false by simp [hq])
        go_wp2_with fail
        go_round
        case rel => exact ⟨k + 1, by omega, by go_num, upto_succ hall.out ho.out⟩
        case measure => simp [intOf]; omega
    · obtain rfl : k = l.length := by omega
      go_wp2_with fail
      go_ret
      exact ⟨ret_int (by unfold hdIdx; rw [findTo_none hall.out]; rfl), rfl⟩
def subOk (l : List Hdg) (k : Nat) : Bool := allTo (fun i => inB (gd (gd l k).sub i) 1 99 && riseAt (gd l k).sub i) (gd l k).sub.length
def hd5 (l : List Hdg) (k : Nat) : Bool := hdHead l k && decide ((gd l k).sub.length ≤ 4) && subOk l k && !hasI (gd l k).sub (gd l k).id
def hd7 (l : List Hdg) (k : Nat) : Bool := (gd l k).un == 0 || (decide ((gd l k).un < (gd l k).id) && (hdIdx l (gd l k).un).isSome)
def seeOk (l : List Hdg) (k j : Nat) : Bool := (hdIdx l (gd (gd l k).sub j)).isSome
theorem hdS_eq (l : List Hdg) (k : Nat) : hdS l k = (hd5 l k && hd7 l k && allTo (seeOk l k) (gd l k).sub.length && !(findTo (sameAt l k) k).isSome) := rfl
theorem areHdS_no {l : List Hdg} (k : Nat) (hk : k < l.length) (h : hdS l k = false) : areHd l = false := by rw [areHd_spec]; simp [allTo_false k hk h]
theorem hdS_no5 {l : List Hdg} {k : Nat} (hk : k < l.length) (h : hd5 l k = false) : areHd l = false := areHdS_no k hk (by rw [hdS_eq, h]; rfl)
theorem hdS_no7 {l : List Hdg} {k : Nat} (hk : k < l.length) (h : hd7 l k = false) : areHd l = false := areHdS_no k hk (by rw [hdS_eq, h]; simp)
theorem hdS_noS {l : List Hdg} {k : Nat} (hk : k < l.length) (j : Nat) (hj : j < (gd l k).sub.length) (h : seeOk l k j = false) : areHd l = false := areHdS_no k hk (by rw [hdS_eq, allTo_false (f := seeOk l k) j hj h]; simp)
theorem hdS_noT {l : List Hdg} {k : Nat} (hk : k < l.length) (i : Nat) (hall : ∀ n, n < i → sameAt l k n = false) (hi : i < k) (h : sameAt l k i = true) : areHd l = false := areHdS_no k hk (by rw [hdS_eq, findTo_some (f := sameAt l k) hall h hi]; simp)
theorem areHdS_end {l : List Hdg} (h : ∀ i, i < l.length → hdS l i = true) : areHd l = decide (l.length ≤ 15) := by rw [areHd_spec]; simp [allTo_true h]
theorem areHd_long {l : List Hdg} (h : ¬ l.length ≤ 15) : areHd l = false := by simp [areHd, h]
theorem s5_ways (l : List Hdg) (k : Nat) (h0 : hdHead l k = true) : (decide ((4 : Int) < ((gd l k).sub.length : Int)) = true ∧ Hid (hd5 l k = false)) ∨ (decide ((4 : Int) < ((gd l k).sub.length : Int)) = false ∧ subOk l k = false ∧ Hid (hd5 l k = false)) ∨
    (decide ((4 : Int) < ((gd l k).sub.length : Int)) = false ∧ subOk l k = true ∧ hasI (gd l k).sub (gd l k).id = true ∧ Hid (hd5 l k = false)) ∨ (decide ((4 : Int) < ((gd l k).sub.length : Int)) = false ∧ subOk l k = true ∧ hasI (gd l k).sub (gd l k).id = false ∧ Hid (hd5 l k = true)) := by
  have h4 : decide ((gd l k).sub.length ≤ 4) = !decide ((4 : Int) < ((gd l k).sub.length : Int)) := by rw [Bool.eq_iff_iff]; simp; omega
  unfold Hid hd5
  rw [h4, h0]
  cases decide ((4 : Int) < ((gd l k).sub.length : Int)) <;> cases subOk l k <;> cases hasI (gd l k).sub (gd l k).id <;> simp
theorem s7_ways (l : List Hdg) (k : Nat) : (((gd l k).un != 0) = false ∧ Hid (hd7 l k = true)) ∨ (((gd l k).un != 0) = true ∧ decide ((gd l k).id ≤ (gd l k).un) = true ∧ Hid (hd7 l k = false)) ∨
    (((gd l k).un != 0) = true ∧ decide ((gd l k).id ≤ (gd l k).un) = false ∧ idxInt (hdIdx l (gd l k).un) < 0 ∧ Hid (hd7 l k = false)) ∨ (((gd l k).un != 0) = true ∧ decide ((gd l k).id ≤ (gd l k).un) = false ∧ ¬ idxInt (hdIdx l (gd l k).un) < 0 ∧ Hid (hd7 l k = true)) := by
  unfold Hid hd7
  by_cases hu : (gd l k).un = 0
  · exact .inl ⟨by simp [hu], by simp [hu]⟩
  · by_cases hl : (gd l k).un < (gd l k).id
    · rcases hd_way (l := l) (n := (gd l k).un) with ⟨h1, h2⟩ | ⟨h1, h2⟩
      · exact .inr (.inr (.inl ⟨by simp [hu], by simp; omega, h2, by simp [hu, h1]⟩))
      · exact .inr (.inr (.inr ⟨by simp [hu], by simp; omega, h2, by simp [hl, h1]⟩))
    · exact .inr (.inl ⟨by simp [hu], by simp; omega, by simp [hu, hl]⟩)
set_option maxHeartbeats 4000000 in
set_option maxRecDepth 100000 in
theorem l23Good_c (v : Value) (l : List Hdg) (w : World) (h : Sl w Hdg.enc 4 v l) (hd : Hdg.Deep w l) (hs : ∀ i, i < l.length → (gd l i).Fits) : Calls Try.prog 54 #[v] w fun e w' => e = .returned (.bool (areHd l)) ∧ Below w.heap.size w w' := by
  have HS := Lib.hid h
  obtain ⟨a, cap, b, off, rfl, hlc, hm, hc⟩ := h
  have hD := Lib.hid hd
  clear hd
  unfold maxLen at hm
  go_enter Try.func54, Try.ntmps54
  go_wp2_with fail
  go_loopw [3] (fun i wr => ∃ k : Nat, k ≤ l.length ∧ i = .int .i64 k ∧ Hid (∀ i, i < k → hdS l i = true) ∧ Below w.heap.size w wr) (fun i _ => l.length - (intOf i).toNat)
  case atStart => exact ⟨0, Nat.zero_le _, rfl, fun i hi => by omega, Below.refl _ _⟩
  case round =>
    obtain ⟨k, hk, rfl, hall, hb⟩ := hrel
    by_cases hlt : k < l.length
    · by_cases h15 : (k : Int) ≤ 15
      · obtain ⟨rfl, hbw, c0, c1, c2, c3⟩ := Hdg.at (hc.mono hb) k hlt
        have d0 := fun (h0 : 0 < k) => (Hdg.at (hc.mono hb) (k - 1) (by omega)).2.2.1
        have hF := hs k hlt
        have hW := Lib.hid (fun W => l2Word_c (gd l k).nm W hF.1)
        have hR := fun W (hB : Below wr.heap.size wr W) => l1Rising_c (.slice (gd l k).a (gd l k).sub.length (gd l k).cap) (gd l k).sub 1 99 W (Sl.mono (hD.out k hlt) (hb.trans (hB.mono hb.size)))
        have hX := fun W (hB : Below wr.heap.size wr W) => l1Has_c (.slice (gd l k).a (gd l k).sub.length (gd l k).cap) (gd l k).sub (gd l k).id W (Sl.mono (hD.out k hlt) (hb.trans (hB.mono hb.size)))
        rw [show allTo (fun i => inB (gd (gd l k).sub i) 1 99 && riseAt (gd l k).sub i) (gd l k).sub.length = subOk l k from rfl] at hR
        rcases hd_ways l k with ⟨h1, ho⟩ | ⟨h1, h2, ho⟩ | ⟨h1, h2, h0, ho⟩ | ⟨h1, h2, h0, h3, ho⟩ | ⟨h1, h2, h0, h3, ho⟩
        case' inr.inr.inl => rcases s5_ways l k ho.out with ⟨s1, so⟩ | ⟨s1, s2, so⟩ | ⟨s1, s2, s3, so⟩ | ⟨s1, s2, s3, so⟩
        case' inr.inr.inr.inl => rcases s5_ways l k ho.out with ⟨s1, so⟩ | ⟨s1, s2, so⟩ | ⟨s1, s2, s3, so⟩ | ⟨s1, s2, s3, so⟩
        all_goals
          try rw [s2] at hR
          try rw [s3] at hX
          replace hR := Lib.hid hR
          replace hX := Lib.hid hX
          go_wp2_with fail
          refine wp_region_ext (by kernel_rfl) (by kernel_rfl) ?_
          repeat (any_goals (first | go_big_quiet_step ((first | (go_at_call 81; exact Calls.ext_same (l1In_c _ _ _ _)) | (go_at_call 102; exact Calls.ext_same (hW.out _)) | (go_at_call 103; exact Calls.ext_of (hR.out _ (by repeat' (first | exact Below.refl _ _ | with_reducible assumption | refine bext ?_ ?_ _ | refine Below.alloc ?_ ?_ _ | refine Below.setCell ?_ ?_ _ | refine Below.drew ?_ | (simp; done) | (have hbz := hb.size; first | omega | (simp; omega)) | (simp; omega) | omega)))) | (go_at_call 65; exact Calls.ext_same (hX.out _ (by repeat' (first | exact Below.refl _ _ | with_reducible assumption | refine bext ?_ ?_ _ | refine Below.alloc ?_ ?_ _ | refine Below.setCell ?_ ?_ _ | refine Below.drew ?_ | (simp; done) | (have hbz := hb.size; first | omega | (simp; omega)) | (simp; omega) | omega))))))))
          (refine wpQuiet_nil ?_)
          (rintro _ ⟨q, rfl⟩)
        all_goals try
          (go_wp2_with fail
           go_ret
           exact ⟨ret_bool (hdS_no5 hlt (by first | exact so.out | (rw [hd5, ho.out]; rfl))).symm, (by repeat' (first | exact Below.refl _ _ | with_reducible assumption | refine bext ?_ ?_ _ | refine Below.alloc ?_ ?_ _ | refine Below.setCell ?_ ?_ _ | refine Below.drew ?_ | (simp; done) | (have hbz := hb.size; first | omega | (simp; omega)) | (simp; omega) | omega))⟩)
        all_goals
          generalize e2 : ext (wr.alloc _) q = W2
          have hb2 : Below wr.heap.size wr W2 := by rw [← e2]; exact (by repeat' (first | exact Below.refl _ _ | with_reducible assumption | refine bext ?_ ?_ _ | refine Below.alloc ?_ ?_ _ | refine Below.setCell ?_ ?_ _ | refine Below.drew ?_ | (simp; done) | (have hbz := hb.size; first | omega | (simp; omega)) | (simp; omega) | omega))
          have z0 : W2.cell? ⟨wr.heap.size, 0, none⟩ = some (.int .i64 (gd l k).id) := by rw [← e2]; simp [go_sem]
          have z1 : W2.cell? ⟨wr.heap.size, 1, none⟩ = some (.string (gd l k).nm) := by rw [← e2]; simp [go_sem]
          have z2 : W2.cell? ⟨wr.heap.size, 2, none⟩ = some (.int .i64 (gd l k).un) := by rw [← e2]; simp [go_sem]
          have z3 : W2.cell? ⟨wr.heap.size, 3, none⟩ = some (.slice (gd l k).a (gd l k).sub.length (gd l k).cap) := by rw [← e2]; simp [go_sem]
          have hsz2 : wr.heap.size < W2.heap.size := block_lt_of_cell z0
          have hw2 : Below w.heap.size w W2 := hb.trans (hb2.mono hb.size)
          have hlo : w.heap.size ≤ W2.heap.size := hw2.size
          clear e2 c0 c1 c2 c3 d0 hW hR hX
          generalize wr.heap.size = hbk at hbw hb2 z0 z1 z2 z3 hsz2 ⊢
          clear hb2
          obtain ⟨sb, so, hsl, hsm, hsc⟩ := Hdg.at' (hD.out k hlt)
          unfold maxLen at hsm
          generalize (gd l k).a = xa at hsc z3 ⊢
          have hT := fun n W (hB : Below w.heap.size w W) => l23Find_c _ l n W (HS.out.mono hB)
          have hTu := hT (gd l k).un
          have h7 := s7_ways l k
          generalize idxInt (hdIdx l (gd l k).un) = r at hTu h7
          replace hTu := Lib.hid hTu
          rcases h7 with ⟨m1, mo⟩ | ⟨m1, m2, mo⟩ | ⟨m1, m2, m3, mo⟩ | ⟨m1, m2, m3, mo⟩
        all_goals
          go_wp2_with (go_at_call 55; refine (hTu.out _ hw2).mono ?_; rintro e w' ⟨rfl, rfl⟩)
        all_goals try
          (go_ret
           exact ⟨ret_bool (hdS_no7 hlt mo.out).symm, hw2⟩)
        all_goals
          clear hTu h1 h2 h0 s1 s2 s3 m1
          try clear h3
          try clear m3
          try clear m2
          replace hT := Lib.hid hT
          go_loopw [5] (fun i wp => ∃ j : Nat, j ≤ (gd l k).sub.length ∧ i = .int .i64 j ∧ Hid (∀ n, n < j → seeOk l k n = true) ∧ W2 = wp) (fun i _ => (gd l k).sub.length - (intOf i).toNat)
          case atStart => exact ⟨0, Nat.zero_le _, rfl, fun i hi => by omega, rfl⟩
          case round =>
            obtain ⟨j, hj, rfl, hjall, rfl⟩ := hrel
            by_cases hjl : j < (gd l k).sub.length
            · obtain ⟨rfl, hbs, g0⟩ := IntE.at (hsc.mono hw2) j hjl
              have hT2 := fun W hB => hT.out (gd (gd l k).sub j) W hB
              have hsee : seeOk l k j = (hdIdx l (gd (gd l k).sub j)).isSome := rfl
              rcases hd_way (l := l) (n := gd (gd l k).sub j) with ⟨v1, v2⟩ | ⟨v1, v2⟩
              · have hno := Lib.hid (hdS_noS hlt j hjl (by rw [hsee, v1]; rfl))
                clear hsee v1
                generalize idxInt (hdIdx l (gd (gd l k).sub j)) = r2 at hT2 v2
                replace hT2 := Lib.hid hT2
                go_wp2_with (go_at_call 55; refine (hT2.out _ hw2).mono ?_; rintro e w' ⟨rfl, rfl⟩)
                go_ret
                exact ⟨ret_bool hno.out.symm, hw2⟩
              · have hno := Lib.hid (hsee.trans v1)
                clear hsee v1
                generalize idxInt (hdIdx l (gd (gd l k).sub j)) = r2 at hT2 v2
                replace hT2 := Lib.hid hT2
                go_wp2_with (go_at_call 55; refine (hT2.out _ hw2).mono ?_; rintro e w' ⟨rfl, rfl⟩)
                go_roundw
                case rel => exact ⟨j + 1, by omega, by go_num, upto_succ (f := seeOk l k) hjall.out hno.out, by trivial⟩
                case measure => simp [intOf]; omega
            · obtain rfl : j = (gd l k).sub.length := by omega
              have hsub := Lib.hid (allTo_true (f := seeOk l k) hjall.out)
              go_wp2_with fail
              go_loopw [6] (fun i wq => ∃ j : Nat, j ≤ k ∧ i = .int .i64 j ∧ Hid (∀ n, n < j → sameAt l k n = false) ∧ Below W2.heap.size W2 wq) (fun i _ => k - (intOf i).toNat)
              case atStart => exact ⟨0, Nat.zero_le _, rfl, fun i hi => by omega, Below.refl _ _⟩
              case round =>
                obtain ⟨j, hj, rfl, hjall2, hbq⟩ := hrel
                have hzq := hbq.size
                have hb5 := hw2.trans (hbq.mono hlo)
                have hz5 := hb5.size
                have hsz6 := Nat.lt_of_lt_of_le hsz2 hbq.size
                by_cases hjl : j < k
                · obtain ⟨-, hbs, g0, g1, g2, g3⟩ := Hdg.at (hc.mono (hw2.trans (hbq.mono hlo))) j (by omega)
                  have y1 := (hbq.cell (p := ⟨hbk, 1, none⟩) hsz2).trans z1
                  have y2 := (hbq.cell (p := ⟨hbk, 2, none⟩) hsz2).trans z2
                  have hsm2 : sameAt l k j = ((gd l j).un == (gd l k).un && (gd l j).nm.toList == (gd l k).nm.toList) := rfl
                  cases hu : ((gd l j).un == (gd l k).un)
                  · have hno := Lib.hid (show sameAt l k j = false by rw [hsm2, hu]; rfl)
                    clear hsm2
                    go_wp2_with fail
                    refine wp_region_ext (by kernel_rfl) (by kernel_rfl) ?_
                    repeat (any_goals (first | go_big_quiet_step (fail)))
                    (refine wpQuiet_nil ?_)
                    (rintro _ ⟨q, rfl⟩)
                    go_wp2_with fail
                    go_roundw
                    case rel => exact ⟨j + 1, by omega, by go_num, upto_succ hjall2.out hno.out, (by repeat' (first | exact Below.refl _ _ | with_reducible assumption | refine bext ?_ ?_ _ | refine Below.alloc ?_ ?_ _ | refine Below.setCell ?_ ?_ _ | refine Below.drew ?_ | (simp; done) | (have hbz := hb.size; first | omega | (simp; omega)) | (simp; omega) | omega))⟩
                    case measure => simp [intOf]; omega
                  · cases hn : ((gd l j).nm.toList == (gd l k).nm.toList)
                    · have hno := Lib.hid (show sameAt l k j = false by rw [hsm2, hu, hn]; rfl)
                      clear hsm2
                      go_wp2_with fail
                      refine wp_region_ext (by kernel_rfl) (by kernel_rfl) ?_
                      repeat (any_goals (first | go_big_quiet_step (fail)))
                      (refine wpQuiet_nil ?_)
                      (rintro _ ⟨q, rfl⟩)
                      go_wp2_with fail
                      go_roundw
                      case rel => exact ⟨j + 1, by omega, by go_num, upto_succ hjall2.out hno.out, (by repeat' (first | exact Below.refl _ _ | with_reducible assumption | refine bext ?_ ?_ _ | refine Below.alloc ?_ ?_ _ | refine Below.setCell ?_ ?_ _ | refine Below.drew ?_ | (simp; done) | (have hbz := hb.size; first | omega | (simp; omega)) | (simp; omega) | omega))⟩
                      case measure => simp [intOf]; omega
                    · have hno := Lib.hid (hdS_noT hlt j hjall2.out hjl (by rw [hsm2, hu, hn]; rfl))
                      clear hsm2
                      go_wp2_with fail
                      refine wp_region_ext (by kernel_rfl) (by kernel_rfl) ?_
                      repeat (any_goals (first | go_big_quiet_step (fail)))
                      (refine wpQuiet_nil ?_)
                      (rintro _ ⟨q, rfl⟩)
                      go_wp2_with fail
                      go_ret
                      exact ⟨ret_bool hno.out.symm, (by repeat' (first | exact Below.refl _ _ | with_reducible assumption | refine bext ?_ ?_ _ | refine Below.alloc ?_ ?_ _ | refine Below.setCell ?_ ?_ _ | refine Below.drew ?_ | (simp; done) | (have hbz := hb.size; first | omega | (simp; omega)) | (simp; omega) | omega))⟩
                · obtain rfl : j = k := by omega
                  have hok := Lib.hid (show hdS l j = true by rw [hdS_eq, so.out, mo.out, hsub.out, findTo_none hjall2.out]; rfl)
                  go_wp2_with fail
                  go_roundw
                  case rel => exact ⟨j + 1, by omega, by go_num, upto_succ hall.out hok.out, hw2.trans (hbq.mono hlo)⟩
                  case measure => simp [intOf]; omega
      · have hno := Lib.hid (areHd_long (l := l) (by omega))
        have hgt : ¬ (l.length : Int) ≤ 15 := by omega
        go_wp2_with fail
        go_ret
        exact ⟨ret_bool (by first | exact hno.out.symm | (rw [hno.out]; simp; omega)), (by repeat' (first | exact Below.refl _ _ | with_reducible assumption | refine bext ?_ ?_ _ | refine Below.alloc ?_ ?_ _ | refine Below.setCell ?_ ?_ _ | refine Below.drew ?_ | (simp; done) | (have hbz := hb.size; first | omega | (simp; omega)) | (simp; omega) | omega))⟩
    · obtain rfl : k = l.length := by omega
      have he := Lib.hid (areHdS_end hall.out)
      go_wp2_with fail
      go_ret
      exact ⟨ret_bool (by rw [he.out]; first | rfl | (rw [Bool.eq_iff_iff]; simp; omega)), hb⟩
end Go.Proofs.Ytbkkaibjenofiaa
