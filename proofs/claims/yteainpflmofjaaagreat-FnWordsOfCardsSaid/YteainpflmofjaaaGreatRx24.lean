/- Rare words: by the reference. No condition but sizes. -/
import Derived.Test.YteainpflmofjaaaGreatRw24
namespace Go.Proofs.YteainpflmofjaaaGreat
open Go.RowKit
theorem all_cut {l : List Crd} {i k : Nat} (hi : i < l.length) (hk : k < (gd l i).sub.length) : ∃ R, allW l = (allW (l.take i) ++ (gd l i).sub.take k) ++ [gd (gd l i).sub k] ++ R := by
  refine ⟨(gd l i).sub.drop (k + 1) ++ allW (l.drop (i + 1)), ?_⟩
  have e1 : l = l.take i ++ (gd l i :: l.drop (i + 1)) := by
    conv => lhs; rw [← List.take_append_drop i l, List.drop_eq_getElem_cons hi]
    rw [gd_get hi]
  have e2 : (gd l i).sub = (gd l i).sub.take k ++ (gd (gd l i).sub k :: (gd l i).sub.drop (k + 1)) := by
    conv => lhs; rw [← List.take_append_drop k (gd l i).sub, List.drop_eq_getElem_cons hk]
    rw [gd_get hk]
  have e3 : allW l = allW (l.take i) ++ ((gd l i).sub ++ allW (l.drop (i + 1))) := by
    have := congrArg allW e1
    rw [this]
    simp [allW, List.flatMap_append]
  have e4 := congrArg (fun s => allW (l.take i) ++ (s ++ allW (l.drop (i + 1)))) e2
  rw [e3]
  refine e4.trans ?_
  simp
/-- the rare words so far -/
def rwO (l : List Crd) (i k : Nat) : List ByteArray := sortS ((allW (l.take i) ++ (gd l i).sub.take k).filter (rareB (allW l)))
theorem rwO_zero (l : List Crd) : rwO l 0 0 = [] := by simp [rwO, allW, sortS]
theorem rwO_next {l : List Crd} {i : Nat} (hi : i < l.length) : rwO l i (gd l i).sub.length = rwO l (i + 1) 0 := by
  rw [rwO, rwO, List.take_length, allW_succ hi, List.take_zero, List.append_nil]
theorem rwO_all (l : List Crd) : rwO l l.length 0 = rwS (allW l) := by rw [rwO, List.take_length, List.take_zero, List.append_nil]; rfl
theorem rwO_yes {l : List Crd} {i k : Nat} (hi : i < l.length) (hk : k < (gd l i).sub.length) (h : rareB (allW l) (gd (gd l i).sub k) = true) : putW (gd (gd l i).sub k) (rwO l i k) = rwO l i (k + 1) := by
  obtain ⟨R, hR⟩ := all_cut hi hk
  rw [rwO, rare_push hR h, rwO, take_succ_gd hk, List.append_assoc]
theorem rwO_no {l : List Crd} {i k : Nat} (hk : k < (gd l i).sub.length) (h : rareB (allW l) (gd (gd l i).sub k) = false) : rwO l i (k + 1) = rwO l i k := by
  rw [rwO, rwO, take_succ_gd hk, ← List.append_assoc, rare_skip h]
theorem rwO_len (l : List Crd) (i k : Nat) : (rwO l i k).length ≤ (allW (l.take i)).length + (gd l i).sub.length := by
  rw [rwO, sortS_len]
  have h := List.length_filter_le (rareB (allW l)) (allW (l.take i) ++ (gd l i).sub.take k)
  rw [List.length_append, List.length_take] at h
  omega
set_option maxHeartbeats 8000000 in
set_option maxRecDepth 100000 in
theorem specRareWords_c (v : Value) (l : List Crd) (w : World) (h : Sl w Crd.enc 3 v l) (hd : Crd.Deep w l) (hs : ∀ i, i < l.length → StrE.Fits (gd l i).sub) : Calls Tryz.prog 20 #[v] w (RetSlB w 9 StrE.enc 1 (rwL l) (areCrd l)) := by
  have HA := Lib.hid (fun W (hB : Below w.heap.size w W) => l24Good_c v l W (h.mono hB) (hd.mono hB) hs)
  have HW := Lib.hid (fun i k W (hi : i < l.length) (hk : k < (gd l i).sub.length) (hB : Below w.heap.size w W) => specWordCounts_c v l (gd (gd l i).sub k) W (h.mono hB) (hd.mono hB) hs (hs i hi k hk))
  obtain ⟨a, cap, b, off, rfl, hlc, hm, hc⟩ := h
  unfold maxLen at hm
  rcases rw_way l with ⟨h1, h2⟩ | ⟨h1, h2⟩
  · rw [h1, h2]
    rw [h1] at HA
    replace HA := Lib.hid HA.out
    clear h1 h2
    go_enter Tryz.func20, Tryz.ntmps20
    go_wp2_with (go_at_call 35; refine (HA.out _ (by repeat' (first | exact Below.refl _ _ | with_reducible assumption | refine bext ?_ ?_ _ | refine Below.alloc ?_ ?_ _ | refine Below.setCell ?_ ?_ _ | refine Below.drew ?_ | (simp; done) | (have hbz := hb.size; first | omega | (simp; omega)) | (simp; omega) | omega))).mono ?_; rintro e w' ⟨rfl, hbq⟩; obtain ⟨p, rfl⟩ := ext_of_below hbq; clear hbq)
    go_ret2
    exact ⟨_, rfl, (Own.empty' (by simp) (by simp)).mono (below_ext _ _), (by repeat' (first | exact Below.refl _ _ | with_reducible assumption | refine bext ?_ ?_ _ | refine Below.alloc ?_ ?_ _ | refine Below.setCell ?_ ?_ _ | refine Below.drew ?_ | (simp; done) | (have hbz := hb.size; first | omega | (simp; omega)) | (simp; omega) | omega))⟩
  · rw [h1, h2]
    have h12 : l.length ≤ 12 := by have h1c := h1; simp [areCrd] at h1c; exact h1c.2
    have h6 : ∀ i, i < l.length → (gd l i).sub.length ≤ 6 := fun i hi => crd_six h1 i hi
    have hal := Lib.hid (allW_len h6)
    have hrc := Lib.hid (fun i k (hi : i < l.length) (hk : k < (gd l i).sub.length) => rare_wc h1 (crd_word h1 i hi k hk))
    rw [h1] at HA
    replace HA := Lib.hid HA.out
    replace hd := Lib.hid hd
    replace h6 := Lib.hid h6
    have hR := Lib.hid (rwO_all l)
    clear h1 h2
    generalize rwS (allW l) = R at hR ⊢
    go_enter Tryz.func20, Tryz.ntmps20
    go_wp2_with (go_at_call 35; refine (HA.out _ (by repeat' (first | exact Below.refl _ _ | with_reducible assumption | refine bext ?_ ?_ _ | refine Below.alloc ?_ ?_ _ | refine Below.setCell ?_ ?_ _ | refine Below.drew ?_ | (simp; done) | (have hbz := hb.size; first | omega | (simp; omega)) | (simp; omega) | omega))).mono ?_; rintro e w' ⟨rfl, hbq⟩; obtain ⟨p, rfl⟩ := ext_of_below hbq; clear hbq)
    refine wpAt fun W hW => ?_
    have BW : Below w.heap.size w W := by rw [hW]; exact (by repeat' (first | exact Below.refl _ _ | with_reducible assumption | refine bext ?_ ?_ _ | refine Below.alloc ?_ ?_ _ | refine Below.setCell ?_ ?_ _ | refine Below.drew ?_ | (simp; done) | (have hbz := hb.size; first | omega | (simp; omega)) | (simp; omega) | omega))
    have OW : Own W w.heap.size 9 StrE.enc 1 (.slice (some ⟨w.heap.size, 0, none⟩) 0 0) ([] : List ByteArray) := by rw [hW]; exact (Own.empty' (by simp) (by simp)).mono (below_ext _ _)
    clear hW HA
    generalize Value.slice (some ⟨w.heap.size, 0, none⟩) 0 0 = s0 at OW ⊢
    replace OW := Lib.hid OW
    go_loopw [4, 5, 6, 7, 8, 9] (fun o i _ _ _ _ wr => ∃ k : Nat, k ≤ l.length ∧ i = .int .i64 k ∧ Hid (Own wr w.heap.size 9 StrE.enc 1 o (rwO l k 0)) ∧ Below w.heap.size w wr) (fun _ i _ _ _ _ _ => l.length - (intOf i).toNat)
    case atStart => exact ⟨0, Nat.zero_le _, rfl, by rw [rwO_zero]; exact OW.out, BW⟩
    case round =>
      obtain ⟨i, hi, rfl, ho, hb⟩ := hrel
      obtain ⟨wo, hwo⟩ : ∃ x, x = wr := ⟨_, rfl⟩
      subst hwo
      by_cases hlt : i < l.length
      · obtain ⟨rfl, hbw, -, -, -⟩ := Crd.at (hc.mono hb) i hlt
        have hsl := h6.out i hlt
        have hle := hal.out i hi
        go_wp2_with fail
        go_loopw [4, 6, 7, 8, 9] (fun o j _ _ _ wi => ∃ k : Nat, k ≤ (gd l i).sub.length ∧ j = .int .i64 k ∧ Hid (Own wi w.heap.size 9 StrE.enc 1 o (rwO l i k)) ∧ Below w.heap.size w wi) (fun _ j _ _ _ _ => (gd l i).sub.length - (intOf j).toNat)
        case atStart => exact ⟨0, Nat.zero_le _, rfl, ho.out, hb⟩
        case round =>
        obtain ⟨k, hk, rfl, ho2, hb2⟩ := hrel
        obtain ⟨-, hbw2, -, -, c2⟩ := Crd.at (hc.mono hb2) i hlt
        by_cases hlk : k < (gd l i).sub.length
        · have hI := (hd.out i hlt).mono hb2
          obtain ⟨ax, capx, bx, ox, hvx, -, -, hcx⟩ := hI
          injection hvx with e1 e2 e3
          clear e2
          obtain ⟨hax, -, d0⟩ := StrE.at hcx k hlk
          rw [hax] at e1
          rw [e1] at c2
          clear e3 hcx
          have HW1 := HW.out i k wr hlt hlk hb2
          have hq := hrc.out i k hlt hlk
          have hY := fun h => Lib.hid (rwO_yes hlt hlk h)
          have hN := fun h => Lib.hid (rwO_no hlk h)
          have hrl := rwO_len l i k
          have hz2 := hb2.size
          clear hax e1
          generalize gd (gd l i).sub k = s at d0 HW1 hq hY hN
          cases hr : rareB (allW l) s
          · have hun := hN hr
            rw [hr] at hq
            clear hN hY hr
            generalize wcN l s = N at HW1 hq
            replace HW1 := Lib.hid HW1
            go_wp2_with fail
            refine HW1.out.mono ?_
            rintro e w3 ⟨rfl, b3⟩
            go_wp2_with fail
            go_roundw
            case rel => exact ⟨k + 1, by omega, by go_num, by rw [hun.out]; exact ho2.out.mono b3, hb2.trans (b3.mono hb2.size)⟩
            case measure => simp [intOf]; omega
          · have hun := hY hr
            rw [hr] at hq
            clear hN hY hr
            generalize wcN l s = N at HW1 hq
            replace HW1 := Lib.hid HW1
            generalize rwO l i k = X at ho2 hun hrl
            go_wp2_with fail
            refine HW1.out.mono ?_
            rintro e w3 ⟨rfl, b3⟩
            have c3 := cellOn b3 c2
            have d3 := cellOn b3 d0
            have B3 := hb2.trans (b3.mono hb2.size)
            have HP := Lib.hid (l24Put_c _ X s w3 ((ho2.out.mono b3).sl StrE.len) (by omega))
            go_wp2_with fail
            refine HP.out.mono ?_
            rintro e w4 ⟨v4, rfl, o4, b4⟩
            rw [hun.out] at o4
            have hz3 := B3.size
            replace o4 := Lib.hid (o4.lower hz3)
            have B4 := B3.trans (b4.mono hz3)
            clear hun
            go_wp2_with fail
            go_roundw
            case rel => exact ⟨k + 1, by omega, by go_num, o4.out, B4⟩
            case measure => simp [intOf]; omega
        · have hkk : k = (gd l i).sub.length := by omega
          have hun := Lib.hid (rwO_next hlt)
          rw [← hkk] at hun
          clear hkk
          go_wp2_with fail
          go_roundw
          case rel => exact ⟨i + 1, by omega, by go_num, by rw [← hun.out]; exact ho2.out, hb2⟩
          case measure => simp [intOf]; omega
      · obtain rfl : i = l.length := by omega
        go_wp2_with fail
        go_ret2
        exact ⟨_, rfl, by rw [← hR.out]; exact ho.out, hb⟩
end Go.Proofs.YteainpflmofjaaaGreat
