/- Rare words: by the program and by the reference. No condition but sizes. -/
import Derived.Test.YteainpflmofjaaaGreatRp24
namespace Go.Proofs.YteainpflmofjaaaGreat
open Go.RowKit
theorem rw_way (l : List Crd) : (areCrd l = false ∧ rwL l = []) ∨ (areCrd l = true ∧ rwL l = rwS (allW l)) := by
  unfold rwL
  cases areCrd l <;> simp
set_option maxHeartbeats 8000000 in
set_option maxRecDepth 100000 in
theorem rareWords_c (v : Value) (l : List Crd) (w : World) (h : Sl w Crd.enc 3 v l) (hd : Crd.Deep w l) (hs : ∀ i, i < l.length → StrE.Fits (gd l i).sub) : Calls Tryz.prog 19 #[v] w (RetSlB w 9 StrE.enc 1 (rwL l) (areCrd l)) := by
  have HA := Lib.hid (fun W (hB : Below w.heap.size w W) => areCards_c v l W (h.mono hB) (hd.mono hB) hs)
  obtain ⟨s', hs', hy0, hy1, hy2⟩ := info_parts (show (Tryz.prog.info? 9).map (fun i => (i.zero, i.size, i.bytes)) = some (some (.string ByteArray.empty), 1, 16) by kernel_rfl)
  obtain ⟨a, cap, b, off, rfl, hlc, hm, hc⟩ := h
  unfold maxLen at hm
  rcases rw_way l with ⟨h1, h2⟩ | ⟨h1, h2⟩
  · rw [h1, h2]
    rw [h1] at HA
    replace HA := Lib.hid HA.out
    clear h1 h2
    go_enter Tryz.func19, Tryz.ntmps19
    go_wp2_with (go_at_call 31; refine (HA.out _ (by repeat' (first | exact Below.refl _ _ | with_reducible assumption | refine bext ?_ ?_ _ | refine Below.alloc ?_ ?_ _ | refine Below.setCell ?_ ?_ _ | refine Below.drew ?_ | (simp; done) | (have hbz := hb.size; first | omega | (simp; omega)) | (simp; omega) | omega))).mono ?_; rintro e w' ⟨rfl, hbq⟩; obtain ⟨p, rfl⟩ := ext_of_below hbq; clear hbq)
    go_ret2
    exact ⟨_, rfl, Own.nil _ _ _ _ _, (by repeat' (first | exact Below.refl _ _ | with_reducible assumption | refine bext ?_ ?_ _ | refine Below.alloc ?_ ?_ _ | refine Below.setCell ?_ ?_ _ | refine Below.drew ?_ | (simp; done) | (have hbz := hb.size; first | omega | (simp; omega)) | (simp; omega) | omega))⟩
  · rw [h1, h2]
    have h12 : l.length ≤ 12 := by have h1c := h1; simp [areCrd] at h1c; exact h1c.2
    have h6 : ∀ i, i < l.length → (gd l i).sub.length ≤ 6 := fun i hi => crd_six h1 i hi
    have hal := Lib.hid (allW_len h6)
    rw [h1] at HA
    replace HA := Lib.hid HA.out
    replace hd := Lib.hid hd
    replace h6 := Lib.hid h6
    have hR := Lib.hid (nb_rare (allW l))
    have hSl := Lib.hid (sortS_len (allW l))
    clear h1 h2
    generalize rwS (allW l) = R at hR ⊢
    go_enter Tryz.func19, Tryz.ntmps19
    go_wp2_with (go_at_call 31; refine (HA.out _ (by repeat' (first | exact Below.refl _ _ | with_reducible assumption | refine bext ?_ ?_ _ | refine Below.alloc ?_ ?_ _ | refine Below.setCell ?_ ?_ _ | refine Below.drew ?_ | (simp; done) | (have hbz := hb.size; first | omega | (simp; omega)) | (simp; omega) | omega))).mono ?_; rintro e w' ⟨rfl, hbq⟩; obtain ⟨p, rfl⟩ := ext_of_below hbq; clear hbq)
    refine wpAt fun W hW => ?_
    have BW : Below w.heap.size w W := by rw [hW]; exact (by repeat' (first | exact Below.refl _ _ | with_reducible assumption | refine bext ?_ ?_ _ | refine Below.alloc ?_ ?_ _ | refine Below.setCell ?_ ?_ _ | refine Below.drew ?_ | (simp; done) | (have hbz := hb.size; first | omega | (simp; omega)) | (simp; omega) | omega))
    clear hW HA
    go_loopw [4, 7, 15] (fun o _ i wr => ∃ k : Nat, k ≤ l.length ∧ i = .int .i64 k ∧ Hid (Own wr w.heap.size 9 StrE.enc 1 o (allW (l.take k))) ∧ Below w.heap.size w wr) (fun _ _ i _ => l.length - (intOf i).toNat)
    case atStart => exact ⟨0, Nat.zero_le _, rfl, Own.nil _ _ _ _ _, BW⟩
    case round =>
      obtain ⟨k, hk, rfl, ho, hb⟩ := hrel
      by_cases hlt : k < l.length
      · obtain ⟨rfl, hbw, c0, c1, c2⟩ := Crd.at (hc.mono hb) k hlt
        have hsl := h6.out k hlt
        have hle := hal.out k hk
        have hzb := hb.size
        have A0 := below_alloc wr (.cells #[.int .i64 (gd l k).id, .int .i64 (gd l k).yr, .slice (gd l k).a (gd l k).sub.length (gd l k).cap] 60)
        have SX := Lib.hid (Sl.mono ((hd.out k hlt).mono hb) A0)
        have hun := Lib.hid (allW_succ hlt)
        have OX := Lib.hid (ho.out.mono A0)
        clear ho
        generalize allW (l.take k) = A at hle hun OX
        go_wp2_with (at_builtin; refine wpList_cat StrE.len StrE.one rfl (.tmp 19) (.tmp 21) 33 rfl w.heap.size 9 s' _ 16 Tryz.underlying33 hs' hy0 hy1 hy2 rfl (by omega) _ A rfl OX.out _ (gd l k).sub rfl SX.out (by unfold maxLen; omega) (by omega) (by simp; omega) ?_)
        intro v2 w2 o2 g2
        have B2 : Below w.heap.size w w2 := below_push (lo := w.heap.size) (B := w.heap.size) (a := w) (hb.trans (A0.mono hzb)) OX.out g2 (Nat.le_refl _) (by simp; omega)
        replace o2 := Lib.hid o2
        clear g2 SX OX
        go_wp2_with fail
        go_roundw
        case rel => exact ⟨k + 1, by omega, by go_num, by rw [hun.out]; exact o2.out, B2⟩
        case measure => simp [intOf]; omega
      · obtain rfl : k = l.length := by omega
        rw [List.take_length] at ho
        have hle := hal.out l.length (Nat.le_refl _)
        rw [List.take_length] at hle
        have HS := Lib.hid (sortStr_c _ _ _ _ ho.out (by omega))
        have hbo := ho.out.bounds
        obtain ⟨ao, co, bo, oo, rfl, -, -, -⟩ := ho.out.sl StrE.len
        go_wp2_with fail
        refine HS.out.mono ?_
        rintro e w3 ⟨rfl, o3, g3⟩
        have B3 : Below w.heap.size w w3 := hb.grown g3 hb.size (fun q hq => (hbo q hq).1)
        obtain ⟨a3, cap3, b3, off3, hv3, hlc3, hm3, hc3⟩ := o3.sl StrE.len
        injection hv3 with e1 e2 e3
        subst e1 e3
        clear e2
        have hSL := hSl.out
        generalize sortS (allW l) = S at hR hSL hlc3 hc3
        unfold maxLen at hm3
        have hSn : S.length ≤ 72 := by omega
        rw [← hSL]
        clear HS ho g3 o3 hbo hal hSL hSl
        go_wp2_with fail
        go_loopw [5, 8, 9, 28] (fun o _ _ i wr => ∃ k : Nat, k ≤ S.length ∧ i = .int .i64 k ∧ Hid (Own wr w3.heap.size 9 StrE.enc 1 o (pickG (nbP S) (gd S) k)) ∧ Hid (Below w3.heap.size w3 wr)) (fun _ _ _ i _ => S.length - (intOf i).toNat)
        case atStart => exact ⟨0, Nat.zero_le _, rfl, Own.nil _ _ _ _ _, Below.refl _ _⟩
        case round =>
        obtain ⟨k, hk, rfl, ho, hb3⟩ := hrel
        have hb2' := hb3.out
        have hze := hb2'.size
        by_cases hlt2 : k < S.length
        · obtain ⟨rfl, hbw, c0⟩ := StrE.at (hc3.mono hb2') k hlt2
          by_cases hk0 : k = 0
          · have hz0 : ((k : Int) == 0) = true := by simp [hk0]
            have hpk : (k == 0) = true := by simp [hk0]
            clear hk0
            replace hpk := Lib.hid hpk
            by_cases hla : k = S.length - 1
            · have hnb : nbP S (k) = true := by rw [nbP, hpk.out, Bool.true_or, Bool.true_and, show ((k) == S.length - 1) = true by simp [hla]]; rfl
              have hl1 : (((k : Nat) : Int) == (S.length : Int) - 1) = true := by simp; omega
              clear hla
              have hun := Lib.hid (pickG_yes (p := nbP S) (f := gd S) hnb)
              have hpl := pickG_len (nbP S) (gd S) (k)
              clear hnb
              generalize pickG (nbP S) (gd S) (k) = Q at ho hun hpl
              go_wp2_with (at_builtin; refine wpList_push StrE.len StrE.one rfl (.tmp 60) (.tmp 62) 33 rfl w3.heap.size 9 s' _ 16 Tryz.underlying33 hs' hy0 hy1 hy2 rfl (by omega) _ Q rfl (ho.out.mono (below_alloc _ _)) _ 1 (gd S (k)) rfl (fun q u hu => new_cells _ [.string (gd S (k))] _ _ (by simp) q u hu) (by unfold maxLen; omega) (by omega) (by simp; omega) ?_)
              intro v' w5 ho5 hg5
              have hb5 := below_push (lo := w3.heap.size) (B := w3.heap.size) (a := w3) (hb3.out.trans ((below_alloc _ _).mono hze)) (ho.out.mono (below_alloc _ _)) hg5 (Nat.le_refl _) (by simp; omega)
              replace ho5 := Lib.hid ho5
              go_wp2_with fail
              go_roundw
              case rel => exact ⟨k + 1, by omega, by go_num, by rw [hun.out]; exact ho5.out, hb5⟩
              case measure => simp [intOf]; omega
            · have hl1 : (((k : Nat) : Int) == (S.length : Int) - 1) = false := by simp; omega
              have hlt1 : k + 1 < S.length := by omega
              obtain ⟨-, -, n0⟩ := StrE.at (hc3.mono hb2') (k + 1) hlt1
              cases hne : ((gd S (k + 1)).toList == (gd S (k)).toList)
              · have hnb : nbP S (k) = true := by rw [nbP, hpk.out, Bool.true_or, Bool.true_and, hne]; simp
                clear hla
                have hun := Lib.hid (pickG_yes (p := nbP S) (f := gd S) hnb)
                have hpl := pickG_len (nbP S) (gd S) (k)
                clear hnb
                generalize pickG (nbP S) (gd S) (k) = Q at ho hun hpl
                go_wp2_with (at_builtin; refine wpList_push StrE.len StrE.one rfl (.tmp 60) (.tmp 62) 33 rfl w3.heap.size 9 s' _ 16 Tryz.underlying33 hs' hy0 hy1 hy2 rfl (by omega) _ Q rfl (ho.out.mono (below_alloc _ _)) _ 1 (gd S (k)) rfl (fun q u hu => new_cells _ [.string (gd S (k))] _ _ (by simp) q u hu) (by unfold maxLen; omega) (by omega) (by simp; omega) ?_)
                intro v' w5 ho5 hg5
                have hb5 := below_push (lo := w3.heap.size) (B := w3.heap.size) (a := w3) (hb3.out.trans ((below_alloc _ _).mono hze)) (ho.out.mono (below_alloc _ _)) hg5 (Nat.le_refl _) (by simp; omega)
                replace ho5 := Lib.hid ho5
                go_wp2_with fail
                go_roundw
                case rel => exact ⟨k + 1, by omega, by go_num, by rw [hun.out]; exact ho5.out, hb5⟩
                case measure => simp [intOf]; omega
              · have hnb : nbP S (k) = false := by rw [nbP, hpk.out, Bool.true_or, Bool.true_and, hne, show ((k) == S.length - 1) = false by simp; omega]; rfl
                clear hla
                have hun := Lib.hid (pickG_no (p := nbP S) (f := gd S) hnb)
                clear hnb
                go_wp2_with fail
                go_roundw
                case rel => exact ⟨k + 1, by omega, by go_num, by rw [hun.out]; exact ho.out, hb3.out⟩
                case measure => simp [intOf]; omega
          · obtain ⟨j, rfl⟩ : ∃ j, k = j + 1 := ⟨k - 1, by omega⟩
            have hj0 : (((j + 1 : Nat) : Int) == 0) = false := by simp; omega
            obtain ⟨-, -, m0⟩ := StrE.at (hc3.mono hb2') j (by omega)
            cases hpe : ((gd S j).toList == (gd S (j + 1)).toList)
            · have hfst : ((j + 1 == 0) || !((gd S (j + 1 - 1)).toList == (gd S (j + 1)).toList)) = true := by rw [Nat.add_sub_cancel, hpe]; simp
              by_cases hla : j + 1 = S.length - 1
              · have hnb : nbP S (j + 1) = true := by rw [nbP, hfst, Bool.true_and, show ((j + 1) == S.length - 1) = true by simp [hla]]; rfl
                have hl1 : (((j + 1 : Nat) : Int) == (S.length : Int) - 1) = true := by simp; omega
                have hl2 : ((j : Int) + 1 == (S.length : Int) - 1) = true := by simp; omega
                clear hla
                have hun := Lib.hid (pickG_yes (p := nbP S) (f := gd S) hnb)
                have hpl := pickG_len (nbP S) (gd S) (j + 1)
                clear hnb
                generalize pickG (nbP S) (gd S) (j + 1) = Q at ho hun hpl
                go_wp2_with (at_builtin; refine wpList_push StrE.len StrE.one rfl (.tmp 60) (.tmp 62) 33 rfl w3.heap.size 9 s' _ 16 Tryz.underlying33 hs' hy0 hy1 hy2 rfl (by omega) _ Q rfl (ho.out.mono (below_alloc _ _)) _ 1 (gd S (j + 1)) rfl (fun q u hu => new_cells _ [.string (gd S (j + 1))] _ _ (by simp) q u hu) (by unfold maxLen; omega) (by omega) (by simp; omega) ?_)
                intro v' w5 ho5 hg5
                have hb5 := below_push (lo := w3.heap.size) (B := w3.heap.size) (a := w3) (hb3.out.trans ((below_alloc _ _).mono hze)) (ho.out.mono (below_alloc _ _)) hg5 (Nat.le_refl _) (by simp; omega)
                replace ho5 := Lib.hid ho5
                go_wp2_with fail
                go_roundw
                case rel => exact ⟨j + 1 + 1, by omega, by go_num, by rw [hun.out]; exact ho5.out, hb5⟩
                case measure => simp [intOf]; omega
              · have hl1 : (((j + 1 : Nat) : Int) == (S.length : Int) - 1) = false := by simp; omega
                have hl2 : ((j : Int) + 1 == (S.length : Int) - 1) = false := by simp; omega
                have hlt1 : j + 1 + 1 < S.length := by omega
                obtain ⟨-, -, n0⟩ := StrE.at (hc3.mono hb2') (j + 1 + 1) hlt1
                cases hne : ((gd S (j + 1 + 1)).toList == (gd S (j + 1)).toList)
                · have hnb : nbP S (j + 1) = true := by rw [nbP, hfst, Bool.true_and, hne]; simp
                  clear hla
                  have hun := Lib.hid (pickG_yes (p := nbP S) (f := gd S) hnb)
                  have hpl := pickG_len (nbP S) (gd S) (j + 1)
                  clear hnb
                  generalize pickG (nbP S) (gd S) (j + 1) = Q at ho hun hpl
                  go_wp2_with (at_builtin; refine wpList_push StrE.len StrE.one rfl (.tmp 60) (.tmp 62) 33 rfl w3.heap.size 9 s' _ 16 Tryz.underlying33 hs' hy0 hy1 hy2 rfl (by omega) _ Q rfl (ho.out.mono (below_alloc _ _)) _ 1 (gd S (j + 1)) rfl (fun q u hu => new_cells _ [.string (gd S (j + 1))] _ _ (by simp) q u hu) (by unfold maxLen; omega) (by omega) (by simp; omega) ?_)
                  intro v' w5 ho5 hg5
                  have hb5 := below_push (lo := w3.heap.size) (B := w3.heap.size) (a := w3) (hb3.out.trans ((below_alloc _ _).mono hze)) (ho.out.mono (below_alloc _ _)) hg5 (Nat.le_refl _) (by simp; omega)
                  replace ho5 := Lib.hid ho5
                  go_wp2_with fail
                  go_roundw
                  case rel => exact ⟨j + 1 + 1, by omega, by go_num, by rw [hun.out]; exact ho5.out, hb5⟩
                  case measure => simp [intOf]; omega
                · have hnb : nbP S (j + 1) = false := by rw [nbP, hfst, Bool.true_and, hne, show ((j + 1) == S.length - 1) = false by simp; omega]; rfl
                  clear hla
                  have hun := Lib.hid (pickG_no (p := nbP S) (f := gd S) hnb)
                  clear hnb
                  go_wp2_with fail
                  go_roundw
                  case rel => exact ⟨j + 1 + 1, by omega, by go_num, by rw [hun.out]; exact ho.out, hb3.out⟩
                  case measure => simp [intOf]; omega
            · have hnb : nbP S (j + 1) = false := by rw [nbP, Nat.add_sub_cancel, hpe, show (j + 1 == 0) = false from rfl]; rfl
              have hun := Lib.hid (pickG_no (p := nbP S) (f := gd S) hnb)
              clear hnb
              go_wp2_with fail
              go_roundw
              case rel => exact ⟨j + 1 + 1, by omega, by go_num, by rw [hun.out]; exact ho.out, hb3.out⟩
              case measure => simp [intOf]; omega
        · have hks : k = S.length := by omega
          have hR2 := Lib.hid (show pickG (nbP S) (gd S) k = R by rw [hks]; exact hR.out)
          go_wp2_with fail
          go_ret2
          exact ⟨_, rfl, by rw [← hR2.out]; exact ho.out.lower B3.size, btrans B3 hb3.out⟩
end Go.Proofs.YteainpflmofjaaaGreat
