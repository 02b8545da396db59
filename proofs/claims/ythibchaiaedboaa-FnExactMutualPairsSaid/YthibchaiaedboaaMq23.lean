/- Headings: the pairs that refer to each other, by the program. No condition but what a slice may hold. -/
import Derived.Test.YthibchaiaedboaaMp23
import Derived.Test.YthibchaiaedboaaHw23
import Derived.Test.YthibchaiaedboaaFind
import Derived.Outline
import Derived.Deep.Cut
namespace Go.Proofs.Ythibchaiaedboaa
open Go.RowKit
theorem mutAt_same {l l' : List Hdg} (h : l'.map Hdg.bare = l.map Hdg.bare) (i k : Nat) (hi : i < l.length) (hk : k < l.length) : mutAt l' i k = mutAt l i k := by
  have h1 := Hdg.sub_eq (map_same_at h i hi).2
  have h2 := Hdg.sub_eq (map_same_at h k hk).2
  unfold mutAt
  rw [h1.1, h1.2.2.2, h2.1, h2.2.2.2]
theorem mpTo_same {l l' : List Hdg} (h : l'.map Hdg.bare = l.map Hdg.bare) : ∀ i, i ≤ l.length → mpTo l' i = mpTo l i
  | 0, _ => rfl
  | i + 1, hi => by
    have e : l'.length = l.length := by simpa using congrArg List.length h
    rw [mpTo, mpTo, mpTo_same h i (by omega), e]
    congr 1
    refine selTo_congr fun j hj => ⟨mutAt_same h _ _ (by omega) (by omega), ?_⟩
    rw [(Hdg.sub_eq (map_same_at h i (by omega)).2).1, (Hdg.sub_eq (map_same_at h (i + 1 + j) (by omega)).2).1]
theorem mp_same {l l' : List Hdg} (h : l'.map Hdg.bare = l.map Hdg.bare) : mpR l' = mpR l ∧ areHd l' = areHd l := by
  have e : l'.length = l.length := by simpa using congrArg List.length h
  have hA := areHd_same h
  refine ⟨?_, hA⟩
  unfold mpR
  rw [hA, e, mpTo_same h _ (Nat.le_refl _)]
theorem mpB_bound (l : List Hdg) : (mpR l).length ≤ 1048577 ∧ ∀ x, x ∈ mpR l → x.length ≤ 1048577 := ⟨mpR_len l, fun x hx => by rw [mpR_two hx]; omega⟩
set_option maxHeartbeats 8000000 in
set_option maxRecDepth 100000 in
theorem mutualPairs_c (v : Value) (l : List Hdg) (w : World) (h : Sl w Hdg.enc 4 v l) (hd : Hdg.Deep w l) (hs : ∀ i, i < l.length → (gd l i).Fits) : Calls Try.prog 50 #[v] w (RetGrid w (mpR l) (areHd l)) := by
  obtain ⟨i0, hi, hz0, hz1, hz2⟩ := info_parts (show (Try.prog.info? 49).map (fun i => (i.zero, i.size, i.bytes)) = some (some (.slice none 0 0), 1, 24) by kernel_rfl)
  have HA := Lib.hid (fun W (hb : Below w.heap.size w W) => areHeadings_c v l W (h.mono hb) (hd.mono hb) hs)
  have hD := Lib.hid hd
  clear hd
  obtain ⟨a, cap, b, off, rfl, hlc, hm, hc⟩ := id h
  unfold maxLen at hm
  cases hA : areHd l
  · have hE := Lib.hid (mpR_no hA)
    rw [hA] at HA
    clear hA
    go_enter Try.func50, Try.ntmps50
    go_wp2_with (go_at_call 75; refine (HA.out _ (by repeat' (first | exact Below.refl _ _ | with_reducible assumption | refine bext ?_ ?_ _ | refine Below.alloc ?_ ?_ _ | refine Below.setCell ?_ ?_ _ | refine Below.drew ?_ | (simp; done) | (have hbz := hb.size; first | omega | (simp; omega)) | (simp; omega) | omega))).mono ?_; rintro e w' ⟨rfl, hbq⟩; obtain ⟨p, rfl⟩ := ext_of_below hbq; clear hbq)
    go_ret2
    rw [hE.out]
    exact ⟨_, [], rfl, NOwn.nil _ _ _, rfl, (by repeat' (first | exact Below.refl _ _ | with_reducible assumption | refine bext ?_ ?_ _ | refine Below.alloc ?_ ?_ _ | refine Below.setCell ?_ ?_ _ | refine Below.drew ?_ | (simp; done) | (have hbz := hb.size; first | omega | (simp; omega)) | (simp; omega) | omega))⟩
  · have hE := Lib.hid (mpR_yes hA)
    have h15 := areHd_len hA
    have HT := Lib.hid hA
    rw [hA] at HA
    clear hA
    go_enter Try.func50, Try.ntmps50
    go_wp2_with (go_at_call 75; refine (HA.out _ (by repeat' (first | exact Below.refl _ _ | with_reducible assumption | refine bext ?_ ?_ _ | refine Below.alloc ?_ ?_ _ | refine Below.setCell ?_ ?_ _ | refine Below.drew ?_ | (simp; done) | (have hbz := hb.size; first | omega | (simp; omega)) | (simp; omega) | omega))).mono ?_; rintro e w' ⟨rfl, hbq⟩; obtain ⟨p, rfl⟩ := ext_of_below hbq; clear hbq)
    go_loopw [4, 14] (fun o vi wr => ∃ (i : Nat) (l' : List Rw), i ≤ l.length ∧ vi = .int .i64 i ∧ Hid (l'.map Rw.sub = mpTo l i) ∧ Hid (Rw.OwnN wr w.heap.size wr.heap.size o l') ∧ Below w.heap.size w wr) (fun _ vi _ => l.length - (intOf vi).toNat)
    case atStart => exact ⟨0, [], Nat.zero_le _, rfl, Lib.hid rfl, Lib.hid (NOwn.nil _ _ _), (by repeat' (first | exact Below.refl _ _ | with_reducible assumption | refine bext ?_ ?_ _ | refine Below.alloc ?_ ?_ _ | refine Below.setCell ?_ ?_ _ | refine Below.drew ?_ | (simp; done) | (have hbz := hb.size; first | omega | (simp; omega)) | (simp; omega) | omega))⟩
    case round =>
      obtain ⟨i, l', hil, rfl, hl', hO, hb⟩ := hrel
      by_cases hlt : i < l.length
      · have hsm := mpTo_small h15 i hil
        obtain ⟨rfl, hbw, c0, c1, c2, c3⟩ := Hdg.at (hc.mono hb) i hlt
        have hi1 : (i : Int) + 1 ≤ (l.length : Int) := by omega
        have hi2 : (i : Int) + 1 ≤ (cap : Int) := by omega
        by_cases hck : cap = i + 1
        · have hn0 : l.length - (i + 1) = 0 := by omega
          have hmp : Hid (mpTo l (i + 1) = mpTo l i) := Lib.hid (by rw [mpTo, hn0]; simp [mpIn, selTo])
          go_wp2_with fail
          refine wpAt fun W2 hW2 => ?_
          have b2 : Below wr.heap.size wr W2 := by rw [hW2]; exact below_alloc _ _
          clear hW2
          have hbW : Below w.heap.size w W2 := hb.trans (b2.mono hb.size)
          have hO3 := Lib.hid ((hO.out.mono b2).wide (Nat.le_refl _) b2.size)
          clear hO b2 hb
          go_loopw [4, 24] (fun o vk wi => ∃ (l2 : List Rw), vk = .int .i64 0 ∧ Hid (l2.map Rw.sub = mpTo l i) ∧ Hid (Rw.OwnN wi w.heap.size wi.heap.size o l2) ∧ Below w.heap.size w wi) (fun _ _ _ => 0)
          case atStart => exact ⟨l', rfl, hl', hO3, hbW⟩
          case round =>
            obtain ⟨l2, rfl, hl2, hO2, hb2⟩ := hrel
            go_wp2_with fail
            go_roundw
            case rel => exact ⟨i + 1, l2, by omega, by go_num, Lib.hid (by rw [hmp.out]; exact hl2.out), hO2, hb2⟩
            case measure => simp [intOf]; omega
        · have hck2 : ¬ (cap : Int) = (i : Int) + 1 := by omega
          go_wp2_with fail
          refine wpAt fun W2 hW2 => ?_
          have bx : BoxAt W2 wr.heap.size [.int .i64 (gd l i).id, .string (gd l i).nm, .int .i64 (gd l i).un, .slice (gd l i).a (gd l i).sub.length (gd l i).cap] := by rw [hW2]; exact BoxAt.new wr _ _
          have b2 : Below wr.heap.size wr W2 := by rw [hW2]; exact below_alloc _ _
          clear hW2
          have hbW : Below w.heap.size w W2 := hb.trans (b2.mono hb.size)
          have hO3 := Lib.hid ((hO.out.mono b2).wide (Nat.le_refl _) b2.size)
          have hne : Hid (∀ q, Value.ownBlock u4 = some q → q ≠ wr.heap.size) := Lib.hid (fun q hq => by have := hO.out.2.1 q hq; omega)
          have hzr := hb.size
          have y0 := bx.2 0 _ rfl
          have y3 := bx.2 3 _ rfl
          clear hO b2 bx
          generalize hbk : wr.heap.size = bk at hne y0 y3 hzr ⊢
          clear hbk hb
          go_loopw [4, 24] (fun o vk wi => ∃ (k : Nat) (l2 : List Rw), k ≤ (l.length - (i + 1)) ∧ vk = .int .i64 k ∧ Hid (l2.map Rw.sub = mpTo l i ++ mpIn l i k) ∧ Hid (Rw.OwnN wi w.heap.size wi.heap.size o l2) ∧ Hid (∀ q, Value.ownBlock o = some q → q ≠ bk) ∧ wi.cell? ⟨bk, 0, none⟩ = some (.int .i64 (gd l i).id) ∧ wi.cell? ⟨bk, 3, none⟩ = some (.slice (gd l i).a (gd l i).sub.length (gd l i).cap) ∧ Below w.heap.size w wi) (fun _ vk _ => (l.length - (i + 1)) - (intOf vk).toNat)
          case atStart => exact ⟨0, l', Nat.zero_le _, rfl, Lib.hid (by rw [hl'.out]; simp [mpIn, selTo]), hO3, hne, y0, y3, hbW⟩
          case round =>
            obtain ⟨k, l2, hik, rfl, hl2, hO2, hne2, y0, y3, hb2⟩ := hrel
            have hlen2 : l2.length ≤ 225 + 15 := by
              have e1 : l2.length = (mpTo l i ++ mpIn l i k).length := by rw [← hl2.out]; simp
              have e2 := mpIn_len l i k
              rw [e1, List.length_append]; omega
            by_cases hkl : k < (l.length - (i + 1))
            · obtain ⟨j, hj⟩ : ∃ j, j = i + 1 + k := ⟨_, rfl⟩
              have hjl : j < l.length := by omega
              obtain ⟨-, -, d0, d1, d2, d3⟩ := Hdg.at (hc.mono hb2) j hjl
              rw [show off + j * 4 = (off + (i + 1) * 4) + k * 4 by omega] at d0 d1 d2 d3
              have hbk : bk < wr.heap.size := block_lt_of_cell y0
              have hbl := block_lt_of_cell d0
              have hS1 := fun W (hB : Below wr.heap.size wr W) => containsInt_c (.slice (gd l i).a (gd l i).sub.length (gd l i).cap) (gd l i).sub (gd l j).id W (Sl.mono (hD.out i hlt) (hb2.trans (hB.mono hb2.size)))
              have hS2 := fun W (hB : Below wr.heap.size wr W) => containsInt_c (.slice (gd l j).a (gd l j).sub.length (gd l j).cap) (gd l j).sub (gd l i).id W (Sl.mono (hD.out j hjl) (hb2.trans (hB.mono hb2.size)))
              have hmu : mutAt l i (i + 1 + k) = (hasI (gd l i).sub (gd l j).id && hasI (gd l j).sub (gd l i).id) := by rw [← hj]; rfl
              have hji : Hid ((gd l (i + 1 + k)).id = (gd l j).id) := by rw [← hj]; exact Lib.hid rfl
              replace hj := Lib.hid hj
              have A0 := below_alloc wr (.cells #[.int .i64 (gd l j).id, .string (gd l j).nm, .int .i64 (gd l j).un, .slice (gd l j).a (gd l j).sub.length (gd l j).cap] 110)
              have NX := Lib.hid ((hO2.out.mono A0).wide (Nat.le_refl _) A0.size)
              have BX := hb2.trans (A0.mono hb2.size)
              change ∀ W, Below wr.heap.size wr W → Calls _ _ _ W (fun e w' => e = .returned (.bool (hasI (gd l i).sub (gd l j).id)) ∧ W = w') at hS1
              change ∀ W, Below wr.heap.size wr W → Calls _ _ _ W (fun e w' => e = .returned (.bool (hasI (gd l j).sub (gd l i).id)) ∧ W = w') at hS2
              cases q1 : hasI (gd l i).sub (gd l j).id
              · rw [q1] at hS1 hmu
                replace hS1 := Lib.hid hS1
                have hn := Lib.hid (mpIn_no hmu)
                clear hmu q1 hS2
                go_wp2_with (go_at_call 130; refine (hS1.out _ A0).mono ?_; rintro e w' ⟨rfl, rfl⟩)
                go_roundw
                case rel => exact ⟨k + 1, l2, by omega, by go_num, Lib.hid (by rw [hn.out]; exact hl2.out), NX, hne2, cellOn A0 y0, cellOn A0 y3, BX⟩
                case measure => simp [intOf]; omega
              · rw [q1] at hS1 hmu
                replace hS1 := Lib.hid hS1
                clear q1
                cases q2 : hasI (gd l j).sub (gd l i).id
                · rw [q2] at hS2 hmu
                  replace hS2 := Lib.hid hS2
                  have hn := Lib.hid (mpIn_no hmu)
                  clear hmu q2
                  go_wp2_with (go_at_call 130; first | ((with_reducible refine (hS1.out _ A0).mono ?_); rintro e w' ⟨rfl, rfl⟩; clear hS1) | ((with_reducible refine (hS2.out _ A0).mono ?_); rintro e w' ⟨rfl, rfl⟩))
                  go_roundw
                  case rel => exact ⟨k + 1, l2, by omega, by go_num, Lib.hid (by rw [hn.out]; exact hl2.out), NX, hne2, cellOn A0 y0, cellOn A0 y3, BX⟩
                  case measure => simp [intOf]; omega
                · rw [q2] at hS2 hmu
                  replace hS2 := Lib.hid hS2
                  have hn := Lib.hid (mpIn_yes hmu)
                  clear hmu q2
                  go_upto_region 11 with (go_at_call 130; first | ((with_reducible refine (hS1.out _ A0).mono ?_); rintro e w' ⟨rfl, rfl⟩; clear hS1) | ((with_reducible refine (hS2.out _ A0).mono ?_); rintro e w' ⟨rfl, rfl⟩))
                  refine wpAt fun W9 e9 => ?_
                  have hb9 : Below w.heap.size w W9 := by rw [e9]; exact BX
                  have hO9 : Hid (Rw.OwnN W9 w.heap.size W9.heap.size u4 l2) := by rw [e9]; exact NX
                  have z0 : W9.cell? ⟨bk, 0, none⟩ = some (.int .i64 (gd l i).id) := by rw [e9]; exact cellOn A0 y0
                  have z3 : W9.cell? ⟨bk, 3, none⟩ = some (.slice (gd l i).a (gd l i).sub.length (gd l i).cap) := by rw [e9]; exact cellOn A0 y3
                  have x0 : W9.cell? ⟨wr.heap.size, 0, none⟩ = some (.int .i64 (gd l j).id) := by rw [e9]; simp
                  have hz9 := hb9.size
                  have hbk9 : bk < W9.heap.size := block_lt_of_cell z0
                  clear e9 NX BX hS2 A0
                  go_wp2_with (at_builtin; refine wpList_pushAt Rw.len Rw.one rfl (.tmp 40) (.tmp 46) 77 rfl w.heap.size 49 i0 _ 24 Try.underlying77 hi hz0 hz1 hz2 rfl (by omega) u4 l2 rfl (hO9.out.own.mono (by repeat' (first | exact Below.refl _ _ | with_reducible assumption | refine bext ?_ ?_ _ | refine Below.alloc ?_ ?_ _ | refine Below.setCell ?_ ?_ _ | refine Below.drew ?_ | (simp; done) | (have hbz := hb.size; first | omega | (simp; omega)) | (simp; omega) | omega))) _ 1 ⟨some ⟨W9.heap.size, 0, none⟩, 2, [(gd l i).id, (gd l j).id]⟩ rfl (cells1 (by simp)) (by unfold maxLen; omega) (by omega) (by simp; omega) ?_; intro v' w3 ho3 hg3 hat3)
                  have hP := Lib.hid (pair_push hO9.out (btrans (below_alloc _ _) (below_alloc _ _)) (Nat.le_refl _) ((Own.made2 hz9 _ _).mono (below_alloc _ _)) ho3 hg3 hat3)
                  have hB3 : Below w.heap.size w w3 := below_push (lo := w.heap.size) (Below.trans hb9 ((btrans (below_alloc _ _) (below_alloc _ _)).mono hz9)) (hO9.out.own.mono (btrans (below_alloc _ _) (below_alloc _ _))) hg3 (Nat.le_refl _) (by simp; omega)
                  have z0' := cellGrown (cellOn (btrans (below_alloc _ _) (below_alloc _ _)) z0) hg3 (fun e => hne2.out bk e.symm rfl)
                  have z3' := cellGrown (cellOn (btrans (below_alloc _ _) (below_alloc _ _)) z3) hg3 (fun e => hne2.out bk e.symm rfl)
                  have hne3 : Hid (∀ q, Value.ownBlock v' = some q → q ≠ bk) := Lib.hid (fun q hq => by
                    rcases hat3 with h4 | h4
                    · exact hne2.out q (by rw [← h4]; exact hq)
                    · rw [h4] at hq
                      injection hq with hq
                      simp at hq; omega)
                  clear ho3 hg3 hat3
                  go_wp2_with fail
                  go_roundw
                  case rel => exact ⟨k + 1, _, by omega, by go_num, Lib.hid (by rw [hn.out, List.map_append, hl2.out, List.append_assoc, hji.out]; rfl), hP.out, hne3, z0', z3', hB3⟩
                  case measure => simp [intOf]; omega
            · obtain rfl : k = (l.length - (i + 1)) := by omega
              go_wp2_with fail
              go_roundw
              case rel => exact ⟨i + 1, l2, by omega, by go_num, Lib.hid (by rw [hl2.out, mpTo]), hO2, hb2⟩
              case measure => simp [intOf]; omega
      · obtain rfl : i = l.length := by omega
        go_wp2_with fail
        go_ret2
        rw [hE.out]
        exact ⟨_, l', rfl, hO.out, hl'.out, hb⟩
end Go.Proofs.Ythibchaiaedboaa
