/- Entries: the groups of the same title, by the program. No condition but what a slice may hold. -/
import Derived.Test.YteainpflmofjaaaDoorTq25
import Derived.Test.YteainpflmofjaaaDoorIe25
import Derived.Test.YteainpflmofjaaaDoorCms
import Derived.Deep.RegionLaw
import Derived.Outline
import Derived.Deep.Cut
import Derived.Deep.CutBlock
namespace Go.Proofs.YteainpflmofjaaaDoor
open Go.RowKit
def tgP (l : List Ent) : List Ent := (sortR (ltF (fun x y => cmpS x.ti y.ti)) l).reverse
theorem tgP_eq (l : List Ent) : tgP l = (sortR ltE l).reverse := by
  have : ltF (fun x y => cmpS x.ti y.ti) = ltE := by
    funext x y
    rw [ltF, cmpS_neg]; rfl
  rw [tgP, this]
theorem tgP_len (l : List Ent) : (tgP l).length = l.length := by rw [tgP, List.length_reverse, sortR_len]
theorem tgP_runs (l : List Ent) : runsTo (tgP l) l.length = tgL l := by
  have h := groups_same l
  rw [← tgP_eq] at h
  rw [tgL, ← h, runs, tgP_len]
/-- a new group begun where there is a new title -/
def rnB (G : List (List Int)) (new : Bool) : List (List Int) := if new then G ++ [[]] else G
theorem runPut_eq (G : List (List Int)) (new : Bool) (n : Int) : runPut G new n = (rnB G new).set ((rnB G new).length - 1) (gd (rnB G new) ((rnB G new).length - 1) ++ [n]) := by
  cases new
  · rfl
  · have e : (G ++ [[]]).length - 1 = G.length := by simp
    show G ++ [[n]] = (G ++ [[]]).set ((G ++ [[]]).length - 1) (gd (G ++ [[]]) ((G ++ [[]]).length - 1) ++ [n])
    rw [e]
    simp [gd]
theorem runsTo_len (P : List Ent) : ∀ k, (runsTo P k).length ≤ k ∧ (0 < k → 0 < (runsTo P k).length) ∧ ∀ i, i < (runsTo P k).length → (gd (runsTo P k) i).length ≤ k
  | 0 => ⟨Nat.le_refl _, fun h => absurd h (by omega), fun i hi => absurd hi (by simp [runsTo])⟩
  | k + 1 => by
    obtain ⟨h1, h2, h3⟩ := runsTo_len P k
    rw [runsTo]
    unfold runPut
    split
    · refine ⟨by simp; omega, fun _ => by simp, fun i hi => ?_⟩
      rw [List.length_append, List.length_singleton] at hi
      by_cases e : i < (runsTo P k).length
      · rw [gd_append e]; have := h3 i e; omega
      · obtain rfl : i = (runsTo P k).length := by omega
        rw [gd_append_last]; simp
    · rename_i hn
      have hk : 0 < k := by
        rcases Nat.eq_zero_or_pos k with h | h
        · subst h; exact absurd rfl hn
        · exact h
      have hg := h2 hk
      refine ⟨by simp; omega, fun _ => by simpa using hg, fun i hi => ?_⟩
      rw [List.length_set] at hi
      by_cases e : (runsTo P k).length - 1 = i
      · subst e
        rw [gd_set_at hi, List.length_append, List.length_singleton]
        have := h3 _ hi; omega
      · rw [gd_set_ne e]; have := h3 i hi; omega
theorem rnB_len (P : List Ent) (k : Nat) : 0 < (rnB (runsTo P k) (newAt P k)).length ∧ (rnB (runsTo P k) (newAt P k)).length ≤ k + 1 ∧ ∀ i, i < (rnB (runsTo P k) (newAt P k)).length → (gd (rnB (runsTo P k) (newAt P k)) i).length ≤ k := by
  obtain ⟨h1, h2, h3⟩ := runsTo_len P k
  cases hn : newAt P k
  · have hk : 0 < k := by
      rcases Nat.eq_zero_or_pos k with h | h
      · subst h; simp [newAt] at hn
      · exact h
    exact ⟨h2 hk, Nat.le_succ_of_le h1, h3⟩
  · refine ⟨by simp [rnB], by simp [rnB]; exact h1, fun i hi => ?_⟩
    simp only [rnB, if_true, List.length_append, List.length_singleton] at hi ⊢
    by_cases e : i < (runsTo P k).length
    · rw [gd_append e]; exact h3 i e
    · obtain rfl : i = (runsTo P k).length := by omega
      rw [gd_append_last]; simp
set_option maxHeartbeats 40000000 in
set_option maxRecDepth 100000 in
theorem titleGroups_c (v : Value) (l : List Ent) (w : World) (h : Sl w Ent.enc 6 v l) (hd : Ent.Deep w l) (hs : ∀ i, i < l.length → (gd l i).Fits) : Calls Tryd.prog 22 #[v] w (RetGrid w (tgR l) (areEnt l)) := by
  obtain ⟨r, hr0, hx0, hx1, hx2⟩ := info_parts (show (Tryd.prog.info? 49).map (fun i => (i.zero, i.size, i.bytes)) = some (some (.slice none 0 0), 1, 24) by kernel_rfl)
  obtain ⟨n, hn0, hw0, hw1, hw2⟩ := info_parts (show (Tryd.prog.info? 3).map (fun i => (i.zero, i.size, i.bytes)) = some (some (.int .i64 0), 1, 8) by kernel_rfl)
  have HA := Lib.hid (fun W (hb : Below w.heap.size w W) => areEntries_c v l W (h.mono hb) (hd.mono hb) hs)
  clear hd
  cases hA : areEnt l
  · have hE := Lib.hid (tgR_no hA)
    obtain ⟨a, cap, b, off, rfl, hlc, hm, hc⟩ := id h
    rw [hA] at HA
    clear hA
    go_enter Tryd.func22, Tryd.ntmps22
    go_wp2_with (go_at_call 59; refine (HA.out _ (by repeat' (first | exact Below.refl _ _ | with_reducible assumption | refine bext ?_ ?_ _ | refine Below.alloc ?_ ?_ _ | refine Below.setCell ?_ ?_ _ | refine Below.drew ?_ | (simp; done) | (have hbz := hb.size; first | omega | (simp; omega)) | (simp; omega) | omega))).mono ?_; rintro e w' ⟨rfl, hbq⟩; obtain ⟨p, rfl⟩ := ext_of_below hbq; clear hbq)
    go_ret2
    rw [hE.out]
    exact ⟨_, [], rfl, NOwn.nil _ _ _, rfl, (by repeat' (first | exact Below.refl _ _ | with_reducible assumption | refine bext ?_ ?_ _ | refine Below.alloc ?_ ?_ _ | refine Below.setCell ?_ ?_ _ | refine Below.drew ?_ | (simp; done) | (have hbz := hb.size; first | omega | (simp; omega)) | (simp; omega) | omega))⟩
  · have hE := Lib.hid (tgR_yes hA)
    have h12 := areEnt_len hA
    have HC := Lib.hid (fun W (hb : Below w.heap.size w W) => cloneEnt_c v l W (h.mono hb) (by omega))
    obtain ⟨a, cap, b, off, rfl, hlc, hm, hc⟩ := id h
    rw [hA] at HA
    clear hA
    go_enter Tryd.func22, Tryd.ntmps22
    go_wp2_with (first | (go_at_call 59; refine (HA.out _ (by repeat' (first | exact Below.refl _ _ | with_reducible assumption | refine bext ?_ ?_ _ | refine Below.alloc ?_ ?_ _ | refine Below.setCell ?_ ?_ _ | refine Below.drew ?_ | (simp; done) | (have hbz := hb.size; first | omega | (simp; omega)) | (simp; omega) | omega))).mono ?_; rintro e w' ⟨rfl, hbq⟩; obtain ⟨p, rfl⟩ := ext_of_below hbq; clear hbq) | (go_at_call 60; refine (HC.out _ (by repeat' (first | exact Below.refl _ _ | with_reducible assumption | refine bext ?_ ?_ _ | refine Below.alloc ?_ ?_ _ | refine Below.setCell ?_ ?_ _ | refine Below.drew ?_ | (simp; done) | (have hbz := hb.size; first | omega | (simp; omega)) | (simp; omega) | omega))).mono ?_; rintro e w2 ⟨v2, rfl, o2, b2⟩))
    have B2 := btrans (show Below w.heap.size w (ext w p) from (by repeat' (first | exact Below.refl _ _ | with_reducible assumption | refine bext ?_ ?_ _ | refine Below.alloc ?_ ?_ _ | refine Below.setCell ?_ ?_ _ | refine Below.drew ?_ | (simp; done) | (have hbz := hb.size; first | omega | (simp; omega)) | (simp; omega) | omega))) b2
    have HS := Lib.hid (sortStableEnt_c v2 l (ext w p).heap.size w2 62 #[] (fun x y => cmpS x.ti y.ti) o2 (by omega) (fun _ _ => by kernel_rfl) (fun x y W' _ _ _ => by simpa using titleGroups1_c x y W'))
    have hbnd := o2.bounds
    have hzp : w.heap.size ≤ (ext w p).heap.size := by simp
    replace o2 := Lib.hid o2
    refine HS.out.mono ?_
    rintro e w4 ⟨rfl, o4, g4⟩
    replace o4 : Own w4 (ext w p).heap.size 51 Ent.enc 6 v2 (tgP l) := o4
    have B4 : Below w.heap.size w w4 := B2.grown g4 B2.size (fun q hq => by have := (hbnd q hq).1; omega)
    clear HS g4 B2 b2 o2 hbnd HA HC
    obtain ⟨a4, cap4, b4, off4, hv, hlc4, hm4, hc4⟩ := o4.sl Ent.len
    have hPl := tgP_len l
    rw [hPl] at hv hlc4
    subst hv
    have hRu := Lib.hid (tgP_runs l)
    clear o4
    generalize tgP l = P at *
    replace hPl := Lib.hid hPl
    unfold maxLen at hm4
    have hz4 := B4.size
    go_wp2_with fail
    go_loopw [5, 6, 7, 17] (fun o _ _ vk wr => ∃ (k : Nat) (l2 : List Rw), k ≤ l.length ∧ vk = .int .i64 k ∧ Hid (l2.map Rw.sub = runsTo P k) ∧ Hid (Rw.OwnN wr w4.heap.size wr.heap.size o l2) ∧ Below w4.heap.size w4 wr) (fun _ _ _ vk _ => l.length - (intOf vk).toNat)
    case atStart => exact ⟨0, [], Nat.zero_le _, rfl, Lib.hid rfl, Lib.hid (NOwn.nil _ _ _), (by repeat' (first | exact Below.refl _ _ | with_reducible assumption | refine bext ?_ ?_ _ | refine Below.alloc ?_ ?_ _ | refine Below.setCell ?_ ?_ _ | refine Below.drew ?_ | (simp; done) | (have hbz := hb.size; first | omega | (simp; omega)) | (simp; omega) | omega))⟩
    case round =>
      obtain ⟨k, l2, hk, rfl, hl2, hO, hb⟩ := hrel
      by_cases hlt : k < l.length
      · obtain ⟨rfl, hbw, c0, c1, c2, c3, c4, c5⟩ := Ent.at (hc4.mono hb) k (by rw [hPl.out]; exact hlt)
        have d1 := fun (h0 : 0 < k) => (Ent.at (hc4.mono hb) (k - 1) (by rw [hPl.out]; omega)).2.2.2.1
        have hN := Lib.hid (show runsTo P (k + 1) = runPut (runsTo P k) (newAt P k) (gd P k).id from rfl)
        obtain ⟨hp1, hp2, hp3⟩ := rnB_len P k
        rw [runPut_eq] at hN
        have hl2k : l2.length ≤ k := by
          have h1 := (runsTo_len P k).1
          rw [← hl2.out] at h1
          simpa using h1
        go_upto_region 9 with fail
        refine wpAt fun W9 hW9 => ?_
        have b9 : Below wr.heap.size wr W9 := by rw [hW9]; exact below_alloc _ _
        have y0 : W9.cell? ⟨wr.heap.size, 0, none⟩ = some (.int .i64 (gd P k).id) := by rw [hW9]; simp
        have y1 : W9.cell? ⟨wr.heap.size, 1, none⟩ = some (.string (gd P k).ti) := by rw [hW9]; simp
        have B9 : Below w4.heap.size w4 W9 := hb.trans (b9.mono hb.size)
        have hO9 := Lib.hid (hO.out.mono b9)
        have hne : Hid (∀ q, Value.ownBlock u5 = some q → q ≠ wr.heap.size) := Lib.hid (fun q hq => by have := hO.out.2.1 q hq; omega)
        replace d1 := fun h0 => cellOn b9 (d1 h0)
        have hbz := b9.size
        clear hW9 c0 c1 c2 c3 c4 c5 hbw
        have hb4 := B9.size
        clear hO hb b9
        generalize hbk : wr.heap.size = bk at *
        clear hbk
        have hb0 := block_lt_of_cell y0
        go_cut [34] from 18 to 53 (fun t W => t = .bool (newAt P k) ∧ Below W9.heap.size W9 W)
        case first =>
          clear hO9 hN hp1 hp2 hp3
          have hb2 := Below.refl W9.heap.size W9
          by_cases k0 : k = 0
          · have hnw := Lib.hid (show newAt P k = true by rw [newAt, k0]; rfl)
            subst k0
            clear d1
            refine wp_region_ext (by kernel_rfl) (by kernel_rfl) ?_
            repeat (any_goals (first | go_big_quiet_step (fail)))
            (refine wpQuiet_nil ?_)
            (rintro _ ⟨q, rfl⟩)
            go_wp2_with fail
            go_meet
            case rel => exact ⟨congrArg Value.bool hnw.out.symm, bext hb2 hb2.size _⟩
          · have d1 := d1 (by omega)
            have hnw := Lib.hid (show newAt P k = !((gd P k).ti.toList == (gd P (k - 1)).ti.toList) by rw [newAt, beq_eq_false_iff_ne.2 k0]; rfl)
            have i0 : ((k : Int) == 0) = false := by rw [beq_eq_false_iff_ne]; omega
            have i1 : (k : Int) - 1 = ((k - 1 : Nat) : Int) := by omega
            have i2 : k - 1 < l.length := by omega
            have hbd := block_lt_of_cell d1
            clear k0
            generalize (gd P (k - 1)).ti = ty at d1 hnw
            generalize (gd P k).ti = tx at y1 hnw
            cases hq : (tx.toList == ty.toList)
            · rw [hq] at hnw
              refine wp_region_ext (by kernel_rfl) (by kernel_rfl) ?_
              repeat (any_goals (first | go_big_quiet_step (fail)))
              (refine wpQuiet_nil ?_)
              (rintro _ ⟨q, rfl⟩)
              go_wp2_with fail
              go_meet
              case rel => exact ⟨congrArg Value.bool hnw.out.symm, bext hb2 hb2.size _⟩
            · rw [hq] at hnw
              refine wp_region_ext (by kernel_rfl) (by kernel_rfl) ?_
              repeat (any_goals (first | go_big_quiet_step (fail)))
              (refine wpQuiet_nil ?_)
              (rintro _ ⟨q, rfl⟩)
              go_wp2_with fail
              go_meet
              case rel => exact ⟨congrArg Value.bool hnw.out.symm, bext hb2 hb2.size _⟩
        obtain ⟨rfl, hbc⟩ := hcut
        replace y0 := cellOn hbc y0
        replace hO9 := Lib.hid (hO9.out.mono hbc)
        have B10 := B9.trans (hbc.mono hb4)
        have hb10 := B10.size
        have hbz2 : bk ≤ wc.heap.size := Nat.le_trans hbz hbc.size
        clear d1 y1 hbc B9 hb4 hbz hb0
        generalize wc = W10 at *
        have hb0 := block_lt_of_cell y0
        generalize (gd P k).id = id at y0 hN
        generalize newAt P k = new at *
        go_upto_if 34 with fail
        go_cut [5] from 18 to 53 (fun o W => ∃ l3 : List Rw, l3.map Rw.sub = rnB (runsTo P k) new ∧ Hid (Rw.OwnN W w4.heap.size W.heap.size o l3) ∧ W.cell? ⟨bk, 0, none⟩ = some (.int .i64 id) ∧ Below w4.heap.size w4 W)
        case first =>
          cases new
          · go_wp2_with fail
            go_meet
            case rel => exact ⟨l2, hl2.out, Lib.hid (hO9.out.wide (Nat.le_refl _) hbz2), y0, B10⟩
          · go_wp2_with (at_builtin; refine wpList_pushAt Rw.len Rw.one rfl (.tmp 35) (.tmp 36) 45 rfl w4.heap.size 49 r _ 24 Tryd.underlying45 hr0 hx0 hx1 hx2 rfl (by omega) u5 l2 rfl (hO9.out.own.mono (below_alloc _ _)) _ 1 (⟨none, 0, []⟩ : Rw) rfl (cells1 (by simp)) (by unfold maxLen; omega) (by omega) (by simp; omega) ?_; intro v' w3 ho3 hg3 hat3)
            have N := Lib.hid (NOwn.push (hO9.out.mono (below_alloc _ _)) ho3 hg3 hat3 (by simp; omega) (Own.nil _ _ _ _ _) (fun b hb2 => by cases hb2))
            have y0' := cellGrown (cellOn (below_alloc _ _) y0) hg3 (fun e => hne.out bk e.symm rfl)
            have B3 := below_push (lo := w4.heap.size) (Below.trans B10 ((below_alloc _ _).mono hb10)) (hO9.out.own.mono (below_alloc _ _)) hg3 (Nat.le_refl _) (by simp; omega)
            clear ho3 hg3 hat3
            go_wp2_with fail
            go_meet
            case rel => exact ⟨_, by rw [List.map_append, hl2.out]; rfl, N, y0', B3⟩
        clear hO9 y0 B10 hb10 hbz2 hb0 hl2k hl2 hne
        obtain ⟨l3, hl3, hO, y0, B11⟩ := hcut
        generalize wc = W11 at *
        have hz11 := B11.size
        have h3l : l3.length = (rnB (runsTo P k) new).length := by rw [← hl3]; simp
        rw [← h3l] at hp1 hp2 hp3
        obtain ⟨g, oc, rfl, hlo, hgw, hlc2, hcm, hfz, hcc⟩ := hO.out.own.form Rw.len hp1
        unfold maxLen at hcm
        obtain ⟨m, hm⟩ : ∃ m, m = l3.length - 1 := ⟨_, rfl⟩
        have hm1 : m < l3.length := by omega
        have hm2 : (m : Int) < (l3.length : Int) := by omega
        have hwp : IntKind.i64.wrap ((l3.length : Int) - 1) = (m : Int) := by rw [IntKind.wrap_i64]; omega
        have d0 := (Rw.at hcc m hm1).2.2
        rw [Nat.zero_add] at d0
        have hmr : (rnB (runsTo P k) new).length - 1 = m := by rw [← h3l]; exact hm.symm
        have hX : (gd l3 m).sub = gd (rnB (runsTo P k) new) m := by rw [← hl3, gd_map _ hm1]
        have hXl : (gd l3 m).sub.length ≤ k := by rw [hX]; exact hp3 _ hm1
        rw [hmr] at hN
        have hI := Lib.hid (hO.out.inn m hm1)
        replace hX := Lib.hid hX
        generalize hXX : gd l3 m = X at d0 hI hX hXl
        replace hXX := Lib.hid hXX
        replace hl3 := Lib.hid hl3
        clear h3l hmr hm
        have hb0 := block_lt_of_cell y0
        clear hfz hcc hp3
        go_upto_region 11 with fail
        go_region_law (first | (refine step_pushAt IntE.len IntE.one (by rfl) (.tmp 47) (.tmp 50) 49 (by rfl) w4.heap.size 3 n _ 8 Tryd.underlying49 hn0 hw0 hw1 hw2 (by rfl) (by omega) (Rw.hv X) X.sub (by rfl) (hI.out.mono (by repeat' (first | exact Below.refl _ _ | with_reducible assumption | refine bext ?_ ?_ _ | refine Below.alloc ?_ ?_ _ | refine Below.setCell ?_ ?_ _ | refine Below.drew ?_ | (simp; done) | (have hbz := hb.size; first | omega | (simp; omega)) | (simp; omega) | omega))) _ 1 id (by rfl) (cells1 (by simp)) (by unfold maxLen; omega) (by omega) (by simp; omega) ?_; intro v3 w3 ho3 hg3 hat3; obtain ⟨a3, cap3, b3, off3, rfl, -, -, -⟩ := ho3.sl IntE.len; obtain ⟨q1, q2, q3⟩ := rw_cell (hO.out.mono (by repeat' (first | exact Below.refl _ _ | with_reducible assumption | refine bext ?_ ?_ _ | refine Below.alloc ?_ ?_ _ | refine Below.setCell ?_ ?_ _ | refine Below.drew ?_ | (simp; done) | (have hbz := hb.size; first | omega | (simp; omega)) | (simp; omega) | omega))) hm1 hXX.out hg3; have hP := Lib.hid (rw_put (hO.out.mono (by repeat' (first | exact Below.refl _ _ | with_reducible assumption | refine bext ?_ ?_ _ | refine Below.alloc ?_ ?_ _ | refine Below.setCell ?_ ?_ _ | refine Below.drew ?_ | (simp; done) | (have hbz := hb.size; first | omega | (simp; omega)) | (simp; omega) | omega))) hm1 hXX.out ho3 hg3 hat3 (B11.trans (Below.mono (B := W11.heap.size) (by repeat' (first | exact Below.refl _ _ | with_reducible assumption | refine bext ?_ ?_ _ | refine Below.alloc ?_ ?_ _ | refine Below.setCell ?_ ?_ _ | refine Below.drew ?_ | (simp; done) | (have hbz := hb.size; first | omega | (simp; omega)) | (simp; omega) | omega)) hz11)) (by first | (simp; done) | (simp; omega)) (by first | (simp; done) | (simp; omega)))) | fail)
        all_goals
          clear ho3 hg3 hat3 q1 q2 q3 hb0
          go_wp2_with fail
          go_roundw
          case rel => exact ⟨k + 1, _, by omega, by go_num, Lib.hid (by rw [hN.out, List.map_set, hl3.out, ← hX.out]), Lib.hid hP.out.1, hP.out.2⟩
          case measure => simp [intOf]; omega
      · obtain rfl : k = l.length := by omega
        rw [hRu.out] at hl2
        go_wp2_with fail
        go_ret2
        rw [hE.out]
        exact ⟨_, l2, rfl, (hO.out.wide hz4 (Nat.le_refl _)), hl2.out, B4.trans (hb.mono hz4)⟩
end Go.Proofs.YteainpflmofjaaaDoor
