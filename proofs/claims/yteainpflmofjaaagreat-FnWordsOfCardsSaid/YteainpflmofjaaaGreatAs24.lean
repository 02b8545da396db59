/- Cards: a word added, by the reference. No condition but sizes. -/
import Derived.Test.YteainpflmofjaaaGreatAw24
import Derived.Test.YteainpflmofjaaaGreatSd
namespace Go.Proofs.YteainpflmofjaaaGreat
open Go.RowKit
theorem awO_push {f : List ByteArray → List ByteArray} {l l' : List Crd} {i k : Nat} (h : l'.map Crd.bare = awO f l i k) (y : Crd) (hy : y.bare = awAt f l i k) : (l' ++ [y]).map Crd.bare = awO f l i (k + 1) := by
  rw [awO_succ, List.map_append, h, List.map_singleton, hy]
theorem frozenKept {W W' : World} {b o : Nat} {row : Option Nat} (hb : b < W.heap.size) (hg : W.grownBy W' row) (hne : some b ≠ row) : W'.frozen? ⟨b, o, none⟩ = W.frozen? ⟨b, o, none⟩ := by
  have e := hg.block b hb hne
  simp only [World.frozen?]
  rw [e]
theorem aw_spec {l : List Crd} {n : Int} {w : ByteArray} {i : Nat} (hc : crdIdx l n = some i) (hA : areCrd l = true) : (hasW (gd l i).sub w = true ∧ awG l n w = false ∧ awB l n w = []) ∨ (hasW (gd l i).sub w = false ∧ awG l n w = areCrd (awO (putW w) l i l.length) ∧ awB l n w = if areCrd (awO (putW w) l i l.length) then awO (putW w) l i l.length else []) := by
  cases hw : hasW (gd l i).sub w
  · right
    have hg : awG l n w = areCrd (awO (putW w) l i l.length) := by simp [awG, hc, hA, hw]
    refine ⟨rfl, hg, ?_⟩
    unfold awB
    rw [hc]
    simp only
    rw [hg]
  · left
    have hg : awG l n w = false := by simp [awG, hc, hA, hw]
    refine ⟨rfl, hg, ?_⟩
    unfold awB
    rw [hc]
    simp only
    rw [hg]
    rfl
theorem awO_fits' {l L : List Crd} {i : Nat} {wd : ByteArray} (hs : ∀ i, i < l.length → StrE.Fits (gd l i).sub) (hwd : wd.size ≤ maxLen) (hi : i < l.length) (h : L.map Crd.bare = awO (putW wd) l i l.length) : ∀ j, j < L.length → StrE.Fits (gd L j).sub := fun j hj => by
  have hl : L.length = l.length := by have := congrArg List.length h; simpa [awO_len] using this
  rw [← awO_bare] at h
  have e := (Crd.sub_eq (map_same_at h j (by rw [awO_len]; omega)).2).2.2
  rw [e, awO_at _ _ _ _ _ (by omega), awAt]
  split
  · rename_i e2
    subst e2
    intro m hm
    show (gd (putW wd (gd l j).sub) m).size ≤ maxLen
    have old : ∀ x, x ∈ (gd l j).sub → x.size ≤ maxLen := fun x hx => by
      obtain ⟨q, hq, e3⟩ := List.mem_iff_getElem.1 hx
      rw [← e3, ← gd_get hq]
      exact hs j hi q hq
    have hmem' : gd (putW wd (gd l j).sub) m ∈ (gd l j).sub ∨ gd (putW wd (gd l j).sub) m = wd := by
      have this : gd (putW wd (gd l j).sub) m ∈ putW wd (gd l j).sub := gd_mem hm
      generalize gd (putW wd (gd l j).sub) m = x at this ⊢
      unfold putW at this
      simp only [List.mem_append, List.mem_singleton, List.mem_filter] at this
      rcases this with (h1 | h1) | h1
      · exact .inl h1.1
      · exact .inr h1
      · exact .inl h1.1
    rcases hmem' with h1 | h1
    · exact old _ h1
    · rw [h1]; exact hwd
  · exact hs j (by omega)
set_option maxHeartbeats 8000000 in
set_option maxRecDepth 100000 in
theorem specAddWord_c (v : Value) (l : List Crd) (n : Int) (wd : ByteArray) (w : World) (h : Sl w Crd.enc 3 v l) (hd : Crd.Deep w l) (hs : ∀ i, i < l.length → StrE.Fits (gd l i).sub) (hwd : wd.size ≤ maxLen) : Calls Tryz.prog 7 #[v, .int .i64 n, .string wd] w (Crd.RetNB w (awB l n wd) (awG l n wd)) := by
  have HA := Lib.hid (fun W (hB : Below w.heap.size w W) => l24Good_c v l W (h.mono hB) (hd.mono hB) hs)
  have HT := Lib.hid (fun W (hB : Below w.heap.size w W) => l24Find_c v l n W (h.mono hB))
  obtain ⟨i', hi', hz0, hz1, hz2⟩ := info_parts (show (Tryz.prog.info? 60).map (fun i => (i.zero, i.size, i.bytes)) = some (some (.agg #[.int .i64 0, .int .i64 0, .slice none 0 0]), 3, 40) by kernel_rfl)
  obtain ⟨s', hs', hy0, hy1, hy2⟩ := info_parts (show (Tryz.prog.info? 9).map (fun i => (i.zero, i.size, i.bytes)) = some (some (.string ByteArray.empty), 1, 16) by kernel_rfl)
  obtain ⟨a, cap, b, off, rfl, hlc, hm, hc⟩ := h
  unfold maxLen at hm
  cases hA : areCrd l with
  | false =>
    have hg := aw_no (n := n) (w := wd) hA
    rw [hg.1, hg.2]
    rw [hA] at HA
    replace HA := Lib.hid HA.out
    clear hg hA
    generalize idxInt (crdIdx l n) = q at HT
    go_enter Tryz.func7, Tryz.ntmps7
    go_wp2_with (first | (go_at_call 34; refine (HT.out _ (by repeat' (first | exact Below.refl _ _ | with_reducible assumption | refine bext ?_ ?_ _ | refine Below.alloc ?_ ?_ _ | refine Below.setCell ?_ ?_ _ | refine Below.drew ?_ | (simp; done) | (have hbz := hb.size; first | omega | (simp; omega)) | (simp; omega) | omega))).mono ?_; rintro e w' ⟨rfl, rfl⟩) | (go_at_call 35; refine (HA.out _ (by repeat' (first | exact Below.refl _ _ | with_reducible assumption | refine bext ?_ ?_ _ | refine Below.alloc ?_ ?_ _ | refine Below.setCell ?_ ?_ _ | refine Below.drew ?_ | (simp; done) | (have hbz := hb.size; first | omega | (simp; omega)) | (simp; omega) | omega))).mono ?_; rintro e w' ⟨rfl, hbq⟩; obtain ⟨p, rfl⟩ := ext_of_below hbq; clear hbq))
    go_ret2
    exact ⟨_, [], rfl, NOwn.empty' (by simp) (by simp), rfl, (by repeat' (first | exact Below.refl _ _ | with_reducible assumption | refine bext ?_ ?_ _ | refine Below.alloc ?_ ?_ _ | refine Below.setCell ?_ ?_ _ | refine Below.drew ?_ | (simp; done) | (have hbz := hb.size; first | omega | (simp; omega)) | (simp; omega) | omega))⟩
  | true =>
    cases hci : crdIdx l n with
    | none =>
      have hg : awG l n wd = false ∧ awB l n wd = [] := by
        unfold awB awG
        rw [hci]
        exact ⟨rfl, rfl⟩
      rw [hg.1, hg.2]
      rw [hA] at HA
      rw [hci, show idxInt none = -1 from rfl] at HT
      replace HA := Lib.hid HA.out
      replace HT := Lib.hid HT.out
      clear hg hA hci
      go_enter Tryz.func7, Tryz.ntmps7
      go_wp2_with (first | (go_at_call 34; refine (HT.out _ (by repeat' (first | exact Below.refl _ _ | with_reducible assumption | refine bext ?_ ?_ _ | refine Below.alloc ?_ ?_ _ | refine Below.setCell ?_ ?_ _ | refine Below.drew ?_ | (simp; done) | (have hbz := hb.size; first | omega | (simp; omega)) | (simp; omega) | omega))).mono ?_; rintro e w' ⟨rfl, rfl⟩) | (go_at_call 35; refine (HA.out _ (by repeat' (first | exact Below.refl _ _ | with_reducible assumption | refine bext ?_ ?_ _ | refine Below.alloc ?_ ?_ _ | refine Below.setCell ?_ ?_ _ | refine Below.drew ?_ | (simp; done) | (have hbz := hb.size; first | omega | (simp; omega)) | (simp; omega) | omega))).mono ?_; rintro e w' ⟨rfl, hbq⟩; obtain ⟨p, rfl⟩ := ext_of_below hbq; clear hbq))
      go_ret2
      exact ⟨_, [], rfl, NOwn.empty' (by simp) (by simp), rfl, (by repeat' (first | exact Below.refl _ _ | with_reducible assumption | refine bext ?_ ?_ _ | refine Below.alloc ?_ ?_ _ | refine Below.setCell ?_ ?_ _ | refine Below.drew ?_ | (simp; done) | (have hbz := hb.size; first | omega | (simp; omega)) | (simp; omega) | omega))⟩
    | some ci =>
      have hcl : ci < l.length := (findTo_spec hci).1
      have hway := aw_spec (w := wd) hci hA
      have h12 : l.length ≤ 12 := by have h1c := hA; simp [areCrd] at h1c; exact h1c.2
      have h6 : ∀ i, i < l.length → (gd l i).sub.length ≤ 6 := fun i hi => crd_six hA i hi
      have HW := fun W (hB : Below w.heap.size w W) => l24Has_c (.slice (gd l ci).a (gd l ci).sub.length (gd l ci).cap) (gd l ci).sub wd W (Sl.mono (hd ci hcl) hB)
      obtain ⟨-, -, e0, e1, e2⟩ := Crd.at hc ci hcl
      obtain ⟨ha0, hb0, -⟩ := Crd.at hc ci hcl
      rw [hA] at HA
      rw [hci, show idxInt (some ci) = (ci : Int) from rfl] at HT
      replace HA := Lib.hid HA.out
      replace HT := Lib.hid HT.out
      clear hA hci
      subst ha0
      replace hd := Lib.hid hd
      replace h6 := Lib.hid h6
      have hc0 : decide ((ci : Int) < 0) = false := decide_eq_false (by omega)
      rcases hway with ⟨hw1, hI1, hI2⟩ | ⟨hw1, hI1, hI2⟩
      · rw [hI1, hI2]
        rw [hw1] at HW
        replace HW := Lib.hid HW
        clear hI1 hI2 hw1
        go_enter Tryz.func7, Tryz.ntmps7
        go_wp2_with (first | (go_at_call 34; refine (HT.out _ (by repeat' (first | exact Below.refl _ _ | with_reducible assumption | refine bext ?_ ?_ _ | refine Below.alloc ?_ ?_ _ | refine Below.setCell ?_ ?_ _ | refine Below.drew ?_ | (simp; done) | (have hbz := hb.size; first | omega | (simp; omega)) | (simp; omega) | omega))).mono ?_; rintro e w' ⟨rfl, rfl⟩) | (go_at_call 35; refine (HA.out _ (by repeat' (first | exact Below.refl _ _ | with_reducible assumption | refine bext ?_ ?_ _ | refine Below.alloc ?_ ?_ _ | refine Below.setCell ?_ ?_ _ | refine Below.drew ?_ | (simp; done) | (have hbz := hb.size; first | omega | (simp; omega)) | (simp; omega) | omega))).mono ?_; rintro e w' ⟨rfl, hbq⟩; obtain ⟨p, rfl⟩ := ext_of_below hbq; clear hbq) | (go_at_call 36; refine (HW.out _ (by repeat' (first | exact Below.refl _ _ | with_reducible assumption | refine bext ?_ ?_ _ | refine Below.alloc ?_ ?_ _ | refine Below.setCell ?_ ?_ _ | refine Below.drew ?_ | (simp; done) | (have hbz := hb.size; first | omega | (simp; omega)) | (simp; omega) | omega))).mono ?_; rintro e w' ⟨rfl, rfl⟩))
        go_ret2
        exact ⟨_, [], rfl, NOwn.empty' (by simp) (by simp), rfl, (by repeat' (first | exact Below.refl _ _ | with_reducible assumption | refine bext ?_ ?_ _ | refine Below.alloc ?_ ?_ _ | refine Below.setCell ?_ ?_ _ | refine Below.drew ?_ | (simp; done) | (have hbz := hb.size; first | omega | (simp; omega)) | (simp; omega) | omega))⟩
      · rw [hw1] at HW
        replace HW := Lib.hid HW
        replace hI1 := Lib.hid hI1
        replace hI2 := Lib.hid hI2
        generalize awB l n wd = B at hI2 ⊢
        generalize awG l n wd = ok at hI1 ⊢
        clear hw1
        go_enter Tryz.func7, Tryz.ntmps7
        go_wp2_with (first | (go_at_call 34; refine (HT.out _ (by repeat' (first | exact Below.refl _ _ | with_reducible assumption | refine bext ?_ ?_ _ | refine Below.alloc ?_ ?_ _ | refine Below.setCell ?_ ?_ _ | refine Below.drew ?_ | (simp; done) | (have hbz := hb.size; first | omega | (simp; omega)) | (simp; omega) | omega))).mono ?_; rintro e w' ⟨rfl, rfl⟩) | (go_at_call 35; refine (HA.out _ (by repeat' (first | exact Below.refl _ _ | with_reducible assumption | refine bext ?_ ?_ _ | refine Below.alloc ?_ ?_ _ | refine Below.setCell ?_ ?_ _ | refine Below.drew ?_ | (simp; done) | (have hbz := hb.size; first | omega | (simp; omega)) | (simp; omega) | omega))).mono ?_; rintro e w' ⟨rfl, hbq⟩; obtain ⟨p, rfl⟩ := ext_of_below hbq; clear hbq) | (go_at_call 36; refine (HW.out _ (by repeat' (first | exact Below.refl _ _ | with_reducible assumption | refine bext ?_ ?_ _ | refine Below.alloc ?_ ?_ _ | refine Below.setCell ?_ ?_ _ | refine Below.drew ?_ | (simp; done) | (have hbz := hb.size; first | omega | (simp; omega)) | (simp; omega) | omega))).mono ?_; rintro e w' ⟨rfl, rfl⟩))
        refine wpAt fun W hW => ?_
        have BW : Below w.heap.size w W := by rw [hW]; exact (by repeat' (first | exact Below.refl _ _ | with_reducible assumption | refine bext ?_ ?_ _ | refine Below.alloc ?_ ?_ _ | refine Below.setCell ?_ ?_ _ | refine Below.drew ?_ | (simp; done) | (have hbz := hb.size; first | omega | (simp; omega)) | (simp; omega) | omega))
        have OW : Crd.OwnN W w.heap.size W.heap.size (.slice (some ⟨w.heap.size + p.os.size, 0, none⟩) 0 0) ([] : List Crd) := by rw [hW]; exact NOwn.empty' (by simp) (by simp)
        clear hW HA HT HW e0 e1 e2
        generalize Value.slice (some ⟨w.heap.size + p.os.size, 0, none⟩) 0 0 = s0 at OW ⊢
        replace OW := Lib.hid OW
        go_loopw [9, 10, 11] (fun o i _ wr => ∃ (k : Nat) (l' : List Crd), k ≤ l.length ∧ i = .int .i64 k ∧ l'.length = k ∧ Hid (l'.map Crd.bare = awO (putW wd) l ci k) ∧ Hid (Crd.OwnN wr w.heap.size wr.heap.size o l') ∧ Below w.heap.size w wr) (fun _ i _ _ => l.length - (intOf i).toNat)
        case atStart => exact ⟨0, [], Nat.zero_le _, rfl, rfl, Lib.hid rfl, OW.out, BW⟩
        case round =>
          obtain ⟨k, l', hk, rfl, hll, hbr, hO, hb⟩ := hrel
          by_cases hlt : k < l.length
          · obtain ⟨-, hbw, c0, c1, c2⟩ := Crd.at (hc.mono hb) k hlt
            have hsl := h6.out k hlt
            have hzb := hb.size
            have A0 := below_alloc wr (.cells #[.int .i64 (gd l k).id, .int .i64 (gd l k).yr, .slice (gd l k).a (gd l k).sub.length (gd l k).cap] 60)
            have A1 := btrans A0 (below_alloc (wr.alloc (.cells #[.int .i64 (gd l k).id, .int .i64 (gd l k).yr, .slice (gd l k).a (gd l k).sub.length (gd l k).cap] 60)) (.cells #[] 9))
            have SX := Lib.hid (Sl.mono ((hd.out k hlt).mono hb) A1)
            go_wp2_with (at_builtin; refine wpList_cat StrE.len StrE.one rfl (.tmp 43) (.tmp 45) 33 rfl (wr.heap.size + 1) 9 s' _ 16 Tryz.underlying33 hs' hy0 hy1 hy2 rfl (by omega) (.slice (some ⟨wr.heap.size + 1, 0, none⟩) 0 0) ([] : List ByteArray) rfl (Own.empty' (by simp) (by simp)) _ (gd l k).sub rfl SX.out (by simp [maxLen]; omega) (by simp; omega) (by simp) ?_)
            intro v2 w2 o2 g2
            obtain ⟨a2, cap2, b2', off2, rfl, -, -, -⟩ := o2.sl StrE.len
            have x0 : w2.cell? ⟨wr.heap.size, 0, none⟩ = some (.int .i64 (gd l k).id) := cellKept (by simp [go_sem]) g2 (by simp [Value.ownBlock])
            have x1 : w2.cell? ⟨wr.heap.size, 1, none⟩ = some (.int .i64 (gd l k).yr) := cellKept (by simp [go_sem]) g2 (by simp [Value.ownBlock])
            have x3 : w2.cell? ⟨wr.heap.size, 2, none⟩ = some (.slice (gd l k).a (gd l k).sub.length (gd l k).cap) := cellKept (by simp [go_sem]) g2 (by simp [Value.ownBlock])
            have z3 : w2.frozen? ⟨wr.heap.size, 2, none⟩ = false := (frozenKept (by simp; omega) g2 (by simp [Value.ownBlock])).trans (by simp [go_sem])
            have NO := Lib.hid ((hO.out.mono A1).turned (Turned.of_grown (lo := wr.heap.size + 1) (hi := wr.heap.size + 2) g2 (fun g hg => by have h2 : wr.heap.size + 1 = g := Option.some.inj hg; omega)) (.inl (by omega)))
            have B2 : Below w.heap.size w w2 := (btrans hb A1).grown g2 (by simp; omega) (fun q hq => by have h2 : wr.heap.size + 1 = q := Option.some.inj hq; omega)
            have hs2 : wr.heap.size + 1 ≤ w2.heap.size := by have := g2.size; simp at this; omega
            have hbx2 : wr.heap.size < w2.heap.size := hs2
            have o2' : Own w2 (wr.heap.size + 1) 9 StrE.enc 1 (.slice a2 (gd l k).sub.length cap2) (gd l k).sub := o2
            clear o2 g2 SX hO
            go_upto_region 10 with fail
            have hg3 : w2.grownBy (w2.setCell ⟨wr.heap.size, 2, none⟩ (.slice a2 (gd l k).sub.length cap2)) (some wr.heap.size) := only_setCell (World.grownBy.refl _ _) _ rfl _
            have y0 : (w2.setCell ⟨wr.heap.size, 2, none⟩ (.slice a2 (gd l k).sub.length cap2)).cell? ⟨wr.heap.size, 0, none⟩ = some (.int .i64 (gd l k).id) := by simp [go_sem, x0]
            have y1 : (w2.setCell ⟨wr.heap.size, 2, none⟩ (.slice a2 (gd l k).sub.length cap2)).cell? ⟨wr.heap.size, 1, none⟩ = some (.int .i64 (gd l k).yr) := by simp [go_sem, x1]
            have y3 : (w2.setCell ⟨wr.heap.size, 2, none⟩ (.slice a2 (gd l k).sub.length cap2)).cell? ⟨wr.heap.size, 2, none⟩ = some (.slice a2 (gd l k).sub.length cap2) := by simp [go_sem, x3]
            have zz : (w2.setCell ⟨wr.heap.size, 2, none⟩ (.slice a2 (gd l k).sub.length cap2)).frozen? ⟨wr.heap.size, 2, none⟩ = false := by simp [go_sem, z3]
            have B3 : Below w.heap.size w (w2.setCell ⟨wr.heap.size, 2, none⟩ (.slice a2 (gd l k).sub.length cap2)) := B2.setCell (by exact hzb) _
            generalize w2.setCell ⟨wr.heap.size, 2, none⟩ (.slice a2 (gd l k).sub.length cap2) = W3 at hg3 y0 y1 y3 zz B3 ⊢
            have N3 := Lib.hid (NO.out.turned (Turned.of_grown (lo := wr.heap.size) (hi := wr.heap.size + 1) hg3 (fun g hg => by injection hg with hg; omega)) (.inl (Nat.le_refl _)))
            have o3 : Own W3 (wr.heap.size + 1) 9 StrE.enc 1 (.slice a2 (gd l k).sub.length cap2) (gd l k).sub := o2'.kept hg3 (by
              cases hbk : Value.ownBlock _ with
              | none => exact .inl rfl
              | some g => exact .inr (fun e => by have := (o2'.bounds g hbk).1; injection e with e; omega))
            have o3b := o3.bounds
            have hs3 : wr.heap.size + 1 ≤ W3.heap.size := Nat.le_trans hs2 hg3.size
            have hbw3 : wr.heap.size < W3.heap.size := hs3
            clear x0 x1 x3 z3 hg3 B2 NO hbx2 o2'
            by_cases hki : k = ci
            · have hkb : ((k : Int) == (ci : Int)) = true := by simp [hki]
              have HP := Lib.hid (l24Put_c (.slice a2 (gd l k).sub.length cap2) (gd l k).sub wd W3 (o3.sl StrE.len) (by omega))
              have hB := Lib.hid (show (⟨(gd l k).id, (gd l k).yr, none, 0, putW wd (gd l k).sub⟩ : Crd) = awAt (putW wd) l ci k by rw [awAt, if_pos hki]; rfl)
              have hPl := putW_len wd (gd l k).sub
              clear hki o3 o3b
              go_wp2_with fail
              refine HP.out.mono ?_
              rintro e w4 ⟨v4, rfl, o4, b4⟩
              generalize putW wd (gd l k).sub = P at o4 hB hPl
              obtain ⟨a4, cap4, b4', off4, rfl, -, -, -⟩ := o4.sl StrE.len
              have x0 := cellOn b4 y0
              have x1 := cellOn b4 y1
              have x3 := cellOn b4 y3
              have z3 : w4.frozen? ⟨wr.heap.size, 2, none⟩ = false := (b4.frozen (p := ⟨wr.heap.size, 2, none⟩) hbw3).trans zz
              have NO := Lib.hid (N3.out.mono b4)
              have B2 := btrans B3 b4
              have hs2 : wr.heap.size + 1 ≤ w4.heap.size := Nat.le_trans hs3 b4.size
              have hbx2 : wr.heap.size < w4.heap.size := hs2
              have o2' : Own w4 (wr.heap.size + 1) 9 StrE.enc 1 (.slice a4 P.length cap4) P := o4.lower hs3
              clear y0 y1 y3 zz B3 N3 hs3 hbw3 b4 o4
              go_upto_region 12 with fail
              have hg3 : w4.grownBy (w4.setCell ⟨wr.heap.size, 2, none⟩ (.slice a4 P.length cap4)) (some wr.heap.size) := only_setCell (World.grownBy.refl _ _) _ rfl _
              have y0 : (w4.setCell ⟨wr.heap.size, 2, none⟩ (.slice a4 P.length cap4)).cell? ⟨wr.heap.size, 0, none⟩ = some (.int .i64 (gd l k).id) := by simp [go_sem, x0]
              have y1 : (w4.setCell ⟨wr.heap.size, 2, none⟩ (.slice a4 P.length cap4)).cell? ⟨wr.heap.size, 1, none⟩ = some (.int .i64 (gd l k).yr) := by simp [go_sem, x1]
              have y3 : (w4.setCell ⟨wr.heap.size, 2, none⟩ (.slice a4 P.length cap4)).cell? ⟨wr.heap.size, 2, none⟩ = some (.slice a4 P.length cap4) := by simp [go_sem, x3]
              have zz : (w4.setCell ⟨wr.heap.size, 2, none⟩ (.slice a4 P.length cap4)).frozen? ⟨wr.heap.size, 2, none⟩ = false := by simp [go_sem, z3]
              have B3 : Below w.heap.size w (w4.setCell ⟨wr.heap.size, 2, none⟩ (.slice a4 P.length cap4)) := B2.setCell (by exact hzb) _
              generalize w4.setCell ⟨wr.heap.size, 2, none⟩ (.slice a4 P.length cap4) = W5 at hg3 y0 y1 y3 zz B3 ⊢
              have N3 := Lib.hid (NO.out.turned (Turned.of_grown (lo := wr.heap.size) (hi := wr.heap.size + 1) hg3 (fun g hg => by injection hg with hg; omega)) (.inl (Nat.le_refl _)))
              have o3 : Own W5 (wr.heap.size + 1) 9 StrE.enc 1 (.slice a4 P.length cap4) P := o2'.kept hg3 (by
                cases hbk : Value.ownBlock _ with
                | none => exact .inl rfl
                | some g => exact .inr (fun e => by have := (o2'.bounds g hbk).1; injection e with e; omega))
              have o3b := o3.bounds
              have hs3 : wr.heap.size + 1 ≤ W5.heap.size := Nat.le_trans hs2 hg3.size
              have hbw3 : wr.heap.size < W5.heap.size := hs3
              clear x0 x1 x3 z3 hg3 B2 NO hbx2 o2'
              replace o3 := Lib.hid o3
              go_wp2_with (at_builtin; refine wpList_pushAt Crd.len Crd.one rfl (.tmp 56) (.tmp 58) 24 rfl w.heap.size 60 i' _ 40 Tryz.underlying24 hi' hz0 hz1 hz2 rfl (by omega) _ l' rfl (N3.out.own.mono (below_alloc _ _)) _ 1 { gd l k with a := a4, cap := cap4, sub := P } rfl (fun j u hu => new_cells _ (Crd.enc { gd l k with a := a4, cap := cap4, sub := P }) _ _ (by simp) j u hu) (by unfold maxLen; omega) (by omega) (by simp; omega) ?_)
              intro v' w5 ho5 hg5 hat5
              have N5 := Lib.hid ((N3.out.mono (below_alloc _ _)).push ho5 hg5 (by simpa using hat5) (by simp; omega) ((Own.mono o3.out (below_alloc _ _)).lower (by omega)) (fun b hb => by have := (o3b b hb).1; omega))
              have hb5 := below_push (lo := w.heap.size) (B := w.heap.size) (a := w) (B3.trans ((below_alloc _ _).mono B3.size)) (N3.out.own.mono (below_alloc _ _)) hg5 (Nat.le_refl _) (by simp; omega)
              have hbr5 := Lib.hid (awO_push hbr.out { gd l k with a := a4, cap := cap4, sub := P } (hB.out))
              clear ho5 hat5
              go_wp2_with fail
              go_roundw
              case rel => exact ⟨k + 1, _, by omega, by go_num, by simp [hll], hbr5.out, N5.out, hb5⟩
              case measure => simp [intOf]; omega
            · have hkb : ((k : Int) == (ci : Int)) = false := by simp; omega
              have hB := Lib.hid (show (gd l k).bare = awAt (putW wd) l ci k by rw [awAt, if_neg hki])
              clear hki
              replace o3 := Lib.hid o3
              go_wp2_with (at_builtin; refine wpList_pushAt Crd.len Crd.one rfl (.tmp 56) (.tmp 58) 24 rfl w.heap.size 60 i' _ 40 Tryz.underlying24 hi' hz0 hz1 hz2 rfl (by omega) _ l' rfl (N3.out.own.mono (below_alloc _ _)) _ 1 { gd l k with a := a2, cap := cap2, sub := (gd l k).sub } rfl (fun j u hu => new_cells _ (Crd.enc { gd l k with a := a2, cap := cap2, sub := (gd l k).sub }) _ _ (by simp) j u hu) (by unfold maxLen; omega) (by omega) (by simp; omega) ?_)
              intro v' w5 ho5 hg5 hat5
              have N5 := Lib.hid ((N3.out.mono (below_alloc _ _)).push ho5 hg5 (by simpa using hat5) (by simp; omega) ((Own.mono o3.out (below_alloc _ _)).lower (by omega)) (fun b hb => by have := (o3b b hb).1; omega))
              have hb5 := below_push (lo := w.heap.size) (B := w.heap.size) (a := w) (B3.trans ((below_alloc _ _).mono B3.size)) (N3.out.own.mono (below_alloc _ _)) hg5 (Nat.le_refl _) (by simp; omega)
              have hbr5 := Lib.hid (awO_push hbr.out { gd l k with a := a2, cap := cap2, sub := (gd l k).sub } (hB.out))
              clear ho5 hat5
              go_wp2_with fail
              go_roundw
              case rel => exact ⟨k + 1, _, by omega, by go_num, by simp [hll], hbr5.out, N5.out, hb5⟩
              case measure => simp [intOf]; omega
          · obtain rfl : k = l.length := by omega
            have hfit := awO_fits' hs hwd hcl hbr.out
            have HA2 := l24Good_c _ _ wr (hO.out.own.sl Crd.len) (Crd.OwnN.deep hO.out) hfit
            rw [areCrd_bare hbr.out] at HA2
            obtain ⟨ao, co, bo, oo, rfl, -, -, -⟩ := hO.out.own.sl Crd.len
            cases hAO : areCrd (awO (putW wd) l ci l.length)
            all_goals
              rw [hAO] at hI1 hI2 HA2
              replace HA2 := Lib.hid HA2
              obtain rfl := hI1.out
              clear hI1 hAO OW
              replace hll := Lib.hid hll
              go_wp2_with fail
              refine HA2.out.mono ?_
              rintro e w6 ⟨rfl, b6⟩
              go_wp2_with fail
              go_ret2
            · exact ⟨_, [], rfl, (NOwn.empty' (by simp) (by have := btrans hb b6; exact this.size)), by rw [hI2.out]; rfl, (btrans hb b6).alloc (btrans hb b6).size _⟩
            · exact ⟨_, _, rfl, (hO.out.mono b6).wide (Nat.le_refl _) b6.size, by rw [hI2.out, hbr.out]; rfl, btrans hb b6⟩
end Go.Proofs.YteainpflmofjaaaGreat
