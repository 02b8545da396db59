/- Cards: the nearest card, by the program and by the reference. No condition but sizes. -/
import Derived.Test.YteainpflmofjaaaGreatNp24
namespace Go.Proofs.YteainpflmofjaaaGreat
open Go.RowKit
def RetLen (N : Nat) (w : World) (e : Ending) (w' : World) : Prop := ∃ (a : Option Addr) (cap : Nat), e = .returned (.slice a N cap) ∧ Below w.heap.size w w'
theorem ret_nnb {a b c d : Int} {e f : Bool} (h : a = c) (h' : b = d) (h2 : e = f) : Ending.returned (.tuple #[.int .i64 a, .int .i64 b, .bool e]) = .returned (.tuple #[.int .i64 c, .int .i64 d, .bool f]) := by rw [h, h', h2]
theorem retLen {w w' : World} {e : TypeId} {l : List ByteArray} {en : Ending} {N : Nat} (h : RetOwn w e StrE.enc 1 l en w') (hN : l.length = N) : RetLen N w en w' := by
  obtain ⟨v, rfl, o, b⟩ := h
  obtain ⟨a, cap, _, _, rfl, _⟩ := o.sl StrE.len
  exact ⟨a, cap, by rw [hN], b⟩
theorem Crd.lens {l l' : List Crd} (h : l'.map Crd.bare = l.map Crd.bare) (hl : ∀ i, i < l.length → (gd l i).sub.length ≤ 1048576) : ∀ i, i < l'.length → (gd l' i).sub.length ≤ 1048576 := fun i hi => by
  have e : l'.length = l.length := by simpa using congrArg List.length h
  rw [(crd_same h i (by omega)).2.2.1]
  exact hl i (by omega)
theorem nearB_yes {l : List Crd} {n : Int} (h : nearB l n = true) : ∃ i, i < l.length ∧ crdIdx l n = some i ∧ areCrd l = true ∧ 2 ≤ l.length ∧ (gd l i).id = n ∧ nearV l n = nearTo l i l.length := by
  have h' := h
  simp only [nearB, Bool.and_eq_true] at h
  obtain ⟨i, hi⟩ := Option.isSome_iff_exists.1 h.1.2
  obtain ⟨h1, h2, _⟩ := findTo_spec hi
  exact ⟨i, h1, hi, h.1.1, of_decide_eq_true h.2, by simpa using h2, by rw [nearV, if_pos h', hi]; rfl⟩
set_option maxHeartbeats 4000000 in
set_option maxRecDepth 100000 in
theorem nearest_c (v : Value) (l : List Crd) (n : Int) (w : World) (h : Sl w Crd.enc 3 v l) (hd : Crd.Deep w l) (hs : ∀ i, i < l.length → StrE.Fits (gd l i).sub) (hl : ∀ i, i < l.length → (gd l i).sub.length ≤ 1048576) : Calls Tryz.prog 17 #[v, .int .i64 n] w fun e w' => e = .returned (.tuple #[.int .i64 (nearV l n).1, .int .i64 (nearV l n).2, .bool (nearB l n)]) ∧ Below w.heap.size w w' := by
  have HF := fun W (hB : Below w.heap.size w W) => cardAt_c v l n W (h.mono hB)
  have HG := fun W (hB : Below w.heap.size w W) => areCards_c v l W (h.mono hB) (hd.mono hB) hs
  obtain ⟨a, cap, b, off, rfl, hlc, hm, hc⟩ := h
  unfold maxLen at hm
  have hD := Lib.hid hd
  clear hd
  cases hB : nearB l n
  · have hV : nearV l n = (0, 0) := by rw [nearV, hB]; rfl
    rw [hV]
    cases hA : areCrd l <;> cases hk : crdIdx l n <;> by_cases h2 : 2 ≤ l.length
    all_goals try (exfalso; simp [nearB, hA, hk, h2] at hB; done)
    all_goals
      rw [hk] at HF
      rw [hA] at HG
      simp only [idxInt] at HF
      replace HF := Lib.hid HF
      replace HG := Lib.hid HG
      clear hA hk hB hV
      go_enter Tryz.func17, Tryz.ntmps17
      go_wp2_with (first | (go_at_call 30; refine (HF.out _ (by repeat' (first | exact Below.refl _ _ | with_reducible assumption | refine bext ?_ ?_ _ | refine Below.alloc ?_ ?_ _ | refine Below.setCell ?_ ?_ _ | refine Below.drew ?_ | (simp; done) | (have hbz := hb.size; first | omega | (simp; omega)) | (simp; omega) | omega))).mono ?_; rintro e w' ⟨rfl, hbq⟩; obtain ⟨p, rfl⟩ := ext_of_below hbq; clear hbq) | (go_at_call 31; refine (HG.out _ (by repeat' (first | exact Below.refl _ _ | with_reducible assumption | refine bext ?_ ?_ _ | refine Below.alloc ?_ ?_ _ | refine Below.setCell ?_ ?_ _ | refine Below.drew ?_ | (simp; done) | (have hbz := hb.size; first | omega | (simp; omega)) | (simp; omega) | omega))).mono ?_; rintro e w' ⟨rfl, hbq⟩; obtain ⟨p, rfl⟩ := ext_of_below hbq; clear hbq))
      all_goals first
        | (go_returns
           exact ⟨rfl, (by repeat' (first | exact Below.refl _ _ | with_reducible assumption | refine bext ?_ ?_ _ | refine Below.alloc ?_ ?_ _ | refine Below.setCell ?_ ?_ _ | refine Below.drew ?_ | (simp; done) | (have hbz := hb.size; first | omega | (simp; omega)) | (simp; omega) | omega))⟩)
        | (exfalso; omega)
  · obtain ⟨i, hi, hk, hA, h2, hn, hV⟩ := nearB_yes hB
    rw [hV]
    clear hV hB
    have HN := Lib.hid (fun k (hk : k < l.length) => nCom_sym hA hi hk)
    rw [hk] at HF
    rw [hA] at HG
    simp only [idxInt] at HF
    replace HF := Lib.hid HF
    replace HG := Lib.hid HG
    clear hk
    replace hA := Lib.hid hA
    replace hn := Lib.hid hn
    go_enter Tryz.func17, Tryz.ntmps17
    go_wp2_with (first | (go_at_call 30; refine (HF.out _ (by repeat' (first | exact Below.refl _ _ | with_reducible assumption | refine bext ?_ ?_ _ | refine Below.alloc ?_ ?_ _ | refine Below.setCell ?_ ?_ _ | refine Below.drew ?_ | (simp; done) | (have hbz := hb.size; first | omega | (simp; omega)) | (simp; omega) | omega))).mono ?_; rintro e w' ⟨rfl, hbq⟩; obtain ⟨p, rfl⟩ := ext_of_below hbq; clear hbq) | (go_at_call 31; refine (HG.out _ (by repeat' (first | exact Below.refl _ _ | with_reducible assumption | refine bext ?_ ?_ _ | refine Below.alloc ?_ ?_ _ | refine Below.setCell ?_ ?_ _ | refine Below.drew ?_ | (simp; done) | (have hbz := hb.size; first | omega | (simp; omega)) | (simp; omega) | omega))).mono ?_; rintro e w' ⟨rfl, hbq⟩; obtain ⟨p, rfl⟩ := ext_of_below hbq; clear hbq))
    go_loopw [8, 9, 30] (fun be mo ix wr => ∃ k : Nat, k ≤ l.length ∧ ix = .int .i64 k ∧ be = .int .i64 (nearTo l i k).1 ∧ mo = .int .i64 (nearTo l i k).2 ∧ Below w.heap.size w wr) (fun _ _ ix _ => l.length - (intOf ix).toNat)
    case atStart => exact ⟨0, Nat.zero_le _, rfl, rfl, rfl, (by repeat' (first | exact Below.refl _ _ | with_reducible assumption | refine bext ?_ ?_ _ | refine Below.alloc ?_ ?_ _ | refine Below.setCell ?_ ?_ _ | refine Below.drew ?_ | (simp; done) | (have hbz := hb.size; first | omega | (simp; omega)) | (simp; omega) | omega))⟩
    case round =>
      obtain ⟨k, hk, rfl, rfl, rfl, hb⟩ := hrel
      by_cases hlt : k < l.length
      · obtain ⟨rfl, hbw, c0, c1, c2⟩ := Crd.at (hc.mono hb) k hlt
        obtain ⟨_, _, d0, d1, d2⟩ := Crd.at (hc.mono hb) i hi
        have hC : ∀ W, Below w.heap.size w W → Calls Tryz.prog 48 #[.agg #[.int .i64 (gd l k).id, .int .i64 (gd l k).yr, .slice (gd l k).a (gd l k).sub.length (gd l k).cap], .agg #[.int .i64 (gd l i).id, .int .i64 (gd l i).yr, .slice (gd l i).a (gd l i).sub.length (gd l i).cap]] W (RetLen (nCom l i k) W) := fun W hB => (common_c (gd l k) (gd l i) W ((hD.out _ hlt).mono hB) ((hD.out _ hi).mono hB) (hl _ hlt)).mono fun e w' hr => retLen hr rfl
        replace hC := Lib.hid hC
        have hA := hA.out
        have hq : (gd l k).id = n ↔ k = i := by rw [← hn.out]; exact crd_id_iff hA hi hlt
        clear hA
        go_wp2_with fail
        refine wpAt fun W5 e5 => ?_
        have B5 : Below wr.heap.size wr W5 := by rw [e5]; first | exact below_alloc _ _ | exact Below.refl _ _
        have HS : (Below w.heap.size w W5 ∧ w.heap.size ≤ W5.heap.size) ∧ W5.cell? ⟨wr.heap.size, 0, none⟩ = some (.int .i64 (gd l k).id) ∧ W5.cell? ⟨wr.heap.size, 1, none⟩ = some (.int .i64 (gd l k).yr) ∧ W5.cell? ⟨wr.heap.size, 2, none⟩ = some (.slice (gd l k).a (gd l k).sub.length (gd l k).cap) ∧ W5.cell? ⟨b, off + i * 3, none⟩ = some (.int .i64 (gd l i).id) ∧ W5.cell? ⟨b, off + i * 3 + 1, none⟩ = some (.int .i64 (gd l i).yr) ∧ W5.cell? ⟨b, off + i * 3 + 2, none⟩ = some (.slice (gd l i).a (gd l i).sub.length (gd l i).cap) := ⟨⟨btrans hb B5, Nat.le_trans hb.size B5.size⟩, by rw [e5]; simp, by rw [e5]; simp, by rw [e5]; simp, cellOn B5 d0, cellOn B5 d1, cellOn B5 d2⟩
        clear e5
        have D := drewOn W5
        go_region_held3 (fun W => (Below w.heap.size w W ∧ w.heap.size ≤ W.heap.size) ∧ W.cell? ⟨wr.heap.size, 0, none⟩ = some (.int .i64 (gd l k).id) ∧ W.cell? ⟨wr.heap.size, 1, none⟩ = some (.int .i64 (gd l k).yr) ∧ W.cell? ⟨wr.heap.size, 2, none⟩ = some (.slice (gd l k).a (gd l k).sub.length (gd l k).cap) ∧ W.cell? ⟨b, off + i * 3, none⟩ = some (.int .i64 (gd l i).id) ∧ W.cell? ⟨b, off + i * 3 + 1, none⟩ = some (.int .i64 (gd l i).yr) ∧ W.cell? ⟨b, off + i * 3 + 2, none⟩ = some (.slice (gd l i).a (gd l i).sub.length (gd l i).cap)) (refine keep6 (by assumption) (by assumption))
          (first | (go_at_call 48; refine (hC.out _ (And.left (And.left (by assumption : (Below w.heap.size w _ ∧ _) ∧ _)))).mono ?_; rintro e w7 ⟨ae, cape, rfl, b7⟩))
        rename_i w7 _ hH
        obtain ⟨⟨hB7, _⟩, y0, y1, y2, y3, y4, y5⟩ := hH
        by_cases hki : k = i
        · replace hq := hq.2 hki
          have ho := Lib.hid (nearTo_no (l := l) (i := i) (k := k) (fun h => h.1 hki))
          clear hki
          go_wp2_with fail
          go_roundw
          case rel => exact ⟨k + 1, by omega, by go_num, by rw [ho.out], by rw [ho.out], hB7⟩
          case measure => simp [intOf]; omega
        · replace hq : ¬ (gd l k).id = n := fun e => hki (hq.1 e)
          have hq2 : ((gd l k).id != n) = true := by simpa using hq
          by_cases hmm : (nearTo l i k).2 < nCom l i k
          · have ho := Lib.hid (nearTo_yes hki hmm)
            clear hki
            go_wp2_with fail
            go_roundw
            case rel => exact ⟨k + 1, by omega, by go_num, by rw [ho.out], by rw [ho.out], hB7⟩
            case measure => simp [intOf]; omega
          · have ho := Lib.hid (nearTo_no (l := l) (i := i) (k := k) (fun h => hmm h.2))
            clear hki
            go_wp2_with fail
            go_roundw
            case rel => exact ⟨k + 1, by omega, by go_num, by rw [ho.out], by rw [ho.out], hB7⟩
            case measure => simp [intOf]; omega
      · obtain rfl : k = l.length := by omega
        go_wp2_with fail
        go_returns
        exact ⟨rfl, hb⟩
set_option maxHeartbeats 4000000 in
set_option maxRecDepth 100000 in
theorem specNearest_c (v : Value) (l : List Crd) (n : Int) (w : World) (h : Sl w Crd.enc 3 v l) (hd : Crd.Deep w l) (hs : ∀ i, i < l.length → StrE.Fits (gd l i).sub) (hl : ∀ i, i < l.length → (gd l i).sub.length ≤ 1048576) : Calls Tryz.prog 18 #[v, .int .i64 n] w fun e w' => e = .returned (.tuple #[.int .i64 (nearV l n).1, .int .i64 (nearV l n).2, .bool (nearB l n)]) ∧ Below w.heap.size w w' := by
  have HF := fun W (hB : Below w.heap.size w W) => l24Find_c v l n W (h.mono hB)
  have HG := fun W (hB : Below w.heap.size w W) => l24Good_c v l W (h.mono hB) (hd.mono hB) hs
  obtain ⟨a, cap, b, off, rfl, hlc, hm, hc⟩ := h
  unfold maxLen at hm
  have hD := Lib.hid hd
  clear hd
  cases hB : nearB l n
  · have hV : nearV l n = (0, 0) := by rw [nearV, hB]; rfl
    rw [hV]
    cases hA : areCrd l <;> cases hk : crdIdx l n <;> by_cases h2 : 2 ≤ l.length
    all_goals try (exfalso; simp [nearB, hA, hk, h2] at hB; done)
    all_goals
      rw [hk] at HF
      rw [hA] at HG
      simp only [idxInt] at HF
      replace HF := Lib.hid HF
      replace HG := Lib.hid HG
      clear hA hk hB hV
      go_enter Tryz.func18, Tryz.ntmps18
      go_wp2_with (first | (go_at_call 34; refine (HF.out _ (by repeat' (first | exact Below.refl _ _ | with_reducible assumption | refine bext ?_ ?_ _ | refine Below.alloc ?_ ?_ _ | refine Below.setCell ?_ ?_ _ | refine Below.drew ?_ | (simp; done) | (have hbz := hb.size; first | omega | (simp; omega)) | (simp; omega) | omega))).mono ?_; rintro e w' ⟨rfl, rfl⟩) | (go_at_call 35; refine (HG.out _ (by repeat' (first | exact Below.refl _ _ | with_reducible assumption | refine bext ?_ ?_ _ | refine Below.alloc ?_ ?_ _ | refine Below.setCell ?_ ?_ _ | refine Below.drew ?_ | (simp; done) | (have hbz := hb.size; first | omega | (simp; omega)) | (simp; omega) | omega))).mono ?_; rintro e w' ⟨rfl, hbq⟩; obtain ⟨p, rfl⟩ := ext_of_below hbq; clear hbq))
      all_goals first
        | (go_returns
           exact ⟨rfl, (by repeat' (first | exact Below.refl _ _ | with_reducible assumption | refine bext ?_ ?_ _ | refine Below.alloc ?_ ?_ _ | refine Below.setCell ?_ ?_ _ | refine Below.drew ?_ | (simp; done) | (have hbz := hb.size; first | omega | (simp; omega)) | (simp; omega) | omega))⟩)
        | (exfalso; omega)
  · obtain ⟨i, hi, hk, hA, h2, hn, hV⟩ := nearB_yes hB
    rw [hV]
    clear hV hB
    have HN := Lib.hid (fun k (hk : k < l.length) => nCom_sym hA hi hk)
    rw [hk] at HF
    rw [hA] at HG
    simp only [idxInt] at HF
    replace HF := Lib.hid HF
    replace HG := Lib.hid HG
    clear hk
    replace hA := Lib.hid hA
    replace hn := Lib.hid hn
    go_enter Tryz.func18, Tryz.ntmps18
    go_wp2_with (first | (go_at_call 34; refine (HF.out _ (by repeat' (first | exact Below.refl _ _ | with_reducible assumption | refine bext ?_ ?_ _ | refine Below.alloc ?_ ?_ _ | refine Below.setCell ?_ ?_ _ | refine Below.drew ?_ | (simp; done) | (have hbz := hb.size; first | omega | (simp; omega)) | (simp; omega) | omega))).mono ?_; rintro e w' ⟨rfl, rfl⟩) | (go_at_call 35; refine (HG.out _ (by repeat' (first | exact Below.refl _ _ | with_reducible assumption | refine bext ?_ ?_ _ | refine Below.alloc ?_ ?_ _ | refine Below.setCell ?_ ?_ _ | refine Below.drew ?_ | (simp; done) | (have hbz := hb.size; first | omega | (simp; omega)) | (simp; omega) | omega))).mono ?_; rintro e w' ⟨rfl, hbq⟩; obtain ⟨p, rfl⟩ := ext_of_below hbq; clear hbq))
    go_loopw [8, 9, 10] (fun be mo ix wr => ∃ k : Nat, k ≤ l.length ∧ ix = .int .i64 k ∧ be = .int .i64 (nearTo l i k).1 ∧ mo = .int .i64 (nearTo l i k).2 ∧ Below w.heap.size w wr) (fun _ _ ix _ => l.length - (intOf ix).toNat)
    case atStart => exact ⟨0, Nat.zero_le _, rfl, rfl, rfl, (by repeat' (first | exact Below.refl _ _ | with_reducible assumption | refine bext ?_ ?_ _ | refine Below.alloc ?_ ?_ _ | refine Below.setCell ?_ ?_ _ | refine Below.drew ?_ | (simp; done) | (have hbz := hb.size; first | omega | (simp; omega)) | (simp; omega) | omega))⟩
    case round =>
      obtain ⟨k, hk, rfl, rfl, rfl, hb⟩ := hrel
      by_cases hlt : k < l.length
      · obtain ⟨rfl, hbw, c0, c1, c2⟩ := Crd.at (hc.mono hb) k hlt
        obtain ⟨_, _, d0, d1, d2⟩ := Crd.at (hc.mono hb) i hi
        have hC : ∀ W, Below w.heap.size w W → Calls Tryz.prog 49 #[.agg #[.int .i64 (gd l i).id, .int .i64 (gd l i).yr, .slice (gd l i).a (gd l i).sub.length (gd l i).cap], .agg #[.int .i64 (gd l k).id, .int .i64 (gd l k).yr, .slice (gd l k).a (gd l k).sub.length (gd l k).cap]] W (RetLen (nCom l i k) W) := fun W hB => (l24Common_c (gd l i) (gd l k) W ((hD.out _ hi).mono hB) ((hD.out _ hlt).mono hB) (hl _ hi)).mono fun e w' hr => retLen hr (HN.out k hlt)
        replace hC := Lib.hid hC
        have hA := hA.out
        have hq : (k : Int) = (i : Int) ↔ k = i := by omega
        clear hA
        go_wp2_with fail
        refine wpAt fun W5 e5 => ?_
        have B5 : Below wr.heap.size wr W5 := by rw [e5]; first | exact below_alloc _ _ | exact Below.refl _ _
        have HS : (Below w.heap.size w W5 ∧ w.heap.size ≤ W5.heap.size) ∧ W5.cell? ⟨b, off + k * 3, none⟩ = some (.int .i64 (gd l k).id) ∧ W5.cell? ⟨b, off + k * 3 + 1, none⟩ = some (.int .i64 (gd l k).yr) ∧ W5.cell? ⟨b, off + k * 3 + 2, none⟩ = some (.slice (gd l k).a (gd l k).sub.length (gd l k).cap) ∧ W5.cell? ⟨b, off + i * 3, none⟩ = some (.int .i64 (gd l i).id) ∧ W5.cell? ⟨b, off + i * 3 + 1, none⟩ = some (.int .i64 (gd l i).yr) ∧ W5.cell? ⟨b, off + i * 3 + 2, none⟩ = some (.slice (gd l i).a (gd l i).sub.length (gd l i).cap) := ⟨⟨btrans hb B5, Nat.le_trans hb.size B5.size⟩, cellOn B5 c0, cellOn B5 c1, cellOn B5 c2, cellOn B5 d0, cellOn B5 d1, cellOn B5 d2⟩
        clear e5
        have D := drewOn W5
        go_region_held3 (fun W => (Below w.heap.size w W ∧ w.heap.size ≤ W.heap.size) ∧ W.cell? ⟨b, off + k * 3, none⟩ = some (.int .i64 (gd l k).id) ∧ W.cell? ⟨b, off + k * 3 + 1, none⟩ = some (.int .i64 (gd l k).yr) ∧ W.cell? ⟨b, off + k * 3 + 2, none⟩ = some (.slice (gd l k).a (gd l k).sub.length (gd l k).cap) ∧ W.cell? ⟨b, off + i * 3, none⟩ = some (.int .i64 (gd l i).id) ∧ W.cell? ⟨b, off + i * 3 + 1, none⟩ = some (.int .i64 (gd l i).yr) ∧ W.cell? ⟨b, off + i * 3 + 2, none⟩ = some (.slice (gd l i).a (gd l i).sub.length (gd l i).cap)) (refine keep6 (by assumption) (by assumption))
          (first | (go_at_call 49; refine (hC.out _ (And.left (And.left (by assumption : (Below w.heap.size w _ ∧ _) ∧ _)))).mono ?_; rintro e w7 ⟨ae, cape, rfl, b7⟩))
        rename_i w7 _ hH
        obtain ⟨⟨hB7, _⟩, y0, y1, y2, y3, y4, y5⟩ := hH
        by_cases hki : k = i
        · replace hq := hq.2 hki
          have ho := Lib.hid (nearTo_no (l := l) (i := i) (k := k) (fun h => h.1 hki))
          clear hki
          go_wp2_with fail
          go_roundw
          case rel => exact ⟨k + 1, by omega, by go_num, by rw [ho.out], by rw [ho.out], hB7⟩
          case measure => simp [intOf]; omega
        · replace hq : ¬ (k : Int) = (i : Int) := fun e => hki (hq.1 e)
          have hq2 : ((k : Int) != (i : Int)) = true := by simpa using hq
          by_cases hmm : (nearTo l i k).2 < nCom l i k
          · have ho := Lib.hid (nearTo_yes hki hmm)
            clear hki
            go_wp2_with fail
            go_roundw
            case rel => exact ⟨k + 1, by omega, by go_num, by rw [ho.out], by rw [ho.out], hB7⟩
            case measure => simp [intOf]; omega
          · have ho := Lib.hid (nearTo_no (l := l) (i := i) (k := k) (fun h => hmm h.2))
            clear hki
            go_wp2_with fail
            go_roundw
            case rel => exact ⟨k + 1, by omega, by go_num, by rw [ho.out], by rw [ho.out], hB7⟩
            case measure => simp [intOf]; omega
      · obtain rfl : k = l.length := by omega
        go_wp2_with fail
        go_returns
        exact ⟨rfl, hb⟩
end Go.Proofs.YteainpflmofjaaaGreat
