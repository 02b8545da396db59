/- Cards: the words that two cards of a list have. By the program and by the reference. No condition but sizes. -/
import Derived.Test.YteainpflmofjaaaGreatNw24
import Derived.Deep.RegionHeld3
import Derived.Deep.Cut
namespace Go.Proofs.YteainpflmofjaaaGreat
open Go.RowKit
def cwG (l : List Crd) (a b : Int) : Bool := areCrd l && (crdIdx l a).isSome && (crdIdx l b).isSome
def cwL (l : List Crd) (a b : Int) : List ByteArray := if cwG l a b then commonL (gd l ((crdIdx l a).getD 0)).sub (gd l ((crdIdx l b).getD 0)).sub else []
theorem crdIdx_at {l : List Crd} {n : Int} {k : Nat} (h : crdIdx l n = some k) : k < l.length := (findTo_spec h).1
theorem cw_some {l : List Crd} {a b : Int} (h : cwG l a b = true) : ∃ i k, i < l.length ∧ k < l.length ∧ areCrd l = true ∧ crdIdx l a = some i ∧ crdIdx l b = some k ∧ cwL l a b = commonL (gd l i).sub (gd l k).sub := by
  have h0 := h
  simp only [cwG, Bool.and_eq_true] at h
  obtain ⟨i, hi⟩ := Option.isSome_iff_exists.1 h.1.2
  obtain ⟨k, hk⟩ := Option.isSome_iff_exists.1 h.2
  exact ⟨i, k, crdIdx_at hi, crdIdx_at hk, h.1.1, hi, hk, by rw [cwL, if_pos h0, hi, hk]; rfl⟩
theorem cw_same {l l' : List Crd} (h : l'.map Crd.bare = l.map Crd.bare) (a b : Int) : cwL l' a b = cwL l a b ∧ cwG l' a b = cwG l a b := by
  have hg : cwG l' a b = cwG l a b := by rw [cwG, cwG, areCrd_same h, crdIdx_same h, crdIdx_same h]
  refine ⟨?_, hg⟩
  cases hh : cwG l a b
  · rw [cwL, cwL, hg, hh]; rfl
  · obtain ⟨i, k, hi, hk, _, e1, e2, e3⟩ := cw_some hh
    rw [e3, cwL, if_pos (by rw [hg]; exact hh), crdIdx_same h, crdIdx_same h, e1, e2]
    show commonL (gd l' i).sub (gd l' k).sub = _
    rw [(crd_same h i hi).2.2.1, (crd_same h k hk).2.2.1]
theorem areCrd_sub {l : List Crd} (h : areCrd l = true) (i : Nat) (hi : i < l.length) : (gd l i).sub.length ≤ 6 := by
  have h1 : isCrd (gd l i) = true := by
    simp only [areCrd, Bool.and_eq_true, allTo_iff] at h
    have := h.1 i hi
    simp only [crdAt, Bool.and_eq_true] at this
    exact this.1
  rw [isCrd_words] at h1
  simp only [Bool.and_eq_true, words6, decide_eq_true_eq] at h1
  exact h1.1.2.1
theorem cwL_len (l : List Crd) (a b : Int) : (cwL l a b).length ≤ 6 := by
  cases hh : cwG l a b
  · rw [cwL, hh]; simp
  · obtain ⟨i, k, hi, hk, hA, e1, e2, e3⟩ := cw_some hh
    rw [e3]
    have := commonL_len (gd l i).sub (gd l k).sub
    have := areCrd_sub hA i hi
    omega
theorem cw_way (l : List Crd) (a b : Int) (h : cwG l a b = false) : areCrd l = false ∨ (areCrd l = true ∧ idxInt (crdIdx l a) < 0) ∨ (areCrd l = true ∧ ¬ idxInt (crdIdx l a) < 0 ∧ idxInt (crdIdx l b) < 0) := by
  unfold cwG at h
  cases hA : areCrd l
  · exact .inl rfl
  · rw [hA] at h
    cases ha : crdIdx l a with
    | none => exact .inr (.inl ⟨rfl, by simp [idxInt]⟩)
    | some i =>
      rw [ha] at h
      cases hb : crdIdx l b with
      | none => exact .inr (.inr ⟨rfl, by simp [idxInt], by simp [idxInt]⟩)
      | some k => rw [hb] at h; simp at h
set_option maxHeartbeats 4000000 in
set_option maxRecDepth 100000 in
theorem commonWords_c (v : Value) (l : List Crd) (x y : Int) (w : World) (h : Sl w Crd.enc 3 v l) (hd : Crd.Deep w l) (hs : ∀ i, i < l.length → StrE.Fits (gd l i).sub) : Calls Tryz.prog 13 #[v, .int .i64 x, .int .i64 y] w (RetSlB w 9 StrE.enc 1 (cwL l x y) (cwG l x y)) := by
  have HA := Lib.hid (fun W (hB : Below w.heap.size w W) => areCards_c v l W (h.mono hB) (hd.mono hB) hs)
  have HT1 := Lib.hid (fun W (hB : Below w.heap.size w W) => cardAt_c v l x W (h.mono hB))
  have HT2 := Lib.hid (fun W (hB : Below w.heap.size w W) => cardAt_c v l y W (h.mono hB))
  obtain ⟨a, cap, b, off, rfl, hlc, hm, hc⟩ := h
  unfold maxLen at hm
  cases hg : cwG l x y
  · have hL : cwL l x y = [] := by rw [cwL, hg]; rfl
    rw [hL]
    have hway := cw_way l x y hg
    clear hg hL
    generalize areCrd l = ok at hway HA
    generalize idxInt (crdIdx l x) = p at hway HT1
    generalize idxInt (crdIdx l y) = q at hway HT2
    rcases hway with rfl | ⟨rfl, h1⟩ | ⟨rfl, h1, h2⟩
    all_goals
      go_enter Tryz.func13, Tryz.ntmps13
      go_wp2_with (first | (go_at_call 30; refine (HT1.out _ (by repeat' (first | exact Below.refl _ _ | with_reducible assumption | refine bext ?_ ?_ _ | refine Below.alloc ?_ ?_ _ | refine Below.setCell ?_ ?_ _ | refine Below.drew ?_ | (simp; done) | (have hbz := hb.size; first | omega | (simp; omega)) | (simp; omega) | omega))).mono ?_; rintro e w' ⟨rfl, hbq⟩; obtain ⟨p1, rfl⟩ := ext_of_below hbq; clear hbq HT1) | (go_at_call 30; refine (HT2.out _ (by repeat' (first | exact Below.refl _ _ | with_reducible assumption | refine bext ?_ ?_ _ | refine Below.alloc ?_ ?_ _ | refine Below.setCell ?_ ?_ _ | refine Below.drew ?_ | (simp; done) | (have hbz := hb.size; first | omega | (simp; omega)) | (simp; omega) | omega))).mono ?_; rintro e w' ⟨rfl, hbq⟩; obtain ⟨p2, rfl⟩ := ext_of_below hbq; clear hbq) | (go_at_call 31; refine (HA.out _ (by repeat' (first | exact Below.refl _ _ | with_reducible assumption | refine bext ?_ ?_ _ | refine Below.alloc ?_ ?_ _ | refine Below.setCell ?_ ?_ _ | refine Below.drew ?_ | (simp; done) | (have hbz := hb.size; first | omega | (simp; omega)) | (simp; omega) | omega))).mono ?_; rintro e w' ⟨rfl, hbq⟩; obtain ⟨p, rfl⟩ := ext_of_below hbq; clear hbq))
      go_ret2
      exact ⟨_, rfl, Own.nil _ _ _ _ _, (by repeat' (first | exact Below.refl _ _ | with_reducible assumption | refine bext ?_ ?_ _ | refine Below.alloc ?_ ?_ _ | refine Below.setCell ?_ ?_ _ | refine Below.drew ?_ | (simp; done) | (have hbz := hb.size; first | omega | (simp; omega)) | (simp; omega) | omega))⟩
  · obtain ⟨i, k, hi, hk, hA, e1, e2, e3⟩ := cw_some hg
    rw [e3]
    rw [hA] at HA
    rw [e1] at HT1
    rw [e2] at HT2
    replace HA := Lib.hid HA.out
    have hC := Lib.hid (fun W (hB : Below w.heap.size w W) => common_c (gd l i) (gd l k) W ((hd i hi).mono hB) ((hd k hk).mono hB) (by have := areCrd_sub hA i hi; omega))
    replace HT1 : Hid (∀ W (hB : Below w.heap.size w W), Calls Tryz.prog 30 #[_, .int .i64 x] W fun e w' => e = .returned (.int .i64 (i : Int)) ∧ Below W.heap.size W w') := HT1
    replace HT2 : Hid (∀ W (hB : Below w.heap.size w W), Calls Tryz.prog 30 #[_, .int .i64 y] W fun e w' => e = .returned (.int .i64 (k : Int)) ∧ Below W.heap.size W w') := HT2
    have hi0 : decide ((i : Int) < 0) = false := by simp
    have hk0 : decide ((k : Int) < 0) = false := by simp
    obtain ⟨rfl, -⟩ := hc i hi
    clear hg e1 e2 e3 hA hd hs
    go_enter Tryz.func13, Tryz.ntmps13
    go_upto_region 4 with (first | (go_at_call 30; refine (HT1.out _ (by repeat' (first | exact Below.refl _ _ | with_reducible assumption | refine bext ?_ ?_ _ | refine Below.alloc ?_ ?_ _ | refine Below.setCell ?_ ?_ _ | refine Below.drew ?_ | (simp; done) | (have hbz := hb.size; first | omega | (simp; omega)) | (simp; omega) | omega))).mono ?_; rintro e w' ⟨rfl, hbq⟩; obtain ⟨p1, rfl⟩ := ext_of_below hbq; clear hbq HT1) | (go_at_call 30; refine (HT2.out _ (by repeat' (first | exact Below.refl _ _ | with_reducible assumption | refine bext ?_ ?_ _ | refine Below.alloc ?_ ?_ _ | refine Below.setCell ?_ ?_ _ | refine Below.drew ?_ | (simp; done) | (have hbz := hb.size; first | omega | (simp; omega)) | (simp; omega) | omega))).mono ?_; rintro e w' ⟨rfl, hbq⟩; obtain ⟨p2, rfl⟩ := ext_of_below hbq; clear hbq) | (go_at_call 31; refine (HA.out _ (by repeat' (first | exact Below.refl _ _ | with_reducible assumption | refine bext ?_ ?_ _ | refine Below.alloc ?_ ?_ _ | refine Below.setCell ?_ ?_ _ | refine Below.drew ?_ | (simp; done) | (have hbz := hb.size; first | omega | (simp; omega)) | (simp; omega) | omega))).mono ?_; rintro e w' ⟨rfl, hbq⟩; obtain ⟨p, rfl⟩ := ext_of_below hbq; clear hbq))
    refine wpAt fun W hW => ?_
    have BW : Below w.heap.size w W := by rw [hW]; exact (by repeat' (first | exact Below.refl _ _ | with_reducible assumption | refine bext ?_ ?_ _ | refine Below.alloc ?_ ?_ _ | refine Below.setCell ?_ ?_ _ | refine Below.drew ?_ | (simp; done) | (have hbz := hb.size; first | omega | (simp; omega)) | (simp; omega) | omega))
    clear hW
    obtain ⟨-, hbw, c0, c1, c2⟩ := Crd.at (hc.mono BW) i hi
    obtain ⟨-, -, d0, d1, d2⟩ := Crd.at (hc.mono BW) k hk
    generalize gd l i = X at *
    generalize gd l k = Y at *
    have HS : (Below w.heap.size w W ∧ w.heap.size ≤ W.heap.size) ∧ W.cell? ⟨b, off + i * 3, none⟩ = some (.int .i64 X.id) ∧ W.cell? ⟨b, off + i * 3 + 1, none⟩ = some (.int .i64 X.yr) ∧ W.cell? ⟨b, off + i * 3 + 2, none⟩ = some (.slice X.a X.sub.length X.cap) ∧ W.cell? ⟨b, off + k * 3, none⟩ = some (.int .i64 Y.id) ∧ W.cell? ⟨b, off + k * 3 + 1, none⟩ = some (.int .i64 Y.yr) ∧ W.cell? ⟨b, off + k * 3 + 2, none⟩ = some (.slice Y.a Y.sub.length Y.cap) := ⟨⟨BW, BW.size⟩, c0, c1, c2, d0, d1, d2⟩
    have D := drewOn W
    clear c0 c1 c2 d0 d1 d2 BW
    go_region_held3 (fun W => (Below w.heap.size w W ∧ w.heap.size ≤ W.heap.size) ∧ W.cell? ⟨b, off + i * 3, none⟩ = some (.int .i64 X.id) ∧ W.cell? ⟨b, off + i * 3 + 1, none⟩ = some (.int .i64 X.yr) ∧ W.cell? ⟨b, off + i * 3 + 2, none⟩ = some (.slice X.a X.sub.length X.cap) ∧ W.cell? ⟨b, off + k * 3, none⟩ = some (.int .i64 Y.id) ∧ W.cell? ⟨b, off + k * 3 + 1, none⟩ = some (.int .i64 Y.yr) ∧ W.cell? ⟨b, off + k * 3 + 2, none⟩ = some (.slice Y.a Y.sub.length Y.cap)) (first | assumption | (refine keep6 (by assumption) (by assumption)) | fail)
      (first | (go_at_call 48; refine (hC.out _ (And.left (And.left (by assumption)))).mono ?_; rintro e w8 ⟨v8, rfl, o8, b8⟩; have hw8 := Nat.le_refl 0) | fail)
    rename_i _ hH
    have hzW := HS.1.2
    have hzD := D.size
    go_wp2_with fail
    go_ret2
    exact ⟨_, rfl, o8.lower (by omega), hH.1.1⟩
set_option maxHeartbeats 4000000 in
set_option maxRecDepth 100000 in
theorem specCommonWords_c (v : Value) (l : List Crd) (x y : Int) (w : World) (h : Sl w Crd.enc 3 v l) (hd : Crd.Deep w l) (hs : ∀ i, i < l.length → StrE.Fits (gd l i).sub) : Calls Tryz.prog 14 #[v, .int .i64 x, .int .i64 y] w (RetSlB w 9 StrE.enc 1 (cwL l x y) (cwG l x y)) := by
  have HA := Lib.hid (fun W (hB : Below w.heap.size w W) => l24Good_c v l W (h.mono hB) (hd.mono hB) hs)
  have HT1 := Lib.hid (fun W (hB : Below w.heap.size w W) => l24Find_c v l x W (h.mono hB))
  have HT2 := Lib.hid (fun W (hB : Below w.heap.size w W) => l24Find_c v l y W (h.mono hB))
  obtain ⟨a, cap, b, off, rfl, hlc, hm, hc⟩ := h
  unfold maxLen at hm
  cases hg : cwG l x y
  · have hL : cwL l x y = [] := by rw [cwL, hg]; rfl
    rw [hL]
    have hway := cw_way l x y hg
    clear hg hL
    generalize areCrd l = ok at hway HA
    generalize idxInt (crdIdx l x) = p at hway HT1
    generalize idxInt (crdIdx l y) = q at hway HT2
    rcases hway with rfl | ⟨rfl, h1⟩ | ⟨rfl, h1, h2⟩
    all_goals
      go_enter Tryz.func14, Tryz.ntmps14
      go_wp2_with (first | (go_at_call 34; refine (HT1.out _ (by repeat' (first | exact Below.refl _ _ | with_reducible assumption | refine bext ?_ ?_ _ | refine Below.alloc ?_ ?_ _ | refine Below.setCell ?_ ?_ _ | refine Below.drew ?_ | (simp; done) | (have hbz := hb.size; first | omega | (simp; omega)) | (simp; omega) | omega))).mono ?_; rintro e w' ⟨rfl, rfl⟩; clear HT1) | (go_at_call 34; refine (HT2.out _ (by repeat' (first | exact Below.refl _ _ | with_reducible assumption | refine bext ?_ ?_ _ | refine Below.alloc ?_ ?_ _ | refine Below.setCell ?_ ?_ _ | refine Below.drew ?_ | (simp; done) | (have hbz := hb.size; first | omega | (simp; omega)) | (simp; omega) | omega))).mono ?_; rintro e w' ⟨rfl, rfl⟩) | (go_at_call 35; refine (HA.out _ (by repeat' (first | exact Below.refl _ _ | with_reducible assumption | refine bext ?_ ?_ _ | refine Below.alloc ?_ ?_ _ | refine Below.setCell ?_ ?_ _ | refine Below.drew ?_ | (simp; done) | (have hbz := hb.size; first | omega | (simp; omega)) | (simp; omega) | omega))).mono ?_; rintro e w' ⟨rfl, hbq⟩; obtain ⟨p, rfl⟩ := ext_of_below hbq; clear hbq))
      go_ret2
      exact ⟨_, rfl, Own.empty' (by simp) (by simp), (by repeat' (first | exact Below.refl _ _ | with_reducible assumption | refine bext ?_ ?_ _ | refine Below.alloc ?_ ?_ _ | refine Below.setCell ?_ ?_ _ | refine Below.drew ?_ | (simp; done) | (have hbz := hb.size; first | omega | (simp; omega)) | (simp; omega) | omega))⟩
  · obtain ⟨i, k, hi, hk, hA, e1, e2, e3⟩ := cw_some hg
    rw [e3]
    rw [hA] at HA
    rw [e1] at HT1
    rw [e2] at HT2
    replace HA := Lib.hid HA.out
    have hC := Lib.hid (fun W (hB : Below w.heap.size w W) => l24Common_c (gd l i) (gd l k) W ((hd i hi).mono hB) ((hd k hk).mono hB) (by have := areCrd_sub hA i hi; omega))
    replace HT1 : Hid (∀ W (hB : Below w.heap.size w W), Calls Tryz.prog 34 #[_, .int .i64 x] W fun e w' => e = .returned (.int .i64 (i : Int)) ∧ W = w') := HT1
    replace HT2 : Hid (∀ W (hB : Below w.heap.size w W), Calls Tryz.prog 34 #[_, .int .i64 y] W fun e w' => e = .returned (.int .i64 (k : Int)) ∧ W = w') := HT2
    have hi0 : decide ((i : Int) < 0) = false := by simp
    have hk0 : decide ((k : Int) < 0) = false := by simp
    obtain ⟨rfl, -⟩ := hc i hi
    clear hg e1 e2 e3 hA hd hs
    go_enter Tryz.func14, Tryz.ntmps14
    go_upto_region 4 with (first | (go_at_call 34; refine (HT1.out _ (by repeat' (first | exact Below.refl _ _ | with_reducible assumption | refine bext ?_ ?_ _ | refine Below.alloc ?_ ?_ _ | refine Below.setCell ?_ ?_ _ | refine Below.drew ?_ | (simp; done) | (have hbz := hb.size; first | omega | (simp; omega)) | (simp; omega) | omega))).mono ?_; rintro e w' ⟨rfl, rfl⟩; clear HT1) | (go_at_call 34; refine (HT2.out _ (by repeat' (first | exact Below.refl _ _ | with_reducible assumption | refine bext ?_ ?_ _ | refine Below.alloc ?_ ?_ _ | refine Below.setCell ?_ ?_ _ | refine Below.drew ?_ | (simp; done) | (have hbz := hb.size; first | omega | (simp; omega)) | (simp; omega) | omega))).mono ?_; rintro e w' ⟨rfl, rfl⟩) | (go_at_call 35; refine (HA.out _ (by repeat' (first | exact Below.refl _ _ | with_reducible assumption | refine bext ?_ ?_ _ | refine Below.alloc ?_ ?_ _ | refine Below.setCell ?_ ?_ _ | refine Below.drew ?_ | (simp; done) | (have hbz := hb.size; first | omega | (simp; omega)) | (simp; omega) | omega))).mono ?_; rintro e w' ⟨rfl, hbq⟩; obtain ⟨p, rfl⟩ := ext_of_below hbq; clear hbq))
    refine wpAt fun W hW => ?_
    have BW : Below w.heap.size w W := by rw [hW]; exact (by repeat' (first | exact Below.refl _ _ | with_reducible assumption | refine bext ?_ ?_ _ | refine Below.alloc ?_ ?_ _ | refine Below.setCell ?_ ?_ _ | refine Below.drew ?_ | (simp; done) | (have hbz := hb.size; first | omega | (simp; omega)) | (simp; omega) | omega))
    clear hW
    obtain ⟨-, hbw, c0, c1, c2⟩ := Crd.at (hc.mono BW) i hi
    obtain ⟨-, -, d0, d1, d2⟩ := Crd.at (hc.mono BW) k hk
    generalize gd l i = X at *
    generalize gd l k = Y at *
    have HS : (Below w.heap.size w W ∧ w.heap.size ≤ W.heap.size) ∧ W.cell? ⟨b, off + i * 3, none⟩ = some (.int .i64 X.id) ∧ W.cell? ⟨b, off + i * 3 + 1, none⟩ = some (.int .i64 X.yr) ∧ W.cell? ⟨b, off + i * 3 + 2, none⟩ = some (.slice X.a X.sub.length X.cap) ∧ W.cell? ⟨b, off + k * 3, none⟩ = some (.int .i64 Y.id) ∧ W.cell? ⟨b, off + k * 3 + 1, none⟩ = some (.int .i64 Y.yr) ∧ W.cell? ⟨b, off + k * 3 + 2, none⟩ = some (.slice Y.a Y.sub.length Y.cap) := ⟨⟨BW, BW.size⟩, c0, c1, c2, d0, d1, d2⟩
    have D := drewOn W
    clear c0 c1 c2 d0 d1 d2 BW
    go_region_held3 (fun W => (Below w.heap.size w W ∧ w.heap.size ≤ W.heap.size) ∧ W.cell? ⟨b, off + i * 3, none⟩ = some (.int .i64 X.id) ∧ W.cell? ⟨b, off + i * 3 + 1, none⟩ = some (.int .i64 X.yr) ∧ W.cell? ⟨b, off + i * 3 + 2, none⟩ = some (.slice X.a X.sub.length X.cap) ∧ W.cell? ⟨b, off + k * 3, none⟩ = some (.int .i64 Y.id) ∧ W.cell? ⟨b, off + k * 3 + 1, none⟩ = some (.int .i64 Y.yr) ∧ W.cell? ⟨b, off + k * 3 + 2, none⟩ = some (.slice Y.a Y.sub.length Y.cap)) (first | assumption | (refine keep6 (by assumption) (by assumption)) | fail)
      (first | (go_at_call 49; refine (hC.out _ (And.left (And.left (by assumption)))).mono ?_; rintro e w8 ⟨v8, rfl, o8, b8⟩; have hw8 := Nat.le_refl 0) | fail)
    rename_i _ hH
    have hzW := HS.1.2
    have hzD := D.size
    go_wp2_with fail
    go_ret2
    exact ⟨_, rfl, o8.lower (by omega), hH.1.1⟩
end Go.Proofs.YteainpflmofjaaaGreat
