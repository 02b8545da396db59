/- Ranked cards: by the program. No condition but sizes. -/
import Derived.Test.YteainpflmofjaaaGreatDoorBp24
namespace Go.Proofs.YteainpflmofjaaaGreatDoor
open Go.RowKit
def mch (ws : List ByteArray) (x : Crd) : Int := ((commonL x.sub ws).length : Int)
def rkF (ws : List ByteArray) (x : Crd) : Bool := decide (0 < mch ws x)
def ltM (ws : List ByteArray) (x y : Crd) : Bool := decide (mch ws y < mch ws x)
def rkG (l : List Crd) (ws : List ByteArray) : Bool := areCrd l && words6 ws && decide (0 < ws.length)
/-- the order behind k cards, backwards -/
def rkS (l : List Crd) (ws : List ByteArray) (k : Nat) : List Crd := sortR (ltM ws) ((l.take k).filter (rkF ws))
def rkL (l : List Crd) (ws : List ByteArray) : List Int := if rkG l ws then idsC (rkS l ws l.length).reverse else []
theorem areWB_one (l : List ByteArray) : areWB l 1 = (words6 l && decide (0 < l.length)) := by
  unfold areWB words6
  cases allTo (fun i => wordB (gd l i)) l.length
  · simp
  · rw [Bool.eq_iff_iff]
    simp only [Bool.and_eq_true, inB_iff, decide_eq_true_iff, and_true]
    omega
theorem insR_map {α β : Type} (g : α → β) (lt : α → α → Bool) (lt' : β → β → Bool) (h : ∀ x y, lt' (g x) (g y) = lt x y) (x : α) (P : List α) : insR lt' (g x) (P.map g) = (insR lt x P).map g := by
  induction P with
  | nil => rfl
  | cons y P ih =>
    rw [List.map_cons, insR, insR, h]
    split
    · rw [ih]; rfl
    · rfl
theorem sortR_map {α β : Type} (g : α → β) (lt : α → α → Bool) (lt' : β → β → Bool) (h : ∀ x y, lt' (g x) (g y) = lt x y) (P : List α) : sortR lt' (P.map g) = (sortR lt P).map g := by
  suffices hs : ∀ Q : List α, sortR lt' (Q.reverse.map g) = (sortR lt Q.reverse).map g by
    have := hs P.reverse
    rwa [List.reverse_reverse] at this
  intro Q
  induction Q with
  | nil => rfl
  | cons x Q ih => rw [List.reverse_cons, List.map_append, List.map_singleton, sortR_push, sortR_push, ih, insR_map g lt lt' h]
theorem rkS_bare (l : List Crd) (ws : List ByteArray) (k : Nat) : rkS (l.map Crd.bare) ws k = (rkS l ws k).map Crd.bare := by
  rw [rkS, rkS, ← List.map_take, List.filter_map]
  exact sortR_map Crd.bare (ltM ws) (ltM ws) (fun _ _ => rfl) _
theorem idsC_bare (l : List Crd) : idsC (l.map Crd.bare) = idsC l := by simp [idsC, Crd.bare]
theorem rkS_len (l : List Crd) (ws : List ByteArray) (k : Nat) : (rkS l ws k).length ≤ l.length := by
  rw [rkS, sortR_len]
  have := List.length_filter_le (rkF ws) (l.take k)
  simp at this ⊢
  omega
theorem rkL_len (l : List Crd) (ws : List ByteArray) : (rkL l ws).length ≤ l.length := by
  unfold rkL
  split
  · simpa [idsC] using rkS_len l ws l.length
  · simp
theorem rk_same {l l' : List Crd} (h : l'.map Crd.bare = l.map Crd.bare) (ws : List ByteArray) : rkL l' ws = rkL l ws ∧ rkG l' ws = rkG l ws := by
  have hg : rkG l' ws = rkG l ws := by rw [rkG, rkG, areCrd_same h]
  have hl : l'.length = l.length := by simpa using congrArg List.length h
  have hi : ∀ L : List Crd, idsC (rkS L ws l.length).reverse = idsC (rkS (L.map Crd.bare) ws l.length).reverse := fun L => by
    rw [rkS_bare, ← List.map_reverse, idsC_bare]
  exact ⟨by rw [rkL, rkL, hg, hl, hi l', hi l, h], hg⟩
theorem rk_way (l : List Crd) (ws : List ByteArray) : (areCrd l = false ∧ rkG l ws = false ∧ rkL l ws = []) ∨ (areCrd l = true ∧ (words6 ws && decide (0 < ws.length)) = false ∧ rkG l ws = false ∧ rkL l ws = []) ∨ (areCrd l = true ∧ (words6 ws && decide (0 < ws.length)) = true ∧ rkG l ws = true ∧ rkL l ws = idsC (rkS l ws l.length).reverse) := by
  unfold rkL rkG
  cases areCrd l <;> cases words6 ws <;> cases decide (0 < ws.length) <;> simp
theorem crd_six {l : List Crd} (h : areCrd l = true) (i : Nat) (hi : i < l.length) : (gd l i).sub.length ≤ 6 := by
  have h1 : isCrd (gd l i) = true := by
    simp only [areCrd, Bool.and_eq_true, allTo_iff] at h
    have := h.1 i hi
    simp only [crdAt, Bool.and_eq_true] at this
    exact this.1
  rw [isCrd_words] at h1
  simp only [Bool.and_eq_true, words6, decide_eq_true_eq] at h1
  exact h1.1.2.1
set_option maxHeartbeats 1000000 in
set_option maxRecDepth 100000 in
theorem match_c (x : Crd) (v : Value) (ws : List ByteArray) (w : World) (hx : x.In w) (hv : Sl w StrE.enc 1 v ws) (hl : x.sub.length ≤ 1048576) : Calls Tryz.prog 36 #[.agg #[.int .i64 x.id, .int .i64 x.yr, .slice x.a x.sub.length x.cap], v] w fun e w' => e = .returned (.int .i64 (mch ws x)) ∧ Below w.heap.size w w' := by
  have A0 := below_alloc w (.cells #[.int .i64 x.id, .int .i64 x.yr, .slice x.a x.sub.length x.cap] 34)
  have hC := Lib.hid (fun s => show Calls Tryz.prog 31 #[v, .string s] _ fun e w' => e = .returned (.bool (hasW ws s)) ∧ _ = w' from containsStr_c _ ws s _ (hv.mono A0))
  have hm0 := Lib.hid (show mch ws x = ((commonL x.sub ws).length : Int) from rfl)
  obtain ⟨xid, xyr, xa, xcap, xs⟩ := x
  obtain ⟨a, cap, b, off, hv', hlc, hm, hc⟩ := hx
  injection hv' with e1 _ e2
  subst e1 e2
  dsimp only at hlc hm hc hl A0 hC hm0 ⊢
  unfold maxLen at hm
  replace hc := hc.mono A0
  go_enter Tryz.func36, Tryz.ntmps36
  go_wp2_with fail
  go_loop [5, 11] (fun n i => ∃ k : Nat, k ≤ xs.length ∧ i = .int .i64 k ∧ n = .int .i64 ((commonL (xs.take k) ws).length : Int)) (fun _ i => xs.length - (intOf i).toNat)
  case atStart => exact ⟨0, Nat.zero_le _, rfl, by simp [commonL]⟩
  case round =>
    obtain ⟨k, hk, rfl, rfl⟩ := hrel
    by_cases hlt : k < xs.length
    · obtain ⟨rfl, hbw, c0⟩ := StrE.at hc k hlt
      have hcl := commonL_len (xs.take k) ws
      rw [List.length_take] at hcl
      cases hq : hasW ws (gd xs k)
      · have ho := Lib.hid (commonL_no hlt hq)
        have hC1 := hC.out (gd xs k)
        rw [hq] at hC1
        replace hC1 := Lib.hid hC1
        clear hq
        go_wp2_with (go_at_call 31; refine (hC1.out).mono ?_; rintro e w' ⟨rfl, rfl⟩)
        go_round
        case rel => exact ⟨k + 1, by omega, by go_num, by rw [ho.out]⟩
        case measure => simp [intOf]; omega
      · have ho := Lib.hid (commonL_yes hlt hq)
        have hC1 := hC.out (gd xs k)
        rw [hq] at hC1
        replace hC1 := Lib.hid hC1
        clear hq
        go_wp2_with (go_at_call 31; refine (hC1.out).mono ?_; rintro e w' ⟨rfl, rfl⟩)
        go_round
        case rel => exact ⟨k + 1, by omega, by go_num, by rw [ho.out, List.length_append, List.length_singleton]; go_num⟩
        case measure => simp [intOf]; omega
    · obtain rfl : k = xs.length := by omega
      rw [List.take_length]
      go_wp2_with fail
      go_ret
      exact ⟨ret_int hm0.out.symm, A0⟩
set_option maxHeartbeats 1000000 in
theorem rankCards1_c (x : Crd) (v : Value) (ws : List ByteArray) (kb : Nat) (W : World) (hx : x.In W) (hv : Sl W StrE.enc 1 v ws) (hl : x.sub.length ≤ 1048576) (hc : W.cell? ⟨kb, 0, none⟩ = some v) : Calls Tryz.prog 35 #[.agg #[.int .i64 x.id, .int .i64 x.yr, .slice x.a x.sub.length x.cap], .pointer (some ⟨kb, 0, none⟩)] W fun e w' => e = .returned (.bool (rkF ws x)) ∧ Below W.heap.size W w' := by
  have hb := block_lt_of_cell hc
  dsimp only at hb
  have A0 := below_alloc W (.cells #[.int .i64 x.id, .int .i64 x.yr, .slice x.a x.sub.length x.cap] 34)
  have HM := Lib.hid (match_c x v ws _ (Sl.mono hx A0) (hv.mono A0) hl)
  have hf := Lib.hid (show rkF ws x = decide (0 < mch ws x) from rfl)
  obtain ⟨a, cap, sb, off, rfl, -, -, -⟩ := hv
  clear hx hl
  generalize mch ws x = M at HM hf
  go_enter Tryz.func35, Tryz.ntmps35
  go_wp2_with fail
  refine HM.out.mono ?_
  rintro e w1 ⟨rfl, b1⟩
  go_wp2_with fail
  go_ret
  exact ⟨ret_bool hf.out.symm, btrans A0 b1⟩
set_option maxHeartbeats 2000000 in
set_option maxRecDepth 100000 in
theorem rankCards2_c (x y : Crd) (v : Value) (ws : List ByteArray) (kb : Nat) (W : World) (hx : x.In W) (hy : y.In W) (hv : Sl W StrE.enc 1 v ws) (hlx : x.sub.length ≤ 1048576) (hly : y.sub.length ≤ 1048576) (hc : W.cell? ⟨kb, 0, none⟩ = some v) : Calls Tryz.prog 38 #[.agg #[.int .i64 x.id, .int .i64 x.yr, .slice x.a x.sub.length x.cap], .agg #[.int .i64 y.id, .int .i64 y.yr, .slice y.a y.sub.length y.cap], .pointer (some ⟨kb, 0, none⟩)] W fun e w' => e = .returned (.int .i64 (cmpI (mch ws y) (mch ws x))) ∧ Below W.heap.size W w' := by
  have hb := block_lt_of_cell hc
  dsimp only at hb
  have HX := Lib.hid (fun W' (hB : Below W.heap.size W W') => match_c x v ws W' (Sl.mono hx hB) (hv.mono hB) hlx)
  have HY := Lib.hid (fun W' (hB : Below W.heap.size W W') => match_c y v ws W' (Sl.mono hy hB) (hv.mono hB) hly)
  obtain ⟨a, cap, sb, off, rfl, -, -, -⟩ := hv
  clear hx hy hlx hly
  generalize mch ws x = M at HX ⊢
  generalize mch ws y = N at HY ⊢
  have hb2 : kb < W.heap.size + 1 + 1 := by omega
  go_enter Tryz.func38, Tryz.ntmps38
  go_wp2_with fail
  refine wp_region_ext (by kernel_rfl) (by kernel_rfl) ?_
  repeat (any_goals (first | go_big_quiet_step ((first | ((with_reducible (go_at_call 36; exact Calls.ext_of (HX.out _ (by repeat' (first | exact Below.refl _ _ | with_reducible assumption | refine bext ?_ ?_ _ | refine Below.alloc ?_ ?_ _ | refine Below.setCell ?_ ?_ _ | refine Below.drew ?_ | (simp; done) | (have hbz := hb.size; first | omega | (simp; omega)) | (simp; omega) | omega)))))) | ((with_reducible (go_at_call 36; exact Calls.ext_of (HY.out _ (by repeat' (first | exact Below.refl _ _ | with_reducible assumption | refine bext ?_ ?_ _ | refine Below.alloc ?_ ?_ _ | refine Below.setCell ?_ ?_ _ | refine Below.drew ?_ | (simp; done) | (have hbz := hb.size; first | omega | (simp; omega)) | (simp; omega) | omega)))))) | (go_at_call 39; exact Calls.ext_same (cmpI_c _ _ _))))))
  (refine wpQuiet_nil ?_)
  (rintro _ ⟨q, rfl⟩)
  go_wp2_with fail
  go_ret
  exact ⟨rfl, (by repeat' (first | exact Below.refl _ _ | with_reducible assumption | refine bext ?_ ?_ _ | refine Below.alloc ?_ ?_ _ | refine Below.setCell ?_ ?_ _ | refine Below.drew ?_ | (simp; done) | (have hbz := hb.size; first | omega | (simp; omega)) | (simp; omega) | omega))⟩
set_option maxHeartbeats 4000000 in
set_option maxRecDepth 100000 in
theorem rankCards_c (v u : Value) (l : List Crd) (ws : List ByteArray) (w : World) (h : Sl w Crd.enc 3 v l) (hd : Crd.Deep w l) (hs : ∀ i, i < l.length → StrE.Fits (gd l i).sub) (hu : Sl w StrE.enc 1 u ws) (hus : StrE.Fits ws) : Calls Tryz.prog 11 #[v, u] w (RetSlB w 3 IntE.enc 1 (rkL l ws) (rkG l ws)) := by
  have HA := Lib.hid (fun W (hB : Below w.heap.size w W) => areCards_c v l W (h.mono hB) (hd.mono hB) hs)
  have HW := Lib.hid (fun W (hB : Below w.heap.size w W) => areWords_c u ws 1 W (hu.mono hB) hus)
  rw [areWB_one] at HW
  have A0 := below_alloc w (.cells #[u] 25)
  have k0 : (w.alloc (.cells #[u] 25)).cell? ⟨w.heap.size, 0, none⟩ = some u := by simp
  have hway := rk_way l ws
  have hI := Lib.hid (show rkS l ws l.length = sortR (ltM ws) (l.filter (rkF ws)) by rw [rkS, List.take_length])
  have hP := Lib.hid (show pickG (fun i => rkF ws (gd l i)) (gd l) l.length = l.filter (rkF ws) from pickG_filter_all (rkF ws) l)
  have hlt := Lib.hid (show ltC (fun x y => cmpI (mch ws y) (mch ws x)) = ltM ws by funext x y; rw [ltC, cmpI_neg]; rfl)
  have HF := fun hl (hl6 : ∀ i, i < l.length → (gd l i).sub.length ≤ 1048576) => Lib.hid (fun W (hB : Below (w.alloc (.cells #[u] 25)).heap.size (w.alloc (.cells #[u] 25)) W) => cardsFor_c v l W 35 #[.pointer (some ⟨w.heap.size, 0, none⟩)] (fun i => rkF ws (gd l i)) ((h.mono A0).mono hB) hl (fun _ _ => by kernel_rfl)
    (fun i W' hi hB' => rankCards1_c (gd l i) u ws w.heap.size W' (((hd i hi).mono (btrans A0 hB)).mono hB') (((hu.mono A0).mono hB).mono hB') (hl6 i hi) (cellOn hB' (cellOn hB k0))))
  generalize rkL l ws = L at hway ⊢
  generalize rkG l ws = ok at hway ⊢
  have h0 := Lib.hid h
  have hu0 := Lib.hid hu
  obtain ⟨a, cap, b, off, rfl, hlc, hm, hc⟩ := h
  obtain ⟨a2, cap2, b2, off2, rfl, hlc2, hm2, hc2⟩ := hu
  unfold maxLen at hm hm2
  rcases hway with ⟨h1, rfl, rfl⟩ | ⟨h1, h2, rfl, rfl⟩ | ⟨h1, h2, rfl, rfl⟩
  · rw [h1] at HA
    replace HA := Lib.hid HA.out
    clear h1 HF HW
    go_enter Tryz.func11, Tryz.ntmps11
    go_wp2_with (go_at_call 21; refine (HA.out _ (by repeat' (first | exact Below.refl _ _ | with_reducible assumption | refine bext ?_ ?_ _ | refine Below.alloc ?_ ?_ _ | refine Below.setCell ?_ ?_ _ | refine Below.drew ?_ | (simp; done) | (have hbz := hb.size; first | omega | (simp; omega)) | (simp; omega) | omega))).mono ?_; rintro e w' ⟨rfl, hbq⟩; obtain ⟨p, rfl⟩ := ext_of_below hbq; clear hbq)
    go_ret2
    exact ⟨_, rfl, Own.nil _ _ _ _ _, (by repeat' (first | exact Below.refl _ _ | with_reducible assumption | refine bext ?_ ?_ _ | refine Below.alloc ?_ ?_ _ | refine Below.setCell ?_ ?_ _ | refine Below.drew ?_ | (simp; done) | (have hbz := hb.size; first | omega | (simp; omega)) | (simp; omega) | omega))⟩
  · rw [h1] at HA
    rw [h2] at HW
    replace HA := Lib.hid HA.out
    replace HW := Lib.hid HW.out
    clear h1 h2 HF
    go_enter Tryz.func11, Tryz.ntmps11
    go_wp2_with (first | (go_at_call 21; refine (HA.out _ (by repeat' (first | exact Below.refl _ _ | with_reducible assumption | refine bext ?_ ?_ _ | refine Below.alloc ?_ ?_ _ | refine Below.setCell ?_ ?_ _ | refine Below.drew ?_ | (simp; done) | (have hbz := hb.size; first | omega | (simp; omega)) | (simp; omega) | omega))).mono ?_; rintro e w' ⟨rfl, hbq⟩; obtain ⟨p, rfl⟩ := ext_of_below hbq; clear hbq) | (go_at_call 25; refine (HW.out _ (by repeat' (first | exact Below.refl _ _ | with_reducible assumption | refine bext ?_ ?_ _ | refine Below.alloc ?_ ?_ _ | refine Below.setCell ?_ ?_ _ | refine Below.drew ?_ | (simp; done) | (have hbz := hb.size; first | omega | (simp; omega)) | (simp; omega) | omega))).mono ?_; rintro e w' ⟨rfl, hbq⟩; obtain ⟨p, rfl⟩ := ext_of_below hbq; clear hbq))
    go_ret2
    exact ⟨_, rfl, Own.nil _ _ _ _ _, (by repeat' (first | exact Below.refl _ _ | with_reducible assumption | refine bext ?_ ?_ _ | refine Below.alloc ?_ ?_ _ | refine Below.setCell ?_ ?_ _ | refine Below.drew ?_ | (simp; done) | (have hbz := hb.size; first | omega | (simp; omega)) | (simp; omega) | omega))⟩
  · rw [h1] at HA
    rw [h2] at HW
    replace HA := Lib.hid HA.out
    replace HW := Lib.hid HW.out
    have h12 : l.length ≤ 12 := by have h1c := h1; simp [areCrd] at h1c; exact h1c.2
    have hl6 : ∀ i, i < l.length → (gd l i).sub.length ≤ 1048576 := fun i hi => by
      have := crd_six h1 i hi
      omega
    replace HF := HF (by omega) hl6
    rw [hP.out] at HF
    replace HF := Lib.hid HF.out
    have hmem : Hid (∀ x, x ∈ l.filter (rkF ws) → ∃ i, i < l.length ∧ x = gd l i) := fun x hx => by
      obtain ⟨i, hi, rfl⟩ := List.mem_iff_getElem.1 (List.mem_filter.1 hx).1
      exact ⟨i, hi, (gd_get hi).symm⟩
    replace hl6 := Lib.hid hl6
    replace hd := Lib.hid hd
    clear h1 h2
    go_enter Tryz.func11, Tryz.ntmps11
    go_wp2_with (first | (go_at_call 21; refine (HA.out _ (by repeat' (first | exact Below.refl _ _ | with_reducible assumption | refine bext ?_ ?_ _ | refine Below.alloc ?_ ?_ _ | refine Below.setCell ?_ ?_ _ | refine Below.drew ?_ | (simp; done) | (have hbz := hb.size; first | omega | (simp; omega)) | (simp; omega) | omega))).mono ?_; rintro e w' ⟨rfl, hbq⟩; obtain ⟨p, rfl⟩ := ext_of_below hbq; clear hbq) | (go_at_call 25; refine (HW.out _ (by repeat' (first | exact Below.refl _ _ | with_reducible assumption | refine bext ?_ ?_ _ | refine Below.alloc ?_ ?_ _ | refine Below.setCell ?_ ?_ _ | refine Below.drew ?_ | (simp; done) | (have hbz := hb.size; first | omega | (simp; omega)) | (simp; omega) | omega))).mono ?_; rintro e w' ⟨rfl, hbq⟩; obtain ⟨p, rfl⟩ := ext_of_below hbq; clear hbq))
    refine callsAt (fun W hW => ?_)
    have BW : Below (w.alloc (.cells #[.slice a2 ws.length cap2] 25)).heap.size (w.alloc (.cells #[.slice a2 ws.length cap2] 25)) W := by rw [hW]; exact (by repeat' (first | exact Below.refl _ _ | with_reducible assumption | refine bext ?_ ?_ _ | refine Below.alloc ?_ ?_ _ | refine Below.setCell ?_ ?_ _ | refine Below.drew ?_ | (simp; done) | (have hbz := hb.size; first | omega | (simp; omega)) | (simp; omega) | omega))
    clear hW
    refine (HF.out W BW).mono ?_
    rintro e w3 ⟨v3, rfl, o3, b3⟩
    have B3 := btrans (btrans A0 BW) b3
    have k3 := cellOn b3 (cellOn BW k0)
    have hPl : (l.filter (rkF ws)).length ≤ l.length := List.length_filter_le _ _
    have hbnd := o3.bounds
    have BWs := BW.size
    have hA0s : (w.alloc (.cells #[.slice a2 ws.length cap2] 25)).heap.size = w.heap.size + 1 := by simp
    have hkb : some w.heap.size ≠ v3.ownBlock := fun e => by have := (hbnd _ e.symm).1; omega
    have HS := Lib.hid (sortStableCrd_c v3 _ _ w3 38 #[.pointer (some ⟨w.heap.size, 0, none⟩)] (fun x y => cmpI (mch ws y) (mch ws x)) o3 (by omega) (fun _ _ => by kernel_rfl) (fun x y W' hx hy hg => by
      obtain ⟨i, hi, rfl⟩ := hmem.out x hx
      obtain ⟨j, hj, rfl⟩ := hmem.out y hy
      have hBW' : Below w.heap.size w W' := B3.grown hg B3.size (fun q hq => by have := (hbnd q hq).1; omega)
      exact rankCards2_c _ _ _ ws w.heap.size W' ((hd.out i hi).mono hBW') ((hd.out j hj).mono hBW') (hu0.out.mono hBW') (hl6.out i hi) (hl6.out j hj) (cellGrown k3 hg hkb)))
    clear HF HA HW
    go_wp2_with fail
    refine HS.out.mono ?_
    rintro e w4 ⟨rfl, o4, g4⟩
    rw [hlt.out, ← hI.out] at o4
    have B4 := B3.grown g4 B3.size (fun q hq => by have := (hbnd q hq).1; omega)
    have hrl := rkS_len l ws l.length
    have HCI := Lib.hid (cardIds_c v3 _ w4 (o4.sl Crd.len) (by rw [List.length_reverse]; omega))
    go_wp2_with fail
    refine HCI.out.mono ?_
    rintro e w5 ⟨v5, rfl, o5, b5⟩
    have hz4 := B4.size
    go_wp2_with fail
    go_ret2
    exact ⟨_, rfl, o5.lower (by omega), btrans B4 b5⟩
end Go.Proofs.YteainpflmofjaaaGreatDoor
