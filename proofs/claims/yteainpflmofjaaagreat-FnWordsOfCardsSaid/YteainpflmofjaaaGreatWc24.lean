/- Cards: how many have a word, and the least year of these. By the program and by the reference. No condition but sizes. -/
import Derived.Test.YteainpflmofjaaaGreatCf24
namespace Go.Proofs.YteainpflmofjaaaGreat
open Go.RowKit
def wcP (l : List Crd) (s : ByteArray) (i : Nat) : Bool := hasW (gd l i).sub s
def wcL (l : List Crd) (s : ByteArray) (k : Nat) : List Crd := pickG (wcP l s) (gd l) k
def lstStep (t : Int) (x : Crd) : Int := if t = 0 ∨ x.yr < t then x.yr else t
def leastOf (P : List Crd) : Int := P.foldl lstStep 0
def wcG (l : List Crd) (s : ByteArray) : Bool := areCrd l && wordB s
def wcN (l : List Crd) (s : ByteArray) : Int := if wcG l s then ((wcL l s l.length).length : Int) else 0
def wcM (l : List Crd) (s : ByteArray) : Int := if wcG l s then leastOf (wcL l s l.length) else 0
theorem leastOf_push (P : List Crd) (x : Crd) : leastOf (P ++ [x]) = lstStep (leastOf P) x := by simp [leastOf]
theorem leastOf_map {P P' : List Crd} (h : P'.map Crd.yr = P.map Crd.yr) : leastOf P' = leastOf P := by
  have : ∀ (Q : List Crd) (t : Int), Q.foldl lstStep t = (Q.map Crd.yr).foldl (fun t y => if t = 0 ∨ y < t then y else t) t := by
    intro Q
    induction Q with
    | nil => intro t; rfl
    | cons x Q ih => intro t; rw [List.foldl_cons, ih, List.map_cons, List.foldl_cons]; rfl
  rw [leastOf, leastOf, this, this, h]
theorem wc_same {l l' : List Crd} (h : l'.map Crd.bare = l.map Crd.bare) (s : ByteArray) : wcN l' s = wcN l s ∧ wcM l' s = wcM l s ∧ wcG l' s = wcG l s := by
  have hl : l'.length = l.length := by simpa using congrArg List.length h
  have hg : wcG l' s = wcG l s := by rw [wcG, wcG, areCrd_same h]
  have hp : ∀ i, i < l.length → wcP l' s i = wcP l s i := fun i hi => by rw [wcP, wcP, (crd_same h i hi).2.2.1]
  have hy : (wcL l' s l.length).map Crd.yr = (wcL l s l.length).map Crd.yr := by
    rw [wcL, wcL, pickG_map, pickG_map]
    exact pickG_congr hp (fun i hi => (crd_same h i hi).2.1)
  have hn : (wcL l' s l.length).length = (wcL l s l.length).length := by simpa using congrArg List.length hy
  exact ⟨by rw [wcN, wcN, hg, hl, hn], by rw [wcM, wcM, hg, hl, leastOf_map hy], hg⟩
theorem areCrd_yr {l : List Crd} (h : areCrd l = true) (i : Nat) (hi : i < l.length) : 1500 ≤ (gd l i).yr ∧ (gd l i).yr ≤ 2100 := by
  have h1 : isCrd (gd l i) = true := by
    simp only [areCrd, Bool.and_eq_true, allTo_iff] at h
    have := h.1 i hi
    simp only [crdAt, Bool.and_eq_true] at this
    exact this.1
  rw [isCrd_words] at h1
  simp only [Bool.and_eq_true, inB_iff] at h1
  exact h1.1.1.1.2
theorem areCrd_len {l : List Crd} (h : areCrd l = true) : l.length ≤ 12 := by simp [areCrd] at h; exact h.2
theorem leastOf_range {P : List Crd} (h : ∀ x, x ∈ P → 1500 ≤ x.yr ∧ x.yr ≤ 2100) : (P = [] ∧ leastOf P = 0) ∨ (P ≠ [] ∧ 1500 ≤ leastOf P ∧ leastOf P ≤ 2100) := by
  have : ∀ (Q : List Crd), (∀ x, x ∈ Q → 1500 ≤ x.yr ∧ x.yr ≤ 2100) → ∀ t : Int, (1500 ≤ t ∧ t ≤ 2100) → 1500 ≤ Q.foldl lstStep t ∧ Q.foldl lstStep t ≤ 2100 := by
    intro Q
    induction Q with
    | nil => intro _ t ht; exact ht
    | cons x Q ih =>
      intro hQ t ht
      rw [List.foldl_cons]
      refine ih (fun y hy => hQ y (by simp [hy])) _ ?_
      have := hQ x (by simp)
      unfold lstStep
      split <;> omega
  cases P with
  | nil => exact .inl ⟨rfl, rfl⟩
  | cons x P =>
    refine .inr ⟨by simp, ?_⟩
    have hx := h x (by simp)
    have := this P (fun y hy => h y (by simp [hy])) (lstStep 0 x) (by unfold lstStep; simp; omega)
    exact this
theorem wcL_yr {l : List Crd} (h : areCrd l = true) (s : ByteArray) (k : Nat) (hk : k ≤ l.length) : ∀ x, x ∈ wcL l s k → 1500 ≤ x.yr ∧ x.yr ≤ 2100 := fun x hx => by
  simp only [wcL, pickG, List.mem_map, List.mem_filter, List.mem_range] at hx
  obtain ⟨i, ⟨h1, _⟩, rfl⟩ := hx
  exact areCrd_yr h i (by omega)
set_option maxHeartbeats 1000000 in
theorem wordCounts1_c (x : Crd) (s : ByteArray) (b : Nat) (W : World) (hI : x.In W) (hc : W.cell? ⟨b, 0, none⟩ = some (.string s)) : Calls Tryz.prog 47 #[.agg #[.int .i64 x.id, .int .i64 x.yr, .slice x.a x.sub.length x.cap], .pointer (some ⟨b, 0, none⟩)] W fun e w' => e = .returned (.bool (hasW x.sub s)) ∧ Below W.heap.size W w' := by
  have hb := block_lt_of_cell hc
  dsimp only at hb
  have A0 := below_alloc W (.cells #[.int .i64 x.id, .int .i64 x.yr, .slice x.a x.sub.length x.cap] 60)
  have hC := Lib.hid (show Calls Tryz.prog 45 #[.slice x.a x.sub.length x.cap, .string s] _ fun e w' => e = .returned (.bool (hasW x.sub s)) ∧ _ = w' from containsStr_c _ x.sub s _ (Sl.mono hI A0))
  clear hI
  go_enter Tryz.func47, Tryz.ntmps47
  go_wp2_with (go_at_call 45; refine (hC.out).mono ?_; rintro e w' ⟨rfl, rfl⟩)
  go_ret
  exact ⟨rfl, A0⟩
set_option maxHeartbeats 4000000 in
set_option maxRecDepth 100000 in
theorem wordCounts_c (v : Value) (l : List Crd) (s : ByteArray) (w : World) (h : Sl w Crd.enc 3 v l) (hd : Crd.Deep w l) (hs : ∀ i, i < l.length → StrE.Fits (gd l i).sub) (hsz : s.size ≤ maxLen) : Calls Tryz.prog 10 #[v, .string s] w fun e w' => e = .returned (.tuple #[.int .i64 (wcN l s), .int .i64 (wcM l s), .bool (wcG l s)]) ∧ Below w.heap.size w w' := by
  have HA := Lib.hid (fun W (hB : Below w.heap.size w W) => areCards_c v l W (h.mono hB) (hd.mono hB) hs)
  have A0 := below_alloc w (.cells #[.string s] 9)
  have k0 : (w.alloc (.cells #[.string s] 9)).cell? ⟨w.heap.size, 0, none⟩ = some (.string s) := by simp
  have HF := fun hl => Lib.hid (fun W (hB : Below (w.alloc (.cells #[.string s] 9)).heap.size (w.alloc (.cells #[.string s] 9)) W) => cardsFor_c v l W 47 #[.pointer (some ⟨w.heap.size, 0, none⟩)] (wcP l s) ((h.mono A0).mono hB) hl (fun _ _ => by kernel_rfl)
    (fun i W' hi hB' => wordCounts1_c (gd l i) s w.heap.size W' (((hd i hi).mono (btrans A0 hB)).mono hB') (cellOn hB' (cellOn hB k0))))
  have HW := Lib.hid (fun W => isWord_c s W hsz)
  have hN := Lib.hid (show wcN l s = if wcG l s then ((wcL l s l.length).length : Int) else 0 from rfl)
  have hM := Lib.hid (show wcM l s = if wcG l s then leastOf (wcL l s l.length) else 0 from rfl)
  have hway : (areCrd l = false ∧ wcG l s = false) ∨ (areCrd l = true ∧ wordB s = false ∧ wcG l s = false) ∨ (areCrd l = true ∧ wordB s = true ∧ wcG l s = true) := by
    unfold wcG
    cases areCrd l <;> cases wordB s <;> simp
  generalize wcN l s = N at hN ⊢
  generalize wcM l s = M at hM ⊢
  generalize wcG l s = ok at hway hN hM ⊢
  obtain ⟨a, cap, b, off, rfl, hlc, hm, hc⟩ := h
  unfold maxLen at hm
  rcases hway with ⟨h1, rfl⟩ | ⟨h1, h2, rfl⟩ | ⟨h1, h2, rfl⟩
  · rw [h1] at HA
    replace HA := Lib.hid HA.out
    clear h1 HF HW
    go_enter Tryz.func10, Tryz.ntmps10
    go_wp2_with (go_at_call 31; refine (HA.out _ (by repeat' (first | exact Below.refl _ _ | with_reducible assumption | refine bext ?_ ?_ _ | refine Below.alloc ?_ ?_ _ | refine Below.setCell ?_ ?_ _ | refine Below.drew ?_ | (simp; done) | (have hbz := hb.size; first | omega | (simp; omega)) | (simp; omega) | omega))).mono ?_; rintro e w' ⟨rfl, hbq⟩; obtain ⟨p, rfl⟩ := ext_of_below hbq; clear hbq)
    go_ret3
    exact ⟨by rw [hN.out, hM.out]; rfl, (by repeat' (first | exact Below.refl _ _ | with_reducible assumption | refine bext ?_ ?_ _ | refine Below.alloc ?_ ?_ _ | refine Below.setCell ?_ ?_ _ | refine Below.drew ?_ | (simp; done) | (have hbz := hb.size; first | omega | (simp; omega)) | (simp; omega) | omega))⟩
  · rw [h1] at HA
    rw [h2] at HW
    replace HA := Lib.hid HA.out
    replace HW := Lib.hid HW.out
    clear h1 h2 HF
    go_enter Tryz.func10, Tryz.ntmps10
    go_wp2_with (first | (go_at_call 31; refine (HA.out _ (by repeat' (first | exact Below.refl _ _ | with_reducible assumption | refine bext ?_ ?_ _ | refine Below.alloc ?_ ?_ _ | refine Below.setCell ?_ ?_ _ | refine Below.drew ?_ | (simp; done) | (have hbz := hb.size; first | omega | (simp; omega)) | (simp; omega) | omega))).mono ?_; rintro e w' ⟨rfl, hbq⟩; obtain ⟨p, rfl⟩ := ext_of_below hbq; clear hbq) | (go_at_call 46; refine (HW.out _).mono ?_; rintro e w' ⟨rfl, hbq⟩; obtain ⟨p, rfl⟩ := ext_of_below hbq; clear hbq))
    go_ret3
    exact ⟨by rw [hN.out, hM.out]; rfl, (by repeat' (first | exact Below.refl _ _ | with_reducible assumption | refine bext ?_ ?_ _ | refine Below.alloc ?_ ?_ _ | refine Below.setCell ?_ ?_ _ | refine Below.drew ?_ | (simp; done) | (have hbz := hb.size; first | omega | (simp; omega)) | (simp; omega) | omega))⟩
  · rw [h1] at HA
    rw [h2] at HW
    replace HA := Lib.hid HA.out
    replace HW := Lib.hid HW.out
    have h12 := areCrd_len h1
    replace HF := HF (by omega)
    clear h1 h2 hd
    go_enter Tryz.func10, Tryz.ntmps10
    go_wp2_with (first | (go_at_call 31; refine (HA.out _ (by repeat' (first | exact Below.refl _ _ | with_reducible assumption | refine bext ?_ ?_ _ | refine Below.alloc ?_ ?_ _ | refine Below.setCell ?_ ?_ _ | refine Below.drew ?_ | (simp; done) | (have hbz := hb.size; first | omega | (simp; omega)) | (simp; omega) | omega))).mono ?_; rintro e w' ⟨rfl, hbq⟩; obtain ⟨p, rfl⟩ := ext_of_below hbq; clear hbq) | (go_at_call 46; refine (HW.out _).mono ?_; rintro e w' ⟨rfl, hbq⟩; obtain ⟨p, rfl⟩ := ext_of_below hbq; clear hbq))
    refine callsAt (fun W hW => ?_)
    have BW : Below (w.alloc (.cells #[.string s] 9)).heap.size (w.alloc (.cells #[.string s] 9)) W := by rw [hW]; exact (by repeat' (first | exact Below.refl _ _ | with_reducible assumption | refine bext ?_ ?_ _ | refine Below.alloc ?_ ?_ _ | refine Below.setCell ?_ ?_ _ | refine Below.drew ?_ | (simp; done) | (have hbz := hb.size; first | omega | (simp; omega)) | (simp; omega) | omega))
    clear hW
    refine (HF.out W BW).mono ?_
    rintro e w3 ⟨v3, rfl, o3, b3⟩
    have B3 := btrans (btrans A0 BW) b3
    have hPl := pickG_len (wcP l s) (gd l) l.length
    have hN2 := Lib.hid (show N = ((pickG (wcP l s) (gd l) l.length).length : Int) from hN.out)
    have hM2 := Lib.hid (show M = leastOf (pickG (wcP l s) (gd l) l.length) from hM.out)
    clear hN hM HF HW HA k0
    generalize pickG (wcP l s) (gd l) l.length = P at o3 hPl hN2 hM2
    obtain ⟨a3, cap3, b3', off3, rfl, hlc3, hm3, hc3⟩ := o3.sl Crd.len
    unfold maxLen at hm3
    clear o3
    go_wp2_with fail
    go_loopw [8, 24] (fun t j wr => ∃ k : Nat, k ≤ P.length ∧ j = .int .i64 k ∧ t = .int .i64 (leastOf (P.take k)) ∧ Below w3.heap.size w3 wr) (fun _ j _ => P.length - (intOf j).toNat)
    case atStart => exact ⟨0, Nat.zero_le _, rfl, by simp [leastOf], Below.refl _ _⟩
    case round =>
      obtain ⟨k, hk, rfl, rfl, hb⟩ := hrel
      by_cases hlt : k < P.length
      · obtain ⟨rfl, hbw, c0, c1, c2⟩ := Crd.at (hc3.mono hb) k hlt
        have hun := Lib.hid (show leastOf (P.take (k + 1)) = lstStep (leastOf (P.take k)) (gd P k) by rw [take_succ_gd hlt, leastOf_push])
        generalize leastOf (P.take k) = t at hun
        by_cases ht : t = 0
        · have hu := Lib.hid (show leastOf (P.take (k + 1)) = (gd P k).yr by rw [hun.out, lstStep, if_pos (.inl ht)])
          have ht' : (t == 0) = true := by simp [ht]
          go_wp2_with fail
          go_roundw
          case rel => exact ⟨k + 1, by omega, by go_num, by rw [hu.out], hb.alloc hb.size _⟩
          case measure => simp [intOf]; omega
        · have ht' : (t == 0) = false := by simp [ht]
          by_cases hy : (gd P k).yr < t
          · have hu := Lib.hid (show leastOf (P.take (k + 1)) = (gd P k).yr by rw [hun.out, lstStep, if_pos (.inr hy)])
            go_wp2_with fail
            go_roundw
            case rel => exact ⟨k + 1, by omega, by go_num, by rw [hu.out], hb.alloc hb.size _⟩
            case measure => simp [intOf]; omega
          · have hu := Lib.hid (show leastOf (P.take (k + 1)) = t by rw [hun.out, lstStep, if_neg (by intro h; rcases h with h | h; exact ht h; exact hy h)])
            go_wp2_with fail
            go_roundw
            case rel => exact ⟨k + 1, by omega, by go_num, by rw [hu.out], hb.alloc hb.size _⟩
            case measure => simp [intOf]; omega
      · obtain rfl : k = P.length := by omega
        rw [List.take_length]
        go_wp2_with fail
        go_ret3
        exact ⟨by rw [hN2.out, hM2.out]; rfl, btrans B3 hb⟩
set_option maxHeartbeats 4000000 in
set_option maxRecDepth 100000 in
theorem specWordCounts_c (v : Value) (l : List Crd) (s : ByteArray) (w : World) (h : Sl w Crd.enc 3 v l) (hd : Crd.Deep w l) (hs : ∀ i, i < l.length → StrE.Fits (gd l i).sub) (hsz : s.size ≤ maxLen) : Calls Tryz.prog 25 #[v, .string s] w fun e w' => e = .returned (.tuple #[.int .i64 (wcN l s), .int .i64 (wcM l s), .bool (wcG l s)]) ∧ Below w.heap.size w w' := by
  have HA := Lib.hid (fun W (hB : Below w.heap.size w W) => l24Good_c v l W (h.mono hB) (hd.mono hB) hs)
  have HW := Lib.hid (fun W => l2Word_c s W hsz)
  have hN := Lib.hid (show wcN l s = if wcG l s then ((wcL l s l.length).length : Int) else 0 from rfl)
  have hM := Lib.hid (show wcM l s = if wcG l s then leastOf (wcL l s l.length) else 0 from rfl)
  have hway : (areCrd l = false ∧ wcG l s = false) ∨ (areCrd l = true ∧ wordB s = false ∧ wcG l s = false) ∨ (areCrd l = true ∧ wordB s = true ∧ wcG l s = true) := by
    unfold wcG
    cases areCrd l <;> cases wordB s <;> simp
  generalize wcN l s = N at hN ⊢
  generalize wcM l s = M at hM ⊢
  generalize wcG l s = ok at hway hN hM ⊢
  obtain ⟨a, cap, b, off, rfl, hlc, hm, hc⟩ := h
  unfold maxLen at hm
  rcases hway with ⟨h1, rfl⟩ | ⟨h1, h2, rfl⟩ | ⟨h1, h2, rfl⟩
  · rw [h1] at HA
    replace HA := Lib.hid HA.out
    clear h1 HW
    go_enter Tryz.func25, Tryz.ntmps25
    go_wp2_with (go_at_call 35; refine (HA.out _ (by repeat' (first | exact Below.refl _ _ | with_reducible assumption | refine bext ?_ ?_ _ | refine Below.alloc ?_ ?_ _ | refine Below.setCell ?_ ?_ _ | refine Below.drew ?_ | (simp; done) | (have hbz := hb.size; first | omega | (simp; omega)) | (simp; omega) | omega))).mono ?_; rintro e w' ⟨rfl, hbq⟩; obtain ⟨p, rfl⟩ := ext_of_below hbq; clear hbq)
    go_ret3
    exact ⟨by rw [hN.out, hM.out]; rfl, (by repeat' (first | exact Below.refl _ _ | with_reducible assumption | refine bext ?_ ?_ _ | refine Below.alloc ?_ ?_ _ | refine Below.setCell ?_ ?_ _ | refine Below.drew ?_ | (simp; done) | (have hbz := hb.size; first | omega | (simp; omega)) | (simp; omega) | omega))⟩
  · rw [h1] at HA
    rw [h2] at HW
    replace HA := Lib.hid HA.out
    replace HW := Lib.hid HW.out
    clear h1 h2
    go_enter Tryz.func25, Tryz.ntmps25
    go_wp2_with (first | (go_at_call 35; refine (HA.out _ (by repeat' (first | exact Below.refl _ _ | with_reducible assumption | refine bext ?_ ?_ _ | refine Below.alloc ?_ ?_ _ | refine Below.setCell ?_ ?_ _ | refine Below.drew ?_ | (simp; done) | (have hbz := hb.size; first | omega | (simp; omega)) | (simp; omega) | omega))).mono ?_; rintro e w' ⟨rfl, hbq⟩; obtain ⟨p, rfl⟩ := ext_of_below hbq; clear hbq) | (go_at_call 59; refine (HW.out _).mono ?_; rintro e w' ⟨rfl, rfl⟩))
    go_ret3
    exact ⟨by rw [hN.out, hM.out]; rfl, (by repeat' (first | exact Below.refl _ _ | with_reducible assumption | refine bext ?_ ?_ _ | refine Below.alloc ?_ ?_ _ | refine Below.setCell ?_ ?_ _ | refine Below.drew ?_ | (simp; done) | (have hbz := hb.size; first | omega | (simp; omega)) | (simp; omega) | omega))⟩
  · have hY := Lib.hid (fun k hk => leastOf_range (wcL_yr h1 s k hk))
    rw [h1] at HA
    rw [h2] at HW
    replace HA := Lib.hid HA.out
    replace HW := Lib.hid HW.out
    have h12 := areCrd_len h1
    have hN2 := Lib.hid (show N = ((wcL l s l.length).length : Int) from hN.out)
    have hM2 := Lib.hid (show M = leastOf (wcL l s l.length) from hM.out)
    replace hd := Lib.hid hd
    clear h1 h2 hN hM
    go_enter Tryz.func25, Tryz.ntmps25
    go_wp2_with (first | (go_at_call 35; refine (HA.out _ (by repeat' (first | exact Below.refl _ _ | with_reducible assumption | refine bext ?_ ?_ _ | refine Below.alloc ?_ ?_ _ | refine Below.setCell ?_ ?_ _ | refine Below.drew ?_ | (simp; done) | (have hbz := hb.size; first | omega | (simp; omega)) | (simp; omega) | omega))).mono ?_; rintro e w' ⟨rfl, hbq⟩; obtain ⟨p, rfl⟩ := ext_of_below hbq; clear hbq) | (go_at_call 59; refine (HW.out _).mono ?_; rintro e w' ⟨rfl, rfl⟩))
    have BW := below_ext w p
    generalize ext w p = W at BW ⊢
    clear HA HW
    go_loopw [7, 8, 9] (fun c t j wr => ∃ k : Nat, k ≤ l.length ∧ j = .int .i64 k ∧ c = .int .i64 ((wcL l s k).length : Int) ∧ t = .int .i64 (leastOf (wcL l s k)) ∧ Below w.heap.size w wr) (fun _ _ j _ => l.length - (intOf j).toNat)
    case atStart => exact ⟨0, Nat.zero_le _, rfl, rfl, rfl, BW⟩
    case round =>
      obtain ⟨k, hk, rfl, rfl, rfl, hb⟩ := hrel
      by_cases hlt : k < l.length
      · obtain ⟨rfl, hbw, c0, c1, c2⟩ := Crd.at (hc.mono hb) k hlt
        have hH := Lib.hid (l24Has_c (.slice (gd l k).a (gd l k).sub.length (gd l k).cap) (gd l k).sub s wr ((hd.out k hlt).mono hb))
        have hcl := pickG_len (wcP l s) (gd l) k
        replace hcl : (wcL l s k).length ≤ k := hcl
        cases hq : hasW (gd l k).sub s
        · have hun := Lib.hid (show wcL l s (k + 1) = wcL l s k from pickG_no (p := wcP l s) hq)
          have hH2 := hH.out
          rw [hq] at hH2
          replace hH2 := Lib.hid hH2
          clear hH hq
          go_wp2_with (go_at_call 36; refine (hH2.out).mono ?_; rintro e w' ⟨rfl, rfl⟩)
          go_roundw
          case rel => exact ⟨k + 1, by omega, by go_num, by rw [hun.out], by rw [hun.out], hb⟩
          case measure => simp [intOf]; omega
        · have hun := Lib.hid (show wcL l s (k + 1) = wcL l s k ++ [gd l k] from pickG_yes (p := wcP l s) hq)
          have hst := Lib.hid (show leastOf (wcL l s (k + 1)) = lstStep (leastOf (wcL l s k)) (gd l k) by rw [hun.out, leastOf_push])
          have hln := Lib.hid (show ((wcL l s (k + 1)).length : Int) = ((wcL l s k).length : Int) + 1 by rw [hun.out]; simp)
          have hH2 := hH.out
          rw [hq] at hH2
          replace hH2 := Lib.hid hH2
          have hR : ((wcL l s k).length = 0 ∧ leastOf (wcL l s k) = 0) ∨ ((wcL l s k).length ≠ 0 ∧ leastOf (wcL l s k) ≠ 0) := by
            rcases hY.out k (by omega) with ⟨e1, e2⟩ | ⟨e1, e2, e3⟩
            · exact .inl ⟨by rw [e1]; rfl, e2⟩
            · exact .inr ⟨fun e => e1 (List.eq_nil_of_length_eq_zero e), by omega⟩
          clear hH hq hun
          generalize leastOf (wcL l s k) = t at hst hR
          generalize (wcL l s k).length = c at hln hR hcl
          rcases hR with ⟨rfl, rfl⟩ | ⟨hc0, ht0⟩
          · have hu := Lib.hid (show leastOf (wcL l s (k + 1)) = (gd l k).yr by rw [hst.out, lstStep, if_pos (.inl rfl)])
            go_wp2_with (go_at_call 36; refine (hH2.out).mono ?_; rintro e w' ⟨rfl, rfl⟩)
            go_roundw
            case rel => exact ⟨k + 1, by omega, by go_num, by rw [hln.out] <;> go_num, by rw [hu.out], hb⟩
            case measure => simp [intOf]; omega
          · have hc0' : ((c : Int) == 0) = false := by simp; omega
            by_cases hy : (gd l k).yr < t
            · have hu := Lib.hid (show leastOf (wcL l s (k + 1)) = (gd l k).yr by rw [hst.out, lstStep, if_pos (.inr hy)])
              go_wp2_with (go_at_call 36; refine (hH2.out).mono ?_; rintro e w' ⟨rfl, rfl⟩)
              go_roundw
              case rel => exact ⟨k + 1, by omega, by go_num, by rw [hln.out] <;> go_num, by rw [hu.out], hb⟩
              case measure => simp [intOf]; omega
            · have hu := Lib.hid (show leastOf (wcL l s (k + 1)) = t by rw [hst.out, lstStep, if_neg (by intro h; rcases h with h | h; exact ht0 h; exact hy h)])
              go_wp2_with (go_at_call 36; refine (hH2.out).mono ?_; rintro e w' ⟨rfl, rfl⟩)
              go_roundw
              case rel => exact ⟨k + 1, by omega, by go_num, by rw [hln.out] <;> go_num, by rw [hu.out], hb⟩
              case measure => simp [intOf]; omega
      · obtain rfl : k = l.length := by omega
        go_wp2_with fail
        go_ret3
        exact ⟨by rw [hN2.out, hM2.out]; rfl, hb⟩
end Go.Proofs.YteainpflmofjaaaGreat
