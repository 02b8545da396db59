/- Cards: those that have all of some words. By the program and by the reference. No condition but sizes. -/
import Derived.Test.YteainpflmofjaaaGreatDoorCf24
namespace Go.Proofs.YteainpflmofjaaaGreatDoor
open Go.RowKit
def areWB (l : List ByteArray) (low : Int) : Bool := inB (l.length : Int) low 6 && allTo (fun i => wordB (gd l i)) l.length
theorem noneTo (p : Nat → Bool) (n : Nat) : (!(findTo p n).isSome) = allTo (fun i => !p i) n := by
  cases h : findTo p n with
  | none =>
    have := findTo_none_spec h
    simp only [Option.isSome_none, Bool.not_false]
    exact (allTo_true fun i hi => by simp [this i hi]).symm
  | some k =>
    obtain ⟨h2, h1, _⟩ := findTo_spec h
    simp only [Option.isSome_some, Bool.not_true]
    exact (allTo_false k h2 (by simp [h1])).symm
theorem allTo_succ (f : Nat → Bool) (n : Nat) : allTo f (n + 1) = (allTo f n && f n) := by simp [allTo, List.range_succ]
theorem areWB_zero (l : List ByteArray) : areWB l 0 = words6 l := by
  unfold areWB words6
  congr 1
  rw [Bool.eq_iff_iff, inB_iff, decide_eq_true_iff]
  omega
def hasAll (sub l : List ByteArray) : Bool := allTo (fun k => hasW sub (gd l k)) l.length
def ctP (l : List Crd) (ws : List ByteArray) (i : Nat) : Bool := hasAll (gd l i).sub ws
def ctG (l : List Crd) (ws : List ByteArray) : Bool := areCrd l && words6 ws
def ctI (l : List Crd) (ws : List ByteArray) (k : Nat) : List Int := idsC (pickG (ctP l ws) (gd l) k)
def ctL (l : List Crd) (ws : List ByteArray) : List Int := if ctG l ws then ctI l ws l.length else []
theorem ctL_len (l : List Crd) (ws : List ByteArray) : (ctL l ws).length ≤ l.length := by
  have := pickG_len (ctP l ws) (gd l) l.length
  unfold ctL
  split
  · simpa [ctI, idsC] using this
  · simp
theorem ct_same {l l' : List Crd} (h : l'.map Crd.bare = l.map Crd.bare) (ws : List ByteArray) : ctL l' ws = ctL l ws ∧ ctG l' ws = ctG l ws := by
  have hl : l'.length = l.length := by simpa using congrArg List.length h
  have hg : ctG l' ws = ctG l ws := by rw [ctG, ctG, areCrd_same h]
  have hp : ∀ i, i < l.length → ctP l' ws i = ctP l ws i := fun i hi => by rw [ctP, ctP, (crd_same h i hi).2.2.1]
  have hy : ctI l' ws l.length = ctI l ws l.length := by
    rw [ctI, ctI, idsC, idsC, pickG_map, pickG_map]
    exact pickG_congr hp (fun i hi => (crd_same h i hi).1)
  exact ⟨by rw [ctL, ctL, hg, hl, hy], hg⟩
theorem ct_way (l : List Crd) (ws : List ByteArray) : (areCrd l = false ∧ ctG l ws = false ∧ ctL l ws = []) ∨ (areCrd l = true ∧ words6 ws = false ∧ ctG l ws = false ∧ ctL l ws = []) ∨ (areCrd l = true ∧ words6 ws = true ∧ ctG l ws = true ∧ ctL l ws = ctI l ws l.length) := by
  unfold ctL ctG
  cases areCrd l <;> cases words6 ws <;> simp
set_option maxHeartbeats 1000000 in
theorem areWords1_c (s : ByteArray) (W : World) (hs : s.size ≤ maxLen) : Calls Tryz.prog 66 #[.string s] W fun e w' => e = .returned (.bool (!wordB s)) ∧ Below W.heap.size W w' := by
  have hC := Lib.hid (fun W => isWord_c s W hs)
  go_enter Tryz.func66, Tryz.ntmps66
  go_wp2_with fail
  refine callsAt (fun W2 hW => ?_)
  subst hW
  refine (hC.out _).mono ?_
  rintro e w1 ⟨rfl, b1⟩
  go_wp2_with fail
  go_ret
  exact ⟨rfl, b1⟩
set_option maxHeartbeats 2000000 in
set_option maxRecDepth 100000 in
theorem areWords_c (v : Value) (l : List ByteArray) (low : Int) (w : World) (h : Sl w StrE.enc 1 v l) (hs : StrE.Fits l) : Calls Tryz.prog 25 #[v, .int .i64 low] w fun e w' => e = .returned (.bool (areWB l low)) ∧ Below w.heap.size w w' := by
  obtain ⟨a, cap, b, off, rfl, hlc, hm, hc⟩ := h
  have HC := Lib.hid (containsFuncStr_c a cap b off l w 66 #[] (fun i => !wordB (gd l i)) (by omega) hc (fun _ _ => by kernel_rfl) (fun i W hi _ => areWords1_c (gd l i) W (hs i hi)))
  have hn := Lib.hid (noneTo (fun i => !wordB (gd l i)) l.length)
  simp only [Bool.not_not] at hn
  unfold maxLen at hm
  have he := Lib.hid (show areWB l low = (inB (l.length : Int) low 6 && allTo (fun i => wordB (gd l i)) l.length) from rfl)
  have hW := Lib.hid (fun W => within_c (l.length : Int) low 6 W)
  cases hi : inB (l.length : Int) low 6
  all_goals
    rw [hi] at hW he
    replace hW := Lib.hid hW.out
    clear hi
    go_enter Tryz.func25, Tryz.ntmps25
  · go_wp2_with (go_at_call 50; refine (hW.out _).mono ?_; rintro e w' ⟨rfl, rfl⟩)
    go_ret
    exact ⟨ret_bool (by rw [he.out]; rfl), Below.refl _ _⟩
  · go_wp2_with (go_at_call 50; refine (hW.out _).mono ?_; rintro e w' ⟨rfl, rfl⟩)
    refine HC.out.mono ?_
    rintro e w1 ⟨rfl, b1⟩
    go_wp2_with fail
    go_ret
    exact ⟨ret_bool (by rw [he.out, ← hn.out]; simp), b1⟩
set_option maxHeartbeats 1000000 in
theorem cardsWith2_c (s : ByteArray) (x : Crd) (kb : Nat) (W : World) (hI : x.In W) (hc : W.cell? ⟨kb, 2, none⟩ = some (.slice x.a x.sub.length x.cap)) : Calls Tryz.prog 30 #[.string s, .pointer (some ⟨kb, 0, none⟩)] W fun e w' => e = .returned (.bool (!hasW x.sub s)) ∧ Below W.heap.size W w' := by
  have hC := Lib.hid (show Calls Tryz.prog 31 #[.slice x.a x.sub.length x.cap, .string s] _ fun e w' => e = .returned (.bool (hasW x.sub s)) ∧ _ = w' from containsStr_c _ x.sub s W hI)
  have hb := block_lt_of_cell hc
  dsimp only at hb
  clear hI
  go_enter Tryz.func30, Tryz.ntmps30
  go_wp2_with (go_at_call 31; refine (hC.out).mono ?_; rintro e w' ⟨rfl, rfl⟩)
  go_ret
  exact ⟨rfl, Below.refl _ _⟩
set_option maxHeartbeats 2000000 in
theorem cardsWith1_c (x : Crd) (v : Value) (l : List ByteArray) (b : Nat) (W : World) (hI : x.In W) (hS : Sl W StrE.enc 1 v l) (hc : W.cell? ⟨b, 0, none⟩ = some v) : Calls Tryz.prog 28 #[.agg #[.int .i64 x.id, .int .i64 x.yr, .slice x.a x.sub.length x.cap], .pointer (some ⟨b, 0, none⟩)] W fun e w' => e = .returned (.bool (hasAll x.sub l)) ∧ Below W.heap.size W w' := by
  obtain ⟨a, cap, sb, off, rfl, hlc, hm, hcl⟩ := hS
  have hb := block_lt_of_cell hc
  dsimp only at hb
  have A0 := below_alloc W (.cells #[.int .i64 x.id, .int .i64 x.yr, .slice x.a x.sub.length x.cap] 34)
  have k0 : (W.alloc (.cells #[.int .i64 x.id, .int .i64 x.yr, .slice x.a x.sub.length x.cap] 34)).cell? ⟨W.heap.size, 2, none⟩ = some (.slice x.a x.sub.length x.cap) := by simp
  have HC := Lib.hid (containsFuncStr_c a cap sb off l _ 30 #[.pointer (some ⟨W.heap.size, 0, none⟩)] (fun i => !hasW x.sub (gd l i)) (by omega) (hcl.mono A0) (fun _ _ => by kernel_rfl)
    (fun i W' hi hB => cardsWith2_c (gd l i) x W.heap.size W' (Sl.mono (Sl.mono hI A0) hB) (cellOn hB k0)))
  have hn := Lib.hid (noneTo (fun i => !hasW x.sub (gd l i)) l.length)
  simp only [Bool.not_not] at hn
  have he := Lib.hid (show hasAll x.sub l = allTo (fun i => hasW x.sub (gd l i)) l.length from rfl)
  clear hI hcl k0
  go_enter Tryz.func28, Tryz.ntmps28
  go_wp2_with fail
  refine HC.out.mono ?_
  rintro e w1 ⟨rfl, b1⟩
  go_wp2_with fail
  go_ret
  exact ⟨ret_bool (by rw [he.out, ← hn.out]; simp), btrans A0 b1⟩
set_option maxHeartbeats 4000000 in
set_option maxRecDepth 100000 in
theorem cardsWith_c (v u : Value) (l : List Crd) (ws : List ByteArray) (w : World) (h : Sl w Crd.enc 3 v l) (hd : Crd.Deep w l) (hs : ∀ i, i < l.length → StrE.Fits (gd l i).sub) (hu : Sl w StrE.enc 1 u ws) (hus : StrE.Fits ws) : Calls Tryz.prog 6 #[v, u] w (RetSlB w 3 IntE.enc 1 (ctL l ws) (ctG l ws)) := by
  have HA := Lib.hid (fun W (hB : Below w.heap.size w W) => areCards_c v l W (h.mono hB) (hd.mono hB) hs)
  have HW := Lib.hid (fun W (hB : Below w.heap.size w W) => areWords_c u ws 0 W (hu.mono hB) hus)
  rw [areWB_zero] at HW
  have A0 := below_alloc w (.cells #[u] 25)
  have k0 : (w.alloc (.cells #[u] 25)).cell? ⟨w.heap.size, 0, none⟩ = some u := by simp
  have HF := fun hl => Lib.hid (fun W (hB : Below (w.alloc (.cells #[u] 25)).heap.size (w.alloc (.cells #[u] 25)) W) => cardsFor_c v l W 28 #[.pointer (some ⟨w.heap.size, 0, none⟩)] (ctP l ws) ((h.mono A0).mono hB) hl (fun _ _ => by kernel_rfl)
    (fun i W' hi hB' => cardsWith1_c (gd l i) u ws w.heap.size W' (((hd i hi).mono (btrans A0 hB)).mono hB') (((hu.mono A0).mono hB).mono hB') (cellOn hB' (cellOn hB k0))))
  have hway := ct_way l ws
  have hI := Lib.hid (show ctI l ws l.length = idsC (pickG (ctP l ws) (gd l) l.length) from rfl)
  generalize ctL l ws = L at hway ⊢
  generalize ctG l ws = ok at hway ⊢
  obtain ⟨a, cap, b, off, rfl, hlc, hm, hc⟩ := h
  obtain ⟨a2, cap2, b2, off2, rfl, hlc2, hm2, hc2⟩ := hu
  unfold maxLen at hm hm2
  rcases hway with ⟨h1, rfl, rfl⟩ | ⟨h1, h2, rfl, rfl⟩ | ⟨h1, h2, rfl, rfl⟩
  · rw [h1] at HA
    replace HA := Lib.hid HA.out
    clear h1 HF HW
    go_enter Tryz.func6, Tryz.ntmps6
    go_wp2_with (go_at_call 21; refine (HA.out _ (by repeat' (first | exact Below.refl _ _ | with_reducible assumption | refine bext ?_ ?_ _ | refine Below.alloc ?_ ?_ _ | refine Below.setCell ?_ ?_ _ | refine Below.drew ?_ | (simp; done) | (have hbz := hb.size; first | omega | (simp; omega)) | (simp; omega) | omega))).mono ?_; rintro e w' ⟨rfl, hbq⟩; obtain ⟨p, rfl⟩ := ext_of_below hbq; clear hbq)
    go_ret2
    exact ⟨_, rfl, Own.nil _ _ _ _ _, (by repeat' (first | exact Below.refl _ _ | with_reducible assumption | refine bext ?_ ?_ _ | refine Below.alloc ?_ ?_ _ | refine Below.setCell ?_ ?_ _ | refine Below.drew ?_ | (simp; done) | (have hbz := hb.size; first | omega | (simp; omega)) | (simp; omega) | omega))⟩
  · rw [h1] at HA
    rw [h2] at HW
    replace HA := Lib.hid HA.out
    replace HW := Lib.hid HW.out
    clear h1 h2 HF
    go_enter Tryz.func6, Tryz.ntmps6
    go_wp2_with (first | (go_at_call 21; refine (HA.out _ (by repeat' (first | exact Below.refl _ _ | with_reducible assumption | refine bext ?_ ?_ _ | refine Below.alloc ?_ ?_ _ | refine Below.setCell ?_ ?_ _ | refine Below.drew ?_ | (simp; done) | (have hbz := hb.size; first | omega | (simp; omega)) | (simp; omega) | omega))).mono ?_; rintro e w' ⟨rfl, hbq⟩; obtain ⟨p, rfl⟩ := ext_of_below hbq; clear hbq) | (go_at_call 25; refine (HW.out _ (by repeat' (first | exact Below.refl _ _ | with_reducible assumption | refine bext ?_ ?_ _ | refine Below.alloc ?_ ?_ _ | refine Below.setCell ?_ ?_ _ | refine Below.drew ?_ | (simp; done) | (have hbz := hb.size; first | omega | (simp; omega)) | (simp; omega) | omega))).mono ?_; rintro e w' ⟨rfl, hbq⟩; obtain ⟨p, rfl⟩ := ext_of_below hbq; clear hbq))
    go_ret2
    exact ⟨_, rfl, Own.nil _ _ _ _ _, (by repeat' (first | exact Below.refl _ _ | with_reducible assumption | refine bext ?_ ?_ _ | refine Below.alloc ?_ ?_ _ | refine Below.setCell ?_ ?_ _ | refine Below.drew ?_ | (simp; done) | (have hbz := hb.size; first | omega | (simp; omega)) | (simp; omega) | omega))⟩
  · rw [h1] at HA
    rw [h2] at HW
    replace HA := Lib.hid HA.out
    replace HW := Lib.hid HW.out
    have h12 : l.length ≤ 12 := by have h1c := h1; simp [areCrd] at h1c; exact h1c.2
    replace HF := HF (by omega)
    clear h1 h2 hd
    go_enter Tryz.func6, Tryz.ntmps6
    go_wp2_with (first | (go_at_call 21; refine (HA.out _ (by repeat' (first | exact Below.refl _ _ | with_reducible assumption | refine bext ?_ ?_ _ | refine Below.alloc ?_ ?_ _ | refine Below.setCell ?_ ?_ _ | refine Below.drew ?_ | (simp; done) | (have hbz := hb.size; first | omega | (simp; omega)) | (simp; omega) | omega))).mono ?_; rintro e w' ⟨rfl, hbq⟩; obtain ⟨p, rfl⟩ := ext_of_below hbq; clear hbq) | (go_at_call 25; refine (HW.out _ (by repeat' (first | exact Below.refl _ _ | with_reducible assumption | refine bext ?_ ?_ _ | refine Below.alloc ?_ ?_ _ | refine Below.setCell ?_ ?_ _ | refine Below.drew ?_ | (simp; done) | (have hbz := hb.size; first | omega | (simp; omega)) | (simp; omega) | omega))).mono ?_; rintro e w' ⟨rfl, hbq⟩; obtain ⟨p, rfl⟩ := ext_of_below hbq; clear hbq))
    refine callsAt (fun W hW => ?_)
    have BW : Below (w.alloc (.cells #[.slice a2 ws.length cap2] 25)).heap.size (w.alloc (.cells #[.slice a2 ws.length cap2] 25)) W := by rw [hW]; exact (by repeat' (first | exact Below.refl _ _ | with_reducible assumption | refine bext ?_ ?_ _ | refine Below.alloc ?_ ?_ _ | refine Below.setCell ?_ ?_ _ | refine Below.drew ?_ | (simp; done) | (have hbz := hb.size; first | omega | (simp; omega)) | (simp; omega) | omega))
    clear hW
    refine (HF.out W BW).mono ?_
    rintro e w3 ⟨v3, rfl, o3, b3⟩
    have B3 := btrans (btrans A0 BW) b3
    have hPl := pickG_len (ctP l ws) (gd l) l.length
    have HCI := Lib.hid (cardIds_c v3 _ w3 (o3.sl Crd.len) (by omega))
    rw [← hI.out] at HCI
    clear HF HW HA k0
    go_wp2_with fail
    refine HCI.out.mono ?_
    rintro e w4 ⟨v4, rfl, o4, b4⟩
    have hz3 := B3.size
    go_wp2_with fail
    go_ret2
    exact ⟨_, rfl, o4.lower (by omega), btrans B3 b4⟩
theorem ctI_yes {l : List Crd} {ws : List ByteArray} {k : Nat} (h : hasAll (gd l k).sub ws = true) : ctI l ws (k + 1) = ctI l ws k ++ [(gd l k).id] := by
  rw [ctI, pickG_yes (p := ctP l ws) h, idsC, List.map_append]
  rfl
theorem ctI_no {l : List Crd} {ws : List ByteArray} {k : Nat} (h : hasAll (gd l k).sub ws = false) : ctI l ws (k + 1) = ctI l ws k := by
  rw [ctI, pickG_no (p := ctP l ws) h]
  rfl
theorem ctI_len (l : List Crd) (ws : List ByteArray) (k : Nat) : (ctI l ws k).length ≤ k := by
  have := pickG_len (ctP l ws) (gd l) k
  simpa [ctI, idsC] using this
set_option maxHeartbeats 4000000 in
set_option maxRecDepth 100000 in
theorem specCardsWith_c (v u : Value) (l : List Crd) (ws : List ByteArray) (w : World) (h : Sl w Crd.enc 3 v l) (hd : Crd.Deep w l) (hs : ∀ i, i < l.length → StrE.Fits (gd l i).sub) (hu : Sl w StrE.enc 1 u ws) (hus : StrE.Fits ws) : Calls Tryz.prog 7 #[v, u] w (RetSlB w 3 IntE.enc 1 (ctL l ws) (ctG l ws)) := by
  have HA := Lib.hid (fun W (hB : Below w.heap.size w W) => l24Good_c v l W (h.mono hB) (hd.mono hB) hs)
  have HW := Lib.hid (fun W (hB : Below w.heap.size w W) => l24Words_c u ws W (hu.mono hB) hus)
  obtain ⟨i', hi', hy0, hy1, hy2⟩ := info_parts (show (Tryz.prog.info? 3).map (fun i => (i.zero, i.size, i.bytes)) = some (some (.int .i64 0), 1, 8) by kernel_rfl)
  have hway := ct_way l ws
  generalize ctL l ws = L at hway ⊢
  generalize ctG l ws = ok at hway ⊢
  obtain ⟨a, cap, b, off, rfl, hlc, hm, hc⟩ := h
  obtain ⟨a2, cap2, b2, off2, rfl, hlc2, hm2, hc2⟩ := hu
  unfold maxLen at hm hm2
  rcases hway with ⟨h1, rfl, rfl⟩ | ⟨h1, h2, rfl, rfl⟩ | ⟨h1, h2, rfl, rfl⟩
  · rw [h1] at HA
    replace HA := Lib.hid HA.out
    clear h1 HW
    go_enter Tryz.func7, Tryz.ntmps7
    go_wp2_with (go_at_call 32; refine (HA.out _ (by repeat' (first | exact Below.refl _ _ | with_reducible assumption | refine bext ?_ ?_ _ | refine Below.alloc ?_ ?_ _ | refine Below.setCell ?_ ?_ _ | refine Below.drew ?_ | (simp; done) | (have hbz := hb.size; first | omega | (simp; omega)) | (simp; omega) | omega))).mono ?_; rintro e w' ⟨rfl, hbq⟩; obtain ⟨p, rfl⟩ := ext_of_below hbq; clear hbq)
    go_ret2
    exact ⟨_, rfl, (Own.empty' (by simp) (by simp)).mono (below_ext _ _), (by repeat' (first | exact Below.refl _ _ | with_reducible assumption | refine bext ?_ ?_ _ | refine Below.alloc ?_ ?_ _ | refine Below.setCell ?_ ?_ _ | refine Below.drew ?_ | (simp; done) | (have hbz := hb.size; first | omega | (simp; omega)) | (simp; omega) | omega))⟩
  · rw [h1] at HA
    rw [h2] at HW
    replace HA := Lib.hid HA.out
    replace HW := Lib.hid HW.out
    clear h1 h2
    go_enter Tryz.func7, Tryz.ntmps7
    go_wp2_with (first | (go_at_call 32; refine (HA.out _ (by repeat' (first | exact Below.refl _ _ | with_reducible assumption | refine bext ?_ ?_ _ | refine Below.alloc ?_ ?_ _ | refine Below.setCell ?_ ?_ _ | refine Below.drew ?_ | (simp; done) | (have hbz := hb.size; first | omega | (simp; omega)) | (simp; omega) | omega))).mono ?_; rintro e w' ⟨rfl, hbq⟩; obtain ⟨p, rfl⟩ := ext_of_below hbq; clear hbq) | (go_at_call 33; refine (HW.out _ (by repeat' (first | exact Below.refl _ _ | with_reducible assumption | refine bext ?_ ?_ _ | refine Below.alloc ?_ ?_ _ | refine Below.setCell ?_ ?_ _ | refine Below.drew ?_ | (simp; done) | (have hbz := hb.size; first | omega | (simp; omega)) | (simp; omega) | omega))).mono ?_; rintro e w' ⟨rfl, rfl⟩))
    go_ret2
    exact ⟨_, rfl, (Own.empty' (by simp) (by simp)).mono (below_ext _ _), (by repeat' (first | exact Below.refl _ _ | with_reducible assumption | refine bext ?_ ?_ _ | refine Below.alloc ?_ ?_ _ | refine Below.setCell ?_ ?_ _ | refine Below.drew ?_ | (simp; done) | (have hbz := hb.size; first | omega | (simp; omega)) | (simp; omega) | omega))⟩
  · have h12 : l.length ≤ 12 := by have h1c := h1; simp [areCrd] at h1c; exact h1c.2
    rw [h1] at HA
    rw [h2] at HW
    replace HA := Lib.hid HA.out
    replace HW := Lib.hid HW.out
    replace hd := Lib.hid hd
    clear h1 h2
    go_enter Tryz.func7, Tryz.ntmps7
    go_wp2_with (first | (go_at_call 32; refine (HA.out _ (by repeat' (first | exact Below.refl _ _ | with_reducible assumption | refine bext ?_ ?_ _ | refine Below.alloc ?_ ?_ _ | refine Below.setCell ?_ ?_ _ | refine Below.drew ?_ | (simp; done) | (have hbz := hb.size; first | omega | (simp; omega)) | (simp; omega) | omega))).mono ?_; rintro e w' ⟨rfl, hbq⟩; obtain ⟨p, rfl⟩ := ext_of_below hbq; clear hbq) | (go_at_call 33; refine (HW.out _ (by repeat' (first | exact Below.refl _ _ | with_reducible assumption | refine bext ?_ ?_ _ | refine Below.alloc ?_ ?_ _ | refine Below.setCell ?_ ?_ _ | refine Below.drew ?_ | (simp; done) | (have hbz := hb.size; first | omega | (simp; omega)) | (simp; omega) | omega))).mono ?_; rintro e w' ⟨rfl, rfl⟩))
    refine wpAt fun W hW => ?_
    have BW : Below w.heap.size w W := by rw [hW]; exact (by repeat' (first | exact Below.refl _ _ | with_reducible assumption | refine bext ?_ ?_ _ | refine Below.alloc ?_ ?_ _ | refine Below.setCell ?_ ?_ _ | refine Below.drew ?_ | (simp; done) | (have hbz := hb.size; first | omega | (simp; omega)) | (simp; omega) | omega))
    have OW : Own W w.heap.size 3 IntE.enc 1 (.slice (some ⟨w.heap.size, 0, none⟩) 0 0) ([] : List Int) := by rw [hW]; exact (Own.empty' (by simp) (by simp)).mono (below_ext _ _)
    clear hW HA HW
    generalize Value.slice (some ⟨w.heap.size, 0, none⟩) 0 0 = s0 at OW ⊢
    go_loopw [6, 7] (fun o j wr => ∃ k : Nat, k ≤ l.length ∧ j = .int .i64 k ∧ Hid (Own wr w.heap.size 3 IntE.enc 1 o (ctI l ws k)) ∧ Below w.heap.size w wr) (fun _ j _ => l.length - (intOf j).toNat)
    case atStart => exact ⟨0, Nat.zero_le _, rfl, OW, BW⟩
    case round =>
      obtain ⟨k, hk, rfl, ho, hb⟩ := hrel
      by_cases hlt : k < l.length
      · obtain ⟨rfl, hbw, c0, c1, c2⟩ := Crd.at (hc.mono hb) k hlt
        have hH := Lib.hid (fun s W (hB : Below wr.heap.size wr W) => l24Has_c (.slice (gd l k).a (gd l k).sub.length (gd l k).cap) (gd l k).sub s W (((hd.out k hlt).mono hb).mono hB))
        have hAt := Lib.hid (fun m (hm : m < ws.length) => StrE.at (hc2.mono hb) m hm)
        have hzb := hb.size
        have hpl := ctI_len l ws k
        have hY := fun h => Lib.hid (ctI_yes (l := l) (ws := ws) (k := k) h)
        have hN := fun h => Lib.hid (ctI_no (l := l) (ws := ws) (k := k) h)
        have hAll := Lib.hid (show hasAll (gd l k).sub ws = allTo (fun j => hasW (gd l k).sub (gd ws j)) ws.length from rfl)
        obtain ⟨wo, hwo⟩ : ∃ x, x = wr := ⟨_, rfl⟩
        subst hwo
        go_wp2_with fail
        go_loopw [8, 9] (fun al j wi => ∃ m : Nat, m ≤ ws.length ∧ j = .int .i64 m ∧ al = .bool (allTo (fun j => hasW (gd l k).sub (gd ws j)) m) ∧ Hid (Below wo.heap.size wo wi)) (fun _ j _ => ws.length - (intOf j).toNat)
        case atStart => exact ⟨0, Nat.zero_le _, rfl, rfl, Below.refl _ _⟩
        case round =>
        obtain ⟨m, hml, rfl, rfl, hD⟩ := hrel
        by_cases hlm : m < ws.length
        · obtain ⟨ea, hbw8, y0⟩ := hAt.out m hlm
          subst ea
          replace y0 := cellOn hD.out y0
          have x2 := cellOn hD.out c2
          have hC := Lib.hid (fun W (hB : Below wr.heap.size wr W) => hH.out (gd ws m) W (hD.out.trans (hB.mono hD.out.size)))
          have hst := Lib.hid (allTo_succ (fun j => hasW (gd l k).sub (gd ws j)) m)
          have hzd := hD.out.size
          have hbx : b < wr.heap.size := by omega
          have hbx2 : b2 < wr.heap.size := by omega
          cases hq : allTo (fun j => hasW (gd l k).sub (gd ws j)) m
          all_goals
            rw [hq] at hst
            clear hq
            go_wp2_with fail
            refine wp_region_ext (by kernel_rfl) (by kernel_rfl) ?_
            repeat (any_goals (first | go_big_quiet_step ((go_at_call 34; exact Calls.ext_same (hC.out _ (by repeat' (first | exact Below.refl _ _ | with_reducible assumption | refine bext ?_ ?_ _ | refine Below.alloc ?_ ?_ _ | refine Below.setCell ?_ ?_ _ | refine Below.drew ?_ | (simp; done) | (have hbz := hb.size; first | omega | (simp; omega)) | (simp; omega) | omega)))))))
            (refine wpQuiet_nil ?_)
            (rintro _ ⟨q, rfl⟩)
            go_wp2_with fail
            go_roundw
            case rel => exact ⟨m + 1, by omega, by go_num, by rw [hst.out]; simp, bext hD.out hzd _⟩
            case measure => simp [intOf]; omega
        · obtain rfl : m = ws.length := by omega
          rw [← hAll.out]
          have E := btrans hb hD.out
          replace ho := Lib.hid (ho.out.mono hD.out)
          cases hq : hasAll (gd l k).sub ws
          · have hun := hN hq
            clear hq
            go_wp2_with fail
            go_roundw
            case rel => exact ⟨k + 1, by omega, by go_num, by rw [hun.out]; exact ho.out, E⟩
            case measure => simp [intOf]; omega
          · have hun := hY hq
            clear hq
            have x0 := cellOn hD.out c0
            have hze := E.size
            go_wp2_with (at_builtin; refine wpList_push IntE.len IntE.one rfl _ _ 28 rfl w.heap.size 3 i' _ 8 Tryz.underlying28 hi' hy0 hy1 hy2 rfl (by omega) _ _ rfl (ho.out.mono (below_alloc _ _)) _ 1 (gd l k).id rfl (fun j u hu => new_cells _ [.int .i64 (gd l k).id] _ _ (by simp) j u hu) (by unfold maxLen; omega) (by omega) (by simp; omega) ?_)
            intro v' w3 ho3 hg3
            have hb3 := below_push (lo := w.heap.size) (B := w.heap.size) (a := w) (E.trans ((below_alloc _ _).mono hze)) (ho.out.mono (below_alloc _ _)) hg3 (Nat.le_refl _) (by simp; omega)
            go_wp2_with fail
            go_roundw
            case rel => exact ⟨k + 1, by omega, by go_num, by rw [hun.out]; exact ho3, hb3⟩
            case measure => simp [intOf]; omega
      · obtain rfl : k = l.length := by omega
        go_wp2_with fail
        go_ret2
        exact ⟨_, rfl, ho.out, hb⟩
end Go.Proofs.YteainpflmofjaaaGreatDoor
