/- Cards between years: by the program and by the reference. No condition but sizes. -/
import Derived.Test.YtemgcbmcjpgelaaBp24
namespace Go.Proofs.Ytemgcbmcjpgelaa
open Go.RowKit
theorem byKey_len {α : Type} (f : α → Int) (a : Int) (n : Nat) (P : List α) : (byKey f a n P).length ≤ n * P.length := by
  induction n with
  | zero => simp [byKey]
  | succ n ih =>
    rw [byKey_succ, List.length_append, Nat.succ_mul]
    have := List.length_filter_le (fun x => f x == a + n) P
    omega
theorem byKey_filter {α : Type} (f : α → Int) (q : α → Bool) (a : Int) (n : Nat) (P : List α) (h : ∀ x, a ≤ f x → f x < a + n → q x = true) : byKey f a n (P.filter q) = byKey f a n P := by
  induction n with
  | zero => simp [byKey]
  | succ n ih =>
    rw [byKey_succ, byKey_succ, ih (fun x h1 h2 => h x h1 (by omega)), List.filter_filter]
    congr 1
    apply List.filter_congr
    intro x _
    cases e : (f x == a + n)
    · rfl
    · have := h x (by simp at e; omega) (by simp at e; omega)
      simp [this]
theorem byKey_map {α β : Type} (f : β → Int) (g : α → β) (a : Int) (n : Nat) (P : List α) : byKey f a n (P.map g) = (byKey (fun x => f (g x)) a n P).map g := by
  induction n with
  | zero => simp [byKey]
  | succ n ih => rw [byKey_succ, byKey_succ, ih, List.map_append, List.filter_map]; rfl
def btG (l : List Crd) (a b : Int) : Bool := areCrd l && inB a 1500 2100 && inB b 1500 2100 && decide (a ≤ b)
def btP (l : List Crd) (a b : Int) (i : Nat) : Bool := inB (gd l i).yr a b
def btI (l : List Crd) (a : Int) (n : Nat) : List Int := idsC (byKey Crd.yr a n l)
def btL (l : List Crd) (a b : Int) : List Int := if btG l a b then btI l a (b - a + 1).toNat else []
theorem btS (l : List Crd) (a b : Int) (hab : a ≤ b) : (sortR (ltC (fun x y => cmpI x.yr y.yr)) (pickG (btP l a b) (gd l) l.length)).reverse = byKey Crd.yr a (b - a + 1).toNat l := by
  have e : pickG (btP l a b) (gd l) l.length = l.filter (fun x => inB x.yr a b) := pickG_filter_all (fun x : Crd => inB x.yr a b) l
  rw [e, sortKey Crd.yr _ (fun x y => by rw [ltC, cmpI_neg]) a (b - a + 1).toNat _ (fun x hx => by
    have := (List.mem_filter.1 hx).2
    rw [inB_iff] at this
    omega)]
  exact byKey_filter _ _ _ _ _ (fun x h1 h2 => inB_iff.2 (by omega))
theorem btL_len (l : List Crd) (a b : Int) : (btL l a b).length ≤ l.length := by
  unfold btL
  split
  · rename_i h
    have hab : a ≤ b := by simp [btG] at h; exact h.2
    have := pickG_len (btP l a b) (gd l) l.length
    rw [btI, ← btS l a b hab]
    simpa [idsC, sortR_len] using this
  · simp
theorem bt_same {l l' : List Crd} (h : l'.map Crd.bare = l.map Crd.bare) (a b : Int) : btL l' a b = btL l a b ∧ btG l' a b = btG l a b := by
  have hg : btG l' a b = btG l a b := by rw [btG, btG, areCrd_same h]
  have hi : ∀ (L : List Crd) n, btI L a n = ((byKey Prod.snd a n (L.map (fun x => (x.id, x.yr)))).map Prod.fst) := fun L n => by
    rw [byKey_map, btI, idsC, List.map_map]; rfl
  have hm : l'.map (fun x => (x.id, x.yr)) = l.map (fun x => (x.id, x.yr)) := by
    have hl : l'.length = l.length := by simpa using congrArg List.length h
    apply List.ext_getElem (by simpa using hl)
    intro i h1 h2
    simp only [List.length_map] at h1 h2
    have := crd_same h i h2
    rw [gd_get h1, gd_get h2] at this
    simp [this.1, this.2.1]
  exact ⟨by rw [btL, btL, hg, hi, hi, hm], hg⟩
theorem bt_way (l : List Crd) (a b : Int) : (areCrd l = false ∧ btG l a b = false ∧ btL l a b = []) ∨ (areCrd l = true ∧ inB a 1500 2100 = false ∧ btG l a b = false ∧ btL l a b = []) ∨ (areCrd l = true ∧ inB a 1500 2100 = true ∧ inB b 1500 2100 = false ∧ btG l a b = false ∧ btL l a b = []) ∨
    (areCrd l = true ∧ inB a 1500 2100 = true ∧ inB b 1500 2100 = true ∧ b < a ∧ btG l a b = false ∧ btL l a b = []) ∨ (areCrd l = true ∧ inB a 1500 2100 = true ∧ inB b 1500 2100 = true ∧ a ≤ b ∧ btG l a b = true ∧ btL l a b = btI l a (b - a + 1).toNat) := by
  unfold btL btG
  cases areCrd l <;> cases inB a 1500 2100 <;> cases inB b 1500 2100 <;> by_cases h : a ≤ b <;> simp [h] <;> omega
set_option maxHeartbeats 1000000 in
theorem cardsBetween1_c (x : Crd) (a b : Int) (ka kb : Nat) (W : World) (h1 : W.cell? ⟨ka, 0, none⟩ = some (.int .i64 a)) (h2 : W.cell? ⟨kb, 0, none⟩ = some (.int .i64 b)) : Calls Try.prog 72 #[.agg #[.int .i64 x.id, .int .i64 x.yr, .slice x.a x.sub.length x.cap], .pointer (some ⟨ka, 0, none⟩), .pointer (some ⟨kb, 0, none⟩)] W fun e w' => e = .returned (.bool (inB x.yr a b)) ∧ Below W.heap.size W w' := by
  have hb1 := block_lt_of_cell h1
  have hb2 := block_lt_of_cell h2
  dsimp only at hb1 hb2
  have A0 := below_alloc W (.cells #[.int .i64 x.id, .int .i64 x.yr, .slice x.a x.sub.length x.cap] 27)
  go_enter Try.func72, Try.ntmps72
  go_wp2_with (go_at_call 53; refine (within_c _ _ _ _).mono ?_; rintro e w' ⟨rfl, rfl⟩)
  go_ret
  exact ⟨rfl, A0⟩
set_option maxHeartbeats 1000000 in
theorem cardsBetween2_c (x y : Crd) (W : World) : Calls Try.prog 74 #[.agg #[.int .i64 x.id, .int .i64 x.yr, .slice x.a x.sub.length x.cap], .agg #[.int .i64 y.id, .int .i64 y.yr, .slice y.a y.sub.length y.cap]] W fun e w' => e = .returned (.int .i64 (cmpI x.yr y.yr)) ∧ Below W.heap.size W w' := by
  go_enter Try.func74, Try.ntmps74
  go_wp2_with (go_at_call 75; refine (cmpI_c _ _ _).mono ?_; rintro e w' ⟨rfl, rfl⟩)
  go_ret
  exact ⟨rfl, btrans (below_alloc _ _) (below_alloc _ _)⟩
set_option maxHeartbeats 4000000 in
set_option maxRecDepth 100000 in
theorem cardsBetween_c (v : Value) (l : List Crd) (ya yb : Int) (w : World) (h : Sl w Crd.enc 3 v l) (hd : Crd.Deep w l) (hs : ∀ i, i < l.length → StrE.Fits (gd l i).sub) : Calls Try.prog 41 #[v, .int .i64 ya, .int .i64 yb] w (RetSlB w 3 IntE.enc 1 (btL l ya yb) (btG l ya yb)) := by
  have HA := Lib.hid (fun W (hB : Below w.heap.size w W) => areCards_c v l W (h.mono hB) (hd.mono hB) hs)
  have A0 := btrans (below_alloc w (.cells #[.int .i64 ya] 3)) (below_alloc (w.alloc (.cells #[.int .i64 ya] 3)) (.cells #[.int .i64 yb] 3))
  have k0 : ((w.alloc (.cells #[.int .i64 ya] 3)).alloc (.cells #[.int .i64 yb] 3)).cell? ⟨w.heap.size, 0, none⟩ = some (.int .i64 ya) := by go_simp
  have k1 : ((w.alloc (.cells #[.int .i64 ya] 3)).alloc (.cells #[.int .i64 yb] 3)).cell? ⟨w.heap.size + 1, 0, none⟩ = some (.int .i64 yb) := by go_simp
  have HF := fun hl => Lib.hid (fun W (hB : Below ((w.alloc (.cells #[.int .i64 ya] 3)).alloc (.cells #[.int .i64 yb] 3)).heap.size ((w.alloc (.cells #[.int .i64 ya] 3)).alloc (.cells #[.int .i64 yb] 3)) W) => cardsFor_c v l W 72 #[.pointer (some ⟨w.heap.size, 0, none⟩), .pointer (some ⟨w.heap.size + 1, 0, none⟩)] (btP l ya yb) ((h.mono A0).mono hB) hl (fun _ _ => by kernel_rfl)
    (fun i W' hi hB' => cardsBetween1_c (gd l i) ya yb w.heap.size (w.heap.size + 1) W' (cellOn hB' (cellOn hB k0)) (cellOn hB' (cellOn hB k1))))
  have HYa := Lib.hid (fun W => isYear_c ya W)
  have HYb := Lib.hid (fun W => isYear_c yb W)
  have hway := bt_way l ya yb
  have hI := fun hab => Lib.hid (show btI l ya (yb - ya + 1).toNat = idsC (sortR (ltC (fun x y => cmpI x.yr y.yr)) (pickG (btP l ya yb) (gd l) l.length)).reverse by rw [btS l ya yb hab]; rfl)
  generalize btL l ya yb = L at hway ⊢
  generalize btG l ya yb = ok at hway ⊢
  obtain ⟨a, cap, b, off, rfl, hlc, hm, hc⟩ := h
  unfold maxLen at hm
  rcases hway with ⟨h1, rfl, rfl⟩ | ⟨h1, h2, rfl, rfl⟩ | ⟨h1, h2, h3, rfl, rfl⟩ | ⟨h1, h2, h3, h4, rfl, rfl⟩ | ⟨h1, h2, h3, h4, rfl, rfl⟩
  · rw [h1] at HA
    replace HA := Lib.hid HA.out
    clear h1 HF HYa HYb hI
    go_enter Try.func41, Try.ntmps41
    go_wp2_with (go_at_call 21; refine (HA.out _ (by repeat' (first | exact Below.refl _ _ | with_reducible assumption | refine bext ?_ ?_ _ | refine Below.alloc ?_ ?_ _ | refine Below.setCell ?_ ?_ _ | refine Below.drew ?_ | (simp; done) | (have hbz := hb.size; first | omega | (simp; omega)) | (simp; omega) | omega))).mono ?_; rintro e w' ⟨rfl, hbq⟩; obtain ⟨p, rfl⟩ := ext_of_below hbq; clear hbq)
    go_ret2
    exact ⟨_, rfl, Own.nil _ _ _ _ _, (by repeat' (first | exact Below.refl _ _ | with_reducible assumption | refine bext ?_ ?_ _ | refine Below.alloc ?_ ?_ _ | refine Below.setCell ?_ ?_ _ | refine Below.drew ?_ | (simp; done) | (have hbz := hb.size; first | omega | (simp; omega)) | (simp; omega) | omega))⟩
  · rw [h1] at HA
    rw [h2] at HYa
    replace HA := Lib.hid HA.out
    replace HYa := Lib.hid HYa.out
    clear h1 h2 HF HYb hI
    go_enter Try.func41, Try.ntmps41
    go_wp2_with (first | (go_at_call 21; refine (HA.out _ (by repeat' (first | exact Below.refl _ _ | with_reducible assumption | refine bext ?_ ?_ _ | refine Below.alloc ?_ ?_ _ | refine Below.setCell ?_ ?_ _ | refine Below.drew ?_ | (simp; done) | (have hbz := hb.size; first | omega | (simp; omega)) | (simp; omega) | omega))).mono ?_; rintro e w' ⟨rfl, hbq⟩; obtain ⟨p, rfl⟩ := ext_of_below hbq; clear hbq) | (go_at_call 52; refine (HYa.out _).mono ?_; rintro e w' ⟨rfl, rfl⟩))
    go_ret2
    exact ⟨_, rfl, Own.nil _ _ _ _ _, (by repeat' (first | exact Below.refl _ _ | with_reducible assumption | refine bext ?_ ?_ _ | refine Below.alloc ?_ ?_ _ | refine Below.setCell ?_ ?_ _ | refine Below.drew ?_ | (simp; done) | (have hbz := hb.size; first | omega | (simp; omega)) | (simp; omega) | omega))⟩
  · rw [h1] at HA
    rw [h2] at HYa
    rw [h3] at HYb
    replace HA := Lib.hid HA.out
    replace HYa := Lib.hid HYa.out
    replace HYb := Lib.hid HYb.out
    clear h1 h2 h3 HF hI
    go_enter Try.func41, Try.ntmps41
    go_wp2_with (first | (go_at_call 21; refine (HA.out _ (by repeat' (first | exact Below.refl _ _ | with_reducible assumption | refine bext ?_ ?_ _ | refine Below.alloc ?_ ?_ _ | refine Below.setCell ?_ ?_ _ | refine Below.drew ?_ | (simp; done) | (have hbz := hb.size; first | omega | (simp; omega)) | (simp; omega) | omega))).mono ?_; rintro e w' ⟨rfl, hbq⟩; obtain ⟨p, rfl⟩ := ext_of_below hbq; clear hbq) | ((with_reducible (go_at_call 52; refine (HYa.out _).mono ?_; rintro e w' ⟨rfl, rfl⟩))) | ((with_reducible (go_at_call 52; refine (HYb.out _).mono ?_; rintro e w' ⟨rfl, rfl⟩))))
    go_ret2
    exact ⟨_, rfl, Own.nil _ _ _ _ _, (by repeat' (first | exact Below.refl _ _ | with_reducible assumption | refine bext ?_ ?_ _ | refine Below.alloc ?_ ?_ _ | refine Below.setCell ?_ ?_ _ | refine Below.drew ?_ | (simp; done) | (have hbz := hb.size; first | omega | (simp; omega)) | (simp; omega) | omega))⟩
  · rw [h1] at HA
    rw [h2] at HYa
    rw [h3] at HYb
    replace HA := Lib.hid HA.out
    replace HYa := Lib.hid HYa.out
    replace HYb := Lib.hid HYb.out
    clear h1 h2 h3 HF hI
    go_enter Try.func41, Try.ntmps41
    go_wp2_with (first | (go_at_call 21; refine (HA.out _ (by repeat' (first | exact Below.refl _ _ | with_reducible assumption | refine bext ?_ ?_ _ | refine Below.alloc ?_ ?_ _ | refine Below.setCell ?_ ?_ _ | refine Below.drew ?_ | (simp; done) | (have hbz := hb.size; first | omega | (simp; omega)) | (simp; omega) | omega))).mono ?_; rintro e w' ⟨rfl, hbq⟩; obtain ⟨p, rfl⟩ := ext_of_below hbq; clear hbq) | ((with_reducible (go_at_call 52; refine (HYa.out _).mono ?_; rintro e w' ⟨rfl, rfl⟩))) | ((with_reducible (go_at_call 52; refine (HYb.out _).mono ?_; rintro e w' ⟨rfl, rfl⟩))))
    go_ret2
    exact ⟨_, rfl, Own.nil _ _ _ _ _, (by repeat' (first | exact Below.refl _ _ | with_reducible assumption | refine bext ?_ ?_ _ | refine Below.alloc ?_ ?_ _ | refine Below.setCell ?_ ?_ _ | refine Below.drew ?_ | (simp; done) | (have hbz := hb.size; first | omega | (simp; omega)) | (simp; omega) | omega))⟩
  · rw [h1] at HA
    rw [h2] at HYa
    rw [h3] at HYb
    replace HA := Lib.hid HA.out
    replace HYa := Lib.hid HYa.out
    replace HYb := Lib.hid HYb.out
    have h12 := (by have h1c := h1; simp [areCrd] at h1c; exact h1c.2 : l.length ≤ 12)
    replace HF := HF (by omega)
    replace hI := hI h4
    clear h1 h2 h3 hd
    have h4' : ¬ yb < ya := by omega
    go_enter Try.func41, Try.ntmps41
    go_wp2_with (first | (go_at_call 21; refine (HA.out _ (by repeat' (first | exact Below.refl _ _ | with_reducible assumption | refine bext ?_ ?_ _ | refine Below.alloc ?_ ?_ _ | refine Below.setCell ?_ ?_ _ | refine Below.drew ?_ | (simp; done) | (have hbz := hb.size; first | omega | (simp; omega)) | (simp; omega) | omega))).mono ?_; rintro e w' ⟨rfl, hbq⟩; obtain ⟨p, rfl⟩ := ext_of_below hbq; clear hbq) | ((with_reducible (go_at_call 52; refine (HYa.out _).mono ?_; rintro e w' ⟨rfl, rfl⟩))) | ((with_reducible (go_at_call 52; refine (HYb.out _).mono ?_; rintro e w' ⟨rfl, rfl⟩))))
    refine callsAt (fun W hW => ?_)
    have BW : Below ((w.alloc (.cells #[.int .i64 ya] 3)).alloc (.cells #[.int .i64 yb] 3)).heap.size ((w.alloc (.cells #[.int .i64 ya] 3)).alloc (.cells #[.int .i64 yb] 3)) W := by rw [hW]; exact (by repeat' (first | exact Below.refl _ _ | with_reducible assumption | refine bext ?_ ?_ _ | refine Below.alloc ?_ ?_ _ | refine Below.setCell ?_ ?_ _ | refine Below.drew ?_ | (simp; done) | (have hbz := hb.size; first | omega | (simp; omega)) | (simp; omega) | omega))
    clear hW
    refine (HF.out W BW).mono ?_
    rintro e w3 ⟨v3, rfl, o3, b3⟩
    have B3 := btrans (btrans A0 BW) b3
    have hPl := pickG_len (btP l ya yb) (gd l) l.length
    have hbnd := o3.bounds
    have BWs := (btrans A0 BW).size
    have HS := Lib.hid (sortStableCrd_c v3 _ _ w3 74 #[] (fun x y => cmpI x.yr y.yr) o3 (by omega) (fun _ _ => by kernel_rfl) (fun x y W' _ _ _ => cardsBetween2_c x y W'))
    clear HF HA k0 k1
    go_wp2_with fail
    refine HS.out.mono ?_
    rintro e w4 ⟨rfl, o4, g4⟩
    have B4 := B3.grown g4 B3.size (fun q hq => by have := (hbnd q hq).1; omega)
    have HCI := Lib.hid (cardIds_c v3 _ w4 (o4.sl Crd.len) (by rw [List.length_reverse, sortR_len]; omega))
    rw [← hI.out] at HCI
    go_wp2_with fail
    refine HCI.out.mono ?_
    rintro e w5 ⟨v5, rfl, o5, b5⟩
    have hz4 := B4.size
    go_wp2_with fail
    go_ret2
    exact ⟨_, rfl, o5.lower (by omega), btrans B4 b5⟩
/-- the ids behind n years and k cards of the next one -/
def btK (l : List Crd) (a : Int) (n k : Nat) : List Int := btI l a n ++ idsC (pickG (fun i => (gd l i).yr == a + n) (gd l) k)
theorem btK_zero (l : List Crd) (a : Int) (n : Nat) : btK l a n 0 = btI l a n := by simp [btK, pickG, idsC]
theorem btK_all (l : List Crd) (a : Int) (n : Nat) : btK l a n l.length = btI l a (n + 1) := by
  rw [btK, pickG_filter_all (fun x : Crd => x.yr == a + n) l, btI, btI, byKey_succ, idsC, idsC, idsC, List.map_append]
theorem btK_yes {l : List Crd} {a : Int} {n k : Nat} (h : ((gd l k).yr == a + n) = true) : btK l a n (k + 1) = btK l a n k ++ [(gd l k).id] := by
  rw [btK, pickG_yes (p := fun i => (gd l i).yr == a + n) h, idsC, List.map_append, ← List.append_assoc]
  rfl
theorem btK_no {l : List Crd} {a : Int} {n k : Nat} (h : ((gd l k).yr == a + n) = false) : btK l a n (k + 1) = btK l a n k := by
  rw [btK, pickG_no (p := fun i => (gd l i).yr == a + n) h]
  rfl
theorem btK_len (l : List Crd) (a : Int) (n k : Nat) : (btK l a n k).length ≤ n * l.length + k := by
  have h1 := byKey_len Crd.yr a n l
  have h2 := pickG_len (fun i => (gd l i).yr == a + n) (gd l) k
  simp only [btK, btI, idsC, List.length_append, List.length_map]
  omega
set_option maxHeartbeats 4000000 in
set_option maxRecDepth 100000 in
theorem specCardsBetween_c (v : Value) (l : List Crd) (ya yb : Int) (w : World) (h : Sl w Crd.enc 3 v l) (hd : Crd.Deep w l) (hs : ∀ i, i < l.length → StrE.Fits (gd l i).sub) : Calls Try.prog 40 #[v, .int .i64 ya, .int .i64 yb] w (RetSlB w 3 IntE.enc 1 (btL l ya yb) (btG l ya yb)) := by
  have HA := Lib.hid (fun W (hB : Below w.heap.size w W) => l24Good_c v l W (h.mono hB) (hd.mono hB) hs)
  have HYa := Lib.hid (fun W => l24Year_c ya W)
  have HYb := Lib.hid (fun W => l24Year_c yb W)
  obtain ⟨i', hi', hy0, hy1, hy2⟩ := info_parts (show (Try.prog.info? 3).map (fun i => (i.zero, i.size, i.bytes)) = some (some (.int .i64 0), 1, 8) by kernel_rfl)
  have hway := bt_way l ya yb
  generalize btL l ya yb = L at hway ⊢
  generalize btG l ya yb = ok at hway ⊢
  obtain ⟨a, cap, b, off, rfl, hlc, hm, hc⟩ := h
  unfold maxLen at hm
  rcases hway with ⟨h1, rfl, rfl⟩ | ⟨h1, h2, rfl, rfl⟩ | ⟨h1, h2, h3, rfl, rfl⟩ | ⟨h1, h2, h3, h4, rfl, rfl⟩ | ⟨h1, h2, h3, h4, rfl, rfl⟩
  · rw [h1] at HA
    replace HA := Lib.hid HA.out
    clear h1 HYa HYb
    go_enter Try.func40, Try.ntmps40
    go_wp2_with (go_at_call 54; refine (HA.out _ (by repeat' (first | exact Below.refl _ _ | with_reducible assumption | refine bext ?_ ?_ _ | refine Below.alloc ?_ ?_ _ | refine Below.setCell ?_ ?_ _ | refine Below.drew ?_ | (simp; done) | (have hbz := hb.size; first | omega | (simp; omega)) | (simp; omega) | omega))).mono ?_; rintro e w' ⟨rfl, hbq⟩; obtain ⟨p, rfl⟩ := ext_of_below hbq; clear hbq)
    go_ret2
    exact ⟨_, rfl, (Own.empty' (by simp) (by simp)).mono (below_ext _ _), (by repeat' (first | exact Below.refl _ _ | with_reducible assumption | refine bext ?_ ?_ _ | refine Below.alloc ?_ ?_ _ | refine Below.setCell ?_ ?_ _ | refine Below.drew ?_ | (simp; done) | (have hbz := hb.size; first | omega | (simp; omega)) | (simp; omega) | omega))⟩
  · rw [h1] at HA
    rw [h2] at HYa
    replace HA := Lib.hid HA.out
    replace HYa := Lib.hid HYa.out
    clear h1 h2 HYb
    go_enter Try.func40, Try.ntmps40
    go_wp2_with (first | (go_at_call 54; refine (HA.out _ (by repeat' (first | exact Below.refl _ _ | with_reducible assumption | refine bext ?_ ?_ _ | refine Below.alloc ?_ ?_ _ | refine Below.setCell ?_ ?_ _ | refine Below.drew ?_ | (simp; done) | (have hbz := hb.size; first | omega | (simp; omega)) | (simp; omega) | omega))).mono ?_; rintro e w' ⟨rfl, hbq⟩; obtain ⟨p, rfl⟩ := ext_of_below hbq; clear hbq) | (go_at_call 71; refine (HYa.out _).mono ?_; rintro e w' ⟨rfl, rfl⟩))
    go_ret2
    exact ⟨_, rfl, (Own.empty' (by simp) (by simp)).mono (below_ext _ _), (by repeat' (first | exact Below.refl _ _ | with_reducible assumption | refine bext ?_ ?_ _ | refine Below.alloc ?_ ?_ _ | refine Below.setCell ?_ ?_ _ | refine Below.drew ?_ | (simp; done) | (have hbz := hb.size; first | omega | (simp; omega)) | (simp; omega) | omega))⟩
  · rw [h1] at HA
    rw [h2] at HYa
    rw [h3] at HYb
    replace HA := Lib.hid HA.out
    replace HYa := Lib.hid HYa.out
    replace HYb := Lib.hid HYb.out
    clear h1 h2 h3
    go_enter Try.func40, Try.ntmps40
    go_wp2_with (first | (go_at_call 54; refine (HA.out _ (by repeat' (first | exact Below.refl _ _ | with_reducible assumption | refine bext ?_ ?_ _ | refine Below.alloc ?_ ?_ _ | refine Below.setCell ?_ ?_ _ | refine Below.drew ?_ | (simp; done) | (have hbz := hb.size; first | omega | (simp; omega)) | (simp; omega) | omega))).mono ?_; rintro e w' ⟨rfl, hbq⟩; obtain ⟨p, rfl⟩ := ext_of_below hbq; clear hbq) | ((with_reducible (go_at_call 71; refine (HYa.out _).mono ?_; rintro e w' ⟨rfl, rfl⟩))) | ((with_reducible (go_at_call 71; refine (HYb.out _).mono ?_; rintro e w' ⟨rfl, rfl⟩))))
    go_ret2
    exact ⟨_, rfl, (Own.empty' (by simp) (by simp)).mono (below_ext _ _), (by repeat' (first | exact Below.refl _ _ | with_reducible assumption | refine bext ?_ ?_ _ | refine Below.alloc ?_ ?_ _ | refine Below.setCell ?_ ?_ _ | refine Below.drew ?_ | (simp; done) | (have hbz := hb.size; first | omega | (simp; omega)) | (simp; omega) | omega))⟩
  · rw [h1] at HA
    rw [h2] at HYa
    rw [h3] at HYb
    replace HA := Lib.hid HA.out
    replace HYa := Lib.hid HYa.out
    replace HYb := Lib.hid HYb.out
    clear h1 h2 h3
    go_enter Try.func40, Try.ntmps40
    go_wp2_with (first | (go_at_call 54; refine (HA.out _ (by repeat' (first | exact Below.refl _ _ | with_reducible assumption | refine bext ?_ ?_ _ | refine Below.alloc ?_ ?_ _ | refine Below.setCell ?_ ?_ _ | refine Below.drew ?_ | (simp; done) | (have hbz := hb.size; first | omega | (simp; omega)) | (simp; omega) | omega))).mono ?_; rintro e w' ⟨rfl, hbq⟩; obtain ⟨p, rfl⟩ := ext_of_below hbq; clear hbq) | ((with_reducible (go_at_call 71; refine (HYa.out _).mono ?_; rintro e w' ⟨rfl, rfl⟩))) | ((with_reducible (go_at_call 71; refine (HYb.out _).mono ?_; rintro e w' ⟨rfl, rfl⟩))))
    go_ret2
    exact ⟨_, rfl, (Own.empty' (by simp) (by simp)).mono (below_ext _ _), (by repeat' (first | exact Below.refl _ _ | with_reducible assumption | refine bext ?_ ?_ _ | refine Below.alloc ?_ ?_ _ | refine Below.setCell ?_ ?_ _ | refine Below.drew ?_ | (simp; done) | (have hbz := hb.size; first | omega | (simp; omega)) | (simp; omega) | omega))⟩
  · rw [h1] at HA
    rw [h2] at HYa
    rw [h3] at HYb
    replace HA := Lib.hid HA.out
    replace HYa := Lib.hid HYa.out
    replace HYb := Lib.hid HYb.out
    have h12 : l.length ≤ 12 := by have h1c := h1; simp [areCrd] at h1c; exact h1c.2
    rw [inB_iff] at h2 h3
    clear h1 hd
    have h4' : ¬ yb < ya := by omega
    go_enter Try.func40, Try.ntmps40
    go_wp2_with (first | (go_at_call 54; refine (HA.out _ (by repeat' (first | exact Below.refl _ _ | with_reducible assumption | refine bext ?_ ?_ _ | refine Below.alloc ?_ ?_ _ | refine Below.setCell ?_ ?_ _ | refine Below.drew ?_ | (simp; done) | (have hbz := hb.size; first | omega | (simp; omega)) | (simp; omega) | omega))).mono ?_; rintro e w' ⟨rfl, hbq⟩; obtain ⟨p, rfl⟩ := ext_of_below hbq; clear hbq) | ((with_reducible (go_at_call 71; refine (HYa.out _).mono ?_; rintro e w' ⟨rfl, rfl⟩))) | ((with_reducible (go_at_call 71; refine (HYb.out _).mono ?_; rintro e w' ⟨rfl, rfl⟩))))
    refine wpAt fun W hW => ?_
    have BW : Below w.heap.size w W := by rw [hW]; exact (by repeat' (first | exact Below.refl _ _ | with_reducible assumption | refine bext ?_ ?_ _ | refine Below.alloc ?_ ?_ _ | refine Below.setCell ?_ ?_ _ | refine Below.drew ?_ | (simp; done) | (have hbz := hb.size; first | omega | (simp; omega)) | (simp; omega) | omega))
    have OW : Own W w.heap.size 3 IntE.enc 1 (.slice (some ⟨w.heap.size, 0, none⟩) 0 0) ([] : List Int) := by rw [hW]; exact (Own.empty' (by simp) (by simp)).mono (below_ext _ _)
    clear hW HA HYa HYb
    generalize Value.slice (some ⟨w.heap.size, 0, none⟩) 0 0 = s0 at OW ⊢
    go_loopw [8, 9, 10] (fun o y _ wr => ∃ n : Nat, ya + n ≤ yb + 1 ∧ y = .int .i64 (ya + n) ∧ Hid (Own wr w.heap.size 3 IntE.enc 1 o (btI l ya n)) ∧ Below w.heap.size w wr) (fun _ y _ _ => (yb + 1 - intOf y).toNat)
    case atStart => exact ⟨0, by omega, by go_num, OW, BW⟩
    case round =>
      obtain ⟨n, hn, rfl, ho, hb⟩ := hrel
      obtain ⟨wo, hwo⟩ : ∃ x, x = wr := ⟨_, rfl⟩
      subst hwo
      by_cases hlt : ya + n ≤ yb
      · have hnn : n ≤ 600 := by omega
        go_wp2_with fail
        go_loopw [8, 10] (fun o j wi => ∃ k : Nat, k ≤ l.length ∧ j = .int .i64 k ∧ Hid (Own wi w.heap.size 3 IntE.enc 1 o (btK l ya n k)) ∧ Below w.heap.size w wi) (fun _ j _ => l.length - (intOf j).toNat)
        case atStart => exact ⟨0, Nat.zero_le _, rfl, by rw [btK_zero]; exact ho.out, hb⟩
        case round =>
        obtain ⟨k, hk, rfl, ho2, hb2⟩ := hrel
        by_cases hlk : k < l.length
        · obtain ⟨rfl, hbw, c0, c1, c2⟩ := Crd.at (hc.mono hb2) k hlk
          cases hq : ((gd l k).yr == ya + (n : Int))
          · have hun := Lib.hid (btK_no hq)
            go_wp2_with fail
            go_roundw
            case rel => exact ⟨k + 1, by omega, by go_num, by rw [hun.out]; exact ho2.out, hb2⟩
            case measure => simp [intOf]; omega
          · have hun := Lib.hid (btK_yes hq)
            have hpl := btK_len l ya n k
            have hpl2 : n * l.length ≤ 600 * 12 := Nat.mul_le_mul hnn h12
            have hze := hb2.size
            go_wp2_with (at_builtin; refine wpList_push IntE.len IntE.one rfl _ _ 49 rfl w.heap.size 3 i' _ 8 Try.underlying49 hi' hy0 hy1 hy2 rfl (by omega) _ _ rfl (ho2.out.mono (below_alloc _ _)) _ 1 (gd l k).id rfl (fun j u hu => new_cells _ [.int .i64 (gd l k).id] _ _ (by simp) j u hu) (by unfold maxLen; omega) (by omega) (by simp; omega) ?_)
            intro v' w3 ho3 hg3
            have hb3 := below_push (lo := w.heap.size) (B := w.heap.size) (a := w) (hb2.trans ((below_alloc _ _).mono hze)) (ho2.out.mono (below_alloc _ _)) hg3 (Nat.le_refl _) (by simp; omega)
            go_wp2_with fail
            go_roundw
            case rel => exact ⟨k + 1, by omega, by go_num, by rw [hun.out]; exact ho3, hb3⟩
            case measure => simp [intOf]; omega
        · obtain rfl : k = l.length := by omega
          go_wp2_with fail
          go_roundw
          case rel => exact ⟨n + 1, by omega, by go_num, by rw [← btK_all]; exact ho2.out, hb2⟩
          case measure => simp [intOf]; omega
      · have hnn : n = (yb - ya + 1).toNat := by omega
        rw [hnn] at ho
        clear hnn
        go_wp2_with fail
        go_ret2
        exact ⟨_, rfl, ho.out, hb⟩
end Go.Proofs.Ytemgcbmcjpgelaa
