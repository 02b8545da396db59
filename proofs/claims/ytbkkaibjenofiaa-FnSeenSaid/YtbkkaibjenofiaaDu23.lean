/- Headings: the ids for which a condition holds; what stands directly under one. No condition but sizes. -/
import Derived.Test.YtbkkaibjenofiaaHm23
namespace Go.Proofs.Ytbkkaibjenofiaa
open Go.RowKit
/-- the values f at the places below n for which p holds -/
def pickL {α : Type} (p : Nat → Bool) (f : Nat → α) (n : Nat) : List α := ((List.range n).filter p).map f
theorem pickL_yes {α : Type} {p : Nat → Bool} {f : Nat → α} {k : Nat} (h : p k = true) : pickL p f (k + 1) = pickL p f k ++ [f k] := by simp [pickL, List.range_succ, List.filter_append, h]
theorem pickL_no {α : Type} {p : Nat → Bool} {f : Nat → α} {k : Nat} (h : p k = false) : pickL p f (k + 1) = pickL p f k := by simp [pickL, List.range_succ, List.filter_append, h]
theorem pickL_len {α : Type} (p : Nat → Bool) (f : Nat → α) (n : Nat) : (pickL p f n).length ≤ n := by
  have := List.length_filter_le p (List.range n)
  simpa [pickL] using this
theorem pickL_congr {α : Type} {p p' : Nat → Bool} {f f' : Nat → α} {n : Nat} (hp : ∀ i, i < n → p' i = p i) (hf : ∀ i, i < n → f' i = f i) : pickL p' f' n = pickL p f n := by
  induction n with
  | zero => rfl
  | succ n ih =>
    have ih := ih (fun i hi => hp i (by omega)) (fun i hi => hf i (by omega))
    cases h : p n
    · rw [pickL_no h, pickL_no (by rw [hp n (by omega)]; exact h), ih]
    · rw [pickL_yes h, pickL_yes (by rw [hp n (by omega)]; exact h), ih, hf n (by omega)]
def duGood (l : List Hdg) (n : Int) : Bool := areHd l && (n == 0 || (hdIdx l n).isSome)
def duIds (l : List Hdg) (n : Int) (k : Nat) : List Int := pickL (fun i => (gd l i).un == n) (fun i => (gd l i).id) k
def duL (l : List Hdg) (n : Int) : List Int := if duGood l n then duIds l n l.length else []
theorem duL_len (l : List Hdg) (n : Int) : (duL l n).length ≤ l.length := by
  unfold duL
  split
  · exact pickL_len _ _ _
  · simp
theorem du_same {l l' : List Hdg} (h : l'.map Hdg.bare = l.map Hdg.bare) (n : Int) : duL l' n = duL l n ∧ duGood l' n = duGood l n := by
  have hg : duGood l' n = duGood l n := by rw [duGood, duGood, areHd_same h, hdIdx_same h]
  have hl : l'.length = l.length := by simpa using congrArg List.length h
  refine ⟨?_, hg⟩
  rw [duL, duL, hg, duIds, duIds, hl]
  rw [pickL_congr (fun i hi => by rw [(Hdg.sub_eq (map_same_at h i hi).2).2.2.1]) (fun i hi => by rw [(Hdg.sub_eq (map_same_at h i hi).2).1])]
theorem du_way (l : List Hdg) (n : Int) : (areHd l = false ∧ duGood l n = false) ∨ (areHd l = true ∧ (n != 0) = false ∧ duGood l n = true) ∨ (areHd l = true ∧ (n != 0) = true ∧ idxInt (hdIdx l n) < 0 ∧ duGood l n = false) ∨ (areHd l = true ∧ (n != 0) = true ∧ ¬ idxInt (hdIdx l n) < 0 ∧ duGood l n = true) := by
  unfold duGood
  cases areHd l
  · exact .inl ⟨rfl, rfl⟩
  · by_cases h0 : n = 0
    · exact .inr (.inl ⟨rfl, by simp [h0], by simp [h0]⟩)
    · have h1 : (n != 0) = true := by simp [h0]
      have h2 : (n == 0) = false := by simp [h0]
      rcases hd_way (l := l) (n := n) with ⟨h3, h4⟩ | ⟨h3, h4⟩
      · exact .inr (.inr (.inl ⟨rfl, h1, h4, by rw [h2, h3]; rfl⟩))
      · exact .inr (.inr (.inr ⟨rfl, h1, h4, by rw [h2, h3]; rfl⟩))
set_option maxHeartbeats 2000000 in
set_option maxRecDepth 100000 in
theorem headingIds_c (a : Option Addr) (cap b off : Nat) (l : List Hdg) (w : World) (g : Nat) (cb : Array Value) (p : Nat → Bool) (hm : l.length ≤ maxLen) (hl : l.length ≤ 1048577) (hc : Cells w Hdg.enc 4 a b off l)
    (eg : ∀ (args : Array Value) (W : World), (callFunc g args).run Try.prog W = .ok (.enter g args) W)
    (hf : ∀ i W, i < l.length → Below w.heap.size w W → Calls Try.prog g (#[.agg #[.int .i64 (gd l i).id, .string (gd l i).nm, .int .i64 (gd l i).un, .slice (gd l i).a (gd l i).sub.length (gd l i).cap]] ++ cb) W fun e w' => e = .returned (.bool (p i)) ∧ Below W.heap.size W w') :
    Calls Try.prog 60 #[.slice a l.length cap, .func (.func g) #[] cb] w (RetOwn w 3 IntE.enc 1 (pickL p (fun i => (gd l i).id) l.length)) := by
  obtain ⟨i, hi, hz0, hz1, hz2⟩ := info_parts (show (Try.prog.info? 3).map (fun i => (i.zero, i.size, i.bytes)) = some (some (.int .i64 0), 1, 8) by kernel_rfl)
  unfold maxLen at hm
  have HF := Lib.hid hf
  clear hf
  go_enter Try.func60, Try.ntmps60
  go_wp2_with fail
  go_loopw [5, 10] (fun o i wr => ∃ k : Nat, k ≤ l.length ∧ i = .int .i64 k ∧ Hid (Own wr w.heap.size 3 IntE.enc 1 o (pickL p (fun i => (gd l i).id) k)) ∧ Below w.heap.size w wr) (fun _ i _ => l.length - (intOf i).toNat)
  case atStart => exact ⟨0, Nat.zero_le _, rfl, Own.nil _ _ _ _ _, Below.refl _ _⟩
  case round =>
    obtain ⟨k, hk, rfl, ho, hb⟩ := hrel
    by_cases hlt : k < l.length
    · obtain ⟨rfl, hbw, c0, c1, c2, c3⟩ := Hdg.at (hc.mono hb) k hlt
      have A0 := below_alloc wr (.cells #[.int .i64 (gd l k).id, .string (gd l k).nm, .int .i64 (gd l k).un, .slice (gd l k).a (gd l k).sub.length (gd l k).cap] 55)
      have hf := HF.out k _ hlt (btrans hb A0)
      have hpl := pickL_len p (fun i => (gd l i).id) k
      cases hp : p k
      · rw [hp] at hf
        replace hf := Lib.hid hf
        have hun := Lib.hid (pickL_no (f := fun i => (gd l i).id) hp)
        clear hp
        go_wp2_with fail
        refine hf.out.mono ?_
        rintro e w2 ⟨rfl, hb2⟩
        have B2 := btrans (btrans hb A0) hb2
        replace ho := Lib.hid ((ho.out.mono A0).mono hb2)
        clear hb2
        go_wp2_with fail
        go_roundw
        case rel => exact ⟨k + 1, by omega, by go_num, by rw [hun.out]; exact ho.out, B2⟩
        case measure => simp [intOf]; omega
      · rw [hp] at hf
        replace hf := Lib.hid hf
        have hun := Lib.hid (pickL_yes (f := fun i => (gd l i).id) hp)
        clear hp
        go_wp2_with fail
        refine hf.out.mono ?_
        rintro e w2 ⟨rfl, hb2⟩
        have B2 := btrans (btrans hb A0) hb2
        have d0 : w2.cell? ⟨wr.heap.size, 0, none⟩ = some (.int .i64 (gd l k).id) := cellOn hb2 (by simp)
        have hbw2 : wr.heap.size < w2.heap.size := Nat.lt_of_lt_of_le (by simp) hb2.size
        replace ho := Lib.hid ((ho.out.mono A0).mono hb2)
        clear hb2
        have hz2' := B2.size
        go_wp2_with (at_builtin; refine wpList_push IntE.len intE_one rfl _ _ 33 rfl w.heap.size 3 i _ 8 Try.underlying33 hi hz0 hz1 hz2 rfl (by omega) _ _ rfl (ho.out.mono (by repeat' (first | exact Below.refl _ _ | with_reducible assumption | refine bext ?_ ?_ _ | refine Below.alloc ?_ ?_ _ | refine Below.setCell ?_ ?_ _ | refine Below.drew ?_ | (simp; done) | (have hbz := hb.size; first | omega | (simp; omega)) | (simp; omega) | omega))) _ 1 (gd l k).id rfl (fun j u hu => new_cells _ [.int .i64 (gd l k).id] _ _ (by simp) j u hu) (by unfold maxLen; omega) (by omega) (by simp; omega) ?_)
        intro v' w3 ho3 hg3
        have hb3 := below_push (lo := w.heap.size) (B := w.heap.size) (a := w) (B2.trans ((below_alloc _ _).mono B2.size)) (ho.out.mono (by repeat' (first | exact Below.refl _ _ | with_reducible assumption | refine bext ?_ ?_ _ | refine Below.alloc ?_ ?_ _ | refine Below.setCell ?_ ?_ _ | refine Below.drew ?_ | (simp; done) | (have hbz := hb.size; first | omega | (simp; omega)) | (simp; omega) | omega))) hg3 (Nat.le_refl _) (by simp; omega)
        go_wp2_with fail
        go_roundw
        case rel => exact ⟨k + 1, by omega, by go_num, by rw [hun.out]; exact ho3, hb3⟩
        case measure => simp [intOf]; omega
    · obtain rfl : k = l.length := by omega
      go_wp2_with fail
      go_ret
      exact ⟨_, rfl, ho.out, hb⟩
set_option maxHeartbeats 400000 in
theorem directlyUnder1_c (x : Hdg) (n : Int) (b : Nat) (W : World) (hc : W.cell? ⟨b, 0, none⟩ = some (.int .i64 n)) : Calls Try.prog 61 #[.agg #[.int .i64 x.id, .string x.nm, .int .i64 x.un, .slice x.a x.sub.length x.cap], .pointer (some ⟨b, 0, none⟩)] W fun e w' => e = .returned (.bool (x.un == n)) ∧ Below W.heap.size W w' := by
  have hb := block_lt_of_cell hc
  go_enter Try.func61, Try.ntmps61
  go_wp2_with fail
  go_ret
  exact ⟨rfl, (by repeat' (first | exact Below.refl _ _ | with_reducible assumption | refine bext ?_ ?_ _ | refine Below.alloc ?_ ?_ _ | refine Below.setCell ?_ ?_ _ | refine Below.drew ?_ | (simp; done) | (have hbz := hb.size; first | omega | (simp; omega)) | (simp; omega) | omega))⟩
set_option maxHeartbeats 2000000 in
set_option maxRecDepth 100000 in
theorem directlyUnder_c (v : Value) (l : List Hdg) (n : Int) (w : World) (h : Sl w Hdg.enc 4 v l) (hd : Hdg.Deep w l) (hs : ∀ i, i < l.length → (gd l i).Fits) : Calls Try.prog 14 #[v, .int .i64 n] w (RetSlB w 3 IntE.enc 1 (duL l n) (duGood l n)) := by
  have HA := Lib.hid (fun W (hB : Below w.heap.size w W) => areHeadings_c v l W (h.mono hB) (hd.mono hB) hs)
  have HT := Lib.hid (fun W (hB : Below w.heap.size w W) => headingAt_c v l n W (h.mono hB))
  obtain ⟨a, cap, b, off, rfl, hlc, hm, hc⟩ := h
  unfold maxLen at hm
  have A0 := below_alloc w (.cells #[.int .i64 n] 3)
  have hL := Lib.hid (show duL l n = if duGood l n then duIds l n l.length else [] from rfl)
  have hway := du_way l n
  have hI : areHd l = true → Hid (∀ W, Below (w.alloc (.cells #[.int .i64 n] 3)).heap.size (w.alloc (.cells #[.int .i64 n] 3)) W → Calls Try.prog 60 #[.slice a l.length cap, .func (.func 61) #[] #[.pointer (some ⟨w.heap.size, 0, none⟩)]] W (RetOwn W 3 IntE.enc 1 (duIds l n l.length))) := fun hA => Lib.hid fun W hW => by
    have h15 := areHd_len hA
    have hcell := cellOn hW (show (w.alloc (.cells #[.int .i64 n] 3)).cell? ⟨w.heap.size, 0, none⟩ = some (.int .i64 n) by simp)
    exact headingIds_c a cap b off l W 61 #[.pointer (some ⟨w.heap.size, 0, none⟩)] (fun i => (gd l i).un == n) (by unfold maxLen; omega) (by omega) ((hc.mono A0).mono hW) (fun _ _ => by kernel_rfl) (fun i W' hi hB => directlyUnder1_c (gd l i) n w.heap.size W' (cellOn hB hcell))
  generalize duGood l n = gd at hway hL ⊢
  generalize areHd l = ok at hway HA hI
  generalize idxInt (hdIdx l n) = r at hway HT
  rcases hway with ⟨rfl, rfl⟩ | ⟨rfl, h1, rfl⟩ | ⟨rfl, h1, h2, rfl⟩ | ⟨rfl, h1, h2, rfl⟩
  · rw [show duL l n = [] from hL.out]
    go_enter Try.func14, Try.ntmps14
    go_wp2_with (first | (go_at_call 25; refine (HA.out _ (by repeat' (first | exact Below.refl _ _ | with_reducible assumption | refine bext ?_ ?_ _ | refine Below.alloc ?_ ?_ _ | refine Below.setCell ?_ ?_ _ | refine Below.drew ?_ | (simp; done) | (have hbz := hb.size; first | omega | (simp; omega)) | (simp; omega) | omega))).mono ?_; rintro e w' ⟨rfl, hbq⟩; obtain ⟨p, rfl⟩ := ext_of_below hbq; clear hbq) | (go_at_call 59; refine (HT.out _ (by repeat' (first | exact Below.refl _ _ | with_reducible assumption | refine bext ?_ ?_ _ | refine Below.alloc ?_ ?_ _ | refine Below.setCell ?_ ?_ _ | refine Below.drew ?_ | (simp; done) | (have hbz := hb.size; first | omega | (simp; omega)) | (simp; omega) | omega))).mono ?_; rintro e w' ⟨rfl, hbq⟩; obtain ⟨p, rfl⟩ := ext_of_below hbq; clear hbq))
    go_ret2
    exact ⟨_, rfl, Own.nil _ _ _ _ _, (by repeat' (first | exact Below.refl _ _ | with_reducible assumption | refine bext ?_ ?_ _ | refine Below.alloc ?_ ?_ _ | refine Below.setCell ?_ ?_ _ | refine Below.drew ?_ | (simp; done) | (have hbz := hb.size; first | omega | (simp; omega)) | (simp; omega) | omega))⟩
  · rw [show duL l n = duIds l n l.length from hL.out]
    replace hI := hI rfl
    clear hL
    go_enter Try.func14, Try.ntmps14
    go_wp2_with (first | (go_at_call 25; refine (HA.out _ (by repeat' (first | exact Below.refl _ _ | with_reducible assumption | refine bext ?_ ?_ _ | refine Below.alloc ?_ ?_ _ | refine Below.setCell ?_ ?_ _ | refine Below.drew ?_ | (simp; done) | (have hbz := hb.size; first | omega | (simp; omega)) | (simp; omega) | omega))).mono ?_; rintro e w' ⟨rfl, hbq⟩; obtain ⟨p, rfl⟩ := ext_of_below hbq; clear hbq) | (go_at_call 59; refine (HT.out _ (by repeat' (first | exact Below.refl _ _ | with_reducible assumption | refine bext ?_ ?_ _ | refine Below.alloc ?_ ?_ _ | refine Below.setCell ?_ ?_ _ | refine Below.drew ?_ | (simp; done) | (have hbz := hb.size; first | omega | (simp; omega)) | (simp; omega) | omega))).mono ?_; rintro e w' ⟨rfl, hbq⟩; obtain ⟨p, rfl⟩ := ext_of_below hbq; clear hbq))
    refine callsAt (fun W hW => ?_)
    have BW : Below (w.alloc (.cells #[.int .i64 n] 3)).heap.size (w.alloc (.cells #[.int .i64 n] 3)) W := by rw [hW]; exact (by repeat' (first | exact Below.refl _ _ | with_reducible assumption | refine bext ?_ ?_ _ | refine Below.alloc ?_ ?_ _ | refine Below.setCell ?_ ?_ _ | refine Below.drew ?_ | (simp; done) | (have hbz := hb.size; first | omega | (simp; omega)) | (simp; omega) | omega))
    clear hW
    refine (hI.out W BW).mono ?_
    rintro e w5 ⟨v5, rfl, o5, b5⟩
    have B5 := btrans (btrans A0 BW) b5
    have hz5 := (btrans A0 BW).size
    go_wp2_with fail
    go_ret2
    exact ⟨_, rfl, o5.lower hz5, B5⟩
  · rw [show duL l n = [] from hL.out]
    go_enter Try.func14, Try.ntmps14
    go_wp2_with (first | (go_at_call 25; refine (HA.out _ (by repeat' (first | exact Below.refl _ _ | with_reducible assumption | refine bext ?_ ?_ _ | refine Below.alloc ?_ ?_ _ | refine Below.setCell ?_ ?_ _ | refine Below.drew ?_ | (simp; done) | (have hbz := hb.size; first | omega | (simp; omega)) | (simp; omega) | omega))).mono ?_; rintro e w' ⟨rfl, hbq⟩; obtain ⟨p, rfl⟩ := ext_of_below hbq; clear hbq) | (go_at_call 59; refine (HT.out _ (by repeat' (first | exact Below.refl _ _ | with_reducible assumption | refine bext ?_ ?_ _ | refine Below.alloc ?_ ?_ _ | refine Below.setCell ?_ ?_ _ | refine Below.drew ?_ | (simp; done) | (have hbz := hb.size; first | omega | (simp; omega)) | (simp; omega) | omega))).mono ?_; rintro e w' ⟨rfl, hbq⟩; obtain ⟨p, rfl⟩ := ext_of_below hbq; clear hbq))
    go_ret2
    exact ⟨_, rfl, Own.nil _ _ _ _ _, (by repeat' (first | exact Below.refl _ _ | with_reducible assumption | refine bext ?_ ?_ _ | refine Below.alloc ?_ ?_ _ | refine Below.setCell ?_ ?_ _ | refine Below.drew ?_ | (simp; done) | (have hbz := hb.size; first | omega | (simp; omega)) | (simp; omega) | omega))⟩
  · rw [show duL l n = duIds l n l.length from hL.out]
    replace hI := hI rfl
    clear hL
    go_enter Try.func14, Try.ntmps14
    go_wp2_with (first | (go_at_call 25; refine (HA.out _ (by repeat' (first | exact Below.refl _ _ | with_reducible assumption | refine bext ?_ ?_ _ | refine Below.alloc ?_ ?_ _ | refine Below.setCell ?_ ?_ _ | refine Below.drew ?_ | (simp; done) | (have hbz := hb.size; first | omega | (simp; omega)) | (simp; omega) | omega))).mono ?_; rintro e w' ⟨rfl, hbq⟩; obtain ⟨p, rfl⟩ := ext_of_below hbq; clear hbq) | (go_at_call 59; refine (HT.out _ (by repeat' (first | exact Below.refl _ _ | with_reducible assumption | refine bext ?_ ?_ _ | refine Below.alloc ?_ ?_ _ | refine Below.setCell ?_ ?_ _ | refine Below.drew ?_ | (simp; done) | (have hbz := hb.size; first | omega | (simp; omega)) | (simp; omega) | omega))).mono ?_; rintro e w' ⟨rfl, hbq⟩; obtain ⟨p, rfl⟩ := ext_of_below hbq; clear hbq))
    refine callsAt (fun W hW => ?_)
    have BW : Below (w.alloc (.cells #[.int .i64 n] 3)).heap.size (w.alloc (.cells #[.int .i64 n] 3)) W := by rw [hW]; exact (by repeat' (first | exact Below.refl _ _ | with_reducible assumption | refine bext ?_ ?_ _ | refine Below.alloc ?_ ?_ _ | refine Below.setCell ?_ ?_ _ | refine Below.drew ?_ | (simp; done) | (have hbz := hb.size; first | omega | (simp; omega)) | (simp; omega) | omega))
    clear hW
    refine (hI.out W BW).mono ?_
    rintro e w5 ⟨v5, rfl, o5, b5⟩
    have B5 := btrans (btrans A0 BW) b5
    have hz5 := (btrans A0 BW).size
    go_wp2_with fail
    go_ret2
    exact ⟨_, rfl, o5.lower hz5, B5⟩
set_option maxHeartbeats 2000000 in
set_option maxRecDepth 100000 in
theorem specDirectlyUnder_c (v : Value) (l : List Hdg) (n : Int) (w : World) (h : Sl w Hdg.enc 4 v l) (hd : Hdg.Deep w l) (hs : ∀ i, i < l.length → (gd l i).Fits) : Calls Try.prog 15 #[v, .int .i64 n] w (RetSlB w 3 IntE.enc 1 (duL l n) (duGood l n)) := by
  have HA := Lib.hid (fun W (hB : Below w.heap.size w W) => l23Good_c v l W (h.mono hB) (hd.mono hB) hs)
  have HT := Lib.hid (fun W (hB : Below w.heap.size w W) => l23Find_c v l n W (h.mono hB))
  obtain ⟨a, cap, b, off, rfl, hlc, hm, hc⟩ := h
  obtain ⟨i, hi, hz0, hz1, hz2⟩ := info_parts (show (Try.prog.info? 3).map (fun i => (i.zero, i.size, i.bytes)) = some (some (.int .i64 0), 1, 8) by kernel_rfl)
  unfold maxLen at hm
  have A0 := below_alloc w (.cells #[] 3)
  have hL := Lib.hid (show duL l n = if duGood l n then duIds l n l.length else [] from rfl)
  have h15 : areHd l = true → l.length ≤ 15 := fun h => areHd_len h
  have hway : (areHd l = false ∧ duGood l n = false) ∨ (areHd l = true ∧ (n != 0) = false ∧ duGood l n = true) ∨ (areHd l = true ∧ (n != 0) = true ∧ idxInt (hdIdx l n) < 0 ∧ duGood l n = false) ∨ (areHd l = true ∧ (n != 0) = true ∧ ¬ idxInt (hdIdx l n) < 0 ∧ duGood l n = true) := du_way l n
  generalize duGood l n = gd' at hway hL ⊢
  generalize areHd l = ok at hway HA h15
  generalize idxInt (hdIdx l n) = r at hway HT
  rcases hway with ⟨rfl, rfl⟩ | ⟨rfl, h1, rfl⟩ | ⟨rfl, h1, h2, rfl⟩ | ⟨rfl, h1, h2, rfl⟩
  · rw [show duL l n = [] from hL.out]
    go_enter Try.func15, Try.ntmps15
    go_wp2_with (first | (go_at_call 54; refine (HA.out _ (by repeat' (first | exact Below.refl _ _ | with_reducible assumption | refine bext ?_ ?_ _ | refine Below.alloc ?_ ?_ _ | refine Below.setCell ?_ ?_ _ | refine Below.drew ?_ | (simp; done) | (have hbz := hb.size; first | omega | (simp; omega)) | (simp; omega) | omega))).mono ?_; rintro e w' ⟨rfl, hbq⟩; obtain ⟨p, rfl⟩ := ext_of_below hbq; clear hbq) | (go_at_call 55; refine (HT.out _ (by repeat' (first | exact Below.refl _ _ | with_reducible assumption | refine bext ?_ ?_ _ | refine Below.alloc ?_ ?_ _ | refine Below.setCell ?_ ?_ _ | refine Below.drew ?_ | (simp; done) | (have hbz := hb.size; first | omega | (simp; omega)) | (simp; omega) | omega))).mono ?_; rintro e w' ⟨rfl, rfl⟩))
    go_ret2
    exact ⟨_, rfl, (Own.empty w _ _ _ _ (Nat.le_refl _)).mono (below_ext _ _), (by repeat' (first | exact Below.refl _ _ | with_reducible assumption | refine bext ?_ ?_ _ | refine Below.alloc ?_ ?_ _ | refine Below.setCell ?_ ?_ _ | refine Below.drew ?_ | (simp; done) | (have hbz := hb.size; first | omega | (simp; omega)) | (simp; omega) | omega))⟩
  · rw [show duL l n = duIds l n l.length from hL.out]
    have hl := h15 rfl
    clear hL
    go_enter Try.func15, Try.ntmps15
    go_wp2_with (first | (go_at_call 54; refine (HA.out _ (by repeat' (first | exact Below.refl _ _ | with_reducible assumption | refine bext ?_ ?_ _ | refine Below.alloc ?_ ?_ _ | refine Below.setCell ?_ ?_ _ | refine Below.drew ?_ | (simp; done) | (have hbz := hb.size; first | omega | (simp; omega)) | (simp; omega) | omega))).mono ?_; rintro e w' ⟨rfl, hbq⟩; obtain ⟨p, rfl⟩ := ext_of_below hbq; clear hbq) | (go_at_call 55; refine (HT.out _ (by repeat' (first | exact Below.refl _ _ | with_reducible assumption | refine bext ?_ ?_ _ | refine Below.alloc ?_ ?_ _ | refine Below.setCell ?_ ?_ _ | refine Below.drew ?_ | (simp; done) | (have hbz := hb.size; first | omega | (simp; omega)) | (simp; omega) | omega))).mono ?_; rintro e w' ⟨rfl, rfl⟩))
    generalize e2 : ext _ p = W2
    have B2 : Below w.heap.size w W2 := by rw [← e2]; exact (by repeat' (first | exact Below.refl _ _ | with_reducible assumption | refine bext ?_ ?_ _ | refine Below.alloc ?_ ?_ _ | refine Below.setCell ?_ ?_ _ | refine Below.drew ?_ | (simp; done) | (have hbz := hb.size; first | omega | (simp; omega)) | (simp; omega) | omega))
    have O2 : Own W2 w.heap.size 3 IntE.enc 1 (.slice (some ⟨w.heap.size, 0, none⟩) 0 0) ([] : List Int) := by rw [← e2]; exact (Own.empty w _ _ _ _ (Nat.le_refl _)).mono (below_ext _ _)
    clear e2 HA HT
    go_loopw [6, 7] (fun o i wr => ∃ k : Nat, k ≤ l.length ∧ i = .int .i64 k ∧ Hid (Own wr w.heap.size 3 IntE.enc 1 o (duIds l n k)) ∧ Below w.heap.size w wr) (fun _ i _ => l.length - (intOf i).toNat)
    case atStart => exact ⟨0, Nat.zero_le _, rfl, O2, B2⟩
    case round =>
      obtain ⟨k, hk, rfl, ho, hb⟩ := hrel
      by_cases hlt : k < l.length
      · obtain ⟨rfl, hbw, c0, c1, c2, c3⟩ := Hdg.at (hc.mono hb) k hlt
        have hpl : (duIds l n k).length ≤ k := pickL_len _ _ k
        have hzb := hb.size
        cases hq : ((gd l k).un == n)
        · have hun := Lib.hid (show duIds l n (k + 1) = duIds l n k from pickL_no (p := fun i => (gd l i).un == n) hq)
          go_wp2_with fail
          go_roundw
          case rel => exact ⟨k + 1, by omega, by go_num, by rw [hun.out]; exact ho.out, hb⟩
          case measure => simp [intOf]; omega
        · have hun := Lib.hid (show duIds l n (k + 1) = duIds l n k ++ [(gd l k).id] from pickL_yes (p := fun i => (gd l i).un == n) (f := fun i => (gd l i).id) hq)
          replace hq := Lib.hid (show n = (gd l k).un from (eq_of_beq hq).symm)
          have hq' : ((gd l k).un == n) = true := by rw [hq.out]; simp
          go_wp2_with (at_builtin; refine wpList_push IntE.len intE_one rfl _ _ 33 rfl w.heap.size 3 i _ 8 Try.underlying33 hi hz0 hz1 hz2 rfl (by omega) _ _ rfl (ho.out.mono (by repeat' (first | exact Below.refl _ _ | with_reducible assumption | refine bext ?_ ?_ _ | refine Below.alloc ?_ ?_ _ | refine Below.setCell ?_ ?_ _ | refine Below.drew ?_ | (simp; done) | (have hbz := hb.size; first | omega | (simp; omega)) | (simp; omega) | omega))) _ 1 (gd l k).id rfl (fun j u hu => new_cells _ [.int .i64 (gd l k).id] _ _ (by simp) j u hu) (by unfold maxLen; omega) (by omega) (by simp; omega) ?_)
          intro v' w3 ho3 hg3
          have hb3 := below_push (lo := w.heap.size) (B := w.heap.size) (a := w) (hb.trans ((below_alloc _ _).mono hb.size)) (ho.out.mono (by repeat' (first | exact Below.refl _ _ | with_reducible assumption | refine bext ?_ ?_ _ | refine Below.alloc ?_ ?_ _ | refine Below.setCell ?_ ?_ _ | refine Below.drew ?_ | (simp; done) | (have hbz := hb.size; first | omega | (simp; omega)) | (simp; omega) | omega))) hg3 (Nat.le_refl _) (by simp; omega)
          go_wp2_with fail
          go_roundw
          case rel => exact ⟨k + 1, by omega, by go_num, by rw [hun.out]; exact ho3, hb3⟩
          case measure => simp [intOf]; omega
      · obtain rfl : k = l.length := by omega
        go_wp2_with fail
        go_ret2
        exact ⟨_, rfl, ho.out, hb⟩
  · rw [show duL l n = [] from hL.out]
    go_enter Try.func15, Try.ntmps15
    go_wp2_with (first | (go_at_call 54; refine (HA.out _ (by repeat' (first | exact Below.refl _ _ | with_reducible assumption | refine bext ?_ ?_ _ | refine Below.alloc ?_ ?_ _ | refine Below.setCell ?_ ?_ _ | refine Below.drew ?_ | (simp; done) | (have hbz := hb.size; first | omega | (simp; omega)) | (simp; omega) | omega))).mono ?_; rintro e w' ⟨rfl, hbq⟩; obtain ⟨p, rfl⟩ := ext_of_below hbq; clear hbq) | (go_at_call 55; refine (HT.out _ (by repeat' (first | exact Below.refl _ _ | with_reducible assumption | refine bext ?_ ?_ _ | refine Below.alloc ?_ ?_ _ | refine Below.setCell ?_ ?_ _ | refine Below.drew ?_ | (simp; done) | (have hbz := hb.size; first | omega | (simp; omega)) | (simp; omega) | omega))).mono ?_; rintro e w' ⟨rfl, rfl⟩))
    go_ret2
    exact ⟨_, rfl, (Own.empty w _ _ _ _ (Nat.le_refl _)).mono (below_ext _ _), (by repeat' (first | exact Below.refl _ _ | with_reducible assumption | refine bext ?_ ?_ _ | refine Below.alloc ?_ ?_ _ | refine Below.setCell ?_ ?_ _ | refine Below.drew ?_ | (simp; done) | (have hbz := hb.size; first | omega | (simp; omega)) | (simp; omega) | omega))⟩
  · rw [show duL l n = duIds l n l.length from hL.out]
    have hl := h15 rfl
    clear hL
    go_enter Try.func15, Try.ntmps15
    go_wp2_with (first | (go_at_call 54; refine (HA.out _ (by repeat' (first | exact Below.refl _ _ | with_reducible assumption | refine bext ?_ ?_ _ | refine Below.alloc ?_ ?_ _ | refine Below.setCell ?_ ?_ _ | refine Below.drew ?_ | (simp; done) | (have hbz := hb.size; first | omega | (simp; omega)) | (simp; omega) | omega))).mono ?_; rintro e w' ⟨rfl, hbq⟩; obtain ⟨p, rfl⟩ := ext_of_below hbq; clear hbq) | (go_at_call 55; refine (HT.out _ (by repeat' (first | exact Below.refl _ _ | with_reducible assumption | refine bext ?_ ?_ _ | refine Below.alloc ?_ ?_ _ | refine Below.setCell ?_ ?_ _ | refine Below.drew ?_ | (simp; done) | (have hbz := hb.size; first | omega | (simp; omega)) | (simp; omega) | omega))).mono ?_; rintro e w' ⟨rfl, rfl⟩))
    generalize e2 : ext _ p = W2
    have B2 : Below w.heap.size w W2 := by rw [← e2]; exact (by repeat' (first | exact Below.refl _ _ | with_reducible assumption | refine bext ?_ ?_ _ | refine Below.alloc ?_ ?_ _ | refine Below.setCell ?_ ?_ _ | refine Below.drew ?_ | (simp; done) | (have hbz := hb.size; first | omega | (simp; omega)) | (simp; omega) | omega))
    have O2 : Own W2 w.heap.size 3 IntE.enc 1 (.slice (some ⟨w.heap.size, 0, none⟩) 0 0) ([] : List Int) := by rw [← e2]; exact (Own.empty w _ _ _ _ (Nat.le_refl _)).mono (below_ext _ _)
    clear e2 HA HT
    go_loopw [6, 7] (fun o i wr => ∃ k : Nat, k ≤ l.length ∧ i = .int .i64 k ∧ Hid (Own wr w.heap.size 3 IntE.enc 1 o (duIds l n k)) ∧ Below w.heap.size w wr) (fun _ i _ => l.length - (intOf i).toNat)
    case atStart => exact ⟨0, Nat.zero_le _, rfl, O2, B2⟩
    case round =>
      obtain ⟨k, hk, rfl, ho, hb⟩ := hrel
      by_cases hlt : k < l.length
      · obtain ⟨rfl, hbw, c0, c1, c2, c3⟩ := Hdg.at (hc.mono hb) k hlt
        have hpl : (duIds l n k).length ≤ k := pickL_len _ _ k
        have hzb := hb.size
        cases hq : ((gd l k).un == n)
        · have hun := Lib.hid (show duIds l n (k + 1) = duIds l n k from pickL_no (p := fun i => (gd l i).un == n) hq)
          go_wp2_with fail
          go_roundw
          case rel => exact ⟨k + 1, by omega, by go_num, by rw [hun.out]; exact ho.out, hb⟩
          case measure => simp [intOf]; omega
        · have hun := Lib.hid (show duIds l n (k + 1) = duIds l n k ++ [(gd l k).id] from pickL_yes (p := fun i => (gd l i).un == n) (f := fun i => (gd l i).id) hq)
          replace hq := Lib.hid (show n = (gd l k).un from (eq_of_beq hq).symm)
          have hq' : ((gd l k).un == n) = true := by rw [hq.out]; simp
          go_wp2_with (at_builtin; refine wpList_push IntE.len intE_one rfl _ _ 33 rfl w.heap.size 3 i _ 8 Try.underlying33 hi hz0 hz1 hz2 rfl (by omega) _ _ rfl (ho.out.mono (by repeat' (first | exact Below.refl _ _ | with_reducible assumption | refine bext ?_ ?_ _ | refine Below.alloc ?_ ?_ _ | refine Below.setCell ?_ ?_ _ | refine Below.drew ?_ | (simp; done) | (have hbz := hb.size; first | omega | (simp; omega)) | (simp; omega) | omega))) _ 1 (gd l k).id rfl (fun j u hu => new_cells _ [.int .i64 (gd l k).id] _ _ (by simp) j u hu) (by unfold maxLen; omega) (by omega) (by simp; omega) ?_)
          intro v' w3 ho3 hg3
          have hb3 := below_push (lo := w.heap.size) (B := w.heap.size) (a := w) (hb.trans ((below_alloc _ _).mono hb.size)) (ho.out.mono (by repeat' (first | exact Below.refl _ _ | with_reducible assumption | refine bext ?_ ?_ _ | refine Below.alloc ?_ ?_ _ | refine Below.setCell ?_ ?_ _ | refine Below.drew ?_ | (simp; done) | (have hbz := hb.size; first | omega | (simp; omega)) | (simp; omega) | omega))) hg3 (Nat.le_refl _) (by simp; omega)
          go_wp2_with fail
          go_roundw
          case rel => exact ⟨k + 1, by omega, by go_num, by rw [hun.out]; exact ho3, hb3⟩
          case measure => simp [intOf]; omega
      · obtain rfl : k = l.length := by omega
        go_wp2_with fail
        go_ret2
        exact ⟨_, rfl, ho.out, hb⟩
end Go.Proofs.Ytbkkaibjenofiaa
