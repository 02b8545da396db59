/- Headings: the ids of all that one is above. No condition but sizes. -/
import Derived.Test.YtbkkaibjenofiaaDu23
import Derived.Deep.RegionHeld3
namespace Go.Proofs.Ytbkkaibjenofiaa
open Go.RowKit
def abP (l : List Hdg) (n : Int) (i : Nat) : Bool := (gd l i).id != n && hasI (upL l (gd l i).id) n
def abIds (l : List Hdg) (n : Int) (k : Nat) : List Int := pickL (abP l n) (fun i => (gd l i).id) k
def abL (l : List Hdg) (n : Int) : List Int := if isHd l n then abIds l n l.length else []
theorem abL_len (l : List Hdg) (n : Int) : (abL l n).length ≤ l.length := by
  unfold abL
  split
  · exact pickL_len _ _ _
  · simp
theorem ab_same {l l' : List Hdg} (h : l'.map Hdg.bare = l.map Hdg.bare) (n : Int) : abL l' n = abL l n ∧ isHd l' n = isHd l n := by
  have hg : isHd l' n = isHd l n := isHd_same h n
  have hl : l'.length = l.length := by simpa using congrArg List.length h
  refine ⟨?_, hg⟩
  rw [abL, abL, hg, abIds, abIds, hl]
  rw [pickL_congr (p := abP l n) (p' := abP l' n) (fun i hi => by unfold abP; rw [(Hdg.sub_eq (map_same_at h i hi).2).1, upL_same h]) (fun i hi => by rw [(Hdg.sub_eq (map_same_at h i hi).2).1])]
theorem containsHas_c (v : Value) (l : List Int) (n : Int) (w : World) (h : Sl w IntE.enc 1 v l) : Calls Try.prog 63 #[v, .int .i64 n] w fun e w' => e = .returned (.bool (hasI l n)) ∧ w = w' := containsInt_c v l n w h
set_option maxHeartbeats 4000000 in
set_option maxRecDepth 100000 in
theorem allBelow1_c (v : Value) (l : List Hdg) (x : Hdg) (n : Int) (nb lb : Nat) (W : World) (h : Sl W Hdg.enc 4 v l) (hA : areHd l = true) (hx : standsAt l x.id) (hc : W.cell? ⟨nb, 0, none⟩ = some (.int .i64 n)) (hv : W.cell? ⟨lb, 0, none⟩ = some v) :
    Calls Try.prog 62 #[.agg #[.int .i64 x.id, .string x.nm, .int .i64 x.un, .slice x.a x.sub.length x.cap], .pointer (some ⟨nb, 0, none⟩), .pointer (some ⟨lb, 0, none⟩)] W fun e w' => e = .returned (.bool (x.id != n && hasI (upL l x.id) n)) ∧ Below W.heap.size W w' := by
  have hb := block_lt_of_cell hc
  have hb2 := block_lt_of_cell hv
  dsimp only at hb hb2
  have A0 := below_alloc W (.cells #[.int .i64 x.id, .string x.nm, .int .i64 x.un, .slice x.a x.sub.length x.cap] 55)
  cases hq : (x.id != n)
  · go_enter Try.func62, Try.ntmps62
    go_wp2_with fail
    refine wp_region_ext (by kernel_rfl) (by kernel_rfl) ?_
    repeat (any_goals (first | go_big_quiet_step (fail)))
    (refine wpQuiet_nil ?_)
    (rintro _ ⟨q, rfl⟩)
    go_wp2_with fail
    go_ret
    exact ⟨rfl, (by repeat' (first | exact Below.refl _ _ | with_reducible assumption | refine bext ?_ ?_ _ | refine Below.alloc ?_ ?_ _ | refine Below.setCell ?_ ?_ _ | refine Below.drew ?_ | (simp; done) | (have hbz := hb.size; first | omega | (simp; omega)) | (simp; omega) | omega))⟩
  · have HU := Lib.hid (fun W' (hB : Below W.heap.size W W') => upFrom_c v l x.id W' (h.mono hB) hA hx)
    obtain ⟨a, cap, b, off, rfl, -, -, -⟩ := h
    go_enter Try.func62, Try.ntmps62
    go_wp2_with fail
    have HS : (Below W.heap.size W (W.alloc (.cells #[.int .i64 x.id, .string x.nm, .int .i64 x.un, .slice x.a x.sub.length x.cap] 55)) ∧ W.heap.size ≤ (W.alloc (.cells #[.int .i64 x.id, .string x.nm, .int .i64 x.un, .slice x.a x.sub.length x.cap] 55)).heap.size) ∧ (W.alloc (.cells #[.int .i64 x.id, .string x.nm, .int .i64 x.un, .slice x.a x.sub.length x.cap] 55)).cell? ⟨W.heap.size, 0, none⟩ = some (.int .i64 x.id) ∧ (W.alloc (.cells #[.int .i64 x.id, .string x.nm, .int .i64 x.un, .slice x.a x.sub.length x.cap] 55)).cell? ⟨nb, 0, none⟩ = some (.int .i64 n) ∧ (W.alloc (.cells #[.int .i64 x.id, .string x.nm, .int .i64 x.un, .slice x.a x.sub.length x.cap] 55)).cell? ⟨lb, 0, none⟩ = some (.slice a l.length cap) :=
      ⟨⟨A0, by simp⟩, by simp, cellOn A0 hc, cellOn A0 hv⟩
    generalize eW : W.alloc (.cells #[.int .i64 x.id, .string x.nm, .int .i64 x.un, .slice x.a x.sub.length x.cap] 55) = W1 at HS A0 ⊢
    clear eW
    have D := drewOn W1
    go_region_held3 (fun X => (Below W.heap.size W X ∧ W.heap.size ≤ X.heap.size) ∧ X.cell? ⟨W.heap.size, 0, none⟩ = some (.int .i64 x.id) ∧ X.cell? ⟨nb, 0, none⟩ = some (.int .i64 n) ∧ X.cell? ⟨lb, 0, none⟩ = some (.slice a l.length cap)) (first | assumption | (refine keep3 (by assumption) (by assumption)))
      (first | (go_at_call 64; refine (HU.out _ (And.left (And.left (by assumption)))).mono ?_; rintro e w8 ⟨v8, rfl, o8, b8⟩; obtain ⟨a9, cap9, b9, off9, rfl, hl9, hm9, hc9⟩ := o8.sl IntE.len) | (go_at_call 63; refine (containsHas_c _ (upL l x.id) n _ ⟨a9, cap9, b9, off9, rfl, hl9, hm9, hc9⟩).mono ?_; rintro e w10 ⟨rfl, rfl⟩))
    rename_i _ hH
    go_wp2_with fail
    go_ret
    exact ⟨rfl, hH.1.1⟩
set_option maxHeartbeats 2000000 in
set_option maxRecDepth 100000 in
theorem allBelow_c (v : Value) (l : List Hdg) (n : Int) (w : World) (h : Sl w Hdg.enc 4 v l) (hd : Hdg.Deep w l) (hs : ∀ i, i < l.length → (gd l i).Fits) : Calls Try.prog 17 #[v, .int .i64 n] w (RetSlB w 3 IntE.enc 1 (abL l n) (isHd l n)) := by
  have HA := Lib.hid (fun W (hB : Below w.heap.size w W) => isHeading_c v l n W (h.mono hB) (hd.mono hB) hs)
  have HS := Lib.hid h
  obtain ⟨a, cap, b, off, rfl, hlc, hm, hc⟩ := h
  unfold maxLen at hm
  have A0 : Below w.heap.size w ((w.alloc (.cells #[.slice a l.length cap] 24)).alloc (.cells #[.int .i64 n] 3)) := btrans (below_alloc _ _) (below_alloc _ _)
  have k0 : ((w.alloc (.cells #[.slice a l.length cap] 24)).alloc (.cells #[.int .i64 n] 3)).cell? ⟨w.heap.size, 0, none⟩ = some (.slice a l.length cap) := cellOn (below_alloc _ _) (by simp)
  have k1 : ((w.alloc (.cells #[.slice a l.length cap] 24)).alloc (.cells #[.int .i64 n] 3)).cell? ⟨w.heap.size + 1, 0, none⟩ = some (.int .i64 n) := new_cells _ [.int .i64 n] _ _ (by simp) 0 _ rfl
  have hL := Lib.hid (show abL l n = if isHd l n then abIds l n l.length else [] from rfl)
  have hI : isHd l n = true → Hid (∀ W, Below ((w.alloc (.cells #[.slice a l.length cap] 24)).alloc (.cells #[.int .i64 n] 3)).heap.size ((w.alloc (.cells #[.slice a l.length cap] 24)).alloc (.cells #[.int .i64 n] 3)) W → Calls Try.prog 60 #[.slice a l.length cap, .func (.func 62) #[] #[.pointer (some ⟨w.heap.size + 1, 0, none⟩), .pointer (some ⟨w.heap.size, 0, none⟩)]] W (RetOwn W 3 IntE.enc 1 (abIds l n l.length))) := fun hA => Lib.hid fun W hW => by
    have hA1 := (isHd_some hA).1
    have h15 := areHd_len hA1
    have c0 := cellOn hW k0
    have c1 := cellOn hW k1
    have hSW := (HS.out.mono A0).mono hW
    exact headingIds_c a cap b off l W 62 #[.pointer (some ⟨w.heap.size + 1, 0, none⟩), .pointer (some ⟨w.heap.size, 0, none⟩)] (abP l n) (by unfold maxLen; omega) (by omega) ((hc.mono A0).mono hW) (fun _ _ => by kernel_rfl) (fun i W' hi hB => allBelow1_c (.slice a l.length cap) l (gd l i) n (w.heap.size + 1) w.heap.size W' (hSW.mono hB) hA1 (.inr ⟨i, hi, rfl⟩) (cellOn hB c1) (cellOn hB c0))
  cases hg : isHd l n
  · rw [hg] at hL HA
    clear hI
    rw [show abL l n = [] from hL.out]
    replace HA := Lib.hid HA.out
    clear hg
    go_enter Try.func17, Try.ntmps17
    go_wp2_with (go_at_call 52; refine (HA.out _ (by repeat' (first | exact Below.refl _ _ | with_reducible assumption | refine bext ?_ ?_ _ | refine Below.alloc ?_ ?_ _ | refine Below.setCell ?_ ?_ _ | refine Below.drew ?_ | (simp; done) | (have hbz := hb.size; first | omega | (simp; omega)) | (simp; omega) | omega))).mono ?_; rintro e w' ⟨rfl, hbq⟩; obtain ⟨p, rfl⟩ := ext_of_below hbq; clear hbq)
    go_ret2
    exact ⟨_, rfl, Own.nil _ _ _ _ _, (by repeat' (first | exact Below.refl _ _ | with_reducible assumption | refine bext ?_ ?_ _ | refine Below.alloc ?_ ?_ _ | refine Below.setCell ?_ ?_ _ | refine Below.drew ?_ | (simp; done) | (have hbz := hb.size; first | omega | (simp; omega)) | (simp; omega) | omega))⟩
  · have hI := hI hg
    rw [hg] at hL HA
    rw [show abL l n = abIds l n l.length from hL.out]
    replace HA := Lib.hid HA.out
    clear hg hL
    go_enter Try.func17, Try.ntmps17
    go_wp2_with (go_at_call 52; refine (HA.out _ (by repeat' (first | exact Below.refl _ _ | with_reducible assumption | refine bext ?_ ?_ _ | refine Below.alloc ?_ ?_ _ | refine Below.setCell ?_ ?_ _ | refine Below.drew ?_ | (simp; done) | (have hbz := hb.size; first | omega | (simp; omega)) | (simp; omega) | omega))).mono ?_; rintro e w' ⟨rfl, hbq⟩; obtain ⟨p, rfl⟩ := ext_of_below hbq; clear hbq)
    refine callsAt (fun W hW => ?_)
    have BW : Below ((w.alloc (.cells #[.slice a l.length cap] 24)).alloc (.cells #[.int .i64 n] 3)).heap.size ((w.alloc (.cells #[.slice a l.length cap] 24)).alloc (.cells #[.int .i64 n] 3)) W := by rw [hW]; exact (by repeat' (first | exact Below.refl _ _ | with_reducible assumption | refine bext ?_ ?_ _ | refine Below.alloc ?_ ?_ _ | refine Below.setCell ?_ ?_ _ | refine Below.drew ?_ | (simp; done) | (have hbz := hb.size; first | omega | (simp; omega)) | (simp; omega) | omega))
    clear hW
    refine (hI.out W BW).mono ?_
    rintro e w5 ⟨v5, rfl, o5, b5⟩
    have B5 := btrans (btrans A0 BW) b5
    have hz5 := (btrans A0 BW).size
    go_wp2_with fail
    go_ret2
    exact ⟨_, rfl, o5.lower hz5, B5⟩
set_option maxHeartbeats 4000000 in
set_option maxRecDepth 100000 in
theorem specAllBelow_c (v : Value) (l : List Hdg) (n : Int) (w : World) (h : Sl w Hdg.enc 4 v l) (hd : Hdg.Deep w l) (hs : ∀ i, i < l.length → (gd l i).Fits) : Calls Try.prog 18 #[v, .int .i64 n] w (RetSlB w 3 IntE.enc 1 (abL l n) (isHd l n)) := by
  have HA := Lib.hid (fun W (hB : Below w.heap.size w W) => l23Good_c v l W (h.mono hB) (hd.mono hB) hs)
  have HT := Lib.hid (fun W (hB : Below w.heap.size w W) => l23Find_c v l n W (h.mono hB))
  have HS := Lib.hid h
  obtain ⟨a, cap, b, off, rfl, hlc, hm, hc⟩ := h
  obtain ⟨i, hi, hz0, hz1, hz2⟩ := info_parts (show (Try.prog.info? 3).map (fun i => (i.zero, i.size, i.bytes)) = some (some (.int .i64 0), 1, 8) by kernel_rfl)
  unfold maxLen at hm
  have hL := Lib.hid (show abL l n = if isHd l n then abIds l n l.length else [] from rfl)
  have h15 : areHd l = true → l.length ≤ 15 := fun h => areHd_len h
  have hT : areHd l = true → Hid (areHd l = true) := fun h => Lib.hid h
  have hway : (areHd l = false ∧ isHd l n = false) ∨ (areHd l = true ∧ idxInt (hdIdx l n) < 0 ∧ isHd l n = false) ∨ (areHd l = true ∧ ¬ idxInt (hdIdx l n) < 0 ∧ isHd l n = true) := by
    unfold isHd
    cases areHd l
    · exact .inl ⟨rfl, rfl⟩
    · rcases hd_way (l := l) (n := n) with ⟨h3, h4⟩ | ⟨h3, h4⟩
      · exact .inr (.inl ⟨rfl, h4, by rw [h3]; rfl⟩)
      · exact .inr (.inr ⟨rfl, h4, by rw [h3]; rfl⟩)
  generalize isHd l n = gd' at hway hL ⊢
  generalize hok : areHd l = ok at hway HA h15
  generalize idxInt (hdIdx l n) = r at hway HT
  rcases hway with ⟨rfl, rfl⟩ | ⟨rfl, h2, rfl⟩ | ⟨rfl, h2, rfl⟩
  · rw [show abL l n = [] from hL.out]
    clear hok hT
    go_enter Try.func18, Try.ntmps18
    go_wp2_with (first | (go_at_call 54; refine (HA.out _ (by repeat' (first | exact Below.refl _ _ | with_reducible assumption | refine bext ?_ ?_ _ | refine Below.alloc ?_ ?_ _ | refine Below.setCell ?_ ?_ _ | refine Below.drew ?_ | (simp; done) | (have hbz := hb.size; first | omega | (simp; omega)) | (simp; omega) | omega))).mono ?_; rintro e w' ⟨rfl, hbq⟩; obtain ⟨p, rfl⟩ := ext_of_below hbq; clear hbq) | (go_at_call 55; refine (HT.out _ (by repeat' (first | exact Below.refl _ _ | with_reducible assumption | refine bext ?_ ?_ _ | refine Below.alloc ?_ ?_ _ | refine Below.setCell ?_ ?_ _ | refine Below.drew ?_ | (simp; done) | (have hbz := hb.size; first | omega | (simp; omega)) | (simp; omega) | omega))).mono ?_; rintro e w' ⟨rfl, rfl⟩))
    go_ret2
    exact ⟨_, rfl, (Own.empty w _ _ _ _ (Nat.le_refl _)).mono (below_ext _ _), (by repeat' (first | exact Below.refl _ _ | with_reducible assumption | refine bext ?_ ?_ _ | refine Below.alloc ?_ ?_ _ | refine Below.setCell ?_ ?_ _ | refine Below.drew ?_ | (simp; done) | (have hbz := hb.size; first | omega | (simp; omega)) | (simp; omega) | omega))⟩
  · rw [show abL l n = [] from hL.out]
    clear hok hT
    go_enter Try.func18, Try.ntmps18
    go_wp2_with (first | (go_at_call 54; refine (HA.out _ (by repeat' (first | exact Below.refl _ _ | with_reducible assumption | refine bext ?_ ?_ _ | refine Below.alloc ?_ ?_ _ | refine Below.setCell ?_ ?_ _ | refine Below.drew ?_ | (simp; done) | (have hbz := hb.size; first | omega | (simp; omega)) | (simp; omega) | omega))).mono ?_; rintro e w' ⟨rfl, hbq⟩; obtain ⟨p, rfl⟩ := ext_of_below hbq; clear hbq) | (go_at_call 55; refine (HT.out _ (by repeat' (first | exact Below.refl _ _ | with_reducible assumption | refine bext ?_ ?_ _ | refine Below.alloc ?_ ?_ _ | refine Below.setCell ?_ ?_ _ | refine Below.drew ?_ | (simp; done) | (have hbz := hb.size; first | omega | (simp; omega)) | (simp; omega) | omega))).mono ?_; rintro e w' ⟨rfl, rfl⟩))
    go_ret2
    exact ⟨_, rfl, (Own.empty w _ _ _ _ (Nat.le_refl _)).mono (below_ext _ _), (by repeat' (first | exact Below.refl _ _ | with_reducible assumption | refine bext ?_ ?_ _ | refine Below.alloc ?_ ?_ _ | refine Below.setCell ?_ ?_ _ | refine Below.drew ?_ | (simp; done) | (have hbz := hb.size; first | omega | (simp; omega)) | (simp; omega) | omega))⟩
  · rw [show abL l n = abIds l n l.length from hL.out]
    have hl := h15 rfl
    replace hT := hT hok
    clear hL hok h15
    go_enter Try.func18, Try.ntmps18
    go_wp2_with (first | (go_at_call 54; refine (HA.out _ (by repeat' (first | exact Below.refl _ _ | with_reducible assumption | refine bext ?_ ?_ _ | refine Below.alloc ?_ ?_ _ | refine Below.setCell ?_ ?_ _ | refine Below.drew ?_ | (simp; done) | (have hbz := hb.size; first | omega | (simp; omega)) | (simp; omega) | omega))).mono ?_; rintro e w' ⟨rfl, hbq⟩; obtain ⟨p, rfl⟩ := ext_of_below hbq; clear hbq) | (go_at_call 55; refine (HT.out _ (by repeat' (first | exact Below.refl _ _ | with_reducible assumption | refine bext ?_ ?_ _ | refine Below.alloc ?_ ?_ _ | refine Below.setCell ?_ ?_ _ | refine Below.drew ?_ | (simp; done) | (have hbz := hb.size; first | omega | (simp; omega)) | (simp; omega) | omega))).mono ?_; rintro e w' ⟨rfl, rfl⟩))
    generalize e2 : ext _ p = W2
    have B2 : Below w.heap.size w W2 := by rw [← e2]; exact (by repeat' (first | exact Below.refl _ _ | with_reducible assumption | refine bext ?_ ?_ _ | refine Below.alloc ?_ ?_ _ | refine Below.setCell ?_ ?_ _ | refine Below.drew ?_ | (simp; done) | (have hbz := hb.size; first | omega | (simp; omega)) | (simp; omega) | omega))
    have O2 : Own W2 w.heap.size 3 IntE.enc 1 (.slice (some ⟨w.heap.size, 0, none⟩) 0 0) ([] : List Int) := by rw [← e2]; exact (Own.empty w _ _ _ _ (Nat.le_refl _)).mono (below_ext _ _)
    clear e2 HA HT
    go_loopw [6, 7] (fun o i wr => ∃ k : Nat, k ≤ l.length ∧ i = .int .i64 k ∧ Hid (Own wr w.heap.size 3 IntE.enc 1 o (abIds l n k)) ∧ Below w.heap.size w wr) (fun _ i _ => l.length - (intOf i).toNat)
    case atStart => exact ⟨0, Nat.zero_le _, rfl, O2, B2⟩
    case round =>
      obtain ⟨k, hk, rfl, ho, hb⟩ := hrel
      by_cases hlt : k < l.length
      · obtain ⟨rfl, hbw, c0, c1, c2, c3⟩ := Hdg.at (hc.mono hb) k hlt
        have hpl : (abIds l n k).length ≤ k := pickL_len _ _ k
        have hzb := hb.size
        cases hq : ((gd l k).id != n)
        · have hun := Lib.hid (show abIds l n (k + 1) = abIds l n k from pickL_no (p := abP l n) (by unfold abP; rw [hq]; rfl))
          go_wp2_with fail
          go_roundw
          case rel => exact ⟨k + 1, by omega, by go_num, by rw [hun.out]; exact ho.out, hb⟩
          case measure => simp [intOf]; omega
        · have hU := Lib.hid (l23Above_c _ l (gd l k).id wr (HS.out.mono hb) hT.out (.inr ⟨k, hlt, rfl⟩))
          cases hh : hasI (upL l (gd l k).id) n
          · have hun := Lib.hid (show abIds l n (k + 1) = abIds l n k from pickL_no (p := abP l n) (by unfold abP; rw [hq, hh]; rfl))
            replace hh := Lib.hid hh
            go_wp2_with fail
            refine hU.out.mono ?_
            rintro e w8 ⟨v8, rfl, o8, b8⟩
            have hH := Lib.hid (l1Has_c v8 (upL l (gd l k).id) n w8 (o8.sl IntE.len))
            rw [hh.out] at hH
            replace hH := Lib.hid hH.out
            have B8 := btrans hb b8
            replace ho := Lib.hid (ho.out.mono b8)
            clear b8
            go_wp2_with (go_at_call 65; refine (hH.out).mono ?_; rintro e w' ⟨rfl, rfl⟩)
            go_roundw
            case rel => exact ⟨k + 1, by omega, by go_num, by rw [hun.out]; exact ho.out, B8⟩
            case measure => simp [intOf]; omega
          · have hun := Lib.hid (show abIds l n (k + 1) = abIds l n k ++ [(gd l k).id] from pickL_yes (p := abP l n) (f := fun i => (gd l i).id) (by unfold abP; rw [hq, hh]; rfl))
            replace hh := Lib.hid hh
            go_wp2_with fail
            refine hU.out.mono ?_
            rintro e w8 ⟨v8, rfl, o8, b8⟩
            have hH := Lib.hid (l1Has_c v8 (upL l (gd l k).id) n w8 (o8.sl IntE.len))
            rw [hh.out] at hH
            replace hH := Lib.hid hH.out
            have B8 := btrans hb b8
            have hz8 := B8.size
            obtain ⟨-, hbw8, d0, -, -, -⟩ := Hdg.at (hc.mono B8) k hlt
            replace ho := Lib.hid (ho.out.mono b8)
            clear b8
            go_wp2_with (first | (go_at_call 65; refine (hH.out).mono ?_; rintro e w' ⟨rfl, rfl⟩) | (at_builtin; refine wpList_push IntE.len intE_one rfl _ _ 33 rfl w.heap.size 3 i _ 8 Try.underlying33 hi hz0 hz1 hz2 rfl (by omega) _ _ rfl (ho.out.mono (by repeat' (first | exact Below.refl _ _ | with_reducible assumption | refine bext ?_ ?_ _ | refine Below.alloc ?_ ?_ _ | refine Below.setCell ?_ ?_ _ | refine Below.drew ?_ | (simp; done) | (have hbz := hb.size; first | omega | (simp; omega)) | (simp; omega) | omega))) _ 1 (gd l k).id rfl (fun j u hu => new_cells _ [.int .i64 (gd l k).id] _ _ (by simp) j u hu) (by unfold maxLen; omega) (by omega) (by simp; omega) ?_))
            intro v' w3 ho3 hg3
            have hb3 := below_push (lo := w.heap.size) (B := w.heap.size) (a := w) (B8.trans ((below_alloc _ _).mono B8.size)) (ho.out.mono (by repeat' (first | exact Below.refl _ _ | with_reducible assumption | refine bext ?_ ?_ _ | refine Below.alloc ?_ ?_ _ | refine Below.setCell ?_ ?_ _ | refine Below.drew ?_ | (simp; done) | (have hbz := hb.size; first | omega | (simp; omega)) | (simp; omega) | omega))) hg3 (Nat.le_refl _) (by simp; omega)
            go_wp2_with fail
            go_roundw
            case rel => exact ⟨k + 1, by omega, by go_num, by rw [hun.out]; exact ho3, hb3⟩
            case measure => simp [intOf]; omega
      · obtain rfl : k = l.length := by omega
        go_wp2_with fail
        go_ret2
        exact ⟨_, rfl, ho.out, hb⟩
end Go.Proofs.Ytbkkaibjenofiaa
