/- Issues: the pairs that are true on a day, by the program and by the reference. No condition but what a slice may hold. -/
import Derived.Test.YthibchaiaedboaaDoorTr20
import Derived.Test.YthibchaiaedboaaDoorTp20
import Derived.StillTailTactics
namespace Go.Proofs.YthibchaiaedboaaDoor
open Go.RowKit
set_option maxHeartbeats 2000000 in
theorem pairsOf_c (v : Value) (l : List Iss) (w : World) (g : Nat) (cb : Array Value) (p : Nat → Bool) (h : Sl w Iss.enc 4 v l) (hl : l.length ≤ 16)
    (eg : ∀ (args : Array Value) (W : World), (callFunc g args).run Tryd.prog W = .ok (.enter g args) W)
    (hf : ∀ i W, i < l.length → Below w.heap.size w W → Calls Tryd.prog g (#[.agg #[.int .i64 (gd l i).s, .int .i64 (gd l i).n, .int .i64 (gd l i).fr, .int .i64 (gd l i).un]] ++ cb) W fun e w' => e = .returned (.bool (p i)) ∧ Below W.heap.size W w') :
    Calls Tryd.prog 53 #[v, .func (.func g) #[] cb] w (RetOwn w 34 PrE.enc 2 (selTo p (fun i => prOf (gd l i)) l.length)) := by
  obtain ⟨a, cap, b, off, rfl, hlc, hm, hc⟩ := h
  unfold maxLen at hm
  obtain ⟨i, hi, hz0, hz1, hz2⟩ := info_parts (show (Tryd.prog.info? 34).map (fun i => (i.zero, i.size, i.bytes)) = some (some (.agg #[.int .i64 0, .int .i64 0]), 2, 16) by kernel_rfl)
  have HF := Lib.hid hf
  clear hf
  go_enter Tryd.func53, Tryd.ntmps53
  go_wp2_with fail
  go_loopw [5, 10] (fun v i wr => ∃ k : Nat, k ≤ l.length ∧ i = .int .i64 k ∧ Hid (Own wr w.heap.size 34 PrE.enc 2 v (selTo p (fun i => prOf (gd l i)) k)) ∧ Below w.heap.size w wr) (fun _ i _ => l.length - (intOf i).toNat)
  case atStart => exact ⟨0, Nat.zero_le _, rfl, Own.nil _ _ _ _ _, Below.refl _ _⟩
  case round =>
    obtain ⟨k, hk, rfl, ho, hb⟩ := hrel
    by_cases hlt : k < l.length
    · obtain ⟨rfl, hbw, c0, c1, c2, c3⟩ := Iss.at (hc.mono hb) k hlt
      have hul := selTo_len p (fun i => prOf (gd l i)) k
      have hz := hb.size
      have hf := HF.out k (wr.alloc (.cells #[.int .i64 (gd l k).s, .int .i64 (gd l k).n, .int .i64 (gd l k).fr, .int .i64 (gd l k).un] 41)) hlt (hb.alloc hz _)
      cases hp : p k
      · rw [hp] at hf
        have hf := Lib.hid hf
        have hun := Lib.hid (selTo_no (g := fun i => prOf (gd l i)) hp)
        clear hp
        go_wp2_with fail
        refine hf.out.mono ?_
        rintro e w' ⟨rfl, hb2⟩
        obtain ⟨q, rfl⟩ := ext_of_below hb2
        clear hb2
        go_wp2_with fail
        go_roundw
        case rel => exact ⟨k + 1, by omega, by go_num, by rw [hun.out]; exact ho.out.mono (by repeat' (first | exact Below.refl _ _ | with_reducible assumption | refine bext ?_ ?_ _ | refine Below.alloc ?_ ?_ _ | refine Below.setCell ?_ ?_ _ | refine Below.drew ?_ | (simp; done) | (have hbz := hb.size; first | omega | (simp; omega)) | (simp; omega) | omega)), (by repeat' (first | exact Below.refl _ _ | with_reducible assumption | refine bext ?_ ?_ _ | refine Below.alloc ?_ ?_ _ | refine Below.setCell ?_ ?_ _ | refine Below.drew ?_ | (simp; done) | (have hbz := hb.size; first | omega | (simp; omega)) | (simp; omega) | omega))⟩
        case measure => simp [intOf]; omega
      · rw [hp] at hf
        have hf := Lib.hid hf
        have hun := Lib.hid (selTo_yes (g := fun i => prOf (gd l i)) hp)
        clear hp
        go_wp2_with fail
        refine hf.out.mono ?_
        rintro e w' ⟨rfl, hb2⟩
        obtain ⟨q, rfl⟩ := ext_of_below hb2
        clear hb2
        go_wp2_with (at_builtin; refine wpList_push PrE.len PrE.one rfl _ _ 27 rfl w.heap.size 34 i _ 16 Tryd.underlying27 hi hz0 hz1 hz2 rfl (by omega) _ (selTo p (fun i => prOf (gd l i)) k) rfl (ho.out.mono (by repeat' (first | exact Below.refl _ _ | with_reducible assumption | refine bext ?_ ?_ _ | refine Below.alloc ?_ ?_ _ | refine Below.setCell ?_ ?_ _ | refine Below.drew ?_ | (simp; done) | (have hbz := hb.size; first | omega | (simp; omega)) | (simp; omega) | omega))) _ 1 (prOf (gd l k)) rfl (fun j u hu => new_cells _ [.int .i64 (gd l k).s, .int .i64 (gd l k).n] _ _ (by simp) j u hu) (by unfold maxLen; omega) (by omega) (by have := hb.size; simp; omega) ?_)
        intro v' w3 ho2 hg2
        have hb2 := below_push (lo := w.heap.size) (B := w.heap.size) (a := w) (by repeat' (first | exact Below.refl _ _ | with_reducible assumption | refine bext ?_ ?_ _ | refine Below.alloc ?_ ?_ _ | refine Below.setCell ?_ ?_ _ | refine Below.drew ?_ | (simp; done) | (have hbz := hb.size; first | omega | (simp; omega)) | (simp; omega) | omega)) (ho.out.mono (by repeat' (first | exact Below.refl _ _ | with_reducible assumption | refine bext ?_ ?_ _ | refine Below.alloc ?_ ?_ _ | refine Below.setCell ?_ ?_ _ | refine Below.drew ?_ | (simp; done) | (have hbz := hb.size; first | omega | (simp; omega)) | (simp; omega) | omega))) hg2 (Nat.le_refl _) (by have := hb.size; simp; omega)
        go_wp2_with fail
        go_roundw
        case rel => exact ⟨k + 1, by omega, by go_num, by rw [hun.out]; exact ho2, hb2⟩
        case measure => simp [intOf]; omega
    · obtain rfl : k = l.length := by omega
      go_wp2_with fail
      go_ret
      exact ⟨_, rfl, ho.out, hb⟩
set_option maxHeartbeats 400000 in
theorem trueSheets1_c (x : Iss) (v : Value) (l : List Iss) (d : Int) (b1 b2 : Nat) (W : World) (h1 : W.cell? ⟨b1, 0, none⟩ = some v) (h2 : W.cell? ⟨b2, 0, none⟩ = some (.int .i64 d)) (hv : ∃ a n c, v = .slice a n c) (hl : Sl W Iss.enc 4 v l) (r : Bool) (hr : decide (trueN l x.s d = x.n) = r) :
    Calls Tryd.prog 54 #[.agg #[.int .i64 x.s, .int .i64 x.n, .int .i64 x.fr, .int .i64 x.un], .pointer (some ⟨b1, 0, none⟩), .pointer (some ⟨b2, 0, none⟩)] W fun e w' => e = .returned (.bool r) ∧ Below W.heap.size W w' := by
  obtain ⟨xs, xn, xf, xu⟩ := x
  obtain ⟨a, n, c, rfl⟩ := hv
  have z1 := block_lt_of_cell h1
  have z2 := block_lt_of_cell h2
  have hr := Lib.hid hr
  go_enter Tryd.func54, Tryd.ntmps54
  go_wp2_with fail
  refine wp_region_ext (by kernel_rfl) (by kernel_rfl) ?_
  repeat (any_goals (first | go_big_quiet_step ((go_at_call 55; exact Calls.ext_of (trueOn_c _ l _ _ _ (hl.mono (by repeat' (first | exact Below.refl _ _ | with_reducible assumption | refine bext ?_ ?_ _ | refine Below.alloc ?_ ?_ _ | refine Below.setCell ?_ ?_ _ | refine Below.drew ?_ | (simp; done) | (have hbz := hb.size; first | omega | (simp; omega)) | (simp; omega) | omega))))))))
  (refine wpQuiet_nil ?_)
  (rintro _ ⟨q, rfl⟩)
  go_wp2_with fail
  go_ret
  exact ⟨ret_bool hr.out, (by repeat' (first | exact Below.refl _ _ | with_reducible assumption | refine bext ?_ ?_ _ | refine Below.alloc ?_ ?_ _ | refine Below.setCell ?_ ?_ _ | refine Below.drew ?_ | (simp; done) | (have hbz := hb.size; first | omega | (simp; omega)) | (simp; omega) | omega))⟩
set_option maxHeartbeats 1000000 in
theorem trueSheets_c (v : Value) (l : List Iss) (d : Int) (w : World) (h : Sl w Iss.enc 4 v l) : Calls Tryd.prog 8 #[v, .int .i64 d] w (RetSlB w 34 PrE.enc 2 (tsR l d) (tsGood l d)) := by
  have hv : ∃ a n c, v = .slice a n c := by obtain ⟨a, cap, b, off, rfl, _⟩ := h; exact ⟨_, _, _, rfl⟩
  have HA := Lib.hid (fun W (hb : Below w.heap.size w W) => areIssues_c v l W (h.mono hb))
  cases hA : areIss l
  case' true =>
    have hl16 := areIss_len hA
    cases hd : inB d 0 4000
  case' true.true =>
    have hg : tsGood l d = true := by simp [tsGood, hA, hd]
    rw [hg, tsR_yes hg]
    clear hg
    rw [hA] at HA
    clear hA
    obtain ⟨a, n, c, rfl⟩ := hv
    go_enter Tryd.func8, Tryd.ntmps8
    go_wp2_with (first | (go_at_call 11; refine (HA.out _ (by repeat' (first | exact Below.refl _ _ | with_reducible assumption | refine bext ?_ ?_ _ | refine Below.alloc ?_ ?_ _ | refine Below.setCell ?_ ?_ _ | refine Below.drew ?_ | (simp; done) | (have hbz := hb.size; first | omega | (simp; omega)) | (simp; omega) | omega))).mono ?_; rintro e w' ⟨rfl, hbq⟩; obtain ⟨p, rfl⟩ := ext_of_below hbq; clear hbq) | (go_at_call 52; refine (isDay_c _ _).mono ?_; rintro e w' ⟨rfl, rfl⟩))
    refine (pairsOf_c _ l _ 54 #[.pointer (some ⟨w.heap.size, 0, none⟩), .pointer (some ⟨w.heap.size + 1, 0, none⟩)] (tsAt l d) (h.mono (by repeat' (first | exact Below.refl _ _ | with_reducible assumption | refine bext ?_ ?_ _ | refine Below.alloc ?_ ?_ _ | refine Below.setCell ?_ ?_ _ | refine Below.drew ?_ | (simp; done) | (have hbz := hb.size; first | omega | (simp; omega)) | (simp; omega) | omega))) hl16 (fun _ _ => by kernel_rfl) (fun i W' hi hB => trueSheets1_c (gd l i) _ l d _ _ W' ((hB.cell (p := ⟨w.heap.size, 0, none⟩) (by simp; omega)).trans (by simp [go_sem])) ((hB.cell (p := ⟨w.heap.size + 1, 0, none⟩) (by simp; omega)).trans (by simp [go_sem])) ⟨_, _, _, rfl⟩ ((h.mono (by repeat' (first | exact Below.refl _ _ | with_reducible assumption | refine bext ?_ ?_ _ | refine Below.alloc ?_ ?_ _ | refine Below.setCell ?_ ?_ _ | refine Below.drew ?_ | (simp; done) | (have hbz := hb.size; first | omega | (simp; omega)) | (simp; omega) | omega))).mono hB) _ rfl)).mono ?_
    rintro e w2 ⟨rv, rfl, ho, hb2⟩
    go_wp2_with fail
    go_ret2
    exact ⟨_, rfl, ho.lower (by simp; omega), Below.trans (by repeat' (first | exact Below.refl _ _ | with_reducible assumption | refine bext ?_ ?_ _ | refine Below.alloc ?_ ?_ _ | refine Below.setCell ?_ ?_ _ | refine Below.drew ?_ | (simp; done) | (have hbz := hb.size; first | omega | (simp; omega)) | (simp; omega) | omega)) (hb2.mono (by simp; omega))⟩
  all_goals
    have hg : tsGood l d = false := by simp [tsGood, *]
    rw [hg, tsR_no hg]
    clear hg
    rw [hA] at HA
    clear hA
    obtain ⟨a, n, c, rfl⟩ := hv
    go_enter Tryd.func8, Tryd.ntmps8
    go_wp2_with (first | (go_at_call 11; refine (HA.out _ (by repeat' (first | exact Below.refl _ _ | with_reducible assumption | refine bext ?_ ?_ _ | refine Below.alloc ?_ ?_ _ | refine Below.setCell ?_ ?_ _ | refine Below.drew ?_ | (simp; done) | (have hbz := hb.size; first | omega | (simp; omega)) | (simp; omega) | omega))).mono ?_; rintro e w' ⟨rfl, hbq⟩; obtain ⟨p, rfl⟩ := ext_of_below hbq; clear hbq) | (go_at_call 52; refine (isDay_c _ _).mono ?_; rintro e w' ⟨rfl, rfl⟩))
    go_ret2
    exact ⟨_, rfl, Own.nil _ _ _ _ _, (by repeat' (first | exact Below.refl _ _ | with_reducible assumption | refine bext ?_ ?_ _ | refine Below.alloc ?_ ?_ _ | refine Below.setCell ?_ ?_ _ | refine Below.drew ?_ | (simp; done) | (have hbz := hb.size; first | omega | (simp; omega)) | (simp; omega) | omega))⟩
end Go.Proofs.YthibchaiaedboaaDoor
