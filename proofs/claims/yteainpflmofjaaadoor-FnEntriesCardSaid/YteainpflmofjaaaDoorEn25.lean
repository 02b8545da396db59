/- Entries: what is an entry, by the program and by the reference. No condition but sizes. -/
import Derived.Test.YteainpflmofjaaaDoorEp25
import Derived.Outline
namespace Go.Proofs.YteainpflmofjaaaDoor
open Go.RowKit
theorem emptyB_iff {s : ByteArray} : emptyB s = true ↔ s.toList = [] := by simp [emptyB]
set_option maxHeartbeats 400000 in
theorem isEntry1_c (x n : Int) (b : Nat) (W : World) (hc : W.cell? ⟨b, 0, none⟩ = some (.int .i64 n)) : Calls Tryd.prog 78 #[.int .i64 x, .pointer (some ⟨b, 0, none⟩)] W fun e w' => e = .returned (.bool (!inB x 1 999 || x == n)) ∧ Below W.heap.size W w' := by
  have hb := block_lt_of_cell hc
  go_enter Tryd.func78, Tryd.ntmps78
  go_wp2_with (go_at_call 67; refine (isId_c _ _).mono ?_; rintro e w' ⟨rfl, rfl⟩)
  all_goals go_ret
  all_goals refine ⟨ret_bool ?_, Below.refl _ _⟩
  all_goals simp_all
set_option maxHeartbeats 2000000 in
set_option maxRecDepth 100000 in
theorem isEntry_c (x : Ent) (w : World) (h : x.In w) (hf : x.Fits) : Calls Tryd.prog 34 #[.agg #[.int .i64 x.id, .string x.ti, .string x.pl, .int .i64 x.yr, .int .i64 x.ct, .slice x.a x.sub.length x.cap]] w fun e w' => e = .returned (.bool (isEnt x)) ∧ Below w.heap.size w w' := by
  have h0 := Lib.hid h
  obtain ⟨hf1, hf2, _⟩ := hf
  have W1 := Lib.hid (fun W => isWord_c x.ti W hf1)
  have W2 := Lib.hid (fun W => isWord_c x.pl W hf2)
  obtain ⟨xid, xti, xpl, xyr, xct, xa, xcap, l⟩ := x
  obtain ⟨a, cap, b, off, hv, hlc, hm, hc⟩ := h
  injection hv with e1 _ e2
  subst e1 e2
  dsimp only at hlc hm hc h0 hf1 hf2 W1 W2 ⊢
  have hC := Lib.hid (fun W (hB : Below w.heap.size w W) hcell => containsFuncInt_c xa xcap b off l W 78 #[.pointer (some ⟨w.heap.size, 0, none⟩)] (seenBad l xid) (Nat.le_trans hlc hm) (hc.mono hB) (fun _ _ => by kernel_rfl) (fun i W' _ hB' => isEntry1_c (gd l i) xid w.heap.size W' ((hB'.cell (p := ⟨w.heap.size, 0, none⟩) (block_lt_of_cell hcell)).trans hcell)))
  have hR := Lib.hid (fun W (hB : Below w.heap.size w W) => isRising_c (.slice xa l.length xcap) l W (Sl.mono h0.out hB))
  have hD := Lib.hid (show isEnt ⟨xid, xti, xpl, xyr, xct, xa, xcap, l⟩ = (decide (l.length ≤ 8) && rising l && !(findTo (seenBad l xid) l.length).isSome && (inB xid 1 999 && wordB xti && (emptyB xpl || wordB xpl) && (xyr == 0 || inB xyr 1500 2100) && inB xct 0 99)) from rfl)
  generalize isEnt ⟨xid, xti, xpl, xyr, xct, xa, xcap, l⟩ = res at hD ⊢
  generalize rising l = r1 at hR hD
  generalize (findTo (seenBad l xid) l.length).isSome = r2 at hC hD
  unfold maxLen at hm
  replace hD := hD.out
  rw [show emptyB xpl = decide (xpl.toList = []) from by cases hh : xpl.toList <;> simp [emptyB, hh], show (xyr == 0) = decide (xyr = 0) from rfl] at hD
  replace hD := Lib.hid hD
  by_cases h8 : l.length ≤ 8
  · have h8' : decide ((8 : Int) < (l.length : Int)) = false := by simp; omega
    by_cases hE : xpl.toList = [] <;> by_cases hY : xyr = 0
    all_goals
      go_enter Tryd.func34, Tryd.ntmps34
      go_wp2_with (first | (go_at_call 76; refine (hR.out _ (by repeat' (first | exact Below.refl _ _ | with_reducible assumption | refine bext ?_ ?_ _ | refine Below.alloc ?_ ?_ _ | refine Below.setCell ?_ ?_ _ | refine Below.drew ?_ | (simp; done) | (have hbz := hb.size; first | omega | (simp; omega)) | (simp; omega) | omega))).mono ?_; rintro e w' ⟨rfl, hbq⟩; obtain ⟨p, rfl⟩ := ext_of_below hbq; clear hbq) | (go_at_call 77; refine (hC.out _ (by repeat' (first | exact Below.refl _ _ | with_reducible assumption | refine bext ?_ ?_ _ | refine Below.alloc ?_ ?_ _ | refine Below.setCell ?_ ?_ _ | refine Below.drew ?_ | (simp; done) | (have hbz := hb.size; first | omega | (simp; omega)) | (simp; omega) | omega)) (by simp [go_sem])).mono ?_; rintro e w' ⟨rfl, hbq⟩; obtain ⟨p, rfl⟩ := ext_of_below hbq; clear hbq) | (go_at_call 67; refine (isId_c _ _).mono ?_; rintro e w' ⟨rfl, rfl⟩) | (go_at_call 80; refine (isYear_c _ _).mono ?_; rintro e w' ⟨rfl, rfl⟩) | (go_at_call 81; refine (within_c _ _ _ _).mono ?_; rintro e w' ⟨rfl, rfl⟩) | (go_at_call 79; refine (isWord_c _ _ (by first | exact hf1 | exact hf2)).mono ?_; rintro e w' ⟨rfl, hbq⟩; obtain ⟨p, rfl⟩ := ext_of_below hbq; clear hbq))
      all_goals go_ret
      all_goals refine ⟨ret_bool ?_, (by repeat' (first | exact Below.refl _ _ | with_reducible assumption | refine bext ?_ ?_ _ | refine Below.alloc ?_ ?_ _ | refine Below.setCell ?_ ?_ _ | refine Below.drew ?_ | (simp; done) | (have hbz := hb.size; first | omega | (simp; omega)) | (simp; omega) | omega))⟩
      all_goals rw [hD.out]
      all_goals simp_all
  · go_enter Tryd.func34, Tryd.ntmps34
    go_wp2_with fail
    go_ret
    exact ⟨ret_bool (by rw [hD.out]; simp [h8]), (by repeat' (first | exact Below.refl _ _ | with_reducible assumption | refine bext ?_ ?_ _ | refine Below.alloc ?_ ?_ _ | refine Below.setCell ?_ ?_ _ | refine Below.drew ?_ | (simp; done) | (have hbz := hb.size; first | omega | (simp; omega)) | (simp; omega) | omega))⟩
set_option maxHeartbeats 2000000 in
set_option maxRecDepth 100000 in
theorem l25One_c (x : Ent) (w : World) (h : x.In w) (hf : x.Fits) : Calls Tryd.prog 74 #[.agg #[.int .i64 x.id, .string x.ti, .string x.pl, .int .i64 x.yr, .int .i64 x.ct, .slice x.a x.sub.length x.cap]] w fun e w' => e = .returned (.bool (isEnt x)) ∧ Below w.heap.size w w' := by
  rw [isEnt_spec]
  have h0 := Lib.hid h
  obtain ⟨hf1, hf2, _⟩ := hf
  obtain ⟨xid, xti, xpl, xyr, xct, xa, xcap, l⟩ := x
  obtain ⟨a, cap, b, off, hv, hlc, hm, hc⟩ := h
  injection hv with e1 _ e2
  subst e1 e2
  dsimp only at hlc hm hc h0 hf1 hf2 ⊢
  have hR := Lib.hid (fun W (hB : Below w.heap.size w W) => l1Rising_c (.slice xa l.length xcap) l 1 999 W (Sl.mono h0.out hB))
  have hH := Lib.hid (fun W (hB : Below w.heap.size w W) => l1Has_c (.slice xa l.length xcap) l xid W (Sl.mono h0.out hB))
  obtain ⟨res, hD⟩ : ∃ res, res = (entTail ⟨xid, xti, xpl, xyr, xct, xa, xcap, l⟩ && (decide (l.length ≤ 8) && allTo (fun i => inB (gd l i) 1 999 && riseAt l i) l.length && !hasI l xid)) := ⟨_, rfl⟩
  rw [← hD]
  simp only [entTail] at hD
  rw [show emptyB xpl = decide (xpl.toList = []) from by cases hh : xpl.toList <;> simp [emptyB, hh], show (xyr == 0) = decide (xyr = 0) from rfl] at hD
  generalize allTo (fun i => inB (gd l i) 1 999 && riseAt l i) l.length = r1 at hR hD
  generalize hasI l xid = r2 at hH hD
  replace hD := Lib.hid hD
  unfold maxLen at hm
  by_cases h8 : l.length ≤ 8
  all_goals
    by_cases hE : xpl.toList = [] <;> by_cases hY : xyr = 0
    all_goals
      go_enter Tryd.func74, Tryd.ntmps74
      go_wp2_with (first | (go_at_call 109; refine (hR.out _ (by repeat' (first | exact Below.refl _ _ | with_reducible assumption | refine bext ?_ ?_ _ | refine Below.alloc ?_ ?_ _ | refine Below.setCell ?_ ?_ _ | refine Below.drew ?_ | (simp; done) | (have hbz := hb.size; first | omega | (simp; omega)) | (simp; omega) | omega))).mono ?_; rintro e w' ⟨rfl, hbq⟩; obtain ⟨p, rfl⟩ := ext_of_below hbq; clear hbq) | (go_at_call 106; refine (hH.out _ (by repeat' (first | exact Below.refl _ _ | with_reducible assumption | refine bext ?_ ?_ _ | refine Below.alloc ?_ ?_ _ | refine Below.setCell ?_ ?_ _ | refine Below.drew ?_ | (simp; done) | (have hbz := hb.size; first | omega | (simp; omega)) | (simp; omega) | omega))).mono ?_; rintro e w' ⟨rfl, rfl⟩) | (go_at_call 36; refine (l1In_c _ _ _ _).mono ?_; rintro e w' ⟨rfl, rfl⟩) | (go_at_call 108; refine (l2Word_c _ _ (by first | exact hf1 | exact hf2)).mono ?_; rintro e w' ⟨rfl, rfl⟩))
      all_goals go_ret
      all_goals refine ⟨ret_bool ?_, (by repeat' (first | exact Below.refl _ _ | with_reducible assumption | refine bext ?_ ?_ _ | refine Below.alloc ?_ ?_ _ | refine Below.setCell ?_ ?_ _ | refine Below.drew ?_ | (simp; done) | (have hbz := hb.size; first | omega | (simp; omega)) | (simp; omega) | omega))⟩
      all_goals rw [hD.out]
      all_goals first | (simp_all; done) | (simp_all; intro hx; omega)
end Go.Proofs.YteainpflmofjaaaDoor
