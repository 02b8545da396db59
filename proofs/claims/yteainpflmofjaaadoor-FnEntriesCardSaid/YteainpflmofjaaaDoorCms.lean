/- cmp.Compare at texts. No condition. -/
import Derived.Test.YteainpflmofjaaaDoorTg25
namespace Go.Proofs.YteainpflmofjaaaDoor
open Go.RowKit
def cmpS (a b : ByteArray) : Int := if tlt a b then -1 else if tlt b a then 1 else 0
theorem cmpS_neg (a b : ByteArray) : decide (cmpS a b < 0) = tlt a b := by
  unfold cmpS
  split <;> rename_i h
  · simp [h]
  · have h' : tlt a b = false := by simpa using h
    rw [h']
    split <;> simp
theorem isNaNS_c (x : ByteArray) (w : World) : Calls Tryd.prog 100 #[.string x] w fun e w' => e = .returned (.bool false) ∧ w = w' := by
  go_enter Tryd.func100, Tryd.ntmps100
  go_wp2_with fail
  go_ret
  exact ⟨ret_bool (by simp), rfl⟩
set_option maxHeartbeats 1000000 in
theorem cmpS_c (a b : ByteArray) (w : World) : Calls Tryd.prog 63 #[.string a, .string b] w fun e w' => e = .returned (.int .i64 (cmpS a b)) ∧ w = w' := by
  have hE := Lib.hid (show cmpS a b = if Op.bytesLess a.toList b.toList then -1 else if Op.bytesLess b.toList a.toList then 1 else 0 from rfl)
  cases h1 : Op.bytesLess a.toList b.toList
  · have hq := leq_not a.toList b.toList
    cases h2 : Op.bytesLess b.toList a.toList
    · have he : (a.toList == b.toList) = true := by rw [h1, h2] at hq; simpa using hq
      clear hq
      go_enter Tryd.func63, Tryd.ntmps63
      go_wp2_with (go_at_call 100; refine (isNaNS_c _ _).mono ?_; rintro e w' ⟨rfl, rfl⟩)
      go_ret
      exact ⟨ret_int (by rw [hE.out, h1, h2]; rfl), rfl⟩
    · have he : (a.toList == b.toList) = false := by
        rw [beq_eq_false_iff_ne]
        intro e
        rw [e, less_irrefl] at h2
        cases h2
      clear hq
      go_enter Tryd.func63, Tryd.ntmps63
      go_wp2_with (go_at_call 100; refine (isNaNS_c _ _).mono ?_; rintro e w' ⟨rfl, rfl⟩)
      go_ret
      exact ⟨ret_int (by rw [hE.out, h1, h2]; rfl), rfl⟩
  · go_enter Tryd.func63, Tryd.ntmps63
    go_wp2_with (go_at_call 100; refine (isNaNS_c _ _).mono ?_; rintro e w' ⟨rfl, rfl⟩)
    go_ret
    exact ⟨ret_int (by rw [hE.out, h1]; rfl), rfl⟩
set_option maxHeartbeats 1000000 in
theorem titleGroups1_c (x y : Ent) (w : World) : Calls Tryd.prog 62 #[.agg #[.int .i64 x.id, .string x.ti, .string x.pl, .int .i64 x.yr, .int .i64 x.ct, .slice x.a x.sub.length x.cap], .agg #[.int .i64 y.id, .string y.ti, .string y.pl, .int .i64 y.yr, .int .i64 y.ct, .slice y.a y.sub.length y.cap]] w fun e w' => e = .returned (.int .i64 (cmpS x.ti y.ti)) ∧ Below w.heap.size w w' := by
  go_enter Tryd.func62, Tryd.ntmps62
  go_wp2_with (go_at_call 63; refine (cmpS_c _ _ _).mono ?_; rintro e w' ⟨rfl, rfl⟩)
  go_ret
  exact ⟨rfl, (by repeat' (first | exact Below.refl _ _ | with_reducible assumption | refine bext ?_ ?_ _ | refine Below.alloc ?_ ?_ _ | refine Below.setCell ?_ ?_ _ | refine Below.drew ?_ | (simp; done) | (have hbz := hb.size; first | omega | (simp; omega)) | (simp; omega) | omega))⟩
end Go.Proofs.YteainpflmofjaaaDoor
