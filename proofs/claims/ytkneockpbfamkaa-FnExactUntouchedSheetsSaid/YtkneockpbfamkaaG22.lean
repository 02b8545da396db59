/- Repairs: the grade of a damage. No condition. -/
import Derived.Test.YtkneockpbfamkaaSp22
namespace Go.Proofs.Ytkneockpbfamkaa
open Go.RowKit
def gradeI (x : Dmg) : Int := if dmgOk x then dmgGrade x else 0
theorem gradeI_no {x : Dmg} (h : dmgOk x = false) : gradeI x = 0 := by simp [gradeI, h]
theorem gradeI_yes {x : Dmg} (h : dmgOk x = true) : gradeI x = dmgGrade x := by simp [gradeI, h]
set_option maxHeartbeats 400000 in
theorem grade_c (x : Dmg) (w : World) (h : dmgOk x = true) : Calls Try.prog 38 #[.agg x.enc.toArray] w fun e w' => e = .returned (.int .i64 (dmgGrade x)) ∧ Below w.heap.size w w' := by
  have hb := dmgOk_b h
  clear h
  obtain ⟨s, t, f, st⟩ := x
  obtain ⟨h1, h2, h3, h4, h5, h6, h7, h8⟩ := hb
  simp only at h1 h2 h3 h4 h5 h6 h7 h8
  show Calls Try.prog 38 #[.agg #[.int .i64 s, .int .i64 t, .int .i64 f, .int .i64 st]] w _
  go_enter Try.func38, Try.ntmps38
  go_wp2
  go_ret
  exact ⟨rfl, by go_grown⟩
set_option maxHeartbeats 400000 in
theorem specGradeOf_c (x : Dmg) (w : World) : Calls Try.prog 9 #[.agg x.enc.toArray] w fun e w' => e = .returned (.tuple #[.int .i64 (gradeI x), .bool (dmgOk x)]) ∧ Below w.heap.size w w' := by
  cases hd : dmgOk x
  · have hg := Lib.hid (gradeI_no hd)
    have H := Lib.hid (l22One_c x)
    rw [hd] at H
    clear hd
    obtain ⟨s, t, f, st⟩ := x
    show Calls Try.prog 9 #[.agg #[.int .i64 s, .int .i64 t, .int .i64 f, .int .i64 st]] w _
    go_enter Try.func9, Try.ntmps9
    go_wp2_with (go_at_call 35; refine (H.out _).mono ?_)
    rintro e w' ⟨rfl, hb⟩
    go_wp2_with fail
    go_ret2
    exact ⟨ret_int_bool hg.out.symm rfl, ((Below.refl _ _).alloc (Nat.le_refl _) _).trans (hb.mono (by simp))⟩
  · have hg := Lib.hid (gradeI_yes hd)
    have H := Lib.hid (l22One_c x)
    have H2 := Lib.hid (fun w => l22Grade_c x w hd)
    rw [hd] at H
    clear hd
    obtain ⟨s, t, f, st⟩ := x
    show Calls Try.prog 9 #[.agg #[.int .i64 s, .int .i64 t, .int .i64 f, .int .i64 st]] w _
    go_enter Try.func9, Try.ntmps9
    go_wp2_with (go_at_call 35; refine (H.out _).mono ?_; rintro e w' ⟨rfl, hbq⟩; obtain ⟨p, rfl⟩ := ext_of_below hbq; clear hbq)
    go_wp2_with (go_at_call 36; refine (H2.out _).mono ?_; rintro e w' ⟨rfl, hbq⟩; obtain ⟨p, rfl⟩ := ext_of_below hbq; clear hbq)
    go_ret2
    exact ⟨ret_int_bool hg.out.symm rfl, (by repeat' (first | exact Below.refl _ _ | with_reducible assumption | refine bext ?_ ?_ _ | refine Below.alloc ?_ ?_ _ | refine Below.setCell ?_ ?_ _ | refine Below.drew ?_ | (simp; done) | (have hbz := hb.size; first | omega | (simp; omega)) | (simp; omega) | omega))⟩
set_option maxHeartbeats 400000 in
theorem gradeOf_c (x : Dmg) (w : World) : Calls Try.prog 11 #[.agg x.enc.toArray] w fun e w' => e = .returned (.tuple #[.int .i64 (gradeI x), .bool (dmgOk x)]) ∧ Below w.heap.size w w' := by
  cases hd : dmgOk x
  · have hg := Lib.hid (gradeI_no hd)
    have H := Lib.hid (isDamage_c x)
    rw [hd] at H
    clear hd
    obtain ⟨s, t, f, st⟩ := x
    show Calls Try.prog 11 #[.agg #[.int .i64 s, .int .i64 t, .int .i64 f, .int .i64 st]] w _
    go_enter Try.func11, Try.ntmps11
    go_wp2_with (go_at_call 37; refine (H.out _).mono ?_)
    rintro e w' ⟨rfl, hb⟩
    go_wp2_with fail
    go_ret2
    exact ⟨ret_int_bool hg.out.symm rfl, ((Below.refl _ _).alloc (Nat.le_refl _) _).trans (hb.mono (by simp))⟩
  · have hg := Lib.hid (gradeI_yes hd)
    have H := Lib.hid (isDamage_c x)
    have H2 := Lib.hid (fun w => grade_c x w hd)
    rw [hd] at H
    clear hd
    obtain ⟨s, t, f, st⟩ := x
    show Calls Try.prog 11 #[.agg #[.int .i64 s, .int .i64 t, .int .i64 f, .int .i64 st]] w _
    go_enter Try.func11, Try.ntmps11
    go_wp2_with (go_at_call 37; refine (H.out _).mono ?_; rintro e w' ⟨rfl, hbq⟩; obtain ⟨p, rfl⟩ := ext_of_below hbq; clear hbq)
    go_wp2_with (go_at_call 38; refine (H2.out _).mono ?_; rintro e w' ⟨rfl, hbq⟩; obtain ⟨p, rfl⟩ := ext_of_below hbq; clear hbq)
    go_ret2
    exact ⟨ret_int_bool hg.out.symm rfl, (by repeat' (first | exact Below.refl _ _ | with_reducible assumption | refine bext ?_ ?_ _ | refine Below.alloc ?_ ?_ _ | refine Below.setCell ?_ ?_ _ | refine Below.drew ?_ | (simp; done) | (have hbz := hb.size; first | omega | (simp; omega)) | (simp; omega) | omega))⟩
end Go.Proofs.Ytkneockpbfamkaa
