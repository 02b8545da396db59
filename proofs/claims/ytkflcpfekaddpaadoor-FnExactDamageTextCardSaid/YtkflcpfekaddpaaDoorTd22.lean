/- The text of a damage: by the program and by the reference. Condition: Go's table of powers of ten reads as it is laid. -/
import Derived.Test.YtkflcpfekaddpaaDoorItx
import Derived.Test.YtkflcpfekaddpaaDoorSp22
namespace Go.Proofs.YtkflcpfekaddpaaDoor
open Go.RowKit
def dmT (x : Dmg) : ByteArray := (((((((numT x.s ++ ⟨#[58, 32]⟩) ++ numT x.t) ++ ⟨#[116, 32]⟩) ++ numT x.f) ++ ⟨#[102, 32]⟩) ++ numT x.st) ++ ⟨#[37]⟩)
def dmS (x : Dmg) : ByteArray := if dmgOk x then dmT x else ⟨#[]⟩
theorem dmgOk_facts {x : Dmg} (h : dmgOk x = true) : 0 ≤ x.s ∧ x.s < 1000000000000000000 ∧ 0 ≤ x.t ∧ x.t < 1000000000000000000 ∧ 0 ≤ x.f ∧ x.f < 1000000000000000000 ∧ 0 ≤ x.st ∧ x.st < 1000000000000000000 := by
  simp only [dmgOk, Bool.and_eq_true, inB_iff] at h
  omega
set_option maxHeartbeats 4000000 in
set_option maxRecDepth 100000 in
theorem damageText_c (x : Dmg) (w : World) (ht : Tab w) : Calls Tryd.prog 39 #[.agg x.enc.toArray] w fun e w' => e = .returned (.tuple #[.string (dmS x), .bool (dmgOk x)]) ∧ Below w.heap.size w w' := by
  have HI := Lib.hid (fun W => isDamage_c x W)
  cases hA : dmgOk x
  · have hS : Hid (dmS x = ⟨#[]⟩) := (show dmS x = _ by rw [dmS, hA]; rfl)
    rw [hA] at HI
    replace HI := Lib.hid HI.out
    generalize dmS x = T at hS ⊢
    clear hA ht
    obtain ⟨s, t, f, st⟩ := x
    replace HI : Hid (∀ W, Calls Tryd.prog 96 #[.agg #[.int .i64 s, .int .i64 t, .int .i64 f, .int .i64 st]] W fun e w' => e = .returned (.bool false) ∧ Below W.heap.size W w') := HI
    show Calls Tryd.prog 39 #[.agg #[.int .i64 s, .int .i64 t, .int .i64 f, .int .i64 st]] w _
    go_enter Tryd.func39, Tryd.ntmps39
    go_wp2_with (go_at_call 96; refine (HI.out _).mono ?_; rintro e w' ⟨rfl, hbq⟩; obtain ⟨p, rfl⟩ := ext_of_below hbq; clear hbq)
    go_ret2
    exact ⟨by rw [hS.out]; rfl, (by repeat' (first | exact Below.refl _ _ | with_reducible assumption | refine bext ?_ ?_ _ | refine Below.alloc ?_ ?_ _ | refine Below.setCell ?_ ?_ _ | refine Below.drew ?_ | (simp; done) | (have hbz := hb.size; first | omega | (simp; omega)) | (simp; omega) | omega))⟩
  · obtain ⟨a0, b0, a1, b1, a2, b2, a3, b3⟩ := dmgOk_facts hA
    have hS : Hid (dmS x = (((((((numT x.s ++ ⟨#[58, 32]⟩) ++ numT x.t) ++ ⟨#[116, 32]⟩) ++ numT x.f) ++ ⟨#[102, 32]⟩) ++ numT x.st) ++ ⟨#[37]⟩)) := (show dmS x = _ by rw [dmS, hA]; rfl)
    rw [hA] at HI
    replace HI := Lib.hid HI.out
    have q0 : (numT x.s).size ≤ 18 := numF_size 17 x.s
    have H0 := Lib.hid (fun W (hB : Below w.heap.size w W) => text_c x.s W a0 b0 (ht.mono hB))
    have q1 : (numT x.t).size ≤ 18 := numF_size 17 x.t
    have H1 := Lib.hid (fun W (hB : Below w.heap.size w W) => text_c x.t W a1 b1 (ht.mono hB))
    have q2 : (numT x.f).size ≤ 18 := numF_size 17 x.f
    have H2 := Lib.hid (fun W (hB : Below w.heap.size w W) => text_c x.f W a2 b2 (ht.mono hB))
    have q3 : (numT x.st).size ≤ 18 := numF_size 17 x.st
    have H3 := Lib.hid (fun W (hB : Below w.heap.size w W) => text_c x.st W a3 b3 (ht.mono hB))
    clear hA ht a0 b0 a1 b1 a2 b2 a3 b3
    generalize dmS x = T at hS ⊢
    obtain ⟨s, t, f, st⟩ := x
    replace HI : Hid (∀ W, Calls Tryd.prog 96 #[.agg #[.int .i64 s, .int .i64 t, .int .i64 f, .int .i64 st]] W fun e w' => e = .returned (.bool true) ∧ Below W.heap.size W w') := HI
    dsimp only at hS q0 H0 q1 H1 q2 H2 q3 H3
    generalize numT s = N0 at hS q0 H0
    generalize numT t = N1 at hS q1 H1
    generalize numT f = N2 at hS q2 H2
    generalize numT st = N3 at hS q3 H3
    show Calls Tryd.prog 39 #[.agg #[.int .i64 s, .int .i64 t, .int .i64 f, .int .i64 st]] w _
    go_enter Tryd.func39, Tryd.ntmps39
    go_wp2_with (go_at_call 96; refine (HI.out _).mono ?_; rintro e w' ⟨rfl, hbq⟩; obtain ⟨p, rfl⟩ := ext_of_below hbq; clear hbq)
    refine wp_region_ext (by kernel_rfl) (by kernel_rfl) ?_
    repeat (any_goals (first | go_big_quiet_step ((first | ((with_reducible (go_at_call 68; exact Calls.ext_of (H0.out _ (by repeat' (first | exact Below.refl _ _ | with_reducible assumption | refine bext ?_ ?_ _ | refine Below.alloc ?_ ?_ _ | refine Below.setCell ?_ ?_ _ | refine Below.drew ?_ | (simp; done) | (have hbz := hb.size; first | omega | (simp; omega)) | (simp; omega) | omega)))))) | ((with_reducible (go_at_call 68; exact Calls.ext_of (H1.out _ (by repeat' (first | exact Below.refl _ _ | with_reducible assumption | refine bext ?_ ?_ _ | refine Below.alloc ?_ ?_ _ | refine Below.setCell ?_ ?_ _ | refine Below.drew ?_ | (simp; done) | (have hbz := hb.size; first | omega | (simp; omega)) | (simp; omega) | omega)))))) | ((with_reducible (go_at_call 68; exact Calls.ext_of (H2.out _ (by repeat' (first | exact Below.refl _ _ | with_reducible assumption | refine bext ?_ ?_ _ | refine Below.alloc ?_ ?_ _ | refine Below.setCell ?_ ?_ _ | refine Below.drew ?_ | (simp; done) | (have hbz := hb.size; first | omega | (simp; omega)) | (simp; omega) | omega)))))) | ((with_reducible (go_at_call 68; exact Calls.ext_of (H3.out _ (by repeat' (first | exact Below.refl _ _ | with_reducible assumption | refine bext ?_ ?_ _ | refine Below.alloc ?_ ?_ _ | refine Below.setCell ?_ ?_ _ | refine Below.drew ?_ | (simp; done) | (have hbz := hb.size; first | omega | (simp; omega)) | (simp; omega) | omega))))))))))
    (refine wpQuiet_nil ?_)
    (rintro _ ⟨q, rfl⟩)
    go_wp2_with fail
    go_ret2
    exact ⟨by rw [hS.out]; rfl, (by repeat' (first | exact Below.refl _ _ | with_reducible assumption | refine bext ?_ ?_ _ | refine Below.alloc ?_ ?_ _ | refine Below.setCell ?_ ?_ _ | refine Below.drew ?_ | (simp; done) | (have hbz := hb.size; first | omega | (simp; omega)) | (simp; omega) | omega))⟩
set_option maxHeartbeats 4000000 in
set_option maxRecDepth 100000 in
theorem specDamageText_c (x : Dmg) (w : World) : Calls Tryd.prog 37 #[.agg x.enc.toArray] w fun e w' => e = .returned (.tuple #[.string (dmS x), .bool (dmgOk x)]) ∧ Below w.heap.size w w' := by
  have HI := Lib.hid (fun W => l22One_c x W)
  cases hA : dmgOk x
  · have hS : Hid (dmS x = ⟨#[]⟩) := (show dmS x = _ by rw [dmS, hA]; rfl)
    rw [hA] at HI
    replace HI := Lib.hid HI.out
    generalize dmS x = T at hS ⊢
    clear hA
    obtain ⟨s, t, f, st⟩ := x
    replace HI : Hid (∀ W, Calls Tryd.prog 95 #[.agg #[.int .i64 s, .int .i64 t, .int .i64 f, .int .i64 st]] W fun e w' => e = .returned (.bool false) ∧ Below W.heap.size W w') := HI
    show Calls Tryd.prog 37 #[.agg #[.int .i64 s, .int .i64 t, .int .i64 f, .int .i64 st]] w _
    go_enter Tryd.func37, Tryd.ntmps37
    go_wp2_with (go_at_call 95; refine (HI.out _).mono ?_; rintro e w' ⟨rfl, hbq⟩; obtain ⟨p, rfl⟩ := ext_of_below hbq; clear hbq)
    go_ret2
    exact ⟨by rw [hS.out]; rfl, (by repeat' (first | exact Below.refl _ _ | with_reducible assumption | refine bext ?_ ?_ _ | refine Below.alloc ?_ ?_ _ | refine Below.setCell ?_ ?_ _ | refine Below.drew ?_ | (simp; done) | (have hbz := hb.size; first | omega | (simp; omega)) | (simp; omega) | omega))⟩
  · obtain ⟨a0, b0, a1, b1, a2, b2, a3, b3⟩ := dmgOk_facts hA
    have hS : Hid (dmS x = (((((((numT x.s ++ ⟨#[58, 32]⟩) ++ numT x.t) ++ ⟨#[116, 32]⟩) ++ numT x.f) ++ ⟨#[102, 32]⟩) ++ numT x.st) ++ ⟨#[37]⟩)) := (show dmS x = _ by rw [dmS, hA]; rfl)
    rw [hA] at HI
    replace HI := Lib.hid HI.out
    have q0 : (numT x.s).size ≤ 18 := numF_size 17 x.s
    have H0 := Lib.hid (fun W => l1Num_c x.s W a0 b0)
    have q1 : (numT x.t).size ≤ 18 := numF_size 17 x.t
    have H1 := Lib.hid (fun W => l1Num_c x.t W a1 b1)
    have q2 : (numT x.f).size ≤ 18 := numF_size 17 x.f
    have H2 := Lib.hid (fun W => l1Num_c x.f W a2 b2)
    have q3 : (numT x.st).size ≤ 18 := numF_size 17 x.st
    have H3 := Lib.hid (fun W => l1Num_c x.st W a3 b3)
    clear hA a0 b0 a1 b1 a2 b2 a3 b3
    generalize dmS x = T at hS ⊢
    obtain ⟨s, t, f, st⟩ := x
    replace HI : Hid (∀ W, Calls Tryd.prog 95 #[.agg #[.int .i64 s, .int .i64 t, .int .i64 f, .int .i64 st]] W fun e w' => e = .returned (.bool true) ∧ Below W.heap.size W w') := HI
    dsimp only at hS q0 H0 q1 H1 q2 H2 q3 H3
    generalize numT s = N0 at hS q0 H0
    generalize numT t = N1 at hS q1 H1
    generalize numT f = N2 at hS q2 H2
    generalize numT st = N3 at hS q3 H3
    show Calls Tryd.prog 37 #[.agg #[.int .i64 s, .int .i64 t, .int .i64 f, .int .i64 st]] w _
    go_enter Tryd.func37, Tryd.ntmps37
    go_wp2_with (go_at_call 95; refine (HI.out _).mono ?_; rintro e w' ⟨rfl, hbq⟩; obtain ⟨p, rfl⟩ := ext_of_below hbq; clear hbq)
    refine wp_region_ext (by kernel_rfl) (by kernel_rfl) ?_
    repeat (any_goals (first | go_big_quiet_step ((first | ((with_reducible (go_at_call 67; exact Calls.ext_of (H0.out _)))) | ((with_reducible (go_at_call 67; exact Calls.ext_of (H1.out _)))) | ((with_reducible (go_at_call 67; exact Calls.ext_of (H2.out _)))) | ((with_reducible (go_at_call 67; exact Calls.ext_of (H3.out _))))))))
    (refine wpQuiet_nil ?_)
    (rintro _ ⟨q, rfl⟩)
    go_wp2_with fail
    go_ret2
    exact ⟨by rw [hS.out]; rfl, (by repeat' (first | exact Below.refl _ _ | with_reducible assumption | refine bext ?_ ?_ _ | refine Below.alloc ?_ ?_ _ | refine Below.setCell ?_ ?_ _ | refine Below.drew ?_ | (simp; done) | (have hbz := hb.size; first | omega | (simp; omega)) | (simp; omega) | omega))⟩
end Go.Proofs.YtkflcpfekaddpaaDoor
