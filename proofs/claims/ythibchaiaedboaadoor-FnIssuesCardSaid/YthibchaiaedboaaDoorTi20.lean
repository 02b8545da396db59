/- The text of a issue: by the program and by the reference. Condition: Go's table of powers of ten reads as it is laid. -/
import Derived.Test.YthibchaiaedboaaDoorItx
import Derived.Test.YthibchaiaedboaaDoorIs20
namespace Go.Proofs.YthibchaiaedboaaDoor
open Go.RowKit
def isT (x : Iss) : ByteArray := ((((((numT x.s ++ ⟨#[47]⟩) ++ numT x.n) ++ ⟨#[32]⟩) ++ numT x.fr) ++ ⟨#[46, 46]⟩) ++ numT x.un)
def isS (x : Iss) : ByteArray := if issOk x then isT x else ⟨#[]⟩
theorem issOk_facts {x : Iss} (h : issOk x = true) : 0 ≤ x.s ∧ x.s < 1000000000000000000 ∧ 0 ≤ x.n ∧ x.n < 1000000000000000000 ∧ 0 ≤ x.fr ∧ x.fr < 1000000000000000000 ∧ 0 ≤ x.un ∧ x.un < 1000000000000000000 := by
  simp only [issOk, Bool.and_eq_true, inB_iff] at h
  omega
set_option maxHeartbeats 4000000 in
set_option maxRecDepth 100000 in
theorem issueText_c (x : Iss) (w : World) (ht : Tab w) : Calls Tryd.prog 24 #[.agg x.enc.toArray] w fun e w' => e = .returned (.tuple #[.string (isS x), .bool (issOk x)]) ∧ Below w.heap.size w w' := by
  have HI := Lib.hid (fun W => isIssue_c x W)
  cases hA : issOk x
  · have hS : Hid (isS x = ⟨#[]⟩) := (show isS x = _ by rw [isS, hA]; rfl)
    rw [hA] at HI
    replace HI := Lib.hid HI.out
    generalize isS x = T at hS ⊢
    clear hA ht
    obtain ⟨s, n, fr, un⟩ := x
    replace HI : Hid (∀ W, Calls Tryd.prog 26 #[.agg #[.int .i64 s, .int .i64 n, .int .i64 fr, .int .i64 un]] W fun e w' => e = .returned (.bool false) ∧ Below W.heap.size W w') := HI
    show Calls Tryd.prog 24 #[.agg #[.int .i64 s, .int .i64 n, .int .i64 fr, .int .i64 un]] w _
    go_enter Tryd.func24, Tryd.ntmps24
    go_wp2_with (go_at_call 26; refine (HI.out _).mono ?_; rintro e w' ⟨rfl, hbq⟩; obtain ⟨p, rfl⟩ := ext_of_below hbq; clear hbq)
    go_ret2
    exact ⟨by rw [hS.out]; rfl, (by repeat' (first | exact Below.refl _ _ | with_reducible assumption | refine bext ?_ ?_ _ | refine Below.alloc ?_ ?_ _ | refine Below.setCell ?_ ?_ _ | refine Below.drew ?_ | (simp; done) | (have hbz := hb.size; first | omega | (simp; omega)) | (simp; omega) | omega))⟩
  · obtain ⟨a0, b0, a1, b1, a2, b2, a3, b3⟩ := issOk_facts hA
    have hS : Hid (isS x = ((((((numT x.s ++ ⟨#[47]⟩) ++ numT x.n) ++ ⟨#[32]⟩) ++ numT x.fr) ++ ⟨#[46, 46]⟩) ++ numT x.un)) := (show isS x = _ by rw [isS, hA]; rfl)
    rw [hA] at HI
    replace HI := Lib.hid HI.out
    have q0 : (numT x.s).size ≤ 18 := numF_size 17 x.s
    have H0 := Lib.hid (fun W (hB : Below w.heap.size w W) => text_c x.s W a0 b0 (ht.mono hB))
    have q1 : (numT x.n).size ≤ 18 := numF_size 17 x.n
    have H1 := Lib.hid (fun W (hB : Below w.heap.size w W) => text_c x.n W a1 b1 (ht.mono hB))
    have q2 : (numT x.fr).size ≤ 18 := numF_size 17 x.fr
    have H2 := Lib.hid (fun W (hB : Below w.heap.size w W) => text_c x.fr W a2 b2 (ht.mono hB))
    have q3 : (numT x.un).size ≤ 18 := numF_size 17 x.un
    have H3 := Lib.hid (fun W (hB : Below w.heap.size w W) => text_c x.un W a3 b3 (ht.mono hB))
    clear hA ht a0 b0 a1 b1 a2 b2 a3 b3
    generalize isS x = T at hS ⊢
    obtain ⟨s, n, fr, un⟩ := x
    replace HI : Hid (∀ W, Calls Tryd.prog 26 #[.agg #[.int .i64 s, .int .i64 n, .int .i64 fr, .int .i64 un]] W fun e w' => e = .returned (.bool true) ∧ Below W.heap.size W w') := HI
    dsimp only at hS q0 H0 q1 H1 q2 H2 q3 H3
    generalize numT s = N0 at hS q0 H0
    generalize numT n = N1 at hS q1 H1
    generalize numT fr = N2 at hS q2 H2
    generalize numT un = N3 at hS q3 H3
    show Calls Tryd.prog 24 #[.agg #[.int .i64 s, .int .i64 n, .int .i64 fr, .int .i64 un]] w _
    go_enter Tryd.func24, Tryd.ntmps24
    go_wp2_with (go_at_call 26; refine (HI.out _).mono ?_; rintro e w' ⟨rfl, hbq⟩; obtain ⟨p, rfl⟩ := ext_of_below hbq; clear hbq)
    refine wp_region_ext (by kernel_rfl) (by kernel_rfl) ?_
    repeat (any_goals (first | go_big_quiet_step ((first | ((with_reducible (go_at_call 71; exact Calls.ext_of (H0.out _ (by repeat' (first | exact Below.refl _ _ | with_reducible assumption | refine bext ?_ ?_ _ | refine Below.alloc ?_ ?_ _ | refine Below.setCell ?_ ?_ _ | refine Below.drew ?_ | (simp; done) | (have hbz := hb.size; first | omega | (simp; omega)) | (simp; omega) | omega)))))) | ((with_reducible (go_at_call 71; exact Calls.ext_of (H1.out _ (by repeat' (first | exact Below.refl _ _ | with_reducible assumption | refine bext ?_ ?_ _ | refine Below.alloc ?_ ?_ _ | refine Below.setCell ?_ ?_ _ | refine Below.drew ?_ | (simp; done) | (have hbz := hb.size; first | omega | (simp; omega)) | (simp; omega) | omega)))))) | ((with_reducible (go_at_call 71; exact Calls.ext_of (H2.out _ (by repeat' (first | exact Below.refl _ _ | with_reducible assumption | refine bext ?_ ?_ _ | refine Below.alloc ?_ ?_ _ | refine Below.setCell ?_ ?_ _ | refine Below.drew ?_ | (simp; done) | (have hbz := hb.size; first | omega | (simp; omega)) | (simp; omega) | omega)))))) | ((with_reducible (go_at_call 71; exact Calls.ext_of (H3.out _ (by repeat' (first | exact Below.refl _ _ | with_reducible assumption | refine bext ?_ ?_ _ | refine Below.alloc ?_ ?_ _ | refine Below.setCell ?_ ?_ _ | refine Below.drew ?_ | (simp; done) | (have hbz := hb.size; first | omega | (simp; omega)) | (simp; omega) | omega))))))))))
    (refine wpQuiet_nil ?_)
    (rintro _ ⟨q, rfl⟩)
    go_wp2_with fail
    go_ret2
    exact ⟨by rw [hS.out]; rfl, (by repeat' (first | exact Below.refl _ _ | with_reducible assumption | refine bext ?_ ?_ _ | refine Below.alloc ?_ ?_ _ | refine Below.setCell ?_ ?_ _ | refine Below.drew ?_ | (simp; done) | (have hbz := hb.size; first | omega | (simp; omega)) | (simp; omega) | omega))⟩
set_option maxHeartbeats 4000000 in
set_option maxRecDepth 100000 in
theorem specIssueText_c (x : Iss) (w : World) : Calls Tryd.prog 25 #[.agg x.enc.toArray] w fun e w' => e = .returned (.tuple #[.string (isS x), .bool (issOk x)]) ∧ Below w.heap.size w w' := by
  have HI := Lib.hid (fun W => l20One_c x W)
  cases hA : issOk x
  · have hS : Hid (isS x = ⟨#[]⟩) := (show isS x = _ by rw [isS, hA]; rfl)
    rw [hA] at HI
    replace HI := Lib.hid HI.out
    generalize isS x = T at hS ⊢
    clear hA
    obtain ⟨s, n, fr, un⟩ := x
    replace HI : Hid (∀ W, Calls Tryd.prog 69 #[.agg #[.int .i64 s, .int .i64 n, .int .i64 fr, .int .i64 un]] W fun e w' => e = .returned (.bool false) ∧ Below W.heap.size W w') := HI
    show Calls Tryd.prog 25 #[.agg #[.int .i64 s, .int .i64 n, .int .i64 fr, .int .i64 un]] w _
    go_enter Tryd.func25, Tryd.ntmps25
    go_wp2_with (go_at_call 69; refine (HI.out _).mono ?_; rintro e w' ⟨rfl, hbq⟩; obtain ⟨p, rfl⟩ := ext_of_below hbq; clear hbq)
    go_ret2
    exact ⟨by rw [hS.out]; rfl, (by repeat' (first | exact Below.refl _ _ | with_reducible assumption | refine bext ?_ ?_ _ | refine Below.alloc ?_ ?_ _ | refine Below.setCell ?_ ?_ _ | refine Below.drew ?_ | (simp; done) | (have hbz := hb.size; first | omega | (simp; omega)) | (simp; omega) | omega))⟩
  · obtain ⟨a0, b0, a1, b1, a2, b2, a3, b3⟩ := issOk_facts hA
    have hS : Hid (isS x = ((((((numT x.s ++ ⟨#[47]⟩) ++ numT x.n) ++ ⟨#[32]⟩) ++ numT x.fr) ++ ⟨#[46, 46]⟩) ++ numT x.un)) := (show isS x = _ by rw [isS, hA]; rfl)
    rw [hA] at HI
    replace HI := Lib.hid HI.out
    have q0 : (numT x.s).size ≤ 18 := numF_size 17 x.s
    have H0 := Lib.hid (fun W => l1Num_c x.s W a0 b0)
    have q1 : (numT x.n).size ≤ 18 := numF_size 17 x.n
    have H1 := Lib.hid (fun W => l1Num_c x.n W a1 b1)
    have q2 : (numT x.fr).size ≤ 18 := numF_size 17 x.fr
    have H2 := Lib.hid (fun W => l1Num_c x.fr W a2 b2)
    have q3 : (numT x.un).size ≤ 18 := numF_size 17 x.un
    have H3 := Lib.hid (fun W => l1Num_c x.un W a3 b3)
    clear hA a0 b0 a1 b1 a2 b2 a3 b3
    generalize isS x = T at hS ⊢
    obtain ⟨s, n, fr, un⟩ := x
    replace HI : Hid (∀ W, Calls Tryd.prog 69 #[.agg #[.int .i64 s, .int .i64 n, .int .i64 fr, .int .i64 un]] W fun e w' => e = .returned (.bool true) ∧ Below W.heap.size W w') := HI
    dsimp only at hS q0 H0 q1 H1 q2 H2 q3 H3
    generalize numT s = N0 at hS q0 H0
    generalize numT n = N1 at hS q1 H1
    generalize numT fr = N2 at hS q2 H2
    generalize numT un = N3 at hS q3 H3
    show Calls Tryd.prog 25 #[.agg #[.int .i64 s, .int .i64 n, .int .i64 fr, .int .i64 un]] w _
    go_enter Tryd.func25, Tryd.ntmps25
    go_wp2_with (go_at_call 69; refine (HI.out _).mono ?_; rintro e w' ⟨rfl, hbq⟩; obtain ⟨p, rfl⟩ := ext_of_below hbq; clear hbq)
    refine wp_region_ext (by kernel_rfl) (by kernel_rfl) ?_
    repeat (any_goals (first | go_big_quiet_step ((first | ((with_reducible (go_at_call 72; exact Calls.ext_of (H0.out _)))) | ((with_reducible (go_at_call 72; exact Calls.ext_of (H1.out _)))) | ((with_reducible (go_at_call 72; exact Calls.ext_of (H2.out _)))) | ((with_reducible (go_at_call 72; exact Calls.ext_of (H3.out _))))))))
    (refine wpQuiet_nil ?_)
    (rintro _ ⟨q, rfl⟩)
    go_wp2_with fail
    go_ret2
    exact ⟨by rw [hS.out]; rfl, (by repeat' (first | exact Below.refl _ _ | with_reducible assumption | refine bext ?_ ?_ _ | refine Below.alloc ?_ ?_ _ | refine Below.setCell ?_ ?_ _ | refine Below.drew ?_ | (simp; done) | (have hbz := hb.size; first | omega | (simp; omega)) | (simp; omega) | omega))⟩
end Go.Proofs.YthibchaiaedboaaDoor
