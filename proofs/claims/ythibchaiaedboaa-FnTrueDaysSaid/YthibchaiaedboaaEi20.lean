/- Issues: an issue ends. By the program and by the reference. No condition but what a slice may hold. -/
import Derived.Test.YthibchaiaedboaaEn20
import Derived.Test.YthibchaiaedboaaStep
import Derived.Outline
namespace Go.Proofs.Ythibchaiaedboaa
open Go.RowKit
set_option maxHeartbeats 2000000 in
set_option maxRecDepth 100000 in
theorem endIssue_c (v : Value) (l : List Iss) (s n d : Int) (w : World) (h : Sl w Iss.enc 4 v l) (hl : l.length ≤ 1048576) : Calls Try.prog 32 #[v, .int .i64 s, .int .i64 n, .int .i64 d] w (RetSlB w 30 Iss.enc 4 (endR l s n d) (endGood l s n d)) := by
  have HA := Lib.hid (fun W (hb : Below w.heap.size w W) => areIssues_c v l W (h.mono hb))
  have HI := Lib.hid (issueAt_c v l s n w h hl)
  cases hA : areIss l
  · have hg := end_bad (s := s) (n := n) (d := d) hA
    have hE := Lib.hid (endR_no hg)
    have hg := Lib.hid hg
    rw [hA] at HA
    clear hA
    go_enter Try.func32, Try.ntmps32
    go_wp2_with fail
    refine HI.out.mono ?_
    rintro e w1 ⟨k, hS, rfl, hb1⟩
    have hz1 := hb1.size
    have hS := Lib.hid hS
    go_wp2_with fail
    refine wp_region_ext (by kernel_rfl) (by kernel_rfl) ?_
    repeat (any_goals (first | go_big_quiet_step ((go_at_call 100; exact Calls.ext_of (HA.out _ (by repeat' (first | exact Below.refl _ _ | with_reducible assumption | refine bext ?_ ?_ _ | refine Below.alloc ?_ ?_ _ | refine Below.setCell ?_ ?_ _ | refine Below.drew ?_ | (simp; done) | (have hbz := hb.size; first | omega | (simp; omega)) | (simp; omega) | omega)))))))
    (refine wpQuiet_nil ?_)
    (rintro _ ⟨q, rfl⟩)
    go_wp2_with fail
    go_ret2
    rw [hE.out, hg.out]
    exact ⟨_, rfl, Own.nil _ _ _ _ _, bext hb1 hb1.size _⟩
  · have HT := Lib.hid hA
    rw [hA] at HA
    clear hA
    obtain ⟨a, cap, b, off, rfl, hlc, hm, hc⟩ := id h
    unfold maxLen at hm
    go_enter Try.func32, Try.ntmps32
    go_wp2_with fail
    refine HI.out.mono ?_
    rintro e w1 ⟨k, hS, rfl, hb1⟩
    have hz1 := hb1.size
    cases hh : searchHit l ⟨s, n, 0, 0⟩ k
    · have hg := end_miss (d := d) (search_miss HT.out hS hh)
      have hE := Lib.hid (endR_no hg)
      have hg := Lib.hid hg
      clear hh
      have hS := Lib.hid hS
      go_wp2_with fail
      refine wp_region_ext (by kernel_rfl) (by kernel_rfl) ?_
      repeat (any_goals (first | go_big_quiet_step ((go_at_call 100; exact Calls.ext_of (HA.out _ (by repeat' (first | exact Below.refl _ _ | with_reducible assumption | refine bext ?_ ?_ _ | refine Below.alloc ?_ ?_ _ | refine Below.setCell ?_ ?_ _ | refine Below.drew ?_ | (simp; done) | (have hbz := hb.size; first | omega | (simp; omega)) | (simp; omega) | omega)))))))
      (refine wpQuiet_nil ?_)
      (rintro _ ⟨q, rfl⟩)
      go_wp2_with fail
      go_ret2
      rw [hE.out, hg.out]
      exact ⟨_, rfl, Own.nil _ _ _ _ _, bext hb1 hb1.size _⟩
    · have hf := search_hit HT.out hh
      have hkl := (issFind_some hf).1
      have hG := end_hit (d := d) HT.out hf
      obtain ⟨rfl, -⟩ := hc k hkl
      obtain ⟨-, hbl, e0, e1, e2, e3⟩ := Iss.at (hc.mono hb1) k hkl
      have hS := Lib.hid hS
      clear hh
      cases hd : inB d (gd l k).fr (gd l k).un
      · rw [hd] at hG
        have hE := Lib.hid (endR_no hG)
        have hG := Lib.hid hG
        have hf := Lib.hid hf
        go_wp2_with fail
        refine wp_region_ext (by kernel_rfl) (by kernel_rfl) ?_
        repeat (any_goals (first | go_big_quiet_step ((first | (go_at_call 100; exact Calls.ext_of (HA.out _ (by repeat' (first | exact Below.refl _ _ | with_reducible assumption | refine bext ?_ ?_ _ | refine Below.alloc ?_ ?_ _ | refine Below.setCell ?_ ?_ _ | refine Below.drew ?_ | (simp; done) | (have hbz := hb.size; first | omega | (simp; omega)) | (simp; omega) | omega)))) | (go_at_call 118; exact Calls.ext_same (within_c _ _ _ _))))))
        (refine wpQuiet_nil ?_)
        (rintro _ ⟨q, rfl⟩)
        go_wp2_with fail
        go_ret2
        rw [hE.out, hG.out]
        exact ⟨_, rfl, Own.nil _ _ _ _ _, bext hb1 hb1.size _⟩
      · rw [hd] at hG
        have hE := Lib.hid (endR_yes hf hG)
        have hG := Lib.hid hG
        have hss := Lib.hid (issFind_some hf).2
        have hf := Lib.hid hf
        go_wp2_with fail
        refine wp_region_ext (by kernel_rfl) (by kernel_rfl) ?_
        repeat (any_goals (first | go_big_quiet_step ((first | (go_at_call 100; exact Calls.ext_of (HA.out _ (by repeat' (first | exact Below.refl _ _ | with_reducible assumption | refine bext ?_ ?_ _ | refine Below.alloc ?_ ?_ _ | refine Below.setCell ?_ ?_ _ | refine Below.drew ?_ | (simp; done) | (have hbz := hb.size; first | omega | (simp; omega)) | (simp; omega) | omega)))) | (go_at_call 118; exact Calls.ext_same (within_c _ _ _ _))))))
        (refine wpQuiet_nil ?_)
        (rintro _ ⟨q, rfl⟩)
        go_wp2_with fail
        refine (cloneIssue_c _ l _ (h.mono (bext hb1 hb1.size _)) hl).mono ?_
        rintro e w3 ⟨rv, rfl, ho, hb2⟩
        obtain ⟨g, cap', rfl, hlo, hgl, hcl, hcm, hfz, hcc⟩ := ho.form Iss.len (by omega)
        obtain ⟨-, -, d0, d1, d2, d3⟩ := Iss.at hcc k hkl
        rw [Nat.zero_add] at d0 d1 d2 d3
        have f3 := hfz (k * 4 + 3)
        unfold maxLen at hcm
        have hS2 := Lib.hid (ho.store Iss.len k hkl ⟨(gd l k).s, (gd l k).n, (gd l k).fr, d⟩ 3 (by omega) (.int .i64 d) rfl)
        clear hcc hfz ho
        go_wp2_with fail
        go_ret2
        rw [hE.out, hG.out]
        have h1 := hss.out
        refine ⟨_, rfl, ?_, ?_⟩
        · have := hS2.out
          rw [h1.1, h1.2] at this
          exact this.lower (by have := hb1.size; simp; omega)
        · exact ((bext hb1 hb1.size _).trans (hb2.mono (by have := hb1.size; simp; omega))).setCell (by have := hb1.size; simp at hlo; show w.heap.size ≤ g; omega) _
set_option maxHeartbeats 2000000 in
set_option maxRecDepth 100000 in
theorem specEndIssue_c (v : Value) (l : List Iss) (s n d : Int) (w : World) (h : Sl w Iss.enc 4 v l) (hl : l.length ≤ 1048576) : Calls Try.prog 33 #[v, .int .i64 s, .int .i64 n, .int .i64 d] w (RetSlB w 30 Iss.enc 4 (endR l s n d) (endGood l s n d)) := by
  have HA := Lib.hid (fun W (hb : Below w.heap.size w W) => l20Good_c v l W (h.mono hb))
  have HI := Lib.hid (l20Find_c v l s n w h)
  obtain ⟨i, hi, hz0, hz1, hz2⟩ := info_parts (show (Try.prog.info? 30).map (fun i => (i.zero, i.size, i.bytes)) = some (some (.agg #[.int .i64 0, .int .i64 0, .int .i64 0, .int .i64 0]), 4, 32) by kernel_rfl)
  cases hA : areIss l
  · have hg := end_bad (s := s) (n := n) (d := d) hA
    have hE := Lib.hid (endR_no hg)
    have hg := Lib.hid hg
    rw [hA] at HA
    clear hA
    go_enter Try.func33, Try.ntmps33
    go_wp2_with (go_at_call 108; refine HI.out.mono ?_; rintro e w1 ⟨rfl, rfl⟩)
    refine wp_region_ext (by kernel_rfl) (by kernel_rfl) ?_
    repeat (any_goals (first | go_big_quiet_step ((go_at_call 98; exact Calls.ext_of (HA.out _ (by repeat' (first | exact Below.refl _ _ | with_reducible assumption | refine bext ?_ ?_ _ | refine Below.alloc ?_ ?_ _ | refine Below.setCell ?_ ?_ _ | refine Below.drew ?_ | (simp; done) | (have hbz := hb.size; first | omega | (simp; omega)) | (simp; omega) | omega)))))))
    (refine wpQuiet_nil ?_)
    (rintro _ ⟨q, rfl⟩)
    generalize e2 : ext w q = W2
    have hbq : Below w.heap.size w W2 := by rw [← e2]; exact (by repeat' (first | exact Below.refl _ _ | with_reducible assumption | refine bext ?_ ?_ _ | refine Below.alloc ?_ ?_ _ | refine Below.setCell ?_ ?_ _ | refine Below.drew ?_ | (simp; done) | (have hbz := hb.size; first | omega | (simp; omega)) | (simp; omega) | omega))
    have hzq := hbq.size
    clear e2
    go_wp2_with fail
    go_ret2
    rw [hE.out, hg.out]
    exact ⟨_, rfl, Own.empty _ _ _ _ _ hbq.size, btrans hbq (below_alloc _ _)⟩
  · have HT := Lib.hid hA
    rw [hA] at HA
    clear hA
    obtain ⟨a, cap, b, off, rfl, hlc, hm, hc⟩ := id h
    unfold maxLen at hm
    cases hf : issFind l s n with
    | none =>
      have hg := end_miss (d := d) hf
      have hE := Lib.hid (endR_no hg)
      have hg := Lib.hid hg
      rw [hf] at HI
      clear hf
      have HI : Hid (Calls Try.prog 108 #[.slice a l.length cap, .int .i64 s, .int .i64 n] w fun e w' => e = .returned (.int .i64 (-1)) ∧ w = w') := HI
      go_enter Try.func33, Try.ntmps33
      go_wp2_with (go_at_call 108; refine HI.out.mono ?_; rintro e w1 ⟨rfl, rfl⟩)
      refine wp_region_ext (by kernel_rfl) (by kernel_rfl) ?_
      repeat (any_goals (first | go_big_quiet_step ((go_at_call 98; exact Calls.ext_of (HA.out _ (by repeat' (first | exact Below.refl _ _ | with_reducible assumption | refine bext ?_ ?_ _ | refine Below.alloc ?_ ?_ _ | refine Below.setCell ?_ ?_ _ | refine Below.drew ?_ | (simp; done) | (have hbz := hb.size; first | omega | (simp; omega)) | (simp; omega) | omega)))))))
      (refine wpQuiet_nil ?_)
      (rintro _ ⟨q, rfl⟩)
      generalize e2 : ext w q = W2
      have hbq : Below w.heap.size w W2 := by rw [← e2]; exact (by repeat' (first | exact Below.refl _ _ | with_reducible assumption | refine bext ?_ ?_ _ | refine Below.alloc ?_ ?_ _ | refine Below.setCell ?_ ?_ _ | refine Below.drew ?_ | (simp; done) | (have hbz := hb.size; first | omega | (simp; omega)) | (simp; omega) | omega))
      have hzq := hbq.size
      clear e2
      go_wp2_with fail
      go_ret2
      rw [hE.out, hg.out]
      exact ⟨_, rfl, Own.empty _ _ _ _ _ hbq.size, btrans hbq (below_alloc _ _)⟩
    | some k =>
      have hkl := (issFind_some hf).1
      have hG := end_hit (d := d) HT.out hf
      rw [hf] at HI
      obtain ⟨rfl, -⟩ := hc k hkl
      obtain ⟨-, hbl, e0, e1, e2, e3⟩ := Iss.at hc k hkl
      have hk0 : decide ((k : Int) < 0) = false := by simp
      have HI : Hid (Calls Try.prog 108 #[.slice (some ⟨b, off, none⟩) l.length cap, .int .i64 s, .int .i64 n] w fun e w' => e = .returned (.int .i64 (k : Int)) ∧ w = w') := HI
      cases hd : inB d (gd l k).fr (gd l k).un
      · rw [hd] at hG
        have hE := Lib.hid (endR_no hG)
        have hG := Lib.hid hG
        have hf := Lib.hid hf
        go_enter Try.func33, Try.ntmps33
        go_wp2_with (go_at_call 108; refine HI.out.mono ?_; rintro e w1 ⟨rfl, rfl⟩)
        refine wp_region_ext (by kernel_rfl) (by kernel_rfl) ?_
        repeat (any_goals (first | go_big_quiet_step ((first | (go_at_call 98; exact Calls.ext_of (HA.out _ (by repeat' (first | exact Below.refl _ _ | with_reducible assumption | refine bext ?_ ?_ _ | refine Below.alloc ?_ ?_ _ | refine Below.setCell ?_ ?_ _ | refine Below.drew ?_ | (simp; done) | (have hbz := hb.size; first | omega | (simp; omega)) | (simp; omega) | omega)))) | (go_at_call 119; exact Calls.ext_same (l1In_c _ _ _ _))))))
        (refine wpQuiet_nil ?_)
        (rintro _ ⟨q, rfl⟩)
        generalize e2 : ext w q = W2
        have hbq : Below w.heap.size w W2 := by rw [← e2]; exact (by repeat' (first | exact Below.refl _ _ | with_reducible assumption | refine bext ?_ ?_ _ | refine Below.alloc ?_ ?_ _ | refine Below.setCell ?_ ?_ _ | refine Below.drew ?_ | (simp; done) | (have hbz := hb.size; first | omega | (simp; omega)) | (simp; omega) | omega))
        have hzq := hbq.size
        clear e2
        go_wp2_with fail
        go_ret2
        rw [hE.out, hG.out]
        exact ⟨_, rfl, Own.empty _ _ _ _ _ hbq.size, btrans hbq (below_alloc _ _)⟩
      · rw [hd] at hG
        have hE := Lib.hid (endR_yes hf hG)
        have hG := Lib.hid hG
        have hf := Lib.hid hf
        go_enter Try.func33, Try.ntmps33
        go_wp2_with (go_at_call 108; refine HI.out.mono ?_; rintro e w1 ⟨rfl, rfl⟩)
        refine wp_region_ext (by kernel_rfl) (by kernel_rfl) ?_
        repeat (any_goals (first | go_big_quiet_step ((first | (go_at_call 98; exact Calls.ext_of (HA.out _ (by repeat' (first | exact Below.refl _ _ | with_reducible assumption | refine bext ?_ ?_ _ | refine Below.alloc ?_ ?_ _ | refine Below.setCell ?_ ?_ _ | refine Below.drew ?_ | (simp; done) | (have hbz := hb.size; first | omega | (simp; omega)) | (simp; omega) | omega)))) | (go_at_call 119; exact Calls.ext_same (l1In_c _ _ _ _))))))
        (refine wpQuiet_nil ?_)
        (rintro _ ⟨q, rfl⟩)
        generalize e2 : ext w q = W2
        have hbq : Below w.heap.size w W2 := by rw [← e2]; exact (by repeat' (first | exact Below.refl _ _ | with_reducible assumption | refine bext ?_ ?_ _ | refine Below.alloc ?_ ?_ _ | refine Below.setCell ?_ ?_ _ | refine Below.drew ?_ | (simp; done) | (have hbz := hb.size; first | omega | (simp; omega)) | (simp; omega) | omega))
        have hzq := hbq.size
        clear e2
        go_wp2_with (at_builtin; refine wpList_cat Iss.len Iss.one rfl _ _ 26 rfl w.heap.size 30 i _ 32 Try.underlying26 hi hz0 hz1 hz2 rfl (by omega) _ [] rfl (Own.empty _ _ _ _ _ hzq) _ l rfl (h.mono (by repeat' (first | exact Below.refl _ _ | with_reducible assumption | refine bext ?_ ?_ _ | refine Below.alloc ?_ ?_ _ | refine Below.setCell ?_ ?_ _ | refine Below.drew ?_ | (simp; done) | (have hbz := hb.size; first | omega | (simp; omega)) | (simp; omega) | omega))) (by simp [maxLen]; omega) (by simp; omega) (by simp; omega) ?_)
        intro rv w3 ho hg3
        have hb3 : Below w.heap.size w w3 := (show Below w.heap.size w (W2.alloc (.cells #[] 30)) from (by repeat' (first | exact Below.refl _ _ | with_reducible assumption | refine bext ?_ ?_ _ | refine Below.alloc ?_ ?_ _ | refine Below.setCell ?_ ?_ _ | refine Below.drew ?_ | (simp; done) | (have hbz := hb.size; first | omega | (simp; omega)) | (simp; omega) | omega))).grown hg3 (by simp; omega) (fun g hg => by simp [Value.ownBlock] at hg; omega)
        obtain ⟨g, cap', rfl, hlo, hgl, hcl, hcm, hfz, hcc⟩ := ho.form Iss.len (by omega)
        obtain ⟨-, -, d0, d1, d2, d3⟩ := Iss.at hcc k hkl
        rw [Nat.zero_add] at d0 d1 d2 d3
        have f0 := hfz (k * 4)
        have f1 := hfz (k * 4 + 1)
        have f2 := hfz (k * 4 + 2)
        have f3 := hfz (k * 4 + 3)
        unfold maxLen at hcm
        obtain ⟨-, hbl3, e0, e1, e2, e3⟩ := Iss.at (hc.mono hb3) k hkl
        have hS0 := ho.store Iss.len k hkl ⟨s, (gd l k).n, (gd l k).fr, (gd l k).un⟩ 0 (by omega) (.int .i64 s) rfl
        have hS1 := hS0.store Iss.len k (by simpa using hkl) ⟨s, n, (gd l k).fr, (gd l k).un⟩ 1 (by omega) (.int .i64 n) (by rw [gd_set_at hkl]; rfl)
        have hS2 := hS1.store Iss.len k (by simpa using hkl) ⟨s, n, (gd l k).fr, (gd l k).un⟩ 2 (by omega) (.int .i64 (gd l k).fr) (by rw [gd_set_at (by simpa using hkl)]; rfl)
        have hS3 := hS2.store Iss.len k (by simpa using hkl) ⟨s, n, (gd l k).fr, d⟩ 3 (by omega) (.int .i64 d) (by rw [gd_set_at (by simpa using hkl)]; rfl)
        rw [List.set_set, List.set_set, List.set_set] at hS3
        have hS3 := Lib.hid hS3
        clear hcc hfz ho hS0 hS1 hS2
        go_wp2_with fail
        go_ret2
        rw [hE.out, hG.out]
        exact ⟨_, rfl, hS3.out, (((hb3.setCell hlo _).setCell hlo _).setCell hlo _).setCell hlo _⟩
end Go.Proofs.Ythibchaiaedboaa
