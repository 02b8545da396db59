/- Issues: an issue ends; the days of one issue: by the program and by the reference. No condition but what a slice may hold. -/
import Derived.Test.YthibchaiaedboaaSe20
import Derived.Test.YthibchaiaedboaaTd20
namespace Go.Proofs.Ythibchaiaedboaa
open Go.RowKit
set_option maxHeartbeats 400000 in
set_option maxRecDepth 100000 in
theorem issueAt_c (v : Value) (l : List Iss) (s n : Int) (w : World) (h : Sl w Iss.enc 4 v l) (hl : l.length ≤ 1048576) : Calls Try.prog 101 #[v, .int .i64 s, .int .i64 n] w (SearchRet l ⟨s, n, 0, 0⟩ w) := by
  go_enter Try.func101, Try.ntmps101
  go_wp2_with fail
  refine (searchIssue_c _ l ⟨s, n, 0, 0⟩ _ h hl).mono ?_
  rintro e w1 ⟨k, hS, rfl, hb⟩
  go_wp2_with fail
  go_ret2
  exact ⟨k, hS, rfl, hb⟩
set_option maxHeartbeats 1000000 in
set_option maxRecDepth 100000 in
theorem implTrueDays_c (v : Value) (l : List Iss) (s n : Int) (w : World) (h : Sl w Iss.enc 4 v l) (hl : l.length ≤ 1048576) : Calls Try.prog 21 #[v, .int .i64 s, .int .i64 n] w (RetSlB w 45 PrE.enc 2 (tdR l s n) (tdGood l s n)) := by
  have HA := Lib.hid (fun W (hb : Below w.heap.size w W) => areIssues_c v l W (h.mono hb))
  have HI := Lib.hid (issueAt_c v l s n w h hl)
  cases hA : areIss l
  · obtain ⟨h1, h2⟩ := tdR_no (s := s) (n := n) hA
    rw [h1, h2]
    clear h1 h2
    rw [hA] at HA
    clear hA
    go_enter Try.func21, Try.ntmps21
    go_wp2_with fail
    refine HI.out.mono ?_
    rintro e w1 ⟨k, hS, rfl, hb1⟩
    have hS := Lib.hid hS
    obtain ⟨q, rfl⟩ := ext_of_below hb1
    go_wp2_with (go_at_call 100; refine (HA.out _ hb1).mono ?_; rintro e w' ⟨rfl, hb2⟩)
    go_ret2
    exact ⟨_, rfl, Own.nil _ _ _ _ _, btrans hb1 hb2⟩
  · have HT := Lib.hid hA
    rw [hA] at HA
    clear hA
    obtain ⟨a, cap, b, off, rfl, hlc, hm, hc⟩ := id h
    unfold maxLen at hm
    go_enter Try.func21, Try.ntmps21
    go_wp2_with fail
    refine HI.out.mono ?_
    rintro e w1 ⟨k, hS, rfl, hb1⟩
    cases hh : searchHit l ⟨s, n, 0, 0⟩ k
    · have hT := Lib.hid (tdR_none (search_miss HT.out hS hh))
      clear hh
      have hS := Lib.hid hS
      go_wp2_with (go_at_call 100; refine (HA.out _ hb1).mono ?_; rintro e w' ⟨rfl, hb2⟩)
      go_ret2
      rw [hT.out.1, hT.out.2]
      exact ⟨_, rfl, Own.nil _ _ _ _ _, btrans hb1 hb2⟩
    · have hf := search_hit HT.out hh
      have hT := Lib.hid (tdR_yes HT.out hf)
      have hkl := (issFind_some hf).1
      obtain ⟨rfl, -⟩ := hc k hkl
      clear hh hf
      have hok := Lib.hid (areIss_ok HT.out k hkl)
      have hS := Lib.hid hS
      go_wp2_with (go_at_call 100; refine (HA.out _ hb1).mono ?_; rintro e w' ⟨rfl, hb2⟩; have hb3 := btrans hb1 hb2; obtain ⟨-, hbl, e0, e1, e2, e3⟩ := Iss.at (hc.mono hb3) k hkl)
      refine (trueDays_c _ l (gd l k) _ (h.mono hb3) hok.out).mono ?_
      rintro e w3 ⟨rv, rfl, ho, hb4⟩
      go_wp2_with fail
      go_ret2
      rw [hT.out.1, hT.out.2]
      exact ⟨_, rfl, ho.lower hb3.size, btrans hb3 hb4⟩
set_option maxHeartbeats 1000000 in
set_option maxRecDepth 100000 in
theorem specTrueDays_c (v : Value) (l : List Iss) (s n : Int) (w : World) (h : Sl w Iss.enc 4 v l) : Calls Try.prog 22 #[v, .int .i64 s, .int .i64 n] w (RetSlB w 45 PrE.enc 2 (tdR l s n) (tdGood l s n)) := by
  have HA := Lib.hid (l20Good_c v l w h)
  have HI := Lib.hid (l20Find_c v l s n w h)
  cases hA : areIss l
  · obtain ⟨h1, h2⟩ := tdR_no (s := s) (n := n) hA
    rw [h1, h2]
    clear h1 h2
    rw [hA] at HA
    clear hA
    go_enter Try.func22, Try.ntmps22
    go_wp2_with (first | (go_at_call 108; refine HI.out.mono ?_; rintro e w1 ⟨rfl, rfl⟩) | (go_at_call 98; refine HA.out.mono ?_; rintro e w' ⟨rfl, hb2⟩))
    go_ret2
    exact ⟨_, rfl, Own.empty _ _ _ _ _ hb2.size, btrans hb2 (below_alloc _ _)⟩
  · have HT := Lib.hid hA
    rw [hA] at HA
    clear hA
    obtain ⟨a, cap, b, off, rfl, hlc, hm, hc⟩ := id h
    unfold maxLen at hm
    cases hf : issFind l s n with
    | none =>
      obtain ⟨h1, h2⟩ := tdR_none hf
      rw [h1, h2]
      rw [hf] at HI
      clear h1 h2 hf
      have HI : Hid (Calls Try.prog 108 #[.slice a l.length cap, .int .i64 s, .int .i64 n] w fun e w' => e = .returned (.int .i64 (-1)) ∧ w = w') := HI
      go_enter Try.func22, Try.ntmps22
      go_wp2_with (first | (go_at_call 108; refine HI.out.mono ?_; rintro e w1 ⟨rfl, rfl⟩) | (go_at_call 98; refine HA.out.mono ?_; rintro e w' ⟨rfl, hb2⟩))
      go_ret2
      exact ⟨_, rfl, Own.empty _ _ _ _ _ hb2.size, btrans hb2 (below_alloc _ _)⟩
    | some k =>
      obtain ⟨h1, h2⟩ := tdR_yes HT.out hf
      rw [h1, h2]
      rw [hf] at HI
      have hkl := (issFind_some hf).1
      clear h1 h2 hf
      obtain ⟨rfl, -⟩ := hc k hkl
      have HI : Hid (Calls Try.prog 108 #[.slice (some ⟨b, off, none⟩) l.length cap, .int .i64 s, .int .i64 n] w fun e w' => e = .returned (.int .i64 (k : Int)) ∧ w = w') := HI
      have hok := Lib.hid (areIss_ok HT.out k hkl)
      go_enter Try.func22, Try.ntmps22
      go_wp2_with (first | (go_at_call 108; refine HI.out.mono ?_; rintro e w1 ⟨rfl, rfl⟩) | (go_at_call 98; refine HA.out.mono ?_; rintro e w' ⟨rfl, hb2⟩; obtain ⟨-, hbl, e0, e1, e2, e3⟩ := Iss.at (hc.mono hb2) k hkl))
      refine (l20Days_c _ l (gd l k) _ (h.mono hb2) HT.out hok.out).mono ?_
      rintro e w3 ⟨rv, rfl, ho, hb4⟩
      go_wp2_with fail
      go_ret2
      exact ⟨_, rfl, ho.lower hb2.size, btrans hb2 hb4⟩
end Go.Proofs.Ythibchaiaedboaa
