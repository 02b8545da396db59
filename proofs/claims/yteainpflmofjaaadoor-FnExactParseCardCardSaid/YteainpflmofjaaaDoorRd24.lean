/- Numbers read, by the reference. No condition but sizes. -/
import Derived.Test.YteainpflmofjaaaDoorPr24
import Derived.Test.YteainpflmofjaaaDoorBnd
import Derived.Outline
import Derived.Deep.Cut
namespace Go.Proofs.YteainpflmofjaaaDoor
open Go.RowKit
theorem dig_val (b : UInt8) (h : 48 ≤ b.toNat ∧ b.toNat ≤ 57) : Lib.digitVal b = some (b.toNat - 48) := by
  unfold Lib.digitVal
  rw [if_pos h]
/-- what the reading of a number answers -/
def RetNum (w : World) (s : ByteArray) (e : Ending) (w' : World) : Prop := ∃ (n : Int) (b : Bool), e = .returned (.tuple #[.int .i64 n, .bool b]) ∧ NumP s n ∧ Below w.heap.size w w'
theorem numP_no {s : ByteArray} {n : Int} (h : ∀ k : Nat, k ≤ 999999 → s.data.toList ≠ Lib.decDigits k) : NumP s n := fun k hk e => absurd e (h k hk)
theorem dec_len6 (k : Nat) (hk : k ≤ 999999) : 1 ≤ (Lib.decDigits k).length ∧ (Lib.decDigits k).length ≤ 6 := by
  refine ⟨?_, dec_len k 5 (by omega)⟩
  cases h : Lib.decDigits k with
  | nil => exact absurd h (decDigits_ne k)
  | cons a l => simp
theorem byteL_dig {s : ByteArray} {i : Nat} (hi : i < s.size) {k : Nat} (e : s.data.toList = Lib.decDigits k) : 48 ≤ gd (byteL s) i ∧ gd (byteL s) i ≤ 57 := by
  have hi' : i < s.data.toList.length := by rw [ba_len]; exact hi
  have := decDigits_all k s.data.toList[i] (by rw [← e]; exact List.getElem_mem hi')
  rw [gd_get (by rw [byteL_len]; exact hi)]
  simp only [byteL, List.getElem_map]
  omega
set_option maxHeartbeats 2000000 in
theorem l1NumZ_c (n : Int) (w : World) (h0 : -999999 ≤ n) (h1 : n ≤ 999999) : Calls Tryd.prog 75 #[.int .i64 n] w fun e w' => ∃ t : ByteArray, e = .returned (.string t) ∧ (0 ≤ n → t = numT n) ∧ Below w.heap.size w w' := by
  by_cases hn : 0 ≤ n
  · exact (l1Num_c n w hn (by omega)).mono fun e w' ⟨h2, h3⟩ => ⟨_, h2, fun _ => rfl, h3⟩
  · have HN := Lib.hid (fun W => l1Num_c (-n) W (by omega) (by omega))
    have hz : (numT (-n)).size ≤ 18 := numF_size 17 _
    have hz2 : 1 + (numT (-n)).size ≤ 9223372036854775807 := by omega
    have hwn : IntKind.i64.wrap (-n) = -n := by rw [IntKind.wrap_i64]; omega
    have hlt : n < 0 := by omega
    generalize numT (-n) = N at HN hz hz2
    go_enter Tryd.func75, Tryd.ntmps75
    go_wp2_with fail
    refine (HN.out _).mono ?_
    rintro e w1 ⟨rfl, b1⟩
    go_wp2_with fail
    go_ret
    exact ⟨_, rfl, fun h => absurd h (by omega), b1⟩
set_option maxHeartbeats 8000000 in
set_option maxRecDepth 100000 in
theorem l1Read_c (s : ByteArray) (w : World) (hs : s.size ≤ 1048576) : Calls Tryd.prog 37 #[.string s] w (RetNum w s) := by
  go_enter Tryd.func37, Tryd.ntmps37
  go_upto_region 2 with fail
  go_cut [15] from 8 (fun t W => ∃ b : Bool, t = .bool b ∧ w = W ∧ (b = true → 1 < s.size ∧ gd (byteL s) 0 = 45))
  case first =>
    by_cases h1 : 1 < s.size
    · have hby := byteL_at s 0 (by omega)
      have hR := byteL_range s 0 (by omega)
      have hi1 : (1 : Int) < (s.size : Int) := by omega
      have hi0 : 0 < s.size := by omega
      by_cases hq : gd (byteL s) 0 = 45
      · have hq2 : (gd (byteL s) 0 == 45) = true := by simpa using hq
        replace hq := Lib.hid hq
        go_wp2_with fail
        go_meet
        case rel => exact ⟨true, rfl, rfl, fun _ => ⟨h1, hq.out⟩⟩
      · have hq2 : (gd (byteL s) 0 == 45) = false := by simpa using hq
        clear hq
        go_wp2_with fail
        go_meet
        case rel => exact ⟨false, rfl, rfl, fun h => by cases h⟩
    · have hi1 : ¬ (1 : Int) < (s.size : Int) := by omega
      go_wp2_with fail
      go_meet
      case rel => exact ⟨false, rfl, rfl, fun h => by cases h⟩
  obtain ⟨b, rfl, rfl, hb⟩ := hcut
  go_upto_if 15 with fail
  go_cut [4] from 8 (fun t W => ∃ T : ByteArray, t = .string T ∧ w = W ∧ T.size ≤ s.size ∧ Hid (T = s ∨ (T.size < s.size ∧ ∀ k : Nat, k ≤ 999999 → s.data.toList ≠ Lib.decDigits k)))
  case first =>
    cases b
    · go_wp2_with fail
      go_meet
      case rel => exact ⟨s, rfl, rfl, Nat.le_refl _, Lib.hid (.inl rfl)⟩
    · obtain ⟨h1, hq⟩ := hb rfl
      have hno := Lib.hid (show ∀ k : Nat, k ≤ 999999 → s.data.toList ≠ Lib.decDigits k from fun k _ e => by
        have := byteL_dig (s := s) (i := 0) (by omega) e
        omega)
      have hi1 : (1 : Int) ≤ (s.size : Int) := by omega
      clear hq hb
      have hTs : (s.extract 1 s.size).size ≤ s.size ∧ (s.extract 1 s.size).size < s.size := by simp; omega
      replace hTs := Lib.hid hTs
      go_wp2_with fail
      go_meet
      case rel => exact ⟨s.extract 1 s.size, rfl, rfl, hTs.out.1, Lib.hid (.inr ⟨hTs.out.2, hno.out⟩)⟩
  clear hb
  obtain ⟨T, rfl, rfl, hTs, hT⟩ := hcut
  by_cases hlen : inB (T.size : Int) 1 6 = false
  · have hno := Lib.hid (fun (k : Nat) (hk : k ≤ 999999) (e : s.data.toList = Lib.decDigits k) => by
      rcases hT.out with rfl | ⟨h1, h2⟩
      · have h3 := dec_len6 k hk
        rw [← e, ba_len] at h3
        have h4 : inB (T.size : Int) 1 6 = true := inB_iff.2 (by omega)
        rw [hlen] at h4; cases h4
      · exact h2 k hk e)
    have HI := l1In_c (T.size : Int) 1 6 w
    rw [hlen] at HI
    replace HI := Lib.hid HI
    clear hlen
    go_wp2_with (go_at_call 36; refine (HI.out).mono ?_; rintro e w' ⟨rfl, rfl⟩)
    go_ret2
    exact ⟨0, false, rfl, numP_no hno.out, Below.refl _ _⟩
  have hlen' : inB (T.size : Int) 1 6 = true := by simpa using hlen
  have HI := l1In_c (T.size : Int) 1 6 w
  rw [hlen'] at HI
  replace HI := Lib.hid HI
  have hT6 := inB_iff.1 hlen'
  clear hlen hlen'
  go_wp2_with (go_at_call 36; refine (HI.out).mono ?_; rintro e w' ⟨rfl, rfl⟩)
  go_loop [5, 6] (fun vn vi => ∃ (i n : Nat), i ≤ T.size ∧ vn = .int .i64 (n : Int) ∧ vi = .int .i64 (i : Int) ∧ Hid (Lib.decFrom 0 (T.data.toList.take i) = some n) ∧ Hid (n < 10 ^ i)) (fun _ vi => T.size - (intOf vi).toNat)
  case atStart => exact ⟨0, 0, Nat.zero_le _, rfl, rfl, Lib.hid (by simp [Lib.decFrom]), Lib.hid (by simp)⟩
  case round =>
    obtain ⟨i, n, hi, rfl, rfl, hD, hN⟩ := hrel
    by_cases hlt : i < T.size
    · have hby := byteL_at T i hlt
      have hR := byteL_range T i hlt
      have hn5 : n ≤ 99999 := by
        have h1 := hN.out
        have h2 : 10 ^ i ≤ 10 ^ 5 := Nat.pow_le_pow_right (by omega) (by omega)
        omega
      by_cases hdig : 48 ≤ gd (byteL T) i ∧ gd (byteL T) i ≤ 57
      · obtain ⟨g1, g2⟩ := hdig
        have hi' : i < T.data.toList.length := by rw [ba_len]; exact hlt
        have hbv : gd (byteL T) i = (T.data.toList[i].toNat : Int) := by
          rw [gd_get (by rw [byteL_len]; exact hlt)]
          simp only [byteL, List.getElem_map]
        have hD2 := Lib.hid (Lib.decFrom_take T.data.toList i 0 n T.data.toList[i] _ hD.out (List.getElem?_eq_getElem hi') (dig_val _ (by omega)))
        have hq := Lib.hid (show ((n * 10 + (T.data.toList[i].toNat - 48) : Nat) : Int) = 10 * (n : Int) + (gd (byteL T) i - 48) by omega)
        have hN2 := Lib.hid (show n * 10 + (T.data.toList[i].toNat - 48) < 10 ^ (i + 1) by
          have := hN.out
          rw [Nat.pow_succ]; omega)
        have hw8 : IntKind.u8.wrap (gd (byteL T) i - 48) = gd (byteL T) i - 48 := by first | (simp [IntKind.wrap, IntKind.signed, IntKind.bits]; done) | (simp [IntKind.wrap, IntKind.signed, IntKind.bits]; omega)
        clear hbv hD hN
        go_wp2_with fail
        go_round
        case rel => exact ⟨i + 1, _, by omega, by rw [hq.out], by go_num, hD2, hN2⟩
        case measure => simp [intOf]; omega
      · have hno := Lib.hid (show ∀ k : Nat, k ≤ 999999 → s.data.toList ≠ Lib.decDigits k from fun k hk e => by
          rcases hT.out with h | ⟨h1, h2⟩
          · subst h
            exact hdig (byteL_dig hlt e)
          · exact h2 k hk e)
        clear hD hN hT
        by_cases hlo : gd (byteL T) i < 48
        · clear hdig
          go_wp2_with fail
          go_ret2
          exact ⟨0, false, rfl, numP_no hno.out, Below.refl _ _⟩
        · have hhi : 57 < gd (byteL T) i := by omega
          clear hdig
          go_wp2_with fail
          go_ret2
          exact ⟨0, false, rfl, numP_no hno.out, Below.refl _ _⟩
    · obtain rfl : i = T.size := by omega
      have hD2 : Lib.decFrom 0 T.data.toList = some n := by
        have := hD.out
        rwa [List.take_of_length_le (by rw [ba_len]; omega)] at this
      have hn6 : n ≤ 999999 := by
        have h1 := hN.out
        have h2 : 10 ^ T.size ≤ 10 ^ 6 := Nat.pow_le_pow_right (by omega) (by omega)
        omega
      replace hD2 := Lib.hid hD2
      clear hD hN
      by_cases hneg : T.size < s.size
      · have hno := Lib.hid (show ∀ k : Nat, k ≤ 999999 → s.data.toList ≠ Lib.decDigits k from by
          rcases hT.out with h | ⟨h1, h2⟩
          · subst h; omega
          · exact h2)
        have hwn : IntKind.i64.wrap (-(n : Int)) = -(n : Int) := by rw [IntKind.wrap_i64]; omega
        have HN := Lib.hid (fun W => l1NumZ_c (-(n : Int)) W (by omega) (by omega))
        clear hT hD2
        go_wp2_with fail
        refine (HN.out _).mono ?_
        rintro e w1 ⟨t, rfl, -, b1⟩
        cases hq : (t.toList == s.toList)
        · go_wp2_with fail
          go_ret2
          exact ⟨_, _, rfl, numP_no hno.out, b1⟩
        · go_wp2_with fail
          go_ret2
          exact ⟨_, _, rfl, numP_no hno.out, b1⟩
      · obtain rfl : T = s := by
          rcases hT.out with h | ⟨h1, h2⟩
          · exact h
          · omega
        have HN := Lib.hid (fun W => l1NumZ_c (n : Int) W (by omega) (by omega))
        have hk := Lib.hid (show ∀ k : Nat, k ≤ 999999 → T.data.toList = Lib.decDigits k → n = k from fun k _ e => by
          have h1 := hD2.out
          rw [e, decFrom_dec] at h1
          exact (Option.some.inj h1).symm)
        clear hT hD2
        go_wp2_with fail
        refine (HN.out _).mono ?_
        rintro e w1 ⟨t, rfl, ht, b1⟩
        replace ht := Lib.hid (ht (by omega))
        cases hq : (t.toList == T.toList)
        · have hno := Lib.hid (show ∀ k : Nat, k ≤ 999999 → T.data.toList ≠ Lib.decDigits k from fun k hk6 e => by
            have h1 := hk.out k hk6 e
            subst h1
            have h2 : t = T := by
              rw [ht.out]
              apply ba_ext
              rw [numT_digits (by omega) (by omega), e]
              simp
            rw [h2] at hq
            simp at hq)
          clear ht
          go_wp2_with fail
          go_ret2
          exact ⟨_, _, rfl, numP_no hno.out, b1⟩
        · clear ht
          go_wp2_with fail
          go_ret2
          exact ⟨_, _, rfl, fun k hk6 e => by rw [hk.out k hk6 e], b1⟩
end Go.Proofs.YteainpflmofjaaaDoor
