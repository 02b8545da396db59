/- Words: the two tests, by the program and by the reference; the order of strings. No condition. -/
import Derived.Test.YteainpflmofjaaaGreatDoorBnd
import Derived.Test.YteainpflmofjaaaGreatDoorFind
import Derived.Lib.ConvBytes
namespace Go.Proofs.YteainpflmofjaaaGreatDoor
open Go.RowKit
theorem leq_not : ∀ (a b : List UInt8), (Op.bytesLess a b || a == b) = !Op.bytesLess b a
  | [], [] => rfl
  | [], _ :: _ => rfl
  | _ :: _, [] => rfl
  | x :: a, y :: b => by
    have ih := leq_not a b
    simp only [Op.bytesLess]
    by_cases h : x = y
    · subst h
      have : decide (x < x) = false := by simp
      simp only [this, beq_self_eq_true, Bool.true_and, Bool.false_or]
      rw [← ih]
      simp
    · have h1 : (x == y) = false := by simpa using h
      have h2 : (y == x) = false := by simpa using (Ne.symm h)
      have h3 : (x :: a == y :: b) = false := by simp [h]
      rw [h1, h2, h3]
      have hn : x.toNat ≠ y.toNat := fun e => h (UInt8.toNat_inj.1 e)
      by_cases h4 : x < y
      · have : ¬ y < x := by rw [UInt8.lt_iff_toNat_lt] at *; omega
        simp [h4, this]
      · have : y < x := by rw [UInt8.lt_iff_toNat_lt] at *; omega
        simp [h4, this]
theorem less_irrefl : ∀ (a : List UInt8), Op.bytesLess a a = false
  | [] => rfl
  | x :: a => by simp [Op.bytesLess, less_irrefl a]
theorem less_trans : ∀ {a b c : List UInt8}, Op.bytesLess a b = true → Op.bytesLess b c = true → Op.bytesLess a c = true
  | [], _ :: _, [], _, h => by simp [Op.bytesLess] at h
  | [], _ :: _, _ :: _, _, _ => rfl
  | _ :: _, [], _, h, _ => by simp [Op.bytesLess] at h
  | _ :: _, _ :: _, [], _, h => by simp [Op.bytesLess] at h
  | [], [], _, h, _ => by simp [Op.bytesLess] at h
  | x :: a, y :: b, z :: c, h, h' => by
    simp only [Op.bytesLess, Bool.or_eq_true, decide_eq_true_eq, Bool.and_eq_true, beq_iff_eq] at *
    rcases h with h | ⟨rfl, h⟩ <;> rcases h' with h' | ⟨rfl, h'⟩
    · left; rw [UInt8.lt_iff_toNat_lt] at *; omega
    · exact .inl h
    · exact .inl h'
    · exact .inr ⟨rfl, less_trans h h'⟩
def byteL (s : ByteArray) : List Int := s.data.toList.map (fun b => (b.toNat : Int))
theorem byteL_len (s : ByteArray) : (byteL s).length = s.size := by rw [byteL, List.length_map, Array.length_toList]; rfl
theorem byteL_at (s : ByteArray) (k : Nat) (h : k < s.size) : ((s[k]'h).toNat : Int) = gd (byteL s) k := by
  rw [gd_get (by rw [byteL_len]; exact h)]
  simp [byteL]
  rfl
theorem byteL_getD (s : ByteArray) (k : Nat) (h : k < s.size) : ((s.data.toList.getD k 0).toNat : Int) = gd (byteL s) k := by
  rw [gd_get (by rw [byteL_len]; exact h)]
  simp only [byteL, List.getElem_map, List.getD]
  rw [List.getElem?_eq_getElem (by simpa using h)]
  rfl
theorem byteL_range (s : ByteArray) (k : Nat) (h : k < s.size) : 0 ≤ gd (byteL s) k ∧ gd (byteL s) k ≤ 255 := by
  rw [← byteL_at s k h]
  have := (s[k]'h).toNat_lt
  omega
def letter (x : Int) : Bool := decide (97 ≤ x) && decide (x ≤ 122)
theorem letter_iff {x : Int} : letter x = true ↔ 97 ≤ x ∧ x ≤ 122 := by simp [letter]
def wordB (s : ByteArray) : Bool := inB s.size 1 10 && allTo (fun i => letter (gd (byteL s) i)) s.size
set_option maxHeartbeats 1000000 in
theorem l2Word_c (s : ByteArray) (w : World) (hs : s.size ≤ maxLen) : Calls Tryz.prog 72 #[.string s] w fun e w' => e = .returned (.bool (wordB s)) ∧ w = w' := by
  unfold maxLen at hs
  go_enter Tryz.func72, Tryz.ntmps72
  go_wp2_with fail
  go_loop [3] (fun i => ∃ k : Nat, k ≤ s.size ∧ i = .int .i64 k ∧ Hid (∀ i, i < k → letter (gd (byteL s) i) = true)) (fun i => s.size - (intOf i).toNat)
  case atStart => exact ⟨0, Nat.zero_le _, rfl, fun i hi => by omega⟩
  case round =>
    obtain ⟨k, hk, rfl, hall⟩ := hrel
    by_cases hlt : k < s.size
    · have hby := byteL_at s k hlt
      have hR := byteL_range s k hlt
      go_wp2_with fail
      all_goals first
        | (go_ret
           refine ⟨ret_bool ?_, rfl⟩
           have h1 : letter (gd (byteL s) k) = false := by
             cases h : letter (gd (byteL s) k)
             · rfl
             · have := letter_iff.1 h
               omega
           rw [wordB, allTo_false k hlt h1, Bool.and_false])
        | (go_round
           case rel => exact ⟨k + 1, by omega, by go_num, upto_succ hall.out (letter_iff.2 (by omega))⟩
           case measure => simp [intOf]; omega)
    · obtain rfl : k = s.size := by omega
      have he := Lib.hid (show wordB s = inB s.size 1 10 by rw [wordB, allTo_true hall.out, Bool.and_true])
      go_wp2_with (go_at_call 59; refine (l1In_c _ _ _ _).mono ?_; rintro e w' ⟨rfl, rfl⟩)
      go_ret
      exact ⟨ret_bool he.out.symm, rfl⟩
set_option maxHeartbeats 400000 in
theorem isWord1_c (x : Int) (w : World) (h0 : 0 ≤ x) (h1 : x ≤ 255) : Calls Tryz.prog 82 #[.int .u8 x] w fun e w' => e = .returned (.bool (!letter x)) ∧ w = w' := by
  go_enter Tryz.func82, Tryz.ntmps82
  go_wp2
  all_goals go_ret
  all_goals refine ⟨ret_bool ?_, rfl⟩
  all_goals
    cases h : letter x
    · have hn : ¬ (97 ≤ x ∧ x ≤ 122) := fun h2 => by rw [letter_iff.2 h2] at h; cases h
      simp
      try omega
    · have hp := letter_iff.1 h
      simp
      try omega
theorem below_bytes (w : World) (e : TypeId) (s : ByteArray) : Below w.heap.size w (Lib.bytesWorld w e s) :=
  ⟨rfl, rfl, rfl, by rw [Lib.bytesWorld_size]; omega, fun k hk => Lib.bytesWorld_at_old w e s k hk⟩
set_option maxHeartbeats 1000000 in
set_option maxRecDepth 100000 in
theorem isWord_c (s : ByteArray) (w : World) (hs : s.size ≤ maxLen) : Calls Tryz.prog 47 #[.string s] w fun e w' => e = .returned (.bool (wordB s)) ∧ Below w.heap.size w w' := by
  by_cases hr : 1 ≤ s.size ∧ s.size ≤ 10
  · have hcells : Cells (Lib.bytesWorld w 5 s) ByteE.enc 1 (some ⟨w.heap.size, 0, none⟩) w.heap.size 0 (byteL s) := fun i hi => by
      rw [byteL_len] at hi
      refine ⟨rfl, by rw [Lib.bytesWorld_size]; omega, fun j v hv => ?_⟩
      obtain ⟨rfl, rfl⟩ : j = 0 ∧ v = .int .u8 (gd (byteL s) i) := by
        cases j with
        | zero => exact ⟨rfl, by simpa [ByteE.enc] using hv.symm⟩
        | succ j => simp [ByteE.enc] at hv
      have := Lib.bytesWorld_cell w 5 s i hi
      rw [byteL_getD s i hi] at this
      simpa using this
    have H := fun cap => containsFuncByte_c (some ⟨w.heap.size, 0, none⟩) cap w.heap.size 0 (byteL s) (Lib.bytesWorld w 5 s) 82 #[] (fun i => !letter (gd (byteL s) i)) (by rw [byteL_len]; exact hs) hcells (fun _ _ => by kernel_rfl) (fun i W hi hB => by
      rw [byteL_len] at hi
      obtain ⟨h0, h1⟩ := byteL_range s i hi
      refine (isWord1_c (gd (byteL s) i) W h0 h1).mono ?_
      rintro e w' ⟨rfl, rfl⟩
      exact ⟨rfl, Below.refl _ _⟩)
    rw [byteL_len] at H
    replace H := Lib.hid H
    have hconv := Lib.run_convert_string_bytes (P := Tryz.prog) w 9 22 5 s Tryz.underlying9 Tryz.underlying22 Tryz.underlying5
    have hi : inB s.size 1 10 = true := inB_iff.2 (by omega)
    have hB := below_bytes w 5 s
    have ho : Hid (wordB s = !(findTo (fun i => !letter (gd (byteL s) i)) s.size).isSome) := by
      show _ = _
      rw [wordB, hi, Bool.true_and]
      cases hf : findTo (fun i => !letter (gd (byteL s) i)) s.size with
      | none => exact allTo_true fun i hi => by simpa using findTo_none_spec hf i hi
      | some k =>
        obtain ⟨h1, h2, _⟩ := findTo_spec hf
        exact allTo_false k h1 (by simpa using h2)
    clear hcells
    go_enter Tryz.func47, Tryz.ntmps47
    go_wp2_with (go_at_call 81; refine (H.out _).mono ?_; rintro e w1 ⟨rfl, hb⟩)
    go_ret
    exact ⟨ret_bool (by rw [ho.out]; simp), btrans hB hb⟩
  · have hi : inB s.size 1 10 = false := by
      cases h : inB s.size 1 10
      · rfl
      · have := inB_iff.1 h; omega
    have ho : Hid (wordB s = false) := (show wordB s = false by rw [wordB, hi, Bool.false_and])
    unfold maxLen at hs
    go_enter Tryz.func47, Tryz.ntmps47
    go_wp2_with fail
    all_goals first
      | (exfalso; omega)
      | (go_ret
         exact ⟨ret_bool ho.out.symm, Below.refl _ _⟩)
end Go.Proofs.YteainpflmofjaaaGreatDoor
