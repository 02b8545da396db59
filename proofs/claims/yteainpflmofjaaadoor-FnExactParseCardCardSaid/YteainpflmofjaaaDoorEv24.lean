/- What Go's library answers where a card is read: a text cut at blanks, a number read. Conditions: Go's variables read as they are laid. -/
import Derived.Test.YteainpflmofjaaaDoorSl24
import Derived.Test.YteainpflmofjaaaDoorShp
import Derived.Shelf.Strconv.AtoiAll
namespace Go.Proofs.YteainpflmofjaaaDoor
open Go.RowKit
/-- an error, or none -/
def ErrV (v : Value) : Prop := v = .nilIface ∨ ∃ te pe, v = .iface te pe
/-- what Go's variables hold -/
structure Env (w : World) : Prop where
  tab : Tab w
  ml : ∃ m : Int, w.cell? ⟨laysM146_ren.g 1, 0, none⟩ = some (.int .i64 m)
  es : ∃ v, w.cell? ⟨laysC172_ren.g 15, 0, none⟩ = some v ∧ ErrV v
  er : ∃ v, w.cell? ⟨laysC172_ren.g 16, 0, none⟩ = some v ∧ ErrV v
theorem Env.mono {w w' : World} (h : Env w) (hb : Below w.heap.size w w') : Env w' := by
  obtain ⟨h1, ⟨m, h2⟩, ⟨v, h3, h4⟩, u, h5, h6⟩ := h
  exact ⟨h1.mono hb, ⟨m, cellOn hb h2⟩, ⟨v, cellOn hb h3, h4⟩, u, cellOn hb h5, h6⟩
theorem str_flat (l : List ByteArray) : l.flatMap StrE.enc = l.map Value.string := by
  induction l with
  | nil => rfl
  | cons x l ih => rw [List.flatMap_cons, ih]; rfl
theorem split_c (s : ByteArray) (w : World) (hE : Env w) (hs : s.size ≤ 1048576) : Calls Tryd.prog 40 #[.string s, .string ⟨#[32]⟩] w (RetParts w s) := by
  obtain ⟨m, hm⟩ := hE.ml
  refine (Any.strings_Split { laysM146 with } laysM146.i9 s ⟨#[32]⟩ m w (by omega) hm (by decide)).mono ?_
  rintro e w' ⟨rfl, rfl⟩
  have hl := Lib.splitB_all ⟨#[32]⟩ (by decide) 0 _ s rfl
  have hd : (Lib.splitB ⟨#[32]⟩ 0 (Lib.countB s ⟨#[32]⟩) s).map (·.data.toList) = spl 32 s.data.toList := by
    rw [Lib.splitB_data]
    exact splitK_spl 32 _ _ (Nat.le_refl _)
  have hc := Lib.countB_le ⟨#[32]⟩ (by decide) s.size s (Nat.le_refl _)
  refine ⟨_, Lib.splitB ⟨#[32]⟩ 0 (Lib.countB s ⟨#[32]⟩) s, rfl, ?_, hd, by omega, below_alloc _ _⟩
  rw [← hl]
  refine ⟨by simp [flat_len StrE.len], .inr ⟨w.heap.size, _, _, rfl, Nat.le_refl _, heap_alloc_new _ _, Nat.le_refl _, by unfold maxLen; omega, ?_, ?_⟩⟩
  · simp
  · rw [str_flat]
    simp only [Nat.mul_one]
    exact List.take_of_length_le (by simp)
/-- strconv.Atoi at whatever text: what it answers, and whether -/
theorem atoi_c (s : ByteArray) (w : World) (hE : Env w) (hs : s.size ≤ 1048576) : Calls Tryd.prog 116 #[.string s] w fun e w' => Below w.heap.size w w' ∧
    ((∃ v : Int, Lib.atoiAll s.data.toList = .ok v ∧ e = .returned (.tuple #[.int .i64 v, .nilIface])) ∨ ((∀ v, Lib.atoiAll s.data.toList ≠ .ok v) ∧ ∃ (n : Int) (te : TypeId) (pe : Value), e = .returned (.tuple #[.int .i64 n, .iface te pe]))) := by
  rcases h : Lib.atoiAll s.data.toList with v | - | -
  · refine (Any.strconv_Atoi_ok laysC172 s (by omega) v h w).mono ?_
    rintro e w' ⟨rfl, hw⟩
    refine ⟨?_, .inl ⟨v, rfl, rfl⟩⟩
    rcases hw with rfl | ⟨t, rfl⟩
    · exact Below.refl _ _
    · exact Lib.bytesWorld_below _ _ _
  · obtain ⟨ev, h1, h2⟩ := hE.es
    refine (Any.strconv_Atoi_syntax laysC172 s (by omega) h ev w h1 h2).mono ?_
    rintro e w' ⟨N, rfl, -, -, hb⟩
    exact ⟨hb, .inr ⟨fun v hv => (by cases hv), _, _, _, rfl⟩⟩
  · obtain ⟨ev, h1, h2⟩ := hE.er
    refine (Any.strconv_Atoi_range laysC172 s (by omega) h ev w h1 h2).mono ?_
    rintro e w' ⟨N, rfl, -, -, hb⟩
    exact ⟨hb, .inr ⟨fun v hv => (by cases hv), _, _, _, rfl⟩⟩
/-- the program's text of whatever number -/
theorem itoaZ_c (n : Int) (w : World) (h0 : -999999 ≤ n) (h1 : n ≤ 999999) (ht : Tab w) : Calls Tryd.prog 73 #[.int .i64 n] w fun e w' => ∃ t : ByteArray, e = .returned (.string t) ∧ (0 ≤ n → t = numT n) ∧ Below w.heap.size w w' := by
  have H := Lib.hid (strconv_Itoa n (by omega) (by omega) w ht)
  clear ht
  go_enter Tryd.func73, Tryd.ntmps73
  go_wp2_with fail
  refine H.out.mono ?_
  rintro e w1 ⟨rfl, k, os, rfl⟩
  have b1 := below_grow w k os
  generalize Go.Sort.grow (w.drewN k) os = w1 at *
  have hq := Lib.hid (show 0 ≤ n → (⟨(Lib.itoa n).toArray⟩ : ByteArray) = numT n from fun h => (numT_itoa n h (by omega)).symm)
  generalize (⟨(Lib.itoa n).toArray⟩ : ByteArray) = t at *
  go_wp2_with fail
  go_ret
  exact ⟨t, rfl, hq.out, b1⟩
/-- a number that was read -/
def RetN (w : World) (s : ByteArray) (e : Ending) (w' : World) : Prop := ∃ n : Int, e = .returned (.int .i64 n) ∧ NumP s n ∧ Below w.heap.size w w'
set_option maxHeartbeats 4000000 in
theorem parseInt_c (s : ByteArray) (w : World) (hE : Env w) (hs : s.size ≤ 1048576) : Calls Tryd.prog 85 #[.string s] w fun e w' => ∃ (n : Int) (b : Bool), e = .returned (.tuple #[.int .i64 n, .bool b]) ∧ (∀ k : Nat, k ≤ 999999 → s.data.toList = Lib.decDigits k → n = (k : Int) ∧ b = true) ∧ Below w.heap.size w w' := by
  have HA := Lib.hid (atoi_c s w hE hs)
  have HE := Lib.hid hE
  clear hE
  go_enter Tryd.func85, Tryd.ntmps85
  go_wp2_with fail
  refine HA.out.mono ?_
  rintro e w1 ⟨b1, ⟨v, hv, rfl⟩ | ⟨hno, n, te, pe, rfl⟩⟩
  · have hk := Lib.hid (show ∀ k : Nat, k ≤ 999999 → s.data.toList = Lib.decDigits k → v = (k : Int) from fun k hk e => by
      rw [e, atoi_dec k (by omega)] at hv
      injection hv with hv
      exact hv.symm)
    clear hv HA
    by_cases hr : inB v (-999999) 999999 = true
    · have hr2 := inB_iff.1 hr
      have HW := Lib.hid (by have H := within_c v (-999999) 999999 w1; rw [hr] at H; exact H)
      have HI := Lib.hid (itoaZ_c v w1 (by omega) (by omega) (HE.out.mono b1).tab)
      clear hr
      go_wp2_with (go_at_call 81; refine (HW.out).mono ?_; rintro e w' ⟨rfl, rfl⟩)
      refine HI.out.mono ?_
      rintro e w2 ⟨t, rfl, ht, b2⟩
      have ht := Lib.hid ht
      cases hq : (t.toList == s.toList)
      · have hno := Lib.hid (show ∀ k : Nat, k ≤ 999999 → s.data.toList ≠ Lib.decDigits k from fun k hk6 e => by
          have h1 := hk.out k hk6 e
          subst h1
          have h2 : t = s := by
            rw [ht.out (by omega)]
            apply ba_ext
            rw [numT_digits (by omega) (by omega), e]
            simp
          rw [h2] at hq
          simp at hq)
        go_wp2_with fail
        go_ret2
        exact ⟨0, false, rfl, fun k hk6 e => absurd e (hno.out k hk6), btrans b1 b2⟩
      · go_wp2_with fail
        go_ret2
        exact ⟨v, true, rfl, fun k hk6 e => ⟨hk.out k hk6 e, rfl⟩, btrans b1 b2⟩
    · have hr' : inB v (-999999) 999999 = false := by simpa using hr
      have HW := Lib.hid (by have H := within_c v (-999999) 999999 w1; rw [hr'] at H; exact H)
      have hno := Lib.hid (show ∀ k : Nat, k ≤ 999999 → s.data.toList ≠ Lib.decDigits k from fun k hk6 e => by
        have h1 := hk.out k hk6 e
        exact hr (inB_iff.2 (by omega)))
      clear hr hr'
      go_wp2_with (go_at_call 81; refine (HW.out).mono ?_; rintro e w' ⟨rfl, rfl⟩)
      go_ret2
      exact ⟨0, false, rfl, fun k hk6 e => absurd e (hno.out k hk6), b1⟩
  · have hno := Lib.hid (show ∀ k : Nat, k ≤ 999999 → s.data.toList ≠ Lib.decDigits k from fun k hk6 e => by
      refine hno k ?_
      rw [e, atoi_dec k (by omega)])
    clear HA
    go_wp2_with fail
    go_ret2
    exact ⟨0, false, rfl, fun k hk6 e => absurd e (hno.out k hk6), b1⟩
set_option maxHeartbeats 1000000 in
theorem number_c (s : ByteArray) (w : World) (hE : Env w) (hs : s.size ≤ 1048576) : Calls Tryd.prog 41 #[.string s] w (RetN w s) := by
  have HP := Lib.hid (parseInt_c s w hE hs)
  clear hE
  go_enter Tryd.func41, Tryd.ntmps41
  go_wp2_with fail
  refine HP.out.mono ?_
  rintro e w1 ⟨n, b, rfl, h1, b1⟩
  replace h1 := Lib.hid h1
  cases b
  · go_wp2_with fail
    go_ret
    exact ⟨_, rfl, fun k hk e => (by have := (h1.out k hk e).2; cases this), b1⟩
  · go_wp2_with fail
    go_ret
    exact ⟨n, rfl, fun k hk e => (h1.out k hk e).1, b1⟩
end Go.Proofs.YteainpflmofjaaaDoor
