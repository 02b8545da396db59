/- Headings drawn from bytes: the arguments of the laws. No condition but sizes. -/
import Derived.Test.YtbkkaibjenofiaaDh23
import Derived.Test.YtbkkaibjenofiaaBr
import Derived.Outline
import Derived.OwnWalk
namespace Go.Proofs.Ytbkkaibjenofiaa
open Go.RowKit
/-- headings that read as l, none of them large -/
structure HD (w : World) (v : Value) (l : List Hdg) : Prop where
  sl : Sl w Hdg.enc 4 v l
  deep : Hdg.Deep w l
  fits : ∀ i, i < l.length → (gd l i).Fits
  sub : ∀ i, i < l.length → (gd l i).sub.length ≤ 1048577
  len : l.length ≤ 17
theorem HD.mono {w w' : World} {v : Value} {l : List Hdg} (h : HD w v l) (hb : Below w.heap.size w w') : HD w' v l := ⟨h.sl.mono hb, h.deep.mono hb, h.fits, h.sub, h.len⟩
theorem HSt.hd {w0 w : World} {B m N : Nat} {v : Value} {l : List Hdg} (h : HSt w0 w B v l m N 5) (hN : N ≤ 17) : HD w v l :=
  ⟨HSt.sl h, HSt.deep h, HSt.fits h, fun i hi => Nat.le_trans (h.2 i hi).2.2.1 (by omega), Nat.le_trans h.len hN⟩
theorem HSt.sls {w0 w : World} {B m N c : Nat} {v : Value} {l : List Hdg} (h : HSt w0 w B v l m N c) : ∀ w', w.grownBy w' (some B) → Sl w' Hdg.enc 4 v l := fun w' hg =>
  (own_keep h.own hg (fun b hb e => by have h1 := (h.own.bounds b hb).1; have h2 := h.blt; injection e with e; omega)).sl Hdg.len
theorem HSt.drawn {w w' : World} {o : Obj} {B m N : Nat} {v : Value} {l : List Hdg} (hB : B = w.heap.size) (h : HSt (w.alloc o) w' B v l m N 5) (hN : N ≤ 17) : HD w' v l ∧ Below w.heap.size w w' := by
  subst hB
  exact ⟨HSt.hd h hN, below_of_grown h.gr⟩
set_option maxHeartbeats 4000000 in
set_option maxRecDepth 100000 in
theorem headingId_c (w : World) (B m : Nat) (v : Value) (l : List Hdg) (h : Cur w B m) (hm : m ≤ 100000000) (hl : l.length ≤ 1000000) (hS : ∀ w', w.grownBy w' (some B) → Sl w' Hdg.enc 4 v l) : Calls Try.prog 51 #[.pointer (some ⟨B, 0, none⟩), v] w (CurI w B (m + 4) (fun _ => True)) := by
  obtain ⟨a, cap, b, off, rfl, hlc, hcm, -⟩ := hS w (World.grownBy.refl _ _)
  unfold maxLen at hcm
  have hS := Lib.hid hS
  have h := Lib.hid h
  by_cases h0 : l.length = 0
  · have hl0 : (l.length : Int) = 0 := by omega
    go_enter Try.func51, Try.ntmps51
    rw [h0]
    have h0 := Lib.hid h0
    clear hl0
    go_wp2_with fail
    refine (amongL_c [.int .i64 0, .int .i64 1, .int .i64 50] (fun _ => True) h.out (by omega) (allI rfl) (by simp) (by simp) (by simp) (by simp)).mono ?_
    rintro e w2 ⟨x, -, rfl, C2, g2⟩
    replace C2 := Lib.hid C2
    replace g2 := Lib.hid g2
    go_wp2_with fail
    go_ret
    exact ⟨x, trivial, rfl, C2.out.le (by omega), g2.out⟩
  · have hl0 : ((l.length : Int) == 0) = false := by simp; intro e; apply h0; simp [e]
    have hl1 : ¬ (l.length : Int) = 0 := by omega
    go_enter Try.func51, Try.ntmps51
    go_wp2_with fail
    refine (one_c _ B m 10 h.out (by omega) (by omega)).mono ?_
    rintro e w1 ⟨b1, rfl, C1, g1⟩
    replace C1 := Lib.hid C1
    replace g1 := Lib.hid g1
    cases b1
    · go_wp2_with fail
      refine (pick_c _ B (m + 2) _ C1.out (by omega) (by omega)).mono ?_
      rintro e w2 ⟨p, hp, rfl, C2, g2⟩
      obtain ⟨k, rfl⟩ : ∃ k : Nat, p = (k : Int) := ⟨p.toNat, by have := hp.1; omega⟩
      have hk : k < l.length := by
        rcases Nat.lt_or_ge 1 l.length with h1 | h1
        · have := hp.2.1 (by omega); omega
        · have := hp.2.2 (by omega); omega
      have G2 := Lib.hid (only_trans g1.out g2)
      have hS2 := hS.out w2 G2.out
      obtain ⟨a', cap', b', off', hv, hlc', hm', hc⟩ := hS2
      injection hv with e1 e2 e3
      subst e1 e3
      clear e2 hp
      obtain ⟨rfl, hbw, c0, -, -, -⟩ := Hdg.at hc k hk
      replace C2 := Lib.hid C2
      have hkl : (k : Int) < (l.length : Int) := by omega
      generalize (gd l k).id = z at c0
      clear hc g2
      go_wp2_with fail
      go_ret
      exact ⟨z, trivial, rfl, C2.out.le (by omega), G2.out⟩
    · go_wp2_with fail
      refine (amongL_c [.int .i64 0, .int .i64 1, .int .i64 50] (fun _ => True) C1.out (by omega) (allI rfl) (by simp) (by simp) (by simp) (by simp)).mono ?_
      rintro e w2 ⟨x, -, rfl, C2, g2⟩
      replace C2 := Lib.hid C2
      replace g2 := Lib.hid g2
      go_wp2_with fail
      go_ret
      exact ⟨x, trivial, rfl, C2.out.le (by omega), only_trans g1.out g2.out⟩
def DrawH1 (w : World) (e : Ending) (w' : World) : Prop := ∃ (v : Value) (l : List Hdg) (s : Int), e = .returned (.tuple #[v, .int .i64 s]) ∧ HD w' v l ∧ Below w.heap.size w w'
def DrawH2 (w : World) (e : Ending) (w' : World) : Prop := ∃ (v : Value) (l : List Hdg) (s n : Int), e = .returned (.tuple #[v, .int .i64 s, .int .i64 n]) ∧ HD w' v l ∧ Below w.heap.size w w'
def DrawHS (w : World) (e : Ending) (w' : World) : Prop := ∃ (v : Value) (l : List Hdg) (s : ByteArray), e = .returned (.tuple #[v, .string s]) ∧ HD w' v l ∧ s.size ≤ 100000 ∧ Below w.heap.size w w'
def DrawHSI (w : World) (e : Ending) (w' : World) : Prop := ∃ (v : Value) (l : List Hdg) (s : ByteArray) (n : Int), e = .returned (.tuple #[v, .string s, .int .i64 n]) ∧ HD w' v l ∧ s.size ≤ 100000 ∧ Below w.heap.size w w'
set_option maxHeartbeats 4000000 in
set_option maxRecDepth 100000 in
theorem drawPathOf_c (v : Value) (w : World) (h : Bytes w v) : Calls Try.prog 7 #[v] w (DrawH1 w) := by
  have C0 := Lib.hid (Bytes.cur (t := 69) h)
  obtain ⟨a, n0, cap, b, off, rfl, -, -, -⟩ := h
  go_enter Try.func7, Try.ntmps7
  go_wp2_with fail
  refine (headings_c _ _ 0 C0.out (by omega)).mono ?_
  rintro e w1 ⟨lv, l, rfl, S1⟩
  replace S1 := Lib.hid S1
  have hl := S1.out.len
  clear C0
  go_wp2_with fail
  refine (headingId_c _ _ 500 lv l S1.out.cur (by omega) (by omega) (HSt.sls S1.out)).mono ?_
  rintro e w2 ⟨n2, -, rfl, C2, g2⟩
  have S2 := Lib.hid (S1.out.turn g2 C2)
  clear S1 C2 g2
  go_wp2_with fail
  go_ret2
  exact ⟨lv, l, n2, rfl, HSt.drawn rfl S2.out (by omega)⟩
set_option maxHeartbeats 1000000 in
theorem drawDropHeading_c (v : Value) (w : World) (h : Bytes w v) : Calls Try.prog 33 #[v] w (DrawH1 w) := by
  have H := Lib.hid (drawPathOf_c v w h)
  go_enter Try.func33, Try.ntmps33
  go_wp2_with fail
  refine H.out.mono ?_
  rintro e w1 ⟨lv, l, s, rfl, h1, h2⟩
  replace h1 := Lib.hid h1
  go_wp2_with fail
  go_ret2
  exact ⟨lv, l, s, rfl, h1.out, h2⟩
set_option maxHeartbeats 4000000 in
set_option maxRecDepth 100000 in
theorem drawDirectlyUnder_c (v : Value) (w : World) (h : Bytes w v) : Calls Try.prog 13 #[v] w (DrawH1 w) := by
  have C0 := Lib.hid (Bytes.cur (t := 69) h)
  obtain ⟨a, n0, cap, b, off, rfl, -, -, -⟩ := h
  go_enter Try.func13, Try.ntmps13
  go_wp2_with fail
  refine (headings_c _ _ 0 C0.out (by omega)).mono ?_
  rintro e w1 ⟨lv, l, rfl, S1⟩
  replace S1 := Lib.hid S1
  have hl := S1.out.len
  clear C0
  go_wp2_with fail
  refine (one_c _ _ 500 5 S1.out.cur (by omega) (by omega)).mono ?_
  rintro e w2 ⟨t2, rfl, C2, g2⟩
  have S2 := Lib.hid (S1.out.turn g2 C2)
  clear S1 C2 g2
  cases t2
  · go_wp2_with fail
    refine (headingId_c _ _ 502 lv l S2.out.cur (by omega) (by omega) (HSt.sls S2.out)).mono ?_
    rintro e w3 ⟨n3, -, rfl, C3, g3⟩
    have S3 := Lib.hid (S2.out.turn g3 C3)
    clear S2 C3 g3
    go_wp2_with fail
    go_ret2
    exact ⟨lv, l, n3, rfl, HSt.drawn rfl S3.out (by omega)⟩
  · go_wp2_with fail
    go_ret2
    exact ⟨lv, l, 0, rfl, HSt.drawn rfl S2.out (by omega)⟩
set_option maxHeartbeats 4000000 in
set_option maxRecDepth 100000 in
theorem drawLowestAbove_c (v : Value) (w : World) (h : Bytes w v) : Calls Try.prog 39 #[v] w (DrawH2 w) := by
  have C0 := Lib.hid (Bytes.cur (t := 69) h)
  obtain ⟨a, n0, cap, b, off, rfl, -, -, -⟩ := h
  go_enter Try.func39, Try.ntmps39
  go_wp2_with fail
  refine (headings_c _ _ 0 C0.out (by omega)).mono ?_
  rintro e w1 ⟨lv, l, rfl, S1⟩
  replace S1 := Lib.hid S1
  have hl := S1.out.len
  clear C0
  go_wp2_with fail
  refine (headingId_c _ _ 500 lv l S1.out.cur (by omega) (by omega) (HSt.sls S1.out)).mono ?_
  rintro e w2 ⟨n2, -, rfl, C2, g2⟩
  have S2 := Lib.hid (S1.out.turn g2 C2)
  clear S1 C2 g2
  go_wp2_with fail
  refine (headingId_c _ _ 504 lv l S2.out.cur (by omega) (by omega) (HSt.sls S2.out)).mono ?_
  rintro e w3 ⟨n3, -, rfl, C3, g3⟩
  have S3 := Lib.hid (S2.out.turn g3 C3)
  clear S2 C3 g3
  go_wp2_with fail
  go_ret3
  exact ⟨lv, l, n2, n3, rfl, HSt.drawn rfl S3.out (by omega)⟩
set_option maxHeartbeats 4000000 in
set_option maxRecDepth 100000 in
theorem drawMoveHeading_c (v : Value) (w : World) (h : Bytes w v) : Calls Try.prog 36 #[v] w (DrawH2 w) := by
  have C0 := Lib.hid (Bytes.cur (t := 69) h)
  obtain ⟨a, n0, cap, b, off, rfl, -, -, -⟩ := h
  go_enter Try.func36, Try.ntmps36
  go_wp2_with fail
  refine (headings_c _ _ 0 C0.out (by omega)).mono ?_
  rintro e w1 ⟨lv, l, rfl, S1⟩
  replace S1 := Lib.hid S1
  have hl := S1.out.len
  clear C0
  go_wp2_with fail
  refine (headingId_c _ _ 500 lv l S1.out.cur (by omega) (by omega) (HSt.sls S1.out)).mono ?_
  rintro e w2 ⟨n2, -, rfl, C2, g2⟩
  have S2 := Lib.hid (S1.out.turn g2 C2)
  clear S1 C2 g2
  go_wp2_with fail
  refine (one_c _ _ 504 4 S2.out.cur (by omega) (by omega)).mono ?_
  rintro e w3 ⟨t3, rfl, C3, g3⟩
  have S3 := Lib.hid (S2.out.turn g3 C3)
  clear S2 C3 g3
  cases t3
  · go_wp2_with fail
    refine (headingId_c _ _ 506 lv l S3.out.cur (by omega) (by omega) (HSt.sls S3.out)).mono ?_
    rintro e w4 ⟨n4, -, rfl, C4, g4⟩
    have S4 := Lib.hid (S3.out.turn g4 C4)
    clear S3 C4 g4
    go_wp2_with fail
    go_ret3
    exact ⟨lv, l, n4, n2, rfl, HSt.drawn rfl S4.out (by omega)⟩
  · go_wp2_with fail
    refine (headingId_c _ _ 506 lv l S3.out.cur (by omega) (by omega) (HSt.sls S3.out)).mono ?_
    rintro e w4 ⟨n4, -, rfl, C4, g4⟩
    have S4 := Lib.hid (S3.out.turn g4 C4)
    clear S3 C4 g4
    go_wp2_with fail
    go_ret3
    exact ⟨lv, l, n4, 0, rfl, HSt.drawn rfl S4.out (by omega)⟩
set_option maxHeartbeats 4000000 in
set_option maxRecDepth 100000 in
theorem drawAddHeading_c (v : Value) (w : World) (h : Bytes w v) : Calls Try.prog 20 #[v] w (DrawHSI w) := by
  have C0 := Lib.hid (Bytes.cur (t := 69) h)
  obtain ⟨a, n0, cap, b, off, rfl, -, -, -⟩ := h
  go_enter Try.func20, Try.ntmps20
  go_wp2_with fail
  refine (headings_c _ _ 0 C0.out (by omega)).mono ?_
  rintro e w1 ⟨lv, l, rfl, S1⟩
  replace S1 := Lib.hid S1
  have hl := S1.out.len
  clear C0
  go_wp2_with fail
  refine (headingId_c _ _ 500 lv l S1.out.cur (by omega) (by omega) (HSt.sls S1.out)).mono ?_
  rintro e w2 ⟨n2, -, rfl, C2, g2⟩
  have S2 := Lib.hid (S1.out.turn g2 C2)
  clear S1 C2 g2
  go_wp2_with fail
  refine (one_c _ _ 504 3 S2.out.cur (by omega) (by omega)).mono ?_
  rintro e w3 ⟨t3, rfl, C3, g3⟩
  have S3 := Lib.hid (S2.out.turn g3 C3)
  clear S2 C3 g3
  cases t3
  · go_wp2_with fail
    refine (ofL_c [.string ⟨#[97, 108, 112, 115]⟩, .string ⟨#[114, 105, 118, 101, 114, 115]⟩, .string ⟨#[108, 97, 107, 101, 115]⟩, .string ⟨#[112, 97, 115, 115, 101, 115]⟩, .string ⟨#[]⟩, .string ⟨#[76, 97, 107, 101, 115]⟩] (fun s => s.size ≤ 10) S3.out.cur (by omega) (allS (by rfl)) (by simp) (by simp) (by simp) (by simp)).mono ?_
    rintro e w4 ⟨z, hz, rfl, C4, g4⟩
    have S4 := Lib.hid (S3.out.turn g4 C4)
    clear S3 C4 g4
    go_wp2_with fail
    go_ret3
    exact ⟨lv, l, z, n2, rfl, (HSt.drawn rfl S4.out (by omega)).1, by omega, (HSt.drawn rfl S4.out (by omega)).2⟩
  · go_wp2_with fail
    refine (ofL_c [.string ⟨#[97, 108, 112, 115]⟩, .string ⟨#[114, 105, 118, 101, 114, 115]⟩, .string ⟨#[108, 97, 107, 101, 115]⟩, .string ⟨#[112, 97, 115, 115, 101, 115]⟩, .string ⟨#[]⟩, .string ⟨#[76, 97, 107, 101, 115]⟩] (fun s => s.size ≤ 10) S3.out.cur (by omega) (allS (by rfl)) (by simp) (by simp) (by simp) (by simp)).mono ?_
    rintro e w4 ⟨z, hz, rfl, C4, g4⟩
    have S4 := Lib.hid (S3.out.turn g4 C4)
    clear S3 C4 g4
    go_wp2_with fail
    go_ret3
    exact ⟨lv, l, z, 0, rfl, (HSt.drawn rfl S4.out (by omega)).1, by omega, (HSt.drawn rfl S4.out (by omega)).2⟩
end Go.Proofs.Ytbkkaibjenofiaa
