/- Cards drawn from bytes: the arguments of the laws. No condition but sizes. What the composite laws ask of results: are two the same, is one among them. No condition but sizes. What the laws of cards ask of results: are two the same, is a text among some. No condition but sizes. Cards between years: by the program and by the reference. No condition but sizes. -/
import Derived.Test.YteainpflmofjaaaGreatDc24
import Derived.Test.YteainpflmofjaaaGreatZa1
import Derived.Outline
import Derived.OwnWalk
import Derived.Test.YteainpflmofjaaaGreatMark
import Derived.Test.YteainpflmofjaaaGreatRi
import Derived.Test.YteainpflmofjaaaGreatCo24
import Derived.Test.YteainpflmofjaaaGreatBp24
namespace Go.Proofs.YteainpflmofjaaaGreat
open Go.RowKit
/-- cards that read as l, none of them large -/
structure KD (w : World) (v : Value) (l : List Crd) : Prop where
  sl : Sl w Crd.enc 3 v l
  deep : Crd.Deep w l
  fits : ∀ i, i < l.length → StrE.Fits (gd l i).sub
  sub : ∀ i, i < l.length → (gd l i).sub.length ≤ 16
  len : l.length ≤ 13
theorem KD.mono {w w' : World} {v : Value} {l : List Crd} (h : KD w v l) (hb : Below w.heap.size w w') : KD w' v l := ⟨h.sl.mono hb, h.deep.mono hb, h.fits, h.sub, h.len⟩
theorem KD.subs {w : World} {v : Value} {l : List Crd} (h : KD w v l) : ∀ i, i < l.length → (gd l i).sub.length ≤ 1048576 := fun i hi => Nat.le_trans (h.sub i hi) (by omega)
theorem KSt.kd {w0 w : World} {B m N : Nat} {v : Value} {l : List Crd} (h : KSt w0 w B v l m N) (hN : N ≤ 13) : KD w v l :=
  ⟨KSt.sl h, KSt.deep h, KSt.fits h, fun i hi => (h.2 i hi).2.2.1, Nat.le_trans h.len hN⟩
theorem KSt.sls {w0 w : World} {B m N : Nat} {v : Value} {l : List Crd} (h : KSt w0 w B v l m N) : ∀ w', w.grownBy w' (some B) → Sl w' Crd.enc 3 v l := fun w' hg =>
  (own_keep h.own hg (fun b hb e => by have h1 := (h.own.bounds b hb).1; have h2 := h.blt; injection e with e; omega)).sl Crd.len
theorem KSt.drawn {w w' : World} {o : Obj} {B m N : Nat} {v : Value} {l : List Crd} (hB : B = w.heap.size) (h : KSt (w.alloc o) w' B v l m N) (hN : N ≤ 13) : KD w' v l ∧ Below w.heap.size w w' := by
  subst hB
  exact ⟨KSt.kd h hN, below_of_grown h.gr⟩
set_option maxHeartbeats 4000000 in
set_option maxRecDepth 100000 in
theorem cardId_c (w : World) (B m : Nat) (v : Value) (l : List Crd) (h : Cur w B m) (hm : m ≤ 100000000) (hl : l.length ≤ 1000000) (hS : ∀ w', w.grownBy w' (some B) → Sl w' Crd.enc 3 v l) : Calls Tryz.prog 28 #[.pointer (some ⟨B, 0, none⟩), v] w (CurI w B (m + 4) (fun _ => True)) := by
  obtain ⟨a, cap, b, off, rfl, hlc, hcm, -⟩ := hS w (World.grownBy.refl _ _)
  unfold maxLen at hcm
  have hS := Lib.hid hS
  have h := Lib.hid h
  by_cases h0 : l.length = 0
  · have hl0 : (l.length : Int) = 0 := by omega
    go_enter Tryz.func28, Tryz.ntmps28
    rw [h0]
    have h0 := Lib.hid h0
    clear hl0
    go_wp2_with fail
    refine (amongL_c [.int .i64 0, .int .i64 1, .int .i64 500] (fun _ => True) h.out (by omega) (allI rfl) (by simp) (by simp) (by simp) (by simp)).mono ?_
    rintro e w2 ⟨x, -, rfl, C2, g2⟩
    replace C2 := Lib.hid C2
    replace g2 := Lib.hid g2
    go_wp2_with fail
    go_ret
    exact ⟨x, trivial, rfl, C2.out.le (by omega), g2.out⟩
  · have hl0 : ((l.length : Int) == 0) = false := by simp; intro e; apply h0; simp [e]
    have hl1 : ¬ (l.length : Int) = 0 := by omega
    go_enter Tryz.func28, Tryz.ntmps28
    go_wp2_with fail
    refine (one_c _ B m 10 h.out (by omega) (by omega)).mono ?_
    rintro e w1 ⟨b1, rfl, C1, g1⟩
    replace C1 := Lib.hid C1
    replace g1 := Lib.hid g1
    cases b1
    · go_wp2_with fail
      refine (pick_c _ B (m + 2) _ C1.out (by omega) (by omega)).mono ?_
      rintro e w2 ⟨p, hp, rfl, C2, g2⟩
      obtain ⟨k, rfl⟩ : ∃ k : Nat, p = (k : Int) := ⟨p.toNat, by have := hp.1; omega⟩
      have hk : k < l.length := by
        rcases Nat.lt_or_ge 1 l.length with h1 | h1
        · have := hp.2.1 (by omega); omega
        · have := hp.2.2 (by omega); omega
      have G2 := Lib.hid (only_trans g1.out g2)
      have hS2 := hS.out w2 G2.out
      obtain ⟨a', cap', b', off', hv, hlc', hm', hc⟩ := hS2
      injection hv with e1 e2 e3
      subst e1 e3
      clear e2 hp
      obtain ⟨rfl, hbw, c0, -, -⟩ := Crd.at hc k hk
      replace C2 := Lib.hid C2
      have hkl : (k : Int) < (l.length : Int) := by omega
      generalize (gd l k).id = z at c0
      clear hc g2
      go_wp2_with fail
      go_ret
      exact ⟨z, trivial, rfl, C2.out.le (by omega), G2.out⟩
    · go_wp2_with fail
      refine (amongL_c [.int .i64 0, .int .i64 1, .int .i64 500] (fun _ => True) C1.out (by omega) (allI rfl) (by simp) (by simp) (by simp) (by simp)).mono ?_
      rintro e w2 ⟨x, -, rfl, C2, g2⟩
      replace C2 := Lib.hid C2
      replace g2 := Lib.hid g2
      go_wp2_with fail
      go_ret
      exact ⟨x, trivial, rfl, C2.out.le (by omega), only_trans g1.out g2.out⟩
def DrawK1 (w : World) (e : Ending) (w' : World) : Prop := ∃ (v : Value) (l : List Crd) (a : Int), e = .returned (.tuple #[v, .int .i64 a]) ∧ KD w' v l ∧ Below w.heap.size w w'
def DrawK2 (w : World) (e : Ending) (w' : World) : Prop := ∃ (v : Value) (l : List Crd) (a b : Int), e = .returned (.tuple #[v, .int .i64 a, .int .i64 b]) ∧ KD w' v l ∧ Below w.heap.size w w'
def DrawKS (w : World) (e : Ending) (w' : World) : Prop := ∃ (v : Value) (l : List Crd) (s : ByteArray), e = .returned (.tuple #[v, .string s]) ∧ KD w' v l ∧ s.size ≤ 12 ∧ Below w.heap.size w w'
def DrawKIS (w : World) (e : Ending) (w' : World) : Prop := ∃ (v : Value) (l : List Crd) (a : Int) (s : ByteArray), e = .returned (.tuple #[v, .int .i64 a, .string s]) ∧ KD w' v l ∧ s.size ≤ 12 ∧ Below w.heap.size w w'
set_option maxHeartbeats 4000000 in
set_option maxRecDepth 100000 in
theorem drawNearestCard_c (v : Value) (w : World) (h : Bytes w v) : Calls Tryz.prog 16 #[v] w (DrawK1 w) := by
  have C0 := Lib.hid (Bytes.cur (t := 53) h)
  obtain ⟨a, n0, cap, b, off, rfl, -, -, -⟩ := h
  go_enter Tryz.func16, Tryz.ntmps16
  go_wp2_with fail
  refine (cards_c _ _ 0 C0.out (by omega)).mono ?_
  rintro e w1 ⟨lv, l, rfl, S1⟩
  replace S1 := Lib.hid S1
  have hl := S1.out.len
  clear C0
  go_wp2_with fail
  refine (cardId_c _ _ 500 lv l S1.out.cur (by omega) (by omega) (KSt.sls S1.out)).mono ?_
  rintro e w2 ⟨n2, -, rfl, C2, g2⟩
  have S2 := Lib.hid (S1.out.turn g2 C2)
  clear S1 C2 g2
  go_wp2_with fail
  go_ret2
  exact ⟨lv, l, _, rfl, KSt.drawn rfl S2.out (by omega)⟩
set_option maxHeartbeats 4000000 in
set_option maxRecDepth 100000 in
theorem drawCommonWords_c (v : Value) (w : World) (h : Bytes w v) : Calls Tryz.prog 12 #[v] w (DrawK2 w) := by
  have C0 := Lib.hid (Bytes.cur (t := 53) h)
  obtain ⟨a, n0, cap, b, off, rfl, -, -, -⟩ := h
  go_enter Tryz.func12, Tryz.ntmps12
  go_wp2_with fail
  refine (cards_c _ _ 0 C0.out (by omega)).mono ?_
  rintro e w1 ⟨lv, l, rfl, S1⟩
  replace S1 := Lib.hid S1
  have hl := S1.out.len
  clear C0
  go_wp2_with fail
  refine (cardId_c _ _ 500 lv l S1.out.cur (by omega) (by omega) (KSt.sls S1.out)).mono ?_
  rintro e w2 ⟨n2, -, rfl, C2, g2⟩
  have S2 := Lib.hid (S1.out.turn g2 C2)
  clear S1 C2 g2
  go_wp2_with fail
  refine (cardId_c _ _ 504 lv l S2.out.cur (by omega) (by omega) (KSt.sls S2.out)).mono ?_
  rintro e w3 ⟨n3, -, rfl, C3, g3⟩
  have S3 := Lib.hid (S2.out.turn g3 C3)
  clear S2 C3 g3
  go_wp2_with fail
  go_ret3
  exact ⟨lv, l, _, _, rfl, KSt.drawn rfl S3.out (by omega)⟩
set_option maxHeartbeats 4000000 in
set_option maxRecDepth 100000 in
theorem drawAddWord_c (v : Value) (w : World) (h : Bytes w v) : Calls Tryz.prog 5 #[v] w (DrawKIS w) := by
  have C0 := Lib.hid (Bytes.cur (t := 53) h)
  obtain ⟨a, n0, cap, b, off, rfl, -, -, -⟩ := h
  go_enter Tryz.func5, Tryz.ntmps5
  go_wp2_with fail
  refine (cards_c _ _ 0 C0.out (by omega)).mono ?_
  rintro e w1 ⟨lv, l, rfl, S1⟩
  replace S1 := Lib.hid S1
  have hl := S1.out.len
  clear C0
  go_wp2_with fail
  refine (cardId_c _ _ 500 lv l S1.out.cur (by omega) (by omega) (KSt.sls S1.out)).mono ?_
  rintro e w2 ⟨n2, -, rfl, C2, g2⟩
  have S2 := Lib.hid (S1.out.turn g2 C2)
  clear S1 C2 g2
  go_wp2_with fail
  refine (term24_c _ _ _ S2.out.cur (by omega)).mono ?_
  rintro e w3 ⟨s3, hs3, rfl, C3, g3⟩
  have S3 := Lib.hid (S2.out.turn g3 C3)
  clear S2 C3 g3
  go_wp2_with fail
  go_ret3
  exact ⟨lv, l, _, _, rfl, (KSt.drawn rfl S3.out (by omega)).1, hs3, (KSt.drawn rfl S3.out (by omega)).2⟩
set_option maxHeartbeats 4000000 in
set_option maxRecDepth 100000 in
theorem drawWordCounts_c (v : Value) (w : World) (h : Bytes w v) : Calls Tryz.prog 24 #[v] w (DrawKS w) := by
  have C0 := Lib.hid (Bytes.cur (t := 53) h)
  obtain ⟨a, n0, cap, b, off, rfl, -, -, -⟩ := h
  go_enter Tryz.func24, Tryz.ntmps24
  go_wp2_with fail
  refine (cards_c _ _ 0 C0.out (by omega)).mono ?_
  rintro e w1 ⟨lv, l, rfl, S1⟩
  replace S1 := Lib.hid S1
  have hl := S1.out.len
  clear C0
  go_wp2_with fail
  refine (term24_c _ _ _ S1.out.cur (by omega)).mono ?_
  rintro e w2 ⟨s2, hs2, rfl, C2, g2⟩
  have S2 := Lib.hid (S1.out.turn g2 C2)
  clear S1 C2 g2
  go_wp2_with fail
  go_ret2
  exact ⟨lv, l, _, rfl, (KSt.drawn rfl S2.out (by omega)).1, hs2, (KSt.drawn rfl S2.out (by omega)).2⟩
set_option maxHeartbeats 4000000 in
set_option maxRecDepth 100000 in
theorem drawCardsBetween_c (v : Value) (w : World) (h : Bytes w v) : Calls Tryz.prog 21 #[v] w (DrawK2 w) := by
  have C0 := Lib.hid (Bytes.cur (t := 53) h)
  obtain ⟨a, n0, cap, b, off, rfl, -, -, -⟩ := h
  go_enter Tryz.func21, Tryz.ntmps21
  go_wp2_with fail
  refine (cards_c _ _ 0 C0.out (by omega)).mono ?_
  rintro e w1 ⟨lv, l, rfl, S1⟩
  replace S1 := Lib.hid S1
  have hl := S1.out.len
  clear C0
  go_wp2_with fail
  refine (amongL_c [.int .i64 1500, .int .i64 1850, .int .i64 1851, .int .i64 1900, .int .i64 1499] (fun _ => True) S1.out.cur (by omega) (allI rfl) (by simp) (by simp) (by simp) (by simp)).mono ?_
  rintro e w2 ⟨n2, -, rfl, C2, g2⟩
  have S2 := Lib.hid (S1.out.turn g2 C2)
  clear S1 C2 g2
  go_wp2_with fail
  have hC := Lib.hid (S2.out.cur.mono (below_alloc w2 (.cells #[.int .i64 1500, .int .i64 1850, .int .i64 1900, .int .i64 2100, .int .i64 2101] 3)))
  have hL := Lib.hid (LitI.of (w := w2) (t := 3) (cs := [.int .i64 1500, .int .i64 1850, .int .i64 1900, .int .i64 2100, .int .i64 2101]) (P := fun _ => True) (by simp))
  have S3 := Lib.hid (S2.out.below (below_alloc w2 (.cells #[.int .i64 1500, .int .i64 1850, .int .i64 1900, .int .i64 2100, .int .i64 2101] 3)))
  have hgB : ¬ w2.heap.size = w.heap.size := by have h1 := S2.out.blt; have h2 := S2.out.size; simp at h1 h2; omega
  clear S2
  refine (pick_c _ _ _ 24 hC.out (by omega) (by omega)).mono ?_
  rintro e w3 ⟨p, hp, rfl, C3, g3⟩
  have hp0 := hp.1
  have hp1 := hp.2.1 (by omega)
  replace S3 := Lib.hid (S3.out.turn g3 C3)
  have hL3 : Hid (LitI w3 w2.heap.size 5 (fun _ => True)) := fun i hi => by
    obtain ⟨z, hz, h1⟩ := hL.out i hi
    exact ⟨z, hz, cellGrown h1 g3 (fun e => hgB (Option.some.inj e))⟩
  have hq : p.tdiv 12 = p / 12 := Int.tdiv_eq_ediv_of_nonneg hp0
  obtain ⟨k, hk, hk2⟩ : ∃ k : Nat, p.tdiv 12 = (k : Int) ∧ k ≤ 1 := ⟨(p / 12).toNat, by rw [hq]; omega, by omega⟩
  clear hC hL g3 C3 hq hp
  go_wp2_with fail
  refine (among_c _ _ _ w2.heap.size (4 + k) 5 (fun _ => True) S3.out.cur (by omega) (fun i hi => hL3.out i (by omega)) (by omega) (by omega) hgB).mono ?_
  rintro e w4 ⟨z, -, rfl, C4, g4⟩
  have S4 := Lib.hid (S3.out.turn g4 C4)
  clear S3 C4 g4
  go_wp2_with fail
  go_ret3
  exact ⟨lv, l, _, _, rfl, KSt.drawn rfl S4.out (by omega)⟩
end Go.Proofs.YteainpflmofjaaaGreat

namespace Go.Proofs.YteainpflmofjaaaGreat
open Go.RowKit
set_option maxHeartbeats 1000000 in
theorem rHas_c (v : Value) (l : List Int) (n : Int) (w : World) (h : Sl w IntE.enc 1 v l) : Calls Tryz.prog 11 #[v, .int .i64 n] w fun e w' => e = .returned (.bool (hasI l n)) ∧ w = w' := by
  obtain ⟨a, cap, b, off, rfl, hlc, hm, hc⟩ := h
  unfold maxLen at hm
  go_enter Tryz.func11, Tryz.ntmps11
  go_wp2_with fail
  go_loop [5] (fun i => ∃ k : Nat, k ≤ l.length ∧ i = .int .i64 k ∧ Hid (∀ j, j < k → (gd l j == n) = false)) (fun i => l.length - (intOf i).toNat)
  case atStart => exact ⟨0, Nat.zero_le _, rfl, fun j hj => by omega⟩
  case round =>
    obtain ⟨k, hk, rfl, hall⟩ := hrel
    by_cases hlt : k < l.length
    · obtain ⟨rfl, hbw, c0⟩ := IntE.at hc k hlt
      cases he : (gd l k == n)
      · have hall2 : Hid (∀ j, j < k + 1 → (gd l j == n) = false) := Lib.hid (upto_succ hall.out he)
        generalize gd l k = y at c0 he
        go_wp2_with fail
        go_round
        case rel => exact ⟨k + 1, by omega, by go_num, hall2.out⟩
        case measure => simp [intOf]; omega
      · have hF := Lib.hid (show hasI l n = true by rw [hasI, findTo_some (f := fun i => gd l i == n) hall.out he hlt]; rfl)
        have he2 : gd l k = n := by simpa using he
        rw [he2] at c0
        clear he he2
        go_wp2_with fail
        go_ret
        exact ⟨ret_bool hF.out.symm, rfl⟩
    · obtain rfl : k = l.length := by omega
      have hF := Lib.hid (show hasI l n = false by rw [hasI, findTo_none (f := fun i => gd l i == n) hall.out]; rfl)
      go_wp2_with fail
      go_ret
      exact ⟨ret_bool hF.out.symm, rfl⟩
set_option maxHeartbeats 1000000 in
theorem rInts_c (v v' : Value) (l : List Int) (w : World) (h : Sl w IntE.enc 1 v l) (h' : Sl w IntE.enc 1 v' l) : Calls Tryz.prog 26 #[v, v'] w fun e w' => e = .returned (.bool true) ∧ Below w.heap.size w w' := by
  obtain ⟨a, cap, b, off, rfl, hlc, hm, hc⟩ := h
  obtain ⟨a', cap', b', off', rfl, hlc', hm', hc'⟩ := h'
  unfold maxLen at hm hm'
  go_enter Tryz.func26, Tryz.ntmps26
  go_wp2_with fail
  go_loopw [5] (fun i wr => ∃ k : Nat, k ≤ l.length ∧ i = .int .i64 k ∧ Below w.heap.size w wr) (fun i _ => l.length - (intOf i).toNat)
  case atStart => exact ⟨0, Nat.zero_le _, rfl, Below.refl _ _⟩
  case round =>
    obtain ⟨k, hk, rfl, hb⟩ := hrel
    by_cases hlt : k < l.length
    · obtain ⟨rfl, hbw, c0⟩ := IntE.at (hc.mono hb) k hlt
      obtain ⟨rfl, hbw', c0'⟩ := IntE.at (hc'.mono hb) k hlt
      go_wp2_with fail
      refine wp_region_ext (by kernel_rfl) (by kernel_rfl) ?_
      repeat (any_goals (first | go_big_quiet_step (fail)))
      (refine wpQuiet_nil ?_)
      (rintro _ ⟨q, rfl⟩)
      go_wp2_with fail
      go_roundw
      case rel => exact ⟨k + 1, by omega, by go_num, bext hb hb.size _⟩
      case measure => simp [intOf]; omega
    · go_wp2_with fail
      go_ret
      exact ⟨rfl, hb⟩
end Go.Proofs.YteainpflmofjaaaGreat

namespace Go.Proofs.YteainpflmofjaaaGreat
open Go.RowKit
set_option maxHeartbeats 1000000 in
theorem rTexts_c (v v' : Value) (l : List ByteArray) (w : World) (h : Sl w StrE.enc 1 v l) (h' : Sl w StrE.enc 1 v' l) : Calls Tryz.prog 15 #[v, v'] w fun e w' => e = .returned (.bool true) ∧ Below w.heap.size w w' := by
  obtain ⟨a, cap, b, off, rfl, hlc, hm, hc⟩ := h
  obtain ⟨a', cap', b', off', rfl, hlc', hm', hc'⟩ := h'
  unfold maxLen at hm hm'
  go_enter Tryz.func15, Tryz.ntmps15
  go_wp2_with fail
  go_loopw [5] (fun i wr => ∃ k : Nat, k ≤ l.length ∧ i = .int .i64 k ∧ Below w.heap.size w wr) (fun i _ => l.length - (intOf i).toNat)
  case atStart => exact ⟨0, Nat.zero_le _, rfl, Below.refl _ _⟩
  case round =>
    obtain ⟨k, hk, rfl, hb⟩ := hrel
    by_cases hlt : k < l.length
    · obtain ⟨rfl, hbw, c0⟩ := StrE.at (hc.mono hb) k hlt
      obtain ⟨rfl, hbw', c0'⟩ := StrE.at (hc'.mono hb) k hlt
      generalize gd l k = z at c0 c0'
      have hz : (z.toList == z.toList) = true := by simp
      go_wp2_with fail
      refine wp_region_ext (by kernel_rfl) (by kernel_rfl) ?_
      repeat (any_goals (first | go_big_quiet_step (fail)))
      (refine wpQuiet_nil ?_)
      (rintro _ ⟨q, rfl⟩)
      go_wp2_with fail
      go_roundw
      case rel => exact ⟨k + 1, by omega, by go_num, bext hb hb.size _⟩
      case measure => simp [intOf]; omega
    · go_wp2_with fail
      go_ret
      exact ⟨rfl, hb⟩
theorem cd_bare {x y : Crd} (h : x.bare = y.bare) : x.id = y.id ∧ x.yr = y.yr ∧ x.sub = y.sub := by
  unfold Crd.bare at h
  injection h with h1 h2 h3 h4 h5
  exact ⟨h1, h2, h5⟩
set_option maxHeartbeats 2000000 in
theorem rCard_c (x y : Crd) (w : World) (hx : x.In w) (hy : y.In w) (he : x.bare = y.bare) : Calls Tryz.prog 38 #[.agg #[.int .i64 x.id, .int .i64 x.yr, .slice x.a x.sub.length x.cap], .agg #[.int .i64 y.id, .int .i64 y.yr, .slice y.a y.sub.length y.cap]] w fun e w' => e = .returned (.bool true) ∧ Below w.heap.size w w' := by
  obtain ⟨e1, e2, e3⟩ := cd_bare he
  clear he
  obtain ⟨i, r, a, c, s⟩ := x
  obtain ⟨i', r', a', c', s'⟩ := y
  dsimp only at e1 e2 e3
  subst e1 e2 e3
  have HT := Lib.hid (fun W (hB : Below w.heap.size w W) => rTexts_c _ _ s W (hx.mono hB) (hy.mono hB))
  have A := (below_alloc w (.cells #[.int .i64 i, .int .i64 r, .slice a s.length c] 60)).trans ((below_alloc (w.alloc (.cells #[.int .i64 i, .int .i64 r, .slice a s.length c] 60)) (.cells #[.int .i64 i, .int .i64 r, .slice a' s.length c'] 60)).mono (by simp))
  dsimp only at HT
  clear hx hy
  go_enter Tryz.func38, Tryz.ntmps38
  go_wp2_with fail
  refine (HT.out _ A).mono ?_
  rintro e w1 ⟨rfl, b1⟩
  go_wp2_with fail
  go_ret
  exact ⟨rfl, btrans A b1⟩
theorem cds_bare {l l' : List Crd} (h : l'.map Crd.bare = l.map Crd.bare) (k : Nat) (hk : k < l.length) : (gd l' k).bare = (gd l k).bare := by
  have hl : l'.length = l.length := by simpa using congrArg List.length h
  have := congrArg (fun q => q[k]?) h
  simp only [List.getElem?_map, List.getElem?_eq_getElem hk, List.getElem?_eq_getElem (show k < l'.length by omega), Option.map_some, Option.some.injEq] at this
  rw [gd_get hk, gd_get (by omega)]
  exact this
set_option maxHeartbeats 2000000 in
set_option maxRecDepth 100000 in
theorem rCards_c (v v' : Value) (l l' : List Crd) (w : World) (h : Sl w Crd.enc 3 v l) (hd : Crd.Deep w l) (h' : Sl w Crd.enc 3 v' l') (hd' : Crd.Deep w l') (he : l'.map Crd.bare = l.map Crd.bare) : Calls Tryz.prog 8 #[v, v'] w fun e w' => e = .returned (.bool true) ∧ Below w.heap.size w w' := by
  obtain ⟨a, cap, b, off, rfl, hlc, hm, hc⟩ := h
  obtain ⟨a', cap', b', off', rfl, hlc', hm', hc'⟩ := h'
  have hE := Lib.hid he
  have hll : l'.length = l.length := by simpa using congrArg List.length he
  clear he
  unfold maxLen at hm hm'
  rw [hll] at hlc' ⊢
  go_enter Tryz.func8, Tryz.ntmps8
  go_wp2_with fail
  go_loopw [5] (fun i wr => ∃ k : Nat, k ≤ l.length ∧ i = .int .i64 k ∧ Below w.heap.size w wr) (fun i _ => l.length - (intOf i).toNat)
  case atStart => exact ⟨0, Nat.zero_le _, rfl, Below.refl _ _⟩
  case round =>
    obtain ⟨k, hk, rfl, hb⟩ := hrel
    by_cases hlt : k < l.length
    · obtain ⟨rfl, hbw, c0, c1, c2⟩ := Crd.at (hc.mono hb) k hlt
      obtain ⟨rfl, hbw', d0, d1, d2⟩ := Crd.at (hc'.mono hb) k (by omega)
      have hQ := Lib.hid (fun p => rCard_c (gd l k) (gd l' k) (ext wr p) ((hd k hlt).mono (btrans hb (below_ext wr p))) ((hd' k (by omega)).mono (btrans hb (below_ext wr p))) (cds_bare hE.out k hlt).symm)
      generalize gd l k = x at *
      generalize gd l' k = y at *
      go_wp2_with fail
      refine wp_region_ext (by kernel_rfl) (by kernel_rfl) ?_
      repeat (any_goals (first | go_big_quiet_step ((go_at_call 38; exact Calls.ext_of (hQ.out _)))))
      (refine wpQuiet_nil ?_)
      (rintro _ ⟨q, rfl⟩)
      go_wp2_with fail
      go_roundw
      case rel => exact ⟨k + 1, by omega, by go_num, bext hb hb.size _⟩
      case measure => simp [intOf]; omega
    · go_wp2_with fail
      go_ret
      exact ⟨rfl, hb⟩
end Go.Proofs.YteainpflmofjaaaGreat

namespace Go.Proofs.YteainpflmofjaaaGreat
open Go.RowKit
theorem byKey_len {α : Type} (f : α → Int) (a : Int) (n : Nat) (P : List α) : (byKey f a n P).length ≤ n * P.length := by
  induction n with
  | zero => simp [byKey]
  | succ n ih =>
    rw [byKey_succ, List.length_append, Nat.succ_mul]
    have := List.length_filter_le (fun x => f x == a + n) P
    omega
theorem byKey_filter {α : Type} (f : α → Int) (q : α → Bool) (a : Int) (n : Nat) (P : List α) (h : ∀ x, a ≤ f x → f x < a + n → q x = true) : byKey f a n (P.filter q) = byKey f a n P := by
  induction n with
  | zero => simp [byKey]
  | succ n ih =>
    rw [byKey_succ, byKey_succ, ih (fun x h1 h2 => h x h1 (by omega)), List.filter_filter]
    congr 1
    apply List.filter_congr
    intro x _
    cases e : (f x == a + n)
    · rfl
    · have := h x (by simp at e; omega) (by simp at e; omega)
      simp [this]
theorem byKey_map {α β : Type} (f : β → Int) (g : α → β) (a : Int) (n : Nat) (P : List α) : byKey f a n (P.map g) = (byKey (fun x => f (g x)) a n P).map g := by
  induction n with
  | zero => simp [byKey]
  | succ n ih => rw [byKey_succ, byKey_succ, ih, List.map_append, List.filter_map]; rfl
def btG (l : List Crd) (a b : Int) : Bool := areCrd l && inB a 1500 2100 && inB b 1500 2100 && decide (a ≤ b)
def btP (l : List Crd) (a b : Int) (i : Nat) : Bool := inB (gd l i).yr a b
def btI (l : List Crd) (a : Int) (n : Nat) : List Int := idsC (byKey Crd.yr a n l)
def btL (l : List Crd) (a b : Int) : List Int := if btG l a b then btI l a (b - a + 1).toNat else []
theorem btS (l : List Crd) (a b : Int) (hab : a ≤ b) : (sortR (ltC (fun x y => cmpI x.yr y.yr)) (pickG (btP l a b) (gd l) l.length)).reverse = byKey Crd.yr a (b - a + 1).toNat l := by
  have e : pickG (btP l a b) (gd l) l.length = l.filter (fun x => inB x.yr a b) := pickG_filter_all (fun x : Crd => inB x.yr a b) l
  rw [e, sortKey Crd.yr _ (fun x y => by rw [ltC, cmpI_neg]) a (b - a + 1).toNat _ (fun x hx => by
    have := (List.mem_filter.1 hx).2
    rw [inB_iff] at this
    omega)]
  exact byKey_filter _ _ _ _ _ (fun x h1 h2 => inB_iff.2 (by omega))
theorem btL_len (l : List Crd) (a b : Int) : (btL l a b).length ≤ l.length := by
  unfold btL
  split
  · rename_i h
    have hab : a ≤ b := by simp [btG] at h; exact h.2
    have := pickG_len (btP l a b) (gd l) l.length
    rw [btI, ← btS l a b hab]
    simpa [idsC, sortR_len] using this
  · simp
theorem bt_same {l l' : List Crd} (h : l'.map Crd.bare = l.map Crd.bare) (a b : Int) : btL l' a b = btL l a b ∧ btG l' a b = btG l a b := by
  have hg : btG l' a b = btG l a b := by rw [btG, btG, areCrd_same h]
  have hi : ∀ (L : List Crd) n, btI L a n = ((byKey Prod.snd a n (L.map (fun x => (x.id, x.yr)))).map Prod.fst) := fun L n => by
    rw [byKey_map, btI, idsC, List.map_map]; rfl
  have hm : l'.map (fun x => (x.id, x.yr)) = l.map (fun x => (x.id, x.yr)) := by
    have hl : l'.length = l.length := by simpa using congrArg List.length h
    apply List.ext_getElem (by simpa using hl)
    intro i h1 h2
    simp only [List.length_map] at h1 h2
    have := crd_same h i h2
    rw [gd_get h1, gd_get h2] at this
    simp [this.1, this.2.1]
  exact ⟨by rw [btL, btL, hg, hi, hi, hm], hg⟩
theorem bt_way (l : List Crd) (a b : Int) : (areCrd l = false ∧ btG l a b = false ∧ btL l a b = []) ∨ (areCrd l = true ∧ inB a 1500 2100 = false ∧ btG l a b = false ∧ btL l a b = []) ∨ (areCrd l = true ∧ inB a 1500 2100 = true ∧ inB b 1500 2100 = false ∧ btG l a b = false ∧ btL l a b = []) ∨
    (areCrd l = true ∧ inB a 1500 2100 = true ∧ inB b 1500 2100 = true ∧ b < a ∧ btG l a b = false ∧ btL l a b = []) ∨ (areCrd l = true ∧ inB a 1500 2100 = true ∧ inB b 1500 2100 = true ∧ a ≤ b ∧ btG l a b = true ∧ btL l a b = btI l a (b - a + 1).toNat) := by
  unfold btL btG
  cases areCrd l <;> cases inB a 1500 2100 <;> cases inB b 1500 2100 <;> by_cases h : a ≤ b <;> simp [h] <;> omega
set_option maxHeartbeats 1000000 in
theorem cardsBetween1_c (x : Crd) (a b : Int) (ka kb : Nat) (W : World) (h1 : W.cell? ⟨ka, 0, none⟩ = some (.int .i64 a)) (h2 : W.cell? ⟨kb, 0, none⟩ = some (.int .i64 b)) : Calls Tryz.prog 53 #[.agg #[.int .i64 x.id, .int .i64 x.yr, .slice x.a x.sub.length x.cap], .pointer (some ⟨ka, 0, none⟩), .pointer (some ⟨kb, 0, none⟩)] W fun e w' => e = .returned (.bool (inB x.yr a b)) ∧ Below W.heap.size W w' := by
  have hb1 := block_lt_of_cell h1
  have hb2 := block_lt_of_cell h2
  dsimp only at hb1 hb2
  have A0 := below_alloc W (.cells #[.int .i64 x.id, .int .i64 x.yr, .slice x.a x.sub.length x.cap] 60)
  go_enter Tryz.func53, Tryz.ntmps53
  go_wp2_with (go_at_call 54; refine (within_c _ _ _ _).mono ?_; rintro e w' ⟨rfl, rfl⟩)
  go_ret
  exact ⟨rfl, A0⟩
set_option maxHeartbeats 1000000 in
theorem cardsBetween2_c (x y : Crd) (W : World) : Calls Tryz.prog 56 #[.agg #[.int .i64 x.id, .int .i64 x.yr, .slice x.a x.sub.length x.cap], .agg #[.int .i64 y.id, .int .i64 y.yr, .slice y.a y.sub.length y.cap]] W fun e w' => e = .returned (.int .i64 (cmpI x.yr y.yr)) ∧ Below W.heap.size W w' := by
  go_enter Tryz.func56, Tryz.ntmps56
  go_wp2_with (go_at_call 57; refine (cmpI_c _ _ _).mono ?_; rintro e w' ⟨rfl, rfl⟩)
  go_ret
  exact ⟨rfl, btrans (below_alloc _ _) (below_alloc _ _)⟩
set_option maxHeartbeats 4000000 in
set_option maxRecDepth 100000 in
theorem cardsBetween_c (v : Value) (l : List Crd) (ya yb : Int) (w : World) (h : Sl w Crd.enc 3 v l) (hd : Crd.Deep w l) (hs : ∀ i, i < l.length → StrE.Fits (gd l i).sub) : Calls Tryz.prog 22 #[v, .int .i64 ya, .int .i64 yb] w (RetSlB w 3 IntE.enc 1 (btL l ya yb) (btG l ya yb)) := by
  have HA := Lib.hid (fun W (hB : Below w.heap.size w W) => areCards_c v l W (h.mono hB) (hd.mono hB) hs)
  have A0 := btrans (below_alloc w (.cells #[.int .i64 ya] 3)) (below_alloc (w.alloc (.cells #[.int .i64 ya] 3)) (.cells #[.int .i64 yb] 3))
  have k0 : ((w.alloc (.cells #[.int .i64 ya] 3)).alloc (.cells #[.int .i64 yb] 3)).cell? ⟨w.heap.size, 0, none⟩ = some (.int .i64 ya) := by go_simp
  have k1 : ((w.alloc (.cells #[.int .i64 ya] 3)).alloc (.cells #[.int .i64 yb] 3)).cell? ⟨w.heap.size + 1, 0, none⟩ = some (.int .i64 yb) := by go_simp
  have HF := fun hl => Lib.hid (fun W (hB : Below ((w.alloc (.cells #[.int .i64 ya] 3)).alloc (.cells #[.int .i64 yb] 3)).heap.size ((w.alloc (.cells #[.int .i64 ya] 3)).alloc (.cells #[.int .i64 yb] 3)) W) => cardsFor_c v l W 53 #[.pointer (some ⟨w.heap.size, 0, none⟩), .pointer (some ⟨w.heap.size + 1, 0, none⟩)] (btP l ya yb) ((h.mono A0).mono hB) hl (fun _ _ => by kernel_rfl)
    (fun i W' hi hB' => cardsBetween1_c (gd l i) ya yb w.heap.size (w.heap.size + 1) W' (cellOn hB' (cellOn hB k0)) (cellOn hB' (cellOn hB k1))))
  have HYa := Lib.hid (fun W => isYear_c ya W)
  have HYb := Lib.hid (fun W => isYear_c yb W)
  have hway := bt_way l ya yb
  have hI := fun hab => Lib.hid (show btI l ya (yb - ya + 1).toNat = idsC (sortR (ltC (fun x y => cmpI x.yr y.yr)) (pickG (btP l ya yb) (gd l) l.length)).reverse by rw [btS l ya yb hab]; rfl)
  generalize btL l ya yb = L at hway ⊢
  generalize btG l ya yb = ok at hway ⊢
  obtain ⟨a, cap, b, off, rfl, hlc, hm, hc⟩ := h
  unfold maxLen at hm
  rcases hway with ⟨h1, rfl, rfl⟩ | ⟨h1, h2, rfl, rfl⟩ | ⟨h1, h2, h3, rfl, rfl⟩ | ⟨h1, h2, h3, h4, rfl, rfl⟩ | ⟨h1, h2, h3, h4, rfl, rfl⟩
  · rw [h1] at HA
    replace HA := Lib.hid HA.out
    clear h1 HF HYa HYb hI
    go_enter Tryz.func22, Tryz.ntmps22
    go_wp2_with (go_at_call 31; refine (HA.out _ (by repeat' (first | exact Below.refl _ _ | with_reducible assumption | refine bext ?_ ?_ _ | refine Below.alloc ?_ ?_ _ | refine Below.setCell ?_ ?_ _ | refine Below.drew ?_ | (simp; done) | (have hbz := hb.size; first | omega | (simp; omega)) | (simp; omega) | omega))).mono ?_; rintro e w' ⟨rfl, hbq⟩; obtain ⟨p, rfl⟩ := ext_of_below hbq; clear hbq)
    go_ret2
    exact ⟨_, rfl, Own.nil _ _ _ _ _, (by repeat' (first | exact Below.refl _ _ | with_reducible assumption | refine bext ?_ ?_ _ | refine Below.alloc ?_ ?_ _ | refine Below.setCell ?_ ?_ _ | refine Below.drew ?_ | (simp; done) | (have hbz := hb.size; first | omega | (simp; omega)) | (simp; omega) | omega))⟩
  · rw [h1] at HA
    rw [h2] at HYa
    replace HA := Lib.hid HA.out
    replace HYa := Lib.hid HYa.out
    clear h1 h2 HF HYb hI
    go_enter Tryz.func22, Tryz.ntmps22
    go_wp2_with (first | (go_at_call 31; refine (HA.out _ (by repeat' (first | exact Below.refl _ _ | with_reducible assumption | refine bext ?_ ?_ _ | refine Below.alloc ?_ ?_ _ | refine Below.setCell ?_ ?_ _ | refine Below.drew ?_ | (simp; done) | (have hbz := hb.size; first | omega | (simp; omega)) | (simp; omega) | omega))).mono ?_; rintro e w' ⟨rfl, hbq⟩; obtain ⟨p, rfl⟩ := ext_of_below hbq; clear hbq) | (go_at_call 52; refine (HYa.out _).mono ?_; rintro e w' ⟨rfl, rfl⟩))
    go_ret2
    exact ⟨_, rfl, Own.nil _ _ _ _ _, (by repeat' (first | exact Below.refl _ _ | with_reducible assumption | refine bext ?_ ?_ _ | refine Below.alloc ?_ ?_ _ | refine Below.setCell ?_ ?_ _ | refine Below.drew ?_ | (simp; done) | (have hbz := hb.size; first | omega | (simp; omega)) | (simp; omega) | omega))⟩
  · rw [h1] at HA
    rw [h2] at HYa
    rw [h3] at HYb
    replace HA := Lib.hid HA.out
    replace HYa := Lib.hid HYa.out
    replace HYb := Lib.hid HYb.out
    clear h1 h2 h3 HF hI
    go_enter Tryz.func22, Tryz.ntmps22
    go_wp2_with (first | (go_at_call 31; refine (HA.out _ (by repeat' (first | exact Below.refl _ _ | with_reducible assumption | refine bext ?_ ?_ _ | refine Below.alloc ?_ ?_ _ | refine Below.setCell ?_ ?_ _ | refine Below.drew ?_ | (simp; done) | (have hbz := hb.size; first | omega | (simp; omega)) | (simp; omega) | omega))).mono ?_; rintro e w' ⟨rfl, hbq⟩; obtain ⟨p, rfl⟩ := ext_of_below hbq; clear hbq) | ((with_reducible (go_at_call 52; refine (HYa.out _).mono ?_; rintro e w' ⟨rfl, rfl⟩))) | ((with_reducible (go_at_call 52; refine (HYb.out _).mono ?_; rintro e w' ⟨rfl, rfl⟩))))
    go_ret2
    exact ⟨_, rfl, Own.nil _ _ _ _ _, (by repeat' (first | exact Below.refl _ _ | with_reducible assumption | refine bext ?_ ?_ _ | refine Below.alloc ?_ ?_ _ | refine Below.setCell ?_ ?_ _ | refine Below.drew ?_ | (simp; done) | (have hbz := hb.size; first | omega | (simp; omega)) | (simp; omega) | omega))⟩
  · rw [h1] at HA
    rw [h2] at HYa
    rw [h3] at HYb
    replace HA := Lib.hid HA.out
    replace HYa := Lib.hid HYa.out
    replace HYb := Lib.hid HYb.out
    clear h1 h2 h3 HF hI
    go_enter Tryz.func22, Tryz.ntmps22
    go_wp2_with (first | (go_at_call 31; refine (HA.out _ (by repeat' (first | exact Below.refl _ _ | with_reducible assumption | refine bext ?_ ?_ _ | refine Below.alloc ?_ ?_ _ | refine Below.setCell ?_ ?_ _ | refine Below.drew ?_ | (simp; done) | (have hbz := hb.size; first | omega | (simp; omega)) | (simp; omega) | omega))).mono ?_; rintro e w' ⟨rfl, hbq⟩; obtain ⟨p, rfl⟩ := ext_of_below hbq; clear hbq) | ((with_reducible (go_at_call 52; refine (HYa.out _).mono ?_; rintro e w' ⟨rfl, rfl⟩))) | ((with_reducible (go_at_call 52; refine (HYb.out _).mono ?_; rintro e w' ⟨rfl, rfl⟩))))
    go_ret2
    exact ⟨_, rfl, Own.nil _ _ _ _ _, (by repeat' (first | exact Below.refl _ _ | with_reducible assumption | refine bext ?_ ?_ _ | refine Below.alloc ?_ ?_ _ | refine Below.setCell ?_ ?_ _ | refine Below.drew ?_ | (simp; done) | (have hbz := hb.size; first | omega | (simp; omega)) | (simp; omega) | omega))⟩
  · rw [h1] at HA
    rw [h2] at HYa
    rw [h3] at HYb
    replace HA := Lib.hid HA.out
    replace HYa := Lib.hid HYa.out
    replace HYb := Lib.hid HYb.out
    have h12 := (by have h1c := h1; simp [areCrd] at h1c; exact h1c.2 : l.length ≤ 12)
    replace HF := HF (by omega)
    replace hI := hI h4
    clear h1 h2 h3 hd
    have h4' : ¬ yb < ya := by omega
    go_enter Tryz.func22, Tryz.ntmps22
    go_wp2_with (first | (go_at_call 31; refine (HA.out _ (by repeat' (first | exact Below.refl _ _ | with_reducible assumption | refine bext ?_ ?_ _ | refine Below.alloc ?_ ?_ _ | refine Below.setCell ?_ ?_ _ | refine Below.drew ?_ | (simp; done) | (have hbz := hb.size; first | omega | (simp; omega)) | (simp; omega) | omega))).mono ?_; rintro e w' ⟨rfl, hbq⟩; obtain ⟨p, rfl⟩ := ext_of_below hbq; clear hbq) | ((with_reducible (go_at_call 52; refine (HYa.out _).mono ?_; rintro e w' ⟨rfl, rfl⟩))) | ((with_reducible (go_at_call 52; refine (HYb.out _).mono ?_; rintro e w' ⟨rfl, rfl⟩))))
    refine callsAt (fun W hW => ?_)
    have BW : Below ((w.alloc (.cells #[.int .i64 ya] 3)).alloc (.cells #[.int .i64 yb] 3)).heap.size ((w.alloc (.cells #[.int .i64 ya] 3)).alloc (.cells #[.int .i64 yb] 3)) W := by rw [hW]; exact (by repeat' (first | exact Below.refl _ _ | with_reducible assumption | refine bext ?_ ?_ _ | refine Below.alloc ?_ ?_ _ | refine Below.setCell ?_ ?_ _ | refine Below.drew ?_ | (simp; done) | (have hbz := hb.size; first | omega | (simp; omega)) | (simp; omega) | omega))
    clear hW
    refine (HF.out W BW).mono ?_
    rintro e w3 ⟨v3, rfl, o3, b3⟩
    have B3 := btrans (btrans A0 BW) b3
    have hPl := pickG_len (btP l ya yb) (gd l) l.length
    have hbnd := o3.bounds
    have BWs := (btrans A0 BW).size
    have HS := Lib.hid (sortStableCrd_c v3 _ _ w3 56 #[] (fun x y => cmpI x.yr y.yr) o3 (by omega) (fun _ _ => by kernel_rfl) (fun x y W' _ _ _ => cardsBetween2_c x y W'))
    clear HF HA k0 k1
    go_wp2_with fail
    refine HS.out.mono ?_
    rintro e w4 ⟨rfl, o4, g4⟩
    have B4 := B3.grown g4 B3.size (fun q hq => by have := (hbnd q hq).1; omega)
    have HCI := Lib.hid (cardIds_c v3 _ w4 (o4.sl Crd.len) (by rw [List.length_reverse, sortR_len]; omega))
    rw [← hI.out] at HCI
    go_wp2_with fail
    refine HCI.out.mono ?_
    rintro e w5 ⟨v5, rfl, o5, b5⟩
    have hz4 := B4.size
    go_wp2_with fail
    go_ret2
    exact ⟨_, rfl, o5.lower (by omega), btrans B4 b5⟩
/-- the ids behind n years and k cards of the next one -/
def btK (l : List Crd) (a : Int) (n k : Nat) : List Int := btI l a n ++ idsC (pickG (fun i => (gd l i).yr == a + n) (gd l) k)
theorem btK_zero (l : List Crd) (a : Int) (n : Nat) : btK l a n 0 = btI l a n := by simp [btK, pickG, idsC]
theorem btK_all (l : List Crd) (a : Int) (n : Nat) : btK l a n l.length = btI l a (n + 1) := by
  rw [btK, pickG_filter_all (fun x : Crd => x.yr == a + n) l, btI, btI, byKey_succ, idsC, idsC, idsC, List.map_append]
theorem btK_yes {l : List Crd} {a : Int} {n k : Nat} (h : ((gd l k).yr == a + n) = true) : btK l a n (k + 1) = btK l a n k ++ [(gd l k).id] := by
  rw [btK, pickG_yes (p := fun i => (gd l i).yr == a + n) h, idsC, List.map_append, ← List.append_assoc]
  rfl
theorem btK_no {l : List Crd} {a : Int} {n k : Nat} (h : ((gd l k).yr == a + n) = false) : btK l a n (k + 1) = btK l a n k := by
  rw [btK, pickG_no (p := fun i => (gd l i).yr == a + n) h]
  rfl
theorem btK_len (l : List Crd) (a : Int) (n k : Nat) : (btK l a n k).length ≤ n * l.length + k := by
  have h1 := byKey_len Crd.yr a n l
  have h2 := pickG_len (fun i => (gd l i).yr == a + n) (gd l) k
  simp only [btK, btI, idsC, List.length_append, List.length_map]
  omega
set_option maxHeartbeats 4000000 in
set_option maxRecDepth 100000 in
theorem specCardsBetween_c (v : Value) (l : List Crd) (ya yb : Int) (w : World) (h : Sl w Crd.enc 3 v l) (hd : Crd.Deep w l) (hs : ∀ i, i < l.length → StrE.Fits (gd l i).sub) : Calls Tryz.prog 23 #[v, .int .i64 ya, .int .i64 yb] w (RetSlB w 3 IntE.enc 1 (btL l ya yb) (btG l ya yb)) := by
  have HA := Lib.hid (fun W (hB : Below w.heap.size w W) => l24Good_c v l W (h.mono hB) (hd.mono hB) hs)
  have HYa := Lib.hid (fun W => l24Year_c ya W)
  have HYb := Lib.hid (fun W => l24Year_c yb W)
  obtain ⟨i', hi', hy0, hy1, hy2⟩ := info_parts (show (Tryz.prog.info? 3).map (fun i => (i.zero, i.size, i.bytes)) = some (some (.int .i64 0), 1, 8) by kernel_rfl)
  have hway := bt_way l ya yb
  generalize btL l ya yb = L at hway ⊢
  generalize btG l ya yb = ok at hway ⊢
  obtain ⟨a, cap, b, off, rfl, hlc, hm, hc⟩ := h
  unfold maxLen at hm
  rcases hway with ⟨h1, rfl, rfl⟩ | ⟨h1, h2, rfl, rfl⟩ | ⟨h1, h2, h3, rfl, rfl⟩ | ⟨h1, h2, h3, h4, rfl, rfl⟩ | ⟨h1, h2, h3, h4, rfl, rfl⟩
  · rw [h1] at HA
    replace HA := Lib.hid HA.out
    clear h1 HYa HYb
    go_enter Tryz.func23, Tryz.ntmps23
    go_wp2_with (go_at_call 35; refine (HA.out _ (by repeat' (first | exact Below.refl _ _ | with_reducible assumption | refine bext ?_ ?_ _ | refine Below.alloc ?_ ?_ _ | refine Below.setCell ?_ ?_ _ | refine Below.drew ?_ | (simp; done) | (have hbz := hb.size; first | omega | (simp; omega)) | (simp; omega) | omega))).mono ?_; rintro e w' ⟨rfl, hbq⟩; obtain ⟨p, rfl⟩ := ext_of_below hbq; clear hbq)
    go_ret2
    exact ⟨_, rfl, (Own.empty' (by simp) (by simp)).mono (below_ext _ _), (by repeat' (first | exact Below.refl _ _ | with_reducible assumption | refine bext ?_ ?_ _ | refine Below.alloc ?_ ?_ _ | refine Below.setCell ?_ ?_ _ | refine Below.drew ?_ | (simp; done) | (have hbz := hb.size; first | omega | (simp; omega)) | (simp; omega) | omega))⟩
  · rw [h1] at HA
    rw [h2] at HYa
    replace HA := Lib.hid HA.out
    replace HYa := Lib.hid HYa.out
    clear h1 h2 HYb
    go_enter Tryz.func23, Tryz.ntmps23
    go_wp2_with (first | (go_at_call 35; refine (HA.out _ (by repeat' (first | exact Below.refl _ _ | with_reducible assumption | refine bext ?_ ?_ _ | refine Below.alloc ?_ ?_ _ | refine Below.setCell ?_ ?_ _ | refine Below.drew ?_ | (simp; done) | (have hbz := hb.size; first | omega | (simp; omega)) | (simp; omega) | omega))).mono ?_; rintro e w' ⟨rfl, hbq⟩; obtain ⟨p, rfl⟩ := ext_of_below hbq; clear hbq) | (go_at_call 58; refine (HYa.out _).mono ?_; rintro e w' ⟨rfl, rfl⟩))
    go_ret2
    exact ⟨_, rfl, (Own.empty' (by simp) (by simp)).mono (below_ext _ _), (by repeat' (first | exact Below.refl _ _ | with_reducible assumption | refine bext ?_ ?_ _ | refine Below.alloc ?_ ?_ _ | refine Below.setCell ?_ ?_ _ | refine Below.drew ?_ | (simp; done) | (have hbz := hb.size; first | omega | (simp; omega)) | (simp; omega) | omega))⟩
  · rw [h1] at HA
    rw [h2] at HYa
    rw [h3] at HYb
    replace HA := Lib.hid HA.out
    replace HYa := Lib.hid HYa.out
    replace HYb := Lib.hid HYb.out
    clear h1 h2 h3
    go_enter Tryz.func23, Tryz.ntmps23
    go_wp2_with (first | (go_at_call 35; refine (HA.out _ (by repeat' (first | exact Below.refl _ _ | with_reducible assumption | refine bext ?_ ?_ _ | refine Below.alloc ?_ ?_ _ | refine Below.setCell ?_ ?_ _ | refine Below.drew ?_ | (simp; done) | (have hbz := hb.size; first | omega | (simp; omega)) | (simp; omega) | omega))).mono ?_; rintro e w' ⟨rfl, hbq⟩; obtain ⟨p, rfl⟩ := ext_of_below hbq; clear hbq) | ((with_reducible (go_at_call 58; refine (HYa.out _).mono ?_; rintro e w' ⟨rfl, rfl⟩))) | ((with_reducible (go_at_call 58; refine (HYb.out _).mono ?_; rintro e w' ⟨rfl, rfl⟩))))
    go_ret2
    exact ⟨_, rfl, (Own.empty' (by simp) (by simp)).mono (below_ext _ _), (by repeat' (first | exact Below.refl _ _ | with_reducible assumption | refine bext ?_ ?_ _ | refine Below.alloc ?_ ?_ _ | refine Below.setCell ?_ ?_ _ | refine Below.drew ?_ | (simp; done) | (have hbz := hb.size; first | omega | (simp; omega)) | (simp; omega) | omega))⟩
  · rw [h1] at HA
    rw [h2] at HYa
    rw [h3] at HYb
    replace HA := Lib.hid HA.out
    replace HYa := Lib.hid HYa.out
    replace HYb := Lib.hid HYb.out
    clear h1 h2 h3
    go_enter Tryz.func23, Tryz.ntmps23
    go_wp2_with (first | (go_at_call 35; refine (HA.out _ (by repeat' (first | exact Below.refl _ _ | with_reducible assumption | refine bext ?_ ?_ _ | refine Below.alloc ?_ ?_ _ | refine Below.setCell ?_ ?_ _ | refine Below.drew ?_ | (simp; done) | (have hbz := hb.size; first | omega | (simp; omega)) | (simp; omega) | omega))).mono ?_; rintro e w' ⟨rfl, hbq⟩; obtain ⟨p, rfl⟩ := ext_of_below hbq; clear hbq) | ((with_reducible (go_at_call 58; refine (HYa.out _).mono ?_; rintro e w' ⟨rfl, rfl⟩))) | ((with_reducible (go_at_call 58; refine (HYb.out _).mono ?_; rintro e w' ⟨rfl, rfl⟩))))
    go_ret2
    exact ⟨_, rfl, (Own.empty' (by simp) (by simp)).mono (below_ext _ _), (by repeat' (first | exact Below.refl _ _ | with_reducible assumption | refine bext ?_ ?_ _ | refine Below.alloc ?_ ?_ _ | refine Below.setCell ?_ ?_ _ | refine Below.drew ?_ | (simp; done) | (have hbz := hb.size; first | omega | (simp; omega)) | (simp; omega) | omega))⟩
  · rw [h1] at HA
    rw [h2] at HYa
    rw [h3] at HYb
    replace HA := Lib.hid HA.out
    replace HYa := Lib.hid HYa.out
    replace HYb := Lib.hid HYb.out
    have h12 : l.length ≤ 12 := by have h1c := h1; simp [areCrd] at h1c; exact h1c.2
    rw [inB_iff] at h2 h3
    clear h1 hd
    have h4' : ¬ yb < ya := by omega
    go_enter Tryz.func23, Tryz.ntmps23
    go_wp2_with (first | (go_at_call 35; refine (HA.out _ (by repeat' (first | exact Below.refl _ _ | with_reducible assumption | refine bext ?_ ?_ _ | refine Below.alloc ?_ ?_ _ | refine Below.setCell ?_ ?_ _ | refine Below.drew ?_ | (simp; done) | (have hbz := hb.size; first | omega | (simp; omega)) | (simp; omega) | omega))).mono ?_; rintro e w' ⟨rfl, hbq⟩; obtain ⟨p, rfl⟩ := ext_of_below hbq; clear hbq) | ((with_reducible (go_at_call 58; refine (HYa.out _).mono ?_; rintro e w' ⟨rfl, rfl⟩))) | ((with_reducible (go_at_call 58; refine (HYb.out _).mono ?_; rintro e w' ⟨rfl, rfl⟩))))
    refine wpAt fun W hW => ?_
    have BW : Below w.heap.size w W := by rw [hW]; exact (by repeat' (first | exact Below.refl _ _ | with_reducible assumption | refine bext ?_ ?_ _ | refine Below.alloc ?_ ?_ _ | refine Below.setCell ?_ ?_ _ | refine Below.drew ?_ | (simp; done) | (have hbz := hb.size; first | omega | (simp; omega)) | (simp; omega) | omega))
    have OW : Own W w.heap.size 3 IntE.enc 1 (.slice (some ⟨w.heap.size, 0, none⟩) 0 0) ([] : List Int) := by rw [hW]; exact (Own.empty' (by simp) (by simp)).mono (below_ext _ _)
    clear hW HA HYa HYb
    generalize Value.slice (some ⟨w.heap.size, 0, none⟩) 0 0 = s0 at OW ⊢
    go_loopw [8, 9, 10] (fun o y _ wr => ∃ n : Nat, ya + n ≤ yb + 1 ∧ y = .int .i64 (ya + n) ∧ Hid (Own wr w.heap.size 3 IntE.enc 1 o (btI l ya n)) ∧ Below w.heap.size w wr) (fun _ y _ _ => (yb + 1 - intOf y).toNat)
    case atStart => exact ⟨0, by omega, by go_num, OW, BW⟩
    case round =>
      obtain ⟨n, hn, rfl, ho, hb⟩ := hrel
      obtain ⟨wo, hwo⟩ : ∃ x, x = wr := ⟨_, rfl⟩
      subst hwo
      by_cases hlt : ya + n ≤ yb
      · have hnn : n ≤ 600 := by omega
        go_wp2_with fail
        go_loopw [8, 10] (fun o j wi => ∃ k : Nat, k ≤ l.length ∧ j = .int .i64 k ∧ Hid (Own wi w.heap.size 3 IntE.enc 1 o (btK l ya n k)) ∧ Below w.heap.size w wi) (fun _ j _ => l.length - (intOf j).toNat)
        case atStart => exact ⟨0, Nat.zero_le _, rfl, by rw [btK_zero]; exact ho.out, hb⟩
        case round =>
        obtain ⟨k, hk, rfl, ho2, hb2⟩ := hrel
        by_cases hlk : k < l.length
        · obtain ⟨rfl, hbw, c0, c1, c2⟩ := Crd.at (hc.mono hb2) k hlk
          cases hq : ((gd l k).yr == ya + (n : Int))
          · have hun := Lib.hid (btK_no hq)
            go_wp2_with fail
            go_roundw
            case rel => exact ⟨k + 1, by omega, by go_num, by rw [hun.out]; exact ho2.out, hb2⟩
            case measure => simp [intOf]; omega
          · have hun := Lib.hid (btK_yes hq)
            have hpl := btK_len l ya n k
            have hpl2 : n * l.length ≤ 600 * 12 := Nat.mul_le_mul hnn h12
            have hze := hb2.size
            go_wp2_with (at_builtin; refine wpList_push IntE.len IntE.one rfl _ _ 30 rfl w.heap.size 3 i' _ 8 Tryz.underlying30 hi' hy0 hy1 hy2 rfl (by omega) _ _ rfl (ho2.out.mono (below_alloc _ _)) _ 1 (gd l k).id rfl (fun j u hu => new_cells _ [.int .i64 (gd l k).id] _ _ (by simp) j u hu) (by unfold maxLen; omega) (by omega) (by simp; omega) ?_)
            intro v' w3 ho3 hg3
            have hb3 := below_push (lo := w.heap.size) (B := w.heap.size) (a := w) (hb2.trans ((below_alloc _ _).mono hze)) (ho2.out.mono (below_alloc _ _)) hg3 (Nat.le_refl _) (by simp; omega)
            go_wp2_with fail
            go_roundw
            case rel => exact ⟨k + 1, by omega, by go_num, by rw [hun.out]; exact ho3, hb3⟩
            case measure => simp [intOf]; omega
        · obtain rfl : k = l.length := by omega
          go_wp2_with fail
          go_roundw
          case rel => exact ⟨n + 1, by omega, by go_num, by rw [← btK_all]; exact ho2.out, hb2⟩
          case measure => simp [intOf]; omega
      · have hnn : n = (yb - ya + 1).toNat := by omega
        rw [hnn] at ho
        clear hnn
        go_wp2_with fail
        go_ret2
        exact ⟨_, rfl, ho.out, hb⟩
end Go.Proofs.YteainpflmofjaaaGreat
