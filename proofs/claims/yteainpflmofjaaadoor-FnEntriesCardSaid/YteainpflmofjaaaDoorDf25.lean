/- Entries drawn from bytes: the arguments of the laws. No condition but sizes. -/
import Derived.Test.YteainpflmofjaaaDoorDe25
import Derived.Test.YteainpflmofjaaaDoorBr
import Derived.Outline
import Derived.OwnWalk
namespace Go.Proofs.YteainpflmofjaaaDoor
open Go.RowKit
/-- entries that read as l, none of them large -/
structure ED (w : World) (v : Value) (l : List Ent) : Prop where
  sl : Sl w Ent.enc 6 v l
  deep : Ent.Deep w l
  fits : ∀ i, i < l.length → (gd l i).Fits
  sub : ∀ i, i < l.length → (gd l i).sub.length ≤ 8
  len : l.length ≤ 13
theorem ED.mono {w w' : World} {v : Value} {l : List Ent} (h : ED w v l) (hb : Below w.heap.size w w') : ED w' v l := ⟨h.sl.mono hb, h.deep.mono hb, h.fits, h.sub, h.len⟩
theorem ESt.ed {w0 w : World} {B m N : Nat} {v : Value} {l : List Ent} (h : ESt w0 w B v l m N) (hN : N ≤ 13) : ED w v l :=
  ⟨ESt.sl h, ESt.deep h, ESt.fits h, fun i hi => (h.2 i hi).2.2.1, Nat.le_trans h.len hN⟩
theorem ESt.sls {w0 w : World} {B m N : Nat} {v : Value} {l : List Ent} (h : ESt w0 w B v l m N) : ∀ w', w.grownBy w' (some B) → Sl w' Ent.enc 6 v l := fun w' hg =>
  (own_keep h.own hg (fun b hb e => by have h1 := (h.own.bounds b hb).1; have h2 := h.blt; injection e with e; omega)).sl Ent.len
theorem ESt.drawn {w w' : World} {o : Obj} {B m N : Nat} {v : Value} {l : List Ent} (hB : B = w.heap.size) (h : ESt (w.alloc o) w' B v l m N) (hN : N ≤ 13) : ED w' v l ∧ Below w.heap.size w w' := by
  subst hB
  exact ⟨ESt.ed h hN, below_of_grown h.gr⟩
set_option maxHeartbeats 4000000 in
set_option maxRecDepth 100000 in
theorem entryDr_c (w : World) (B m : Nat) (v : Value) (l : List Ent) (h : Cur w B m) (hm : m ≤ 100000000) (hl : l.length ≤ 1000000) (hS : ∀ w', w.grownBy w' (some B) → Sl w' Ent.enc 6 v l) : Calls Tryd.prog 69 #[.pointer (some ⟨B, 0, none⟩), v] w (CurI w B (m + 4) (fun _ => True)) := by
  obtain ⟨a, cap, b, off, rfl, hlc, hcm, -⟩ := hS w (World.grownBy.refl _ _)
  unfold maxLen at hcm
  have hS := Lib.hid hS
  have h := Lib.hid h
  by_cases h0 : l.length = 0
  · have hl0 : (l.length : Int) = 0 := by omega
    go_enter Tryd.func69, Tryd.ntmps69
    rw [h0]
    have h0 := Lib.hid h0
    clear hl0
    go_wp2_with fail
    refine (amongL_c [.int .i64 0, .int .i64 20, .int .i64 520, .int .i64 999] (fun _ => True) h.out (by omega) (allI rfl) (by simp) (by simp) (by simp) (by simp)).mono ?_
    rintro e w2 ⟨x, -, rfl, C2, g2⟩
    replace C2 := Lib.hid C2
    replace g2 := Lib.hid g2
    go_wp2_with fail
    go_ret
    exact ⟨x, trivial, rfl, C2.out.le (by omega), g2.out⟩
  · have hl0 : ((l.length : Int) == 0) = false := by simp; intro e; apply h0; simp [e]
    have hl1 : ¬ (l.length : Int) = 0 := by omega
    go_enter Tryd.func69, Tryd.ntmps69
    go_wp2_with fail
    refine (one_c _ B m 12 h.out (by omega) (by omega)).mono ?_
    rintro e w1 ⟨b1, rfl, C1, g1⟩
    replace C1 := Lib.hid C1
    replace g1 := Lib.hid g1
    cases b1
    · go_wp2_with fail
      refine (pick_c _ B (m + 2) _ C1.out (by omega) (by omega)).mono ?_
      rintro e w2 ⟨p, hp, rfl, C2, g2⟩
      obtain ⟨k, rfl⟩ : ∃ k : Nat, p = (k : Int) := ⟨p.toNat, by have := hp.1; omega⟩
      have hk : k < l.length := by
        rcases Nat.lt_or_ge 1 l.length with h1 | h1
        · have := hp.2.1 (by omega); omega
        · have := hp.2.2 (by omega); omega
      have G2 := Lib.hid (only_trans g1.out g2)
      have hS2 := hS.out w2 G2.out
      obtain ⟨a', cap', b', off', hv, hlc', hm', hc⟩ := hS2
      injection hv with e1 e2 e3
      subst e1 e3
      clear e2 hp
      obtain ⟨rfl, hbw, c0, -, -, -, -, -⟩ := Ent.at hc k hk
      replace C2 := Lib.hid C2
      have hkl : (k : Int) < (l.length : Int) := by omega
      generalize (gd l k).id = z at c0
      clear hc g2
      go_wp2_with fail
      go_ret
      exact ⟨z, trivial, rfl, C2.out.le (by omega), G2.out⟩
    · go_wp2_with fail
      refine (amongL_c [.int .i64 0, .int .i64 20, .int .i64 520, .int .i64 999] (fun _ => True) C1.out (by omega) (allI rfl) (by simp) (by simp) (by simp) (by simp)).mono ?_
      rintro e w2 ⟨x, -, rfl, C2, g2⟩
      replace C2 := Lib.hid C2
      replace g2 := Lib.hid g2
      go_wp2_with fail
      go_ret
      exact ⟨x, trivial, rfl, C2.out.le (by omega), only_trans g1.out g2.out⟩
def DrawE (w : World) (e : Ending) (w' : World) : Prop := ∃ (v : Value) (l : List Ent), e = .returned v ∧ ED w' v l ∧ Below w.heap.size w w'
def DrawE1 (w : World) (e : Ending) (w' : World) : Prop := ∃ (v : Value) (l : List Ent) (s : Int), e = .returned (.tuple #[v, .int .i64 s]) ∧ ED w' v l ∧ Below w.heap.size w w'
def DrawX (w : World) (e : Ending) (w' : World) : Prop := ∃ x : Ent, e = .returned (.agg #[.int .i64 x.id, .string x.ti, .string x.pl, .int .i64 x.yr, .int .i64 x.ct, .slice x.a x.sub.length x.cap]) ∧ Own w' w.heap.size 3 IntE.enc 1 (Ent.hv x) x.sub ∧ x.Fits ∧ Below w.heap.size w w'
set_option maxHeartbeats 4000000 in
set_option maxRecDepth 100000 in
theorem drawAreEntries_c (v : Value) (w : World) (h : Bytes w v) : Calls Tryd.prog 58 #[v] w (DrawE w) := by
  have C0 := Lib.hid (Bytes.cur (t := 95) h)
  obtain ⟨a, n0, cap, b, off, rfl, -, -, -⟩ := h
  go_enter Tryd.func58, Tryd.ntmps58
  go_wp2_with fail
  refine (entries_c _ _ 0 C0.out (by omega)).mono ?_
  rintro e w1 ⟨lv, l, rfl, S1⟩
  replace S1 := Lib.hid S1
  clear C0
  go_wp2_with fail
  go_ret
  exact ⟨lv, l, rfl, ESt.drawn rfl S1.out (by omega)⟩
set_option maxHeartbeats 1000000 in
theorem drawTitleGroups_c (v : Value) (w : World) (h : Bytes w v) : Calls Tryd.prog 21 #[v] w (DrawE w) := by
  have H := Lib.hid (drawAreEntries_c v w h)
  go_enter Tryd.func21, Tryd.ntmps21
  go_wp2_with fail
  refine H.out.mono ?_
  rintro e w1 ⟨lv, l, rfl, h1, h2⟩
  replace h1 := Lib.hid h1
  go_wp2_with fail
  go_ret
  exact ⟨lv, l, rfl, h1.out, h2⟩
set_option maxHeartbeats 1000000 in
theorem drawCopiesOf_c (v : Value) (w : World) (h : Bytes w v) : Calls Tryd.prog 28 #[v] w (DrawE w) := by
  have H := Lib.hid (drawAreEntries_c v w h)
  go_enter Tryd.func28, Tryd.ntmps28
  go_wp2_with fail
  refine H.out.mono ?_
  rintro e w1 ⟨lv, l, rfl, h1, h2⟩
  replace h1 := Lib.hid h1
  go_wp2_with fail
  go_ret
  exact ⟨lv, l, rfl, h1.out, h2⟩
set_option maxHeartbeats 4000000 in
set_option maxRecDepth 100000 in
theorem drawFindEntry_c (v : Value) (w : World) (h : Bytes w v) : Calls Tryd.prog 26 #[v] w (DrawE1 w) := by
  have C0 := Lib.hid (Bytes.cur (t := 95) h)
  obtain ⟨a, n0, cap, b, off, rfl, -, -, -⟩ := h
  go_enter Tryd.func26, Tryd.ntmps26
  go_wp2_with fail
  refine (entries_c _ _ 0 C0.out (by omega)).mono ?_
  rintro e w1 ⟨lv, l, rfl, S1⟩
  replace S1 := Lib.hid S1
  have hl := S1.out.len
  clear C0
  go_wp2_with fail
  refine (entryDr_c _ _ 400 lv l S1.out.cur (by omega) (by omega) (ESt.sls S1.out)).mono ?_
  rintro e w2 ⟨n2, -, rfl, C2, g2⟩
  have S2 := Lib.hid (S1.out.turn g2 C2)
  clear S1 C2 g2
  go_wp2_with fail
  refine (amongL_c [.int .i64 0, .int .i64 0, .int .i64 500, .int .i64 501] (fun _ => True) S2.out.cur (by omega) (allI rfl) (by simp) (by simp) (by simp) (by simp)).mono ?_
  rintro e w3 ⟨n3, -, rfl, C3, g3⟩
  have S3 := Lib.hid (S2.out.turn g3 C3)
  clear S2 C3 g3
  go_wp2_with fail
  go_ret2
  exact ⟨lv, l, _, rfl, ESt.drawn rfl S3.out (by omega)⟩
set_option maxHeartbeats 8000000 in
set_option maxRecDepth 100000 in
theorem drawIsEntry_c (v : Value) (w : World) (h : Bytes w v) : Calls Tryd.prog 72 #[v] w (DrawX w) := by
  have A0 := below_alloc w (.cells #[.int .i64 0, .string ByteArray.empty, .string ByteArray.empty, .int .i64 0, .int .i64 0, .slice none 0 0] 51)
  have C0 := Bytes.cur (t := 95) (h.mono A0)
  have K0 := (Blk.new w 51 [.int .i64 0, .string ByteArray.empty, .string ByteArray.empty, .int .i64 0, .int .i64 0, .slice none 0 0]).mono (below_alloc _ (.cells #[v, .int .i64 0, .int .u64 0] 95))
  have e0 : (w.alloc (.cells #[.int .i64 0, .string ByteArray.empty, .string ByteArray.empty, .int .i64 0, .int .i64 0, .slice none 0 0] 51)).heap.size = w.heap.size + 1 := by simp
  rw [e0] at C0
  have B0 := A0.trans ((below_alloc (w.alloc (.cells #[.int .i64 0, .string ByteArray.empty, .string ByteArray.empty, .int .i64 0, .int .i64 0, .slice none 0 0] 51)) (.cells #[v, .int .i64 0, .int .u64 0] 95)).mono (by simp))
  clear A0 e0
  replace K0 := Lib.hid K0
  replace C0 := Lib.hid C0
  replace B0 := Lib.hid B0
  obtain ⟨a, n0, cap, b, off, rfl, -, -, -⟩ := h
  go_enter Tryd.func72, Tryd.ntmps72
  go_wp2_with fail
  refine (amongL_c [.int .i64 1, .int .i64 20, .int .i64 998, .int .i64 0] (fun x => 0 ≤ x ∧ x ≤ 999) C0.out (by omega) (fun v hv => by simp at hv; rcases hv with rfl | rfl | rfl | rfl <;> exact ⟨_, by omega, rfl⟩) (by simp) (by simp) (by simp) (by simp)).mono ?_
  rintro e w3 ⟨z, ⟨z0, z1⟩, rfl, C3, g3⟩
  have K3 := Lib.hid (K0.out.grown g3 (by omega))
  have B3 := Lib.hid (B0.out.grown g3 (by simp; omega) (fun g e => by injection e with e; omega))
  replace C3 := Lib.hid C3
  clear C0 g3 K0 B0
  go_wp2_with fail
  refine (entry_c _ _ _ z C3.out (by omega) (by omega)).mono ?_
  rintro e w4 ⟨x, rfl, C4, g4, hO, hq⟩
  have K4 := K3.out.grown g4 (by omega)
  have hz3 := K3.out.lt
  have B4 := B3.out.grown g4 B3.out.size (fun g e => by injection e with e; omega)
  have hbd := hO.bounds
  clear C4 g4 C3 K3 B3
  have hwl := K4.lt
  have k0 := K4.cell 0 _ rfl
  have k1 := K4.cell 1 _ rfl
  have k2 := K4.cell 2 _ rfl
  have k3 := K4.cell 3 _ rfl
  have k4 := K4.cell 4 _ rfl
  have k5 := K4.cell 5 _ rfl
  have f0 := K4.frozen 0
  have f1 := K4.frozen 1
  have f2 := K4.frozen 2
  have f3 := K4.frozen 3
  have f4 := K4.frozen 4
  have f5 := K4.frozen 5
  replace hO := Lib.hid hO
  replace B4 := Lib.hid B4
  replace hbd := Lib.hid hbd
  clear K4
  go_wp2_with fail
  (try simp only [Exit.inBlock, Exit.then])
  refine bodyPost_ret (by simp [results, Tryd.results72, go_sem, k0, k1, k2, k3, k4, k5]; try rfl) rfl ?_
  refine ⟨x, rfl, ?_⟩
  have G : w4.grownBy ((((((w4.setCell ⟨w.heap.size, 0, none⟩ (.int .i64 x.id)).setCell ⟨w.heap.size, 1, none⟩ (.string x.ti)).setCell ⟨w.heap.size, 2, none⟩ (.string x.pl)).setCell ⟨w.heap.size, 3, none⟩ (.int .i64 x.yr)).setCell ⟨w.heap.size, 4, none⟩ (.int .i64 x.ct)).setCell ⟨w.heap.size, 5, none⟩ (.slice x.a x.sub.length x.cap)) (some w.heap.size) := only_set (only_set (only_set (only_set (only_set (only_set (World.grownBy.refl _ _))))))
  refine ⟨(own_keep hO.out G (fun b hb2 e => ?_)).lower (by omega), hq.fits, B4.out.grown G B4.out.size (fun g e => by injection e with e; omega)⟩
  have h1 := (hbd.out b hb2).1
  injection e with e
  omega
set_option maxHeartbeats 8000000 in
set_option maxRecDepth 100000 in
theorem drawEntryText_c (v : Value) (w : World) (h : Bytes w v) : Calls Tryd.prog 31 #[v] w (DrawX w) := by
  have A0 := below_alloc w (.cells #[.int .i64 0, .string ByteArray.empty, .string ByteArray.empty, .int .i64 0, .int .i64 0, .slice none 0 0] 51)
  have H := Lib.hid (drawIsEntry_c v _ (h.mono A0))
  have K0 := Lib.hid (Blk.new w 51 [.int .i64 0, .string ByteArray.empty, .string ByteArray.empty, .int .i64 0, .int .i64 0, .slice none 0 0])
  replace A0 := Lib.hid A0
  go_enter Tryd.func31, Tryd.ntmps31
  go_wp2_with fail
  refine H.out.mono ?_
  rintro e w4 ⟨x, rfl, h1, h2, h3⟩
  have K4 := K0.out.mono h3
  have B4 := btrans A0.out h3
  clear h3 A0 K0 H
  have hwl := K4.lt
  have k0 := K4.cell 0 _ rfl
  have k1 := K4.cell 1 _ rfl
  have k2 := K4.cell 2 _ rfl
  have k3 := K4.cell 3 _ rfl
  have k4 := K4.cell 4 _ rfl
  have k5 := K4.cell 5 _ rfl
  have f0 := K4.frozen 0
  have f1 := K4.frozen 1
  have f2 := K4.frozen 2
  have f3 := K4.frozen 3
  have f4 := K4.frozen 4
  have f5 := K4.frozen 5
  replace K4 := Lib.hid K4
  replace h1 := Lib.hid h1
  replace h2 := Lib.hid h2
  replace B4 := Lib.hid B4
  go_wp2_with fail
  (try simp only [Exit.inBlock, Exit.then])
  refine bodyPost_ret (by simp [results, Tryd.results31, go_sem, k0, k1, k2, k3, k4, k5]; try rfl) rfl ?_
  refine ⟨x, rfl, ?_⟩
  have G : w4.grownBy ((((((w4.setCell ⟨w.heap.size, 0, none⟩ (.int .i64 x.id)).setCell ⟨w.heap.size, 1, none⟩ (.string x.ti)).setCell ⟨w.heap.size, 2, none⟩ (.string x.pl)).setCell ⟨w.heap.size, 3, none⟩ (.int .i64 x.yr)).setCell ⟨w.heap.size, 4, none⟩ (.int .i64 x.ct)).setCell ⟨w.heap.size, 5, none⟩ (.slice x.a x.sub.length x.cap)) (some w.heap.size) := only_set (only_set (only_set (only_set (only_set (only_set (World.grownBy.refl _ _))))))
  refine ⟨(own_keep h1.out G (fun b hb2 e => by have h3 := (h1.out.bounds b hb2).1; injection e with e; simp at h3; omega)).lower (by simp), h2.out, B4.out.grown G B4.out.size (fun g e => by injection e with e; omega)⟩
end Go.Proofs.YteainpflmofjaaaDoor
