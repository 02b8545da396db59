/- Entries: the clashes of two of a list, by the program and by the reference. Conditions: sizes; Go's table of powers of ten reads as it is laid. -/
import Derived.Test.YteainpflmofjaaaDoorCx25
import Derived.Test.YteainpflmofjaaaDoorCk
namespace Go.Proofs.YteainpflmofjaaaDoor
open Go.RowKit
theorem areEnt_yr {l : List Ent} (h : areEnt l = true) {i : Nat} (hi : i < l.length) : 0 ≤ (gd l i).yr ∧ (gd l i).yr ≤ 2100 := by
  have h1 := areEnt_ok h i hi
  simp only [isEnt, entTail, Bool.and_eq_true, Bool.or_eq_true, beq_iff_eq, inB_iff] at h1
  omega
def clR (l : List Ent) (x y : Int) : List Cls := if prGood l x y then clashL (gd l (prI l x y)) (gd l (prK l x y)) else []
theorem cl_same {l l' : List Ent} (h : l'.map Ent.bare = l.map Ent.bare) (a b : Int) : clR l' a b = clR l a b ∧ prGood l' a b = prGood l a b := by
  have hg := (alB_same h a b).2
  refine ⟨?_, hg⟩
  rw [clR, clR, hg]
  cases hh : prGood l a b
  · rfl
  · obtain ⟨_, _, _, h1, h2⟩ := pr_some hh
    have e1 : prI l' a b = prI l a b := by rw [prI, prI, entIdx_same h]
    have e2 : prK l' a b = prK l a b := by rw [prK, prK, entIdx_same h]
    obtain ⟨f1, f2, f3, f4, f5, f6⟩ := Ent.sub_eq (ent_same h _ h1)
    obtain ⟨g1, g2, g3, g4, g5, g6⟩ := Ent.sub_eq (ent_same h _ h2)
    rw [e1, e2, clashL, clashL, c1L, c1L, c2L, c2L, c3L, c3L, c1B, c1B, c2B, c2B, c3B, c3B, f2, f3, f4, g2, g3, g4]
theorem clR_len (l : List Ent) (x y : Int) : (clR l x y).length ≤ 3 := by
  unfold clR
  split
  · exact clashL_len _ _
  · simp
theorem retOwn_low {α : Type} [Inhabited α] {P : Program} {f : FuncId} {args : Array Value} {w W : World} {e : TypeId} {enc : α → List Value} {k : Nat} {l : List α} (hb : Below w.heap.size w W) (h : Calls P f args W (RetOwn W e enc k l)) :
    Calls P f args W (fun en w8 => ∃ v, en = .returned v ∧ Own w8 w.heap.size e enc k v l ∧ Below W.heap.size W w8) :=
  h.mono fun _ _ ⟨v, h1, h2, h3⟩ => ⟨v, h1, h2.lower hb.size, h3⟩
set_option maxHeartbeats 4000000 in
set_option maxRecDepth 100000 in
theorem specClashesOf_c (v : Value) (l : List Ent) (x y : Int) (w : World) (h : Sl w Ent.enc 6 v l) (hd : Ent.Deep w l) (hs : ∀ i, i < l.length → (gd l i).Fits) : Calls Tryd.prog 12 #[v, .int .i64 x, .int .i64 y] w (RetSlB w 81 Cls.enc 3 (clR l x y) (prGood l x y)) := by
  have HP := l25Pair_c v l x y w h hd hs
  obtain ⟨a, cap, b, off, rfl, hlc, hm, hc⟩ := h
  unfold maxLen at hm
  cases hg : prGood l x y
  · have hB := Lib.hid (show clR l x y = [] by rw [clR, hg]; rfl)
    rw [hg] at HP
    replace HP := Lib.hid HP
    clear hg
    generalize prP l x y = p at HP
    generalize prQ l x y = q at HP
    go_enter Tryd.func12, Tryd.ntmps12
    go_wp2_with (go_at_call 49; refine HP.out.mono ?_; rintro e w1 ⟨rfl, hb1⟩)
    go_ret2
    rw [hB.out]
    exact ⟨_, rfl, Own.emptyAt (by simp) hb1.size, hb1.alloc hb1.size _⟩
  · obtain ⟨hA, e1, e2, hi, hk⟩ := pr_some hg
    have hB := Lib.hid (show clR l x y = clashL (gd l (prI l x y)) (gd l (prK l x y)) by rw [clR, hg]; rfl)
    rw [hg, show prP l x y = prI l x y by simp [prP, hg], show prQ l x y = prK l x y by simp [prQ, hg]] at HP
    replace HP := Lib.hid HP
    clear hg e1 e2
    generalize prI l x y = i at *
    generalize prK l x y = k at *
    obtain ⟨rfl, hbw0, -⟩ := Ent.at hc i hi
    have hyi := areEnt_yr hA hi
    have hyk := areEnt_yr hA hk
    have HC := Lib.hid (fun W (hb : Below w.heap.size w W) => retOwn_low hb (l25Clashes_c (gd l i) (gd l k) W hyi.1 hyi.2 hyk.1 hyk.2))
    clear hyi hyk hA
    go_enter Tryd.func12, Tryd.ntmps12
    go_wp2_with (go_at_call 49; refine HP.out.mono ?_; rintro e w1 ⟨rfl, hb1⟩)
    have hz1 := hb1.size
    obtain ⟨-, hbw, c0, c1, c2, c3, c4, c5⟩ := Ent.at (hc.mono hb1) i hi
    obtain ⟨-, -, d0, d1, d2, d3, d4, d5⟩ := Ent.at (hc.mono hb1) k hk
    generalize gd l i = X at *
    generalize gd l k = Y at *
    have HS : (Below w.heap.size w w1 ∧ w.heap.size ≤ w1.heap.size) ∧ w1.cell? ⟨b, off + i * 6, none⟩ = _ ∧ w1.cell? ⟨b, off + i * 6 + 1, none⟩ = _ ∧ w1.cell? ⟨b, off + i * 6 + 2, none⟩ = _ ∧ w1.cell? ⟨b, off + i * 6 + 3, none⟩ = _ ∧ w1.cell? ⟨b, off + i * 6 + 4, none⟩ = _ ∧ w1.cell? ⟨b, off + i * 6 + 5, none⟩ = _ ∧ w1.cell? ⟨b, off + k * 6, none⟩ = _ ∧ w1.cell? ⟨b, off + k * 6 + 1, none⟩ = _ ∧ w1.cell? ⟨b, off + k * 6 + 2, none⟩ = _ ∧ w1.cell? ⟨b, off + k * 6 + 3, none⟩ = _ ∧ w1.cell? ⟨b, off + k * 6 + 4, none⟩ = _ ∧ w1.cell? ⟨b, off + k * 6 + 5, none⟩ = _ := ⟨⟨hb1, hz1⟩, c0, c1, c2, c3, c4, c5, d0, d1, d2, d3, d4, d5⟩
    have D := drewOn w1
    clear c0 c1 c2 c3 c4 c5 d0 d1 d2 d3 d4 d5
    go_region_held3 (fun W => (Below w.heap.size w W ∧ w.heap.size ≤ W.heap.size) ∧ W.cell? ⟨b, off + i * 6, none⟩ = some (.int .i64 X.id) ∧ W.cell? ⟨b, off + i * 6 + 1, none⟩ = some (.string X.ti) ∧ W.cell? ⟨b, off + i * 6 + 2, none⟩ = some (.string X.pl) ∧ W.cell? ⟨b, off + i * 6 + 3, none⟩ = some (.int .i64 X.yr) ∧ W.cell? ⟨b, off + i * 6 + 4, none⟩ = some (.int .i64 X.ct) ∧ W.cell? ⟨b, off + i * 6 + 5, none⟩ = some (.slice X.a X.sub.length X.cap) ∧ W.cell? ⟨b, off + k * 6, none⟩ = some (.int .i64 Y.id) ∧ W.cell? ⟨b, off + k * 6 + 1, none⟩ = some (.string Y.ti) ∧ W.cell? ⟨b, off + k * 6 + 2, none⟩ = some (.string Y.pl) ∧ W.cell? ⟨b, off + k * 6 + 3, none⟩ = some (.int .i64 Y.yr) ∧ W.cell? ⟨b, off + k * 6 + 4, none⟩ = some (.int .i64 Y.ct) ∧ W.cell? ⟨b, off + k * 6 + 5, none⟩ = some (.slice Y.a Y.sub.length Y.cap)) (first | assumption | (refine keep12 (by assumption) (by assumption)))
      (first | (go_at_call 50; refine (HC.out _ (And.left (And.left (by assumption)))).mono ?_; rintro e w8 ⟨v8, rfl, o8, b8⟩; replace o8 := Lib.hid o8) | fail)
    rename_i _ hH
    go_wp2_with fail
    go_ret2
    rw [hB.out]
    exact ⟨_, rfl, o8.out, hH.1.1⟩
set_option maxHeartbeats 4000000 in
set_option maxRecDepth 100000 in
theorem clashesOf_c (v : Value) (l : List Ent) (x y : Int) (w : World) (h : Sl w Ent.enc 6 v l) (hd : Ent.Deep w l) (hs : ∀ i, i < l.length → (gd l i).Fits) (ht : Tab w) : Calls Tryd.prog 14 #[v, .int .i64 x, .int .i64 y] w (RetSlB w 81 Cls.enc 3 (clR l x y) (prGood l x y)) := by
  have HP := pairOf_c v l x y w h hd hs
  obtain ⟨a, cap, b, off, rfl, hlc, hm, hc⟩ := h
  unfold maxLen at hm
  cases hg : prGood l x y
  · have hB := Lib.hid (show clR l x y = [] by rw [clR, hg]; rfl)
    rw [hg] at HP
    replace HP := Lib.hid HP
    clear hg
    generalize idxInt (entIdx l (min x y)) = p at HP
    generalize idxInt (entIdx l (max x y)) = q at HP
    go_enter Tryd.func14, Tryd.ntmps14
    go_wp2_with (go_at_call 52; refine HP.out.mono ?_; rintro e w1 ⟨rfl, hb1⟩)
    go_ret2
    rw [hB.out]
    exact ⟨_, rfl, Own.nil _ _ _ _ _, hb1⟩
  · obtain ⟨hA, e1, e2, hi, hk⟩ := pr_some hg
    have hB := Lib.hid (show clR l x y = clashL (gd l (prI l x y)) (gd l (prK l x y)) by rw [clR, hg]; rfl)
    rw [hg, e1, e2] at HP
    replace HP := Lib.hid (show Calls Tryd.prog 52 #[_, .int .i64 x, .int .i64 y] w fun e w' => e = .returned (.tuple #[.int .i64 (prI l x y : Int), .int .i64 (prK l x y : Int), .bool true]) ∧ Below w.heap.size w w' from HP)
    clear hg e1 e2
    generalize prI l x y = i at *
    generalize prK l x y = k at *
    obtain ⟨rfl, hbw0, -⟩ := Ent.at hc i hi
    have hyi := areEnt_yr hA hi
    have hyk := areEnt_yr hA hk
    have HC := Lib.hid (fun W (hb : Below w.heap.size w W) => retOwn_low hb (clashes_c (gd l i) (gd l k) W hyi.1 hyi.2 hyk.1 hyk.2 (ht.mono hb)))
    clear hyi hyk hA
    go_enter Tryd.func14, Tryd.ntmps14
    go_wp2_with (go_at_call 52; refine HP.out.mono ?_; rintro e w1 ⟨rfl, hb1⟩)
    have hz1 := hb1.size
    obtain ⟨-, hbw, c0, c1, c2, c3, c4, c5⟩ := Ent.at (hc.mono hb1) i hi
    obtain ⟨-, -, d0, d1, d2, d3, d4, d5⟩ := Ent.at (hc.mono hb1) k hk
    generalize gd l i = X at *
    generalize gd l k = Y at *
    have HS : (Below w.heap.size w w1 ∧ w.heap.size ≤ w1.heap.size) ∧ w1.cell? ⟨b, off + i * 6, none⟩ = _ ∧ w1.cell? ⟨b, off + i * 6 + 1, none⟩ = _ ∧ w1.cell? ⟨b, off + i * 6 + 2, none⟩ = _ ∧ w1.cell? ⟨b, off + i * 6 + 3, none⟩ = _ ∧ w1.cell? ⟨b, off + i * 6 + 4, none⟩ = _ ∧ w1.cell? ⟨b, off + i * 6 + 5, none⟩ = _ ∧ w1.cell? ⟨b, off + k * 6, none⟩ = _ ∧ w1.cell? ⟨b, off + k * 6 + 1, none⟩ = _ ∧ w1.cell? ⟨b, off + k * 6 + 2, none⟩ = _ ∧ w1.cell? ⟨b, off + k * 6 + 3, none⟩ = _ ∧ w1.cell? ⟨b, off + k * 6 + 4, none⟩ = _ ∧ w1.cell? ⟨b, off + k * 6 + 5, none⟩ = _ := ⟨⟨hb1, hz1⟩, c0, c1, c2, c3, c4, c5, d0, d1, d2, d3, d4, d5⟩
    have D := drewOn w1
    clear c0 c1 c2 c3 c4 c5 d0 d1 d2 d3 d4 d5
    go_region_held3 (fun W => (Below w.heap.size w W ∧ w.heap.size ≤ W.heap.size) ∧ W.cell? ⟨b, off + i * 6, none⟩ = some (.int .i64 X.id) ∧ W.cell? ⟨b, off + i * 6 + 1, none⟩ = some (.string X.ti) ∧ W.cell? ⟨b, off + i * 6 + 2, none⟩ = some (.string X.pl) ∧ W.cell? ⟨b, off + i * 6 + 3, none⟩ = some (.int .i64 X.yr) ∧ W.cell? ⟨b, off + i * 6 + 4, none⟩ = some (.int .i64 X.ct) ∧ W.cell? ⟨b, off + i * 6 + 5, none⟩ = some (.slice X.a X.sub.length X.cap) ∧ W.cell? ⟨b, off + k * 6, none⟩ = some (.int .i64 Y.id) ∧ W.cell? ⟨b, off + k * 6 + 1, none⟩ = some (.string Y.ti) ∧ W.cell? ⟨b, off + k * 6 + 2, none⟩ = some (.string Y.pl) ∧ W.cell? ⟨b, off + k * 6 + 3, none⟩ = some (.int .i64 Y.yr) ∧ W.cell? ⟨b, off + k * 6 + 4, none⟩ = some (.int .i64 Y.ct) ∧ W.cell? ⟨b, off + k * 6 + 5, none⟩ = some (.slice Y.a Y.sub.length Y.cap)) (first | assumption | (refine keep12 (by assumption) (by assumption)))
      (first | (go_at_call 53; refine (HC.out _ (And.left (And.left (by assumption)))).mono ?_; rintro e w8 ⟨v8, rfl, o8, b8⟩; replace o8 := Lib.hid o8) | fail)
    rename_i _ hH
    go_wp2_with fail
    go_ret2
    rw [hB.out]
    exact ⟨_, rfl, o8.out, hH.1.1⟩
end Go.Proofs.YteainpflmofjaaaDoor
