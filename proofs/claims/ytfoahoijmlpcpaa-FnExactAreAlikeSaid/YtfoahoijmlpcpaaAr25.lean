/- Entries: AreAlike, by the reference. No condition but sizes. -/
import Derived.Test.YtfoahoijmlpcpaaAq25
namespace Go.Proofs.Ytfoahoijmlpcpaa
open Go.RowKit
theorem areEnt_yr {l : List Ent} (h : areEnt l = true) {i : Nat} (hi : i < l.length) : 0 ≤ (gd l i).yr ∧ (gd l i).yr ≤ 2100 := by
  have h1 := areEnt_ok h i hi
  simp only [isEnt, entTail, Bool.and_eq_true, Bool.or_eq_true, beq_iff_eq, inB_iff] at h1
  omega
set_option maxHeartbeats 4000000 in
set_option maxRecDepth 100000 in
theorem specAreAlike_c (v : Value) (l : List Ent) (x y : Int) (w : World) (h : Sl w Ent.enc 6 v l) (hd : Ent.Deep w l) (hs : ∀ i, i < l.length → (gd l i).Fits) : Calls Try.prog 23 #[v, .int .i64 x, .int .i64 y] w fun e w' => e = .returned (.tuple #[.bool (alB l x y), .bool (prGood l x y)]) ∧ Below w.heap.size w w' := by
  have HP := l25Pair_c v l x y w h hd hs
  obtain ⟨a, cap, b, off, rfl, hlc, hm, hc⟩ := h
  unfold maxLen at hm
  cases hg : prGood l x y
  · have hB := Lib.hid (show alB l x y = false by rw [alB, hg]; rfl)
    rw [hg] at HP
    replace HP := Lib.hid HP
    clear hg
    generalize prP l x y = p at HP
    generalize prQ l x y = q at HP
    go_enter Try.func23, Try.ntmps23
    go_wp2_with (go_at_call 49; refine HP.out.mono ?_; rintro e w1 ⟨rfl, hb1⟩)
    go_ret2
    exact ⟨by rw [hB.out]; rfl, hb1⟩
  · obtain ⟨hA, e1, e2, hi, hk⟩ := pr_some hg
    have hB := Lib.hid (show alB l x y = decide ((clashL (gd l (prI l x y)) (gd l (prK l x y))).length = 0) by rw [alB, hg, clashL_nil]; rfl)
    rw [hg, show prP l x y = prI l x y by simp [prP, hg], show prQ l x y = prK l x y by simp [prQ, hg]] at HP
    replace HP := Lib.hid HP
    clear hg e1 e2
    generalize prI l x y = i at *
    generalize prK l x y = k at *
    obtain ⟨rfl, hbw0, -⟩ := Ent.at hc i hi
    have hyi := areEnt_yr hA hi
    have hyk := areEnt_yr hA hk
    have HC := Lib.hid (fun W => l25Clashes_c (gd l i) (gd l k) W hyi.1 hyi.2 hyk.1 hyk.2)
    clear hyi hyk hA
    go_enter Try.func23, Try.ntmps23
    go_wp2_with (go_at_call 49; refine HP.out.mono ?_; rintro e w1 ⟨rfl, hb1⟩)
    have hz1 := hb1.size
    obtain ⟨-, hbw, c0, c1, c2, c3, c4, c5⟩ := Ent.at (hc.mono hb1) i hi
    obtain ⟨-, -, d0, d1, d2, d3, d4, d5⟩ := Ent.at (hc.mono hb1) k hk
    generalize gd l i = X at *
    generalize gd l k = Y at *
    have HS : (Below w.heap.size w w1 ∧ w.heap.size ≤ w1.heap.size) ∧ w1.cell? ⟨b, off + i * 6, none⟩ = _ ∧ w1.cell? ⟨b, off + i * 6 + 1, none⟩ = _ ∧ w1.cell? ⟨b, off + i * 6 + 2, none⟩ = _ ∧ w1.cell? ⟨b, off + i * 6 + 3, none⟩ = _ ∧ w1.cell? ⟨b, off + i * 6 + 4, none⟩ = _ ∧ w1.cell? ⟨b, off + i * 6 + 5, none⟩ = _ ∧ w1.cell? ⟨b, off + k * 6, none⟩ = _ ∧ w1.cell? ⟨b, off + k * 6 + 1, none⟩ = _ ∧ w1.cell? ⟨b, off + k * 6 + 2, none⟩ = _ ∧ w1.cell? ⟨b, off + k * 6 + 3, none⟩ = _ ∧ w1.cell? ⟨b, off + k * 6 + 4, none⟩ = _ ∧ w1.cell? ⟨b, off + k * 6 + 5, none⟩ = _ := ⟨⟨hb1, hz1⟩, c0, c1, c2, c3, c4, c5, d0, d1, d2, d3, d4, d5⟩
    have D := drewOn w1
    clear c0 c1 c2 c3 c4 c5 d0 d1 d2 d3 d4 d5
    go_region_held3 (fun W => (Below w.heap.size w W ∧ w.heap.size ≤ W.heap.size) ∧ W.cell? ⟨b, off + i * 6, none⟩ = some (.int .i64 X.id) ∧ W.cell? ⟨b, off + i * 6 + 1, none⟩ = some (.string X.ti) ∧ W.cell? ⟨b, off + i * 6 + 2, none⟩ = some (.string X.pl) ∧ W.cell? ⟨b, off + i * 6 + 3, none⟩ = some (.int .i64 X.yr) ∧ W.cell? ⟨b, off + i * 6 + 4, none⟩ = some (.int .i64 X.ct) ∧ W.cell? ⟨b, off + i * 6 + 5, none⟩ = some (.slice X.a X.sub.length X.cap) ∧ W.cell? ⟨b, off + k * 6, none⟩ = some (.int .i64 Y.id) ∧ W.cell? ⟨b, off + k * 6 + 1, none⟩ = some (.string Y.ti) ∧ W.cell? ⟨b, off + k * 6 + 2, none⟩ = some (.string Y.pl) ∧ W.cell? ⟨b, off + k * 6 + 3, none⟩ = some (.int .i64 Y.yr) ∧ W.cell? ⟨b, off + k * 6 + 4, none⟩ = some (.int .i64 Y.ct) ∧ W.cell? ⟨b, off + k * 6 + 5, none⟩ = some (.slice Y.a Y.sub.length Y.cap)) (first | assumption | (refine keep12 (by assumption) (by assumption)))
      (first | (go_at_call 50; refine (HC.out _).mono ?_; rintro e w8 ⟨v8, rfl, o8, b8⟩; obtain ⟨a9, cap9, b9, off9, rfl, -, -, -⟩ := o8.sl Cls.len))
    rename_i _ hH
    go_wp2_with fail
    go_ret2
    refine ⟨?_, hH.1.1⟩
    rw [hB.out]
    generalize (clashL X Y).length = n
    have e : ((n : Int) == 0) = decide (n = 0) := by
      by_cases h : n = 0
      · simp [h]
      · simp [h]
    rw [e]
    rfl
end Go.Proofs.Ytfoahoijmlpcpaa
