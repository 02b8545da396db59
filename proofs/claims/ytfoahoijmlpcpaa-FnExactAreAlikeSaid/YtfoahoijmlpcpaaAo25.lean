/- Entries: AreAlike, by the program. No condition but sizes. -/
import Derived.Test.YtfoahoijmlpcpaaAm25
namespace Go.Proofs.Ytfoahoijmlpcpaa
open Go.RowKit
set_option maxHeartbeats 2000000 in
set_option maxRecDepth 100000 in
theorem areAlike_c (v : Value) (l : List Ent) (x y : Int) (w : World) (h : Sl w Ent.enc 6 v l) (hd : Ent.Deep w l) (hs : ∀ i, i < l.length → (gd l i).Fits) : Calls Try.prog 24 #[v, .int .i64 x, .int .i64 y] w fun e w' => e = .returned (.tuple #[.bool (alB l x y), .bool (prGood l x y)]) ∧ Below w.heap.size w w' := by
  have HP := pairOf_c v l x y w h hd hs
  obtain ⟨a, cap, b, off, rfl, hlc, hm, hc⟩ := h
  unfold maxLen at hm
  cases hg : prGood l x y
  · have hB := Lib.hid (show alB l x y = false by rw [alB, hg]; rfl)
    rw [hg] at HP
    replace HP := Lib.hid HP
    clear hg
    generalize idxInt (entIdx l (min x y)) = p at HP
    generalize idxInt (entIdx l (max x y)) = q at HP
    go_enter Try.func24, Try.ntmps24
    go_wp2_with (go_at_call 51; refine HP.out.mono ?_; rintro e w1 ⟨rfl, hb1⟩)
    have hz1 := hb1.size
    refine wp_region_ext (by kernel_rfl) (by kernel_rfl) ?_
    repeat (any_goals (first | go_big_quiet_step (fail)))
    (refine wpQuiet_nil ?_)
    (rintro _ ⟨q, rfl⟩)
    go_wp2_with fail
    go_ret2
    exact ⟨by rw [hB.out]; rfl, (by repeat' (first | exact Below.refl _ _ | with_reducible assumption | refine bext ?_ ?_ _ | refine Below.alloc ?_ ?_ _ | refine Below.setCell ?_ ?_ _ | refine Below.drew ?_ | (simp; done) | (have hbz := hb.size; first | omega | (simp; omega)) | (simp; omega) | omega))⟩
  · obtain ⟨hA, e1, e2, hi, hk⟩ := pr_some hg
    have hB := Lib.hid (show alB l x y = alikeB (gd l (prI l x y)) (gd l (prK l x y)) by rw [alB, hg]; rfl)
    rw [hg, e1, e2] at HP
    replace HP := Lib.hid (show Calls Try.prog 51 #[_, .int .i64 x, .int .i64 y] w fun e w' => e = .returned (.tuple #[.int .i64 (prI l x y : Int), .int .i64 (prK l x y : Int), .bool true]) ∧ Below w.heap.size w w' from HP)
    clear hg e1 e2
    generalize prI l x y = i at *
    generalize prK l x y = k at *
    obtain ⟨rfl, hbw0, z0, z1, z2, z3, z4, z5⟩ := Ent.at hc i hi
    have hAl := Lib.hid (fun W => alike_c (gd l i) (gd l k) W)
    go_enter Try.func24, Try.ntmps24
    go_wp2_with (go_at_call 51; refine HP.out.mono ?_; rintro e w1 ⟨rfl, hb1⟩)
    have hz1 := hb1.size
    obtain ⟨-, hbw, c0, c1, c2, c3, c4, c5⟩ := Ent.at (hc.mono hb1) i hi
    obtain ⟨-, -, d0, d1, d2, d3, d4, d5⟩ := Ent.at (hc.mono hb1) k hk
    refine wp_region_ext (by kernel_rfl) (by kernel_rfl) ?_
    repeat (any_goals (first | go_big_quiet_step ((go_at_call 52; exact Calls.ext_of (hAl.out _)))))
    (refine wpQuiet_nil ?_)
    (rintro _ ⟨q, rfl⟩)
    go_wp2_with fail
    go_ret2
    exact ⟨by rw [hB.out]; rfl, (by repeat' (first | exact Below.refl _ _ | with_reducible assumption | refine bext ?_ ?_ _ | refine Below.alloc ?_ ?_ _ | refine Below.setCell ?_ ?_ _ | refine Below.drew ?_ | (simp; done) | (have hbz := hb.size; first | omega | (simp; omega)) | (simp; omega) | omega))⟩
end Go.Proofs.Ytfoahoijmlpcpaa
