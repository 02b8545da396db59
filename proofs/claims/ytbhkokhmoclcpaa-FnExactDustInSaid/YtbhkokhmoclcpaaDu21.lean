/- Chests: the dust that comes in, by the program and by the reference. No condition but sizes. -/
import Derived.Test.YtbhkokhmoclcpaaTm21
import Derived.Test.YtbhkokhmoclcpaaCat
import Derived.Test.YtbhkokhmoclcpaaHeld
namespace Go.Proofs.Ytbhkokhmoclcpaa
open Go.RowKit
def dustV (c : Cst) (n : Int) : Int := if 100 < c.du + (if c.st = 1 then n else n.tdiv 10) then 100 else c.du + (if c.st = 1 then n else n.tdiv 10)
def dustB (c : Cst) (l : List Int) (n : Int) : Bool := areCh c l && inB n 1 100
def dustN (c : Cst) (l : List Int) (n : Int) : Int := if dustB c l n then dustV c n else 0
theorem areCh_du {c : Cst} {l : List Int} (h : areCh c l = true) : 0 ≤ c.du ∧ c.du ≤ 100 := by
  simp only [areCh, tailB, Bool.and_eq_true] at h
  exact inB_iff.1 h.2.1.1.1.2
theorem tdiv_small {n : Int} (h : 1 ≤ n) (h' : n ≤ 100) : 0 ≤ n.tdiv 10 ∧ n.tdiv 10 ≤ 100 := by
  rw [Int.tdiv_eq_ediv_of_nonneg (by omega)]; omega
set_option maxHeartbeats 1000000 in
theorem dusted_c (c : Cst) (v : Value) (l : List Int) (n : Int) (w : World) (h : Sl w IntE.enc 1 v l) (hd : areCh c l = true) (h1 : 1 ≤ n) (h2 : n ≤ 100) : Calls Try.prog 34 #[cval c v, .int .i64 n] w fun e w' => e = .returned (.int .i64 (dustV c n)) ∧ Below w.heap.size w w' := by
  obtain ⟨a, cap, b, off, rfl, hlc, hm, hc⟩ := h
  obtain ⟨hd1, hd2⟩ := areCh_du hd
  have hq := tdiv_small h1 h2
  have hst := areCh_st hd
  obtain ⟨st, key, du, la, gi⟩ := c
  simp only at hd1 hd2 hst
  unfold cval
  clear hd
  by_cases hs : st = 1
  · subst hs
    go_enter Try.func34, Try.ntmps34
    go_wp2
    all_goals go_ret
    all_goals refine ⟨ret_int ?_, by go_grown⟩
    all_goals rw [dustV]
    all_goals simp
    all_goals omega
  · go_enter Try.func34, Try.ntmps34
    go_wp2
    all_goals go_ret
    all_goals refine ⟨ret_int ?_, by go_grown⟩
    all_goals rw [dustV]
    all_goals simp [hs]
    all_goals omega
set_option maxHeartbeats 1000000 in
theorem dustIn_c (c : Cst) (v : Value) (l : List Int) (n : Int) (w : World) (h : Sl w IntE.enc 1 v l) : Calls Try.prog 20 #[cval c v, .int .i64 n] w fun e w' => e = .returned (.tuple #[.int .i64 (dustN c l n), .bool (dustB c l n)]) ∧ Below w.heap.size w w' := by
  have H := fun w h => isChest_c c v l w h
  have G := fun w h hd h1 h2 => dusted_c c v l n w h hd h1 h2
  have h0 := Lib.hid h
  obtain ⟨a, cap, b, off, rfl, hlc, hm, hc⟩ := h
  have hB : Hid (dustB c l n = (areCh c l && inB n 1 100)) := rfl
  have hN : Hid (dustN c l n = if dustB c l n then dustV c n else 0) := rfl
  unfold cval at H G ⊢
  cases hd : areCh c l <;> cases hi : inB n 1 100
  case true.true =>
    rw [hd] at H hB
    rw [hi] at hB
    obtain ⟨h1, h2⟩ := inB_iff.1 hi
    have G := Lib.hid fun W hW => G W hW hd h1 h2
    replace H := Lib.hid H
    clear hd
    go_enter Try.func20, Try.ntmps20
    go_wp2_with (first | (go_at_call 11; refine (H.out _ (h0.out.mono (below_alloc _ _))).mono ?_; rintro e w' ⟨rfl, hbq⟩; obtain ⟨p, rfl⟩ := ext_of_below hbq; clear hbq) | (go_at_call 27; refine (within_c _ _ _ _).mono ?_; rintro e w' ⟨rfl, rfl⟩) | (go_at_call 34; refine (G.out _ (h0.out.mono (bext (below_alloc _ _) (by simp) _))).mono ?_; rintro e w' ⟨rfl, hbq⟩; obtain ⟨p, rfl⟩ := ext_of_below hbq; clear hbq))
    go_returns
    exact ⟨ret_nb (by rw [hN.out, hB.out]; rfl) (by rw [hB.out]; rfl), bext (bext (below_alloc _ _) (by simp) _) (by simp; try omega) _⟩
  all_goals
    rw [hd] at H hB
    rw [hi] at hB
    clear G
    replace H := Lib.hid H
    clear hd
    go_enter Try.func20, Try.ntmps20
    go_wp2_with (first | (go_at_call 11; refine (H.out _ (h0.out.mono (below_alloc _ _))).mono ?_; rintro e w' ⟨rfl, hbq⟩; obtain ⟨p, rfl⟩ := ext_of_below hbq; clear hbq) | (go_at_call 27; refine (within_c _ _ _ _).mono ?_; rintro e w' ⟨rfl, rfl⟩))
    go_returns
    exact ⟨ret_nb (by rw [hN.out, hB.out]; rfl) (by rw [hB.out]; rfl), bext (below_alloc _ _) (by simp) _⟩

set_option maxHeartbeats 400000 in
theorem l1Least_c (x y : Int) (w : World) : Calls Try.prog 36 #[.int .i64 x, .int .i64 y] w fun e w' => e = .returned (.int .i64 (if x < y then x else y)) ∧ w = w' := by
  by_cases hd : x < y
  all_goals
    go_enter Try.func36, Try.ntmps36
    go_wp2
    go_ret
    exact ⟨ret_int (by first | rfl | rw [if_pos hd] | rw [if_neg (by omega)]), rfl⟩
set_option maxHeartbeats 400000 in
theorem l1Own_c (v : Value) (l : List Int) (w : World) (h : Sl w IntE.enc 1 v l) (hl : l.length ≤ 1048576) : Calls Try.prog 37 #[v] w (RetOwn w 3 IntE.enc 1 l) := by
  obtain ⟨i, hi, hz0, hz1, hz2⟩ := info_parts (show (Try.prog.info? 3).map (fun i => (i.zero, i.size, i.bytes)) = some (some (.int .i64 0), 1, 8) by kernel_rfl)
  go_enter Try.func37, Try.ntmps37
  go_wp2_with (at_builtin; refine wpList_cat IntE.len (fun x u hu => by simp [IntE.enc] at hu; subst hu; rfl) rfl _ _ 22 rfl w.heap.size 3 i _ 8 Try.underlying22 hi hz0 hz1 hz2 rfl (by omega) _ [] rfl (Own.empty w _ _ _ _ (Nat.le_refl _)) v l rfl (h.mono (below_alloc _ _)) (by simp [maxLen]; omega) (by simp; omega) (by simp) ?_)
  intro v' w' h2 h3
  go_wp2_with fail
  go_ret
  exact ⟨v', rfl, h2, (below_alloc _ _).grown h3 (by simp) (fun g hg => (Own.empty w w.heap.size 3 IntE.enc 1 (Nat.le_refl _)).bounds g hg |>.1)⟩
set_option maxHeartbeats 400000 in
theorem l21Own_c (c : Cst) (v : Value) (l : List Int) (w : World) (h : Sl w IntE.enc 1 v l) (hl : l.length ≤ 1048576) : Calls Try.prog 35 #[cval c v] w (RetCh w c l) := by
  have h0 := Lib.hid h
  obtain ⟨a, cap, b, off, rfl, _, _, _⟩ := h
  unfold cval
  go_enter Try.func35, Try.ntmps35
  go_wp2_with fail
  refine (l1Own_c _ l _ (h0.out.mono (btrans (below_alloc _ _) (below_alloc _ _))) hl).mono ?_
  rintro e w1 ⟨v1, rfl, o1, b1⟩
  have hv := o1.sl IntE.len
  obtain ⟨a1, cap1, b1', off1, rfl, _, _, _⟩ := hv
  obtain ⟨p, rfl⟩ := ext_of_below b1
  go_wp2
  go_returns
  refine ⟨_, rfl, (o1.rebase (by simp) (by simp)).lower (by simp; omega), ?_⟩
  exact bext (btrans (below_alloc _ _) (below_alloc _ _)) (by simp; omega) _
/-- a call that hands back a chest with a stack of its own, and true -/
def RetChB (w : World) (c : Cst) (l : List Int) (e : Ending) (w' : World) : Prop := ∃ v, e = .returned (.tuple #[cval c v, .bool true]) ∧ Own w' w.heap.size 3 IntE.enc 1 v l ∧ Below w.heap.size w w'
set_option maxHeartbeats 1000000 in
theorem l21Dusty_c (c : Cst) (v : Value) (l : List Int) (n : Int) (w : World) (h : Sl w IntE.enc 1 v l) (hl : l.length ≤ 1048576) (hd : areCh c l = true) (h1 : 1 ≤ n) (h2 : n ≤ 100) : Calls Try.prog 33 #[cval c v, .int .i64 n] w (RetChB w ⟨c.st, c.key, dustV c n, c.la, c.gi⟩ l) := by
  have G := fun w h => l21Own_c c v l w h hl
  have h0 := Lib.hid h
  obtain ⟨a, cap, b, off, rfl, _, _, _⟩ := h
  obtain ⟨hd1, hd2⟩ := areCh_du hd
  have hq := tdiv_small h1 h2
  have hst := areCh_st hd
  obtain ⟨st, key, du, la, gi⟩ := c
  simp only at hd1 hd2 hst
  unfold cval at G ⊢
  replace G := Lib.hid G
  clear hd
  by_cases hs : st = 1
  · subst hs
    have L : ∀ W, Calls Try.prog 36 #[.int .i64 100, .int .i64 (du + n)] W fun e w' => e = .returned (.int .i64 (dustV ⟨1, key, du, la, gi⟩ n)) ∧ W = w' := fun W => l1Least_c 100 (du + n) W
    replace L := Lib.hid L
    generalize dustV ⟨1, key, du, la, gi⟩ n = dv at L ⊢
    go_enter Try.func33, Try.ntmps33
    go_wp2_with fail
    refine (G.out _ (h0.out.mono (btrans (below_alloc _ _) (below_alloc _ _)))).mono ?_
    rintro e w1 ⟨v1, rfl, o1, b1⟩
    have hv := o1.sl IntE.len
    obtain ⟨a1, cap1, b1', off1, rfl, _, _, _⟩ := hv
    obtain ⟨p, rfl⟩ := ext_of_below b1
    simp only [cval]
    go_wp2_with (go_at_call 36; refine (L.out _).mono ?_; rintro e w' ⟨rfl, rfl⟩)
    go_returns
    exact ⟨_, rfl, ((o1.rebase (by simp) (by simp)).lower (by simp; omega)).mono (below_alloc _ _), btrans (bext (btrans (below_alloc _ _) (below_alloc _ _)) (by simp; omega) _) (below_alloc _ _)⟩
  · have L : ∀ W, Calls Try.prog 36 #[.int .i64 100, .int .i64 (du + n.tdiv 10)] W fun e w' => e = .returned (.int .i64 (dustV ⟨st, key, du, la, gi⟩ n)) ∧ W = w' := fun W => by
      have := l1Least_c 100 (du + n.tdiv 10) W
      simpa [dustV, hs] using this
    replace L := Lib.hid L
    generalize dustV ⟨st, key, du, la, gi⟩ n = dv at L ⊢
    go_enter Try.func33, Try.ntmps33
    go_wp2_with fail
    refine (G.out _ (h0.out.mono (btrans (below_alloc _ _) (below_alloc _ _)))).mono ?_
    rintro e w1 ⟨v1, rfl, o1, b1⟩
    have hv := o1.sl IntE.len
    obtain ⟨a1, cap1, b1', off1, rfl, _, _, _⟩ := hv
    obtain ⟨p, rfl⟩ := ext_of_below b1
    simp only [cval]
    go_wp2_with (go_at_call 36; refine (L.out _).mono ?_; rintro e w' ⟨rfl, rfl⟩)
    go_returns
    exact ⟨_, rfl, ((o1.rebase (by simp) (by simp)).lower (by simp; omega)).mono (below_alloc _ _), btrans (bext (btrans (below_alloc _ _) (below_alloc _ _)) (by simp; omega) _) (below_alloc _ _)⟩
set_option maxHeartbeats 1000000 in
theorem specDustIn_c (c : Cst) (v : Value) (l : List Int) (n : Int) (w : World) (h : Sl w IntE.enc 1 v l) (hl : l.length ≤ 1048576) : Calls Try.prog 19 #[cval c v, .int .i64 n] w fun e w' => e = .returned (.tuple #[.int .i64 (dustN c l n), .bool (dustB c l n)]) ∧ Below w.heap.size w w' := by
  have H := fun w h => l21Good_c c v l w h
  have G := fun w h hd h1 h2 => l21Dusty_c c v l n w h hl hd h1 h2
  have h0 := Lib.hid h
  obtain ⟨a, cap, b, off, rfl, hlc, hm, hc⟩ := h
  have hB : Hid (dustB c l n = (areCh c l && inB n 1 100)) := rfl
  have hN : Hid (dustN c l n = if dustB c l n then dustV c n else 0) := rfl
  unfold cval at H G ⊢
  cases hd : areCh c l <;> cases hi : inB n 1 100
  case true.true =>
    rw [hd] at H hB
    rw [hi] at hB
    obtain ⟨h1, h2⟩ := inB_iff.1 hi
    have G := Lib.hid fun W hW => G W hW hd h1 h2
    replace H := Lib.hid H
    clear hd
    go_enter Try.func19, Try.ntmps19
    go_wp2_with (first | (go_at_call 22; refine (H.out _ (h0.out.mono (below_alloc _ _))).mono ?_; rintro e w' ⟨rfl, hbq⟩; obtain ⟨p, rfl⟩ := ext_of_below hbq; clear hbq) | (go_at_call 32; refine (l1In_c _ _ _ _).mono ?_; rintro e w' ⟨rfl, rfl⟩))
    refine (G.out _ (h0.out.mono (bext (below_alloc _ _) (by simp) _))).mono ?_
    rintro e w1 ⟨v1, rfl, o1, b1⟩
    have hv := o1.sl IntE.len
    obtain ⟨a1, cap1, b1', off1, rfl, _, _, _⟩ := hv
    have b2 := btrans (bext (below_alloc _ _) (by simp) _) b1
    simp only [cval]
    go_wp2
    go_returns
    refine ⟨ret_nb (by rw [hN.out, hB.out]; rfl) (by rw [hB.out]; rfl), ?_⟩
    refine btrans b2 ?_
    go_grown
  all_goals
    rw [hd] at H hB
    rw [hi] at hB
    clear G
    replace H := Lib.hid H
    clear hd
    go_enter Try.func19, Try.ntmps19
    go_wp2_with (first | (go_at_call 22; refine (H.out _ (h0.out.mono (below_alloc _ _))).mono ?_; rintro e w' ⟨rfl, hbq⟩; obtain ⟨p, rfl⟩ := ext_of_below hbq; clear hbq) | (go_at_call 32; refine (l1In_c _ _ _ _).mono ?_; rintro e w' ⟨rfl, rfl⟩))
    go_returns
    exact ⟨ret_nb (by rw [hN.out, hB.out]; rfl) (by rw [hB.out]; rfl), bext (below_alloc _ _) (by simp) _⟩
end Go.Proofs.Ytbhkokhmoclcpaa