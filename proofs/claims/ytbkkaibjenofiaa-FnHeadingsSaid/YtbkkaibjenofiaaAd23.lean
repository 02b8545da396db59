/- Headings: a heading added. By the program and by the reference. No condition but sizes. -/
import Derived.Test.YtbkkaibjenofiaaMv23
import Derived.Deep.RegionHeld3
namespace Go.Proofs.Ytbkkaibjenofiaa
open Go.RowKit
/-- a call that hands back headings of its own that read as B does, a number and a bool -/
def Hdg.RetNIB (w : World) (B : List Hdg) (n : Int) (ok : Bool) (e : Ending) (w' : World) : Prop := ∃ (v' : Value) (l' : List Hdg), e = .returned (.tuple #[v', .int .i64 n, .bool ok]) ∧ Hdg.OwnN w' w.heap.size w'.heap.size v' l' ∧ l'.map Hdg.bare = B ∧ Below w.heap.size w w'
def adId (l : List Hdg) : Int := if l.length = 0 then 1 else (gd l (l.length - 1)).id + 1
def adX (l : List Hdg) (s : ByteArray) (u : Int) : Hdg := ⟨adId l, s, u, none, 0, []⟩
def adL (l : List Hdg) (s : ByteArray) (u : Int) : List Hdg := l ++ [adX l s u]
def adGood (l : List Hdg) (s : ByteArray) (u : Int) : Bool := areHd l && areHd (adL l s u)
def adB (l : List Hdg) (s : ByteArray) (u : Int) : List Hdg := if adGood l s u then (adL l s u).map Hdg.bare else []
def adI (l : List Hdg) (s : ByteArray) (u : Int) : Int := if adGood l s u then adId l else 0
theorem adId_same {l l' : List Hdg} (h : l'.map Hdg.bare = l.map Hdg.bare) : adId l' = adId l := by
  have hl : l'.length = l.length := by simpa using congrArg List.length h
  unfold adId
  rw [hl]
  by_cases h0 : l.length = 0
  · rw [if_pos h0, if_pos h0]
  · rw [if_neg h0, if_neg h0, (Hdg.sub_eq (map_same_at h (l.length - 1) (by omega)).2).1]
theorem adL_same {l l' : List Hdg} (h : l'.map Hdg.bare = l.map Hdg.bare) (x : Hdg) : (l' ++ [x]).map Hdg.bare = (l ++ [x]).map Hdg.bare := by rw [List.map_append, List.map_append, h]
theorem ad_same {l l' : List Hdg} (h : l'.map Hdg.bare = l.map Hdg.bare) (s : ByteArray) (u : Int) : adB l' s u = adB l s u ∧ adI l' s u = adI l s u ∧ adGood l' s u = adGood l s u := by
  have e1 : adX l' s u = adX l s u := by rw [adX, adX, adId_same h]
  have e2 : (adL l' s u).map Hdg.bare = (adL l s u).map Hdg.bare := by rw [adL, adL, e1, adL_same h]
  have eg : adGood l' s u = adGood l s u := by rw [adGood, adGood, areHd_same h, areHd_same e2]
  exact ⟨by rw [adB, adB, eg, e2], by rw [adI, adI, eg, adId_same h], eg⟩
theorem adB_bound (l : List Hdg) (s : ByteArray) (u : Int) : (adB l s u).length ≤ 1048577 ∧ ∀ i, i < (adB l s u).length → (gd (adB l s u) i).sub.length ≤ 1048577 := by
  unfold adB
  split
  · rename_i h
    simp only [adGood, Bool.and_eq_true] at h
    exact bare_bound h.2
  · exact ⟨by simp, fun i hi => by simp at hi⟩
theorem ad_fits {l l' : List Hdg} (h : l'.map Hdg.bare = l.map Hdg.bare) (hs : ∀ i, i < l.length → (gd l i).Fits) (x : Hdg) (hx : x.Fits) : ∀ i, i < (l' ++ [x]).length → (gd (l' ++ [x]) i).Fits := fun i hi => by
  have hf := Hdg.fits h hs
  have hl : l'.length = l.length := by simpa using congrArg List.length h
  rw [List.length_append, List.length_singleton] at hi
  by_cases e : i < l'.length
  · rw [gd_append e]; exact hf i e
  · obtain rfl : i = l'.length := by omega
    rw [gd_append_last]; exact hx
theorem adId_bound {l : List Hdg} (h : areHd l = true) : 1 ≤ adId l ∧ adId l ≤ 100 := by
  unfold adId
  split
  · omega
  · have := hdHead_b (areHd_heads h (l.length - 1) (by omega))
    omega
theorem no_block (q : Int) (s : ByteArray) (u : Int) {H : Nat} : ∀ b, (Hdg.hv ⟨q, s, u, none, 0, []⟩).ownBlock = some b → H ≤ b := fun b hb => absurd (show (none : Option Nat) = some b from hb) (by simp)
theorem box4 {W : World} {b : Nat} {v0 v1 v2 v3 : Value} (h : BoxAt W b [v0, v1, v2, v3]) : W.cell? ⟨b, 0, none⟩ = some v0 ∧ W.cell? ⟨b, 1, none⟩ = some v1 ∧ W.cell? ⟨b, 2, none⟩ = some v2 ∧ W.cell? ⟨b, 3, none⟩ = some v3 := ⟨h.2 0 _ rfl, h.2 1 _ rfl, h.2 2 _ rfl, h.2 3 _ rfl⟩
theorem box4_of {W : World} {b : Nat} {v0 v1 v2 v3 : Value} (hb : b < W.heap.size) (h0 : W.cell? ⟨b, 0, none⟩ = some v0) (h1 : W.cell? ⟨b, 1, none⟩ = some v1) (h2 : W.cell? ⟨b, 2, none⟩ = some v2) (h3 : W.cell? ⟨b, 3, none⟩ = some v3) : BoxAt W b [v0, v1, v2, v3] :=
  ⟨hb, fun j v hv => by
    match j, hv with
    | 0, hv => injection hv with hv; subst hv; exact h0
    | 1, hv => injection hv with hv; subst hv; exact h1
    | 2, hv => injection hv with hv; subst hv; exact h2
    | 3, hv => injection hv with hv; subst hv; exact h3
    | j + 4, hv => simp at hv⟩
theorem boxS {w W : World} {b : Nat} {v0 v1 v2 v3 : Value} (h : (Below w.heap.size w W ∧ w.heap.size ≤ W.heap.size) ∧ W.cell? ⟨b, 0, none⟩ = some v0 ∧ W.cell? ⟨b, 1, none⟩ = some v1 ∧ W.cell? ⟨b, 2, none⟩ = some v2 ∧ W.cell? ⟨b, 3, none⟩ = some v3) : BoxAt W b [v0, v1, v2, v3] :=
  box4_of (block_lt_of_cell h.2.1) h.2.1 h.2.2.1 h.2.2.2.1 h.2.2.2.2
theorem boxGrown4 {W W' : World} {b : Nat} {cs : List Value} {row : Option Nat} (h : BoxAt W b cs) (hg : W.grownBy W' row) (hne : some b ≠ row) : BoxAt W' b cs := by
  refine ⟨Nat.lt_of_lt_of_le h.1 hg.size, fun j v hv => ?_⟩
  have e := hg.block b h.1 hne
  have := h.2 j v hv
  simp only [World.cell?] at this ⊢
  rw [e]
  exact this
set_option maxHeartbeats 4000000 in
set_option maxRecDepth 100000 in
theorem addHeading_c (v : Value) (l : List Hdg) (s : ByteArray) (u : Int) (w : World) (h : Sl w Hdg.enc 4 v l) (hd : Hdg.Deep w l) (hs : ∀ i, i < l.length → (gd l i).Fits) (hsz : s.size ≤ maxLen) (hls : ∀ i, i < l.length → (gd l i).sub.length ≤ 1048577) : Calls Try.prog 21 #[v, .string s, .int .i64 u] w (Hdg.RetNIB w (adB l s u) (adI l s u) (adGood l s u)) := by
  have HA := Lib.hid (fun W (hB : Below w.heap.size w W) => areHeadings_c v l W (h.mono hB) (hd.mono hB) hs)
  have HC := fun hl => Lib.hid (fun W (hB : Below w.heap.size w W) => copyHeadings_c v l W (h.mono hB) (hd.mono hB) hl hls)
  have hB' := Lib.hid (show adB l s u = if adGood l s u then (adL l s u).map Hdg.bare else [] from rfl)
  have hI' := Lib.hid (show adI l s u = if adGood l s u then adId l else 0 from rfl)
  obtain ⟨i, hi, hz0, hz1, hz2⟩ := info_parts (show (Try.prog.info? 55).map (fun i => (i.zero, i.size, i.bytes)) = some (some (.agg #[.int .i64 0, .string ByteArray.empty, .int .i64 0, .slice none 0 0]), 4, 56) by kernel_rfl)
  obtain ⟨a, cap, b, off, rfl, hlc, hm, hc⟩ := h
  unfold maxLen at hm
  cases hA : areHd l
  · have hg : adGood l s u = false := by rw [adGood, hA]; rfl
    rw [hg] at hB' hI' ⊢
    rw [show adB l s u = [] from hB'.out, show adI l s u = 0 from hI'.out]
    rw [hA] at HA
    replace HA := Lib.hid HA.out
    clear hA hg HC
    go_enter Try.func21, Try.ntmps21
    go_wp2_with (go_at_call 25; refine (HA.out _ (by repeat' (first | exact Below.refl _ _ | with_reducible assumption | refine bext ?_ ?_ _ | refine Below.alloc ?_ ?_ _ | refine Below.setCell ?_ ?_ _ | refine Below.drew ?_ | (simp; done) | (have hbz := hb.size; first | omega | (simp; omega)) | (simp; omega) | omega))).mono ?_; rintro e w' ⟨rfl, hbq⟩; obtain ⟨p, rfl⟩ := ext_of_below hbq; clear hbq)
    go_ret3
    exact ⟨_, [], rfl, NOwn.nil _ _ _, rfl, (by repeat' (first | exact Below.refl _ _ | with_reducible assumption | refine bext ?_ ?_ _ | refine Below.alloc ?_ ?_ _ | refine Below.setCell ?_ ?_ _ | refine Below.drew ?_ | (simp; done) | (have hbz := hb.size; first | omega | (simp; omega)) | (simp; omega) | omega))⟩
  · have h15 := areHd_len hA
    have hid := adId_bound hA
    have hg : adGood l s u = areHd (l ++ [adX l s u]) := by rw [adGood, hA]; rfl
    rw [hg, show adL l s u = l ++ [adX l s u] from rfl] at hB'
    rw [hg] at hI'
    rw [hg]
    obtain ⟨ok, hok⟩ : ∃ ok, areHd (l ++ [adX l s u]) = ok := ⟨_, rfl⟩
    rw [hok] at hB' hI' ⊢
    replace hok := Lib.hid hok
    generalize adB l s u = B at hB' ⊢
    generalize adI l s u = I at hI' ⊢
    replace HC := HC (by omega)
    rw [hA] at HA
    replace HA := Lib.hid HA.out
    replace hs := Lib.hid hs
    have hdI := Lib.hid (show adId l = if l.length = 0 then 1 else (gd l (l.length - 1)).id + 1 from rfl)
    have hdX := Lib.hid (show adX l s u = ⟨adId l, s, u, none, 0, []⟩ from rfl)
    have hhd := Lib.hid (areHd_heads hA)
    clear hg hA hd
    go_enter Try.func21, Try.ntmps21
    go_upto_region 4 with (go_at_call 25; refine (HA.out _ (by repeat' (first | exact Below.refl _ _ | with_reducible assumption | refine bext ?_ ?_ _ | refine Below.alloc ?_ ?_ _ | refine Below.setCell ?_ ?_ _ | refine Below.drew ?_ | (simp; done) | (have hbz := hb.size; first | omega | (simp; omega)) | (simp; omega) | omega))).mono ?_; rintro e w' ⟨rfl, hbq⟩; obtain ⟨p, rfl⟩ := ext_of_below hbq; clear hbq)
    have X1 : BoxAt ((ext w p).alloc (.cells #[.int .i64 1, .string s, .int .i64 u, .slice none 0 0] 55)) (w.heap.size + p.os.size) [.int .i64 1, .string s, .int .i64 u, .slice none 0 0] := by
      have := BoxAt.new (ext w p) [.int .i64 1, .string s, .int .i64 u, .slice none 0 0] 55
      simpa using this
    have B1 : Below w.heap.size w ((ext w p).alloc (.cells #[.int .i64 1, .string s, .int .i64 u, .slice none 0 0] 55)) := (by repeat' (first | exact Below.refl _ _ | with_reducible assumption | refine bext ?_ ?_ _ | refine Below.alloc ?_ ?_ _ | refine Below.setCell ?_ ?_ _ | refine Below.drew ?_ | (simp; done) | (have hbz := hb.size; first | omega | (simp; omega)) | (simp; omega) | omega))
    have z0 : ((ext w p).alloc (.cells #[.int .i64 1, .string s, .int .i64 u, .slice none 0 0] 55)).frozen? ⟨w.heap.size + p.os.size, 0, none⟩ = false := by
      have := show ((ext w p).alloc (.cells #[.int .i64 1, .string s, .int .i64 u, .slice none 0 0] 55)).frozen? ⟨(ext w p).heap.size, 0, none⟩ = false by simp only [go_sem]
      rwa [size_ext] at this
    have hbk : w.heap.size ≤ w.heap.size + p.os.size := Nat.le_add_right _ _
    generalize (ext w p).alloc (.cells #[.int .i64 1, .string s, .int .i64 u, .slice none 0 0] 55) = W1 at X1 B1 z0 ⊢
    generalize w.heap.size + p.os.size = bk at X1 z0 hbk ⊢
    go_upto_if 19 with fail
    go_cut [] from 11 (fun W => Below w.heap.size w W ∧ BoxAt W bk [.int .i64 (adId l), .string s, .int .i64 u, .slice none 0 0])
    case first =>
      by_cases h0 : l.length = 0
      · have hd0 := Lib.hid (show adId l = 1 by rw [hdI.out, if_pos h0])
        go_wp2_with fail
        go_meet
        case rel => exact ⟨B1, by rw [hd0.out]; exact X1⟩
      · have hd0 := Lib.hid (show adId l = (gd l (l.length - 1)).id + 1 by rw [hdI.out, if_neg h0])
        obtain ⟨rfl, -⟩ := hc (l.length - 1) (by omega)
        obtain ⟨-, hbw, c0, -⟩ := Hdg.at (hc.mono B1) (l.length - 1) (by omega)
        have hh := hdHead_b (hhd.out (l.length - 1) (by omega))
        have hx0 := X1.1
        have hn1 : ((l.length : Int) - 1).toNat = l.length - 1 := by omega
        obtain ⟨y0, y1, y2, y3⟩ := box4 X1
        have hX := Lib.hid X1
        have hB := Lib.hid B1
        clear B1 X1
        go_wp2_with fail
        go_meet
        case rel =>
          refine ⟨hB.out.setCell (p := ⟨bk, 0, none⟩) hbk _, ?_⟩
          rw [hd0.out]
          exact box4_of (by simpa using hx0) (by simp [go_sem, y0]) (by simp [go_sem, y1]) (by simp [go_sem, y2]) (by simp [go_sem, y3])
    case rest =>
    clear X1 B1 z0 W1 HA
    obtain ⟨BW, XW⟩ := hcut
    go_upto_region 6 with fail
    have hbw := XW.1
    obtain ⟨y0, y1, y2, y3⟩ := box4 XW
    have D := drewOn wc
    have HS : (Below w.heap.size w wc ∧ w.heap.size ≤ wc.heap.size) ∧ wc.cell? ⟨bk, 0, none⟩ = some (.int .i64 (adId l)) ∧ wc.cell? ⟨bk, 1, none⟩ = some (.string s) ∧ wc.cell? ⟨bk, 2, none⟩ = some (.int .i64 u) ∧ wc.cell? ⟨bk, 3, none⟩ = some (.slice none 0 0) := ⟨⟨BW, BW.size⟩, y0, y1, y2, y3⟩
    have hdX' := Lib.hid hdX.out
    obtain ⟨q, hq⟩ : ∃ q, q = adId l := ⟨_, rfl⟩
    rw [← hq] at HS hdX XW hid
    replace hq := Lib.hid hq
    have BWz : w.heap.size ≤ wc.heap.size := BW.size
    clear y0 y1 y2 y3 BW XW hdX' hdI hhd
    go_region_held3 (fun W => (Below w.heap.size w W ∧ w.heap.size ≤ W.heap.size) ∧ W.cell? ⟨bk, 0, none⟩ = some (.int .i64 q) ∧ W.cell? ⟨bk, 1, none⟩ = some (.string s) ∧ W.cell? ⟨bk, 2, none⟩ = some (.int .i64 u) ∧ W.cell? ⟨bk, 3, none⟩ = some (.slice none 0 0)) (first | assumption | (exact keep4 D HS) | (exact keep4 b8 (by assumption)) | (refine keep4 (below_alloc _ _) (by assumption)) | (exact ⟨⟨hB9.out, hB9.out.size⟩, box4 hX9.out⟩) | fail)
      (first | (go_at_call 68; refine (HC.out _ (And.left (And.left (by assumption)))).mono ?_; rintro e w8 ⟨v8, l8, rfl, N8, e8, b8⟩; have hl8 : l8.length ≤ 15 := (by have := congrArg List.length e8; simp at this; omega); replace e8 := Lib.hid e8; have hb8 : ∀ g, v8.ownBlock = some g → wc.heap.size ≤ g := (fun g hg => by have := (N8.own.bounds g hg).1; simp at this; omega); replace N8 := Lib.hid N8) | (refine step_pushAt Hdg.len Hdg.one (by rfl) (.tmp 30) (.tmp 32) 24 (by rfl) _ 55 i _ 56 Try.underlying24 hi hz0 hz1 hz2 (by rfl) (by omega) _ l8 (by rfl) (NOwn.mono N8.out (below_alloc _ _)).own _ 1 ⟨q, s, u, none, 0, []⟩ (by rfl) (fun j t ht => new_cells _ [.int .i64 q, .string s, .int .i64 u, .slice none 0 0] _ _ (by simp) j t ht) (by unfold maxLen; omega) (by omega) (Nat.le_trans b8.size (by simp)) ?_; intro v' w3 ho3 hg3 hat3; have hX9 := Lib.hid (boxGrown4 (boxS (by assumption)) hg3 (fun e => by have := hb8 _ e.symm; omega)); have hB9 : Hid (Below w.heap.size w w3) := Below.grown (And.left (And.left (by assumption))) hg3 (And.right (And.left (by assumption))) (fun g hg => by have := hb8 g hg; omega); have N9 : Hid (Hdg.OwnN w3 w.heap.size w3.heap.size v' (l8 ++ [⟨q, s, u, none, 0, []⟩])) := NOwn.wide (NOwn.push (NOwn.mono N8.out (below_alloc _ _)) ho3 hg3 (by first | exact hat3 | (simpa using hat3)) (by simp) (Own.nil _ _ _ _ _) (no_block _ _ _)) (by have := BWz; first | omega | (simp; omega)) (Nat.le_refl _)) | (refine step_pushAt Hdg.len Hdg.one (by rfl) (.tmp 30) (.tmp 32) 24 (by rfl) _ 55 i _ 56 Try.underlying24 hi hz0 hz1 hz2 (by rfl) (by omega) _ l8 (by rfl) N8.out.own _ 1 ⟨q, s, u, none, 0, []⟩ (by rfl) (fun j t ht => cellOn b8 (new_cells _ [.int .i64 q, .string s, .int .i64 u, .slice none 0 0] _ _ (by simp) j t ht)) (by unfold maxLen; omega) (by omega) b8.size ?_; intro v' w3 ho3 hg3 hat3; have hX9 := Lib.hid (boxGrown4 (boxS (by assumption)) hg3 (fun e => by have := hb8 _ e.symm; omega)); have hB9 : Hid (Below w.heap.size w w3) := Below.grown (And.left (And.left (by assumption))) hg3 (And.right (And.left (by assumption))) (fun g hg => by have := hb8 g hg; omega); have N9 : Hid (Hdg.OwnN w3 w.heap.size w3.heap.size v' (l8 ++ [⟨q, s, u, none, 0, []⟩])) := NOwn.wide (NOwn.push N8.out ho3 hg3 (by first | exact hat3 | (simpa using hat3)) (Nat.le_refl _) (Own.nil _ _ _ _ _) (no_block _ _ _)) (by have := BWz; first | omega | (simp; omega)) (Nat.le_refl _)) | fail)
    all_goals
      have hS : areHd (l8 ++ [(⟨q, s, u, none, 0, []⟩ : Hdg)]) = ok := by
        rw [areHd_same (adL_same e8.out _), ← hdX.out]
        exact hok.out
      have he : (l8 ++ [(⟨q, s, u, none, 0, []⟩ : Hdg)]).map Hdg.bare = (l ++ [adX l s u]).map Hdg.bare := by rw [adL_same e8.out, ← hdX.out]
      have hf := ad_fits e8.out hs.out ⟨q, s, u, none, 0, []⟩ ⟨hsz, trivial⟩
      have hR := areHeadings_c v' _ w3 (N9.out.own.sl Hdg.len) (Hdg.OwnN.deep N9.out) hf
      rw [hS] at hR
      replace hR := Lib.hid hR
      replace he := Lib.hid he
      generalize l8 ++ [(⟨q, s, u, none, 0, []⟩ : Hdg)] = l9 at N9 he
      clear hf hS
      go_wp2_with fail
      refine hR.out.mono ?_
      rintro e w5 ⟨rfl, b5⟩
      have N5 := Lib.hid ((N9.out.mono b5).wide (lo' := w.heap.size) (hi' := w5.heap.size) (Nat.le_refl _) b5.size)
      have B5 := btrans hB9.out b5
      have X5 := Lib.hid (hX9.out.mono b5)
      cases ok
      · go_wp2_with fail
        go_ret3
        exact ⟨_, [], by rw [hI'.out]; rfl, NOwn.nil _ _ _, by rw [hB'.out]; rfl, B5⟩
      · have hbw5 := X5.out.1
        obtain ⟨y0, -⟩ := box4 X5.out
        go_wp2_with fail
        refine wp_region_ext (by kernel_rfl) (by kernel_rfl) ?_
        repeat (any_goals (first | go_big_quiet_step (fail)))
        (refine wpQuiet_nil ?_)
        (rintro _ ⟨q, rfl⟩)
        go_wp2_with fail
        go_ret3
        exact ⟨_, l9, by rw [hI'.out, ← hq.out]; rfl, (N5.out.mono (below_ext _ _)).wide (Nat.le_refl _) (below_ext _ _).size, by rw [hB'.out]; exact he.out, (by repeat' (first | exact Below.refl _ _ | with_reducible assumption | refine bext ?_ ?_ _ | refine Below.alloc ?_ ?_ _ | refine Below.setCell ?_ ?_ _ | refine Below.drew ?_ | (simp; done) | (have hbz := hb.size; first | omega | (simp; omega)) | (simp; omega) | omega))⟩
set_option maxHeartbeats 4000000 in
set_option maxRecDepth 100000 in
theorem specAddHeading_c (v : Value) (l : List Hdg) (s : ByteArray) (u : Int) (w : World) (h : Sl w Hdg.enc 4 v l) (hd : Hdg.Deep w l) (hs : ∀ i, i < l.length → (gd l i).Fits) (hsz : s.size ≤ maxLen) (hl : l.length ≤ 1048577) (hls : ∀ i, i < l.length → (gd l i).sub.length ≤ 1048577) : Calls Try.prog 22 #[v, .string s, .int .i64 u] w (Hdg.RetNIB w (adB l s u) (adI l s u) (adGood l s u)) := by
  have HA := Lib.hid (fun W (hB : Below w.heap.size w W) => l23Good_c v l W (h.mono hB) (hd.mono hB) hs)
  have HC := Lib.hid (fun W (hB : Below w.heap.size w W) => l23Own_c v l W (h.mono hB) (hd.mono hB) hl hls)
  have hB' := Lib.hid (show adB l s u = if adGood l s u then (adL l s u).map Hdg.bare else [] from rfl)
  have hI' := Lib.hid (show adI l s u = if adGood l s u then adId l else 0 from rfl)
  have hG' := Lib.hid (show adGood l s u = (areHd l && areHd (l ++ [adX l s u])) from rfl)
  have hid := fun h => Lib.hid (adId_bound (l := l) h)
  have hhd := fun h => Lib.hid (areHd_heads (l := l) h)
  have hdI := Lib.hid (show adId l = if l.length = 0 then 1 else (gd l (l.length - 1)).id + 1 from rfl)
  have hdX := Lib.hid (show adX l s u = ⟨adId l, s, u, none, 0, []⟩ from rfl)
  obtain ⟨i, hi, hz0, hz1, hz2⟩ := info_parts (show (Try.prog.info? 55).map (fun i => (i.zero, i.size, i.bytes)) = some (some (.agg #[.int .i64 0, .string ByteArray.empty, .int .i64 0, .slice none 0 0]), 4, 56) by kernel_rfl)
  obtain ⟨a, cap, b, off, rfl, hlc, hm, hc⟩ := h
  unfold maxLen at hm
  replace hs := Lib.hid hs
  clear hd
  generalize adB l s u = B at hB' ⊢
  generalize adI l s u = I at hI' ⊢
  generalize adGood l s u = ok at hB' hI' hG' ⊢
  go_enter Try.func22, Try.ntmps22
  go_upto_if 15 with fail
  go_cut [9] from 12 (fun t W => W = w ∧ ∃ q, t = .int .i64 q ∧ (areHd l = true → q = adId l))
  case first =>
    by_cases h0 : l.length = 0
    · have hd0 := Lib.hid (show adId l = 1 by rw [hdI.out, if_pos h0])
      go_wp2_with fail
      go_meet
      case rel => exact ⟨rfl, _, rfl, fun _ => hd0.out.symm⟩
    · have hd0 := Lib.hid (show adId l = (gd l (l.length - 1)).id + 1 by rw [hdI.out, if_neg h0])
      obtain ⟨rfl, -⟩ := hc (l.length - 1) (by omega)
      obtain ⟨-, hbw, c0, -⟩ := Hdg.at hc (l.length - 1) (by omega)
      have hn1 : ((l.length : Int) - 1).toNat = l.length - 1 := by omega
      go_wp2_with fail
      go_meet
      case rel =>
        refine ⟨rfl, _, rfl, fun hA => ?_⟩
        have hh := hdHead_b ((hhd hA).out (l.length - 1) (by omega))
        rw [hd0.out]
        show wrap64 _ = _
        unfold wrap64
        omega
  case rest =>
  obtain ⟨rfl, q, rfl, hq⟩ := hcut
  go_wp2_with fail
  refine (HC.out wc (Below.refl _ _)).mono ?_
  rintro e w2 ⟨v2, l2, rfl, N2, e2, b2⟩
  have hl2 : l2.length ≤ 1048577 := by have := congrArg List.length e2; simp at this; omega
  replace e2 := Lib.hid e2
  have hb2 := N2.own.bounds
  have hzw := b2.size
  replace N2 := Lib.hid N2
  go_wp2_with (at_builtin; refine wpList_pushAt Hdg.len Hdg.one rfl _ _ 24 rfl wc.heap.size 55 i _ 56 Try.underlying24 hi hz0 hz1 hz2 rfl (by omega) _ l2 rfl (N2.out.own.mono (below_alloc _ _)) _ 1 ⟨q, s, u, none, 0, []⟩ rfl (fun j t ht => new_cells _ [.int .i64 q, .string s, .int .i64 u, .slice none 0 0] _ _ (by simp) j t ht) (by unfold maxLen; omega) (by omega) (by simp; omega) ?_)
  intro v' w3 ho3 hg3 hat3
  have B3 : Below wc.heap.size wc w3 := Below.grown (b2.trans ((below_alloc _ _).mono hzw)) hg3 (by simp; omega) (fun g hg => (hb2 g hg).1)
  have N3 : Hid (Hdg.OwnN w3 wc.heap.size w3.heap.size v' (l2 ++ [⟨q, s, u, none, 0, []⟩])) := NOwn.push (N2.out.mono (below_alloc _ _)) ho3 hg3 (by simpa using hat3) (by simp) (Own.nil _ _ _ _ _) (no_block _ _ _)
  have hf := ad_fits e2.out hs.out ⟨q, s, u, none, 0, []⟩ ⟨hsz, trivial⟩
  have hR := fun W (hW : Below w3.heap.size w3 W) => l23Good_c v' _ W ((N3.out.own.sl Hdg.len).mono hW) ((Hdg.OwnN.deep N3.out).mono hW) hf
  clear ho3 hg3 hat3 hf
  cases hA : areHd l
  · rw [hA] at HA hG'
    replace HA := Lib.hid HA.out
    have hok : ok = false := hG'.out
    subst hok
    clear hA hR hq
    go_wp2_with (go_at_call 54; refine (HA.out _ B3).mono ?_; rintro e w' ⟨rfl, hbq⟩; obtain ⟨p, rfl⟩ := ext_of_below hbq; clear hbq)
    go_ret3
    exact ⟨_, [], by rw [hI'.out]; rfl, NOwn.empty' (by simp) (by have := B3.size; simp; omega), by rw [hB'.out]; rfl, (bext B3 B3.size _).alloc (by have := B3.size; simp; omega) _⟩
  · have hq2 := hq hA
    subst hq2
    have hS : areHd (l2 ++ [(⟨adId l, s, u, none, 0, []⟩ : Hdg)]) = ok := by
      rw [areHd_same (adL_same e2.out _), ← hdX.out, hG'.out, hA]
      rfl
    have he : (l2 ++ [(⟨adId l, s, u, none, 0, []⟩ : Hdg)]).map Hdg.bare = (l ++ [adX l s u]).map Hdg.bare := by rw [adL_same e2.out, ← hdX.out]
    rw [hS] at hR
    rw [hA] at HA
    replace HA := Lib.hid HA.out
    replace hR := Lib.hid hR
    replace he := Lib.hid he
    generalize l2 ++ [(⟨adId l, s, u, none, 0, []⟩ : Hdg)] = l9 at N3 he
    clear hA hq hid hhd hS hG' hdI
    cases ok
    all_goals
      go_wp2_with (first | (go_at_call 54; refine (HA.out _ B3).mono ?_; rintro e w' ⟨rfl, hbq⟩; obtain ⟨p1, rfl⟩ := ext_of_below hbq; clear hbq HA) | (go_at_call 54; refine (hR.out _ (by first | exact Below.refl _ _ | exact below_ext _ _)).mono ?_; rintro e w' ⟨rfl, hbq⟩; obtain ⟨p2, rfl⟩ := ext_of_below hbq; clear hbq))
      go_ret3
      first
      | exact ⟨_, [], by rw [hI'.out]; rfl, NOwn.empty' (by simp) (by have := B3.size; simp; omega), by rw [hB'.out]; rfl, (bext (bext B3 B3.size _) (by have := B3.size; simp; omega) _).alloc (by have := B3.size; simp; omega) _⟩
      | exact ⟨_, l9, by rw [hI'.out]; rfl, ((N3.out.mono (below_ext _ _)).mono (below_ext _ _)).wide (Nat.le_refl _) (by simp; omega), by rw [hB'.out]; exact he.out, bext (bext B3 B3.size _) (by have := B3.size; simp; omega) _⟩
end Go.Proofs.Ytbkkaibjenofiaa
