/- Headings: a heading moved. By the program and by the reference. No condition but sizes. -/
import Derived.Test.YtbkkaibjenofiaaCp23
import Derived.Test.YtbkkaibjenofiaaHm23
namespace Go.Proofs.Ytbkkaibjenofiaa
open Go.RowKit
/-- a call that hands back headings of its own that read as B does, and a bool -/
def Hdg.RetNB (w : World) (B : List Hdg) (ok : Bool) (e : Ending) (w' : World) : Prop := ∃ (v' : Value) (l' : List Hdg), e = .returned (.tuple #[v', .bool ok]) ∧ Hdg.OwnN w' w.heap.size w'.heap.size v' l' ∧ l'.map Hdg.bare = B ∧ Below w.heap.size w w'
def mvK (l : List Hdg) (n : Int) : Nat := (hdIdx l n).getD 0
def mvL (l : List Hdg) (n u : Int) : List Hdg := l.set (mvK l n) { gd l (mvK l n) with un := u }
def mvGood (l : List Hdg) (n u : Int) : Bool := isHd l n && areHd (mvL l n u)
def mvB (l : List Hdg) (n u : Int) : List Hdg := if mvGood l n u then (mvL l n u).map Hdg.bare else []
theorem gd_map {α β : Type} [Inhabited α] [Inhabited β] (f : α → β) {l : List α} {i : Nat} (h : i < l.length) : gd (l.map f) i = f (gd l i) := by simp [gd, h]
theorem mvL_bare {l l' : List Hdg} (h : l'.map Hdg.bare = l.map Hdg.bare) {k : Nat} (hk : k < l.length) (u : Int) : (l'.set k { gd l' k with un := u }).map Hdg.bare = (l.set k { gd l k with un := u }).map Hdg.bare := by
  rw [List.map_set, List.map_set, h]
  congr 1
  have e := Hdg.sub_eq (map_same_at h k hk).2
  simp only [Hdg.bare, Hdg.mk.injEq, true_and]
  exact ⟨e.1, e.2.1, e.2.2.2⟩
theorem mv_same {l l' : List Hdg} (h : l'.map Hdg.bare = l.map Hdg.bare) (n u : Int) : mvB l' n u = mvB l n u ∧ mvGood l' n u = mvGood l n u := by
  have hi := isHd_same h n
  cases hh : isHd l n
  · have e1 : mvGood l' n u = false := by rw [mvGood, hi, hh]; rfl
    have e2 : mvGood l n u = false := by rw [mvGood, hh]; rfl
    rw [mvB, mvB, e1, e2]
    exact ⟨rfl, rfl⟩
  · have hs : (hdIdx l n).isSome = true := by
      unfold isHd at hh
      simp at hh
      exact hh.2
    obtain ⟨k, hk⟩ := Option.isSome_iff_exists.1 hs
    have e0 : mvK l n = k := by rw [mvK, hk]; rfl
    have e0' : mvK l' n = k := by rw [mvK, hdIdx_same h, hk]; rfl
    have e := mvL_bare h (hdIdx_some hk).1 u
    have eL : (mvL l' n u).map Hdg.bare = (mvL l n u).map Hdg.bare := by rw [mvL, mvL, e0, e0', e]
    have eg : mvGood l' n u = mvGood l n u := by rw [mvGood, mvGood, hi, areHd_same eL]
    exact ⟨by rw [mvB, mvB, eg, eL], eg⟩
theorem mv_fits {l l' : List Hdg} (h : l'.map Hdg.bare = l.map Hdg.bare) (hs : ∀ i, i < l.length → (gd l i).Fits) {k : Nat} (u : Int) : ∀ i, i < (l'.set k { gd l' k with un := u }).length → (gd (l'.set k { gd l' k with un := u }) i).Fits := fun i hi => by
  have hf := Hdg.fits h hs
  have hl : l'.length = l.length := by simpa using congrArg List.length h
  rw [List.length_set] at hi
  by_cases e : k = i
  · subst e
    rw [gd_set_at hi]
    exact hf k hi
  · rw [gd_set_ne e]
    exact hf i hi
theorem areHd_sub {l : List Hdg} (h : areHd l = true) (i : Nat) (hi : i < l.length) : (gd l i).sub.length ≤ 4 := by
  simp only [areHd, Bool.and_eq_true, allTo_iff] at h
  have := h.1 i hi
  simp only [hdI, hdMid, Bool.and_eq_true, decide_eq_true_eq] at this
  exact this.1.1.2.1.2
theorem bare_bound {l : List Hdg} (h : areHd l = true) : (l.map Hdg.bare).length ≤ 1048577 ∧ ∀ i, i < (l.map Hdg.bare).length → (gd (l.map Hdg.bare) i).sub.length ≤ 1048577 := by
  have h15 := areHd_len h
  refine ⟨by simp; omega, fun i hi => ?_⟩
  rw [List.length_map] at hi
  rw [gd_map _ hi]
  have := areHd_sub h i hi
  show (gd l i).sub.length ≤ 1048577
  omega
theorem mvB_bound (l : List Hdg) (n u : Int) : (mvB l n u).length ≤ 1048577 ∧ ∀ i, i < (mvB l n u).length → (gd (mvB l n u) i).sub.length ≤ 1048577 := by
  unfold mvB
  split
  · rename_i h
    simp only [mvGood, Bool.and_eq_true] at h
    exact bare_bound h.2
  · exact ⟨by simp, fun i hi => by simp at hi⟩
set_option maxHeartbeats 4000000 in
set_option maxRecDepth 100000 in
theorem moveHeading_c (v : Value) (l : List Hdg) (n u : Int) (w : World) (h : Sl w Hdg.enc 4 v l) (hd : Hdg.Deep w l) (hs : ∀ i, i < l.length → (gd l i).Fits) (hls : ∀ i, i < l.length → (gd l i).sub.length ≤ 1048577) : Calls Try.prog 37 #[v, .int .i64 n, .int .i64 u] w (Hdg.RetNB w (mvB l n u) (mvGood l n u)) := by
  have HA := Lib.hid (fun W (hB : Below w.heap.size w W) => isHeading_c v l n W (h.mono hB) (hd.mono hB) hs)
  have HC := fun hl => Lib.hid (fun W (hB : Below w.heap.size w W) => copyHeadings_c v l W (h.mono hB) (hd.mono hB) hl hls)
  have hB' := Lib.hid (show mvB l n u = if mvGood l n u then (mvL l n u).map Hdg.bare else [] from rfl)
  obtain ⟨a, cap, b, off, rfl, hlc, hm, hc⟩ := h
  unfold maxLen at hm
  cases hh : isHd l n
  · have hg : mvGood l n u = false := by rw [mvGood, hh]; rfl
    rw [hg] at hB' ⊢
    rw [show mvB l n u = [] from hB'.out]
    rw [hh] at HA
    replace HA := Lib.hid HA.out
    clear hh hg HC
    go_enter Try.func37, Try.ntmps37
    go_wp2_with (go_at_call 52; refine (HA.out _ (by repeat' (first | exact Below.refl _ _ | with_reducible assumption | refine bext ?_ ?_ _ | refine Below.alloc ?_ ?_ _ | refine Below.setCell ?_ ?_ _ | refine Below.drew ?_ | (simp; done) | (have hbz := hb.size; first | omega | (simp; omega)) | (simp; omega) | omega))).mono ?_; rintro e w' ⟨rfl, hbq⟩; obtain ⟨p, rfl⟩ := ext_of_below hbq; clear hbq)
    go_ret2
    exact ⟨_, [], rfl, NOwn.nil _ _ _, rfl, (by repeat' (first | exact Below.refl _ _ | with_reducible assumption | refine bext ?_ ?_ _ | refine Below.alloc ?_ ?_ _ | refine Below.setCell ?_ ?_ _ | refine Below.drew ?_ | (simp; done) | (have hbz := hb.size; first | omega | (simp; omega)) | (simp; omega) | omega))⟩
  · have hA := (isHd_some hh).1
    have h15 := areHd_len hA
    obtain ⟨k, hk⟩ := Option.isSome_iff_exists.1 (show (hdIdx l n).isSome = true by unfold isHd at hh; simp at hh; exact hh.2)
    have hkl := (hdIdx_some hk).1
    have hM : mvL l n u = l.set k { gd l k with un := u } := by rw [mvL, mvK, hk]; rfl
    have hg : mvGood l n u = areHd (l.set k { gd l k with un := u }) := by rw [mvGood, hh, hM]; rfl
    rw [hg, hM] at hB'
    rw [hg]
    obtain ⟨ok, hok⟩ : ∃ ok, areHd (l.set k { gd l k with un := u }) = ok := ⟨_, rfl⟩
    rw [hok] at hB' ⊢
    replace hok := Lib.hid hok
    generalize mvB l n u = B at hB' ⊢
    replace HC := HC (by omega)
    rw [hh] at HA
    replace HA := Lib.hid HA.out
    replace hs := Lib.hid hs
    replace hk := Lib.hid hk
    clear hh hg hM hA hd
    go_enter Try.func37, Try.ntmps37
    go_wp2_with (go_at_call 52; refine (HA.out _ (by repeat' (first | exact Below.refl _ _ | with_reducible assumption | refine bext ?_ ?_ _ | refine Below.alloc ?_ ?_ _ | refine Below.setCell ?_ ?_ _ | refine Below.drew ?_ | (simp; done) | (have hbz := hb.size; first | omega | (simp; omega)) | (simp; omega) | omega))).mono ?_; rintro e w' ⟨rfl, hbq⟩; obtain ⟨p, rfl⟩ := ext_of_below hbq; clear hbq)
    refine callsAt (fun W hW => ?_)
    have BW : Below w.heap.size w W := by rw [hW]; exact (by repeat' (first | exact Below.refl _ _ | with_reducible assumption | refine bext ?_ ?_ _ | refine Below.alloc ?_ ?_ _ | refine Below.setCell ?_ ?_ _ | refine Below.drew ?_ | (simp; done) | (have hbz := hb.size; first | omega | (simp; omega)) | (simp; omega) | omega))
    clear hW
    refine (HC.out W BW).mono ?_
    rintro e w2 ⟨v2, l2, rfl, N2, hb2, b2⟩
    have B2 := btrans BW b2
    have hz2 := BW.size
    have hlen2 : l2.length = l.length := by simpa using congrArg List.length hb2
    have hk2 : k < l2.length := by omega
    have h16 : l2.length ≤ 15 := by omega
    clear hlen2
    obtain ⟨g, cap2, rfl, hlo, hgs, hcl, hcm, hfz, hcc⟩ := N2.own.form Hdg.len (by omega)
    unfold maxLen at hcm
    have hT := headingAt_c _ l2 n w2 (N2.own.sl Hdg.len)
    rw [hdIdx_same hb2, hk.out] at hT
    replace hT := Lib.hid (show Calls Try.prog 59 #[_, .int .i64 n] w2 fun e w' => e = .returned (.int .i64 (k : Int)) ∧ Below w2.heap.size w2 w' from hT)
    obtain ⟨-, -, d0, d1, d2, d3⟩ := Hdg.at hcc k (by omega)
    rw [Nat.zero_add] at d0 d1 d2 d3
    have z2 := hfz (k * 4 + 2)
    have N3 := Lib.hid (N2.store Hdg.len k (by omega) { gd l2 k with un := u } 2 (by omega) (.int .i64 u) rfl rfl rfl)
    have he := mvL_bare hb2 hkl u
    have hS := areHd_same he
    have hf2 := Lib.hid (mv_fits (k := k) hb2 hs.out u)
    have B3 := B2.setCell (p := ⟨g, k * 4 + 2, none⟩) (by show w.heap.size ≤ g; omega) (.int .i64 u)
    have hz3 : w2.heap.size ≤ (w2.setCell ⟨g, k * 4 + 2, none⟩ (.int .i64 u)).heap.size := by simp
    replace he := Lib.hid he
    rw [hok.out] at hS
    generalize hl3 : l2.set k { gd l2 k with un := u } = l3 at N3 hS hf2 he
    clear hl3 N2 hfz hcc HC HA hs
    replace hS := Lib.hid hS
    go_wp2_with (go_at_call 59; refine (hT.out).mono ?_; rintro e w' ⟨rfl, hbq⟩; obtain ⟨p, rfl⟩ := ext_of_below hbq; clear hbq)
    refine callsAt (fun W4 hW4 => ?_)
    have N4 : Hid (Hdg.OwnN W4 W.heap.size w2.heap.size (.slice (some ⟨g, 0, none⟩) l2.length cap2) l3) := by rw [hW4]; exact Lib.hid (N3.out.mono (below_ext _ _))
    have B4 : Below w.heap.size w W4 := by rw [hW4]; exact B3.trans ((below_ext _ _).mono B3.size)
    have hz4 : w2.heap.size ≤ W4.heap.size := by rw [hW4]; exact Nat.le_trans hz3 (below_ext _ _).size
    clear hW4
    have hR := areHeadings_c _ l3 W4 (N4.out.own.sl Hdg.len) (Hdg.OwnN.deep N4.out) hf2.out
    rw [hS.out] at hR
    replace hR := Lib.hid hR
    refine hR.out.mono ?_
    rintro e w5 ⟨rfl, b5⟩
    have N5 := Lib.hid ((N4.out.mono b5).wide (lo' := w.heap.size) (hi' := w5.heap.size) hz2 (Nat.le_trans hz4 b5.size))
    have B5 := btrans B4 b5
    cases ok
    · go_wp2_with fail
      go_ret2
      exact ⟨_, [], rfl, NOwn.nil _ _ _, by rw [hB'.out]; rfl, B5⟩
    · go_wp2_with fail
      go_ret2
      exact ⟨_, l3, rfl, N5.out, by rw [hB'.out]; exact he.out, B5⟩
set_option maxHeartbeats 4000000 in
set_option maxRecDepth 100000 in
theorem specMoveHeading_c (v : Value) (l : List Hdg) (n u : Int) (w : World) (h : Sl w Hdg.enc 4 v l) (hd : Hdg.Deep w l) (hs : ∀ i, i < l.length → (gd l i).Fits) (hls : ∀ i, i < l.length → (gd l i).sub.length ≤ 1048577) : Calls Try.prog 38 #[v, .int .i64 n, .int .i64 u] w (Hdg.RetNB w (mvB l n u) (mvGood l n u)) := by
  have HA := Lib.hid (fun W (hB : Below w.heap.size w W) => l23Good_c v l W (h.mono hB) (hd.mono hB) hs)
  have HT := Lib.hid (fun W (hB : Below w.heap.size w W) => l23Find_c v l n W (h.mono hB))
  have HC := fun hl => Lib.hid (fun W (hB : Below w.heap.size w W) => l23Own_c v l W (h.mono hB) (hd.mono hB) hl hls)
  have hB' := Lib.hid (show mvB l n u = if mvGood l n u then (mvL l n u).map Hdg.bare else [] from rfl)
  obtain ⟨a, cap, b, off, rfl, hlc, hm, hc⟩ := h
  unfold maxLen at hm
  cases hh : isHd l n
  · have hg : mvGood l n u = false := by rw [mvGood, hh]; rfl
    rw [hg] at hB' ⊢
    rw [show mvB l n u = [] from hB'.out]
    have hway : areHd l = false ∨ (areHd l = true ∧ idxInt (hdIdx l n) < 0) := by
      unfold isHd at hh
      cases hA : areHd l
      · exact .inl rfl
      · rcases hd_way (l := l) (n := n) with ⟨h3, h4⟩ | ⟨h3, h4⟩
        · exact .inr ⟨rfl, h4⟩
        · rw [hA, h3] at hh; cases hh
    clear hh hg HC
    generalize areHd l = ok at hway HA
    generalize idxInt (hdIdx l n) = r at hway HT
    rcases hway with rfl | ⟨rfl, hr⟩
    all_goals
      go_enter Try.func38, Try.ntmps38
      go_wp2_with (first | (go_at_call 54; refine (HA.out _ (by repeat' (first | exact Below.refl _ _ | with_reducible assumption | refine bext ?_ ?_ _ | refine Below.alloc ?_ ?_ _ | refine Below.setCell ?_ ?_ _ | refine Below.drew ?_ | (simp; done) | (have hbz := hb.size; first | omega | (simp; omega)) | (simp; omega) | omega))).mono ?_; rintro e w' ⟨rfl, hbq⟩; obtain ⟨p, rfl⟩ := ext_of_below hbq; clear hbq) | (go_at_call 55; refine (HT.out _ (by repeat' (first | exact Below.refl _ _ | with_reducible assumption | refine bext ?_ ?_ _ | refine Below.alloc ?_ ?_ _ | refine Below.setCell ?_ ?_ _ | refine Below.drew ?_ | (simp; done) | (have hbz := hb.size; first | omega | (simp; omega)) | (simp; omega) | omega))).mono ?_; rintro e w' ⟨rfl, rfl⟩))
      go_ret2
      exact ⟨_, [], rfl, NOwn.empty' (by simp) (by simp), rfl, (by repeat' (first | exact Below.refl _ _ | with_reducible assumption | refine bext ?_ ?_ _ | refine Below.alloc ?_ ?_ _ | refine Below.setCell ?_ ?_ _ | refine Below.drew ?_ | (simp; done) | (have hbz := hb.size; first | omega | (simp; omega)) | (simp; omega) | omega))⟩
  · have hA := (isHd_some hh).1
    have h15 := areHd_len hA
    obtain ⟨k, hk⟩ := Option.isSome_iff_exists.1 (show (hdIdx l n).isSome = true by unfold isHd at hh; simp at hh; exact hh.2)
    have hkl := (hdIdx_some hk).1
    have hM : mvL l n u = l.set k { gd l k with un := u } := by rw [mvL, mvK, hk]; rfl
    have hg : mvGood l n u = areHd (l.set k { gd l k with un := u }) := by rw [mvGood, hh, hM]; rfl
    rw [hg, hM] at hB'
    rw [hg]
    obtain ⟨ok, hok⟩ : ∃ ok, areHd (l.set k { gd l k with un := u }) = ok := ⟨_, rfl⟩
    rw [hok] at hB' ⊢
    replace hok := Lib.hid hok
    generalize mvB l n u = B at hB' ⊢
    replace HC := HC (by omega)
    rw [hA] at HA
    rw [hk] at HT
    replace HA := Lib.hid HA.out
    replace HT : Hid (∀ W (hB : Below w.heap.size w W), Calls Try.prog 55 #[_, .int .i64 n] W fun e w' => e = .returned (.int .i64 (k : Int)) ∧ W = w') := HT
    have hk0 : decide ((k : Int) < 0) = false := by simp
    replace hs := Lib.hid hs
    clear hh hg hM hA hd hk
    go_enter Try.func38, Try.ntmps38
    go_wp2_with (first | (go_at_call 54; refine (HA.out _ (by repeat' (first | exact Below.refl _ _ | with_reducible assumption | refine bext ?_ ?_ _ | refine Below.alloc ?_ ?_ _ | refine Below.setCell ?_ ?_ _ | refine Below.drew ?_ | (simp; done) | (have hbz := hb.size; first | omega | (simp; omega)) | (simp; omega) | omega))).mono ?_; rintro e w' ⟨rfl, hbq⟩; obtain ⟨p, rfl⟩ := ext_of_below hbq; clear hbq) | (go_at_call 55; refine (HT.out _ (by repeat' (first | exact Below.refl _ _ | with_reducible assumption | refine bext ?_ ?_ _ | refine Below.alloc ?_ ?_ _ | refine Below.setCell ?_ ?_ _ | refine Below.drew ?_ | (simp; done) | (have hbz := hb.size; first | omega | (simp; omega)) | (simp; omega) | omega))).mono ?_; rintro e w' ⟨rfl, rfl⟩))
    refine callsAt (fun W hW => ?_)
    have BW : Below w.heap.size w W := by rw [hW]; exact (by repeat' (first | exact Below.refl _ _ | with_reducible assumption | refine bext ?_ ?_ _ | refine Below.alloc ?_ ?_ _ | refine Below.setCell ?_ ?_ _ | refine Below.drew ?_ | (simp; done) | (have hbz := hb.size; first | omega | (simp; omega)) | (simp; omega) | omega))
    clear hW
    refine (HC.out W BW).mono ?_
    rintro e w2 ⟨v2, l2, rfl, N2, hb2, b2⟩
    have B2 := btrans BW b2
    have hz2 := BW.size
    have hlen2 : l2.length = l.length := by simpa using congrArg List.length hb2
    have hk2 : k < l2.length := by omega
    have h16 : l2.length ≤ 15 := by omega
    clear hlen2
    obtain ⟨g, cap2, rfl, hlo, hgs, hcl, hcm, hfz, hcc⟩ := N2.own.form Hdg.len (by omega)
    unfold maxLen at hcm
    obtain ⟨-, -, d0, d1, d2, d3⟩ := Hdg.at hcc k (by omega)
    rw [Nat.zero_add] at d0 d1 d2 d3
    have z0 := hfz (k * 4)
    have z1 := hfz (k * 4 + 1)
    have z2 := hfz (k * 4 + 2)
    have z3 := hfz (k * 4 + 3)
    have he := mvL_bare hb2 hkl u
    have hS := areHd_same he
    have hf2 := Lib.hid (mv_fits (k := k) hb2 hs.out u)
    rw [hok.out] at hS
    replace hS := Lib.hid hS
    replace he := Lib.hid he
    replace hb2 := Lib.hid hb2
    clear HC HA HT hs
    go_wp2_with fail
    refine callsAt (fun W4 hW4 => ?_)
    have N3a := N2.store Hdg.len k (by omega) (gd l2 k) 0 (by omega) (.int .i64 (gd l2 k).id) rfl rfl rfl
    have N3b := NOwn.storeAt Hdg.len N3a (by omega) (gd l2 k) 1 (by omega) (.string (gd l2 k).nm) rfl rfl rfl
    have N3c := NOwn.storeAt Hdg.len N3b (by omega) { gd l2 k with un := u } 2 (by omega) (.int .i64 u) rfl rfl rfl
    have N3d := NOwn.storeAt Hdg.len N3c (by omega) { gd l2 k with un := u } 3 (by omega) (.slice (gd l2 k).a (gd l2 k).sub.length (gd l2 k).cap) rfl rfl rfl
    have N4 : Hid (Hdg.OwnN W4 W.heap.size w2.heap.size (.slice (some ⟨g, 0, none⟩) l2.length cap2) (l2.set k { gd l2 k with un := u })) := by rw [hW4]; exact Lib.hid (N3d.mono (below_alloc _ _))
    have hgw : w.heap.size ≤ g := by omega
    have B4 : Below w.heap.size w W4 := by
      rw [hW4]
      exact ((((B2.setCell (p := ⟨g, k * 4, none⟩) hgw _).setCell (p := ⟨g, k * 4 + 1, none⟩) hgw _).setCell (p := ⟨g, k * 4 + 2, none⟩) hgw _).setCell (p := ⟨g, k * 4 + 3, none⟩) hgw _).alloc (by have := B2.size; simp; exact this) _
    have hz4 : w2.heap.size ≤ W4.heap.size := by rw [hW4]; simp
    clear hW4 N3a N3b N3c N3d N2
    generalize l2.set k { gd l2 k with un := u } = l3 at N4 hS hf2 he
    have hR := l23Good_c _ l3 W4 (N4.out.own.sl Hdg.len) (Hdg.OwnN.deep N4.out) hf2.out
    rw [hS.out] at hR
    replace hR := Lib.hid hR
    refine hR.out.mono ?_
    rintro e w5 ⟨rfl, b5⟩
    have N5 := Lib.hid ((N4.out.mono b5).wide (lo' := w.heap.size) (hi' := w5.heap.size) hz2 (Nat.le_trans hz4 b5.size))
    have B5 := btrans B4 b5
    cases ok
    · go_wp2_with fail
      go_ret2
      exact ⟨_, [], rfl, NOwn.empty' (by simp) B5.size, by rw [hB'.out]; rfl, B5.alloc B5.size _⟩
    · go_wp2_with fail
      go_ret2
      exact ⟨_, l3, rfl, N5.out, by rw [hB'.out]; exact he.out, B5⟩
end Go.Proofs.Ytbkkaibjenofiaa
