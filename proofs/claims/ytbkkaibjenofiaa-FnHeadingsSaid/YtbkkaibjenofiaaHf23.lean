/- Headings: the heading that has a path, by the program and by the reference. No condition but sizes. -/
import Derived.Test.YtbkkaibjenofiaaHn23
namespace Go.Proofs.Ytbkkaibjenofiaa
open Go.RowKit
def fpAt (l : List Hdg) (p : ByteArray) (k : Nat) : Bool := (pathL l (gd l k).id).toList == p.toList
def fpIdx (l : List Hdg) (p : ByteArray) : Option Nat := findTo (fpAt l p) l.length
def fpB (l : List Hdg) (p : ByteArray) : Bool := areHd l && (fpIdx l p).isSome
def fpV (l : List Hdg) (p : ByteArray) : Int := if fpB l p then (gd l ((fpIdx l p).getD 0)).id else 0
theorem fp_no {l : List Hdg} {p : ByteArray} (h : fpB l p = false) : fpV l p = 0 := by simp [fpV, h]
theorem fp_yes {l : List Hdg} {p : ByteArray} {k : Nat} (hA : areHd l = true) (hall : ∀ i, i < k → fpAt l p i = false) (h : fpAt l p k = true) (hk : k < l.length) : fpB l p = true ∧ fpV l p = (gd l k).id := by
  have hi : fpIdx l p = some k := findTo_some hall h hk
  have hb : fpB l p = true := by rw [fpB, hA, hi]; rfl
  exact ⟨hb, by rw [fpV, hb, hi]; rfl⟩
theorem fp_none {l : List Hdg} {p : ByteArray} (hall : ∀ i, i < l.length → fpAt l p i = false) : fpB l p = false := by
  rw [fpB, show fpIdx l p = none from findTo_none hall]; simp
theorem fpath_same {l l' : List Hdg} (h : l'.map Hdg.bare = l.map Hdg.bare) (p : ByteArray) : fpV l' p = fpV l p ∧ fpB l' p = fpB l p := by
  have hl : l'.length = l.length := by simpa using congrArg List.length h
  have e1 : fpIdx l' p = fpIdx l p := by
    unfold fpIdx
    rw [hl]
    exact find_congr fun i hi => by rw [fpAt, fpAt, (hd_bare h i hi).1, pathL_same h]
  have e2 : fpB l' p = fpB l p := by rw [fpB, fpB, areHd_same h, e1]
  refine ⟨?_, e2⟩
  rw [fpV, fpV, e2]
  cases hb : fpB l p
  · rfl
  · simp only [fpB, Bool.and_eq_true] at hb
    obtain ⟨k, hk⟩ := Option.isSome_iff_exists.1 hb.2
    rw [e1, hk]
    simp only [Option.getD_some, if_true]
    exact (hd_bare h k (findTo_spec hk).1).1
set_option maxHeartbeats 2000000 in
set_option maxRecDepth 100000 in
theorem findPath_c (v : Value) (l : List Hdg) (p : ByteArray) (w : World) (h : Sl w Hdg.enc 4 v l) (hd : Hdg.Deep w l) (hs : ∀ i, i < l.length → (gd l i).Fits) (_hp : p.size ≤ maxLen) : Calls Try.prog 10 #[v, .string p] w fun e w' => e = .returned (.tuple #[.int .i64 (fpV l p), .bool (fpB l p)]) ∧ Below w.heap.size w w' := by
  have HA := areHeadings_c v l w h hd hs
  have HS := Lib.hid h
  obtain ⟨a, cap, b, off, rfl, hlc, hm, hc⟩ := h
  unfold maxLen at hm
  cases hA : areHd l
  · have hB := Lib.hid (show fpB l p = false by simp [fpB, hA])
    have hV := Lib.hid (fp_no hB.out)
    rw [hA] at HA
    replace HA := Lib.hid HA
    clear hA
    go_enter Try.func10, Try.ntmps10
    go_wp2_with (go_at_call 25; refine HA.out.mono ?_; rintro e w1 ⟨rfl, hb1⟩)
    go_ret2
    exact ⟨ret_int_bool hV.out.symm hB.out.symm, hb1⟩
  · rw [hA] at HA
    replace HA := Lib.hid HA
    have hA := Lib.hid hA
    go_enter Try.func10, Try.ntmps10
    go_wp2_with (go_at_call 25; refine HA.out.mono ?_; rintro e w1 ⟨rfl, hb1⟩)
    go_loopw [13] (fun i wr => ∃ k : Nat, k ≤ l.length ∧ i = .int .i64 k ∧ Hid (∀ j, j < k → fpAt l p j = false) ∧ Below w.heap.size w wr) (fun i _ => l.length - (intOf i).toNat)
    case atStart => exact ⟨0, Nat.zero_le _, rfl, fun i hi => by omega, hb1⟩
    case round =>
      obtain ⟨k, hk, rfl, hall, hb⟩ := hrel
      by_cases hlt : k < l.length
      · obtain ⟨rfl, hbw, c0, c1, c2, c3⟩ := Hdg.at (hc.mono hb) k hlt
        have hT := Lib.hid (fun W (hB : Below w.heap.size w W) => pathOfI_c _ l (gd l k).id W (HS.out.mono hB) hA.out (.inr ⟨k, hlt, rfl⟩))
        have hfp : fpAt l p k = ((pathL l (gd l k).id).toList == p.toList) := rfl
        have hzw := hb.size
        cases hq : ((pathL l (gd l k).id).toList == p.toList)
        · have hno := Lib.hid (hfp.trans hq)
          clear hfp
          go_wp2_with (go_at_call 53; refine (hT.out _ (by repeat' (first | exact Below.refl _ _ | with_reducible assumption | refine bext ?_ ?_ _ | refine Below.alloc ?_ ?_ _ | refine Below.setCell ?_ ?_ _ | refine Below.drew ?_ | (simp; done) | (have hbz := hb.size; first | omega | (simp; omega)) | (simp; omega) | omega))).mono ?_; rintro e w' ⟨rfl, hbq⟩; obtain ⟨p, rfl⟩ := ext_of_below hbq; clear hbq)
          go_roundw
          case rel => exact ⟨k + 1, by omega, by go_num, upto_succ hall.out hno.out, (by repeat' (first | exact Below.refl _ _ | with_reducible assumption | refine bext ?_ ?_ _ | refine Below.alloc ?_ ?_ _ | refine Below.setCell ?_ ?_ _ | refine Below.drew ?_ | (simp; done) | (have hbz := hb.size; first | omega | (simp; omega)) | (simp; omega) | omega))⟩
          case measure => simp [intOf]; omega
        · have hV := Lib.hid (fp_yes hA.out hall.out (hfp.trans hq) hlt)
          clear hfp
          go_wp2_with (go_at_call 53; refine (hT.out _ (by repeat' (first | exact Below.refl _ _ | with_reducible assumption | refine bext ?_ ?_ _ | refine Below.alloc ?_ ?_ _ | refine Below.setCell ?_ ?_ _ | refine Below.drew ?_ | (simp; done) | (have hbz := hb.size; first | omega | (simp; omega)) | (simp; omega) | omega))).mono ?_; rintro e w' ⟨rfl, hbq⟩; obtain ⟨p, rfl⟩ := ext_of_below hbq; clear hbq)
          go_ret2
          exact ⟨ret_int_bool hV.out.2.symm hV.out.1.symm, (by repeat' (first | exact Below.refl _ _ | with_reducible assumption | refine bext ?_ ?_ _ | refine Below.alloc ?_ ?_ _ | refine Below.setCell ?_ ?_ _ | refine Below.drew ?_ | (simp; done) | (have hbz := hb.size; first | omega | (simp; omega)) | (simp; omega) | omega))⟩
      · obtain rfl : k = l.length := by omega
        have hB := Lib.hid (fp_none hall.out)
        have hV := Lib.hid (fp_no hB.out)
        go_wp2_with fail
        go_ret2
        exact ⟨ret_int_bool hV.out.symm hB.out.symm, hb⟩
set_option maxHeartbeats 2000000 in
set_option maxRecDepth 100000 in
theorem specFindPath_c (v : Value) (l : List Hdg) (p : ByteArray) (w : World) (h : Sl w Hdg.enc 4 v l) (hd : Hdg.Deep w l) (hs : ∀ i, i < l.length → (gd l i).Fits) (_hp : p.size ≤ maxLen) : Calls Try.prog 12 #[v, .string p] w fun e w' => e = .returned (.tuple #[.int .i64 (fpV l p), .bool (fpB l p)]) ∧ Below w.heap.size w w' := by
  have HA := Lib.hid (fun W (hB : Below w.heap.size w W) => l23Good_c v l W (h.mono hB) (hd.mono hB) hs)
  have HS := Lib.hid h
  obtain ⟨a, cap, b, off, rfl, hlc, hm, hc⟩ := h
  unfold maxLen at hm
  cases hA : areHd l
  · have hB := Lib.hid (show fpB l p = false by simp [fpB, hA])
    have hV := Lib.hid (fp_no hB.out)
    go_enter Try.func12, Try.ntmps12
    go_wp2_with fail
    go_loopw [6] (fun i wr => i = .int .i64 0 ∧ Below w.heap.size w wr) (fun _ _ => 0)
    case atStart => exact ⟨rfl, Below.refl _ _⟩
    case round =>
      obtain ⟨rfl, hb⟩ := hrel
      by_cases hlt : (0 : Int) < (l.length : Int)
      all_goals
        go_wp2_with (go_at_call 54; refine (HA.out _ (by repeat' (first | exact Below.refl _ _ | with_reducible assumption | refine bext ?_ ?_ _ | refine Below.alloc ?_ ?_ _ | refine Below.setCell ?_ ?_ _ | refine Below.drew ?_ | (simp; done) | (have hbz := hb.size; first | omega | (simp; omega)) | (simp; omega) | omega))).mono ?_; rintro e w' ⟨rfl, hbq⟩; obtain ⟨p, rfl⟩ := ext_of_below hbq; clear hbq)
        go_ret2
        exact ⟨ret_int_bool hV.out.symm hB.out.symm, (by repeat' (first | exact Below.refl _ _ | with_reducible assumption | refine bext ?_ ?_ _ | refine Below.alloc ?_ ?_ _ | refine Below.setCell ?_ ?_ _ | refine Below.drew ?_ | (simp; done) | (have hbz := hb.size; first | omega | (simp; omega)) | (simp; omega) | omega))⟩
  · have hA' := Lib.hid hA
    go_enter Try.func12, Try.ntmps12
    go_wp2_with fail
    go_loopw [6] (fun i wr => ∃ k : Nat, k ≤ l.length ∧ i = .int .i64 k ∧ Hid (∀ j, j < k → fpAt l p j = false) ∧ Below w.heap.size w wr) (fun i _ => l.length - (intOf i).toNat)
    case atStart => exact ⟨0, Nat.zero_le _, rfl, fun i hi => by omega, Below.refl _ _⟩
    case round =>
      obtain ⟨k, hk, rfl, hall, hb⟩ := hrel
      by_cases hlt : k < l.length
      · obtain ⟨rfl, hbw, c0, c1, c2, c3⟩ := Hdg.at (hc.mono hb) k hlt
        have hT := Lib.hid (fun W (hB : Below w.heap.size w W) => l23Path_c _ l (gd l k).id W (HS.out.mono hB) hA'.out (.inr ⟨k, hlt, rfl⟩))
        have hfp : fpAt l p k = ((pathL l (gd l k).id).toList == p.toList) := rfl
        have hzw := hb.size
        cases hq : ((pathL l (gd l k).id).toList == p.toList)
        · have hno := Lib.hid (hfp.trans hq)
          clear hfp
          go_wp2_with (first | (go_at_call 54; refine (HA.out _ (by repeat' (first | exact Below.refl _ _ | with_reducible assumption | refine bext ?_ ?_ _ | refine Below.alloc ?_ ?_ _ | refine Below.setCell ?_ ?_ _ | refine Below.drew ?_ | (simp; done) | (have hbz := hb.size; first | omega | (simp; omega)) | (simp; omega) | omega))).mono ?_; rintro e w' ⟨rfl, hbq⟩; obtain ⟨p, rfl⟩ := ext_of_below hbq; clear hbq) | (go_at_call 56; refine (hT.out _ (by repeat' (first | exact Below.refl _ _ | with_reducible assumption | refine bext ?_ ?_ _ | refine Below.alloc ?_ ?_ _ | refine Below.setCell ?_ ?_ _ | refine Below.drew ?_ | (simp; done) | (have hbz := hb.size; first | omega | (simp; omega)) | (simp; omega) | omega))).mono ?_; rintro e w' ⟨rfl, hbq⟩; obtain ⟨p, rfl⟩ := ext_of_below hbq; clear hbq))
          go_roundw
          case rel => exact ⟨k + 1, by omega, by go_num, upto_succ hall.out hno.out, (by repeat' (first | exact Below.refl _ _ | with_reducible assumption | refine bext ?_ ?_ _ | refine Below.alloc ?_ ?_ _ | refine Below.setCell ?_ ?_ _ | refine Below.drew ?_ | (simp; done) | (have hbz := hb.size; first | omega | (simp; omega)) | (simp; omega) | omega))⟩
          case measure => simp [intOf]; omega
        · have hV := Lib.hid (fp_yes hA'.out hall.out (hfp.trans hq) hlt)
          clear hfp
          go_wp2_with (first | (go_at_call 54; refine (HA.out _ (by repeat' (first | exact Below.refl _ _ | with_reducible assumption | refine bext ?_ ?_ _ | refine Below.alloc ?_ ?_ _ | refine Below.setCell ?_ ?_ _ | refine Below.drew ?_ | (simp; done) | (have hbz := hb.size; first | omega | (simp; omega)) | (simp; omega) | omega))).mono ?_; rintro e w' ⟨rfl, hbq⟩; obtain ⟨p, rfl⟩ := ext_of_below hbq; clear hbq) | (go_at_call 56; refine (hT.out _ (by repeat' (first | exact Below.refl _ _ | with_reducible assumption | refine bext ?_ ?_ _ | refine Below.alloc ?_ ?_ _ | refine Below.setCell ?_ ?_ _ | refine Below.drew ?_ | (simp; done) | (have hbz := hb.size; first | omega | (simp; omega)) | (simp; omega) | omega))).mono ?_; rintro e w' ⟨rfl, hbq⟩; obtain ⟨p, rfl⟩ := ext_of_below hbq; clear hbq))
          go_ret2
          exact ⟨ret_int_bool hV.out.2.symm hV.out.1.symm, (by repeat' (first | exact Below.refl _ _ | with_reducible assumption | refine bext ?_ ?_ _ | refine Below.alloc ?_ ?_ _ | refine Below.setCell ?_ ?_ _ | refine Below.drew ?_ | (simp; done) | (have hbz := hb.size; first | omega | (simp; omega)) | (simp; omega) | omega))⟩
      · obtain rfl : k = l.length := by omega
        have hB := Lib.hid (fp_none hall.out)
        have hV := Lib.hid (fp_no hB.out)
        go_wp2_with fail
        go_ret2
        exact ⟨ret_int_bool hV.out.symm hB.out.symm, hb⟩
end Go.Proofs.Ytbkkaibjenofiaa
