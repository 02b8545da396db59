/- Issues: one is put into a list. By the program. No condition but what a slice may hold. -/
import Derived.Test.YthibchaiaedboaaDoorIn20
import Derived.Test.YthibchaiaedboaaDoorEn20
import Derived.Test.YthibchaiaedboaaDoorDf
import Derived.Outline
namespace Go.Proofs.YthibchaiaedboaaDoor
open Go.RowKit
set_option maxHeartbeats 4000000 in
set_option maxRecDepth 100000 in
theorem putIssue_c (v : Value) (l : List Iss) (x : Iss) (w : World) (h : Sl w Iss.enc 4 v l) (hl : l.length ≤ 1048576) : Calls Tryd.prog 20 #[v, .agg #[.int .i64 x.s, .int .i64 x.n, .int .i64 x.fr, .int .i64 x.un]] w (RetSlB w 41 Iss.enc 4 (putR l x) (putGood l x)) := by
  have HA := Lib.hid (fun W (hb : Below w.heap.size w W) => areIssues_c v l W (h.mono hb))
  obtain ⟨xs, xn, xf, xu⟩ := x
  cases hA : areIss l
  · have hg : putGood l ⟨xs, xn, xf, xu⟩ = false := by simp [putGood, hA]
    have hE := Lib.hid (putR_no hg)
    replace hg := Lib.hid hg
    rw [hA] at HA
    clear hA
    go_enter Tryd.func20, Tryd.ntmps20
    go_wp2_with (go_at_call 11; refine (HA.out _ (by repeat' (first | exact Below.refl _ _ | with_reducible assumption | refine bext ?_ ?_ _ | refine Below.alloc ?_ ?_ _ | refine Below.setCell ?_ ?_ _ | refine Below.drew ?_ | (simp; done) | (have hbz := hb.size; first | omega | (simp; omega)) | (simp; omega) | omega))).mono ?_; rintro e w' ⟨rfl, hbq⟩; obtain ⟨p, rfl⟩ := ext_of_below hbq; clear hbq)
    go_ret2
    rw [hE.out, hg.out]
    exact ⟨_, rfl, Own.nil _ _ _ _ _, (by repeat' (first | exact Below.refl _ _ | with_reducible assumption | refine bext ?_ ?_ _ | refine Below.alloc ?_ ?_ _ | refine Below.setCell ?_ ?_ _ | refine Below.drew ?_ | (simp; done) | (have hbz := hb.size; first | omega | (simp; omega)) | (simp; omega) | omega))⟩
  · have HT := Lib.hid hA
    rw [hA] at HA
    clear hA
    have BX0 := BoxAt.new w [.int .i64 xs, .int .i64 xn, .int .i64 xf, .int .i64 xu] 41
    go_enter Tryd.func20, Tryd.ntmps20
    go_wp2_with (go_at_call 11; refine (HA.out _ (by repeat' (first | exact Below.refl _ _ | with_reducible assumption | refine bext ?_ ?_ _ | refine Below.alloc ?_ ?_ _ | refine Below.setCell ?_ ?_ _ | refine Below.drew ?_ | (simp; done) | (have hbz := hb.size; first | omega | (simp; omega)) | (simp; omega) | omega))).mono ?_; rintro e w' ⟨rfl, hbq⟩; obtain ⟨p, rfl⟩ := ext_of_below hbq; clear hbq)
    refine callsAt (fun W1 hW1 => ?_)
    have BW1 : Below w.heap.size w W1 := by rw [hW1]; exact (by repeat' (first | exact Below.refl _ _ | with_reducible assumption | refine bext ?_ ?_ _ | refine Below.alloc ?_ ?_ _ | refine Below.setCell ?_ ?_ _ | refine Below.drew ?_ | (simp; done) | (have hbz := hb.size; first | omega | (simp; omega)) | (simp; omega) | omega))
    have X1 : BoxAt W1 w.heap.size [.int .i64 xs, .int .i64 xn, .int .i64 xf, .int .i64 xu] := by rw [hW1]; exact BX0.mono (by repeat' (first | exact Below.refl _ _ | with_reducible assumption | refine bext ?_ ?_ _ | refine Below.alloc ?_ ?_ _ | refine Below.setCell ?_ ?_ _ | refine Below.drew ?_ | (simp; done) | (have hbz := hb.size; first | omega | (simp; omega)) | (simp; omega) | omega))
    clear hW1 BX0
    refine (issueAt_c v l xs xn W1 (h.mono BW1) hl).mono ?_
    rintro e w2 ⟨k, hS, rfl, hb2⟩
    have BW2 : Below w.heap.size w w2 := BW1.trans (hb2.mono BW1.size)
    have X2 := X1.mono hb2
    have hS : searchAt l ⟨xs, xn, xf, xu⟩ k := hS
    have hkl := hS.1
    have hh0 : searchHit l ⟨xs, xn, 0, 0⟩ k = searchHit l ⟨xs, xn, xf, xu⟩ k := rfl
    rw [hh0]
    clear hh0 X1
    have HS := Lib.hid hS
    clear hS
    go_wp2_with fail
    refine (cloneIssue_c v l w2 (h.mono BW2) hl).mono ?_
    rintro e w3 ⟨cv, rfl, ho, hb3⟩
    have BW3 : Below w.heap.size w w3 := BW2.trans (hb3.mono BW2.size)
    have X3 := X2.mono hb3
    have hz3 := hb3.size
    have hz2 := BW2.size
    have x0 := X3.2 0 _ rfl
    have x1 := X3.2 1 _ rfl
    have x2 := X3.2 2 _ rfl
    have x3 := X3.2 3 _ rfl
    have hx0 := X2.1
    have hx1 := X3.1
    clear X3 X2
    cases hh : searchHit l ⟨xs, xn, xf, xu⟩ k
    · have hP := Lib.hid (putL_miss HT.out HS.out hh)
      clear hh
      have ho := Lib.hid ho
      go_wp2_with fail
      refine callsAt (fun W4 hW4 => ?_)
      have BW4 : Below w3.heap.size w3 W4 := by rw [hW4]; exact below_alloc _ _
      have hv4 : W4.heap[w3.heap.size]? = some (.cells (Iss.enc ⟨xs, xn, xf, xu⟩).toArray 41 (0, 0)) := by rw [hW4]; exact heap_alloc_new w3 _
      clear hW4
      refine (insertIssue_c w2.heap.size cv l k w3.heap.size ⟨xs, xn, xf, xu⟩ W4 (ho.out.mono BW4) (by have := BW4.size; omega) hkl hl hv4 (fun e => by have := ho.out.bounds _ e; omega)).mono ?_
      rintro e w5 ⟨v5, rfl, ho5, hg5⟩
      have B5 : Below w.heap.size w w5 := below_push (lo := w2.heap.size) (BW3.trans (BW4.mono BW3.size)) (ho.out.mono BW4) hg5 BW2.size (by have := BW4.size; omega)
      rw [← hP.out] at ho5
      have HB := areIssues_c v5 (putL l ⟨xs, xn, xf, xu⟩) w5 (ho5.sl Iss.len)
      replace ho5 := Lib.hid ho5
      cases hB : areIss (putL l ⟨xs, xn, xf, xu⟩)
      · have hg : putGood l ⟨xs, xn, xf, xu⟩ = false := by simp [putGood, hB]
        have hE := Lib.hid (putR_no hg)
        replace hg := Lib.hid hg
        rw [hB] at HB
        clear hB
        replace HB := Lib.hid HB
        go_wp2_with (go_at_call 11; refine (HB.out).mono ?_; rintro e w' ⟨rfl, hbq⟩; obtain ⟨p, rfl⟩ := ext_of_below hbq; clear hbq)
        go_ret2
        rw [hE.out, hg.out]
        exact ⟨_, rfl, Own.nil _ _ _ _ _, bext B5 B5.size _⟩
      · have hg : putGood l ⟨xs, xn, xf, xu⟩ = true := by simp [putGood, hB, HT.out]
        have hE := Lib.hid (putR_yes hg)
        replace hg := Lib.hid hg
        rw [hB] at HB
        clear hB
        replace HB := Lib.hid HB
        go_wp2_with (go_at_call 11; refine (HB.out).mono ?_; rintro e w' ⟨rfl, hbq⟩; obtain ⟨p, rfl⟩ := ext_of_below hbq; clear hbq)
        go_ret2
        rw [hE.out, hg.out]
        exact ⟨_, rfl, (ho5.out.lower hz2).mono (below_ext _ _), bext B5 B5.size _⟩
    · obtain ⟨hP, hkl2⟩ := putL_hit HT.out HS.out hh
      replace hP := Lib.hid hP
      clear hh
      obtain ⟨g, cap', rfl, hlo, hgl, hcl, hcm, hfz, hcc⟩ := ho.form Iss.len (by omega)
      obtain ⟨-, -, d0, d1, d2, d3⟩ := Iss.at hcc k hkl2
      rw [Nat.zero_add] at d0 d1 d2 d3
      have f0 := hfz (k * 4)
      have f1 := hfz (k * 4 + 1)
      have f2 := hfz (k * 4 + 2)
      have f3 := hfz (k * 4 + 3)
      unfold maxLen at hcm
      have hSt := Own.storeAll Iss.len ho rfl k hkl2 ⟨xs, xn, xf, xu⟩
      replace hSt := Lib.hid hSt
      clear hcc hfz ho
      go_wp2_with fail
      refine callsAt (fun W4 hW4 => ?_)
      have ho5 : Own W4 w2.heap.size 41 Iss.enc 4 (.slice (some ⟨g, 0, none⟩) l.length cap') (putL l ⟨xs, xn, xf, xu⟩) := by rw [hW4, hP.out]; exact hSt.out.1
      have hg5 : w3.grownBy W4 (some g) := by rw [hW4]; exact hSt.out.2
      have B5 : Below w.heap.size w W4 := BW3.grown hg5 BW3.size (fun q hq => by cases hq; omega)
      clear hW4
      have HB := areIssues_c _ (putL l ⟨xs, xn, xf, xu⟩) W4 (ho5.sl Iss.len)
      replace ho5 := Lib.hid ho5
      cases hB : areIss (putL l ⟨xs, xn, xf, xu⟩)
      · have hg : putGood l ⟨xs, xn, xf, xu⟩ = false := by simp [putGood, hB]
        have hE := Lib.hid (putR_no hg)
        replace hg := Lib.hid hg
        rw [hB] at HB
        clear hB
        refine HB.mono ?_
        rintro e w' ⟨rfl, hbq⟩
        go_wp2_with fail
        go_ret2
        rw [hE.out, hg.out]
        exact ⟨_, rfl, Own.nil _ _ _ _ _, B5.trans (hbq.mono B5.size)⟩
      · have hg : putGood l ⟨xs, xn, xf, xu⟩ = true := by simp [putGood, hB, HT.out]
        have hE := Lib.hid (putR_yes hg)
        replace hg := Lib.hid hg
        rw [hB] at HB
        clear hB
        refine HB.mono ?_
        rintro e w' ⟨rfl, hbq⟩
        go_wp2_with fail
        go_ret2
        rw [hE.out, hg.out]
        exact ⟨_, rfl, (ho5.out.lower hz2).mono hbq, B5.trans (hbq.mono B5.size)⟩
end Go.Proofs.YthibchaiaedboaaDoor
