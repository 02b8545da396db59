/- Headings: the lowest above two, by the program and by the reference. No condition but sizes. -/
import Derived.Test.YtbkkaibjenofiaaHu23
import Derived.Test.YtbkkaibjenofiaaHw23
namespace Go.Proofs.Ytbkkaibjenofiaa
open Go.RowKit
theorem idx_nn (o : Option Nat) : decide (0 ≤ idxInt o) = o.isSome := by cases o <;> simp [idxInt]
def isHd (l : List Hdg) (n : Int) : Bool := areHd l && (hdIdx l n).isSome
theorem isHd_same {l l' : List Hdg} (h : l'.map Hdg.bare = l.map Hdg.bare) (n : Int) : isHd l' n = isHd l n := by rw [isHd, isHd, areHd_same h, hdIdx_same h]
theorem isHd_some {l : List Hdg} {n : Int} (h : isHd l n = true) : areHd l = true ∧ standsAt l n := by
  simp only [isHd, Bool.and_eq_true] at h
  obtain ⟨k, hk⟩ := Option.isSome_iff_exists.1 h.2
  exact ⟨h.1, stands_of hk⟩
theorem gd_out {α : Type} [Inhabited α] {l : List α} {i : Nat} (h : l.length ≤ i) : gd l i = default := by rw [gd, List.getD, List.getElem?_eq_none h]; rfl
theorem upF_same {l l' : List Hdg} (h : l'.map Hdg.bare = l.map Hdg.bare) : ∀ f n, upF l' f n = upF l f n
  | 0, _ => rfl
  | f + 1, n => by
    rw [upF, upF, hdIdx_same h]
    split
    · rfl
    · have hu : (gd l' ((hdIdx l n).getD 0)).un = (gd l ((hdIdx l n).getD 0)).un := by
        have hl : l'.length = l.length := by simpa using congrArg List.length h
        by_cases hi : (hdIdx l n).getD 0 < l.length
        · exact (hd_bare h _ hi).2.2.1
        · rw [gd_out (by omega), gd_out (by omega)]
      rw [hu, upF_same h f]
theorem upL_same {l l' : List Hdg} (h : l'.map Hdg.bare = l.map Hdg.bare) (n : Int) : upL l' n = upL l n := by
  have hl : l'.length = l.length := by simpa using congrArg List.length h
  rw [upL, upL, hl, upF_same h]
def lowAt (l : List Hdg) (a b : Int) : Option Nat := findTo (fun k => hasI (upL l b) (gd (upL l a) k)) (upL l a).length
def lowG (l : List Hdg) (a b : Int) : Bool := isHd l a && isHd l b
def lowB (l : List Hdg) (a b : Int) : Bool := lowG l a b && (lowAt l a b).isSome
def lowV (l : List Hdg) (a b : Int) : Int := if lowB l a b then gd (upL l a) ((lowAt l a b).getD 0) else 0
theorem low_same {l l' : List Hdg} (h : l'.map Hdg.bare = l.map Hdg.bare) (a b : Int) : lowV l' a b = lowV l a b ∧ lowB l' a b = lowB l a b := by
  have e1 : lowAt l' a b = lowAt l a b := by rw [lowAt, lowAt, upL_same h, upL_same h]
  have e2 : lowB l' a b = lowB l a b := by rw [lowB, lowB, lowG, lowG, isHd_same h, isHd_same h, e1]
  exact ⟨by rw [lowV, lowV, e2, upL_same h, e1], e2⟩
theorem low_no {l : List Hdg} {a b : Int} (h : lowB l a b = false) : lowV l a b = 0 := by simp [lowV, h]
theorem low_yes {l : List Hdg} {a b : Int} {k : Nat} (hg : lowG l a b = true) (h : lowAt l a b = some k) : lowB l a b = true ∧ lowV l a b = gd (upL l a) k := by
  have hb : lowB l a b = true := by rw [lowB, hg, h]; rfl
  exact ⟨hb, by rw [lowV, hb, h]; rfl⟩
set_option maxHeartbeats 1000000 in
theorem isHeading_c (v : Value) (l : List Hdg) (n : Int) (w : World) (h : Sl w Hdg.enc 4 v l) (hd : Hdg.Deep w l) (hs : ∀ i, i < l.length → (gd l i).Fits) : Calls Try.prog 52 #[v, .int .i64 n] w fun e w' => e = .returned (.bool (isHd l n)) ∧ Below w.heap.size w w' := by
  have hA := Lib.hid (fun W (hB : Below w.heap.size w W) => areHeadings_c v l W (h.mono hB) (hd.mono hB) hs)
  have hT := Lib.hid (fun W (hB : Below w.heap.size w W) => headingAt_c v l n W (h.mono hB))
  have hG : isHd l n = (areHd l && decide (0 ≤ idxInt (hdIdx l n))) := by rw [idx_nn]; rfl
  generalize idxInt (hdIdx l n) = r at hT hG
  generalize isHd l n = res at hG ⊢
  generalize areHd l = ok at hA hG
  cases ok <;> by_cases hr : 0 ≤ r
  all_goals
    have hG2 := Lib.hid hG
    clear hG
    go_enter Try.func52, Try.ntmps52
    go_wp2_with (first | (go_at_call 25; refine (hA.out _ (by repeat' (first | exact Below.refl _ _ | with_reducible assumption | refine bext ?_ ?_ _ | refine Below.alloc ?_ ?_ _ | refine Below.setCell ?_ ?_ _ | refine Below.drew ?_ | (simp; done) | (have hbz := hb.size; first | omega | (simp; omega)) | (simp; omega) | omega))).mono ?_; rintro e w' ⟨rfl, hbq⟩; obtain ⟨p, rfl⟩ := ext_of_below hbq; clear hbq) | (go_at_call 59; refine (hT.out _ (by repeat' (first | exact Below.refl _ _ | with_reducible assumption | refine bext ?_ ?_ _ | refine Below.alloc ?_ ?_ _ | refine Below.setCell ?_ ?_ _ | refine Below.drew ?_ | (simp; done) | (have hbz := hb.size; first | omega | (simp; omega)) | (simp; omega) | omega))).mono ?_; rintro e w' ⟨rfl, hbq⟩; obtain ⟨p, rfl⟩ := ext_of_below hbq; clear hbq))
    go_ret
    exact ⟨ret_bool (by rw [hG2.out]; first | rfl | (simp [hr]; done) | (simp; omega)), (by repeat' (first | exact Below.refl _ _ | with_reducible assumption | refine bext ?_ ?_ _ | refine Below.alloc ?_ ?_ _ | refine Below.setCell ?_ ?_ _ | refine Below.drew ?_ | (simp; done) | (have hbz := hb.size; first | omega | (simp; omega)) | (simp; omega) | omega))⟩
end Go.Proofs.Ytbkkaibjenofiaa
