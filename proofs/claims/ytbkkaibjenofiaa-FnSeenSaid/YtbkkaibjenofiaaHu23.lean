/- Headings: a heading and all above it, by the program and by the reference. No condition but sizes. -/
import Derived.Test.YtbkkaibjenofiaaHx23
namespace Go.Proofs.Ytbkkaibjenofiaa
open Go.RowKit
theorem intE_one (x : Int) : ∀ u ∈ IntE.enc x, u.oneCell' = true := fun u hu => by simp [IntE.enc] at hu; subst hu; rfl
theorem upL_next {l : List Hdg} (h : areHd l = true) {k : Nat} (hk : k < l.length) : (gd l k).un = 0 ∨ ∃ j, j < k ∧ (gd l j).id = (gd l k).un := by
  by_cases hu : (gd l k).un = 0
  · exact .inl hu
  · obtain ⟨j, hj, _, he⟩ := areHd_under h hk hu
    exact .inr ⟨j, hj, he⟩
theorem upL_split {l : List Hdg} (h : areHd l = true) {k : Nat} (hk : k < l.length) : upL l (gd l k).id = (gd l k).id :: upL l (gd l k).un := by
  rcases upL_next h hk with hu | ⟨j, hj, he⟩
  · rw [upL_top h hk hu, hu, upL_zero]
  · rw [← he]; exact upL_step h hk he.symm hj
/-- a number at which the climb stands: nought, or the number of a heading -/
def standsAt (l : List Hdg) (n : Int) : Prop := n = 0 ∨ ∃ k, k < l.length ∧ (gd l k).id = n
theorem stands_next {l : List Hdg} (h : areHd l = true) {k : Nat} (hk : k < l.length) : standsAt l (gd l k).un ∧ ((gd l k).un.toNat < (gd l k).id.toNat) := by
  have hh := hdHead_b (areHd_heads h k hk)
  rcases upL_next h hk with hu | ⟨j, hj, he⟩
  · exact ⟨.inl hu, by omega⟩
  · have := hd_up (areHd_heads h) j k hj hk
    exact ⟨.inr ⟨j, by omega, he⟩, by omega⟩
theorem stands_of {l : List Hdg} {n : Int} {k : Nat} (h : hdIdx l n = some k) : standsAt l n := .inr ⟨k, hdIdx_some h⟩
set_option maxHeartbeats 2000000 in
set_option maxRecDepth 100000 in
theorem upFrom_c (v : Value) (l : List Hdg) (n : Int) (w : World) (h : Sl w Hdg.enc 4 v l) (hA : areHd l = true) (hn : standsAt l n) : Calls Try.prog 64 #[v, .int .i64 n] w (RetOwn w 3 IntE.enc 1 (upL l n)) := by
  obtain ⟨i, hi, hz0, hz1, hz2⟩ := info_parts (show (Try.prog.info? 3).map (fun i => (i.zero, i.size, i.bytes)) = some (some (.int .i64 0), 1, 8) by kernel_rfl)
  have HS := Lib.hid h
  obtain ⟨a, cap, b, off, rfl, hlc, hm, hc⟩ := h
  have h15 := areHd_len hA
  have hA := Lib.hid hA
  have hlen := upL_len l n
  unfold maxLen at hm
  go_enter Try.func64, Try.ntmps64
  go_wp2_with fail
  go_loopw [1, 5] (fun m o wr => ∃ (now : Int) (done : List Int), m = .int .i64 now ∧ standsAt l now ∧ Hid (upL l n = done ++ upL l now) ∧ Hid (Own wr w.heap.size 3 IntE.enc 1 o done) ∧ Below w.heap.size w wr) (fun m _ _ => (intOf m).toNat)
  case atStart => exact ⟨n, [], rfl, hn, Lib.hid (by simp), Own.nil _ _ _ _ _, Below.refl _ _⟩
  case round =>
    obtain ⟨now, done, rfl, hst, hup, ho, hb⟩ := hrel
    by_cases h0 : now = 0
    · have hd := Lib.hid (show upL l n = done by rw [hup.out, h0, upL_zero, List.append_nil])
      have h0' : (now != 0) = false := by simp [h0]
      go_wp2_with fail
      go_ret
      exact ⟨_, rfl, by rw [hd.out]; exact ho.out, hb⟩
    · obtain ⟨k, hk, rfl⟩ : ∃ k, k < l.length ∧ (gd l k).id = now := by
        rcases hst with hst | hst
        · exact absurd hst h0
        · exact hst
      have h0' : ((gd l k).id != 0) = true := by simp [h0]
      have hup2 := Lib.hid (show upL l n = (done ++ [(gd l k).id]) ++ upL l (gd l k).un by rw [hup.out, upL_split hA.out hk]; simp)
      have hdl : done.length ≤ l.length + 1 := by
        have : (upL l n).length = (done ++ upL l (gd l k).id).length := by rw [hup.out]
        simp at this
        omega
      have hT := fun W (hB : Below w.heap.size w W) => headingAt_c _ l (gd l k).id W (HS.out.mono hB)
      rw [areHd_at hA.out hk] at hT
      replace hT := Lib.hid (show ∀ W (hB : Below w.heap.size w W), Calls Try.prog 59 #[_, .int .i64 (gd l k).id] W fun e w' => e = .returned (.int .i64 (k : Int)) ∧ Below W.heap.size W w' from hT)
      have hnx := stands_next hA.out hk
      have hid := hdHead_b (areHd_heads hA.out k hk)
      go_wp2_with (at_builtin; refine wpList_push IntE.len intE_one rfl _ _ 33 rfl w.heap.size 3 i _ 8 Try.underlying33 hi hz0 hz1 hz2 rfl (by omega) _ done rfl (ho.out.mono (by repeat' (first | exact Below.refl _ _ | with_reducible assumption | refine bext ?_ ?_ _ | refine Below.alloc ?_ ?_ _ | refine Below.setCell ?_ ?_ _ | refine Below.drew ?_ | (simp; done) | (have hbz := hb.size; first | omega | (simp; omega)) | (simp; omega) | omega))) _ 1 (gd l k).id rfl (fun j u hu => new_cells _ [.int .i64 (gd l k).id] _ _ (by simp) j u hu) (by unfold maxLen; omega) (by omega) (by have := hb.size; simp; omega) ?_)
      intro v' w3 ho2 hg2
      have hb2 := below_push (lo := w.heap.size) (B := w.heap.size) (a := w) (by repeat' (first | exact Below.refl _ _ | with_reducible assumption | refine bext ?_ ?_ _ | refine Below.alloc ?_ ?_ _ | refine Below.setCell ?_ ?_ _ | refine Below.drew ?_ | (simp; done) | (have hbz := hb.size; first | omega | (simp; omega)) | (simp; omega) | omega)) (ho.out.mono (by repeat' (first | exact Below.refl _ _ | with_reducible assumption | refine bext ?_ ?_ _ | refine Below.alloc ?_ ?_ _ | refine Below.setCell ?_ ?_ _ | refine Below.drew ?_ | (simp; done) | (have hbz := hb.size; first | omega | (simp; omega)) | (simp; omega) | omega))) hg2 (Nat.le_refl _) (by have := hb.size; simp; omega)
      have hz3 : w.heap.size ≤ w3.heap.size := hb2.size
      obtain ⟨rfl, hbw, c0, c1, c2, c3⟩ := Hdg.at (hc.mono hb2) k hk
      go_wp2_with (go_at_call 59; refine (hT.out _ (by repeat' (first | exact Below.refl _ _ | with_reducible assumption | refine bext ?_ ?_ _ | refine Below.alloc ?_ ?_ _ | refine Below.setCell ?_ ?_ _ | refine Below.drew ?_ | (simp; done) | (have hbz := hb.size; first | omega | (simp; omega)) | (simp; omega) | omega))).mono ?_; rintro e w' ⟨rfl, hbq⟩; obtain ⟨p, rfl⟩ := ext_of_below hbq; clear hbq)
      go_roundw
      case rel => exact ⟨_, _, rfl, hnx.1, hup2, Lib.hid (ho2.mono (below_ext _ _)), (by repeat' (first | exact Below.refl _ _ | with_reducible assumption | refine bext ?_ ?_ _ | refine Below.alloc ?_ ?_ _ | refine Below.setCell ?_ ?_ _ | refine Below.drew ?_ | (simp; done) | (have hbz := hb.size; first | omega | (simp; omega)) | (simp; omega) | omega))⟩
      case measure => simp [intOf]; omega
set_option maxHeartbeats 2000000 in
set_option maxRecDepth 100000 in
theorem l23Above_c (v : Value) (l : List Hdg) (n : Int) (w : World) (h : Sl w Hdg.enc 4 v l) (hA : areHd l = true) (hn : standsAt l n) : Calls Try.prog 66 #[v, .int .i64 n] w (RetOwn w 3 IntE.enc 1 (upL l n)) := by
  obtain ⟨i, hi, hz0, hz1, hz2⟩ := info_parts (show (Try.prog.info? 3).map (fun i => (i.zero, i.size, i.bytes)) = some (some (.int .i64 0), 1, 8) by kernel_rfl)
  have HS := Lib.hid h
  obtain ⟨a, cap, b, off, rfl, hlc, hm, hc⟩ := h
  have h15 := areHd_len hA
  have hA := Lib.hid hA
  have hlen := upL_len l n
  unfold maxLen at hm
  go_enter Try.func66, Try.ntmps66
  go_wp2_with fail
  go_loopw [5, 6] (fun o m wr => ∃ (now : Int) (done : List Int), m = .int .i64 now ∧ standsAt l now ∧ Hid (upL l n = done ++ upL l now) ∧ Hid (Own wr w.heap.size 3 IntE.enc 1 o done) ∧ Below w.heap.size w wr) (fun _ m _ => (intOf m).toNat)
  case atStart => exact ⟨n, [], rfl, hn, Lib.hid (by simp), Own.empty w _ _ _ _ (Nat.le_refl _), (by repeat' (first | exact Below.refl _ _ | with_reducible assumption | refine bext ?_ ?_ _ | refine Below.alloc ?_ ?_ _ | refine Below.setCell ?_ ?_ _ | refine Below.drew ?_ | (simp; done) | (have hbz := hb.size; first | omega | (simp; omega)) | (simp; omega) | omega))⟩
  case round =>
    obtain ⟨now, done, rfl, hst, hup, ho, hb⟩ := hrel
    by_cases h0 : now = 0
    · have hd := Lib.hid (show upL l n = done by rw [hup.out, h0, upL_zero, List.append_nil])
      have h0' : (now != 0) = false := by simp [h0]
      go_wp2_with fail
      go_ret
      exact ⟨_, rfl, by rw [hd.out]; exact ho.out, hb⟩
    · obtain ⟨k, hk, rfl⟩ : ∃ k, k < l.length ∧ (gd l k).id = now := by
        rcases hst with hst | hst
        · exact absurd hst h0
        · exact hst
      have h0' : ((gd l k).id != 0) = true := by simp [h0]
      have hup2 := Lib.hid (show upL l n = (done ++ [(gd l k).id]) ++ upL l (gd l k).un by rw [hup.out, upL_split hA.out hk]; simp)
      have hdl : done.length ≤ l.length + 1 := by
        have : (upL l n).length = (done ++ upL l (gd l k).id).length := by rw [hup.out]
        simp at this
        omega
      have hT := fun W (hB : Below w.heap.size w W) => l23Find_c _ l (gd l k).id W (HS.out.mono hB)
      rw [areHd_at hA.out hk] at hT
      replace hT := Lib.hid (show ∀ W (hB : Below w.heap.size w W), Calls Try.prog 55 #[_, .int .i64 (gd l k).id] W fun e w' => e = .returned (.int .i64 (k : Int)) ∧ W = w' from hT)
      have hnx := stands_next hA.out hk
      have hid := hdHead_b (areHd_heads hA.out k hk)
      go_wp2_with (at_builtin; refine wpList_push IntE.len intE_one rfl _ _ 33 rfl w.heap.size 3 i _ 8 Try.underlying33 hi hz0 hz1 hz2 rfl (by omega) _ done rfl (ho.out.mono (by repeat' (first | exact Below.refl _ _ | with_reducible assumption | refine bext ?_ ?_ _ | refine Below.alloc ?_ ?_ _ | refine Below.setCell ?_ ?_ _ | refine Below.drew ?_ | (simp; done) | (have hbz := hb.size; first | omega | (simp; omega)) | (simp; omega) | omega))) _ 1 (gd l k).id rfl (fun j u hu => new_cells _ [.int .i64 (gd l k).id] _ _ (by simp) j u hu) (by unfold maxLen; omega) (by omega) (by have := hb.size; simp; omega) ?_)
      intro v' w3 ho2 hg2
      have hb2 := below_push (lo := w.heap.size) (B := w.heap.size) (a := w) (by repeat' (first | exact Below.refl _ _ | with_reducible assumption | refine bext ?_ ?_ _ | refine Below.alloc ?_ ?_ _ | refine Below.setCell ?_ ?_ _ | refine Below.drew ?_ | (simp; done) | (have hbz := hb.size; first | omega | (simp; omega)) | (simp; omega) | omega)) (ho.out.mono (by repeat' (first | exact Below.refl _ _ | with_reducible assumption | refine bext ?_ ?_ _ | refine Below.alloc ?_ ?_ _ | refine Below.setCell ?_ ?_ _ | refine Below.drew ?_ | (simp; done) | (have hbz := hb.size; first | omega | (simp; omega)) | (simp; omega) | omega))) hg2 (Nat.le_refl _) (by have := hb.size; simp; omega)
      have hz3 : w.heap.size ≤ w3.heap.size := hb2.size
      obtain ⟨rfl, hbw, c0, c1, c2, c3⟩ := Hdg.at (hc.mono hb2) k hk
      go_wp2_with (go_at_call 55; refine (hT.out _ hb2).mono ?_; rintro e w' ⟨rfl, rfl⟩)
      go_roundw
      case rel => exact ⟨_, _, rfl, hnx.1, hup2, Lib.hid ho2, hb2⟩
      case measure => simp [intOf]; omega
end Go.Proofs.Ytbkkaibjenofiaa
