/- Issues: the spans of days on which an issue is true, by the program and by the reference. No condition but what a slice may hold. -/
import Derived.Test.YthibchaiaedboaaTr20
import Derived.Test.YthibchaiaedboaaTp20
import Derived.Test.YthibchaiaedboaaStore
namespace Go.Proofs.Ythibchaiaedboaa
open Go.RowKit
set_option maxHeartbeats 2000000 in
set_option maxRecDepth 100000 in
theorem trueDays_c (v : Value) (l : List Iss) (x : Iss) (w : World) (h : Sl w Iss.enc 4 v l) (hx : issOk x = true) :
    Calls Try.prog 107 #[v, .agg #[.int .i64 x.s, .int .i64 x.n, .int .i64 x.fr, .int .i64 x.un]] w (RetOwn w 45 PrE.enc 2 (spans l x)) := by
  obtain ⟨q1, q2, q3, q4, q5, q6, q7, q8⟩ := issOk_b hx
  clear hx
  obtain ⟨i, hi, hz0, hz1, hz2⟩ := info_parts (show (Try.prog.info? 45).map (fun i => (i.zero, i.size, i.bytes)) = some (some (.agg #[.int .i64 0, .int .i64 0]), 2, 16) by kernel_rfl)
  have hN : Hid (daysN x = (x.un - x.fr + 1).toNat) := rfl
  unfold spans
  go_enter Try.func107, Try.ntmps107
  go_wp2_with fail
  refine wpAt fun W0 e0 => ?_
  have B0 : Below w.heap.size w W0 := by rw [e0]; go_grown
  have hs : W0.cell? ⟨w.heap.size, 0, none⟩ = some (.int .i64 x.s) ∧ W0.cell? ⟨w.heap.size, 1, none⟩ = some (.int .i64 x.n) ∧ W0.cell? ⟨w.heap.size, 2, none⟩ = some (.int .i64 x.fr) ∧ W0.cell? ⟨w.heap.size, 3, none⟩ = some (.int .i64 x.un) ∧ w.heap.size < W0.heap.size := by rw [e0]; simp
  clear e0
  obtain ⟨c0, c1, c2, c3, hz⟩ := hs
  go_loopw [5, 6] (fun v d wr => ∃ k : Nat, k ≤ daysN x ∧ d = .int .i64 (x.fr + (k : Int)) ∧ Hid (Own wr W0.heap.size 45 PrE.enc 2 v (spansTo l x k)) ∧ Below W0.heap.size W0 wr) (fun _ d _ => (x.un + 1 - intOf d).toNat)
  case atStart => exact ⟨0, Nat.zero_le _, by simp, Own.nil _ _ _ _ _, Below.refl _ _⟩
  case round =>
    obtain ⟨k, hk, rfl, ho, hb⟩ := hrel
    have hzz := hb.size
    have hzw : w.heap.size < wr.heap.size := by omega
    have c0 := (hb.cell (p := ⟨w.heap.size, 0, none⟩) hz).trans c0
    have c1 := (hb.cell (p := ⟨w.heap.size, 1, none⟩) hz).trans c1
    have c2 := (hb.cell (p := ⟨w.heap.size, 2, none⟩) hz).trans c2
    have c3 := (hb.cell (p := ⟨w.heap.size, 3, none⟩) hz).trans c3
    by_cases hlt : x.fr + (k : Int) ≤ x.un
    · have hul := spansTo_len l x k
      have hbw : Below w.heap.size w wr := B0.trans (hb.mono (by omega))
      have hk1 : k + 1 ≤ daysN x := by rw [hN.out]; omega
      cases hd : dayOn l x k
      · have hun := Lib.hid (spansTo_no hd)
        have hne : ¬ trueN l x.s (x.fr + (k : Int)) = x.n := by simpa [dayOn] using hd
        clear hd
        go_wp2_with fail
        refine wp_region_ext (by kernel_rfl) (by kernel_rfl) ?_
        repeat (any_goals (first | go_big_quiet_step ((go_at_call 112; exact Calls.ext_of (trueOn_c _ l _ _ _ (h.mono (by repeat' (first | exact Below.refl _ _ | with_reducible assumption | refine bext ?_ ?_ _ | refine Below.alloc ?_ ?_ _ | refine Below.setCell ?_ ?_ _ | refine Below.drew ?_ | (simp; done) | (have hbz := hb.size; first | omega | (simp; omega)) | (simp; omega) | omega))))))))
        (refine wpQuiet_nil ?_)
        (rintro _ ⟨q, rfl⟩)
        go_wp2_with fail
        go_roundw
        case rel => exact ⟨k + 1, hk1, congrArg (Value.int .i64) (by omega), by rw [hun.out]; exact ho.out.mono (by repeat' (first | exact Below.refl _ _ | with_reducible assumption | refine bext ?_ ?_ _ | refine Below.alloc ?_ ?_ _ | refine Below.setCell ?_ ?_ _ | refine Below.drew ?_ | (simp; done) | (have hbz := hb.size; first | omega | (simp; omega)) | (simp; omega) | omega)), (by repeat' (first | exact Below.refl _ _ | with_reducible assumption | refine bext ?_ ?_ _ | refine Below.alloc ?_ ?_ _ | refine Below.setCell ?_ ?_ _ | refine Below.drew ?_ | (simp; done) | (have hbz := hb.size; first | omega | (simp; omega)) | (simp; omega) | omega))⟩
        case measure => simp [intOf]; omega
      · have hun := spansTo_yes hd
        have hne : trueN l x.s (x.fr + (k : Int)) = x.n := by simpa [dayOn] using hd
        clear hd
        obtain ⟨L, hL⟩ : ∃ L, L = spansTo l x k := ⟨_, rfl⟩
        rw [← hL] at hun ho hul
        clear hL
        rcases Nat.eq_zero_or_pos L.length with h0 | h0
        · obtain rfl := List.eq_nil_of_length_eq_zero h0
          clear h0
          obtain ⟨a', cap', b', off', hv', -, -, -⟩ := ho.out.sl PrE.len
          change _ = Value.slice a' 0 cap' at hv'
          subst hv'
          have hun : Hid (spansTo l x (k + 1) = [] ++ [(x.fr + (k : Int), x.fr + (k : Int))]) := hun.trans (spanPut_new (by simp))
          go_wp2_with fail
          refine wp_region_ext (by kernel_rfl) (by kernel_rfl) ?_
          repeat (any_goals (first | go_big_quiet_step ((go_at_call 112; exact Calls.ext_of (trueOn_c _ l _ _ _ (h.mono (by repeat' (first | exact Below.refl _ _ | with_reducible assumption | refine bext ?_ ?_ _ | refine Below.alloc ?_ ?_ _ | refine Below.setCell ?_ ?_ _ | refine Below.drew ?_ | (simp; done) | (have hbz := hb.size; first | omega | (simp; omega)) | (simp; omega) | omega))))))))
          (refine wpQuiet_nil ?_)
          (rintro _ ⟨q, rfl⟩)
          go_wp2_with (at_builtin; refine wpList_push PrE.len PrE.one rfl _ _ 39 rfl W0.heap.size 45 i _ 16 Try.underlying39 hi hz0 hz1 hz2 rfl (by omega) _ ([] : List (Int × Int)) rfl (ho.out.mono (by repeat' (first | exact Below.refl _ _ | with_reducible assumption | refine bext ?_ ?_ _ | refine Below.alloc ?_ ?_ _ | refine Below.setCell ?_ ?_ _ | refine Below.drew ?_ | (simp; done) | (have hbz := hb.size; first | omega | (simp; omega)) | (simp; omega) | omega))) _ 1 (x.fr + (k : Int), x.fr + (k : Int)) rfl (fun j u hu => new_cells _ [.int .i64 (x.fr + (k : Int)), .int .i64 (x.fr + (k : Int))] _ _ (by simp) j u hu) (by unfold maxLen; simp) (by simp) (by first | omega | (simp; done) | (simp; omega) | (have hbz := hb.size; first | omega | (simp; omega))) ?_)
          intro v' w3 ho2 hg2
          have hb2 := below_push (lo := W0.heap.size) (B := W0.heap.size) (a := W0) (by repeat' (first | exact Below.refl _ _ | with_reducible assumption | refine bext ?_ ?_ _ | refine Below.alloc ?_ ?_ _ | refine Below.setCell ?_ ?_ _ | refine Below.drew ?_ | (simp; done) | (have hbz := hb.size; first | omega | (simp; omega)) | (simp; omega) | omega)) (ho.out.mono (by repeat' (first | exact Below.refl _ _ | with_reducible assumption | refine bext ?_ ?_ _ | refine Below.alloc ?_ ?_ _ | refine Below.setCell ?_ ?_ _ | refine Below.drew ?_ | (simp; done) | (have hbz := hb.size; first | omega | (simp; omega)) | (simp; omega) | omega))) hg2 (Nat.le_refl _) (by first | omega | (simp; done) | (simp; omega) | (have hbz := hb.size; first | omega | (simp; omega)))
          go_wp2_with fail
          go_roundw
          case rel => exact ⟨k + 1, hk1, congrArg (Value.int .i64) (by omega), by rw [hun.out]; exact ho2, hb2⟩
          case measure => simp [intOf]; omega
        · obtain ⟨g, cap, rfl, hlo, hgl, hcl, hcm, hfz, hcc⟩ := ho.out.form PrE.len h0
          obtain ⟨m, hm⟩ : ∃ m, L.length = m + 1 := ⟨L.length - 1, by omega⟩
          obtain ⟨-, -, d0, d1⟩ := PrE.at hcc m (by omega)
          rw [Nat.zero_add] at d0 d1
          have f1 := hfz (m * 2 + 1)
          unfold maxLen at hcm
          by_cases hq : (gd L m).2 = x.fr + (k : Int) - 1
          · have hun : Hid (spansTo l x (k + 1) = L.set m ((gd L m).1, x.fr + (k : Int))) := by
              show spansTo l x (k + 1) = _
              rw [hun, spanPut_set h0 (by rw [hm]; exact hq), hm]; rfl
            have hS := Lib.hid (ho.out.store PrE.len m (by omega) ((gd L m).1, x.fr + (k : Int)) 1 (by omega) (.int .i64 (x.fr + (k : Int))) rfl)
            clear ho hcc hfz
            go_wp2_with fail
            refine wp_region_ext (by kernel_rfl) (by kernel_rfl) ?_
            repeat (any_goals (first | go_big_quiet_step ((go_at_call 112; exact Calls.ext_of (trueOn_c _ l _ _ _ (h.mono (by repeat' (first | exact Below.refl _ _ | with_reducible assumption | refine bext ?_ ?_ _ | refine Below.alloc ?_ ?_ _ | refine Below.setCell ?_ ?_ _ | refine Below.drew ?_ | (simp; done) | (have hbz := hb.size; first | omega | (simp; omega)) | (simp; omega) | omega))))))))
            (refine wpQuiet_nil ?_)
            (rintro _ ⟨q, rfl⟩)
            go_wp2_with fail
            go_roundw
            case rel => exact ⟨k + 1, hk1, congrArg (Value.int .i64) (by omega), by rw [hun.out]; exact hS.out.mono (below_ext _ _), (by repeat' (first | exact Below.refl _ _ | with_reducible assumption | refine bext ?_ ?_ _ | refine Below.alloc ?_ ?_ _ | refine Below.setCell ?_ ?_ _ | refine Below.drew ?_ | (simp; done) | (have hbz := hb.size; first | omega | (simp; omega)) | (simp; omega) | omega))⟩
            case measure => simp [intOf]; omega
          · clear hfz hcc
            have hun : Hid (spansTo l x (k + 1) = L ++ [(x.fr + (k : Int), x.fr + (k : Int))]) := hun.trans (spanPut_new (by rintro ⟨_, hx⟩; rw [hm] at hx; exact hq hx))
            go_wp2_with fail
            refine wp_region_ext (by kernel_rfl) (by kernel_rfl) ?_
            repeat (any_goals (first | go_big_quiet_step ((go_at_call 112; exact Calls.ext_of (trueOn_c _ l _ _ _ (h.mono (by repeat' (first | exact Below.refl _ _ | with_reducible assumption | refine bext ?_ ?_ _ | refine Below.alloc ?_ ?_ _ | refine Below.setCell ?_ ?_ _ | refine Below.drew ?_ | (simp; done) | (have hbz := hb.size; first | omega | (simp; omega)) | (simp; omega) | omega))))))))
            (refine wpQuiet_nil ?_)
            (rintro _ ⟨q, rfl⟩)
            go_wp2_with (at_builtin; refine wpList_push PrE.len PrE.one rfl _ _ 39 rfl W0.heap.size 45 i _ 16 Try.underlying39 hi hz0 hz1 hz2 rfl (by omega) _ L rfl (ho.out.mono (by repeat' (first | exact Below.refl _ _ | with_reducible assumption | refine bext ?_ ?_ _ | refine Below.alloc ?_ ?_ _ | refine Below.setCell ?_ ?_ _ | refine Below.drew ?_ | (simp; done) | (have hbz := hb.size; first | omega | (simp; omega)) | (simp; omega) | omega))) _ 1 (x.fr + (k : Int), x.fr + (k : Int)) rfl (fun j u hu => new_cells _ [.int .i64 (x.fr + (k : Int)), .int .i64 (x.fr + (k : Int))] _ _ (by simp) j u hu) (by unfold maxLen; omega) (by omega) (by first | omega | (simp; done) | (simp; omega) | (have hbz := hb.size; first | omega | (simp; omega))) ?_)
            intro v' w3 ho2 hg2
            have hb2 := below_push (lo := W0.heap.size) (B := W0.heap.size) (a := W0) (by repeat' (first | exact Below.refl _ _ | with_reducible assumption | refine bext ?_ ?_ _ | refine Below.alloc ?_ ?_ _ | refine Below.setCell ?_ ?_ _ | refine Below.drew ?_ | (simp; done) | (have hbz := hb.size; first | omega | (simp; omega)) | (simp; omega) | omega)) (ho.out.mono (by repeat' (first | exact Below.refl _ _ | with_reducible assumption | refine bext ?_ ?_ _ | refine Below.alloc ?_ ?_ _ | refine Below.setCell ?_ ?_ _ | refine Below.drew ?_ | (simp; done) | (have hbz := hb.size; first | omega | (simp; omega)) | (simp; omega) | omega))) hg2 (Nat.le_refl _) (by first | omega | (simp; done) | (simp; omega) | (have hbz := hb.size; first | omega | (simp; omega)))
            go_wp2_with fail
            go_roundw
            case rel => exact ⟨k + 1, hk1, congrArg (Value.int .i64) (by omega), by rw [hun.out]; exact ho2, hb2⟩
            case measure => simp [intOf]; omega
    · go_wp2_with fail
      go_ret
      have hke : k = daysN x := by rw [hN.out]; have := hN.out; omega
      rw [← hke]
      exact ⟨_, rfl, ho.out.lower (by omega), B0.trans (hb.mono (by omega))⟩
set_option maxHeartbeats 2000000 in
set_option maxRecDepth 100000 in
theorem l20Days_c (v : Value) (l : List Iss) (x : Iss) (w : World) (h : Sl w Iss.enc 4 v l) (hA : areIss l = true) (hx : issOk x = true) :
    Calls Try.prog 109 #[v, .agg #[.int .i64 x.s, .int .i64 x.n, .int .i64 x.fr, .int .i64 x.un]] w (RetOwn w 45 PrE.enc 2 (spans l x)) := by
  have HT := Lib.hid hA
  clear hA
  obtain ⟨q1, q2, q3, q4, q5, q6, q7, q8⟩ := issOk_b hx
  clear hx
  obtain ⟨i, hi, hz0, hz1, hz2⟩ := info_parts (show (Try.prog.info? 45).map (fun i => (i.zero, i.size, i.bytes)) = some (some (.agg #[.int .i64 0, .int .i64 0]), 2, 16) by kernel_rfl)
  have hN : Hid (daysN x = (x.un - x.fr + 1).toNat) := rfl
  unfold spans
  go_enter Try.func109, Try.ntmps109
  go_wp2_with fail
  refine wpAt fun W0 e0 => ?_
  have B0 : Below w.heap.size w W0 := by rw [e0]; go_grown
  have hs : W0.cell? ⟨w.heap.size, 0, none⟩ = some (.int .i64 x.s) ∧ W0.cell? ⟨w.heap.size, 1, none⟩ = some (.int .i64 x.n) ∧ W0.cell? ⟨w.heap.size, 2, none⟩ = some (.int .i64 x.fr) ∧ W0.cell? ⟨w.heap.size, 3, none⟩ = some (.int .i64 x.un) ∧ w.heap.size + 1 < W0.heap.size ∧ Own W0 (w.heap.size + 1) 45 PrE.enc 2 (.slice (some ⟨w.heap.size + 1, 0, none⟩) 0 0) [] := by rw [e0]; refine ⟨by simp, by simp, by simp, by simp, by simp, ?_⟩; simpa using Own.empty (w.alloc (.cells #[.int .i64 x.s, .int .i64 x.n, .int .i64 x.fr, .int .i64 x.un] 30)) (w.heap.size + 1) 45 PrE.enc 2 (by simp)
  clear e0
  obtain ⟨c0, c1, c2, c3, hz2', hO⟩ := hs
  have hz : w.heap.size < w.heap.size + 1 := Nat.lt_succ_self _
  have hO := Lib.hid hO
  go_loopw [5, 6] (fun v d wr => ∃ k : Nat, k ≤ daysN x ∧ d = .int .i64 (x.fr + (k : Int)) ∧ Hid (Own wr (w.heap.size + 1) 45 PrE.enc 2 v (spansTo l x k)) ∧ Below (w.heap.size + 1) W0 wr ∧ W0.heap.size ≤ wr.heap.size) (fun _ d _ => (x.un + 1 - intOf d).toNat)
  case atStart => exact ⟨0, Nat.zero_le _, by simp, hO, Below.refl _ _, Nat.le_refl _⟩
  case round =>
    obtain ⟨k, hk, rfl, ho, hb, hzz⟩ := hrel
    clear hO
    have hzw : w.heap.size < wr.heap.size := by omega
    have c0 := (hb.cell (p := ⟨w.heap.size, 0, none⟩) hz).trans c0
    have c1 := (hb.cell (p := ⟨w.heap.size, 1, none⟩) hz).trans c1
    have c2 := (hb.cell (p := ⟨w.heap.size, 2, none⟩) hz).trans c2
    have c3 := (hb.cell (p := ⟨w.heap.size, 3, none⟩) hz).trans c3
    by_cases hlt : x.fr + (k : Int) ≤ x.un
    · have hul := spansTo_len l x k
      have hbw : Below w.heap.size w wr := B0.trans (hb.mono (by omega))
      have hk1 : k + 1 ≤ daysN x := by rw [hN.out]; omega
      cases hd : dayOn l x k
      · have hun := Lib.hid (spansTo_no hd)
        have hne : ¬ trueN l x.s (x.fr + (k : Int)) = x.n := by simpa [dayOn] using hd
        clear hd
        go_wp2_with fail
        refine wp_region_ext (by kernel_rfl) (by kernel_rfl) ?_
        repeat (any_goals (first | go_big_quiet_step ((go_at_call 116; exact Calls.ext_of (l20TrueN_c _ l _ _ _ (h.mono (by repeat' (first | exact Below.refl _ _ | with_reducible assumption | refine bext ?_ ?_ _ | refine Below.alloc ?_ ?_ _ | refine Below.setCell ?_ ?_ _ | refine Below.drew ?_ | (simp; done) | (have hbz := hb.size; first | omega | (simp; omega)) | (simp; omega) | omega))) HT.out)))))
        (refine wpQuiet_nil ?_)
        (rintro _ ⟨q, rfl⟩)
        go_wp2_with fail
        go_roundw
        case rel => exact ⟨k + 1, hk1, congrArg (Value.int .i64) (by omega), by rw [hun.out]; exact ho.out.mono (by repeat' (first | exact Below.refl _ _ | with_reducible assumption | refine bext ?_ ?_ _ | refine Below.alloc ?_ ?_ _ | refine Below.setCell ?_ ?_ _ | refine Below.drew ?_ | (simp; done) | (have hbz := hb.size; first | omega | (simp; omega)) | (simp; omega) | omega)), (by repeat' (first | exact Below.refl _ _ | with_reducible assumption | refine bext ?_ ?_ _ | refine Below.alloc ?_ ?_ _ | refine Below.setCell ?_ ?_ _ | refine Below.drew ?_ | (simp; done) | (have hbz := hb.size; first | omega | (simp; omega)) | (simp; omega) | omega)), (by first | omega | (simp; done) | (simp; omega) | (have hbz := hb.size; first | omega | (simp; omega)))⟩
        case measure => simp [intOf]; omega
      · have hun := spansTo_yes hd
        have hne : trueN l x.s (x.fr + (k : Int)) = x.n := by simpa [dayOn] using hd
        clear hd
        obtain ⟨L, hL⟩ : ∃ L, L = spansTo l x k := ⟨_, rfl⟩
        rw [← hL] at hun ho hul
        clear hL
        rcases Nat.eq_zero_or_pos L.length with h0 | h0
        · obtain rfl := List.eq_nil_of_length_eq_zero h0
          clear h0
          obtain ⟨a', cap', b', off', hv', -, -, -⟩ := ho.out.sl PrE.len
          change _ = Value.slice a' 0 cap' at hv'
          subst hv'
          have hun : Hid (spansTo l x (k + 1) = [] ++ [(x.fr + (k : Int), x.fr + (k : Int))]) := hun.trans (spanPut_new (by simp))
          go_wp2_with fail
          refine wp_region_ext (by kernel_rfl) (by kernel_rfl) ?_
          repeat (any_goals (first | go_big_quiet_step ((go_at_call 116; exact Calls.ext_of (l20TrueN_c _ l _ _ _ (h.mono (by repeat' (first | exact Below.refl _ _ | with_reducible assumption | refine bext ?_ ?_ _ | refine Below.alloc ?_ ?_ _ | refine Below.setCell ?_ ?_ _ | refine Below.drew ?_ | (simp; done) | (have hbz := hb.size; first | omega | (simp; omega)) | (simp; omega) | omega))) HT.out)))))
          (refine wpQuiet_nil ?_)
          (rintro _ ⟨q, rfl⟩)
          go_wp2_with (at_builtin; refine wpList_push PrE.len PrE.one rfl _ _ 39 rfl (w.heap.size + 1) 45 i _ 16 Try.underlying39 hi hz0 hz1 hz2 rfl (by omega) _ ([] : List (Int × Int)) rfl (ho.out.mono (by repeat' (first | exact Below.refl _ _ | with_reducible assumption | refine bext ?_ ?_ _ | refine Below.alloc ?_ ?_ _ | refine Below.setCell ?_ ?_ _ | refine Below.drew ?_ | (simp; done) | (have hbz := hb.size; first | omega | (simp; omega)) | (simp; omega) | omega))) _ 1 (x.fr + (k : Int), x.fr + (k : Int)) rfl (fun j u hu => new_cells _ [.int .i64 (x.fr + (k : Int)), .int .i64 (x.fr + (k : Int))] _ _ (by simp) j u hu) (by unfold maxLen; simp) (by simp) (by first | omega | (simp; done) | (simp; omega) | (have hbz := hb.size; first | omega | (simp; omega))) ?_)
          intro v' w3 ho2 hg2
          have hb2 := below_push (lo := w.heap.size + 1) (B := w.heap.size + 1) (a := W0) (by repeat' (first | exact Below.refl _ _ | with_reducible assumption | refine bext ?_ ?_ _ | refine Below.alloc ?_ ?_ _ | refine Below.setCell ?_ ?_ _ | refine Below.drew ?_ | (simp; done) | (have hbz := hb.size; first | omega | (simp; omega)) | (simp; omega) | omega)) (ho.out.mono (by repeat' (first | exact Below.refl _ _ | with_reducible assumption | refine bext ?_ ?_ _ | refine Below.alloc ?_ ?_ _ | refine Below.setCell ?_ ?_ _ | refine Below.drew ?_ | (simp; done) | (have hbz := hb.size; first | omega | (simp; omega)) | (simp; omega) | omega))) hg2 (Nat.le_refl _) (by first | omega | (simp; done) | (simp; omega) | (have hbz := hb.size; first | omega | (simp; omega)))
          go_wp2_with fail
          go_roundw
          case rel => exact ⟨k + 1, hk1, congrArg (Value.int .i64) (by omega), by rw [hun.out]; exact ho2, hb2, by have := hg2.size; simp at this; omega⟩
          case measure => simp [intOf]; omega
        · obtain ⟨g, cap, rfl, hlo, hgl, hcl, hcm, hfz, hcc⟩ := ho.out.form PrE.len h0
          obtain ⟨m, hm⟩ : ∃ m, L.length = m + 1 := ⟨L.length - 1, by omega⟩
          obtain ⟨-, -, d0, d1⟩ := PrE.at hcc m (by omega)
          rw [Nat.zero_add] at d0 d1
          have f0 := hfz (m * 2)
          have f1 := hfz (m * 2 + 1)
          unfold maxLen at hcm
          by_cases hq : (gd L m).2 = x.fr + (k : Int) - 1
          · have hun : Hid (spansTo l x (k + 1) = L.set m ((gd L m).1, x.fr + (k : Int))) := by
              show spansTo l x (k + 1) = _
              rw [hun, spanPut_set h0 (by rw [hm]; exact hq), hm]; rfl
            have hS1 := ho.out.store PrE.len m (by omega) (gd L m) 0 (by omega) (.int .i64 (gd L m).1) rfl
            rw [set_gd (by omega)] at hS1
            have hS := Lib.hid (hS1.store PrE.len m (by omega) ((gd L m).1, x.fr + (k : Int)) 1 (by omega) (.int .i64 (x.fr + (k : Int))) rfl)
            clear hS1
            clear ho hcc hfz
            go_wp2_with fail
            refine wp_region_ext (by kernel_rfl) (by kernel_rfl) ?_
            repeat (any_goals (first | go_big_quiet_step ((go_at_call 116; exact Calls.ext_of (l20TrueN_c _ l _ _ _ (h.mono (by repeat' (first | exact Below.refl _ _ | with_reducible assumption | refine bext ?_ ?_ _ | refine Below.alloc ?_ ?_ _ | refine Below.setCell ?_ ?_ _ | refine Below.drew ?_ | (simp; done) | (have hbz := hb.size; first | omega | (simp; omega)) | (simp; omega) | omega))) HT.out)))))
            (refine wpQuiet_nil ?_)
            (rintro _ ⟨q, rfl⟩)
            go_wp2_with fail
            go_roundw
            case rel => exact ⟨k + 1, hk1, congrArg (Value.int .i64) (by omega), by rw [hun.out]; exact hS.out.mono (below_ext _ _), (by repeat' (first | exact Below.refl _ _ | with_reducible assumption | refine bext ?_ ?_ _ | refine Below.alloc ?_ ?_ _ | refine Below.setCell ?_ ?_ _ | refine Below.drew ?_ | (simp; done) | (have hbz := hb.size; first | omega | (simp; omega)) | (simp; omega) | omega)), (by first | omega | (simp; done) | (simp; omega) | (have hbz := hb.size; first | omega | (simp; omega)))⟩
            case measure => simp [intOf]; omega
          · clear hfz hcc
            have hun : Hid (spansTo l x (k + 1) = L ++ [(x.fr + (k : Int), x.fr + (k : Int))]) := hun.trans (spanPut_new (by rintro ⟨_, hx⟩; rw [hm] at hx; exact hq hx))
            go_wp2_with fail
            refine wp_region_ext (by kernel_rfl) (by kernel_rfl) ?_
            repeat (any_goals (first | go_big_quiet_step ((go_at_call 116; exact Calls.ext_of (l20TrueN_c _ l _ _ _ (h.mono (by repeat' (first | exact Below.refl _ _ | with_reducible assumption | refine bext ?_ ?_ _ | refine Below.alloc ?_ ?_ _ | refine Below.setCell ?_ ?_ _ | refine Below.drew ?_ | (simp; done) | (have hbz := hb.size; first | omega | (simp; omega)) | (simp; omega) | omega))) HT.out)))))
            (refine wpQuiet_nil ?_)
            (rintro _ ⟨q, rfl⟩)
            go_wp2_with (at_builtin; refine wpList_push PrE.len PrE.one rfl _ _ 39 rfl (w.heap.size + 1) 45 i _ 16 Try.underlying39 hi hz0 hz1 hz2 rfl (by omega) _ L rfl (ho.out.mono (by repeat' (first | exact Below.refl _ _ | with_reducible assumption | refine bext ?_ ?_ _ | refine Below.alloc ?_ ?_ _ | refine Below.setCell ?_ ?_ _ | refine Below.drew ?_ | (simp; done) | (have hbz := hb.size; first | omega | (simp; omega)) | (simp; omega) | omega))) _ 1 (x.fr + (k : Int), x.fr + (k : Int)) rfl (fun j u hu => new_cells _ [.int .i64 (x.fr + (k : Int)), .int .i64 (x.fr + (k : Int))] _ _ (by simp) j u hu) (by unfold maxLen; omega) (by omega) (by first | omega | (simp; done) | (simp; omega) | (have hbz := hb.size; first | omega | (simp; omega))) ?_)
            intro v' w3 ho2 hg2
            have hb2 := below_push (lo := w.heap.size + 1) (B := w.heap.size + 1) (a := W0) (by repeat' (first | exact Below.refl _ _ | with_reducible assumption | refine bext ?_ ?_ _ | refine Below.alloc ?_ ?_ _ | refine Below.setCell ?_ ?_ _ | refine Below.drew ?_ | (simp; done) | (have hbz := hb.size; first | omega | (simp; omega)) | (simp; omega) | omega)) (ho.out.mono (by repeat' (first | exact Below.refl _ _ | with_reducible assumption | refine bext ?_ ?_ _ | refine Below.alloc ?_ ?_ _ | refine Below.setCell ?_ ?_ _ | refine Below.drew ?_ | (simp; done) | (have hbz := hb.size; first | omega | (simp; omega)) | (simp; omega) | omega))) hg2 (Nat.le_refl _) (by first | omega | (simp; done) | (simp; omega) | (have hbz := hb.size; first | omega | (simp; omega)))
            go_wp2_with fail
            go_roundw
            case rel => exact ⟨k + 1, hk1, congrArg (Value.int .i64) (by omega), by rw [hun.out]; exact ho2, hb2, by have := hg2.size; simp at this; omega⟩
            case measure => simp [intOf]; omega
    · go_wp2_with fail
      go_ret
      have hke : k = daysN x := by rw [hN.out]; have := hN.out; omega
      rw [← hke]
      exact ⟨_, rfl, ho.out.lower (by omega), B0.trans (hb.mono (by omega))⟩
end Go.Proofs.Ythibchaiaedboaa
