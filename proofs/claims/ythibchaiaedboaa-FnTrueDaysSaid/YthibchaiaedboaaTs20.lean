/- Issues: the pairs that are true on a day, by the program and by the reference. No condition but what a slice may hold. -/
import Derived.Test.YthibchaiaedboaaTr20
import Derived.Test.YthibchaiaedboaaTp20
import Derived.StillTailTactics
namespace Go.Proofs.Ythibchaiaedboaa
open Go.RowKit
set_option maxHeartbeats 2000000 in
theorem pairsOf_c (v : Value) (l : List Iss) (w : World) (g : Nat) (cb : Array Value) (p : Nat → Bool) (h : Sl w Iss.enc 4 v l) (hl : l.length ≤ 16)
    (eg : ∀ (args : Array Value) (W : World), (callFunc g args).run Try.prog W = .ok (.enter g args) W)
    (hf : ∀ i W, i < l.length → Below w.heap.size w W → Calls Try.prog g (#[.agg #[.int .i64 (gd l i).s, .int .i64 (gd l i).n, .int .i64 (gd l i).fr, .int .i64 (gd l i).un]] ++ cb) W fun e w' => e = .returned (.bool (p i)) ∧ Below W.heap.size W w') :
    Calls Try.prog 113 #[v, .func (.func g) #[] cb] w (RetOwn w 45 PrE.enc 2 (selTo p (fun i => prOf (gd l i)) l.length)) := by
  obtain ⟨a, cap, b, off, rfl, hlc, hm, hc⟩ := h
  unfold maxLen at hm
  obtain ⟨i, hi, hz0, hz1, hz2⟩ := info_parts (show (Try.prog.info? 45).map (fun i => (i.zero, i.size, i.bytes)) = some (some (.agg #[.int .i64 0, .int .i64 0]), 2, 16) by kernel_rfl)
  have HF := Lib.hid hf
  clear hf
  go_enter Try.func113, Try.ntmps113
  go_wp2_with fail
  go_loopw [5, 10] (fun v i wr => ∃ k : Nat, k ≤ l.length ∧ i = .int .i64 k ∧ Hid (Own wr w.heap.size 45 PrE.enc 2 v (selTo p (fun i => prOf (gd l i)) k)) ∧ Below w.heap.size w wr) (fun _ i _ => l.length - (intOf i).toNat)
  case atStart => exact ⟨0, Nat.zero_le _, rfl, Own.nil _ _ _ _ _, Below.refl _ _⟩
  case round =>
    obtain ⟨k, hk, rfl, ho, hb⟩ := hrel
    by_cases hlt : k < l.length
    · obtain ⟨rfl, hbw, c0, c1, c2, c3⟩ := Iss.at (hc.mono hb) k hlt
      have hul := selTo_len p (fun i => prOf (gd l i)) k
      have hz := hb.size
      have hf := HF.out k (wr.alloc (.cells #[.int .i64 (gd l k).s, .int .i64 (gd l k).n, .int .i64 (gd l k).fr, .int .i64 (gd l k).un] 30)) hlt (hb.alloc hz _)
      cases hp : p k
      · rw [hp] at hf
        have hf := Lib.hid hf
        have hun := Lib.hid (selTo_no (g := fun i => prOf (gd l i)) hp)
        clear hp
        go_wp2_with fail
        refine hf.out.mono ?_
        rintro e w' ⟨rfl, hb2⟩
        obtain ⟨q, rfl⟩ := ext_of_below hb2
        clear hb2
        go_wp2_with fail
        go_roundw
        case rel => exact ⟨k + 1, by omega, by go_num, by rw [hun.out]; exact ho.out.mono (by repeat' (first | exact Below.refl _ _ | with_reducible assumption | refine bext ?_ ?_ _ | refine Below.alloc ?_ ?_ _ | refine Below.setCell ?_ ?_ _ | refine Below.drew ?_ | (simp; done) | (have hbz := hb.size; first | omega | (simp; omega)) | (simp; omega) | omega)), (by repeat' (first | exact Below.refl _ _ | with_reducible assumption | refine bext ?_ ?_ _ | refine Below.alloc ?_ ?_ _ | refine Below.setCell ?_ ?_ _ | refine Below.drew ?_ | (simp; done) | (have hbz := hb.size; first | omega | (simp; omega)) | (simp; omega) | omega))⟩
        case measure => simp [intOf]; omega
      · rw [hp] at hf
        have hf := Lib.hid hf
        have hun := Lib.hid (selTo_yes (g := fun i => prOf (gd l i)) hp)
        clear hp
        go_wp2_with fail
        refine hf.out.mono ?_
        rintro e w' ⟨rfl, hb2⟩
        obtain ⟨q, rfl⟩ := ext_of_below hb2
        clear hb2
        go_wp2_with (at_builtin; refine wpList_push PrE.len PrE.one rfl _ _ 39 rfl w.heap.size 45 i _ 16 Try.underlying39 hi hz0 hz1 hz2 rfl (by omega) _ (selTo p (fun i => prOf (gd l i)) k) rfl (ho.out.mono (by repeat' (first | exact Below.refl _ _ | with_reducible assumption | refine bext ?_ ?_ _ | refine Below.alloc ?_ ?_ _ | refine Below.setCell ?_ ?_ _ | refine Below.drew ?_ | (simp; done) | (have hbz := hb.size; first | omega | (simp; omega)) | (simp; omega) | omega))) _ 1 (prOf (gd l k)) rfl (fun j u hu => new_cells _ [.int .i64 (gd l k).s, .int .i64 (gd l k).n] _ _ (by simp) j u hu) (by unfold maxLen; omega) (by omega) (by have := hb.size; simp; omega) ?_)
        intro v' w3 ho2 hg2
        have hb2 := below_push (lo := w.heap.size) (B := w.heap.size) (a := w) (by repeat' (first | exact Below.refl _ _ | with_reducible assumption | refine bext ?_ ?_ _ | refine Below.alloc ?_ ?_ _ | refine Below.setCell ?_ ?_ _ | refine Below.drew ?_ | (simp; done) | (have hbz := hb.size; first | omega | (simp; omega)) | (simp; omega) | omega)) (ho.out.mono (by repeat' (first | exact Below.refl _ _ | with_reducible assumption | refine bext ?_ ?_ _ | refine Below.alloc ?_ ?_ _ | refine Below.setCell ?_ ?_ _ | refine Below.drew ?_ | (simp; done) | (have hbz := hb.size; first | omega | (simp; omega)) | (simp; omega) | omega))) hg2 (Nat.le_refl _) (by have := hb.size; simp; omega)
        go_wp2_with fail
        go_roundw
        case rel => exact ⟨k + 1, by omega, by go_num, by rw [hun.out]; exact ho2, hb2⟩
        case measure => simp [intOf]; omega
    · obtain rfl : k = l.length := by omega
      go_wp2_with fail
      go_ret
      exact ⟨_, rfl, ho.out, hb⟩
end Go.Proofs.Ythibchaiaedboaa
