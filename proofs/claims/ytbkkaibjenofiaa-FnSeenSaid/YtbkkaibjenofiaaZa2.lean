/- Lists that a loop picks: general. Pairs of numbers as elements. No condition. Headings: the pairs that refer to each other. Plain law, and by the reference. No condition but what a slice may hold. Headings: pairs see each other in one step; what is left where one was dropped are headings, and none of them sees it. Plain. No condition. Headings: the pairs that refer to each other, by the program. No condition but what a slice may hold. -/
import Derived.Test.YtbkkaibjenofiaaHeld
import Derived.Test.YtbkkaibjenofiaaGd
import Derived.Test.YtbkkaibjenofiaaRi
import Derived.Test.YtbkkaibjenofiaaHp23
import Derived.Test.YtbkkaibjenofiaaHx23
import Derived.Test.YtbkkaibjenofiaaCk
import Derived.Deep.RegionLaw
import Derived.Outline
import Derived.Test.YtbkkaibjenofiaaPr23
import Derived.Test.YtbkkaibjenofiaaZa1
import Derived.Test.YtbkkaibjenofiaaHw23
import Derived.Test.YtbkkaibjenofiaaFind
import Derived.Deep.Cut
namespace Go.Proofs.Ytbkkaibjenofiaa
open Go.RowKit
/-- what a loop over the places below n picks -/
def selTo {α : Type} (f : Nat → Bool) (g : Nat → α) : Nat → List α
  | 0 => []
  | k + 1 => if f k then selTo f g k ++ [g k] else selTo f g k
theorem selTo_yes {α : Type} {f : Nat → Bool} {g : Nat → α} {k : Nat} (h : f k = true) : selTo f g (k + 1) = selTo f g k ++ [g k] := by simp [selTo, h]
theorem selTo_no {α : Type} {f : Nat → Bool} {g : Nat → α} {k : Nat} (h : f k = false) : selTo f g (k + 1) = selTo f g k := by simp [selTo, h]
theorem selTo_len {α : Type} (f : Nat → Bool) (g : Nat → α) : ∀ k, (selTo f g k).length ≤ k
  | 0 => Nat.le_refl _
  | k + 1 => by
    have := selTo_len f g k
    unfold selTo
    split
    · simp; omega
    · omega
theorem selTo_congr {α : Type} {f f' : Nat → Bool} {g g' : Nat → α} : ∀ {k : Nat}, (∀ i, i < k → f i = f' i ∧ g i = g' i) → selTo f g k = selTo f' g' k
  | 0, _ => rfl
  | k + 1, h => by
    have h1 := selTo_congr (k := k) (fun i hi => h i (by omega))
    have h2 := h k (by omega)
    unfold selTo
    rw [h1, h2.1, h2.2]
theorem selTo_mem {α : Type} {f : Nat → Bool} {g : Nat → α} {x : α} : ∀ {k : Nat}, x ∈ selTo f g k ↔ ∃ i, i < k ∧ f i = true ∧ x = g i
  | 0 => by simp [selTo]
  | k + 1 => by
    have ih := selTo_mem (f := f) (g := g) (x := x) (k := k)
    unfold selTo
    split
    · rename_i h
      simp only [List.mem_append, List.mem_singleton, ih]
      constructor
      · rintro (⟨i, a, b, c⟩ | rfl)
        · exact ⟨i, by omega, b, c⟩
        · exact ⟨k, by omega, h, rfl⟩
      · rintro ⟨i, a, b, c⟩
        rcases Nat.lt_or_eq_of_le (Nat.lt_succ_iff.1 a) with h1 | rfl
        · exact .inl ⟨i, h1, b, c⟩
        · exact .inr c
    · rename_i h
      rw [ih]
      constructor
      · rintro ⟨i, a, b, c⟩; exact ⟨i, by omega, b, c⟩
      · rintro ⟨i, a, b, c⟩
        rcases Nat.lt_or_eq_of_le (Nat.lt_succ_iff.1 a) with h1 | rfl
        · exact ⟨i, h1, b, c⟩
        · exact absurd b h
def PrE.enc (x : Int × Int) : List Value := [.int .i64 x.1, .int .i64 x.2]
theorem PrE.len (x : Int × Int) : (PrE.enc x).length = 2 := rfl
theorem PrE.one (x : Int × Int) : ∀ u ∈ PrE.enc x, u.oneCell' = true := by intro u hu; simp [PrE.enc] at hu; rcases hu with rfl | rfl <;> rfl
theorem PrE.at {w : World} {a : Option Addr} {b off : Nat} {l : List (Int × Int)} (h : Cells w PrE.enc 2 a b off l) (i : Nat) (hi : i < l.length) : a = some ⟨b, off, none⟩ ∧ b < w.heap.size ∧
    w.cell? ⟨b, off + i * 2, none⟩ = some (.int .i64 (gd l i).1) ∧ w.cell? ⟨b, off + i * 2 + 1, none⟩ = some (.int .i64 (gd l i).2) := by
  obtain ⟨ha, hb, c⟩ := h i hi
  exact ⟨ha, hb, c 0 _ rfl, c 1 _ rfl⟩
def PrE.mark (k : Int) : Int × Int := (k, k + 1)
/-- the marks from k0 on -/
def PrE.marks (k0 : Int) (n : Nat) : List (Int × Int) := (List.range n).map fun (i : Nat) => PrE.mark (k0 + 2 * (i : Int))
theorem PrE.marks_len (k0 : Int) (n : Nat) : (PrE.marks k0 n).length = n := by simp [PrE.marks]
theorem PrE.marks_at (k0 : Int) {n i : Nat} (h : i < n) : gd (PrE.marks k0 n) i = PrE.mark (k0 + 2 * (i : Int)) := by simp [PrE.marks, gd, h]
end Go.Proofs.Ytbkkaibjenofiaa

namespace Go.Proofs.Ytbkkaibjenofiaa
open Go.RowKit
def mutAt (l : List Hdg) (i k : Nat) : Bool := hasI (gd l i).sub (gd l k).id && hasI (gd l k).sub (gd l i).id
def mpIn (l : List Hdg) (i n : Nat) : List (List Int) := selTo (fun j => mutAt l i (i + 1 + j)) (fun j => [(gd l i).id, (gd l (i + 1 + j)).id]) n
def mpTo (l : List Hdg) : Nat → List (List Int)
  | 0 => []
  | i + 1 => mpTo l i ++ mpIn l i (l.length - (i + 1))
def mpR (l : List Hdg) : List (List Int) := if areHd l then mpTo l l.length else []
theorem mpR_no {l : List Hdg} (h : areHd l = false) : mpR l = [] := by simp [mpR, h]
theorem mpR_yes {l : List Hdg} (h : areHd l = true) : mpR l = mpTo l l.length := by simp [mpR, h]
theorem mpIn_len (l : List Hdg) (i n : Nat) : (mpIn l i n).length ≤ n := selTo_len _ _ _
theorem mpTo_len (l : List Hdg) : ∀ i, (mpTo l i).length ≤ i * l.length
  | 0 => by simp [mpTo]
  | i + 1 => by
    have h1 := mpTo_len l i
    have h2 := mpIn_len l i (l.length - (i + 1))
    have h3 : (i + 1) * l.length = i * l.length + l.length := Nat.succ_mul _ _
    simp only [mpTo, List.length_append]
    omega
theorem mpTo_small {l : List Hdg} (h : l.length ≤ 15) (i : Nat) (hi : i ≤ l.length) : (mpTo l i).length ≤ 225 := by
  have h1 := mpTo_len l i
  have h2 : i * l.length ≤ 15 * 15 := Nat.mul_le_mul (by omega) h
  omega
theorem mp_mem {l : List Hdg} {p : List Int} : ∀ {i : Nat}, p ∈ mpTo l i → ∃ a b, a < b ∧ b < l.length ∧ mutAt l a b = true ∧ p = [(gd l a).id, (gd l b).id]
  | 0, h => by simp [mpTo] at h
  | i + 1, h => by
    simp only [mpTo, List.mem_append] at h
    rcases h with h | h
    · exact mp_mem h
    · obtain ⟨j, h1, h2, h3⟩ := selTo_mem.1 h
      exact ⟨i, i + 1 + j, by omega, by omega, h2, h3⟩
theorem mpR_two {l : List Hdg} {p : List Int} (h : p ∈ mpR l) : p.length = 2 := by
  unfold mpR at h
  split at h
  · obtain ⟨a, b, _, _, _, rfl⟩ := mp_mem h
    rfl
  · simp at h
theorem mpR_len (l : List Hdg) : (mpR l).length ≤ 1048577 := by
  unfold mpR
  split
  · rename_i h
    have := mpTo_small (areHd_len h) l.length (Nat.le_refl _)
    omega
  · simp
theorem Own.made2 {W : World} {lo : Nat} {e : TypeId} (h : lo ≤ W.heap.size) (x y : Int) : Own (W.alloc (.cells #[.int .i64 x, .int .i64 y] e)) lo e IntE.enc 1 (.slice (some ⟨W.heap.size, 0, none⟩) 2 2) [x, y] :=
  ⟨rfl, .inr ⟨W.heap.size, 2, _, rfl, h, heap_alloc_new W _, Nat.le_refl _, by simp [maxLen], rfl, rfl⟩⟩
/-- one more pair is pushed -/
theorem pair_push {w W W' : World} {lo H : Nat} {v v' : Value} {l : List Rw} {x y : Int} (h : Rw.OwnN w lo H v l) (hb : Below w.heap.size w W) (hH : H ≤ w.heap.size)
    (hO : Own W lo 3 IntE.enc 1 (.slice (some ⟨w.heap.size, 0, none⟩) 2 2) [x, y])
    (ho : Own W' lo 33 Rw.enc 1 v' (l ++ [⟨some ⟨w.heap.size, 0, none⟩, 2, [x, y]⟩])) (hg : W.grownBy W' v.ownBlock) (hat : v'.ownBlock = v.ownBlock ∨ v'.ownBlock = some W.heap.size) :
    Rw.OwnN W' lo W'.heap.size v' (l ++ [⟨some ⟨w.heap.size, 0, none⟩, 2, [x, y]⟩]) :=
  NOwn.push (h.mono hb) ho hg hat (Nat.le_trans hH hb.size) hO (fun b hb2 => by
    have : w.heap.size = b := Option.some.inj hb2
    omega)
theorem mpIn_yes {l : List Hdg} {i k : Nat} (h : mutAt l i (i + 1 + k) = true) : mpIn l i (k + 1) = mpIn l i k ++ [[(gd l i).id, (gd l (i + 1 + k)).id]] := selTo_yes (f := fun j => mutAt l i (i + 1 + j)) h
theorem mpIn_no {l : List Hdg} {i k : Nat} (h : mutAt l i (i + 1 + k) = false) : mpIn l i (k + 1) = mpIn l i k := selTo_no (f := fun j => mutAt l i (i + 1 + j)) h
set_option maxHeartbeats 4000000 in
set_option maxRecDepth 100000 in
theorem specMutualPairs_c (v : Value) (l : List Hdg) (w : World) (h : Sl w Hdg.enc 4 v l) (hd : Hdg.Deep w l) (hs : ∀ i, i < l.length → (gd l i).Fits) : Calls Try.prog 31 #[v] w (RetGrid w (mpR l) (areHd l)) := by
  obtain ⟨i0, hi, hz0, hz1, hz2⟩ := info_parts (show (Try.prog.info? 33).map (fun i => (i.zero, i.size, i.bytes)) = some (some (.slice none 0 0), 1, 24) by kernel_rfl)
  have HA := Lib.hid (fun W (hb : Below w.heap.size w W) => l23Good_c v l W (h.mono hb) (hd.mono hb) hs)
  have hD := Lib.hid hd
  clear hd
  obtain ⟨a, cap, b, off, rfl, hlc, hm, hc⟩ := id h
  unfold maxLen at hm
  cases hA : areHd l
  · have hE := Lib.hid (mpR_no hA)
    rw [hA] at HA
    clear hA
    go_enter Try.func31, Try.ntmps31
    go_wp2_with (go_at_call 54; refine (HA.out _ (by repeat' (first | exact Below.refl _ _ | with_reducible assumption | refine bext ?_ ?_ _ | refine Below.alloc ?_ ?_ _ | refine Below.setCell ?_ ?_ _ | refine Below.drew ?_ | (simp; done) | (have hbz := hb.size; first | omega | (simp; omega)) | (simp; omega) | omega))).mono ?_; rintro e w' ⟨rfl, hbq⟩; obtain ⟨p, rfl⟩ := ext_of_below hbq; clear hbq)
    go_ret2
    rw [hE.out]
    exact ⟨_, [], rfl, ((NOwn.empty w _ (Nat.le_refl _)).mono (below_ext _ _)).wide (Nat.le_refl _) (by simp), rfl, (by repeat' (first | exact Below.refl _ _ | with_reducible assumption | refine bext ?_ ?_ _ | refine Below.alloc ?_ ?_ _ | refine Below.setCell ?_ ?_ _ | refine Below.drew ?_ | (simp; done) | (have hbz := hb.size; first | omega | (simp; omega)) | (simp; omega) | omega))⟩
  · have hE := Lib.hid (mpR_yes hA)
    have h15 := areHd_len hA
    have HT := Lib.hid hA
    rw [hA] at HA
    clear hA
    go_enter Try.func31, Try.ntmps31
    go_wp2_with (go_at_call 54; refine (HA.out _ (by repeat' (first | exact Below.refl _ _ | with_reducible assumption | refine bext ?_ ?_ _ | refine Below.alloc ?_ ?_ _ | refine Below.setCell ?_ ?_ _ | refine Below.drew ?_ | (simp; done) | (have hbz := hb.size; first | omega | (simp; omega)) | (simp; omega) | omega))).mono ?_; rintro e w' ⟨rfl, hbq⟩; obtain ⟨p, rfl⟩ := ext_of_below hbq; clear hbq)
    refine wpAt fun W1 hW => ?_
    have BW1 : Below w.heap.size w W1 := by rw [hW]; exact (by repeat' (first | exact Below.refl _ _ | with_reducible assumption | refine bext ?_ ?_ _ | refine Below.alloc ?_ ?_ _ | refine Below.setCell ?_ ?_ _ | refine Below.drew ?_ | (simp; done) | (have hbz := hb.size; first | omega | (simp; omega)) | (simp; omega) | omega))
    have O1 : Rw.OwnN W1 w.heap.size W1.heap.size (.slice (some ⟨w.heap.size, 0, none⟩) 0 0) [] := by rw [hW]; exact ((NOwn.empty w _ (Nat.le_refl _)).mono (below_ext _ _)).wide (Nat.le_refl _) (by simp)
    clear hW
    have O1 := Lib.hid O1
    go_loopw [4, 5, 6] (fun o vi _ wr => ∃ (i : Nat) (l' : List Rw), i ≤ l.length ∧ vi = .int .i64 i ∧ Hid (l'.map Rw.sub = mpTo l i) ∧ Hid (Rw.OwnN wr w.heap.size wr.heap.size o l') ∧ Below w.heap.size w wr) (fun _ vi _ _ => l.length - (intOf vi).toNat)
    case atStart => exact ⟨0, [], Nat.zero_le _, rfl, Lib.hid rfl, O1, BW1⟩
    case round =>
      obtain ⟨i, l', hil, rfl, hl', hO, hb⟩ := hrel
      obtain ⟨wo, hwo⟩ : ∃ x, x = wr := ⟨_, rfl⟩
      subst hwo
      by_cases hlt : i < l.length
      · have hsm := mpTo_small h15 i hil
        go_wp2_with fail
        go_loopw [4, 6] (fun o vk wr => ∃ (j : Nat) (l2 : List Rw), i + 1 ≤ j ∧ j ≤ l.length ∧ vk = .int .i64 j ∧ Hid (l2.map Rw.sub = mpTo l i ++ mpIn l i (j - (i + 1))) ∧ Hid (Rw.OwnN wr w.heap.size wr.heap.size o l2) ∧ Below w.heap.size w wr) (fun _ vk _ => l.length - (intOf vk).toNat)
        case atStart => exact ⟨i + 1, l', Nat.le_refl _, by omega, by go_num, Lib.hid (by rw [hl'.out, Nat.sub_self]; simp [mpIn, selTo]), hO, hb⟩
        case round =>
          obtain ⟨j, l2, hij1, hik, rfl, hl2, hO2, hb2⟩ := hrel
          obtain ⟨k, hk⟩ : ∃ k, k = j - (i + 1) := ⟨_, rfl⟩
          rw [← hk] at hl2
          have hlen2 : l2.length ≤ 225 + 15 := by
            have e1 : l2.length = (mpTo l i ++ mpIn l i k).length := by rw [← hl2.out]; simp
            have e2 := mpIn_len l i k
            rw [e1, List.length_append]; omega
          by_cases hkl : j < l.length
          · have hj : j = i + 1 + k := by omega
            clear hk
            obtain ⟨rfl, hbw, c0, c1, c2, c3⟩ := Hdg.at (hc.mono hb2) i hlt
            obtain ⟨-, -, d0, d1, d2, d3⟩ := Hdg.at (hc.mono hb2) j hkl
            have hS1 := fun W (hB : Below wr.heap.size wr W) => l1Has_c (.slice (gd l i).a (gd l i).sub.length (gd l i).cap) (gd l i).sub (gd l j).id W (Sl.mono (hD.out i hlt) (hb2.trans (hB.mono hb2.size)))
            have hS2 := fun W (hB : Below wr.heap.size wr W) => l1Has_c (.slice (gd l j).a (gd l j).sub.length (gd l j).cap) (gd l j).sub (gd l i).id W (Sl.mono (hD.out j hkl) (hb2.trans (hB.mono hb2.size)))
            have hmu : mutAt l i (i + 1 + k) = (hasI (gd l i).sub (gd l j).id && hasI (gd l j).sub (gd l i).id) := by rw [← hj]; rfl
            have hji : Hid ((gd l (i + 1 + k)).id = (gd l j).id) := by rw [← hj]; exact Lib.hid rfl
            have hij : ¬ j = i := by omega
            replace hj := Lib.hid hj
            cases q1 : hasI (gd l i).sub (gd l j).id
            · rw [q1] at hS1 hmu
              replace hS1 := Lib.hid hS1
              have hn := Lib.hid (mpIn_no hmu)
              clear hmu q1 hS2
              go_wp2_with fail
              refine wp_region_ext (by kernel_rfl) (by kernel_rfl) ?_
              repeat (any_goals (first | go_big_quiet_step ((go_at_call 65; exact Calls.ext_same (hS1.out _ (by repeat' (first | exact Below.refl _ _ | with_reducible assumption | refine bext ?_ ?_ _ | refine Below.alloc ?_ ?_ _ | refine Below.setCell ?_ ?_ _ | refine Below.drew ?_ | (simp; done) | (have hbz := hb.size; first | omega | (simp; omega)) | (simp; omega) | omega)))))))
              (refine wpQuiet_nil ?_)
              (rintro _ ⟨q, rfl⟩)
              go_wp2_with fail
              go_roundw
              case rel => exact ⟨j + 1, l2, by omega, by omega, by go_num, Lib.hid (by rw [show j + 1 - (i + 1) = k + 1 by have := hj.out; omega, hn.out]; exact hl2.out), Lib.hid ((hO2.out.mono (below_ext _ _)).wide (Nat.le_refl _) (by simp)), bext hb2 hb2.size _⟩
              case measure => simp [intOf]; omega
            · rw [q1] at hS1 hmu
              replace hS1 := Lib.hid hS1
              clear q1
              cases q2 : hasI (gd l j).sub (gd l i).id
              · rw [q2] at hS2 hmu
                replace hS2 := Lib.hid hS2
                have hn := Lib.hid (mpIn_no hmu)
                clear hmu q2
                go_wp2_with fail
                refine wp_region_ext (by kernel_rfl) (by kernel_rfl) ?_
                repeat (any_goals (first | go_big_quiet_step ((go_at_call 65; first | ((with_reducible refine Calls.ext_same (hS1.out _ ?_)); exact (by repeat' (first | exact Below.refl _ _ | with_reducible assumption | refine bext ?_ ?_ _ | refine Below.alloc ?_ ?_ _ | refine Below.setCell ?_ ?_ _ | refine Below.drew ?_ | (simp; done) | (have hbz := hb.size; first | omega | (simp; omega)) | (simp; omega) | omega))) | ((with_reducible refine Calls.ext_same (hS2.out _ ?_)); exact (by repeat' (first | exact Below.refl _ _ | with_reducible assumption | refine bext ?_ ?_ _ | refine Below.alloc ?_ ?_ _ | refine Below.setCell ?_ ?_ _ | refine Below.drew ?_ | (simp; done) | (have hbz := hb.size; first | omega | (simp; omega)) | (simp; omega) | omega)))))))
                (refine wpQuiet_nil ?_)
                (rintro _ ⟨q, rfl⟩)
                go_wp2_with fail
                go_roundw
                case rel => exact ⟨j + 1, l2, by omega, by omega, by go_num, Lib.hid (by rw [show j + 1 - (i + 1) = k + 1 by have := hj.out; omega, hn.out]; exact hl2.out), Lib.hid ((hO2.out.mono (below_ext _ _)).wide (Nat.le_refl _) (by simp)), bext hb2 hb2.size _⟩
                case measure => simp [intOf]; omega
              · rw [q2] at hS2 hmu
                replace hS2 := Lib.hid hS2
                have hn := Lib.hid (mpIn_yes hmu)
                clear hmu q2
                go_wp2_with fail
                refine wp_region_ext (by kernel_rfl) (by kernel_rfl) ?_
                repeat (any_goals (first | go_big_quiet_step ((go_at_call 65; first | ((with_reducible refine Calls.ext_same (hS1.out _ ?_)); exact (by repeat' (first | exact Below.refl _ _ | with_reducible assumption | refine bext ?_ ?_ _ | refine Below.alloc ?_ ?_ _ | refine Below.setCell ?_ ?_ _ | refine Below.drew ?_ | (simp; done) | (have hbz := hb.size; first | omega | (simp; omega)) | (simp; omega) | omega))) | ((with_reducible refine Calls.ext_same (hS2.out _ ?_)); exact (by repeat' (first | exact Below.refl _ _ | with_reducible assumption | refine bext ?_ ?_ _ | refine Below.alloc ?_ ?_ _ | refine Below.setCell ?_ ?_ _ | refine Below.drew ?_ | (simp; done) | (have hbz := hb.size; first | omega | (simp; omega)) | (simp; omega) | omega)))))))
                (refine wpQuiet_nil ?_)
                (rintro _ ⟨q, rfl⟩)
                go_wp2_with fail
                refine wpAt fun W9 e9 => ?_
                have b9 : Below wr.heap.size wr W9 := by rw [e9]; exact (by repeat' (first | exact Below.refl _ _ | with_reducible assumption | refine bext ?_ ?_ _ | refine Below.alloc ?_ ?_ _ | refine Below.setCell ?_ ?_ _ | refine Below.drew ?_ | (simp; done) | (have hbz := hb.size; first | omega | (simp; omega)) | (simp; omega) | omega))
                clear e9
                have hb9 : Below w.heap.size w W9 := hb2.trans (b9.mono hb2.size)
                have hz9 := hb9.size
                have hO9 := Lib.hid ((hO2.out.mono b9).wide (Nat.le_refl _) b9.size)
                obtain ⟨-, hbw9, c0, -, -, -⟩ := Hdg.at (hc.mono hb9) i hlt
                obtain ⟨-, -, d0, -, -, -⟩ := Hdg.at (hc.mono hb9) j hkl
                clear hS1 hS2
                go_region_law (first | (refine step_pushAt Rw.len Rw.one (by rfl) (.tmp 50) (.tmp 62) 48 (by rfl) w.heap.size 33 i0 _ 24 Try.underlying48 hi hz0 hz1 hz2 (by rfl) (by omega) _ l2 (by rfl) (hO9.out.own.mono (by repeat' (first | exact Below.refl _ _ | with_reducible assumption | refine bext ?_ ?_ _ | refine Below.alloc ?_ ?_ _ | refine Below.setCell ?_ ?_ _ | refine Below.drew ?_ | (simp; done) | (have hbz := hb.size; first | omega | (simp; omega)) | (simp; omega) | omega))) _ 1 ⟨some ⟨W9.heap.size, 0, none⟩, 2, [(gd l i).id, (gd l j).id]⟩ (by rfl) (cells1 (by simp)) (by unfold maxLen; omega) (by omega) (by simp; omega) ?_; intro v' w3 ho3 hg3 hat3) | fail)
                all_goals
                  have hP := Lib.hid (pair_push hO9.out (by repeat' (first | exact Below.refl _ _ | with_reducible assumption | refine bext ?_ ?_ _ | refine Below.alloc ?_ ?_ _ | refine Below.setCell ?_ ?_ _ | refine Below.drew ?_ | (simp; done) | (have hbz := hb.size; first | omega | (simp; omega)) | (simp; omega) | omega)) (Nat.le_refl _) ((Own.made2 hz9 _ _).mono (by repeat' (first | exact Below.refl _ _ | with_reducible assumption | refine bext ?_ ?_ _ | refine Below.alloc ?_ ?_ _ | refine Below.setCell ?_ ?_ _ | refine Below.drew ?_ | (simp; done) | (have hbz := hb.size; first | omega | (simp; omega)) | (simp; omega) | omega))) ho3 hg3 hat3)
                  have hB3 : Below w.heap.size w w3 := below_push (lo := w.heap.size) (Below.trans hb9 (Below.mono (B := W9.heap.size) (by repeat' (first | exact Below.refl _ _ | with_reducible assumption | refine bext ?_ ?_ _ | refine Below.alloc ?_ ?_ _ | refine Below.setCell ?_ ?_ _ | refine Below.drew ?_ | (simp; done) | (have hbz := hb.size; first | omega | (simp; omega)) | (simp; omega) | omega)) hz9)) (hO9.out.own.mono (by repeat' (first | exact Below.refl _ _ | with_reducible assumption | refine bext ?_ ?_ _ | refine Below.alloc ?_ ?_ _ | refine Below.setCell ?_ ?_ _ | refine Below.drew ?_ | (simp; done) | (have hbz := hb.size; first | omega | (simp; omega)) | (simp; omega) | omega))) hg3 (Nat.le_refl _) (by simp; omega)
                  clear ho3 hg3 hat3
                  go_wp2_with fail
                  go_roundw
                  case rel => exact ⟨j + 1, _, by omega, by omega, by go_num, Lib.hid (by rw [show j + 1 - (i + 1) = k + 1 by have := hj.out; omega, hn.out, List.map_append, hl2.out, List.append_assoc, hji.out]; rfl), hP.out, hB3⟩
                  case measure => simp [intOf]; omega
          · obtain rfl : j = l.length := by omega
            replace hk := Lib.hid hk
            go_wp2_with fail
            go_roundw
            case rel => exact ⟨i + 1, l2, by omega, by go_num, Lib.hid (by rw [hl2.out, mpTo, hk.out]), hO2, hb2⟩
            case measure => simp [intOf]; omega
      · obtain rfl : i = l.length := by omega
        go_wp2_with fail
        go_ret2
        rw [hE.out]
        exact ⟨_, l', rfl, hO.out, hl'.out, hb⟩
end Go.Proofs.Ytbkkaibjenofiaa

namespace Go.Proofs.Ytbkkaibjenofiaa
open Go.RowKit
theorem sn_of {l : List Hdg} (h : areHd l = true) {i : Nat} (hi : i < l.length) : isSn l (gd l i).id 1 = true := by
  simp only [isSn, isHd, h, areHd_at h hi]; simp; decide
theorem see_of {l : List Hdg} (h : areHd l = true) {i : Nat} (hi : i < l.length) : seeOf l (gd l i).id = (gd l i).sub := seeOf_at (areHd_at h hi)
theorem id_ne {l : List Hdg} (h : areHd l = true) {i j : Nat} (hij : i < j) (hj : j < l.length) : (gd l i).id ≠ (gd l j).id := by
  have := hd_up (areHd_heads h) i j hij hj
  omega
/-- the two of a pair see each other in one step -/
theorem mp_sees {l : List Hdg} {p : List Int} (h : areHd l = true) (hp : p ∈ mpR l) : ∃ a b, p = [a, b] ∧ isSn l a 1 = true ∧ isSn l b 1 = true ∧ hasI (snR l a 1) b = true ∧ hasI (snR l b 1) a = true := by
  rw [mpR_yes h] at hp
  obtain ⟨i, j, hij, hj, hm, rfl⟩ := mp_mem hp
  have hi : i < l.length := by omega
  simp only [mutAt, Bool.and_eq_true, hasI_mem] at hm
  have hne := id_ne h hij hj
  have s1 := sn_of h hi
  have s2 := sn_of h hj
  exact ⟨_, _, rfl, s1, s2, (sn_one s1).2 ⟨fun e => hne e.symm, by rw [see_of h hi]; exact hm.1⟩, (sn_one s2).2 ⟨hne, by rw [see_of h hj]; exact hm.2⟩⟩
theorem rising_pw {l : List Int} (h : rising l = true) : l.Pairwise (· < ·) := by
  simp only [rising, allTo_iff] at h
  rw [List.pairwise_iff_getElem]
  intro i j hi hj hij
  have key : ∀ d, i + 1 + d < l.length → gd l i < gd l (i + 1 + d) := fun d => by
    induction d with
    | zero =>
      intro h1
      have := h (i + 1) h1
      simpa [riseAt] using this
    | succ d ih =>
      intro h1
      have h2 := ih (by omega)
      have h3 := h (i + 1 + (d + 1)) h1
      simp only [riseAt, Bool.or_eq_true, beq_iff_eq, decide_eq_true_eq] at h3
      rcases h3 with h3 | h3
      · omega
      · rw [show i + 1 + (d + 1) - 1 = i + 1 + d by omega] at h3
        omega
  have := key (j - i - 1) (by omega)
  rw [show i + 1 + (j - i - 1) = j by omega, gd_get hi, gd_get hj] at this
  exact this
theorem rising_of {l : List Int} (h : l.Pairwise (· < ·)) : rising l = true := allTo_true fun i hi => by
  unfold riseAt
  by_cases h0 : i = 0
  · simp [h0]
  · have := List.pairwise_iff_getElem.1 h (i - 1) i (by omega) hi (by omega)
    rw [gd_get hi, gd_get (show i - 1 < l.length by omega)]
    simp [this]
/-- the headings that stay -/
def dpS (l : List Hdg) (n : Int) : List Hdg := pickG (fun i => !((gd l i).id == n)) (gd l) l.length
theorem dpOut_map (l : List Hdg) (n : Int) : dpOut l n l.length = (dpS l n).map (dpX n) := by simp [dpOut, dpS, pickG]
theorem dpS_sub (l : List Hdg) (n : Int) : (dpS l n).Sublist l := by
  have := pickG_sub (fun i => !((gd l i).id == n)) l l.length (Nat.le_refl _)
  rwa [List.take_length] at this
theorem dpS_mem {l : List Hdg} {n : Int} {x : Hdg} : x ∈ dpS l n ↔ ∃ i, i < l.length ∧ gd l i = x ∧ x.id ≠ n := by
  simp only [dpS, pickG, List.mem_map, List.mem_filter, List.mem_range]
  constructor
  · rintro ⟨i, ⟨h1, h2⟩, h3⟩
    exact ⟨i, h1, h3, by rw [← h3]; simpa using h2⟩
  · rintro ⟨i, h1, h2, h3⟩
    exact ⟨i, ⟨h1, by rw [h2]; simpa using h3⟩, h2⟩
theorem ids_pw {l : List Hdg} (h : areHd l = true) : l.Pairwise (fun a b => a.id < b.id) := by
  rw [List.pairwise_iff_getElem]
  intro i j hi hj hij
  have := hd_up (areHd_heads h) i j hij hj
  rwa [gd_get hi, gd_get hj] at this
theorem same_pw {l : List Hdg} (h : areHd l = true) : l.Pairwise (fun a b => (a.un == b.un && a.nm.toList == b.nm.toList) = false) := by
  rw [List.pairwise_iff_getElem]
  intro i j hi hj hij
  simp only [areHd, Bool.and_eq_true, allTo_iff] at h
  have := h.1 j hj
  simp only [hdI, Bool.and_eq_true, Bool.not_eq_true', Option.isSome_eq_false_iff, Option.isNone_iff_eq_none] at this
  have h2 := findTo_none_spec this.2 i hij
  unfold sameAt at h2
  rwa [gd_get hi, gd_get hj] at h2
theorem seeL_pw {n : Int} {s : List Int} (h : s.Pairwise (· < ·)) : (seeL n s).Pairwise (· < ·) := by
  have := pickG_sub (fun j => !(gd s j == n)) s s.length (Nat.le_refl _)
  rw [List.take_length] at this
  exact h.sublist this
theorem seeL_mem {n x : Int} {s : List Int} (h : x ∈ seeL n s) : x ∈ s ∧ x ≠ n := by
  obtain ⟨i, h1, h2, h3⟩ := pickG_mem h
  exact ⟨mem_gd.2 ⟨i, h1, h3⟩, by rw [← h3]; simpa using h2⟩
/-- what is left are headings -/
theorem dp_are {l : List Hdg} {n : Int} (hg : dpGood l n = true) : areHd (dpOut l n l.length) = true := by
  simp only [dpGood, Bool.and_eq_true, Bool.not_eq_true'] at hg
  obtain ⟨hI, hU⟩ := hg
  have h := (isHd_some hI).1
  have hun : ∀ i, i < l.length → (gd l i).un ≠ n := fun i hi e => by
    unfold dpUnd at hU
    rw [Option.isSome_eq_false_iff, Option.isNone_iff_eq_none] at hU
    have := findTo_none_spec hU i hi
    simp [e] at this
  have hsub := dpS_sub l n
  have hids := (ids_pw h).sublist hsub
  have hsame := (same_pw h).sublist hsub
  have hlen := hsub.length_le
  have h15 := areHd_len h
  rw [dpOut_map]
  have hL : ((dpS l n).map (dpX n)).length = (dpS l n).length := by simp
  have hgd : ∀ k, k < (dpS l n).length → gd ((dpS l n).map (dpX n)) k = dpX n (gd (dpS l n) k) := fun k hk => gd_map _ hk
  have hmem : ∀ k, k < (dpS l n).length → ∃ i, i < l.length ∧ gd l i = gd (dpS l n) k ∧ (gd (dpS l n) k).id ≠ n := fun k hk => dpS_mem.1 (gd_mem hk)
  have hat : ∀ i, i < l.length → (gd l i).id ≠ n → ∃ k, k < (dpS l n).length ∧ gd (dpS l n) k = gd l i := fun i hi hn => by
    have hm : gd l i ∈ dpS l n := dpS_mem.2 ⟨i, hi, rfl, hn⟩
    obtain ⟨k, hk, e⟩ := List.getElem_of_mem hm
    exact ⟨k, hk, by rw [gd_get hk]; exact e⟩
  have hlt : ∀ i j, i < j → j < (dpS l n).length → (gd (dpS l n) i).id < (gd (dpS l n) j).id := fun i j hij hj => by
    have := List.pairwise_iff_getElem.1 hids i j (by omega) hj hij
    rwa [gd_get (show i < _ by omega), gd_get hj]
  have hsm : ∀ i j, i < j → j < (dpS l n).length → ((gd (dpS l n) i).un == (gd (dpS l n) j).un && (gd (dpS l n) i).nm.toList == (gd (dpS l n) j).nm.toList) = false := fun i j hij hj => by
    have := List.pairwise_iff_getElem.1 hsame i j (by omega) hj hij
    rwa [gd_get (show i < _ by omega), gd_get hj]
  generalize dpS l n = S at *
  simp only [areHd, Bool.and_eq_true, decide_eq_true_eq]
  refine ⟨allTo_true fun k hk => ?_, by omega⟩
  rw [hL] at hk
  obtain ⟨i, hi, hx, hne⟩ := hmem k hk
  have hhead := areHd_heads h i hi
  have hH := h
  simp only [areHd, Bool.and_eq_true, allTo_iff] at hH
  have hIi := hH.1 i hi
  simp only [hdI, hdMid, Bool.and_eq_true, Bool.not_eq_true', Option.isSome_eq_false_iff, Option.isNone_iff_eq_none, decide_eq_true_eq] at hIi
  obtain ⟨⟨⟨_, ⟨hu, hs4⟩, hr⟩, hsb⟩, _⟩ := hIi
  have hxk : gd (S.map (dpX n)) k = dpX n (gd l i) := by rw [hgd k hk, ← hx]
  simp only [hdI, Bool.and_eq_true, Bool.not_eq_true', Option.isSome_eq_false_iff, Option.isNone_iff_eq_none]
  refine ⟨⟨⟨?_, ?_⟩, ?_⟩, ?_⟩
  · simp only [hdHead, Bool.and_eq_true, Bool.or_eq_true, beq_iff_eq, decide_eq_true_eq] at hhead ⊢
    rw [hxk]
    refine ⟨hhead.1, ?_⟩
    by_cases h0 : k = 0
    · exact .inl h0
    · refine .inr ?_
      rw [hgd (k - 1) (by omega), hx]
      exact hlt (k - 1) k (by omega) hk
  · simp only [hdMid, Bool.and_eq_true, Bool.or_eq_true, beq_iff_eq, decide_eq_true_eq]
    rw [hxk]
    refine ⟨⟨?_, Nat.le_trans (seeL_len _ _) hs4⟩, rising_of (seeL_pw (rising_pw hr))⟩
    by_cases h0 : (gd l i).un = 0
    · exact .inl h0
    · refine .inr ?_
      obtain ⟨j, hj, _, he⟩ := areHd_under h hi h0
      obtain ⟨m, hm, em⟩ := hat j (by omega) (by rw [he]; exact hun i hi)
      refine (hdIdx_take (by rw [hL]; omega)).2 ⟨m, ?_, ?_⟩
      · have h1 := hd_up (areHd_heads h) j i hj hi
        rcases Nat.lt_or_ge m k with h2 | h2
        · exact h2
        · exfalso
          rcases Nat.lt_or_eq_of_le h2 with h3 | rfl
          · have := hlt k m h3 hm
            rw [em, ← hx] at this; omega
          · rw [em] at hx
            rw [hx] at h1; omega
      · rw [hgd m hm, em]; exact he
  · refine findTo_none fun j hj => ?_
    rw [hxk] at hj
    have hm : gd (dpX n (gd l i)).sub j ∈ (dpX n (gd l i)).sub := gd_mem hj
    obtain ⟨hm1, hm2⟩ := seeL_mem hm
    obtain ⟨q, hq, eq⟩ := mem_gd.1 hm1
    have hb := findTo_none_spec hsb q hq
    simp only [seeBad, Bool.or_eq_false_iff, beq_eq_false_iff_ne, ne_eq, Bool.not_eq_false'] at hb
    rw [eq] at hb
    unfold seeBad
    rw [hxk]
    simp only [Bool.or_eq_false_iff, beq_eq_false_iff_ne, ne_eq, Bool.not_eq_false']
    refine ⟨hb.1, ?_⟩
    obtain ⟨r, hr2, er⟩ := hdIdx_isSome.1 hb.2
    obtain ⟨m, hm3, em⟩ := hat r hr2 (by rw [er]; exact hm2)
    exact hdIdx_isSome.2 ⟨m, by rw [hL]; exact hm3, by rw [hgd m hm3, em]; exact er⟩
  · refine findTo_none fun j hj => ?_
    unfold sameAt
    rw [hxk, hgd j (by omega), hx]
    exact hsm j k hj hk
/-- a dropped heading is seen from none -/
theorem dp_sees {l L : List Hdg} {n : Int} (hg : dpGood l n = true) (he : L.map Hdg.bare = dpB l n) : ∀ i, i < L.length → isSn L (gd L i).id 1 = true ∧ hasI (snR L (gd L i).id 1) n = false := fun i hi => by
  have hB : dpB l n = dpOut l n l.length := by rw [dpB, if_pos hg]
  have hmap : (dpOut l n l.length).map Hdg.bare = dpOut l n l.length := by
    rw [dpOut_map, List.map_map]
    exact List.map_congr_left (fun x _ => rfl)
  have he2 : L.map Hdg.bare = (dpOut l n l.length).map Hdg.bare := by rw [he, hB, hmap]
  have hA : areHd L = true := by rw [areHd_same he2]; exact dp_are hg
  have hs := sn_of hA hi
  refine ⟨hs, ?_⟩
  cases hh : hasI (snR L (gd L i).id 1) n
  · rfl
  · exfalso
    have h1 := ((sn_one hs).1 hh).2
    rw [see_of hA hi] at h1
    have hl : L.length = (dpOut l n l.length).length := by simpa using congrArg List.length he2
    have h2 := (hd_bare he2 i (by omega)).2.2.2
    rw [h2] at h1
    have hm := gd_mem (l := dpOut l n l.length) (i := i) (by omega)
    rw [dpOut_map, List.mem_map] at hm
    obtain ⟨x, _, ex⟩ := hm
    rw [dpOut_map, ← ex] at h1
    exact (seeL_mem h1).2 rfl
theorem dp_none {l L : List Hdg} {n : Int} (hg : dpGood l n = false) (he : L.map Hdg.bare = dpB l n) : L.length = 0 := by
  have : dpB l n = [] := by rw [dpB, hg]; rfl
  rw [this] at he
  simpa using congrArg List.length he
theorem mp_sees' {l : List Hdg} {p : List Int} (hp : p ∈ mpR l) : ∃ a b, p = [a, b] ∧ isSn l a 1 = true ∧ isSn l b 1 = true ∧ hasI (snR l a 1) b = true ∧ hasI (snR l b 1) a = true := by
  cases h : areHd l
  · rw [mpR_no h] at hp; cases hp
  · exact mp_sees h hp
theorem dp_all {l L : List Hdg} {n : Int} (he : L.map Hdg.bare = dpB l n) : ∀ i, i < L.length → isSn L (gd L i).id 1 = true ∧ hasI (snR L (gd L i).id 1) n = false := by
  cases h : dpGood l n
  · intro i hi
    have := dp_none h he
    omega
  · exact dp_sees h he
theorem dp_fit {l L : List Hdg} {n : Int} (he : L.map Hdg.bare = dpB l n) (hs : ∀ i, i < l.length → (gd l i).Fits) : ∀ i, i < L.length → (gd L i).Fits := fun i hi => by
  cases h : dpGood l n
  · have := dp_none h he
    omega
  · rw [dpB, if_pos h] at he
    have hl : L.length = (dpOut l n l.length).length := by simpa using congrArg List.length he
    have hm : gd (L.map Hdg.bare) i ∈ dpOut l n l.length := by rw [he]; exact gd_mem (by omega)
    rw [gd_map _ hi] at hm
    obtain ⟨j, hj, _, e⟩ := pickG_mem hm
    have h1 := hs j hj
    have h2 : (gd L i).nm = (gd l j).nm := by
      have := congrArg Hdg.nm e
      exact this.symm
    unfold Hdg.Fits at h1 ⊢
    rw [h2]
    exact ⟨h1.1, trivial⟩
end Go.Proofs.Ytbkkaibjenofiaa

namespace Go.Proofs.Ytbkkaibjenofiaa
open Go.RowKit
theorem mutAt_same {l l' : List Hdg} (h : l'.map Hdg.bare = l.map Hdg.bare) (i k : Nat) (hi : i < l.length) (hk : k < l.length) : mutAt l' i k = mutAt l i k := by
  have h1 := Hdg.sub_eq (map_same_at h i hi).2
  have h2 := Hdg.sub_eq (map_same_at h k hk).2
  unfold mutAt
  rw [h1.1, h1.2.2.2, h2.1, h2.2.2.2]
theorem mpTo_same {l l' : List Hdg} (h : l'.map Hdg.bare = l.map Hdg.bare) : ∀ i, i ≤ l.length → mpTo l' i = mpTo l i
  | 0, _ => rfl
  | i + 1, hi => by
    have e : l'.length = l.length := by simpa using congrArg List.length h
    rw [mpTo, mpTo, mpTo_same h i (by omega), e]
    congr 1
    refine selTo_congr fun j hj => ⟨mutAt_same h _ _ (by omega) (by omega), ?_⟩
    rw [(Hdg.sub_eq (map_same_at h i (by omega)).2).1, (Hdg.sub_eq (map_same_at h (i + 1 + j) (by omega)).2).1]
theorem mp_same {l l' : List Hdg} (h : l'.map Hdg.bare = l.map Hdg.bare) : mpR l' = mpR l ∧ areHd l' = areHd l := by
  have e : l'.length = l.length := by simpa using congrArg List.length h
  have hA := areHd_same h
  refine ⟨?_, hA⟩
  unfold mpR
  rw [hA, e, mpTo_same h _ (Nat.le_refl _)]
theorem mpB_bound (l : List Hdg) : (mpR l).length ≤ 1048577 ∧ ∀ x, x ∈ mpR l → x.length ≤ 1048577 := ⟨mpR_len l, fun x hx => by rw [mpR_two hx]; omega⟩
set_option maxHeartbeats 8000000 in
set_option maxRecDepth 100000 in
theorem mutualPairs_c (v : Value) (l : List Hdg) (w : World) (h : Sl w Hdg.enc 4 v l) (hd : Hdg.Deep w l) (hs : ∀ i, i < l.length → (gd l i).Fits) : Calls Try.prog 30 #[v] w (RetGrid w (mpR l) (areHd l)) := by
  obtain ⟨i0, hi, hz0, hz1, hz2⟩ := info_parts (show (Try.prog.info? 33).map (fun i => (i.zero, i.size, i.bytes)) = some (some (.slice none 0 0), 1, 24) by kernel_rfl)
  have HA := Lib.hid (fun W (hb : Below w.heap.size w W) => areHeadings_c v l W (h.mono hb) (hd.mono hb) hs)
  have hD := Lib.hid hd
  clear hd
  obtain ⟨a, cap, b, off, rfl, hlc, hm, hc⟩ := id h
  unfold maxLen at hm
  cases hA : areHd l
  · have hE := Lib.hid (mpR_no hA)
    rw [hA] at HA
    clear hA
    go_enter Try.func30, Try.ntmps30
    go_wp2_with (go_at_call 25; refine (HA.out _ (by repeat' (first | exact Below.refl _ _ | with_reducible assumption | refine bext ?_ ?_ _ | refine Below.alloc ?_ ?_ _ | refine Below.setCell ?_ ?_ _ | refine Below.drew ?_ | (simp; done) | (have hbz := hb.size; first | omega | (simp; omega)) | (simp; omega) | omega))).mono ?_; rintro e w' ⟨rfl, hbq⟩; obtain ⟨p, rfl⟩ := ext_of_below hbq; clear hbq)
    go_ret2
    rw [hE.out]
    exact ⟨_, [], rfl, NOwn.nil _ _ _, rfl, (by repeat' (first | exact Below.refl _ _ | with_reducible assumption | refine bext ?_ ?_ _ | refine Below.alloc ?_ ?_ _ | refine Below.setCell ?_ ?_ _ | refine Below.drew ?_ | (simp; done) | (have hbz := hb.size; first | omega | (simp; omega)) | (simp; omega) | omega))⟩
  · have hE := Lib.hid (mpR_yes hA)
    have h15 := areHd_len hA
    have HT := Lib.hid hA
    rw [hA] at HA
    clear hA
    go_enter Try.func30, Try.ntmps30
    go_wp2_with (go_at_call 25; refine (HA.out _ (by repeat' (first | exact Below.refl _ _ | with_reducible assumption | refine bext ?_ ?_ _ | refine Below.alloc ?_ ?_ _ | refine Below.setCell ?_ ?_ _ | refine Below.drew ?_ | (simp; done) | (have hbz := hb.size; first | omega | (simp; omega)) | (simp; omega) | omega))).mono ?_; rintro e w' ⟨rfl, hbq⟩; obtain ⟨p, rfl⟩ := ext_of_below hbq; clear hbq)
    go_loopw [4, 14] (fun o vi wr => ∃ (i : Nat) (l' : List Rw), i ≤ l.length ∧ vi = .int .i64 i ∧ Hid (l'.map Rw.sub = mpTo l i) ∧ Hid (Rw.OwnN wr w.heap.size wr.heap.size o l') ∧ Below w.heap.size w wr) (fun _ vi _ => l.length - (intOf vi).toNat)
    case atStart => exact ⟨0, [], Nat.zero_le _, rfl, Lib.hid rfl, Lib.hid (NOwn.nil _ _ _), (by repeat' (first | exact Below.refl _ _ | with_reducible assumption | refine bext ?_ ?_ _ | refine Below.alloc ?_ ?_ _ | refine Below.setCell ?_ ?_ _ | refine Below.drew ?_ | (simp; done) | (have hbz := hb.size; first | omega | (simp; omega)) | (simp; omega) | omega))⟩
    case round =>
      obtain ⟨i, l', hil, rfl, hl', hO, hb⟩ := hrel
      by_cases hlt : i < l.length
      · have hsm := mpTo_small h15 i hil
        obtain ⟨rfl, hbw, c0, c1, c2, c3⟩ := Hdg.at (hc.mono hb) i hlt
        have hi1 : (i : Int) + 1 ≤ (l.length : Int) := by omega
        have hi2 : (i : Int) + 1 ≤ (cap : Int) := by omega
        by_cases hck : cap = i + 1
        · have hn0 : l.length - (i + 1) = 0 := by omega
          have hmp : Hid (mpTo l (i + 1) = mpTo l i) := Lib.hid (by rw [mpTo, hn0]; simp [mpIn, selTo])
          go_wp2_with fail
          refine wpAt fun W2 hW2 => ?_
          have b2 : Below wr.heap.size wr W2 := by rw [hW2]; exact below_alloc _ _
          clear hW2
          have hbW : Below w.heap.size w W2 := hb.trans (b2.mono hb.size)
          have hO3 := Lib.hid ((hO.out.mono b2).wide (Nat.le_refl _) b2.size)
          clear hO b2 hb
          go_loopw [4, 24] (fun o vk wi => ∃ (l2 : List Rw), vk = .int .i64 0 ∧ Hid (l2.map Rw.sub = mpTo l i) ∧ Hid (Rw.OwnN wi w.heap.size wi.heap.size o l2) ∧ Below w.heap.size w wi) (fun _ _ _ => 0)
          case atStart => exact ⟨l', rfl, hl', hO3, hbW⟩
          case round =>
            obtain ⟨l2, rfl, hl2, hO2, hb2⟩ := hrel
            go_wp2_with fail
            go_roundw
            case rel => exact ⟨i + 1, l2, by omega, by go_num, Lib.hid (by rw [hmp.out]; exact hl2.out), hO2, hb2⟩
            case measure => simp [intOf]; omega
        · have hck2 : ¬ (cap : Int) = (i : Int) + 1 := by omega
          go_wp2_with fail
          refine wpAt fun W2 hW2 => ?_
          have bx : BoxAt W2 wr.heap.size [.int .i64 (gd l i).id, .string (gd l i).nm, .int .i64 (gd l i).un, .slice (gd l i).a (gd l i).sub.length (gd l i).cap] := by rw [hW2]; exact BoxAt.new wr _ _
          have b2 : Below wr.heap.size wr W2 := by rw [hW2]; exact below_alloc _ _
          clear hW2
          have hbW : Below w.heap.size w W2 := hb.trans (b2.mono hb.size)
          have hO3 := Lib.hid ((hO.out.mono b2).wide (Nat.le_refl _) b2.size)
          have hne : Hid (∀ q, Value.ownBlock u4 = some q → q ≠ wr.heap.size) := Lib.hid (fun q hq => by have := hO.out.2.1 q hq; omega)
          have hzr := hb.size
          have y0 := bx.2 0 _ rfl
          have y3 := bx.2 3 _ rfl
          clear hO b2 bx
          generalize hbk : wr.heap.size = bk at hne y0 y3 hzr ⊢
          clear hbk hb
          go_loopw [4, 24] (fun o vk wi => ∃ (k : Nat) (l2 : List Rw), k ≤ (l.length - (i + 1)) ∧ vk = .int .i64 k ∧ Hid (l2.map Rw.sub = mpTo l i ++ mpIn l i k) ∧ Hid (Rw.OwnN wi w.heap.size wi.heap.size o l2) ∧ Hid (∀ q, Value.ownBlock o = some q → q ≠ bk) ∧ wi.cell? ⟨bk, 0, none⟩ = some (.int .i64 (gd l i).id) ∧ wi.cell? ⟨bk, 3, none⟩ = some (.slice (gd l i).a (gd l i).sub.length (gd l i).cap) ∧ Below w.heap.size w wi) (fun _ vk _ => (l.length - (i + 1)) - (intOf vk).toNat)
          case atStart => exact ⟨0, l', Nat.zero_le _, rfl, Lib.hid (by rw [hl'.out]; simp [mpIn, selTo]), hO3, hne, y0, y3, hbW⟩
          case round =>
            obtain ⟨k, l2, hik, rfl, hl2, hO2, hne2, y0, y3, hb2⟩ := hrel
            have hlen2 : l2.length ≤ 225 + 15 := by
              have e1 : l2.length = (mpTo l i ++ mpIn l i k).length := by rw [← hl2.out]; simp
              have e2 := mpIn_len l i k
              rw [e1, List.length_append]; omega
            by_cases hkl : k < (l.length - (i + 1))
            · obtain ⟨j, hj⟩ : ∃ j, j = i + 1 + k := ⟨_, rfl⟩
              have hjl : j < l.length := by omega
              obtain ⟨-, -, d0, d1, d2, d3⟩ := Hdg.at (hc.mono hb2) j hjl
              rw [show off + j * 4 = (off + (i + 1) * 4) + k * 4 by omega] at d0 d1 d2 d3
              have hbk : bk < wr.heap.size := block_lt_of_cell y0
              have hbl := block_lt_of_cell d0
              have hS1 := fun W (hB : Below wr.heap.size wr W) => containsInt_c (.slice (gd l i).a (gd l i).sub.length (gd l i).cap) (gd l i).sub (gd l j).id W (Sl.mono (hD.out i hlt) (hb2.trans (hB.mono hb2.size)))
              have hS2 := fun W (hB : Below wr.heap.size wr W) => containsInt_c (.slice (gd l j).a (gd l j).sub.length (gd l j).cap) (gd l j).sub (gd l i).id W (Sl.mono (hD.out j hjl) (hb2.trans (hB.mono hb2.size)))
              have hmu : mutAt l i (i + 1 + k) = (hasI (gd l i).sub (gd l j).id && hasI (gd l j).sub (gd l i).id) := by rw [← hj]; rfl
              have hji : Hid ((gd l (i + 1 + k)).id = (gd l j).id) := by rw [← hj]; exact Lib.hid rfl
              replace hj := Lib.hid hj
              have A0 := below_alloc wr (.cells #[.int .i64 (gd l j).id, .string (gd l j).nm, .int .i64 (gd l j).un, .slice (gd l j).a (gd l j).sub.length (gd l j).cap] 55)
              have NX := Lib.hid ((hO2.out.mono A0).wide (Nat.le_refl _) A0.size)
              have BX := hb2.trans (A0.mono hb2.size)
              change ∀ W, Below wr.heap.size wr W → Calls _ _ _ W (fun e w' => e = .returned (.bool (hasI (gd l i).sub (gd l j).id)) ∧ W = w') at hS1
              change ∀ W, Below wr.heap.size wr W → Calls _ _ _ W (fun e w' => e = .returned (.bool (hasI (gd l j).sub (gd l i).id)) ∧ W = w') at hS2
              cases q1 : hasI (gd l i).sub (gd l j).id
              · rw [q1] at hS1 hmu
                replace hS1 := Lib.hid hS1
                have hn := Lib.hid (mpIn_no hmu)
                clear hmu q1 hS2
                go_wp2_with (go_at_call 63; refine (hS1.out _ A0).mono ?_; rintro e w' ⟨rfl, rfl⟩)
                go_roundw
                case rel => exact ⟨k + 1, l2, by omega, by go_num, Lib.hid (by rw [hn.out]; exact hl2.out), NX, hne2, cellOn A0 y0, cellOn A0 y3, BX⟩
                case measure => simp [intOf]; omega
              · rw [q1] at hS1 hmu
                replace hS1 := Lib.hid hS1
                clear q1
                cases q2 : hasI (gd l j).sub (gd l i).id
                · rw [q2] at hS2 hmu
                  replace hS2 := Lib.hid hS2
                  have hn := Lib.hid (mpIn_no hmu)
                  clear hmu q2
                  go_wp2_with (go_at_call 63; first | ((with_reducible refine (hS1.out _ A0).mono ?_); rintro e w' ⟨rfl, rfl⟩; clear hS1) | ((with_reducible refine (hS2.out _ A0).mono ?_); rintro e w' ⟨rfl, rfl⟩))
                  go_roundw
                  case rel => exact ⟨k + 1, l2, by omega, by go_num, Lib.hid (by rw [hn.out]; exact hl2.out), NX, hne2, cellOn A0 y0, cellOn A0 y3, BX⟩
                  case measure => simp [intOf]; omega
                · rw [q2] at hS2 hmu
                  replace hS2 := Lib.hid hS2
                  have hn := Lib.hid (mpIn_yes hmu)
                  clear hmu q2
                  go_upto_region 11 with (go_at_call 63; first | ((with_reducible refine (hS1.out _ A0).mono ?_); rintro e w' ⟨rfl, rfl⟩; clear hS1) | ((with_reducible refine (hS2.out _ A0).mono ?_); rintro e w' ⟨rfl, rfl⟩))
                  refine wpAt fun W9 e9 => ?_
                  have hb9 : Below w.heap.size w W9 := by rw [e9]; exact BX
                  have hO9 : Hid (Rw.OwnN W9 w.heap.size W9.heap.size u4 l2) := by rw [e9]; exact NX
                  have z0 : W9.cell? ⟨bk, 0, none⟩ = some (.int .i64 (gd l i).id) := by rw [e9]; exact cellOn A0 y0
                  have z3 : W9.cell? ⟨bk, 3, none⟩ = some (.slice (gd l i).a (gd l i).sub.length (gd l i).cap) := by rw [e9]; exact cellOn A0 y3
                  have x0 : W9.cell? ⟨wr.heap.size, 0, none⟩ = some (.int .i64 (gd l j).id) := by rw [e9]; simp
                  have hz9 := hb9.size
                  have hbk9 : bk < W9.heap.size := block_lt_of_cell z0
                  clear e9 NX BX hS2 A0
                  go_wp2_with (at_builtin; refine wpList_pushAt Rw.len Rw.one rfl (.tmp 40) (.tmp 46) 48 rfl w.heap.size 33 i0 _ 24 Try.underlying48 hi hz0 hz1 hz2 rfl (by omega) u4 l2 rfl (hO9.out.own.mono (by repeat' (first | exact Below.refl _ _ | with_reducible assumption | refine bext ?_ ?_ _ | refine Below.alloc ?_ ?_ _ | refine Below.setCell ?_ ?_ _ | refine Below.drew ?_ | (simp; done) | (have hbz := hb.size; first | omega | (simp; omega)) | (simp; omega) | omega))) _ 1 ⟨some ⟨W9.heap.size, 0, none⟩, 2, [(gd l i).id, (gd l j).id]⟩ rfl (cells1 (by simp)) (by unfold maxLen; omega) (by omega) (by simp; omega) ?_; intro v' w3 ho3 hg3 hat3)
                  have hP := Lib.hid (pair_push hO9.out (btrans (below_alloc _ _) (below_alloc _ _)) (Nat.le_refl _) ((Own.made2 hz9 _ _).mono (below_alloc _ _)) ho3 hg3 hat3)
                  have hB3 : Below w.heap.size w w3 := below_push (lo := w.heap.size) (Below.trans hb9 ((btrans (below_alloc _ _) (below_alloc _ _)).mono hz9)) (hO9.out.own.mono (btrans (below_alloc _ _) (below_alloc _ _))) hg3 (Nat.le_refl _) (by simp; omega)
                  have z0' := cellGrown (cellOn (btrans (below_alloc _ _) (below_alloc _ _)) z0) hg3 (fun e => hne2.out bk e.symm rfl)
                  have z3' := cellGrown (cellOn (btrans (below_alloc _ _) (below_alloc _ _)) z3) hg3 (fun e => hne2.out bk e.symm rfl)
                  have hne3 : Hid (∀ q, Value.ownBlock v' = some q → q ≠ bk) := Lib.hid (fun q hq => by
                    rcases hat3 with h4 | h4
                    · exact hne2.out q (by rw [← h4]; exact hq)
                    · rw [h4] at hq
                      injection hq with hq
                      simp at hq; omega)
                  clear ho3 hg3 hat3
                  go_wp2_with fail
                  go_roundw
                  case rel => exact ⟨k + 1, _, by omega, by go_num, Lib.hid (by rw [hn.out, List.map_append, hl2.out, List.append_assoc, hji.out]; rfl), hP.out, hne3, z0', z3', hB3⟩
                  case measure => simp [intOf]; omega
            · obtain rfl : k = (l.length - (i + 1)) := by omega
              go_wp2_with fail
              go_roundw
              case rel => exact ⟨i + 1, l2, by omega, by go_num, Lib.hid (by rw [hl2.out, mpTo]), hO2, hb2⟩
              case measure => simp [intOf]; omega
      · obtain rfl : i = l.length := by omega
        go_wp2_with fail
        go_ret2
        rw [hE.out]
        exact ⟨_, l', rfl, hO.out, hl'.out, hb⟩
end Go.Proofs.Ytbkkaibjenofiaa
