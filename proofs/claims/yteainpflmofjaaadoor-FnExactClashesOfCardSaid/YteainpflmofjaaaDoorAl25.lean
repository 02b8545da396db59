/- Entries: two of them that are alike, by the program and by the reference. No condition but sizes. -/
import Derived.Test.YteainpflmofjaaaDoorFe25
import Derived.Test.YteainpflmofjaaaDoorNum
import Derived.Test.YteainpflmofjaaaDoorStep
namespace Go.Proofs.YteainpflmofjaaaDoor
open Go.RowKit
structure Cls where
  f : Int
  x : ByteArray
  y : ByteArray
instance : Inhabited Cls := ⟨⟨0, ByteArray.empty, ByteArray.empty⟩⟩
def Cls.enc (c : Cls) : List Value := [.int .i64 c.f, .string c.x, .string c.y]
theorem Cls.len (c : Cls) : c.enc.length = 3 := rfl
theorem Cls.one (c : Cls) : ∀ u ∈ c.enc, u.oneCell' = true := by intro u hu; simp [Cls.enc] at hu; rcases hu with rfl | rfl | rfl <;> rfl
def c1B (a b : Ent) : Bool := decide (a.ti.toList ≠ b.ti.toList)
def c2B (a b : Ent) : Bool := decide (a.pl.toList ≠ b.pl.toList) && decide (a.pl.toList ≠ []) && decide (b.pl.toList ≠ [])
def c3B (a b : Ent) : Bool := decide (a.yr ≠ b.yr) && decide (a.yr ≠ 0) && decide (b.yr ≠ 0)
def c1L (a b : Ent) : List Cls := if c1B a b then [⟨1, a.ti, b.ti⟩] else []
def c2L (a b : Ent) : List Cls := if c2B a b then [⟨2, a.pl, b.pl⟩] else []
def c3L (a b : Ent) : List Cls := if c3B a b then [⟨3, numT a.yr, numT b.yr⟩] else []
def clashL (a b : Ent) : List Cls := c1L a b ++ c2L a b ++ c3L a b
def alikeB (a b : Ent) : Bool := !c1B a b && !c2B a b && !c3B a b
theorem clashL_nil (a b : Ent) : decide ((clashL a b).length = 0) = alikeB a b := by
  unfold clashL alikeB c1L c2L c3L
  cases c1B a b <;> cases c2B a b <;> cases c3B a b <;> simp
theorem clashL_len (a b : Ent) : (clashL a b).length ≤ 3 := by
  unfold clashL c1L c2L c3L
  cases c1B a b <;> cases c2B a b <;> cases c3B a b <;> simp
/-- where an entry stands -/
def entIdx (l : List Ent) (n : Int) : Option Nat := findTo (fun i => decide ((gd l i).id = n)) l.length
theorem entIdx_some {l : List Ent} {n : Int} {k : Nat} (h : entIdx l n = some k) : k < l.length ∧ (gd l k).id = n := by
  have := findTo_spec h
  simp only [decide_eq_true_eq] at this
  exact ⟨this.1, this.2.1⟩
theorem entIdx_same {l l' : List Ent} (h : l'.map Ent.bare = l.map Ent.bare) (n : Int) : entIdx l' n = entIdx l n := by
  have hl : l'.length = l.length := by simpa using congrArg List.length h
  unfold entIdx
  rw [hl]
  exact find_congr fun i hi => by rw [(Ent.sub_eq (ent_same h i hi)).1]
/-- all is valid, and the two stand at different places -/
def prGood (l : List Ent) (a b : Int) : Bool := areEnt l && (entIdx l (min a b)).isSome && (entIdx l (max a b)).isSome && decide (idxInt (entIdx l (min a b)) ≠ idxInt (entIdx l (max a b)))
def prI (l : List Ent) (a b : Int) : Nat := (entIdx l (min a b)).getD 0
def prK (l : List Ent) (a b : Int) : Nat := (entIdx l (max a b)).getD 0
def alB (l : List Ent) (a b : Int) : Bool := prGood l a b && alikeB (gd l (prI l a b)) (gd l (prK l a b))
theorem pr_some {l : List Ent} {a b : Int} (h : prGood l a b = true) : areEnt l = true ∧ entIdx l (min a b) = some (prI l a b) ∧ entIdx l (max a b) = some (prK l a b) ∧ prI l a b < l.length ∧ prK l a b < l.length := by
  simp only [prGood, Bool.and_eq_true] at h
  obtain ⟨i, hi⟩ := Option.isSome_iff_exists.1 h.1.1.2
  obtain ⟨k, hk⟩ := Option.isSome_iff_exists.1 h.1.2
  have e1 : prI l a b = i := by rw [prI, hi]; rfl
  have e2 : prK l a b = k := by rw [prK, hk]; rfl
  rw [e1, e2]
  exact ⟨h.1.1.1, hi, hk, (entIdx_some hi).1, (entIdx_some hk).1⟩
theorem alB_same {l l' : List Ent} (h : l'.map Ent.bare = l.map Ent.bare) (a b : Int) : alB l' a b = alB l a b ∧ prGood l' a b = prGood l a b := by
  have hg : prGood l' a b = prGood l a b := by rw [prGood, prGood, areEnt_same h, entIdx_same h, entIdx_same h]
  refine ⟨?_, hg⟩
  rw [alB, alB, hg]
  cases hh : prGood l a b
  · rfl
  · obtain ⟨_, _, _, h1, h2⟩ := pr_some hh
    have e1 : prI l' a b = prI l a b := by rw [prI, prI, entIdx_same h]
    have e2 : prK l' a b = prK l a b := by rw [prK, prK, entIdx_same h]
    obtain ⟨f1, f2, f3, f4, f5, f6⟩ := Ent.sub_eq (ent_same h _ h1)
    obtain ⟨g1, g2, g3, g4, g5, g6⟩ := Ent.sub_eq (ent_same h _ h2)
    rw [e1, e2, alikeB, alikeB, c1B, c1B, c2B, c2B, c3B, c3B, f2, f3, f4, g2, g3, g4]
set_option maxHeartbeats 400000 in
theorem entryAt1_c (x : Ent) (n : Int) (b : Nat) (W : World) (hc : W.cell? ⟨b, 0, none⟩ = some (.int .i64 n)) : Calls Tryd.prog 121 #[.agg #[.int .i64 x.id, .string x.ti, .string x.pl, .int .i64 x.yr, .int .i64 x.ct, .slice x.a x.sub.length x.cap], .pointer (some ⟨b, 0, none⟩)] W fun e w' => e = .returned (.bool (decide (x.id = n))) ∧ Below W.heap.size W w' := by
  have hb := block_lt_of_cell hc
  go_enter Tryd.func121, Tryd.ntmps121
  go_wp2_with fail
  go_ret
  exact ⟨rfl, (by repeat' (first | exact Below.refl _ _ | with_reducible assumption | refine bext ?_ ?_ _ | refine Below.alloc ?_ ?_ _ | refine Below.setCell ?_ ?_ _ | refine Below.drew ?_ | (simp; done) | (have hbz := hb.size; first | omega | (simp; omega)) | (simp; omega) | omega))⟩
set_option maxHeartbeats 1000000 in
theorem entryAt_c (v : Value) (l : List Ent) (n : Int) (w : World) (h : Sl w Ent.enc 6 v l) : Calls Tryd.prog 94 #[v, .int .i64 n] w fun e w' => e = .returned (.int .i64 (idxInt (entIdx l n))) ∧ Below w.heap.size w w' := by
  obtain ⟨a, cap, b, off, rfl, hlc, hm, hc⟩ := h
  have A0 := below_alloc w (.cells #[.int .i64 n] 3)
  have hF := Lib.hid (indexFuncEnt_c a cap b off l (w.alloc (.cells #[.int .i64 n] 3)) 121 #[.pointer (some ⟨w.heap.size, 0, none⟩)] (fun i => decide ((gd l i).id = n)) (Nat.le_trans hlc hm) (hc.mono A0) (fun _ _ => by kernel_rfl)
    (fun i W hi hB => entryAt1_c (gd l i) n w.heap.size W ((hB.cell (p := ⟨w.heap.size, 0, none⟩) (by simp)).trans (by simp))))
  go_enter Tryd.func94, Tryd.ntmps94
  go_wp2_with fail
  refine hF.out.mono ?_
  rintro e w1 ⟨rfl, hb⟩
  go_wp2_with fail
  go_ret
  exact ⟨rfl, btrans A0 hb⟩
set_option maxHeartbeats 400000 in
theorem l25Find_c (v : Value) (l : List Ent) (n : Int) (w : World) (h : Sl w Ent.enc 6 v l) : Calls Tryd.prog 90 #[v, .int .i64 n] w fun e w' => e = .returned (.int .i64 (idxInt (entIdx l n))) ∧ w = w' := by
  obtain ⟨a, cap, b, off, rfl, hlc, hm, hc⟩ := h
  unfold maxLen at hm
  go_enter Tryd.func90, Tryd.ntmps90
  go_wp2_with fail
  go_loop [5] (fun i => ∃ k : Nat, k ≤ l.length ∧ i = .int .i64 k ∧ Hid (∀ i, i < k → decide ((gd l i).id = n) = false)) (fun i => l.length - (intOf i).toNat)
  case atStart => exact ⟨0, Nat.zero_le _, rfl, fun i hi => by omega⟩
  case round =>
    obtain ⟨k, hk, rfl, hall⟩ := hrel
    by_cases hlt : k < l.length
    · obtain ⟨rfl, hbw, c0, c1, c2, c3, c4, c5⟩ := Ent.at hc k hlt
      by_cases hq : (gd l k).id = n
      · have ho := Lib.hid (show decide ((gd l k).id = n) = true by simp [hq])
        go_wp2_with fail
        go_ret
        exact ⟨ret_int (by unfold entIdx; rw [findTo_some (f := fun i => decide ((gd l i).id = n)) hall.out ho.out hlt]; rfl), rfl⟩
      · have ho := Lib.hid (show decide ((gd l k).id = n) = false by simp [hq])
        go_wp2_with fail
        go_round
        case rel => exact ⟨k + 1, by omega, by go_num, upto_succ hall.out ho.out⟩
        case measure => simp [intOf]; omega
    · obtain rfl : k = l.length := by omega
      go_wp2_with fail
      go_ret
      exact ⟨ret_int (by unfold entIdx; rw [findTo_none hall.out]; rfl), rfl⟩
end Go.Proofs.YteainpflmofjaaaDoor
