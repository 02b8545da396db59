/- Repairs: searches, and what proper repairs are. No condition but what a slice may hold. -/
import Derived.Test.YthibchaiaedboaaSp22
namespace Go.Proofs.Ythibchaiaedboaa
open Go.RowKit

def findDmg (l : List Dmg) (s : Int) : Option Nat := findTo (fun i => (gd l i).s == s) l.length
def linedB (x : Rep) (s : Int) : Bool := x.s == s && x.wk == 4
def lined (l : List Rep) (s : Int) : Bool := (findTo (fun i => linedB (gd l i) s) l.length).isSome
def repBase (dl : List Dmg) (rl : List Rep) (i : Nat) : Bool :=
  (findDmg dl (gd rl i).s).isSome && inB (gd rl i).wk 1 4 && inB (gd rl i).d 0 4000 && (i == 0 || decide ((gd rl (i - 1)).d ≤ (gd rl i).d))
def repAt (dl : List Dmg) (rl : List Rep) (i : Nat) : Bool := repBase dl rl i && !(decide (3 ≤ (gd rl i).wk) && lined (rl.take i) (gd rl i).s)
def areRep (dl : List Dmg) (rl : List Rep) : Bool := areDmg dl && (decide (rl.length ≤ 12) && allTo (repAt dl rl) rl.length)

/-! ### the reference's searches -/
set_option maxHeartbeats 400000 in
theorem l22Find_c (v : Value) (l : List Dmg) (s : Int) (w : World) (h : Sl w Dmg.enc 4 v l) : Calls Try.prog 185 #[v, .int .i64 s] w fun e w' => e = .returned (.int .i64 (idxInt (findDmg l s))) ∧ w = w' := by
  obtain ⟨a, cap, b, off, rfl, hlc, hm, hc⟩ := h
  unfold maxLen at hm
  go_enter Try.func185, Try.ntmps185
  go_wp2_with fail
  go_loop [5] (fun i => ∃ k : Nat, k ≤ l.length ∧ i = .int .i64 k ∧ Hid (∀ i, i < k → ((gd l i).s == s) = false)) (fun i => l.length - (intOf i).toNat)
  case atStart => exact ⟨0, Nat.zero_le _, rfl, fun i hi => by omega⟩
  case round =>
    obtain ⟨k, hk, rfl, hall⟩ := hrel
    by_cases hlt : k < l.length
    · obtain ⟨rfl, hbw, c0, -, -, -⟩ := Dmg.at hc k hlt
      cases hq : (gd l k).s == s
      · go_wp2_with fail
        go_round
        case rel => exact ⟨k + 1, by omega, by go_num, upto_succ hall.out hq⟩
        case measure => simp [intOf]; omega
      · have he : Hid (findDmg l s = some k) := findTo_some hall.out hq hlt
        go_wp2_with fail
        go_ret
        exact ⟨ret_int (by rw [he.out]; rfl), rfl⟩
    · obtain rfl : k = l.length := by omega
      have he : Hid (findDmg l s = none) := findTo_none hall.out
      go_wp2_with fail
      go_ret
      exact ⟨ret_int (by rw [he.out]; rfl), rfl⟩
set_option maxHeartbeats 400000 in
theorem l22Lined_c (v : Value) (l : List Rep) (s : Int) (w : World) (h : Sl w Rep.enc 3 v l) : Calls Try.prog 186 #[v, .int .i64 s] w fun e w' => e = .returned (.bool (lined l s)) ∧ w = w' := by
  obtain ⟨a, cap, b, off, rfl, hlc, hm, hc⟩ := h
  unfold maxLen at hm
  go_enter Try.func186, Try.ntmps186
  go_wp2_with fail
  go_loop [5] (fun i => ∃ k : Nat, k ≤ l.length ∧ i = .int .i64 k ∧ Hid (∀ i, i < k → linedB (gd l i) s = false)) (fun i => l.length - (intOf i).toNat)
  case atStart => exact ⟨0, Nat.zero_le _, rfl, fun i hi => by omega⟩
  case round =>
    obtain ⟨k, hk, rfl, hall⟩ := hrel
    by_cases hlt : k < l.length
    · obtain ⟨rfl, hbw, c0, c1, -⟩ := Rep.at hc k hlt
      cases hq : (gd l k).s == s <;> cases hq2 : (gd l k).wk == 4
      all_goals
        have ho : Hid (linedB (gd l k) s = _) := (show linedB (gd l k) s = (_ && _) by rw [linedB, hq, hq2])
        go_wp2_with fail
      all_goals first
        | (go_round
           case rel => exact ⟨k + 1, by omega, by go_num, upto_succ hall.out ho.out⟩
           case measure => simp [intOf]; omega)
        | (go_ret
           exact ⟨ret_bool (by rw [lined, findTo_some (f := fun i => linedB (gd l i) s) hall.out ho.out hlt]; rfl), rfl⟩)
    · obtain rfl : k = l.length := by omega
      have he : Hid (lined l s = false) := by show lined l s = false; rw [lined, findTo_none (f := fun i => linedB (gd l i) s) hall.out]; rfl
      go_wp2_with fail
      go_ret
      exact ⟨ret_bool he.out.symm, rfl⟩

/-! ### the library's searches, at these types -/
set_option maxHeartbeats 400000 in
theorem indexFuncDmg_c (v : Value) (l : List Dmg) (w : World) (g : Nat) (cb : Array Value) (p : Nat → Bool) (h : Sl w Dmg.enc 4 v l)
    (eg : ∀ (args : Array Value) (W : World), (callFunc g args).run Try.prog W = .ok (.enter g args) W)
    (hf : ∀ i W, i < l.length → Below w.heap.size w W → Calls Try.prog g (#[.agg #[.int .i64 (gd l i).s, .int .i64 (gd l i).t, .int .i64 (gd l i).f, .int .i64 (gd l i).st]] ++ cb) W fun e w' => e = .returned (.bool (p i)) ∧ Below W.heap.size W w') :
    Calls Try.prog 217 #[v, .func (.func g) #[] cb] w fun e w' => e = .returned (.int .i64 (idxInt (findTo p l.length))) ∧ Below w.heap.size w w' := by
  obtain ⟨a, cap, b, off, rfl, hlc, hm, hc⟩ := h
  unfold maxLen at hm
  have HF := Lib.hid hf
  clear hf
  go_enter Try.func217, Try.ntmps217
  go_wp2_with fail
  go_loopw [8] (fun i wr => ∃ k : Nat, k ≤ l.length ∧ i = .int .i64 k ∧ Hid (∀ i, i < k → p i = false) ∧ Below w.heap.size w wr) (fun i _ => l.length - (intOf i).toNat)
  case atStart => exact ⟨0, Nat.zero_le _, rfl, fun i hi => by omega, Below.refl _ _⟩
  case round =>
    obtain ⟨k, hk, rfl, hall, hb⟩ := hrel
    by_cases hlt : k < l.length
    · obtain ⟨rfl, hbw, c0, c1, c2, c3⟩ := Dmg.at (hc.mono hb) k hlt
      have hf := HF.out k wr hlt hb
      cases hp : p k
      all_goals
        rw [hp] at hf
        have hf := Lib.hid hf
        have ho := Lib.hid hp
        clear hp
        go_wp2_with fail
        refine hf.out.mono ?_
        rintro e w' ⟨rfl, hb2⟩
        go_wp2_with fail
      · go_roundw
        case rel => exact ⟨k + 1, by omega, by go_num, upto_succ hall.out ho.out, hb.trans (hb2.mono hb.size)⟩
        case measure => simp [intOf]; omega
      · go_ret
        exact ⟨ret_int (by rw [findTo_some hall.out ho.out hlt]; rfl), hb.trans (hb2.mono hb.size)⟩
    · obtain rfl : k = l.length := by omega
      go_wp2_with fail
      go_ret
      exact ⟨ret_int (by rw [findTo_none hall.out]; rfl), hb⟩
set_option maxHeartbeats 400000 in
theorem indexFuncRep_c (v : Value) (l : List Rep) (w : World) (g : Nat) (cb : Array Value) (p : Nat → Bool) (h : Sl w Rep.enc 3 v l)
    (eg : ∀ (args : Array Value) (W : World), (callFunc g args).run Try.prog W = .ok (.enter g args) W)
    (hf : ∀ i W, i < l.length → Below w.heap.size w W → Calls Try.prog g (#[.agg #[.int .i64 (gd l i).s, .int .i64 (gd l i).wk, .int .i64 (gd l i).d]] ++ cb) W fun e w' => e = .returned (.bool (p i)) ∧ Below W.heap.size W w') :
    Calls Try.prog 241 #[v, .func (.func g) #[] cb] w fun e w' => e = .returned (.int .i64 (idxInt (findTo p l.length))) ∧ Below w.heap.size w w' := by
  obtain ⟨a, cap, b, off, rfl, hlc, hm, hc⟩ := h
  unfold maxLen at hm
  have HF := Lib.hid hf
  clear hf
  go_enter Try.func241, Try.ntmps241
  go_wp2_with fail
  go_loopw [8] (fun i wr => ∃ k : Nat, k ≤ l.length ∧ i = .int .i64 k ∧ Hid (∀ i, i < k → p i = false) ∧ Below w.heap.size w wr) (fun i _ => l.length - (intOf i).toNat)
  case atStart => exact ⟨0, Nat.zero_le _, rfl, fun i hi => by omega, Below.refl _ _⟩
  case round =>
    obtain ⟨k, hk, rfl, hall, hb⟩ := hrel
    by_cases hlt : k < l.length
    · obtain ⟨rfl, hbw, c0, c1, c2⟩ := Rep.at (hc.mono hb) k hlt
      have hf := HF.out k wr hlt hb
      cases hp : p k
      all_goals
        rw [hp] at hf
        have hf := Lib.hid hf
        have ho := Lib.hid hp
        clear hp
        go_wp2_with fail
        refine hf.out.mono ?_
        rintro e w' ⟨rfl, hb2⟩
        go_wp2_with fail
      · go_roundw
        case rel => exact ⟨k + 1, by omega, by go_num, upto_succ hall.out ho.out, hb.trans (hb2.mono hb.size)⟩
        case measure => simp [intOf]; omega
      · go_ret
        exact ⟨ret_int (by rw [findTo_some hall.out ho.out hlt]; rfl), hb.trans (hb2.mono hb.size)⟩
    · obtain rfl : k = l.length := by omega
      go_wp2_with fail
      go_ret
      exact ⟨ret_int (by rw [findTo_none hall.out]; rfl), hb⟩
theorem containsFuncRep_c (v : Value) (l : List Rep) (w : World) (g : Nat) (cb : Array Value) (p : Nat → Bool) (h : Sl w Rep.enc 3 v l)
    (eg : ∀ (args : Array Value) (W : World), (callFunc g args).run Try.prog W = .ok (.enter g args) W)
    (hf : ∀ i W, i < l.length → Below w.heap.size w W → Calls Try.prog g (#[.agg #[.int .i64 (gd l i).s, .int .i64 (gd l i).wk, .int .i64 (gd l i).d]] ++ cb) W fun e w' => e = .returned (.bool (p i)) ∧ Below W.heap.size W w') :
    Calls Try.prog 219 #[v, .func (.func g) #[] cb] w fun e w' => e = .returned (.bool (findTo p l.length).isSome) ∧ Below w.heap.size w w' := by
  have H := Lib.hid (indexFuncRep_c v l w g cb p h eg hf)
  clear h eg hf
  cases ho : findTo p l.length
  all_goals
    rw [ho] at H
    clear ho
    go_enter Try.func219, Try.ntmps219
    go_wp2_with fail
    refine H.out.mono ?_
    rintro e w' ⟨rfl, hb⟩
    simp only [idxInt]
    go_wp2_with fail
    go_ret
    exact ⟨rfl, hb⟩

/-! ### the closures, and who calls them -/
set_option maxHeartbeats 400000 in
theorem damageAt1_c (x0 x1 x2 x3 s : Int) (b : Nat) (W : World) (hc : W.cell? ⟨b, 0, none⟩ = some (.int .i64 s)) : Calls Try.prog 218 #[.agg #[.int .i64 x0, .int .i64 x1, .int .i64 x2, .int .i64 x3], .pointer (some ⟨b, 0, none⟩)] W fun e w' =>
    e = .returned (.bool (x0 == s)) ∧ Below W.heap.size W w' := by
  have hb := block_lt_of_cell hc
  go_enter Try.func218, Try.ntmps218
  go_wp2
  go_ret
  exact ⟨rfl, by go_grown⟩
set_option maxHeartbeats 400000 in
theorem damageAt_c (v : Value) (l : List Dmg) (s : Int) (w : World) (h : Sl w Dmg.enc 4 v l) : Calls Try.prog 188 #[v, .int .i64 s] w fun e w' => e = .returned (.int .i64 (idxInt (findDmg l s))) ∧ Below w.heap.size w w' := by
  have H := Lib.hid (indexFuncDmg_c v l (w.alloc (.cells #[.int .i64 s] 3)) 218 #[.pointer (some ⟨w.heap.size, 0, none⟩)] (fun i => (gd l i).s == s) (h.mono ((Below.refl _ _).alloc (Nat.le_refl _) _)) (fun _ _ => by kernel_rfl) (fun i W hi hB =>
    damageAt1_c _ _ _ _ s w.heap.size W ((hB.cell (p := ⟨w.heap.size, 0, none⟩) (by simp)).trans (by simp))))
  clear h
  go_enter Try.func188, Try.ntmps188
  go_wp2_with fail
  refine H.out.mono ?_
  rintro e w' ⟨rfl, hb⟩
  go_wp2_with fail
  go_ret
  exact ⟨rfl, ((Below.refl _ _).alloc (Nat.le_refl _) _).trans (hb.mono (by simp))⟩
set_option maxHeartbeats 400000 in
theorem isLined1_c (x0 x1 x2 s : Int) (b : Nat) (W : World) (hc : W.cell? ⟨b, 0, none⟩ = some (.int .i64 s)) : Calls Try.prog 220 #[.agg #[.int .i64 x0, .int .i64 x1, .int .i64 x2], .pointer (some ⟨b, 0, none⟩)] W fun e w' =>
    e = .returned (.bool (linedB ⟨x0, x1, x2⟩ s)) ∧ Below W.heap.size W w' := by
  have hb := block_lt_of_cell hc
  unfold linedB
  go_enter Try.func220, Try.ntmps220
  go_wp2
  all_goals go_ret
  all_goals exact ⟨ret_bool (by simp_all), by go_grown⟩
set_option maxHeartbeats 400000 in
theorem isLined_c (v : Value) (l : List Rep) (s : Int) (w : World) (h : Sl w Rep.enc 3 v l) : Calls Try.prog 189 #[v, .int .i64 s] w fun e w' => e = .returned (.bool (lined l s)) ∧ Below w.heap.size w w' := by
  have H := Lib.hid (containsFuncRep_c v l (w.alloc (.cells #[.int .i64 s] 3)) 220 #[.pointer (some ⟨w.heap.size, 0, none⟩)] (fun i => linedB (gd l i) s) (h.mono ((Below.refl _ _).alloc (Nat.le_refl _) _)) (fun _ _ => by kernel_rfl) (fun i W hi hB =>
    isLined1_c _ _ _ s w.heap.size W ((hB.cell (p := ⟨w.heap.size, 0, none⟩) (by simp)).trans (by simp))))
  clear h
  go_enter Try.func189, Try.ntmps189
  go_wp2_with fail
  refine H.out.mono ?_
  rintro e w' ⟨rfl, hb⟩
  go_wp2_with fail
  go_ret
  exact ⟨rfl, ((Below.refl _ _).alloc (Nat.le_refl _) _).trans (hb.mono (by simp))⟩
end Go.Proofs.Ythibchaiaedboaa
