/- Go's IndexFunc, ContainsFunc, Index and Contains at the element types of this seat: the closure is any that answers. No condition. -/
import Derived.Test.YteainpflmofjaaaGreatDoorNest
namespace Go.Proofs.YteainpflmofjaaaGreatDoor
open Go.RowKit
theorem someGe {o : Option Nat} : (0 ≤ idxInt o) = (o.isSome = true) := by cases o <;> simp [idxInt]

def ByteE.enc (x : Int) : List Value := [.int .u8 x]
theorem ByteE.at {w : World} {a : Option Addr} {b off : Nat} {l : List Int} (h : Cells w ByteE.enc 1 a b off l) (i : Nat) (hi : i < l.length) : a = some ⟨b, off, none⟩ ∧ b < w.heap.size ∧
    w.cell? ⟨b, off + i, none⟩ = some (.int .u8 (gd l i)) := by
  obtain ⟨ha, hb, c⟩ := h i hi
  have c0 := c 0 _ rfl
  rw [Nat.mul_one, Nat.add_zero] at c0
  exact ⟨ha, hb, c0⟩

set_option maxHeartbeats 1000000 in
theorem indexFuncByte_c (a : Option Addr) (cap b off : Nat) (l : List Int) (w : World) (g : Nat) (cb : Array Value) (p : Nat → Bool) (hm : l.length ≤ maxLen) (hc : Cells w ByteE.enc 1 a b off l)
    (eg : ∀ (args : Array Value) (W : World), (callFunc g args).run Tryz.prog W = .ok (.enter g args) W)
    (hf : ∀ i W, i < l.length → Below w.heap.size w W → Calls Tryz.prog g (#[.int .u8 (gd l i)] ++ cb) W fun e w' => e = .returned (.bool (p i)) ∧ Below W.heap.size W w') :
    Calls Tryz.prog 94 #[.slice a l.length cap, .func (.func g) #[] cb] w fun e w' => e = .returned (.int .i64 (idxInt (findTo p l.length))) ∧ Below w.heap.size w w' := by
  unfold maxLen at hm
  have HF := Lib.hid hf
  clear hf
  go_enter Tryz.func94, Tryz.ntmps94
  go_wp2_with fail
  go_loopw [8] (fun i wr => ∃ k : Nat, k ≤ l.length ∧ i = .int .i64 k ∧ Hid (∀ i, i < k → p i = false) ∧ Below w.heap.size w wr) (fun i _ => l.length - (intOf i).toNat)
  case atStart => exact ⟨0, Nat.zero_le _, rfl, fun i hi => by omega, Below.refl _ _⟩
  case round =>
    obtain ⟨k, hk, rfl, hall, hb⟩ := hrel
    by_cases hlt : k < l.length
    · obtain ⟨rfl, hbw, c0⟩ := ByteE.at (hc.mono hb) k hlt
      have hf := HF.out k wr hlt hb
      cases hp : p k
      all_goals
        rw [hp] at hf
        have hf := Lib.hid hf
        have ho := Lib.hid hp
        clear hp
        go_wp2_with fail
        refine hf.out.mono ?_
        rintro e w' ⟨rfl, hb2⟩
        go_wp2_with fail
      · go_roundw
        case rel => exact ⟨k + 1, by omega, by go_num, upto_succ hall.out ho.out, hb.trans (hb2.mono hb.size)⟩
        case measure => simp [intOf]; omega
      · go_ret
        exact ⟨ret_int (by rw [findTo_some hall.out ho.out hlt]; rfl), hb.trans (hb2.mono hb.size)⟩
    · obtain rfl : k = l.length := by omega
      go_wp2_with fail
      go_ret
      exact ⟨ret_int (by rw [findTo_none hall.out]; rfl), hb⟩

set_option maxHeartbeats 1000000 in
theorem containsFuncByte_c (a : Option Addr) (cap b off : Nat) (l : List Int) (w : World) (g : Nat) (cb : Array Value) (p : Nat → Bool) (hm : l.length ≤ maxLen) (hc : Cells w ByteE.enc 1 a b off l)
    (eg : ∀ (args : Array Value) (W : World), (callFunc g args).run Tryz.prog W = .ok (.enter g args) W)
    (hf : ∀ i W, i < l.length → Below w.heap.size w W → Calls Tryz.prog g (#[.int .u8 (gd l i)] ++ cb) W fun e w' => e = .returned (.bool (p i)) ∧ Below W.heap.size W w') :
    Calls Tryz.prog 81 #[.slice a l.length cap, .func (.func g) #[] cb] w fun e w' => e = .returned (.bool (findTo p l.length).isSome) ∧ Below w.heap.size w w' := by
  have H := Lib.hid (indexFuncByte_c a cap b off l w g cb p hm hc eg hf)
  clear hc eg hf
  cases ho : findTo p l.length
  all_goals
    rw [ho] at H
    clear ho
    go_enter Tryz.func81, Tryz.ntmps81
    go_wp2_with fail
    refine H.out.mono ?_
    rintro e w' ⟨rfl, hb⟩
    simp only [idxInt]
    go_wp2_with fail
    go_ret
    exact ⟨rfl, hb⟩

set_option maxHeartbeats 1000000 in
theorem indexFuncStr_c (a : Option Addr) (cap b off : Nat) (l : List ByteArray) (w : World) (g : Nat) (cb : Array Value) (p : Nat → Bool) (hm : l.length ≤ maxLen) (hc : Cells w StrE.enc 1 a b off l)
    (eg : ∀ (args : Array Value) (W : World), (callFunc g args).run Tryz.prog W = .ok (.enter g args) W)
    (hf : ∀ i W, i < l.length → Below w.heap.size w W → Calls Tryz.prog g (#[.string (gd l i)] ++ cb) W fun e w' => e = .returned (.bool (p i)) ∧ Below W.heap.size W w') :
    Calls Tryz.prog 70 #[.slice a l.length cap, .func (.func g) #[] cb] w fun e w' => e = .returned (.int .i64 (idxInt (findTo p l.length))) ∧ Below w.heap.size w w' := by
  unfold maxLen at hm
  have HF := Lib.hid hf
  clear hf
  go_enter Tryz.func70, Tryz.ntmps70
  go_wp2_with fail
  go_loopw [8] (fun i wr => ∃ k : Nat, k ≤ l.length ∧ i = .int .i64 k ∧ Hid (∀ i, i < k → p i = false) ∧ Below w.heap.size w wr) (fun i _ => l.length - (intOf i).toNat)
  case atStart => exact ⟨0, Nat.zero_le _, rfl, fun i hi => by omega, Below.refl _ _⟩
  case round =>
    obtain ⟨k, hk, rfl, hall, hb⟩ := hrel
    by_cases hlt : k < l.length
    · obtain ⟨rfl, hbw, c0⟩ := StrE.at (hc.mono hb) k hlt
      have hf := HF.out k wr hlt hb
      cases hp : p k
      all_goals
        rw [hp] at hf
        have hf := Lib.hid hf
        have ho := Lib.hid hp
        clear hp
        go_wp2_with fail
        refine hf.out.mono ?_
        rintro e w' ⟨rfl, hb2⟩
        go_wp2_with fail
      · go_roundw
        case rel => exact ⟨k + 1, by omega, by go_num, upto_succ hall.out ho.out, hb.trans (hb2.mono hb.size)⟩
        case measure => simp [intOf]; omega
      · go_ret
        exact ⟨ret_int (by rw [findTo_some hall.out ho.out hlt]; rfl), hb.trans (hb2.mono hb.size)⟩
    · obtain rfl : k = l.length := by omega
      go_wp2_with fail
      go_ret
      exact ⟨ret_int (by rw [findTo_none hall.out]; rfl), hb⟩

set_option maxHeartbeats 1000000 in
theorem containsFuncStr_c (a : Option Addr) (cap b off : Nat) (l : List ByteArray) (w : World) (g : Nat) (cb : Array Value) (p : Nat → Bool) (hm : l.length ≤ maxLen) (hc : Cells w StrE.enc 1 a b off l)
    (eg : ∀ (args : Array Value) (W : World), (callFunc g args).run Tryz.prog W = .ok (.enter g args) W)
    (hf : ∀ i W, i < l.length → Below w.heap.size w W → Calls Tryz.prog g (#[.string (gd l i)] ++ cb) W fun e w' => e = .returned (.bool (p i)) ∧ Below W.heap.size W w') :
    Calls Tryz.prog 29 #[.slice a l.length cap, .func (.func g) #[] cb] w fun e w' => e = .returned (.bool (findTo p l.length).isSome) ∧ Below w.heap.size w w' := by
  have H := Lib.hid (indexFuncStr_c a cap b off l w g cb p hm hc eg hf)
  clear hc eg hf
  cases ho : findTo p l.length
  all_goals
    rw [ho] at H
    clear ho
    go_enter Tryz.func29, Tryz.ntmps29
    go_wp2_with fail
    refine H.out.mono ?_
    rintro e w' ⟨rfl, hb⟩
    simp only [idxInt]
    go_wp2_with fail
    go_ret
    exact ⟨rfl, hb⟩

set_option maxHeartbeats 1000000 in
theorem indexStr_c (v : Value) (l : List ByteArray) (s : ByteArray) (w : World) (h : Sl w StrE.enc 1 v l) : Calls Tryz.prog 71 #[v, .string s] w fun e w' => e = .returned (.int .i64 (idxInt (findTo (fun i => ((gd l i).toList == s.toList)) l.length))) ∧ w = w' := by
  obtain ⟨a, cap, b, off, rfl, hlc, hm, hc⟩ := h
  unfold maxLen at hm
  go_enter Tryz.func71, Tryz.ntmps71
  go_wp2_with fail
  go_loop [8] (fun i => ∃ k : Nat, k ≤ l.length ∧ i = .int .i64 k ∧ Hid (∀ i, i < k → ((gd l i).toList == s.toList) = false)) (fun i => l.length - (intOf i).toNat)
  case atStart => exact ⟨0, Nat.zero_le _, rfl, fun i hi => by omega⟩
  case round =>
    obtain ⟨k, hk, rfl, hall⟩ := hrel
    by_cases hlt : k < l.length
    · obtain ⟨rfl, hbw, c0⟩ := StrE.at hc k hlt
      have hsym : (s.toList == (gd l k).toList) = ((gd l k).toList == s.toList) := Bool.beq_comm
      cases hq : ((gd l k).toList == s.toList)
      · rw [hq] at hsym
        have hq := Lib.hid hq
        go_wp2_with fail
        go_round
        case rel => exact ⟨k + 1, by omega, by go_num, upto_succ hall.out hq.out⟩
        case measure => simp [intOf]; omega
      · rw [hq] at hsym
        have he := Lib.hid (findTo_some (f := fun i => ((gd l i).toList == s.toList)) hall.out hq hlt)
        clear hq
        go_wp2_with fail
        go_ret
        exact ⟨ret_int (by rw [he.out]; rfl), rfl⟩
    · obtain rfl : k = l.length := by omega
      have he := Lib.hid (findTo_none (f := fun i => ((gd l i).toList == s.toList)) hall.out)
      go_wp2_with fail
      go_ret
      exact ⟨ret_int (by rw [he.out]; rfl), rfl⟩

theorem containsStr_c (v : Value) (l : List ByteArray) (s : ByteArray) (w : World) (h : Sl w StrE.enc 1 v l) : Calls Tryz.prog 31 #[v, .string s] w fun e w' => e = .returned (.bool (findTo (fun i => ((gd l i).toList == s.toList)) l.length).isSome) ∧ w = w' := by
  have H := Lib.hid (indexStr_c v l s w h)
  clear h
  cases ho : findTo (fun i => ((gd l i).toList == s.toList)) l.length
  all_goals
    rw [ho] at H
    clear ho
    go_enter Tryz.func31, Tryz.ntmps31
    go_wp2_with fail
    refine H.out.mono ?_
    rintro e w' ⟨rfl, rfl⟩
    simp only [idxInt]
    go_wp2_with fail
    go_ret
    exact ⟨rfl, rfl⟩

end Go.Proofs.YteainpflmofjaaaGreatDoor
