/- Go's IndexFunc, ContainsFunc, Index and Contains at the element types of this seat: the closure is any that answers. No condition. -/
import Derived.Test.YtemgcbmcjpgelaaDoorNest
namespace Go.Proofs.YtemgcbmcjpgelaaDoor
open Go.RowKit
theorem someGe {o : Option Nat} : (0 ≤ idxInt o) = (o.isSome = true) := by cases o <;> simp [idxInt]

def ByteE.enc (x : Int) : List Value := [.int .u8 x]
theorem ByteE.at {w : World} {a : Option Addr} {b off : Nat} {l : List Int} (h : Cells w ByteE.enc 1 a b off l) (i : Nat) (hi : i < l.length) : a = some ⟨b, off, none⟩ ∧ b < w.heap.size ∧
    w.cell? ⟨b, off + i, none⟩ = some (.int .u8 (gd l i)) := by
  obtain ⟨ha, hb, c⟩ := h i hi
  have c0 := c 0 _ rfl
  rw [Nat.mul_one, Nat.add_zero] at c0
  exact ⟨ha, hb, c0⟩

set_option maxHeartbeats 1000000 in
theorem indexFuncByte_c (a : Option Addr) (cap b off : Nat) (l : List Int) (w : World) (g : Nat) (cb : Array Value) (p : Nat → Bool) (hm : l.length ≤ maxLen) (hc : Cells w ByteE.enc 1 a b off l)
    (eg : ∀ (args : Array Value) (W : World), (callFunc g args).run Tryd.prog W = .ok (.enter g args) W)
    (hf : ∀ i W, i < l.length → Below w.heap.size w W → Calls Tryd.prog g (#[.int .u8 (gd l i)] ++ cb) W fun e w' => e = .returned (.bool (p i)) ∧ Below W.heap.size W w') :
    Calls Tryd.prog 63 #[.slice a l.length cap, .func (.func g) #[] cb] w fun e w' => e = .returned (.int .i64 (idxInt (findTo p l.length))) ∧ Below w.heap.size w w' := by
  unfold maxLen at hm
  have HF := Lib.hid hf
  clear hf
  go_enter Tryd.func63, Tryd.ntmps63
  go_wp2_with fail
  go_loopw [8] (fun i wr => ∃ k : Nat, k ≤ l.length ∧ i = .int .i64 k ∧ Hid (∀ i, i < k → p i = false) ∧ Below w.heap.size w wr) (fun i _ => l.length - (intOf i).toNat)
  case atStart => exact ⟨0, Nat.zero_le _, rfl, fun i hi => by omega, Below.refl _ _⟩
  case round =>
    obtain ⟨k, hk, rfl, hall, hb⟩ := hrel
    by_cases hlt : k < l.length
    · obtain ⟨rfl, hbw, c0⟩ := ByteE.at (hc.mono hb) k hlt
      have hf := HF.out k wr hlt hb
      cases hp : p k
      all_goals
        rw [hp] at hf
        have hf := Lib.hid hf
        have ho := Lib.hid hp
        clear hp
        go_wp2_with fail
        refine hf.out.mono ?_
        rintro e w' ⟨rfl, hb2⟩
        go_wp2_with fail
      · go_roundw
        case rel => exact ⟨k + 1, by omega, by go_num, upto_succ hall.out ho.out, hb.trans (hb2.mono hb.size)⟩
        case measure => simp [intOf]; omega
      · go_ret
        exact ⟨ret_int (by rw [findTo_some hall.out ho.out hlt]; rfl), hb.trans (hb2.mono hb.size)⟩
    · obtain rfl : k = l.length := by omega
      go_wp2_with fail
      go_ret
      exact ⟨ret_int (by rw [findTo_none hall.out]; rfl), hb⟩

set_option maxHeartbeats 1000000 in
theorem containsFuncByte_c (a : Option Addr) (cap b off : Nat) (l : List Int) (w : World) (g : Nat) (cb : Array Value) (p : Nat → Bool) (hm : l.length ≤ maxLen) (hc : Cells w ByteE.enc 1 a b off l)
    (eg : ∀ (args : Array Value) (W : World), (callFunc g args).run Tryd.prog W = .ok (.enter g args) W)
    (hf : ∀ i W, i < l.length → Below w.heap.size w W → Calls Tryd.prog g (#[.int .u8 (gd l i)] ++ cb) W fun e w' => e = .returned (.bool (p i)) ∧ Below W.heap.size W w') :
    Calls Tryd.prog 52 #[.slice a l.length cap, .func (.func g) #[] cb] w fun e w' => e = .returned (.bool (findTo p l.length).isSome) ∧ Below w.heap.size w w' := by
  have H := Lib.hid (indexFuncByte_c a cap b off l w g cb p hm hc eg hf)
  clear hc eg hf
  cases ho : findTo p l.length
  all_goals
    rw [ho] at H
    clear ho
    go_enter Tryd.func52, Tryd.ntmps52
    go_wp2_with fail
    refine H.out.mono ?_
    rintro e w' ⟨rfl, hb⟩
    simp only [idxInt]
    go_wp2_with fail
    go_ret
    exact ⟨rfl, hb⟩

end Go.Proofs.YtemgcbmcjpgelaaDoor
