/- Go's IndexFunc and ContainsFunc at the structs of this seat: the closure is any that answers. No condition. -/
import Derived.Test.YteainpflmofjaaaGreatDoorFind
namespace Go.Proofs.YteainpflmofjaaaGreatDoor
open Go.RowKit

set_option maxHeartbeats 1000000 in
theorem indexFuncCrd_c (a : Option Addr) (cap b off : Nat) (l : List Crd) (w : World) (g : Nat) (cb : Array Value) (p : Nat → Bool) (hm : l.length ≤ maxLen) (hc : Cells w Crd.enc 3 a b off l)
    (eg : ∀ (args : Array Value) (W : World), (callFunc g args).run Tryz.prog W = .ok (.enter g args) W)
    (hf : ∀ i W, i < l.length → Below w.heap.size w W → Calls Tryz.prog g (#[.agg #[.int .i64 (gd l i).id, .int .i64 (gd l i).yr, .slice (gd l i).a (gd l i).sub.length (gd l i).cap]] ++ cb) W fun e w' => e = .returned (.bool (p i)) ∧ Below W.heap.size W w') :
    Calls Tryz.prog 88 #[.slice a l.length cap, .func (.func g) #[] cb] w fun e w' => e = .returned (.int .i64 (idxInt (findTo p l.length))) ∧ Below w.heap.size w w' := by
  unfold maxLen at hm
  have HF := Lib.hid hf
  clear hf
  go_enter Tryz.func88, Tryz.ntmps88
  go_wp2_with fail
  go_loopw [8] (fun i wr => ∃ k : Nat, k ≤ l.length ∧ i = .int .i64 k ∧ Hid (∀ i, i < k → p i = false) ∧ Below w.heap.size w wr) (fun i _ => l.length - (intOf i).toNat)
  case atStart => exact ⟨0, Nat.zero_le _, rfl, fun i hi => by omega, Below.refl _ _⟩
  case round =>
    obtain ⟨k, hk, rfl, hall, hb⟩ := hrel
    by_cases hlt : k < l.length
    · obtain ⟨rfl, hbw, c0, c1, c2⟩ := Crd.at (hc.mono hb) k hlt
      have hf := HF.out k wr hlt hb
      cases hp : p k
      all_goals
        rw [hp] at hf
        have hf := Lib.hid hf
        have ho := Lib.hid hp
        clear hp
        go_wp2_with fail
        refine hf.out.mono ?_
        rintro e w' ⟨rfl, hb2⟩
        go_wp2_with fail
      · go_roundw
        case rel => exact ⟨k + 1, by omega, by go_num, upto_succ hall.out ho.out, hb.trans (hb2.mono hb.size)⟩
        case measure => simp [intOf]; omega
      · go_ret
        exact ⟨ret_int (by rw [findTo_some hall.out ho.out hlt]; rfl), hb.trans (hb2.mono hb.size)⟩
    · obtain rfl : k = l.length := by omega
      go_wp2_with fail
      go_ret
      exact ⟨ret_int (by rw [findTo_none hall.out]; rfl), hb⟩

end Go.Proofs.YteainpflmofjaaaGreatDoor
