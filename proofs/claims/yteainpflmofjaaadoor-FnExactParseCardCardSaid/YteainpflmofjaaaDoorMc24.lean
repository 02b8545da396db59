/- Marks on the words of one card, and whether they still stand. No condition but sizes. -/
import Derived.Test.YteainpflmofjaaaDoorMark
import Derived.Test.YteainpflmofjaaaDoorNs
namespace Go.Proofs.YteainpflmofjaaaDoor
open Go.RowKit
set_option maxHeartbeats 1000000 in
theorem markCard_c (x : Crd) (k0 : Int) (w : World) (lo : Nat) (h : Own w lo 9 StrE.enc 1 (.slice x.a x.sub.length x.cap) x.sub) (hl : x.sub.length ≤ 10000000) (h0 : 0 < k0) (h1 : k0 ≤ 1000000) : Calls Tryd.prog 9 #[.agg #[.int .i64 x.id, .int .i64 x.yr, .slice x.a x.sub.length x.cap], .int .i64 k0] w fun e w' =>
    e = .returned (.int .i64 (k0 + (x.sub.length : Int))) ∧ Own w' lo 9 StrE.enc 1 (.slice x.a x.sub.length x.cap) (StrE.marks k0 x.sub.length) ∧ w.grownBy w' (Value.slice x.a x.sub.length x.cap).ownBlock := by
  obtain ⟨i, r, a, c, s⟩ := x
  dsimp only at h hl ⊢
  have H := Lib.hid (markStringS_c (.slice a s.length c) s k0 (w.alloc (.cells #[.int .i64 i, .int .i64 r, .slice a s.length c] 24)) lo (h.mono (below_alloc _ _)) hl h0 (by omega))
  clear h
  go_enter Tryd.func9, Tryd.ntmps9
  go_wp2_with fail
  refine H.out.mono ?_
  rintro e w2 ⟨rfl, ho, hg⟩
  have ho := Lib.hid ho
  go_wp2_with fail
  go_ret
  exact ⟨rfl, ho.out, only_trans (only_of_below (below_alloc _ _) _) hg⟩
set_option maxHeartbeats 1000000 in
theorem heldCard_c (x : Crd) (k0 : Int) (w : World) (h : Sl w StrE.enc 1 (.slice x.a x.sub.length x.cap) (StrE.marks k0 x.sub.length)) (hl : x.sub.length ≤ 10000000) (h0 : 0 < k0) (h1 : k0 ≤ 1000000) : Calls Tryd.prog 10 #[.agg #[.int .i64 x.id, .int .i64 x.yr, .slice x.a x.sub.length x.cap], .int .i64 k0] w fun e w' =>
    e = .returned (.int .i64 (k0 + (x.sub.length : Int))) ∧ Below w.heap.size w w' := by
  obtain ⟨i, r, a, c, s⟩ := x
  dsimp only at h hl ⊢
  have A := below_alloc w (.cells #[.int .i64 i, .int .i64 r, .slice a s.length c] 24)
  have H := Lib.hid (heldStringS_c (.slice a s.length c) s.length k0 (w.alloc (.cells #[.int .i64 i, .int .i64 r, .slice a s.length c] 24)) (h.mono A) hl h0 (by omega))
  clear h
  have hq : ¬ k0 + (s.length : Int) < 0 := by omega
  go_enter Tryd.func10, Tryd.ntmps10
  go_wp2_with fail
  refine H.out.mono ?_
  rintro e w2 ⟨rfl, b2⟩
  go_wp2_with fail
  go_ret
  exact ⟨rfl, btrans A b2⟩
end Go.Proofs.YteainpflmofjaaaDoor
