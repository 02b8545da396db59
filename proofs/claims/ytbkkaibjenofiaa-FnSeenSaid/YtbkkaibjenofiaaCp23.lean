/- Headings: copies, by the program and by the reference. No condition but sizes. -/
import Derived.Test.YtbkkaibjenofiaaPn
import Derived.Test.YtbkkaibjenofiaaMark
import Derived.Deep.Cut
namespace Go.Proofs.Ytbkkaibjenofiaa
open Go.RowKit
/-- a call that hands back headings of its own that read as l do -/
def Hdg.RetN (w : World) (l : List Hdg) (e : Ending) (w' : World) : Prop := ∃ (v' : Value) (l' : List Hdg), e = .returned v' ∧ Hdg.OwnN w' w.heap.size w'.heap.size v' l' ∧ l'.map Hdg.bare = l.map Hdg.bare ∧ Below w.heap.size w w'
theorem Hdg.bare_of {x : Hdg} {a : Option Addr} {c : Nat} : ({ x with a := a, cap := c } : Hdg).bare = x.bare := rfl
theorem Hdg.map_push {l l' : List Hdg} {k : Nat} (hk : k < l.length) (h : l'.map Hdg.bare = (l.take k).map Hdg.bare) (y : Hdg) (hy : y.bare = (gd l k).bare) : (l' ++ [y]).map Hdg.bare = (l.take (k + 1)).map Hdg.bare := by
  rw [take_succ_gd hk, List.map_append, List.map_append, h]
  simp [hy]
set_option maxHeartbeats 4000000 in
set_option maxRecDepth 100000 in
theorem copyHeadings_c (v : Value) (l : List Hdg) (w : World) (h : Sl w Hdg.enc 4 v l) (hd : Hdg.Deep w l) (hl : l.length ≤ 1048577) (hls : ∀ i, i < l.length → (gd l i).sub.length ≤ 1048577) : Calls Try.prog 68 #[v] w (Hdg.RetN w l) := by
  obtain ⟨a, cap, b, off, rfl, hlc, hm, hc⟩ := h
  obtain ⟨i, hi, hz0, hz1, hz2⟩ := info_parts (show (Try.prog.info? 55).map (fun i => (i.zero, i.size, i.bytes)) = some (some (.agg #[.int .i64 0, .string ByteArray.empty, .int .i64 0, .slice none 0 0]), 4, 56) by kernel_rfl)
  unfold maxLen at hm
  have hd := Lib.hid hd
  go_enter Try.func68, Try.ntmps68
  go_wp2_with fail
  go_loopw [3, 8] (fun o i wr => ∃ (k : Nat) (l' : List Hdg), k ≤ l.length ∧ i = .int .i64 k ∧ l'.length = k ∧ Hid (l'.map Hdg.bare = (l.take k).map Hdg.bare) ∧ Hid (Hdg.OwnN wr w.heap.size wr.heap.size o l') ∧ Below w.heap.size w wr) (fun _ i _ => l.length - (intOf i).toNat)
  case atStart => exact ⟨0, [], Nat.zero_le _, rfl, rfl, Lib.hid rfl, NOwn.nil _ _ _, Below.refl _ _⟩
  case round =>
    obtain ⟨k, l', hk, rfl, hll, hbr, hO, hb⟩ := hrel
    by_cases hlt : k < l.length
    · obtain ⟨rfl, hbw, c0, c1, c2, c3⟩ := Hdg.at (hc.mono hb) k hlt
      have hsl := hls k hlt
      have A0 := below_alloc wr (.cells #[.int .i64 (gd l k).id, .string (gd l k).nm, .int .i64 (gd l k).un, .slice (gd l k).a (gd l k).sub.length (gd l k).cap] 55)
      have hC := Lib.hid (cloneInt_c _ (gd l k).sub _ (((hd.out k hlt).mono hb).mono A0) (by omega))
      go_wp2_with fail
      refine hC.out.mono ?_
      rintro e w2 ⟨v2, rfl, o2, b2⟩
      obtain ⟨a2, cap2, b2', off2, rfl, -, -, -⟩ := o2.sl IntE.len
      have hbx2 : wr.heap.size < w2.heap.size := Nat.lt_of_lt_of_le (by simp) b2.size
      have x0 : w2.cell? ⟨wr.heap.size, 0, none⟩ = some (.int .i64 (gd l k).id) := cellOn b2 (by simp)
      have x1 : w2.cell? ⟨wr.heap.size, 1, none⟩ = some (.string (gd l k).nm) := cellOn b2 (by simp)
      have x2 : w2.cell? ⟨wr.heap.size, 2, none⟩ = some (.int .i64 (gd l k).un) := cellOn b2 (by simp)
      have x3 : w2.cell? ⟨wr.heap.size, 3, none⟩ = some (.slice (gd l k).a (gd l k).sub.length (gd l k).cap) := cellOn b2 (by simp)
      have z3 : w2.frozen? ⟨wr.heap.size, 3, none⟩ = false := (b2.frozen (p := ⟨wr.heap.size, 3, none⟩) (by simp)).trans (by simp)
      have NO := Lib.hid ((hO.out.mono A0).mono b2)
      have B2 := btrans (btrans hb A0) b2
      have hs2 : wr.heap.size + 1 ≤ w2.heap.size := by simpa using b2.size
      have hzb := hb.size
      have o2' : Own w2 (wr.heap.size + 1) 3 IntE.enc 1 (.slice a2 (gd l k).sub.length cap2) (gd l k).sub := by simpa using o2
      go_upto_region 6 with fail
      have hg3 : w2.grownBy (w2.setCell ⟨wr.heap.size, 3, none⟩ (.slice a2 (gd l k).sub.length cap2)) (some wr.heap.size) := only_setCell (World.grownBy.refl _ _) _ rfl _
      have y0 : (w2.setCell ⟨wr.heap.size, 3, none⟩ (.slice a2 (gd l k).sub.length cap2)).cell? ⟨wr.heap.size, 0, none⟩ = some (.int .i64 (gd l k).id) := by simp [go_sem, x0]
      have y1 : (w2.setCell ⟨wr.heap.size, 3, none⟩ (.slice a2 (gd l k).sub.length cap2)).cell? ⟨wr.heap.size, 1, none⟩ = some (.string (gd l k).nm) := by simp [go_sem, x1]
      have y2 : (w2.setCell ⟨wr.heap.size, 3, none⟩ (.slice a2 (gd l k).sub.length cap2)).cell? ⟨wr.heap.size, 2, none⟩ = some (.int .i64 (gd l k).un) := by simp [go_sem, x2]
      have y3 : (w2.setCell ⟨wr.heap.size, 3, none⟩ (.slice a2 (gd l k).sub.length cap2)).cell? ⟨wr.heap.size, 3, none⟩ = some (.slice a2 (gd l k).sub.length cap2) := by simp [go_sem, x3]
      have B3 : Below w.heap.size w (w2.setCell ⟨wr.heap.size, 3, none⟩ (.slice a2 (gd l k).sub.length cap2)) := B2.setCell (by exact hzb) _
      generalize w2.setCell ⟨wr.heap.size, 3, none⟩ (.slice a2 (gd l k).sub.length cap2) = W3 at hg3 y0 y1 y2 y3 B3 ⊢
      have N3 := Lib.hid (NO.out.turned (Turned.of_grown (lo := wr.heap.size) (hi := wr.heap.size + 1) hg3 (fun g hg => by injection hg with hg; omega)) (.inl (Nat.le_refl _)))
      have o3 : Own W3 (wr.heap.size + 1) 3 IntE.enc 1 (.slice a2 (gd l k).sub.length cap2) (gd l k).sub := o2'.kept hg3 (by
        cases hbk : Value.ownBlock _ with
        | none => exact .inl rfl
        | some g => exact .inr (fun e => by have := (o2'.bounds g hbk).1; injection e with e; omega))
      have o3b := o3.bounds
      replace o3 := Lib.hid o3
      clear o2'
      have hs3 : wr.heap.size + 1 ≤ W3.heap.size := Nat.le_trans hs2 hg3.size
      have hbw3 : wr.heap.size < W3.heap.size := hs3
      clear x0 x1 x2 x3 z3 o2 hg3 b2 B2 NO hC hbx2 hO
      go_wp2_with (at_builtin; refine wpList_pushAt Hdg.len Hdg.one rfl _ _ 24 rfl w.heap.size 55 i _ 56 Try.underlying24 hi hz0 hz1 hz2 rfl (by omega) _ l' rfl (N3.out.own.mono (below_alloc _ _)) _ 1 { gd l k with a := a2, cap := cap2 } rfl (fun j u hu => new_cells _ (Hdg.enc { gd l k with a := a2, cap := cap2 }) _ _ (by simp) j u hu) (by unfold maxLen; omega) (by omega) (by simp; omega) ?_)
      intro v' w5 ho5 hg5 hat5
      have N5 := Lib.hid ((N3.out.mono (below_alloc _ _)).push ho5 hg5 (by simpa using hat5) (by simp; omega) ((Own.mono o3.out (below_alloc _ _)).lower (by omega)) (fun b hb => by have := (o3b b hb).1; omega))
      have hb5 := below_push (lo := w.heap.size) (B := w.heap.size) (a := w) (B3.trans ((below_alloc _ _).mono B3.size)) (N3.out.own.mono (below_alloc _ _)) hg5 (Nat.le_refl _) (by simp; omega)
      have hbr5 := Lib.hid (Hdg.map_push hlt hbr.out { gd l k with a := a2, cap := cap2 } rfl)
      clear ho5 hat5
      go_wp2_with fail
      go_roundw
      case rel => exact ⟨k + 1, _, by omega, by go_num, by simp [hll], hbr5.out, N5.out, hb5⟩
      case measure => simp [intOf]; omega
    · obtain rfl : k = l.length := by omega
      have hbr := Lib.hid (show l'.map Hdg.bare = l.map Hdg.bare by rw [hbr.out, List.take_length])
      go_wp2_with fail
      go_ret
      exact ⟨_, l', rfl, hO.out, hbr.out, hb⟩
set_option maxHeartbeats 4000000 in
set_option maxRecDepth 100000 in
theorem l23Own_c (v : Value) (l : List Hdg) (w : World) (h : Sl w Hdg.enc 4 v l) (hd : Hdg.Deep w l) (hl : l.length ≤ 1048577) (hls : ∀ i, i < l.length → (gd l i).sub.length ≤ 1048577) : Calls Try.prog 69 #[v] w (Hdg.RetN w l) := by
  obtain ⟨a, cap, b, off, rfl, hlc, hm, hc⟩ := h
  obtain ⟨i, hi, hz0, hz1, hz2⟩ := info_parts (show (Try.prog.info? 55).map (fun i => (i.zero, i.size, i.bytes)) = some (some (.agg #[.int .i64 0, .string ByteArray.empty, .int .i64 0, .slice none 0 0]), 4, 56) by kernel_rfl)
  unfold maxLen at hm
  have hd := Lib.hid hd
  go_enter Try.func69, Try.ntmps69
  go_wp2_with fail
  go_loopw [3, 4] (fun o i wr => ∃ (k : Nat) (l' : List Hdg), k ≤ l.length ∧ i = .int .i64 k ∧ l'.length = k ∧ Hid (l'.map Hdg.bare = (l.take k).map Hdg.bare) ∧ Hid (Hdg.OwnN wr w.heap.size wr.heap.size o l') ∧ Below w.heap.size w wr) (fun _ i _ => l.length - (intOf i).toNat)
  case atStart => exact ⟨0, [], Nat.zero_le _, rfl, rfl, Lib.hid rfl, Lib.hid ((NOwn.empty w w.heap.size (Nat.le_refl _)).wide (Nat.le_refl _) (by simp)), below_alloc _ _⟩
  case round =>
    obtain ⟨k, l', hk, rfl, hll, hbr, hO, hb⟩ := hrel
    by_cases hlt : k < l.length
    · obtain ⟨rfl, hbw, c0, c1, c2, c3⟩ := Hdg.at (hc.mono hb) k hlt
      have hsl := hls k hlt
      have A0 := below_alloc wr (.cells #[.int .i64 (gd l k).id, .string (gd l k).nm, .int .i64 (gd l k).un, .slice (gd l k).a (gd l k).sub.length (gd l k).cap] 55)
      have hC := Lib.hid (l1Own_c _ (gd l k).sub _ (((hd.out k hlt).mono hb).mono A0) (by omega))
      go_wp2_with fail
      refine hC.out.mono ?_
      rintro e w2 ⟨v2, rfl, o2, b2⟩
      obtain ⟨a2, cap2, b2', off2, rfl, -, -, -⟩ := o2.sl IntE.len
      have hbx2 : wr.heap.size < w2.heap.size := Nat.lt_of_lt_of_le (by simp) b2.size
      have x0 : w2.cell? ⟨wr.heap.size, 0, none⟩ = some (.int .i64 (gd l k).id) := cellOn b2 (by simp)
      have x1 : w2.cell? ⟨wr.heap.size, 1, none⟩ = some (.string (gd l k).nm) := cellOn b2 (by simp)
      have x2 : w2.cell? ⟨wr.heap.size, 2, none⟩ = some (.int .i64 (gd l k).un) := cellOn b2 (by simp)
      have x3 : w2.cell? ⟨wr.heap.size, 3, none⟩ = some (.slice (gd l k).a (gd l k).sub.length (gd l k).cap) := cellOn b2 (by simp)
      have z3 : w2.frozen? ⟨wr.heap.size, 3, none⟩ = false := (b2.frozen (p := ⟨wr.heap.size, 3, none⟩) (by simp)).trans (by simp)
      have NO := Lib.hid ((hO.out.mono A0).mono b2)
      have B2 := btrans (btrans hb A0) b2
      have hs2 : wr.heap.size + 1 ≤ w2.heap.size := by simpa using b2.size
      have hzb := hb.size
      have o2' : Own w2 (wr.heap.size + 1) 3 IntE.enc 1 (.slice a2 (gd l k).sub.length cap2) (gd l k).sub := by simpa using o2
      go_upto_region 7 with fail
      have hg3 : w2.grownBy (w2.setCell ⟨wr.heap.size, 3, none⟩ (.slice a2 (gd l k).sub.length cap2)) (some wr.heap.size) := only_setCell (World.grownBy.refl _ _) _ rfl _
      have y0 : (w2.setCell ⟨wr.heap.size, 3, none⟩ (.slice a2 (gd l k).sub.length cap2)).cell? ⟨wr.heap.size, 0, none⟩ = some (.int .i64 (gd l k).id) := by simp [go_sem, x0]
      have y1 : (w2.setCell ⟨wr.heap.size, 3, none⟩ (.slice a2 (gd l k).sub.length cap2)).cell? ⟨wr.heap.size, 1, none⟩ = some (.string (gd l k).nm) := by simp [go_sem, x1]
      have y2 : (w2.setCell ⟨wr.heap.size, 3, none⟩ (.slice a2 (gd l k).sub.length cap2)).cell? ⟨wr.heap.size, 2, none⟩ = some (.int .i64 (gd l k).un) := by simp [go_sem, x2]
      have y3 : (w2.setCell ⟨wr.heap.size, 3, none⟩ (.slice a2 (gd l k).sub.length cap2)).cell? ⟨wr.heap.size, 3, none⟩ = some (.slice a2 (gd l k).sub.length cap2) := by simp [go_sem, x3]
      have B3 : Below w.heap.size w (w2.setCell ⟨wr.heap.size, 3, none⟩ (.slice a2 (gd l k).sub.length cap2)) := B2.setCell (by exact hzb) _
      generalize w2.setCell ⟨wr.heap.size, 3, none⟩ (.slice a2 (gd l k).sub.length cap2) = W3 at hg3 y0 y1 y2 y3 B3 ⊢
      have N3 := Lib.hid (NO.out.turned (Turned.of_grown (lo := wr.heap.size) (hi := wr.heap.size + 1) hg3 (fun g hg => by injection hg with hg; omega)) (.inl (Nat.le_refl _)))
      have o3 : Own W3 (wr.heap.size + 1) 3 IntE.enc 1 (.slice a2 (gd l k).sub.length cap2) (gd l k).sub := o2'.kept hg3 (by
        cases hbk : Value.ownBlock _ with
        | none => exact .inl rfl
        | some g => exact .inr (fun e => by have := (o2'.bounds g hbk).1; injection e with e; omega))
      have o3b := o3.bounds
      replace o3 := Lib.hid o3
      clear o2'
      have hs3 : wr.heap.size + 1 ≤ W3.heap.size := Nat.le_trans hs2 hg3.size
      have hbw3 : wr.heap.size < W3.heap.size := hs3
      clear x0 x1 x2 x3 z3 o2 hg3 b2 B2 NO hC hbx2 hO
      go_wp2_with (at_builtin; refine wpList_pushAt Hdg.len Hdg.one rfl _ _ 24 rfl w.heap.size 55 i _ 56 Try.underlying24 hi hz0 hz1 hz2 rfl (by omega) _ l' rfl (N3.out.own.mono (below_alloc _ _)) _ 1 { gd l k with a := a2, cap := cap2 } rfl (fun j u hu => new_cells _ (Hdg.enc { gd l k with a := a2, cap := cap2 }) _ _ (by simp) j u hu) (by unfold maxLen; omega) (by omega) (by simp; omega) ?_)
      intro v' w5 ho5 hg5 hat5
      have N5 := Lib.hid ((N3.out.mono (below_alloc _ _)).push ho5 hg5 (by simpa using hat5) (by simp; omega) ((Own.mono o3.out (below_alloc _ _)).lower (by omega)) (fun b hb => by have := (o3b b hb).1; omega))
      have hb5 := below_push (lo := w.heap.size) (B := w.heap.size) (a := w) (B3.trans ((below_alloc _ _).mono B3.size)) (N3.out.own.mono (below_alloc _ _)) hg5 (Nat.le_refl _) (by simp; omega)
      have hbr5 := Lib.hid (Hdg.map_push hlt hbr.out { gd l k with a := a2, cap := cap2 } rfl)
      clear ho5 hat5
      go_wp2_with fail
      go_roundw
      case rel => exact ⟨k + 1, _, by omega, by go_num, by simp [hll], hbr5.out, N5.out, hb5⟩
      case measure => simp [intOf]; omega
    · obtain rfl : k = l.length := by omega
      have hbr := Lib.hid (show l'.map Hdg.bare = l.map Hdg.bare by rw [hbr.out, List.take_length])
      go_wp2_with fail
      go_ret
      exact ⟨_, l', rfl, hO.out, hbr.out, hb⟩
end Go.Proofs.Ytbkkaibjenofiaa
