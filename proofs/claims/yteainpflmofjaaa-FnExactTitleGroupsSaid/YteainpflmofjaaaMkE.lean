/- Marks on copies: slices of entries. No condition but sizes. -/
import Derived.Test.YteainpflmofjaaaMark
namespace Go.Proofs.Yteainpflmofjaaa
open Go.RowKit

def Ent.mrk (k : Int) (x : Ent) : Ent := { x with id := k, ti := markT (k + 1), pl := markT (k + 1 + 1), yr := k + 1 + 1 + 1, ct := k + 1 + 1 + 1 + 1, sub := IntE.marks (k + 1 + 1 + 1 + 1 + 1) x.sub.length }
def Ent.nxt (k : Int) (x : Ent) : Int := k + 1 + 1 + 1 + 1 + 1 + (x.sub.length : Int)
theorem Ent.kb {k0 : Int} {l : List Ent} (hls : ∀ i, i < l.length → (gd l i).sub.length ≤ 1048577) : k0 ≤ kAt Ent.nxt k0 l l.length ∧ kAt Ent.nxt k0 l l.length ≤ k0 + 2000000 * (l.length : Int) :=
  kAt_bound (nx := Ent.nxt) (k := k0) (l := l) (c := 2000000) (fun k i hi => by have := hls i hi; unfold Ent.nxt; omega) l.length (Nat.le_refl _)

set_option maxHeartbeats 4000000 in
set_option maxRecDepth 100000 in
theorem markEntryS_p (v : Value) (l : List Ent) (k0 : Int) (w : World) (lo hi : Nat) (h : Ent.OwnN w lo hi v l) (hl : l.length ≤ 1048577) (hls : ∀ i, i < l.length → (gd l i).sub.length ≤ 1048577) (h0 : 0 < k0) (h1 : k0 ≤ 10000000000000) : Calls Try.prog 10 #[v, .int .i64 k0] w fun e w' =>
    e = .returned (.int .i64 (kAt Ent.nxt k0 l l.length)) ∧ Ent.OwnN w' lo hi v (marksL Ent.nxt Ent.mrk k0 l) ∧ Turned lo hi w w' := by
  have hvs := h.own.sl Ent.len
  obtain ⟨a, cap, b, off, rfl, hlc, hm, -⟩ := hvs
  unfold maxLen at hm
  have hK := Lib.hid (kAt_bound (nx := Ent.nxt) (k := k0) (l := l) (c := 2000000) (fun k i hi => by have := hls i hi; unfold Ent.nxt; omega))
  go_enter Try.func10, Try.ntmps10
  go_wp2_with fail
  go_loopw [1, 5] (fun m i wr => ∃ (k : Nat) (cur : List Ent), k ≤ l.length ∧ i = .int .i64 k ∧ m = .int .i64 (kAt Ent.nxt k0 l k) ∧ Hid (Turned lo hi w wr) ∧ cur.length = l.length ∧ Hid (∀ j, j < k → gd cur j = Ent.mrk (kAt Ent.nxt k0 l j) (gd l j)) ∧ Hid (∀ j, k ≤ j → j < l.length → gd cur j = gd l j) ∧ Hid (Ent.OwnN wr lo hi (.slice a l.length cap) cur)) (fun _ i _ => l.length - (intOf i).toNat)
  case atStart => exact ⟨0, l, Nat.zero_le _, rfl, rfl, Turned.refl _ _ _, rfl, fun j hj => by omega, fun _ _ _ => rfl, h⟩
  case round =>
    obtain ⟨k, cur, hk, rfl, rfl, ht, hcl, hd1, hd2, hM⟩ := hrel
    have hb0 := hK.out k hk
    obtain ⟨q, hq⟩ : ∃ q, q = kAt Ent.nxt k0 l k := ⟨_, rfl⟩
    rw [← hq] at hb0 ⊢
    by_cases hlt : k < l.length
    · obtain ⟨g, cap', hv', hlo, hg, -, -, hfz, hcc⟩ := hM.out.own.form Ent.len (by omega)
      have ea : a = some ⟨g, 0, none⟩ := by injection hv'
      clear hv'
      subst ea
      have hgi : g < hi := hM.out.2.1 g rfl
      have hll := hls k hlt
      obtain ⟨-, -, c0, c1, c2, c3, c4, c5⟩ := Ent.at hcc k (by omega)
      rw [hd2.out k (Nat.le_refl _) hlt, Nat.zero_add] at c0 c1 c2 c3 c4 c5
      have z0 := hfz (k * 6)
      have z1 := hfz (k * 6 + 1)
      have z2 := hfz (k * 6 + 2)
      have z3 := hfz (k * 6 + 3)
      have z4 := hfz (k * 6 + 4)
      have N0 := hM.out
      rw [← set_gd (l := cur) (i := k) (by omega), hd2.out k (Nat.le_refl _) hlt] at N0
      have N1 := NOwn.storeAt Ent.len N0 (by omega) { gd l k with id := q } 0 (by omega) (.int .i64 (q)) rfl rfl rfl
      have N2 := NOwn.storeAt Ent.len N1 (by omega) { gd l k with id := q, ti := markT (q + 1) } 1 (by omega) (.string (markT (q + 1))) rfl rfl rfl
      have N3 := NOwn.storeAt Ent.len N2 (by omega) { gd l k with id := q, ti := markT (q + 1), pl := markT (q + 1 + 1) } 2 (by omega) (.string (markT (q + 1 + 1))) rfl rfl rfl
      have N4 := NOwn.storeAt Ent.len N3 (by omega) { gd l k with id := q, ti := markT (q + 1), pl := markT (q + 1 + 1), yr := q + 1 + 1 + 1 } 3 (by omega) (.int .i64 (q + 1 + 1 + 1)) rfl rfl rfl
      have N5 := NOwn.storeAt Ent.len N4 (by omega) { gd l k with id := q, ti := markT (q + 1), pl := markT (q + 1 + 1), yr := q + 1 + 1 + 1, ct := q + 1 + 1 + 1 + 1 } 4 (by omega) (.int .i64 (q + 1 + 1 + 1 + 1)) rfl rfl rfl
      have hnx : Hid (kAt Ent.nxt k0 l (k + 1) = q + 1 + 1 + 1 + 1 + 1 + ((gd l k).sub.length : Int)) := by
        show Hid (Ent.nxt (kAt Ent.nxt k0 l k) (gd l k) = _)
        rw [← hq]
        exact Lib.hid rfl
      replace hq := Lib.hid hq
      have NN := Lib.hid N5
      clear hfz hcc N0 N1 N2 N3 N4 N5
      go_wp2_with (go_at_call 23; refine (markText_c _ _ (by omega) (by omega)).mono ?_; rintro e w' ⟨rfl, hbq⟩; obtain ⟨p, rfl⟩ := ext_of_below hbq; clear hbq)
      refine callsAt (fun W6 hW6 => ?_)
      have NM : Hid (Ent.OwnN W6 lo hi (.slice (some ⟨g, 0, none⟩) l.length cap) (cur.set k { gd l k with id := q, ti := markT (q + 1), pl := markT (q + 1 + 1), yr := q + 1 + 1 + 1, ct := q + 1 + 1 + 1 + 1 })) := by rw [hW6]; exact ((NN.out.mono (below_ext _ _)).mono (below_ext _ _))
      have TM : Hid (Turned lo hi w W6) := by rw [hW6]; exact (((((((ht.out.set hlo hgi _).set hlo hgi _).set hlo hgi _).set hlo hgi _).set hlo hgi _).trans (Turned.of_below (below_ext _ _))).trans (Turned.of_below (below_ext _ _)))
      clear hW6
      obtain ⟨hO, hOb⟩ := NM.out.innAt (by omega)
      replace hO := Lib.hid hO
      replace hOb := Lib.hid hOb
      refine (markIntS_c _ (gd l k).sub _ _ lo hO.out (by omega) (by omega) (by omega)).mono ?_
      rintro e w6 ⟨rfl, ho6, hg6⟩
      have N6 := Lib.hid (NM.out.innerAt (by omega) (Ent.mrk q (gd l k)) (by simp [Ent.enc, Ent.mrk, IntE.marks_len]) (by simp [Ent.hv, Ent.mrk, IntE.marks_len]) (by simpa [Ent.hv, Ent.mrk, IntE.marks_len] using ho6) (by simpa [Ent.hv, Ent.mrk, IntE.marks_len] using hg6))
      have hT6 := Lib.hid (TM.out.trans (Turned.of_grown hg6 (hOb.out)))
      go_wp2_with fail
      go_roundw
      case rel =>
        refine ⟨k + 1, _, by omega, by go_num, congrArg (Value.int .i64) (by rw [hnx.out]), hT6.out, ?_, ?_, ?_, N6.out⟩
        · simpa using hcl
        · intro j hj
          by_cases e : k = j
          · subst e
            rw [gd_set_at (by omega), hq.out]
          · rw [gd_set_ne e]
            exact hd1.out j (by omega)
        · intro j hj hjl
          rw [gd_set_ne (by omega)]
          exact hd2.out j (by omega) hjl
      case measure => simp [intOf]; omega
    · obtain rfl : k = l.length := by omega
      have hE := Lib.hid (show cur = marksL Ent.nxt Ent.mrk k0 l from gd_ext (by rw [marksL_len, hcl]) (fun i hi => by
        rw [marksL_len] at hi
        rw [marksL_at _ _ _ _ hi]
        exact hd1.out i hi))
      replace hq := Lib.hid hq
      go_wp2_with fail
      go_ret
      exact ⟨by rw [← hq.out]; rfl, by rw [← hE.out]; exact hM.out, ht.out⟩

end Go.Proofs.Yteainpflmofjaaa
