/- Marks on copies: strings, slices of strings, slices of structs that hold a slice. No condition but sizes. -/
import Derived.Test.YthibchaiaedboaaNst
namespace Go.Proofs.Ythibchaiaedboaa
open Go.RowKit

def Hdg.hv (x : Hdg) : Value := .slice x.a x.sub.length x.cap
abbrev Hdg.OwnN (w : World) (lo hi : Nat) (v : Value) (l : List Hdg) : Prop := NOwn w lo hi 110 Hdg.enc 4 3 IntE.enc Hdg.hv Hdg.sub v l
theorem Hdg.OwnS.nown {w : World} {lo : Nat} {v : Value} {l : List Hdg} (h : Hdg.OwnS w lo v l) : Hdg.OwnN w lo w.heap.size v l := by
  obtain ⟨h1, g, h2, h3, h4, h5, h6⟩ := h
  refine ⟨h1, fun b hb => (h1.bounds b hb).2, fun i hi => ⟨(h5 i hi).lower (by omega), fun b hb => ⟨((h5 i hi).bounds b hb).2, fun e => ?_⟩⟩, fun i j b hij hj hb hb' => ?_⟩
  · have e1 := h4 b e
    have e2 := ((h5 i hi).bounds b hb).1
    omega
  · have := h6 i j b b hij hj hb hb'
    omega
theorem Hdg.OwnN.deep {w : World} {lo hi : Nat} {v : Value} {l : List Hdg} (h : Hdg.OwnN w lo hi v l) : Hdg.Deep w l := fun i hi => (h.inn i hi).sl IntE.len
def Hdg.mrk (k : Int) (x : Hdg) : Hdg := { x with id := k, nm := markT (k + 1), un := k + 1 + 1, sub := IntE.marks (k + 1 + 1 + 1) x.sub.length }
def Hdg.nxt (k : Int) (x : Hdg) : Int := k + 1 + 1 + 1 + (x.sub.length : Int)
theorem Hdg.kb {k0 : Int} {l : List Hdg} (hls : ∀ i, i < l.length → (gd l i).sub.length ≤ 1048577) : k0 ≤ kAt Hdg.nxt k0 l l.length ∧ kAt Hdg.nxt k0 l l.length ≤ k0 + 2000000 * (l.length : Int) :=
  kAt_bound (nx := Hdg.nxt) (k := k0) (l := l) (c := 2000000) (fun k i hi => by have := hls i hi; unfold Hdg.nxt; omega) l.length (Nat.le_refl _)
theorem Hdg.lns {l l' : List Hdg} (h : l'.map Hdg.bare = l.map Hdg.bare) (hl : ∀ i, i < l.length → (gd l i).sub.length ≤ 1048576) : ∀ i, i < l'.length → (gd l' i).sub.length ≤ 1048577 := fun i hi => by
  have e : l'.length = l.length := by simpa using congrArg List.length h
  have h1 := Hdg.sub_eq (map_same_at h i (by omega)).2
  have h2 := hl i (by omega)
  have h3 : (gd l' i).sub = (gd l i).sub := h1.2.2.2
  rw [h3]; omega
theorem Hdg.lnB {l B : List Hdg} (h : l.map Hdg.bare = B) (hB : B.length ≤ 1048577 ∧ ∀ i, i < B.length → (gd B i).sub.length ≤ 1048577) : l.length ≤ 1048577 ∧ ∀ i, i < l.length → (gd l i).sub.length ≤ 1048577 := by
  subst h
  rw [List.length_map] at hB
  refine ⟨hB.1, fun i hi => ?_⟩
  have := hB.2 i hi
  have e : gd (l.map Hdg.bare) i = (gd l i).bare := by simp [gd, hi]
  rw [e] at this
  exact this
theorem Hdg.lnq {l l' : List Hdg} (h : l'.map Hdg.bare = l.map Hdg.bare) {n : Nat} (hl : l.length ≤ n) : l'.length ≤ n := by
  have e : l'.length = l.length := by simpa using congrArg List.length h
  omega

set_option maxHeartbeats 4000000 in
set_option maxRecDepth 100000 in
theorem markHeadingS_p (v : Value) (l : List Hdg) (k0 : Int) (w : World) (lo hi : Nat) (h : Hdg.OwnN w lo hi v l) (hl : l.length ≤ 1048577) (hls : ∀ i, i < l.length → (gd l i).sub.length ≤ 1048577) (h0 : 0 < k0) (h1 : k0 ≤ 10000000000000) : Calls Try.prog 53 #[v, .int .i64 k0] w fun e w' =>
    e = .returned (.int .i64 (kAt Hdg.nxt k0 l l.length)) ∧ Hdg.OwnN w' lo hi v (marksL Hdg.nxt Hdg.mrk k0 l) ∧ Turned lo hi w w' := by
  have hvs := h.own.sl Hdg.len
  obtain ⟨a, cap, b, off, rfl, hlc, hm, -⟩ := hvs
  unfold maxLen at hm
  have hK := Lib.hid (kAt_bound (nx := Hdg.nxt) (k := k0) (l := l) (c := 2000000) (fun k i hi => by have := hls i hi; unfold Hdg.nxt; omega))
  go_enter Try.func53, Try.ntmps53
  go_wp2_with fail
  go_loopw [1, 5] (fun m i wr => ∃ (k : Nat) (cur : List Hdg), k ≤ l.length ∧ i = .int .i64 k ∧ m = .int .i64 (kAt Hdg.nxt k0 l k) ∧ Hid (Turned lo hi w wr) ∧ cur.length = l.length ∧ Hid (∀ j, j < k → gd cur j = Hdg.mrk (kAt Hdg.nxt k0 l j) (gd l j)) ∧ Hid (∀ j, k ≤ j → j < l.length → gd cur j = gd l j) ∧ Hid (Hdg.OwnN wr lo hi (.slice a l.length cap) cur)) (fun _ i _ => l.length - (intOf i).toNat)
  case atStart => exact ⟨0, l, Nat.zero_le _, rfl, rfl, Turned.refl _ _ _, rfl, fun j hj => by omega, fun _ _ _ => rfl, h⟩
  case round =>
    obtain ⟨k, cur, hk, rfl, rfl, ht, hcl, hd1, hd2, hM⟩ := hrel
    have hb0 := hK.out k hk
    obtain ⟨q, hq⟩ : ∃ q, q = kAt Hdg.nxt k0 l k := ⟨_, rfl⟩
    rw [← hq] at hb0 ⊢
    by_cases hlt : k < l.length
    · obtain ⟨g, cap', hv', hlo, hg, -, -, hfz, hcc⟩ := hM.out.own.form Hdg.len (by omega)
      have ea : a = some ⟨g, 0, none⟩ := by injection hv'
      clear hv'
      subst ea
      have hgi : g < hi := hM.out.2.1 g rfl
      have hll := hls k hlt
      obtain ⟨-, -, c0, c1, c2, c3⟩ := Hdg.at hcc k (by omega)
      rw [hd2.out k (Nat.le_refl _) hlt, Nat.zero_add] at c0 c1 c2 c3
      have z0 := hfz (k * 4)
      have z1 := hfz (k * 4 + 1)
      have z2 := hfz (k * 4 + 2)
      have N0 := hM.out
      rw [← set_gd (l := cur) (i := k) (by omega), hd2.out k (Nat.le_refl _) hlt] at N0
      have N1 := NOwn.storeAt Hdg.len N0 (by omega) { gd l k with id := q } 0 (by omega) (.int .i64 (q)) rfl rfl rfl
      have N2 := NOwn.storeAt Hdg.len N1 (by omega) { gd l k with id := q, nm := markT (q + 1) } 1 (by omega) (.string (markT (q + 1))) rfl rfl rfl
      have N3 := NOwn.storeAt Hdg.len N2 (by omega) { gd l k with id := q, nm := markT (q + 1), un := q + 1 + 1 } 2 (by omega) (.int .i64 (q + 1 + 1)) rfl rfl rfl
      have hnx : Hid (kAt Hdg.nxt k0 l (k + 1) = q + 1 + 1 + 1 + ((gd l k).sub.length : Int)) := by
        show Hid (Hdg.nxt (kAt Hdg.nxt k0 l k) (gd l k) = _)
        rw [← hq]
        exact Lib.hid rfl
      replace hq := Lib.hid hq
      have NN := Lib.hid N3
      clear hfz hcc N0 N1 N2 N3
      go_wp2_with (go_at_call 132; refine (markText_c _ _ (by omega) (by omega)).mono ?_; rintro e w' ⟨rfl, hbq⟩; obtain ⟨p, rfl⟩ := ext_of_below hbq; clear hbq)
      refine callsAt (fun W6 hW6 => ?_)
      have NM : Hid (Hdg.OwnN W6 lo hi (.slice (some ⟨g, 0, none⟩) l.length cap) (cur.set k { gd l k with id := q, nm := markT (q + 1), un := q + 1 + 1 })) := by rw [hW6]; exact NN.out.mono (below_ext _ _)
      have TM : Hid (Turned lo hi w W6) := by rw [hW6]; exact (((ht.out.set hlo hgi _).set hlo hgi _).set hlo hgi _).trans (Turned.of_below (below_ext _ _))
      clear hW6
      obtain ⟨hO, hOb⟩ := NM.out.innAt (by omega)
      replace hO := Lib.hid hO
      replace hOb := Lib.hid hOb
      refine (markIntS_c _ (gd l k).sub _ _ lo hO.out (by omega) (by omega) (by omega)).mono ?_
      rintro e w6 ⟨rfl, ho6, hg6⟩
      have N6 := Lib.hid (NM.out.innerAt (by omega) (Hdg.mrk q (gd l k)) (by simp [Hdg.enc, Hdg.mrk, IntE.marks_len]) (by simp [Hdg.hv, Hdg.mrk, IntE.marks_len]) (by simpa [Hdg.hv, Hdg.mrk, IntE.marks_len] using ho6) (by simpa [Hdg.hv, Hdg.mrk, IntE.marks_len] using hg6))
      have hT6 := Lib.hid (TM.out.trans (Turned.of_grown hg6 (hOb.out)))
      go_wp2_with fail
      go_roundw
      case rel =>
        refine ⟨k + 1, _, by omega, by go_num, congrArg (Value.int .i64) (by rw [hnx.out]), hT6.out, ?_, ?_, ?_, N6.out⟩
        · simpa using hcl
        · intro j hj
          by_cases e : k = j
          · subst e
            rw [gd_set_at (by omega), hq.out]
          · rw [gd_set_ne e]
            exact hd1.out j (by omega)
        · intro j hj hjl
          rw [gd_set_ne (by omega)]
          exact hd2.out j (by omega) hjl
      case measure => simp [intOf]; omega
    · obtain rfl : k = l.length := by omega
      have hE := Lib.hid (show cur = marksL Hdg.nxt Hdg.mrk k0 l from gd_ext (by rw [marksL_len, hcl]) (fun i hi => by
        rw [marksL_len] at hi
        rw [marksL_at _ _ _ _ hi]
        exact hd1.out i hi))
      replace hq := Lib.hid hq
      go_wp2_with fail
      go_ret
      exact ⟨by rw [← hq.out]; rfl, by rw [← hE.out]; exact hM.out, ht.out⟩

end Go.Proofs.Ythibchaiaedboaa
