/- Marks on copies: strings, slices of strings, slices of structs that hold a slice. No condition but sizes. -/
import Derived.Test.YtemgcbmcjpgelaaNst
namespace Go.Proofs.Ytemgcbmcjpgelaa
open Go.RowKit

def StrE.marks (k0 : Int) (n : Nat) : List ByteArray := (List.range n).map fun (i : Nat) => markT (k0 + (i : Int))
theorem StrE.marks_len (k0 : Int) (n : Nat) : (StrE.marks k0 n).length = n := by simp [StrE.marks]
theorem StrE.marks_at (k0 : Int) {n i : Nat} (h : i < n) : gd (StrE.marks k0 n) i = markT (k0 + (i : Int)) := by simp [StrE.marks, gd, h]

set_option maxHeartbeats 400000 in
theorem markStringS_c (v : Value) (l : List ByteArray) (k0 : Int) (w : World) (lo : Nat) (h : Own w lo 9 StrE.enc 1 v l) (hl : l.length ≤ 10000000) (h0 : 0 < k0) (h1 : k0 ≤ 100000000000000000) : Calls Try.prog 31 #[v, .int .i64 k0] w fun e w' =>
    e = .returned (.int .i64 (k0 + (l.length : Int))) ∧ Own w' lo 9 StrE.enc 1 v (StrE.marks k0 l.length) ∧ w.grownBy w' v.ownBlock := by
  have hS := h.sl StrE.len
  obtain ⟨a, cap, b, off, rfl, hlc, hm, hc⟩ := hS
  unfold maxLen at hm
  have hf : Fill w lo 9 1 (.slice a l.length cap) l.length ((StrE.marks k0 l.length).flatMap StrE.enc) 0 := Fill.start (by rw [flat_len StrE.len, StrE.marks_len]) h
  unfold Own
  rw [StrE.marks_len]
  clear hc h
  go_enter Try.func31, Try.ntmps31
  go_wp2_with fail
  go_loopw [1, 5] (fun m i wr => ∃ k : Nat, k ≤ l.length ∧ i = .int .i64 k ∧ m = .int .i64 (k0 + (k : Int)) ∧ w.grownBy wr (Value.slice a l.length cap).ownBlock ∧ Fill wr lo 9 1 (.slice a l.length cap) l.length ((StrE.marks k0 l.length).flatMap StrE.enc) k) (fun _ i _ => l.length - (intOf i).toNat)
  case atStart => exact ⟨0, Nat.zero_le _, rfl, by simp, World.grownBy.refl _ _, hf⟩
  case round =>
    obtain ⟨k, hk, rfl, rfl, hb, hfk⟩ := hrel
    by_cases hlt : k < l.length
    · obtain ⟨g, rfl⟩ := hfk.some (by omega)
      have hg := hfk.lt.2
      obtain ⟨u0, d0⟩ := hfk.cell (k) (by omega)
      have z0 := hfk.frozen (k)
      have hM := StrE.marks_at k0 hlt
      have f0 := flat_get StrE.len (StrE.marks k0 l.length) k 0 (by rw [StrE.marks_len]; exact hlt) (by omega)
      rw [hM] at f0
      replace f0 : Hid (((StrE.marks k0 l.length).flatMap StrE.enc)[k]? = some (Value.string (markT (k0 + (k : Int))))) := by rw [Nat.mul_one, Nat.add_zero] at f0; exact f0
      clear hM
      have hb : Hid (w.grownBy wr (some g)) := hb
      go_wp2_with (go_at_call 64; refine (markText_c _ _ (by omega) (by omega)).mono ?_; rintro e w' ⟨rfl, hbq⟩; obtain ⟨p, rfl⟩ := ext_of_below hbq; clear hbq)
      go_roundw
      case rel =>
        refine ⟨k + 1, by omega, by go_num, congrArg (Value.int .i64) (by omega), ?_, ?_⟩
        · exact only_trans (only_setCell hb.out ⟨g, k, none⟩ rfl _) (only_of_below (below_ext _ _) _)
        · exact ((hfk).step f0.out).mono (below_ext _ _)
      case measure => simp [intOf]; omega
    · obtain rfl : k = l.length := by omega
      have HF := Lib.hid (hfk.all (by omega))
      clear hfk
      go_wp2_with fail
      go_ret
      exact ⟨rfl, HF.out, hb⟩

set_option maxHeartbeats 400000 in
theorem heldStringS_c (v : Value) (n : Nat) (k0 : Int) (w : World) (h : Sl w StrE.enc 1 v (StrE.marks k0 n)) (hl : n ≤ 10000000) (h0 : 0 < k0) (h1 : k0 ≤ 100000000000000000) : Calls Try.prog 32 #[v, .int .i64 k0] w fun e w' =>
    e = .returned (.int .i64 (k0 + (n : Int))) ∧ Below w.heap.size w w' := by
  obtain ⟨a, cap, b, off, rfl, hlc, hm, hc⟩ := h
  unfold maxLen at hm
  rw [StrE.marks_len] at hlc ⊢
  go_enter Try.func32, Try.ntmps32
  go_wp2_with fail
  go_loopw [1, 5] (fun m i wr => ∃ k : Nat, k ≤ n ∧ i = .int .i64 k ∧ m = .int .i64 (k0 + (k : Int)) ∧ Below w.heap.size w wr) (fun _ i _ => n - (intOf i).toNat)
  case atStart => exact ⟨0, Nat.zero_le _, rfl, by simp, Below.refl _ _⟩
  case round =>
    obtain ⟨k, hk, rfl, rfl, hb⟩ := hrel
    by_cases hlt : k < n
    · have hM := StrE.marks_at k0 hlt
      obtain ⟨rfl, hbw, c0⟩ := StrE.at (hc.mono hb) k (by rw [StrE.marks_len]; exact hlt)
      rw [hM] at c0
      clear hM hc
      go_wp2_with fail
      refine wp_region_ext (by kernel_rfl) (by kernel_rfl) ?_
      repeat (any_goals (first | go_big_quiet_step ((go_at_call 64; exact Calls.ext_of (markText_c _ _ (by omega) (by omega))))))
      (refine wpQuiet_nil ?_)
      (rintro _ ⟨q, rfl⟩)
      go_wp2_with fail
      go_roundw
      case rel => exact ⟨k + 1, by omega, by go_num, congrArg (Value.int .i64) (by omega), bext hb hb.size _⟩
      case measure => simp [intOf]; omega
    · obtain rfl : k = n := by omega
      go_wp2_with fail
      go_ret
      exact ⟨rfl, hb⟩

def Crd.hv (x : Crd) : Value := .slice x.a x.sub.length x.cap
abbrev Crd.OwnN (w : World) (lo hi : Nat) (v : Value) (l : List Crd) : Prop := NOwn w lo hi 27 Crd.enc 3 9 StrE.enc Crd.hv Crd.sub v l
theorem Crd.OwnS.nown {w : World} {lo : Nat} {v : Value} {l : List Crd} (h : Crd.OwnS w lo v l) : Crd.OwnN w lo w.heap.size v l := by
  obtain ⟨h1, g, h2, h3, h4, h5, h6⟩ := h
  refine ⟨h1, fun b hb => (h1.bounds b hb).2, fun i hi => ⟨(h5 i hi).lower (by omega), fun b hb => ⟨((h5 i hi).bounds b hb).2, fun e => ?_⟩⟩, fun i j b hij hj hb hb' => ?_⟩
  · have e1 := h4 b e
    have e2 := ((h5 i hi).bounds b hb).1
    omega
  · have := h6 i j b b hij hj hb hb'
    omega
theorem Crd.OwnN.deep {w : World} {lo hi : Nat} {v : Value} {l : List Crd} (h : Crd.OwnN w lo hi v l) : Crd.Deep w l := fun i hi => (h.inn i hi).sl StrE.len
def Crd.mrk (k : Int) (x : Crd) : Crd := { x with id := k, yr := k + 1, sub := StrE.marks (k + 1 + 1) x.sub.length }
def Crd.nxt (k : Int) (x : Crd) : Int := k + 1 + 1 + (x.sub.length : Int)
theorem Crd.kb {k0 : Int} {l : List Crd} (hls : ∀ i, i < l.length → (gd l i).sub.length ≤ 1048577) : k0 ≤ kAt Crd.nxt k0 l l.length ∧ kAt Crd.nxt k0 l l.length ≤ k0 + 2000000 * (l.length : Int) :=
  kAt_bound (nx := Crd.nxt) (k := k0) (l := l) (c := 2000000) (fun k i hi => by have := hls i hi; unfold Crd.nxt; omega) l.length (Nat.le_refl _)
theorem Crd.lns {l l' : List Crd} (h : l'.map Crd.bare = l.map Crd.bare) (hl : ∀ i, i < l.length → (gd l i).sub.length ≤ 1048576) : ∀ i, i < l'.length → (gd l' i).sub.length ≤ 1048577 := fun i hi => by
  have e : l'.length = l.length := by simpa using congrArg List.length h
  have h1 := Crd.sub_eq (map_same_at h i (by omega)).2
  have h2 := hl i (by omega)
  have h3 : (gd l' i).sub = (gd l i).sub := h1.2.2
  rw [h3]; omega
theorem Crd.lnB {l B : List Crd} (h : l.map Crd.bare = B) (hB : B.length ≤ 1048577 ∧ ∀ i, i < B.length → (gd B i).sub.length ≤ 1048577) : l.length ≤ 1048577 ∧ ∀ i, i < l.length → (gd l i).sub.length ≤ 1048577 := by
  subst h
  rw [List.length_map] at hB
  refine ⟨hB.1, fun i hi => ?_⟩
  have := hB.2 i hi
  have e : gd (l.map Crd.bare) i = (gd l i).bare := by simp [gd, hi]
  rw [e] at this
  exact this
theorem Crd.lnq {l l' : List Crd} (h : l'.map Crd.bare = l.map Crd.bare) {n : Nat} (hl : l.length ≤ n) : l'.length ≤ n := by
  have e : l'.length = l.length := by simpa using congrArg List.length h
  omega

set_option maxHeartbeats 4000000 in
set_option maxRecDepth 100000 in
theorem markCardS_p (v : Value) (l : List Crd) (k0 : Int) (w : World) (lo hi : Nat) (h : Crd.OwnN w lo hi v l) (hl : l.length ≤ 1048577) (hls : ∀ i, i < l.length → (gd l i).sub.length ≤ 1048577) (h0 : 0 < k0) (h1 : k0 ≤ 10000000000000) : Calls Try.prog 30 #[v, .int .i64 k0] w fun e w' =>
    e = .returned (.int .i64 (kAt Crd.nxt k0 l l.length)) ∧ Crd.OwnN w' lo hi v (marksL Crd.nxt Crd.mrk k0 l) ∧ Turned lo hi w w' := by
  have hvs := h.own.sl Crd.len
  obtain ⟨a, cap, b, off, rfl, hlc, hm, -⟩ := hvs
  unfold maxLen at hm
  have hK := Lib.hid (kAt_bound (nx := Crd.nxt) (k := k0) (l := l) (c := 2000000) (fun k i hi => by have := hls i hi; unfold Crd.nxt; omega))
  go_enter Try.func30, Try.ntmps30
  go_wp2_with fail
  go_loopw [1, 5] (fun m i wr => ∃ (k : Nat) (cur : List Crd), k ≤ l.length ∧ i = .int .i64 k ∧ m = .int .i64 (kAt Crd.nxt k0 l k) ∧ Hid (Turned lo hi w wr) ∧ cur.length = l.length ∧ Hid (∀ j, j < k → gd cur j = Crd.mrk (kAt Crd.nxt k0 l j) (gd l j)) ∧ Hid (∀ j, k ≤ j → j < l.length → gd cur j = gd l j) ∧ Hid (Crd.OwnN wr lo hi (.slice a l.length cap) cur)) (fun _ i _ => l.length - (intOf i).toNat)
  case atStart => exact ⟨0, l, Nat.zero_le _, rfl, rfl, Turned.refl _ _ _, rfl, fun j hj => by omega, fun _ _ _ => rfl, h⟩
  case round =>
    obtain ⟨k, cur, hk, rfl, rfl, ht, hcl, hd1, hd2, hM⟩ := hrel
    have hb0 := hK.out k hk
    obtain ⟨q, hq⟩ : ∃ q, q = kAt Crd.nxt k0 l k := ⟨_, rfl⟩
    rw [← hq] at hb0 ⊢
    by_cases hlt : k < l.length
    · obtain ⟨g, cap', hv', hlo, hg, -, -, hfz, hcc⟩ := hM.out.own.form Crd.len (by omega)
      have ea : a = some ⟨g, 0, none⟩ := by injection hv'
      clear hv'
      subst ea
      have hgi : g < hi := hM.out.2.1 g rfl
      have hll := hls k hlt
      obtain ⟨-, -, c0, c1, c2⟩ := Crd.at hcc k (by omega)
      rw [hd2.out k (Nat.le_refl _) hlt, Nat.zero_add] at c0 c1 c2
      have z0 := hfz (k * 3)
      have z1 := hfz (k * 3 + 1)
      have N0 := hM.out
      rw [← set_gd (l := cur) (i := k) (by omega), hd2.out k (Nat.le_refl _) hlt] at N0
      have N1 := NOwn.storeAt Crd.len N0 (by omega) { gd l k with id := q } 0 (by omega) (.int .i64 (q)) rfl rfl rfl
      have N2 := NOwn.storeAt Crd.len N1 (by omega) { gd l k with id := q, yr := q + 1 } 1 (by omega) (.int .i64 (q + 1)) rfl rfl rfl
      have hnx : Hid (kAt Crd.nxt k0 l (k + 1) = q + 1 + 1 + ((gd l k).sub.length : Int)) := by
        show Hid (Crd.nxt (kAt Crd.nxt k0 l k) (gd l k) = _)
        rw [← hq]
        exact Lib.hid rfl
      replace hq := Lib.hid hq
      have NN := Lib.hid N2
      clear hfz hcc N0 N1 N2
      go_wp2_with fail
      refine callsAt (fun W6 hW6 => ?_)
      have NM : Hid (Crd.OwnN W6 lo hi (.slice (some ⟨g, 0, none⟩) l.length cap) (cur.set k { gd l k with id := q, yr := q + 1 })) := by rw [hW6]; exact NN.out
      have TM : Hid (Turned lo hi w W6) := by rw [hW6]; exact ((ht.out.set hlo hgi _).set hlo hgi _)
      clear hW6
      obtain ⟨hO, hOb⟩ := NM.out.innAt (by omega)
      replace hO := Lib.hid hO
      replace hOb := Lib.hid hOb
      refine (markStringS_c _ (gd l k).sub _ _ lo hO.out (by omega) (by omega) (by omega)).mono ?_
      rintro e w6 ⟨rfl, ho6, hg6⟩
      have N6 := Lib.hid (NM.out.innerAt (by omega) (Crd.mrk q (gd l k)) (by simp [Crd.enc, Crd.mrk, StrE.marks_len]) (by simp [Crd.hv, Crd.mrk, StrE.marks_len]) (by simpa [Crd.hv, Crd.mrk, StrE.marks_len] using ho6) (by simpa [Crd.hv, Crd.mrk, StrE.marks_len] using hg6))
      have hT6 := Lib.hid (TM.out.trans (Turned.of_grown hg6 (hOb.out)))
      go_wp2_with fail
      go_roundw
      case rel =>
        refine ⟨k + 1, _, by omega, by go_num, congrArg (Value.int .i64) (by rw [hnx.out]), hT6.out, ?_, ?_, ?_, N6.out⟩
        · simpa using hcl
        · intro j hj
          by_cases e : k = j
          · subst e
            rw [gd_set_at (by omega), hq.out]
          · rw [gd_set_ne e]
            exact hd1.out j (by omega)
        · intro j hj hjl
          rw [gd_set_ne (by omega)]
          exact hd2.out j (by omega) hjl
      case measure => simp [intOf]; omega
    · obtain rfl : k = l.length := by omega
      have hE := Lib.hid (show cur = marksL Crd.nxt Crd.mrk k0 l from gd_ext (by rw [marksL_len, hcl]) (fun i hi => by
        rw [marksL_len] at hi
        rw [marksL_at _ _ _ _ hi]
        exact hd1.out i hi))
      replace hq := Lib.hid hq
      go_wp2_with fail
      go_ret
      exact ⟨by rw [← hq.out]; rfl, by rw [← hE.out]; exact hM.out, ht.out⟩

set_option maxHeartbeats 4000000 in
set_option maxRecDepth 100000 in
theorem heldCardS_p (v : Value) (l : List Crd) (k0 : Int) (w : World) (h : Sl w Crd.enc 3 v (marksL Crd.nxt Crd.mrk k0 l)) (hd : Crd.Deep w (marksL Crd.nxt Crd.mrk k0 l)) (hl : l.length ≤ 1048577) (hls : ∀ i, i < l.length → (gd l i).sub.length ≤ 1048577) (h0 : 0 < k0) (h1 : k0 ≤ 10000000000000) : Calls Try.prog 48 #[v, .int .i64 k0] w fun e w' =>
    e = .returned (.int .i64 (kAt Crd.nxt k0 l l.length)) ∧ Below w.heap.size w w' := by
  obtain ⟨a, cap, b, off, rfl, hlc, hm, hc⟩ := h
  unfold maxLen at hm
  have hK := Lib.hid (kAt_bound (nx := Crd.nxt) (k := k0) (l := l) (c := 2000000) (fun k i hi => by have := hls i hi; unfold Crd.nxt; omega))
  rw [marksL_len] at hlc ⊢
  go_enter Try.func48, Try.ntmps48
  go_wp2_with fail
  go_loopw [1, 5] (fun m i wr => ∃ (k : Nat), k ≤ l.length ∧ i = .int .i64 k ∧ m = .int .i64 (kAt Crd.nxt k0 l k) ∧ Below w.heap.size w wr) (fun _ i _ => l.length - (intOf i).toNat)
  case atStart => exact ⟨0, Nat.zero_le _, rfl, rfl, Below.refl _ _⟩
  case round =>
    obtain ⟨k, hk, rfl, rfl, hb⟩ := hrel
    have hb0 := hK.out k hk
    have hb1 := hK.out (k + 1)
    obtain ⟨q, hq⟩ : ∃ q, q = kAt Crd.nxt k0 l k := ⟨_, rfl⟩
    rw [← hq] at hb0 ⊢
    by_cases hlt : k < l.length
    · have hll := hls k hlt
      obtain ⟨rfl, hbw, c0, c1, c2⟩ := Crd.at (hc.mono hb) k (by rw [marksL_len]; exact hlt)
      have hI := hd k (by rw [marksL_len]; exact hlt)
      unfold Crd.In at hI
      rw [marksL_at _ _ _ _ hlt, ← hq] at c0 c1 c2 hI
      simp only [Crd.mrk, StrE.marks_len] at c0 c1 c2 hI
      have hH := Lib.hid (fun W (hB : Below w.heap.size w W) => heldStringS_c _ (gd l k).sub.length _ W (hI.mono hB) (by omega) (by omega) (by omega))
      have hnx : Hid (kAt Crd.nxt k0 l (k + 1) = q + 1 + 1 + ((gd l k).sub.length : Int)) := by
        show Hid (Crd.nxt (kAt Crd.nxt k0 l k) (gd l k) = _)
        rw [← hq]
        exact Lib.hid rfl
      clear hI hc hd
      replace hq := Lib.hid hq

      go_wp2_with fail
      refine (hH.out _ (by repeat' (first | exact Below.refl _ _ | with_reducible assumption | refine bext ?_ ?_ _ | (have hbz := hb.size; first | omega | (simp; omega))))).mono ?_
      rintro e w6 ⟨rfl, hb6⟩
      obtain ⟨p6, rfl⟩ := ext_of_below hb6
      clear hb6
      go_wp2_with fail
      go_roundw
      case rel => exact ⟨k + 1, by omega, by go_num, congrArg (Value.int .i64) (by rw [hnx.out]), (by repeat' (first | exact Below.refl _ _ | with_reducible assumption | refine bext ?_ ?_ _ | (have hbz := hb.size; first | omega | (simp; omega))))⟩
      case measure => simp [intOf]; omega
    · obtain rfl : k = l.length := by omega
      replace hq := Lib.hid hq
      go_wp2_with fail
      go_ret
      exact ⟨by rw [← hq.out]; rfl, hb⟩

end Go.Proofs.Ytemgcbmcjpgelaa
