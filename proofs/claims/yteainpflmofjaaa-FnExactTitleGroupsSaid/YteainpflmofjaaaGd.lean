/- Slices of slices of numbers, as results: comparison, marks, the look at marks. No condition but sizes. -/
import Derived.Test.YteainpflmofjaaaPn
import Derived.Test.YteainpflmofjaaaNst
namespace Go.Proofs.Yteainpflmofjaaa
open Go.RowKit
/-- the header of a slice of numbers, and what it reads as -/
structure Rw where
  a : Option Addr
  cap : Nat
  sub : List Int
instance : Inhabited Rw := ⟨⟨none, 0, []⟩⟩
def Rw.enc (x : Rw) : List Value := [.slice x.a x.sub.length x.cap]
theorem Rw.len (x : Rw) : x.enc.length = 1 := rfl
theorem Rw.one (x : Rw) : ∀ u ∈ x.enc, u.oneCell' = true := fun u hu => by simp [Rw.enc] at hu; subst hu; rfl
theorem Rw.at {w : World} {a : Option Addr} {b off : Nat} {l : List Rw} (h : Cells w Rw.enc 1 a b off l) (i : Nat) (hi : i < l.length) : a = some ⟨b, off, none⟩ ∧ b < w.heap.size ∧
    w.cell? ⟨b, off + i, none⟩ = some (.slice (gd l i).a (gd l i).sub.length (gd l i).cap) := by
  obtain ⟨ha, hb, c⟩ := h i hi
  have c0 := c 0 _ rfl
  rw [Nat.mul_one, Nat.add_zero] at c0
  exact ⟨ha, hb, c0⟩
def Rw.In (w : World) (x : Rw) : Prop := Sl w IntE.enc 1 (.slice x.a x.sub.length x.cap) x.sub
theorem Rw.In.mono {w w' : World} {x : Rw} (h : x.In w) (hb : Below w.heap.size w w') : x.In w' := Sl.mono h hb
def Rw.Deep (w : World) (l : List Rw) : Prop := ∀ i, i < l.length → (gd l i).In w
theorem Rw.Deep.mono {w w' : World} {l : List Rw} (h : Rw.Deep w l) (hb : Below w.heap.size w w') : Rw.Deep w' l := fun i hi => (h i hi).mono hb
def Rw.hv (x : Rw) : Value := .slice x.a x.sub.length x.cap
abbrev Rw.OwnN (w : World) (lo hi : Nat) (v : Value) (l : List Rw) : Prop := NOwn w lo hi 35 Rw.enc 1 3 IntE.enc Rw.hv Rw.sub v l
theorem Rw.OwnN.deep {w : World} {lo hi : Nat} {v : Value} {l : List Rw} (h : Rw.OwnN w lo hi v l) : Rw.Deep w l := fun i hi => (h.inn i hi).sl IntE.len
theorem Rw.OwnN.sl {w : World} {lo hi : Nat} {v : Value} {l : List Rw} (h : Rw.OwnN w lo hi v l) : Sl w Rw.enc 1 v l := h.own.sl Rw.len
/-- a call that hands back a new slice of slices, and whether -/
def RetGrid (w : World) (ll : List (List Int)) (ok : Bool) (e : Ending) (w' : World) : Prop := ∃ (v : Value) (l : List Rw), e = .returned (.tuple #[v, .bool ok]) ∧ Rw.OwnN w' w.heap.size w'.heap.size v l ∧ l.map Rw.sub = ll ∧ Below w.heap.size w w'
def Rw.mrk (k : Int) (x : Rw) : Rw := { x with sub := IntE.marks k x.sub.length }
def Rw.nxt (k : Int) (x : Rw) : Int := k + (x.sub.length : Int)
theorem Rw.sub_at {l l' : List Rw} (h : l.map Rw.sub = l'.map Rw.sub) (i : Nat) (hi : i < l.length) : i < l'.length ∧ (gd l i).sub = (gd l' i).sub := by
  have e : l.length = l'.length := by simpa using congrArg List.length h
  refine ⟨by omega, ?_⟩
  have h1 : (l.map Rw.sub)[i]? = (l'.map Rw.sub)[i]? := by rw [h]
  rw [List.getElem?_map, List.getElem?_map, gd_eq hi, gd_eq (by omega : i < l'.length)] at h1
  simpa using h1
theorem Rw.kAt_le {k0 : Int} {l : List Rw} (hls : ∀ i, i < l.length → (gd l i).sub.length ≤ 1048577) : ∀ i, i ≤ l.length → k0 ≤ kAt Rw.nxt k0 l i ∧ kAt Rw.nxt k0 l i ≤ k0 + 2000000 * (i : Int) :=
  kAt_bound (nx := Rw.nxt) (k := k0) (l := l) (c := 2000000) (fun k i hi => by have := hls i hi; unfold Rw.nxt; omega)
theorem Rw.kb {k0 : Int} {l : List Rw} (hls : ∀ i, i < l.length → (gd l i).sub.length ≤ 1048577) : k0 ≤ kAt Rw.nxt k0 l l.length ∧ kAt Rw.nxt k0 l l.length ≤ k0 + 2000000 * (l.length : Int) := Rw.kAt_le hls l.length (Nat.le_refl _)
theorem Rw.lnB {l : List Rw} {B : List (List Int)} (h : l.map Rw.sub = B) (hB : B.length ≤ 1048577 ∧ ∀ x, x ∈ B → x.length ≤ 1048577) : l.length ≤ 1048577 ∧ ∀ i, i < l.length → (gd l i).sub.length ≤ 1048577 := by
  subst h
  rw [List.length_map] at hB
  refine ⟨hB.1, fun i hi => hB.2 _ (List.mem_map.2 ⟨gd l i, ?_, rfl⟩)⟩
  rw [gd_get hi]; exact List.getElem_mem hi
set_option maxHeartbeats 1000000 in
theorem eqIntSS_p (v v' : Value) (l l' : List Rw) (w : World) (h : Sl w Rw.enc 1 v l) (hd : Rw.Deep w l) (h' : Sl w Rw.enc 1 v' l') (hd' : Rw.Deep w l') (he : l.map Rw.sub = l'.map Rw.sub) : Calls Try.prog 8 #[v, v'] w fun e w' =>
    e = .returned (.bool true) ∧ Below w.heap.size w w' := by
  obtain ⟨a, cap, b, off, rfl, hlc, hm, hc⟩ := h
  obtain ⟨a', cap', b', off', rfl, hlc', hm', hc'⟩ := h'
  have hE := Lib.hid he
  have hll : l.length = l'.length := by simpa using congrArg List.length he
  clear he
  unfold maxLen at hm hm'
  rw [← hll] at hlc' ⊢
  go_enter Try.func8, Try.ntmps8
  go_wp2_with fail
  go_loopw [5] (fun i wr => ∃ k : Nat, k ≤ l.length ∧ i = .int .i64 k ∧ Below w.heap.size w wr) (fun i _ => l.length - (intOf i).toNat)
  case atStart => exact ⟨0, Nat.zero_le _, rfl, Below.refl _ _⟩
  case round =>
    obtain ⟨k, hk, rfl, hb⟩ := hrel
    by_cases hlt : k < l.length
    · obtain ⟨rfl, hbw, c0⟩ := Rw.at (hc.mono hb) k hlt
      obtain ⟨rfl, hbw', c0'⟩ := Rw.at (hc'.mono hb) k (by omega)
      have hQ := Lib.hid (fun p => eqIntS_c _ _ (gd l k).sub (ext wr p) ((hd k hlt).mono (btrans hb (below_ext wr p))) (by rw [(Rw.sub_at hE.out k hlt).2]; exact (hd' k (by omega)).mono (btrans hb (below_ext wr p))))
      rw [(Rw.sub_at hE.out k hlt).2] at hQ c0
      go_wp2_with fail
      refine wp_region_ext (by kernel_rfl) (by kernel_rfl) ?_
      repeat (any_goals (first | go_big_quiet_step ((go_at_call 21; exact Calls.ext_of (hQ.out _)))))
      (refine wpQuiet_nil ?_)
      (rintro _ ⟨q, rfl⟩)
      go_wp2_with fail
      go_roundw
      case rel => exact ⟨k + 1, by omega, by go_num, bext hb hb.size _⟩
      case measure => simp [intOf]; omega
    · go_wp2_with fail
      go_ret
      exact ⟨rfl, hb⟩
set_option maxHeartbeats 1000000 in
theorem markIntSS_p (v : Value) (l : List Rw) (k0 : Int) (w : World) (lo hi : Nat) (h : Rw.OwnN w lo hi v l) (hl : l.length ≤ 1048577) (hls : ∀ i, i < l.length → (gd l i).sub.length ≤ 1048577) (h0 : 0 < k0) (h1 : k0 ≤ 10000000000000) : Calls Try.prog 11 #[v, .int .i64 k0] w fun e w' =>
    e = .returned (.int .i64 (kAt Rw.nxt k0 l l.length)) ∧ Rw.OwnN w' lo hi v (marksL Rw.nxt Rw.mrk k0 l) ∧ Turned lo hi w w' := by
  have hvs := h.own.sl Rw.len
  obtain ⟨a, cap, b, off, rfl, hlc, hm, -⟩ := hvs
  unfold maxLen at hm
  have hK := Lib.hid (Rw.kAt_le (k0 := k0) hls)
  go_enter Try.func11, Try.ntmps11
  go_wp2_with fail
  go_loopw [1, 5] (fun m i wr => ∃ (k : Nat) (cur : List Rw), k ≤ l.length ∧ i = .int .i64 k ∧ m = .int .i64 (kAt Rw.nxt k0 l k) ∧ Hid (Turned lo hi w wr) ∧ cur.length = l.length ∧ Hid (∀ j, j < k → gd cur j = Rw.mrk (kAt Rw.nxt k0 l j) (gd l j)) ∧ Hid (∀ j, k ≤ j → j < l.length → gd cur j = gd l j) ∧ Hid (Rw.OwnN wr lo hi (.slice a l.length cap) cur)) (fun _ i _ => l.length - (intOf i).toNat)
  case atStart => exact ⟨0, l, Nat.zero_le _, rfl, rfl, Turned.refl _ _ _, rfl, fun j hj => by omega, fun _ _ _ => rfl, h⟩
  case round =>
    obtain ⟨k, cur, hk, rfl, rfl, ht, hcl, hd1, hd2, hM⟩ := hrel
    have hb0 := hK.out k hk
    obtain ⟨q, hq⟩ : ∃ q, q = kAt Rw.nxt k0 l k := ⟨_, rfl⟩
    rw [← hq] at hb0 ⊢
    by_cases hlt : k < l.length
    · obtain ⟨g, cap', hv', hlo, hg, -, -, hfz, hcc⟩ := hM.out.own.form Rw.len (by omega)
      have ea : a = some ⟨g, 0, none⟩ := by injection hv'
      clear hv'
      subst ea
      have hll := hls k hlt
      obtain ⟨-, -, c0⟩ := Rw.at hcc k (by omega)
      rw [hd2.out k (Nat.le_refl _) hlt, Nat.zero_add] at c0
      have hnx : Hid (kAt Rw.nxt k0 l (k + 1) = q + ((gd l k).sub.length : Int)) := by
        show Hid (Rw.nxt (kAt Rw.nxt k0 l k) (gd l k) = _)
        rw [← hq]
        exact Lib.hid rfl
      replace hq := Lib.hid hq
      have NN : Hid (Rw.OwnN wr lo hi (.slice (some ⟨g, 0, none⟩) l.length cap) (cur.set k (gd l k))) := by
        have := hM.out
        rw [← hd2.out k (Nat.le_refl _) hlt, set_gd (by omega)]
        exact Lib.hid this
      obtain ⟨hO, hOb⟩ := NN.out.innAt (by omega)
      replace hO := Lib.hid hO
      replace hOb := Lib.hid hOb
      clear hfz hcc
      go_wp2_with fail
      refine (markIntS_c _ (gd l k).sub _ _ lo hO.out (by omega) (by omega) (by omega)).mono ?_
      rintro e w6 ⟨rfl, ho6, hg6⟩
      have N6 := Lib.hid (NN.out.innerAt (by omega) (Rw.mrk q (gd l k)) (by simp [Rw.enc, Rw.mrk, IntE.marks_len]) (by simp [Rw.hv, Rw.mrk, IntE.marks_len]) (by simpa [Rw.hv, Rw.mrk, IntE.marks_len] using ho6) (by simpa [Rw.hv, Rw.mrk, IntE.marks_len] using hg6))
      have hT6 := Lib.hid (ht.out.trans (Turned.of_grown hg6 (hOb.out)))
      go_wp2_with fail
      go_roundw
      case rel =>
        refine ⟨k + 1, _, by omega, by go_num, congrArg (Value.int .i64) (by rw [hnx.out]), hT6.out, ?_, ?_, ?_, N6.out⟩
        · simpa using hcl
        · intro j hj
          by_cases e : k = j
          · subst e
            rw [gd_set_at (by omega), hq.out]
          · rw [gd_set_ne e]
            exact hd1.out j (by omega)
        · intro j hj hjl
          rw [gd_set_ne (by omega)]
          exact hd2.out j (by omega) hjl
      case measure => simp [intOf]; omega
    · obtain rfl : k = l.length := by omega
      have hE := Lib.hid (show cur = marksL Rw.nxt Rw.mrk k0 l from gd_ext (by rw [marksL_len, hcl]) (fun i hi => by
        rw [marksL_len] at hi
        rw [marksL_at _ _ _ _ hi]
        exact hd1.out i hi))
      replace hq := Lib.hid hq
      go_wp2_with fail
      go_ret
      exact ⟨by rw [← hq.out]; rfl, by rw [← hE.out]; exact hM.out, ht.out⟩
set_option maxHeartbeats 1000000 in
theorem heldIntSS_c (v : Value) (l : List Rw) (k0 : Int) (w : World) (h : Sl w Rw.enc 1 v (marksL Rw.nxt Rw.mrk k0 l)) (hd : Rw.Deep w (marksL Rw.nxt Rw.mrk k0 l)) (hl : l.length ≤ 1048577) (hls : ∀ i, i < l.length → (gd l i).sub.length ≤ 1048577) (h0 : 0 < k0) (h1 : k0 ≤ 10000000000000) : Calls Try.prog 12 #[v, .int .i64 k0] w fun e w' =>
    e = .returned (.int .i64 (kAt Rw.nxt k0 l l.length)) ∧ w = w' := by
  obtain ⟨a, cap, b, off, rfl, hlc, hm, hc⟩ := h
  unfold maxLen at hm
  have hK := Lib.hid (Rw.kAt_le (k0 := k0) hls)
  rw [marksL_len] at hlc ⊢
  go_enter Try.func12, Try.ntmps12
  go_wp2_with fail
  go_loop [1, 5] (fun m i => ∃ (k : Nat), k ≤ l.length ∧ i = .int .i64 k ∧ m = .int .i64 (kAt Rw.nxt k0 l k)) (fun _ i => l.length - (intOf i).toNat)
  case atStart => exact ⟨0, Nat.zero_le _, rfl, rfl⟩
  case round =>
    obtain ⟨k, hk, rfl, rfl⟩ := hrel
    have hb0 := hK.out k hk
    obtain ⟨q, hq⟩ : ∃ q, q = kAt Rw.nxt k0 l k := ⟨_, rfl⟩
    rw [← hq] at hb0 ⊢
    by_cases hlt : k < l.length
    · have hll := hls k hlt
      obtain ⟨rfl, hbw, c0⟩ := Rw.at hc k (by rw [marksL_len]; exact hlt)
      have hI := hd k (by rw [marksL_len]; exact hlt)
      unfold Rw.In at hI
      rw [marksL_at _ _ _ _ hlt, ← hq] at c0 hI
      simp only [Rw.mrk, IntE.marks_len] at c0 hI
      have hH := Lib.hid (heldIntS_c _ (gd l k).sub.length _ w hI (by omega) (by omega) (by omega))
      have hnx : Hid (kAt Rw.nxt k0 l (k + 1) = q + ((gd l k).sub.length : Int)) := by
        show Hid (Rw.nxt (kAt Rw.nxt k0 l k) (gd l k) = _)
        rw [← hq]
        exact Lib.hid rfl
      clear hI hc hd
      replace hq := Lib.hid hq
      go_wp2_with fail
      refine hH.out.mono ?_
      rintro e w6 ⟨rfl, rfl⟩
      go_wp2_with fail
      go_round
      case rel => exact ⟨k + 1, by omega, by go_num, congrArg (Value.int .i64) (by rw [hnx.out])⟩
      case measure => simp [intOf]; omega
    · obtain rfl : k = l.length := by omega
      replace hq := Lib.hid hq
      go_wp2_with fail
      go_ret
      exact ⟨by rw [← hq.out]; rfl, rfl⟩
theorem heldIntSS_p (v : Value) (l : List Rw) (k0 : Int) (w : World) (h : Sl w Rw.enc 1 v (marksL Rw.nxt Rw.mrk k0 l)) (hd : Rw.Deep w (marksL Rw.nxt Rw.mrk k0 l)) (hl : l.length ≤ 1048577) (hls : ∀ i, i < l.length → (gd l i).sub.length ≤ 1048577) (h0 : 0 < k0) (h1 : k0 ≤ 10000000000000) : Calls Try.prog 12 #[v, .int .i64 k0] w fun e w' =>
    e = .returned (.int .i64 (kAt Rw.nxt k0 l l.length)) ∧ Below w.heap.size w w' := (heldIntSS_c v l k0 w h hd hl hls h0 h1).mono fun _ _ ⟨he, hw⟩ => ⟨he, by rw [← hw]; exact Below.refl _ _⟩
end Go.Proofs.Yteainpflmofjaaa
