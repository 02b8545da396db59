/- Marks on copies: strings, slices of strings, slices of structs that hold a slice. No condition but sizes. -/
import Derived.Test.YteainpflmofjaaaDoorNst
namespace Go.Proofs.YteainpflmofjaaaDoor
open Go.RowKit

def StrE.marks (k0 : Int) (n : Nat) : List ByteArray := (List.range n).map fun (i : Nat) => markT (k0 + (i : Int))
theorem StrE.marks_len (k0 : Int) (n : Nat) : (StrE.marks k0 n).length = n := by simp [StrE.marks]
theorem StrE.marks_at (k0 : Int) {n i : Nat} (h : i < n) : gd (StrE.marks k0 n) i = markT (k0 + (i : Int)) := by simp [StrE.marks, gd, h]

set_option maxHeartbeats 400000 in
theorem markStringS_c (v : Value) (l : List ByteArray) (k0 : Int) (w : World) (lo : Nat) (h : Own w lo 9 StrE.enc 1 v l) (hl : l.length ≤ 10000000) (h0 : 0 < k0) (h1 : k0 ≤ 100000000000000000) : Calls Tryd.prog 46 #[v, .int .i64 k0] w fun e w' =>
    e = .returned (.int .i64 (k0 + (l.length : Int))) ∧ Own w' lo 9 StrE.enc 1 v (StrE.marks k0 l.length) ∧ w.grownBy w' v.ownBlock := by
  have hS := h.sl StrE.len
  obtain ⟨a, cap, b, off, rfl, hlc, hm, hc⟩ := hS
  unfold maxLen at hm
  have hf : Fill w lo 9 1 (.slice a l.length cap) l.length ((StrE.marks k0 l.length).flatMap StrE.enc) 0 := Fill.start (by rw [flat_len StrE.len, StrE.marks_len]) h
  unfold Own
  rw [StrE.marks_len]
  clear hc h
  go_enter Tryd.func46, Tryd.ntmps46
  go_wp2_with fail
  go_loopw [1, 5] (fun m i wr => ∃ k : Nat, k ≤ l.length ∧ i = .int .i64 k ∧ m = .int .i64 (k0 + (k : Int)) ∧ w.grownBy wr (Value.slice a l.length cap).ownBlock ∧ Fill wr lo 9 1 (.slice a l.length cap) l.length ((StrE.marks k0 l.length).flatMap StrE.enc) k) (fun _ i _ => l.length - (intOf i).toNat)
  case atStart => exact ⟨0, Nat.zero_le _, rfl, by simp, World.grownBy.refl _ _, hf⟩
  case round =>
    obtain ⟨k, hk, rfl, rfl, hb, hfk⟩ := hrel
    by_cases hlt : k < l.length
    · obtain ⟨g, rfl⟩ := hfk.some (by omega)
      have hg := hfk.lt.2
      obtain ⟨u0, d0⟩ := hfk.cell (k) (by omega)
      have z0 := hfk.frozen (k)
      have hM := StrE.marks_at k0 hlt
      have f0 := flat_get StrE.len (StrE.marks k0 l.length) k 0 (by rw [StrE.marks_len]; exact hlt) (by omega)
      rw [hM] at f0
      replace f0 : Hid (((StrE.marks k0 l.length).flatMap StrE.enc)[k]? = some (Value.string (markT (k0 + (k : Int))))) := by rw [Nat.mul_one, Nat.add_zero] at f0; exact f0
      clear hM
      have hb : Hid (w.grownBy wr (some g)) := hb
      go_wp2_with (go_at_call 56; refine (markText_c _ _ (by omega) (by omega)).mono ?_; rintro e w' ⟨rfl, hbq⟩; obtain ⟨p, rfl⟩ := ext_of_below hbq; clear hbq)
      go_roundw
      case rel =>
        refine ⟨k + 1, by omega, by go_num, congrArg (Value.int .i64) (by omega), ?_, ?_⟩
        · exact only_trans (only_setCell hb.out ⟨g, k, none⟩ rfl _) (only_of_below (below_ext _ _) _)
        · exact ((hfk).step f0.out).mono (below_ext _ _)
      case measure => simp [intOf]; omega
    · obtain rfl : k = l.length := by omega
      have HF := Lib.hid (hfk.all (by omega))
      clear hfk
      go_wp2_with fail
      go_ret
      exact ⟨rfl, HF.out, hb⟩

set_option maxHeartbeats 400000 in
theorem heldStringS_c (v : Value) (n : Nat) (k0 : Int) (w : World) (h : Sl w StrE.enc 1 v (StrE.marks k0 n)) (hl : n ≤ 10000000) (h0 : 0 < k0) (h1 : k0 ≤ 100000000000000000) : Calls Tryd.prog 47 #[v, .int .i64 k0] w fun e w' =>
    e = .returned (.int .i64 (k0 + (n : Int))) ∧ Below w.heap.size w w' := by
  obtain ⟨a, cap, b, off, rfl, hlc, hm, hc⟩ := h
  unfold maxLen at hm
  rw [StrE.marks_len] at hlc ⊢
  go_enter Tryd.func47, Tryd.ntmps47
  go_wp2_with fail
  go_loopw [1, 5] (fun m i wr => ∃ k : Nat, k ≤ n ∧ i = .int .i64 k ∧ m = .int .i64 (k0 + (k : Int)) ∧ Below w.heap.size w wr) (fun _ i _ => n - (intOf i).toNat)
  case atStart => exact ⟨0, Nat.zero_le _, rfl, by simp, Below.refl _ _⟩
  case round =>
    obtain ⟨k, hk, rfl, rfl, hb⟩ := hrel
    by_cases hlt : k < n
    · have hM := StrE.marks_at k0 hlt
      obtain ⟨rfl, hbw, c0⟩ := StrE.at (hc.mono hb) k (by rw [StrE.marks_len]; exact hlt)
      rw [hM] at c0
      clear hM hc
      go_wp2_with fail
      refine wp_region_ext (by kernel_rfl) (by kernel_rfl) ?_
      repeat (any_goals (first | go_big_quiet_step ((go_at_call 56; exact Calls.ext_of (markText_c _ _ (by omega) (by omega))))))
      (refine wpQuiet_nil ?_)
      (rintro _ ⟨q, rfl⟩)
      go_wp2_with fail
      go_roundw
      case rel => exact ⟨k + 1, by omega, by go_num, congrArg (Value.int .i64) (by omega), bext hb hb.size _⟩
      case measure => simp [intOf]; omega
    · obtain rfl : k = n := by omega
      go_wp2_with fail
      go_ret
      exact ⟨rfl, hb⟩

def Crd.hv (x : Crd) : Value := .slice x.a x.sub.length x.cap
abbrev Crd.OwnN (w : World) (lo hi : Nat) (v : Value) (l : List Crd) : Prop := NOwn w lo hi 24 Crd.enc 3 9 StrE.enc Crd.hv Crd.sub v l
theorem Crd.OwnS.nown {w : World} {lo : Nat} {v : Value} {l : List Crd} (h : Crd.OwnS w lo v l) : Crd.OwnN w lo w.heap.size v l := by
  obtain ⟨h1, g, h2, h3, h4, h5, h6⟩ := h
  refine ⟨h1, fun b hb => (h1.bounds b hb).2, fun i hi => ⟨(h5 i hi).lower (by omega), fun b hb => ⟨((h5 i hi).bounds b hb).2, fun e => ?_⟩⟩, fun i j b hij hj hb hb' => ?_⟩
  · have e1 := h4 b e
    have e2 := ((h5 i hi).bounds b hb).1
    omega
  · have := h6 i j b b hij hj hb hb'
    omega
theorem Crd.OwnN.deep {w : World} {lo hi : Nat} {v : Value} {l : List Crd} (h : Crd.OwnN w lo hi v l) : Crd.Deep w l := fun i hi => (h.inn i hi).sl StrE.len
theorem Crd.lns {l l' : List Crd} (h : l'.map Crd.bare = l.map Crd.bare) (hl : ∀ i, i < l.length → (gd l i).sub.length ≤ 1048576) : ∀ i, i < l'.length → (gd l' i).sub.length ≤ 1048577 := fun i hi => by
  have e : l'.length = l.length := by simpa using congrArg List.length h
  have h1 := Crd.sub_eq (map_same_at h i (by omega)).2
  have h2 := hl i (by omega)
  have h3 : (gd l' i).sub = (gd l i).sub := h1.2.2
  rw [h3]; omega
theorem Crd.lnB {l B : List Crd} (h : l.map Crd.bare = B) (hB : B.length ≤ 1048577 ∧ ∀ i, i < B.length → (gd B i).sub.length ≤ 1048577) : l.length ≤ 1048577 ∧ ∀ i, i < l.length → (gd l i).sub.length ≤ 1048577 := by
  subst h
  rw [List.length_map] at hB
  refine ⟨hB.1, fun i hi => ?_⟩
  have := hB.2 i hi
  have e : gd (l.map Crd.bare) i = (gd l i).bare := by simp [gd, hi]
  rw [e] at this
  exact this
theorem Crd.lnq {l l' : List Crd} (h : l'.map Crd.bare = l.map Crd.bare) {n : Nat} (hl : l.length ≤ n) : l'.length ≤ n := by
  have e : l'.length = l.length := by simpa using congrArg List.length h
  omega

def Ent.hv (x : Ent) : Value := .slice x.a x.sub.length x.cap
abbrev Ent.OwnN (w : World) (lo hi : Nat) (v : Value) (l : List Ent) : Prop := NOwn w lo hi 51 Ent.enc 6 3 IntE.enc Ent.hv Ent.sub v l
theorem Ent.OwnS.nown {w : World} {lo : Nat} {v : Value} {l : List Ent} (h : Ent.OwnS w lo v l) : Ent.OwnN w lo w.heap.size v l := by
  obtain ⟨h1, g, h2, h3, h4, h5, h6⟩ := h
  refine ⟨h1, fun b hb => (h1.bounds b hb).2, fun i hi => ⟨(h5 i hi).lower (by omega), fun b hb => ⟨((h5 i hi).bounds b hb).2, fun e => ?_⟩⟩, fun i j b hij hj hb hb' => ?_⟩
  · have e1 := h4 b e
    have e2 := ((h5 i hi).bounds b hb).1
    omega
  · have := h6 i j b b hij hj hb hb'
    omega
theorem Ent.OwnN.deep {w : World} {lo hi : Nat} {v : Value} {l : List Ent} (h : Ent.OwnN w lo hi v l) : Ent.Deep w l := fun i hi => (h.inn i hi).sl IntE.len
theorem Ent.lns {l l' : List Ent} (h : l'.map Ent.bare = l.map Ent.bare) (hl : ∀ i, i < l.length → (gd l i).sub.length ≤ 1048576) : ∀ i, i < l'.length → (gd l' i).sub.length ≤ 1048577 := fun i hi => by
  have e : l'.length = l.length := by simpa using congrArg List.length h
  have h1 := Ent.sub_eq (map_same_at h i (by omega)).2
  have h2 := hl i (by omega)
  have h3 : (gd l' i).sub = (gd l i).sub := h1.2.2.2.2.2
  rw [h3]; omega
theorem Ent.lnB {l B : List Ent} (h : l.map Ent.bare = B) (hB : B.length ≤ 1048577 ∧ ∀ i, i < B.length → (gd B i).sub.length ≤ 1048577) : l.length ≤ 1048577 ∧ ∀ i, i < l.length → (gd l i).sub.length ≤ 1048577 := by
  subst h
  rw [List.length_map] at hB
  refine ⟨hB.1, fun i hi => ?_⟩
  have := hB.2 i hi
  have e : gd (l.map Ent.bare) i = (gd l i).bare := by simp [gd, hi]
  rw [e] at this
  exact this
theorem Ent.lnq {l l' : List Ent} (h : l'.map Ent.bare = l.map Ent.bare) {n : Nat} (hl : l.length ≤ n) : l'.length ≤ n := by
  have e : l'.length = l.length := by simpa using congrArg List.length h
  omega

end Go.Proofs.YteainpflmofjaaaDoor
