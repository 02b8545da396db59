/- A text cut at blanks, by the reference. No condition but sizes. -/
import Derived.Test.YteainpflmofjaaaDoorPr24
import Derived.Test.YteainpflmofjaaaDoorPn
import Derived.Test.YteainpflmofjaaaDoorCk
namespace Go.Proofs.YteainpflmofjaaaDoor
open Go.RowKit
theorem spl_snoc (c b : UInt8) (hb : b ≠ c) : ∀ (A : List UInt8) (P : List (List UInt8)) (cur : List UInt8), spl c A = P ++ [cur] → spl c (A ++ [b]) = P ++ [cur ++ [b]]
  | [], P, cur, h => by
    have h1 : P = [] ∧ cur = [] := by
      cases P with
      | nil => simp [spl] at h; exact ⟨rfl, h⟩
      | cons x P => simp [spl] at h
    obtain ⟨rfl, rfl⟩ := h1
    simp [spl, hb]
  | a :: A, P, cur, h => by
    by_cases ha : a = c
    · subst ha
      rw [spl, if_pos rfl] at h
      cases P with
      | nil => simp [spl_ne] at h
      | cons x P =>
        simp only [List.cons_append, List.cons.injEq] at h
        rw [List.cons_append, spl, if_pos rfl, spl_snoc a b hb A P cur h.2, ← h.1]
        rfl
    · rw [spl, if_neg ha] at h
      rw [List.cons_append, spl, if_neg ha]
      cases hA : spl c A with
      | nil => exact absurd hA (spl_ne c A)
      | cons y t =>
        rw [hA] at h
        dsimp only at h
        cases P with
        | nil =>
          simp only [List.nil_append, List.cons.injEq] at h
          obtain ⟨rfl, rfl⟩ := h
          rw [spl_snoc c b hb A [] y hA]
          rfl
        | cons x P =>
          simp only [List.cons_append, List.cons.injEq] at h
          obtain ⟨rfl, rfl⟩ := h
          rw [spl_snoc c b hb A (y :: P) cur hA]
          rfl
theorem ext_list (s : ByteArray) (a b : Nat) : (s.extract a b).data.toList = (s.data.toList.take b).drop a := by
  rw [Lib.extract_data, List.drop_take]
/-- the parts so far, and what is being read -/
def SpI (s : ByteArray) (i f : Nat) (ps : List ByteArray) : Prop := f ≤ i ∧ spl 32 (s.data.toList.take i) = ps.map (·.data.toList) ++ [(s.data.toList.take i).drop f]
theorem SpI.start (s : ByteArray) : SpI s 0 0 [] := ⟨Nat.le_refl _, by simp [spl]⟩
theorem SpI.cut {s : ByteArray} {i f : Nat} {ps : List ByteArray} (h : SpI s i f ps) (hi : i < s.size) (hb : gd (byteL s) i = 32) : SpI s (i + 1) (i + 1) (ps ++ [s.extract f i]) := by
  have hi' : i < s.data.toList.length := by rw [ba_len]; exact hi
  have e : s.data.toList.take (i + 1) = s.data.toList.take i ++ 32 :: [] := by
    rw [List.take_succ_eq_append_getElem hi']
    congr 2
    rw [gd_get (by rw [byteL_len]; exact hi)] at hb
    simp only [byteL, List.getElem_map] at hb
    apply UInt8.toNat_inj.1
    have : ((32 : UInt8).toNat : Int) = 32 := rfl
    omega
  refine ⟨Nat.le_refl _, ?_⟩
  rw [e, spl_push 32 [] (by simp), h.2]
  have hl : (s.data.toList.take i).length = i := by simp; omega
  rw [List.map_append, ← e]
  simp [List.drop_take]
theorem SpI.step {s : ByteArray} {i f : Nat} {ps : List ByteArray} (h : SpI s i f ps) (hi : i < s.size) (hb : gd (byteL s) i ≠ 32) : SpI s (i + 1) f ps := by
  have hi' : i < s.data.toList.length := by rw [ba_len]; exact hi
  have hne : s.data.toList[i] ≠ 32 := fun e => hb (by
    rw [gd_get (by rw [byteL_len]; exact hi)]
    simp only [byteL, List.getElem_map, e]
    rfl)
  have e : s.data.toList.take (i + 1) = s.data.toList.take i ++ [s.data.toList[i]] := List.take_succ_eq_append_getElem hi'
  refine ⟨Nat.le_succ_of_le h.1, ?_⟩
  rw [e, spl_snoc 32 _ hne _ _ _ h.2]
  have hl : (s.data.toList.take i).length = i := by simp; omega
  rw [List.drop_append_of_le_length (by rw [hl]; exact h.1)]
theorem SpI.done {s : ByteArray} {f : Nat} {ps : List ByteArray} (h : SpI s s.size f ps) : (ps ++ [s.extract f s.size]).map (·.data.toList) = spl 32 s.data.toList := by
  have e : s.data.toList.take s.size = s.data.toList := List.take_of_length_le (by rw [ba_len]; omega)
  have := h.2
  rw [e] at this
  rw [this, List.map_append]
  simp
  rw [List.take_of_length_le (by rw [List.length_drop, ba_len]; omega)]
/-- a call that hands back the parts of s -/
def RetParts (w : World) (s : ByteArray) (e : Ending) (w' : World) : Prop := ∃ (v : Value) (ps : List ByteArray), e = .returned v ∧ Own w' w.heap.size 9 StrE.enc 1 v ps ∧ ps.map (·.data.toList) = spl 32 s.data.toList ∧ ps.length ≤ s.size + 1 ∧ Below w.heap.size w w'
set_option maxHeartbeats 4000000 in
set_option maxRecDepth 100000 in
theorem l1Split_c (s : ByteArray) (w : World) (hs : s.size ≤ 1048576) : Calls Tryd.prog 35 #[.string s, .int .u8 32] w (RetParts w s) := by
  obtain ⟨i', hi', hy0, hy1, hy2⟩ := info_parts (show (Tryd.prog.info? 9).map (fun i => (i.zero, i.size, i.bytes)) = some (some (.string ByteArray.empty), 1, 16) by kernel_rfl)
  have O0 : Own (w.alloc (.cells #[] 9)) w.heap.size 9 StrE.enc 1 (.slice (some ⟨w.heap.size, 0, none⟩) 0 0) [] := Own.emptyAt rfl (Nat.le_refl _)
  go_enter Tryd.func35, Tryd.ntmps35
  go_wp2_with fail
  go_loopw [5, 6, 7] (fun o vf vi wr => ∃ (i f : Nat) (ps : List ByteArray), i ≤ s.size ∧ f ≤ i ∧ ps.length ≤ i ∧ vi = .int .i64 (i : Int) ∧ vf = .int .i64 (f : Int) ∧ Hid (SpI s i f ps) ∧ Hid (Own wr w.heap.size 9 StrE.enc 1 o ps) ∧ Below w.heap.size w wr) (fun _ _ vi _ => s.size - (intOf vi).toNat)
  case atStart => exact ⟨0, 0, [], Nat.zero_le _, Nat.le_refl _, Nat.zero_le _, rfl, rfl, SpI.start s, O0, below_alloc _ _⟩
  case round =>
    obtain ⟨i, f, ps, hi, hfi, hpl, rfl, rfl, hI, hO, hb⟩ := hrel
    have hz := hb.size
    by_cases hlt : i < s.size
    · have hby := byteL_at s i hlt
      have hR := byteL_range s i hlt
      by_cases hq : gd (byteL s) i = 32
      · have hC := Lib.hid (hI.out.cut hlt hq)
        have hq2 : ((gd (byteL s) i) == 32) = true := by simpa using hq
        clear hI
        go_wp2_with (at_builtin; refine wpList_pushAt StrE.len StrE.one rfl (.tmp 20) (.tmp 25) 22 rfl w.heap.size 9 i' _ 16 Tryd.underlying22 hi' hy0 hy1 hy2 rfl (by omega) _ ps rfl (hO.out.mono (below_alloc _ _)) _ 1 (s.extract f i) rfl (cells1 (by simp)) (by unfold maxLen; omega) (by omega) (by simp; omega) ?_)
        intro v' w5 ho5 hg5 hat5
        have hb5 := below_push (lo := w.heap.size) (hb.trans ((below_alloc _ _).mono hz)) (hO.out.mono (below_alloc _ _)) hg5 (Nat.le_refl _) (by simp; omega)
        replace ho5 := Lib.hid ho5
        clear hg5 hat5 hO
        go_wp2_with fail
        go_roundw
        case rel => exact ⟨i + 1, i + 1, _, by omega, by omega, by simp; omega, by go_num, by go_num, hC.out, ho5.out, hb5⟩
        case measure => simp [intOf]; omega
      · have hC := Lib.hid (hI.out.step hlt hq)
        have hq2 : ((gd (byteL s) i) == 32) = false := by simpa using hq
        clear hI
        go_wp2_with fail
        go_roundw
        case rel => exact ⟨i + 1, f, ps, by omega, by omega, by omega, by go_num, rfl, hC.out, hO.out, hb⟩
        case measure => simp [intOf]; omega
    · obtain rfl : i = s.size := by omega
      have hD := Lib.hid hI.out.done
      clear hI
      go_wp2_with (at_builtin; refine wpList_pushAt StrE.len StrE.one rfl (.tmp 29) (.tmp 33) 22 rfl w.heap.size 9 i' _ 16 Tryd.underlying22 hi' hy0 hy1 hy2 rfl (by omega) _ ps rfl (hO.out.mono (below_alloc _ _)) _ 1 (s.extract f s.size) rfl (cells1 (by simp)) (by unfold maxLen; omega) (by omega) (by simp; omega) ?_)
      intro v' w5 ho5 hg5 hat5
      have hb5 := below_push (lo := w.heap.size) (hb.trans ((below_alloc _ _).mono hz)) (hO.out.mono (below_alloc _ _)) hg5 (Nat.le_refl _) (by simp; omega)
      replace ho5 := Lib.hid ho5
      clear hg5 hat5 hO
      go_wp2_with fail
      go_ret
      exact ⟨_, _, rfl, ho5.out, hD.out, by simp; omega, hb5⟩
end Go.Proofs.YteainpflmofjaaaDoor
