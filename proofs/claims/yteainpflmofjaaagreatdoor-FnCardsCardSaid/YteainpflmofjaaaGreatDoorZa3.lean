/- What the composite laws ask of results: are two the same, is one among them. No condition but sizes. What the laws of cards ask of results: are two the same, is a text among some. No condition but sizes. A text cut at blanks, by the reference. No condition but sizes. Numbers read, by the reference. No condition but sizes. -/
import Derived.Test.YteainpflmofjaaaGreatDoorMark
import Derived.Test.YteainpflmofjaaaGreatDoorRi
import Derived.Test.YteainpflmofjaaaGreatDoorCo24
import Derived.Test.YteainpflmofjaaaGreatDoorZa2
import Derived.Test.YteainpflmofjaaaGreatDoorPn
import Derived.Test.YteainpflmofjaaaGreatDoorCk
import Derived.Test.YteainpflmofjaaaGreatDoorBnd
import Derived.Outline
import Derived.Deep.Cut
namespace Go.Proofs.YteainpflmofjaaaGreatDoor
open Go.RowKit
set_option maxHeartbeats 1000000 in
theorem rHas_c (v : Value) (l : List Int) (n : Int) (w : World) (h : Sl w IntE.enc 1 v l) : Calls Tryz.prog 10 #[v, .int .i64 n] w fun e w' => e = .returned (.bool (hasI l n)) ∧ w = w' := by
  obtain ⟨a, cap, b, off, rfl, hlc, hm, hc⟩ := h
  unfold maxLen at hm
  go_enter Tryz.func10, Tryz.ntmps10
  go_wp2_with fail
  go_loop [5] (fun i => ∃ k : Nat, k ≤ l.length ∧ i = .int .i64 k ∧ Hid (∀ j, j < k → (gd l j == n) = false)) (fun i => l.length - (intOf i).toNat)
  case atStart => exact ⟨0, Nat.zero_le _, rfl, fun j hj => by omega⟩
  case round =>
    obtain ⟨k, hk, rfl, hall⟩ := hrel
    by_cases hlt : k < l.length
    · obtain ⟨rfl, hbw, c0⟩ := IntE.at hc k hlt
      cases he : (gd l k == n)
      · have hall2 : Hid (∀ j, j < k + 1 → (gd l j == n) = false) := Lib.hid (upto_succ hall.out he)
        generalize gd l k = y at c0 he
        go_wp2_with fail
        go_round
        case rel => exact ⟨k + 1, by omega, by go_num, hall2.out⟩
        case measure => simp [intOf]; omega
      · have hF := Lib.hid (show hasI l n = true by rw [hasI, findTo_some (f := fun i => gd l i == n) hall.out he hlt]; rfl)
        have he2 : gd l k = n := by simpa using he
        rw [he2] at c0
        clear he he2
        go_wp2_with fail
        go_ret
        exact ⟨ret_bool hF.out.symm, rfl⟩
    · obtain rfl : k = l.length := by omega
      have hF := Lib.hid (show hasI l n = false by rw [hasI, findTo_none (f := fun i => gd l i == n) hall.out]; rfl)
      go_wp2_with fail
      go_ret
      exact ⟨ret_bool hF.out.symm, rfl⟩
set_option maxHeartbeats 1000000 in
theorem rInts_c (v v' : Value) (l : List Int) (w : World) (h : Sl w IntE.enc 1 v l) (h' : Sl w IntE.enc 1 v' l) : Calls Tryz.prog 8 #[v, v'] w fun e w' => e = .returned (.bool true) ∧ Below w.heap.size w w' := by
  obtain ⟨a, cap, b, off, rfl, hlc, hm, hc⟩ := h
  obtain ⟨a', cap', b', off', rfl, hlc', hm', hc'⟩ := h'
  unfold maxLen at hm hm'
  go_enter Tryz.func8, Tryz.ntmps8
  go_wp2_with fail
  go_loopw [5] (fun i wr => ∃ k : Nat, k ≤ l.length ∧ i = .int .i64 k ∧ Below w.heap.size w wr) (fun i _ => l.length - (intOf i).toNat)
  case atStart => exact ⟨0, Nat.zero_le _, rfl, Below.refl _ _⟩
  case round =>
    obtain ⟨k, hk, rfl, hb⟩ := hrel
    by_cases hlt : k < l.length
    · obtain ⟨rfl, hbw, c0⟩ := IntE.at (hc.mono hb) k hlt
      obtain ⟨rfl, hbw', c0'⟩ := IntE.at (hc'.mono hb) k hlt
      go_wp2_with fail
      refine wp_region_ext (by kernel_rfl) (by kernel_rfl) ?_
      repeat (any_goals (first | go_big_quiet_step (fail)))
      (refine wpQuiet_nil ?_)
      (rintro _ ⟨q, rfl⟩)
      go_wp2_with fail
      go_roundw
      case rel => exact ⟨k + 1, by omega, by go_num, bext hb hb.size _⟩
      case measure => simp [intOf]; omega
    · go_wp2_with fail
      go_ret
      exact ⟨rfl, hb⟩
end Go.Proofs.YteainpflmofjaaaGreatDoor

namespace Go.Proofs.YteainpflmofjaaaGreatDoor
open Go.RowKit
set_option maxHeartbeats 1000000 in
theorem rTexts_c (v v' : Value) (l : List ByteArray) (w : World) (h : Sl w StrE.enc 1 v l) (h' : Sl w StrE.enc 1 v' l) : Calls Tryz.prog 55 #[v, v'] w fun e w' => e = .returned (.bool true) ∧ Below w.heap.size w w' := by
  obtain ⟨a, cap, b, off, rfl, hlc, hm, hc⟩ := h
  obtain ⟨a', cap', b', off', rfl, hlc', hm', hc'⟩ := h'
  unfold maxLen at hm hm'
  go_enter Tryz.func55, Tryz.ntmps55
  go_wp2_with fail
  go_loopw [5] (fun i wr => ∃ k : Nat, k ≤ l.length ∧ i = .int .i64 k ∧ Below w.heap.size w wr) (fun i _ => l.length - (intOf i).toNat)
  case atStart => exact ⟨0, Nat.zero_le _, rfl, Below.refl _ _⟩
  case round =>
    obtain ⟨k, hk, rfl, hb⟩ := hrel
    by_cases hlt : k < l.length
    · obtain ⟨rfl, hbw, c0⟩ := StrE.at (hc.mono hb) k hlt
      obtain ⟨rfl, hbw', c0'⟩ := StrE.at (hc'.mono hb) k hlt
      generalize gd l k = z at c0 c0'
      have hz : (z.toList == z.toList) = true := by simp
      go_wp2_with fail
      refine wp_region_ext (by kernel_rfl) (by kernel_rfl) ?_
      repeat (any_goals (first | go_big_quiet_step (fail)))
      (refine wpQuiet_nil ?_)
      (rintro _ ⟨q, rfl⟩)
      go_wp2_with fail
      go_roundw
      case rel => exact ⟨k + 1, by omega, by go_num, bext hb hb.size _⟩
      case measure => simp [intOf]; omega
    · go_wp2_with fail
      go_ret
      exact ⟨rfl, hb⟩
set_option maxHeartbeats 1000000 in
theorem rHasText_c (v : Value) (l : List ByteArray) (n : ByteArray) (w : World) (h : Sl w StrE.enc 1 v l) : Calls Tryz.prog 9 #[v, .string n] w fun e w' => e = .returned (.bool (hasW l n)) ∧ w = w' := by
  obtain ⟨a, cap, b, off, rfl, hlc, hm, hc⟩ := h
  unfold maxLen at hm
  go_enter Tryz.func9, Tryz.ntmps9
  go_wp2_with fail
  go_loop [5] (fun i => ∃ k : Nat, k ≤ l.length ∧ i = .int .i64 k ∧ Hid (∀ j, j < k → ((gd l j).toList == n.toList) = false)) (fun i => l.length - (intOf i).toNat)
  case atStart => exact ⟨0, Nat.zero_le _, rfl, fun j hj => by omega⟩
  case round =>
    obtain ⟨k, hk, rfl, hall⟩ := hrel
    by_cases hlt : k < l.length
    · obtain ⟨rfl, hbw, c0⟩ := StrE.at hc k hlt
      cases he : ((gd l k).toList == n.toList)
      · have hall2 : Hid (∀ j, j < k + 1 → ((gd l j).toList == n.toList) = false) := Lib.hid (upto_succ hall.out he)
        generalize gd l k = y at c0 he
        go_wp2_with fail
        go_round
        case rel => exact ⟨k + 1, by omega, by go_num, hall2.out⟩
        case measure => simp [intOf]; omega
      · have hF := Lib.hid (show hasW l n = true by rw [hasW, findTo_some (f := fun i => (gd l i).toList == n.toList) hall.out he hlt]; rfl)
        generalize gd l k = y at c0 he
        go_wp2_with fail
        go_ret
        exact ⟨ret_bool hF.out.symm, rfl⟩
    · obtain rfl : k = l.length := by omega
      have hF := Lib.hid (show hasW l n = false by rw [hasW, findTo_none (f := fun i => (gd l i).toList == n.toList) hall.out]; rfl)
      go_wp2_with fail
      go_ret
      exact ⟨ret_bool hF.out.symm, rfl⟩
theorem cd_bare {x y : Crd} (h : x.bare = y.bare) : x.id = y.id ∧ x.yr = y.yr ∧ x.sub = y.sub := by
  unfold Crd.bare at h
  injection h with h1 h2 h3 h4 h5
  exact ⟨h1, h2, h5⟩
set_option maxHeartbeats 2000000 in
theorem rCard_c (x y : Crd) (w : World) (hx : x.In w) (hy : y.In w) (he : x.bare = y.bare) : Calls Tryz.prog 18 #[.agg #[.int .i64 x.id, .int .i64 x.yr, .slice x.a x.sub.length x.cap], .agg #[.int .i64 y.id, .int .i64 y.yr, .slice y.a y.sub.length y.cap]] w fun e w' => e = .returned (.bool true) ∧ Below w.heap.size w w' := by
  obtain ⟨e1, e2, e3⟩ := cd_bare he
  clear he
  obtain ⟨i, r, a, c, s⟩ := x
  obtain ⟨i', r', a', c', s'⟩ := y
  dsimp only at e1 e2 e3
  subst e1 e2 e3
  have HT := Lib.hid (fun W (hB : Below w.heap.size w W) => rTexts_c _ _ s W (hx.mono hB) (hy.mono hB))
  have A := (below_alloc w (.cells #[.int .i64 i, .int .i64 r, .slice a s.length c] 34)).trans ((below_alloc (w.alloc (.cells #[.int .i64 i, .int .i64 r, .slice a s.length c] 34)) (.cells #[.int .i64 i, .int .i64 r, .slice a' s.length c'] 34)).mono (by simp))
  dsimp only at HT
  clear hx hy
  go_enter Tryz.func18, Tryz.ntmps18
  go_wp2_with fail
  refine (HT.out _ A).mono ?_
  rintro e w1 ⟨rfl, b1⟩
  go_wp2_with fail
  go_ret
  exact ⟨rfl, btrans A b1⟩
end Go.Proofs.YteainpflmofjaaaGreatDoor

namespace Go.Proofs.YteainpflmofjaaaGreatDoor
open Go.RowKit
theorem spl_snoc (c b : UInt8) (hb : b ≠ c) : ∀ (A : List UInt8) (P : List (List UInt8)) (cur : List UInt8), spl c A = P ++ [cur] → spl c (A ++ [b]) = P ++ [cur ++ [b]]
  | [], P, cur, h => by
    have h1 : P = [] ∧ cur = [] := by
      cases P with
      | nil => simp [spl] at h; exact ⟨rfl, h⟩
      | cons x P => simp [spl] at h
    obtain ⟨rfl, rfl⟩ := h1
    simp [spl, hb]
  | a :: A, P, cur, h => by
    by_cases ha : a = c
    · subst ha
      rw [spl, if_pos rfl] at h
      cases P with
      | nil => simp [spl_ne] at h
      | cons x P =>
        simp only [List.cons_append, List.cons.injEq] at h
        rw [List.cons_append, spl, if_pos rfl, spl_snoc a b hb A P cur h.2, ← h.1]
        rfl
    · rw [spl, if_neg ha] at h
      rw [List.cons_append, spl, if_neg ha]
      cases hA : spl c A with
      | nil => exact absurd hA (spl_ne c A)
      | cons y t =>
        rw [hA] at h
        dsimp only at h
        cases P with
        | nil =>
          simp only [List.nil_append, List.cons.injEq] at h
          obtain ⟨rfl, rfl⟩ := h
          rw [spl_snoc c b hb A [] y hA]
          rfl
        | cons x P =>
          simp only [List.cons_append, List.cons.injEq] at h
          obtain ⟨rfl, rfl⟩ := h
          rw [spl_snoc c b hb A (y :: P) cur hA]
          rfl
theorem ext_list (s : ByteArray) (a b : Nat) : (s.extract a b).data.toList = (s.data.toList.take b).drop a := by
  rw [Lib.extract_data, List.drop_take]
/-- the parts so far, and what is being read -/
def SpI (s : ByteArray) (i f : Nat) (ps : List ByteArray) : Prop := f ≤ i ∧ spl 32 (s.data.toList.take i) = ps.map (·.data.toList) ++ [(s.data.toList.take i).drop f]
theorem SpI.start (s : ByteArray) : SpI s 0 0 [] := ⟨Nat.le_refl _, by simp [spl]⟩
theorem SpI.cut {s : ByteArray} {i f : Nat} {ps : List ByteArray} (h : SpI s i f ps) (hi : i < s.size) (hb : gd (byteL s) i = 32) : SpI s (i + 1) (i + 1) (ps ++ [s.extract f i]) := by
  have hi' : i < s.data.toList.length := by rw [ba_len]; exact hi
  have e : s.data.toList.take (i + 1) = s.data.toList.take i ++ 32 :: [] := by
    rw [List.take_succ_eq_append_getElem hi']
    congr 2
    rw [gd_get (by rw [byteL_len]; exact hi)] at hb
    simp only [byteL, List.getElem_map] at hb
    apply UInt8.toNat_inj.1
    have : ((32 : UInt8).toNat : Int) = 32 := rfl
    omega
  refine ⟨Nat.le_refl _, ?_⟩
  rw [e, spl_push 32 [] (by simp), h.2]
  have hl : (s.data.toList.take i).length = i := by simp; omega
  rw [List.map_append, ← e]
  simp [List.drop_take]
theorem SpI.step {s : ByteArray} {i f : Nat} {ps : List ByteArray} (h : SpI s i f ps) (hi : i < s.size) (hb : gd (byteL s) i ≠ 32) : SpI s (i + 1) f ps := by
  have hi' : i < s.data.toList.length := by rw [ba_len]; exact hi
  have hne : s.data.toList[i] ≠ 32 := fun e => hb (by
    rw [gd_get (by rw [byteL_len]; exact hi)]
    simp only [byteL, List.getElem_map, e]
    rfl)
  have e : s.data.toList.take (i + 1) = s.data.toList.take i ++ [s.data.toList[i]] := List.take_succ_eq_append_getElem hi'
  refine ⟨Nat.le_succ_of_le h.1, ?_⟩
  rw [e, spl_snoc 32 _ hne _ _ _ h.2]
  have hl : (s.data.toList.take i).length = i := by simp; omega
  rw [List.drop_append_of_le_length (by rw [hl]; exact h.1)]
theorem SpI.done {s : ByteArray} {f : Nat} {ps : List ByteArray} (h : SpI s s.size f ps) : (ps ++ [s.extract f s.size]).map (·.data.toList) = spl 32 s.data.toList := by
  have e : s.data.toList.take s.size = s.data.toList := List.take_of_length_le (by rw [ba_len]; omega)
  have := h.2
  rw [e] at this
  rw [this, List.map_append]
  simp
  rw [List.take_of_length_le (by rw [List.length_drop, ba_len]; omega)]
/-- a call that hands back the parts of s -/
def RetParts (w : World) (s : ByteArray) (e : Ending) (w' : World) : Prop := ∃ (v : Value) (ps : List ByteArray), e = .returned v ∧ Own w' w.heap.size 9 StrE.enc 1 v ps ∧ ps.map (·.data.toList) = spl 32 s.data.toList ∧ ps.length ≤ s.size + 1 ∧ Below w.heap.size w w'
set_option maxHeartbeats 4000000 in
set_option maxRecDepth 100000 in
theorem l1Split_c (s : ByteArray) (w : World) (hs : s.size ≤ 1048576) : Calls Tryz.prog 58 #[.string s, .int .u8 32] w (RetParts w s) := by
  obtain ⟨i', hi', hy0, hy1, hy2⟩ := info_parts (show (Tryz.prog.info? 9).map (fun i => (i.zero, i.size, i.bytes)) = some (some (.string ByteArray.empty), 1, 16) by kernel_rfl)
  have O0 : Own (w.alloc (.cells #[] 9)) w.heap.size 9 StrE.enc 1 (.slice (some ⟨w.heap.size, 0, none⟩) 0 0) [] := Own.emptyAt rfl (Nat.le_refl _)
  go_enter Tryz.func58, Tryz.ntmps58
  go_wp2_with fail
  go_loopw [5, 6, 7] (fun o vf vi wr => ∃ (i f : Nat) (ps : List ByteArray), i ≤ s.size ∧ f ≤ i ∧ ps.length ≤ i ∧ vi = .int .i64 (i : Int) ∧ vf = .int .i64 (f : Int) ∧ Hid (SpI s i f ps) ∧ Hid (Own wr w.heap.size 9 StrE.enc 1 o ps) ∧ Below w.heap.size w wr) (fun _ _ vi _ => s.size - (intOf vi).toNat)
  case atStart => exact ⟨0, 0, [], Nat.zero_le _, Nat.le_refl _, Nat.zero_le _, rfl, rfl, SpI.start s, O0, below_alloc _ _⟩
  case round =>
    obtain ⟨i, f, ps, hi, hfi, hpl, rfl, rfl, hI, hO, hb⟩ := hrel
    have hz := hb.size
    by_cases hlt : i < s.size
    · have hby := byteL_at s i hlt
      have hR := byteL_range s i hlt
      by_cases hq : gd (byteL s) i = 32
      · have hC := Lib.hid (hI.out.cut hlt hq)
        have hq2 : ((gd (byteL s) i) == 32) = true := by simpa using hq
        clear hI
        go_wp2_with (at_builtin; refine wpList_pushAt StrE.len StrE.one rfl (.tmp 20) (.tmp 25) 25 rfl w.heap.size 9 i' _ 16 Tryz.underlying25 hi' hy0 hy1 hy2 rfl (by omega) _ ps rfl (hO.out.mono (below_alloc _ _)) _ 1 (s.extract f i) rfl (cells1 (by simp)) (by unfold maxLen; omega) (by omega) (by simp; omega) ?_)
        intro v' w5 ho5 hg5 hat5
        have hb5 := below_push (lo := w.heap.size) (hb.trans ((below_alloc _ _).mono hz)) (hO.out.mono (below_alloc _ _)) hg5 (Nat.le_refl _) (by simp; omega)
        replace ho5 := Lib.hid ho5
        clear hg5 hat5 hO
        go_wp2_with fail
        go_roundw
        case rel => exact ⟨i + 1, i + 1, _, by omega, by omega, by simp; omega, by go_num, by go_num, hC.out, ho5.out, hb5⟩
        case measure => simp [intOf]; omega
      · have hC := Lib.hid (hI.out.step hlt hq)
        have hq2 : ((gd (byteL s) i) == 32) = false := by simpa using hq
        clear hI
        go_wp2_with fail
        go_roundw
        case rel => exact ⟨i + 1, f, ps, by omega, by omega, by omega, by go_num, rfl, hC.out, hO.out, hb⟩
        case measure => simp [intOf]; omega
    · obtain rfl : i = s.size := by omega
      have hD := Lib.hid hI.out.done
      clear hI
      go_wp2_with (at_builtin; refine wpList_pushAt StrE.len StrE.one rfl (.tmp 29) (.tmp 33) 25 rfl w.heap.size 9 i' _ 16 Tryz.underlying25 hi' hy0 hy1 hy2 rfl (by omega) _ ps rfl (hO.out.mono (below_alloc _ _)) _ 1 (s.extract f s.size) rfl (cells1 (by simp)) (by unfold maxLen; omega) (by omega) (by simp; omega) ?_)
      intro v' w5 ho5 hg5 hat5
      have hb5 := below_push (lo := w.heap.size) (hb.trans ((below_alloc _ _).mono hz)) (hO.out.mono (below_alloc _ _)) hg5 (Nat.le_refl _) (by simp; omega)
      replace ho5 := Lib.hid ho5
      clear hg5 hat5 hO
      go_wp2_with fail
      go_ret
      exact ⟨_, _, rfl, ho5.out, hD.out, by simp; omega, hb5⟩
end Go.Proofs.YteainpflmofjaaaGreatDoor

namespace Go.Proofs.YteainpflmofjaaaGreatDoor
open Go.RowKit
theorem dig_val (b : UInt8) (h : 48 ≤ b.toNat ∧ b.toNat ≤ 57) : Lib.digitVal b = some (b.toNat - 48) := by
  unfold Lib.digitVal
  rw [if_pos h]
/-- what the reading of a number answers -/
def RetNum (w : World) (s : ByteArray) (e : Ending) (w' : World) : Prop := ∃ (n : Int) (b : Bool), e = .returned (.tuple #[.int .i64 n, .bool b]) ∧ NumP s n ∧ Below w.heap.size w w'
theorem numP_no {s : ByteArray} {n : Int} (h : ∀ k : Nat, k ≤ 999999 → s.data.toList ≠ Lib.decDigits k) : NumP s n := fun k hk e => absurd e (h k hk)
theorem dec_len6 (k : Nat) (hk : k ≤ 999999) : 1 ≤ (Lib.decDigits k).length ∧ (Lib.decDigits k).length ≤ 6 := by
  refine ⟨?_, dec_len k 5 (by omega)⟩
  cases h : Lib.decDigits k with
  | nil => exact absurd h (decDigits_ne k)
  | cons a l => simp
theorem byteL_dig {s : ByteArray} {i : Nat} (hi : i < s.size) {k : Nat} (e : s.data.toList = Lib.decDigits k) : 48 ≤ gd (byteL s) i ∧ gd (byteL s) i ≤ 57 := by
  have hi' : i < s.data.toList.length := by rw [ba_len]; exact hi
  have := decDigits_all k s.data.toList[i] (by rw [← e]; exact List.getElem_mem hi')
  rw [gd_get (by rw [byteL_len]; exact hi)]
  simp only [byteL, List.getElem_map]
  omega
set_option maxHeartbeats 2000000 in
theorem l1NumZ_c (n : Int) (w : World) (h0 : -999999 ≤ n) (h1 : n ≤ 999999) : Calls Tryz.prog 80 #[.int .i64 n] w fun e w' => ∃ t : ByteArray, e = .returned (.string t) ∧ (0 ≤ n → t = numT n) ∧ Below w.heap.size w w' := by
  by_cases hn : 0 ≤ n
  · exact (l1Num_c n w hn (by omega)).mono fun e w' ⟨h2, h3⟩ => ⟨_, h2, fun _ => rfl, h3⟩
  · have HN := Lib.hid (fun W => l1Num_c (-n) W (by omega) (by omega))
    have hz : (numT (-n)).size ≤ 18 := numF_size 17 _
    have hz2 : 1 + (numT (-n)).size ≤ 9223372036854775807 := by omega
    have hwn : IntKind.i64.wrap (-n) = -n := by rw [IntKind.wrap_i64]; omega
    have hlt : n < 0 := by omega
    generalize numT (-n) = N at HN hz hz2
    go_enter Tryz.func80, Tryz.ntmps80
    go_wp2_with fail
    refine (HN.out _).mono ?_
    rintro e w1 ⟨rfl, b1⟩
    go_wp2_with fail
    go_ret
    exact ⟨_, rfl, fun h => absurd h (by omega), b1⟩
set_option maxHeartbeats 8000000 in
set_option maxRecDepth 100000 in
theorem l1Read_c (s : ByteArray) (w : World) (hs : s.size ≤ 1048576) : Calls Tryz.prog 60 #[.string s] w (RetNum w s) := by
  go_enter Tryz.func60, Tryz.ntmps60
  go_upto_region 2 with fail
  go_cut [15] from 8 (fun t W => ∃ b : Bool, t = .bool b ∧ w = W ∧ (b = true → 1 < s.size ∧ gd (byteL s) 0 = 45))
  case first =>
    by_cases h1 : 1 < s.size
    · have hby := byteL_at s 0 (by omega)
      have hR := byteL_range s 0 (by omega)
      have hi1 : (1 : Int) < (s.size : Int) := by omega
      have hi0 : 0 < s.size := by omega
      by_cases hq : gd (byteL s) 0 = 45
      · have hq2 : (gd (byteL s) 0 == 45) = true := by simpa using hq
        replace hq := Lib.hid hq
        go_wp2_with fail
        go_meet
        case rel => exact ⟨true, rfl, rfl, fun _ => ⟨h1, hq.out⟩⟩
      · have hq2 : (gd (byteL s) 0 == 45) = false := by simpa using hq
        clear hq
        go_wp2_with fail
        go_meet
        case rel => exact ⟨false, rfl, rfl, fun h => by cases h⟩
    · have hi1 : ¬ (1 : Int) < (s.size : Int) := by omega
      go_wp2_with fail
      go_meet
      case rel => exact ⟨false, rfl, rfl, fun h => by cases h⟩
  obtain ⟨b, rfl, rfl, hb⟩ := hcut
  go_upto_if 15 with fail
  go_cut [4] from 8 (fun t W => ∃ T : ByteArray, t = .string T ∧ w = W ∧ T.size ≤ s.size ∧ Hid (T = s ∨ (T.size < s.size ∧ ∀ k : Nat, k ≤ 999999 → s.data.toList ≠ Lib.decDigits k)))
  case first =>
    cases b
    · go_wp2_with fail
      go_meet
      case rel => exact ⟨s, rfl, rfl, Nat.le_refl _, Lib.hid (.inl rfl)⟩
    · obtain ⟨h1, hq⟩ := hb rfl
      have hno := Lib.hid (show ∀ k : Nat, k ≤ 999999 → s.data.toList ≠ Lib.decDigits k from fun k _ e => by
        have := byteL_dig (s := s) (i := 0) (by omega) e
        omega)
      have hi1 : (1 : Int) ≤ (s.size : Int) := by omega
      clear hq hb
      have hTs : (s.extract 1 s.size).size ≤ s.size ∧ (s.extract 1 s.size).size < s.size := by simp; omega
      replace hTs := Lib.hid hTs
      go_wp2_with fail
      go_meet
      case rel => exact ⟨s.extract 1 s.size, rfl, rfl, hTs.out.1, Lib.hid (.inr ⟨hTs.out.2, hno.out⟩)⟩
  clear hb
  obtain ⟨T, rfl, rfl, hTs, hT⟩ := hcut
  by_cases hlen : inB (T.size : Int) 1 6 = false
  · have hno := Lib.hid (fun (k : Nat) (hk : k ≤ 999999) (e : s.data.toList = Lib.decDigits k) => by
      rcases hT.out with rfl | ⟨h1, h2⟩
      · have h3 := dec_len6 k hk
        rw [← e, ba_len] at h3
        have h4 : inB (T.size : Int) 1 6 = true := inB_iff.2 (by omega)
        rw [hlen] at h4; cases h4
      · exact h2 k hk e)
    have HI := l1In_c (T.size : Int) 1 6 w
    rw [hlen] at HI
    replace HI := Lib.hid HI
    clear hlen
    go_wp2_with (go_at_call 59; refine (HI.out).mono ?_; rintro e w' ⟨rfl, rfl⟩)
    go_ret2
    exact ⟨0, false, rfl, numP_no hno.out, Below.refl _ _⟩
  have hlen' : inB (T.size : Int) 1 6 = true := by simpa using hlen
  have HI := l1In_c (T.size : Int) 1 6 w
  rw [hlen'] at HI
  replace HI := Lib.hid HI
  have hT6 := inB_iff.1 hlen'
  clear hlen hlen'
  go_wp2_with (go_at_call 59; refine (HI.out).mono ?_; rintro e w' ⟨rfl, rfl⟩)
  go_loop [5, 6] (fun vn vi => ∃ (i n : Nat), i ≤ T.size ∧ vn = .int .i64 (n : Int) ∧ vi = .int .i64 (i : Int) ∧ Hid (Lib.decFrom 0 (T.data.toList.take i) = some n) ∧ Hid (n < 10 ^ i)) (fun _ vi => T.size - (intOf vi).toNat)
  case atStart => exact ⟨0, 0, Nat.zero_le _, rfl, rfl, Lib.hid (by simp [Lib.decFrom]), Lib.hid (by simp)⟩
  case round =>
    obtain ⟨i, n, hi, rfl, rfl, hD, hN⟩ := hrel
    by_cases hlt : i < T.size
    · have hby := byteL_at T i hlt
      have hR := byteL_range T i hlt
      have hn5 : n ≤ 99999 := by
        have h1 := hN.out
        have h2 : 10 ^ i ≤ 10 ^ 5 := Nat.pow_le_pow_right (by omega) (by omega)
        omega
      by_cases hdig : 48 ≤ gd (byteL T) i ∧ gd (byteL T) i ≤ 57
      · obtain ⟨g1, g2⟩ := hdig
        have hi' : i < T.data.toList.length := by rw [ba_len]; exact hlt
        have hbv : gd (byteL T) i = (T.data.toList[i].toNat : Int) := by
          rw [gd_get (by rw [byteL_len]; exact hlt)]
          simp only [byteL, List.getElem_map]
        have hD2 := Lib.hid (Lib.decFrom_take T.data.toList i 0 n T.data.toList[i] _ hD.out (List.getElem?_eq_getElem hi') (dig_val _ (by omega)))
        have hq := Lib.hid (show ((n * 10 + (T.data.toList[i].toNat - 48) : Nat) : Int) = 10 * (n : Int) + (gd (byteL T) i - 48) by omega)
        have hN2 := Lib.hid (show n * 10 + (T.data.toList[i].toNat - 48) < 10 ^ (i + 1) by
          have := hN.out
          rw [Nat.pow_succ]; omega)
        have hw8 : IntKind.u8.wrap (gd (byteL T) i - 48) = gd (byteL T) i - 48 := by first | (simp [IntKind.wrap, IntKind.signed, IntKind.bits]; done) | (simp [IntKind.wrap, IntKind.signed, IntKind.bits]; omega)
        clear hbv hD hN
        go_wp2_with fail
        go_round
        case rel => exact ⟨i + 1, _, by omega, by rw [hq.out], by go_num, hD2, hN2⟩
        case measure => simp [intOf]; omega
      · have hno := Lib.hid (show ∀ k : Nat, k ≤ 999999 → s.data.toList ≠ Lib.decDigits k from fun k hk e => by
          rcases hT.out with h | ⟨h1, h2⟩
          · subst h
            exact hdig (byteL_dig hlt e)
          · exact h2 k hk e)
        clear hD hN hT
        by_cases hlo : gd (byteL T) i < 48
        · clear hdig
          go_wp2_with fail
          go_ret2
          exact ⟨0, false, rfl, numP_no hno.out, Below.refl _ _⟩
        · have hhi : 57 < gd (byteL T) i := by omega
          clear hdig
          go_wp2_with fail
          go_ret2
          exact ⟨0, false, rfl, numP_no hno.out, Below.refl _ _⟩
    · obtain rfl : i = T.size := by omega
      have hD2 : Lib.decFrom 0 T.data.toList = some n := by
        have := hD.out
        rwa [List.take_of_length_le (by rw [ba_len]; omega)] at this
      have hn6 : n ≤ 999999 := by
        have h1 := hN.out
        have h2 : 10 ^ T.size ≤ 10 ^ 6 := Nat.pow_le_pow_right (by omega) (by omega)
        omega
      replace hD2 := Lib.hid hD2
      clear hD hN
      by_cases hneg : T.size < s.size
      · have hno := Lib.hid (show ∀ k : Nat, k ≤ 999999 → s.data.toList ≠ Lib.decDigits k from by
          rcases hT.out with h | ⟨h1, h2⟩
          · subst h; omega
          · exact h2)
        have hwn : IntKind.i64.wrap (-(n : Int)) = -(n : Int) := by rw [IntKind.wrap_i64]; omega
        have HN := Lib.hid (fun W => l1NumZ_c (-(n : Int)) W (by omega) (by omega))
        clear hT hD2
        go_wp2_with fail
        refine (HN.out _).mono ?_
        rintro e w1 ⟨t, rfl, -, b1⟩
        cases hq : (t.toList == s.toList)
        · go_wp2_with fail
          go_ret2
          exact ⟨_, _, rfl, numP_no hno.out, b1⟩
        · go_wp2_with fail
          go_ret2
          exact ⟨_, _, rfl, numP_no hno.out, b1⟩
      · obtain rfl : T = s := by
          rcases hT.out with h | ⟨h1, h2⟩
          · exact h
          · omega
        have HN := Lib.hid (fun W => l1NumZ_c (n : Int) W (by omega) (by omega))
        have hk := Lib.hid (show ∀ k : Nat, k ≤ 999999 → T.data.toList = Lib.decDigits k → n = k from fun k _ e => by
          have h1 := hD2.out
          rw [e, decFrom_dec] at h1
          exact (Option.some.inj h1).symm)
        clear hT hD2
        go_wp2_with fail
        refine (HN.out _).mono ?_
        rintro e w1 ⟨t, rfl, ht, b1⟩
        replace ht := Lib.hid (ht (by omega))
        cases hq : (t.toList == T.toList)
        · have hno := Lib.hid (show ∀ k : Nat, k ≤ 999999 → T.data.toList ≠ Lib.decDigits k from fun k hk6 e => by
            have h1 := hk.out k hk6 e
            subst h1
            have h2 : t = T := by
              rw [ht.out]
              apply ba_ext
              rw [numT_digits (by omega) (by omega), e]
              simp
            rw [h2] at hq
            simp at hq)
          clear ht
          go_wp2_with fail
          go_ret2
          exact ⟨_, _, rfl, numP_no hno.out, b1⟩
        · clear ht
          go_wp2_with fail
          go_ret2
          exact ⟨_, _, rfl, fun k hk6 e => by rw [hk.out k hk6 e], b1⟩
end Go.Proofs.YteainpflmofjaaaGreatDoor
