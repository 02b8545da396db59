/- Words: one put into its place among ascending ones, by the reference. No condition but sizes. -/
import Derived.Test.YteainpflmofjaaaGreatDoorCd24
import Derived.Test.YteainpflmofjaaaGreatDoorSd
import Derived.Test.YteainpflmofjaaaGreatDoorCo24
namespace Go.Proofs.YteainpflmofjaaaGreatDoor
open Go.RowKit
def ltS (x y : ByteArray) : Bool := Op.bytesLess x.toList y.toList
/-- a word in its place among ascending ones -/
def putW (w : ByteArray) (l : List ByteArray) : List ByteArray := l.filter (fun x => ltS x w) ++ [w] ++ l.filter (fun x => ltS w x)
theorem fl_yes {p : ByteArray → Bool} {l : List ByteArray} {k : Nat} (hk : k < l.length) (h : p (gd l k) = true) : (l.take (k + 1)).filter p = (l.take k).filter p ++ [gd l k] := by
  rw [take_succ_gd hk, List.filter_append]; simp [h]
theorem fl_no {p : ByteArray → Bool} {l : List ByteArray} {k : Nat} (hk : k < l.length) (h : p (gd l k) = false) : (l.take (k + 1)).filter p = (l.take k).filter p := by
  rw [take_succ_gd hk, List.filter_append]; simp [h]
theorem fl_len (p : ByteArray → Bool) (l : List ByteArray) (k : Nat) : ((l.take k).filter p).length ≤ k := by
  have := List.length_filter_le p (l.take k)
  simp at this ⊢
  omega
set_option maxHeartbeats 4000000 in
set_option maxRecDepth 100000 in
theorem l24Put_c (v : Value) (l : List ByteArray) (s : ByteArray) (w : World) (h : Sl w StrE.enc 1 v l) (hl : l.length ≤ 1048577) : Calls Tryz.prog 87 #[v, .string s] w (RetOwn w 9 StrE.enc 1 (putW s l)) := by
  obtain ⟨a, cap, b, off, rfl, hlc, hm, hc⟩ := h
  obtain ⟨s', hs', hy0, hy1, hy2⟩ := info_parts (show (Tryz.prog.info? 9).map (fun i => (i.zero, i.size, i.bytes)) = some (some (.string ByteArray.empty), 1, 16) by kernel_rfl)
  unfold maxLen at hm
  have hP := Lib.hid (show putW s l = l.filter (fun x => ltS x s) ++ [s] ++ l.filter (fun x => ltS s x) from rfl)
  generalize putW s l = P at hP ⊢
  go_enter Tryz.func87, Tryz.ntmps87
  go_wp2_with fail
  refine wpAt fun W hW => ?_
  have BW : Below w.heap.size w W := by rw [hW]; exact (by repeat' (first | exact Below.refl _ _ | with_reducible assumption | refine bext ?_ ?_ _ | refine Below.alloc ?_ ?_ _ | refine Below.setCell ?_ ?_ _ | refine Below.drew ?_ | (simp; done) | (have hbz := hb.size; first | omega | (simp; omega)) | (simp; omega) | omega))
  have OW : Own W w.heap.size 9 StrE.enc 1 (.slice (some ⟨w.heap.size, 0, none⟩) 0 0) ([] : List ByteArray) := by rw [hW]; exact Own.empty' (by simp) (by simp)
  clear hW
  generalize Value.slice (some ⟨w.heap.size, 0, none⟩) 0 0 = s0 at OW ⊢
  replace OW := Lib.hid OW
  go_loopw [5, 6] (fun o i wr => ∃ k : Nat, k ≤ l.length ∧ i = .int .i64 k ∧ Hid (Own wr w.heap.size 9 StrE.enc 1 o ((l.take k).filter (fun x => ltS x s))) ∧ Below w.heap.size w wr) (fun _ i _ => l.length - (intOf i).toNat)
  case atStart => exact ⟨0, Nat.zero_le _, rfl, OW.out, BW⟩
  case round =>
    obtain ⟨k, hk, rfl, ho, hb⟩ := hrel
    by_cases hlt : k < l.length
    · obtain ⟨rfl, hbw, c0⟩ := StrE.at (hc.mono hb) k hlt
      have hpl := fl_len (fun x => ltS x s) l k
      have hze := hb.size
      cases hq : Op.bytesLess (gd l k).toList s.toList
      · have hun := Lib.hid (fl_no (p := fun x => ltS x s) hlt hq)
        go_wp2_with fail
        go_roundw
        case rel => exact ⟨k + 1, by omega, by go_num, by rw [hun.out]; exact ho.out, hb⟩
        case measure => simp [intOf]; omega
      · have hun := Lib.hid (fl_yes (p := fun x => ltS x s) hlt hq)
        go_wp2_with (at_builtin; refine wpList_push StrE.len StrE.one rfl _ _ 25 rfl w.heap.size 9 s' _ 16 Tryz.underlying25 hs' hy0 hy1 hy2 rfl (by omega) _ _ rfl (ho.out.mono (below_alloc _ _)) _ 1 (gd l k) rfl (fun j u hu => new_cells _ [.string (gd l k)] _ _ (by simp) j u hu) (by unfold maxLen; omega) (by omega) (by simp; omega) ?_)
        intro v' w3 ho3 hg3
        have hb3 := below_push (lo := w.heap.size) (B := w.heap.size) (a := w) (hb.trans ((below_alloc _ _).mono hze)) (ho.out.mono (below_alloc _ _)) hg3 (Nat.le_refl _) (by simp; omega)
        go_wp2_with fail
        go_roundw
        case rel => exact ⟨k + 1, by omega, by go_num, by rw [hun.out]; exact ho3, hb3⟩
        case measure => simp [intOf]; omega
    · obtain rfl : k = l.length := by omega
      have hpl := fl_len (fun x => ltS x s) l l.length
      rw [List.take_length] at ho hpl
      have hze := hb.size
      generalize l.filter (fun x => ltS x s) = F at ho hpl hP
      go_wp2_with (at_builtin; refine wpList_push StrE.len StrE.one rfl _ _ 25 rfl w.heap.size 9 s' _ 16 Tryz.underlying25 hs' hy0 hy1 hy2 rfl (by omega) _ F rfl (ho.out.mono (below_alloc _ _)) _ 1 s rfl (fun j u hu => new_cells _ [.string s] _ _ (by simp) j u hu) (by unfold maxLen; omega) (by omega) (by simp; omega) ?_)
      intro v2 w2 ho2 hg2
      have hb2 := below_push (lo := w.heap.size) (B := w.heap.size) (a := w) (hb.trans ((below_alloc _ _).mono hze)) (ho.out.mono (below_alloc _ _)) hg2 (Nat.le_refl _) (by simp; omega)
      replace ho2 := Lib.hid ho2
      clear ho hg2 hb hze OW BW
      go_wp2_with fail
      go_loopw [5, 7] (fun o i wr => ∃ k : Nat, k ≤ l.length ∧ i = .int .i64 k ∧ Hid (Own wr w.heap.size 9 StrE.enc 1 o (F ++ [s] ++ (l.take k).filter (fun x => ltS s x))) ∧ Below w.heap.size w wr) (fun _ i _ => l.length - (intOf i).toNat)
      case atStart => exact ⟨0, Nat.zero_le _, rfl, Lib.hid (by simpa using ho2.out), hb2⟩
      case round =>
        obtain ⟨k, hk, rfl, ho, hb⟩ := hrel
        by_cases hlt : k < l.length
        · obtain ⟨rfl, hbw, c0⟩ := StrE.at (hc.mono hb) k hlt
          have hpl2 := fl_len (fun x => ltS s x) l k
          have hze := hb.size
          rcases ord3 (gd l k) s with ⟨o1, o2, o3⟩ | ⟨o1, o2, o3⟩ | ⟨o1, o2, o3⟩
          · have hun := Lib.hid (fl_yes (p := fun x => ltS s x) hlt o1)
            generalize (l.take k).filter (fun x => ltS s x) = G at ho hpl2 hun
            have hle : (F ++ [s] ++ G).length ≤ l.length + 1 + k := by simp; omega
            go_wp2_with (at_builtin; refine wpList_push StrE.len StrE.one rfl _ _ 25 rfl w.heap.size 9 s' _ 16 Tryz.underlying25 hs' hy0 hy1 hy2 rfl (by omega) _ (F ++ [s] ++ G) rfl (ho.out.mono (below_alloc _ _)) _ 1 (gd l k) rfl (fun j u hu => new_cells _ [.string (gd l k)] _ _ (by simp) j u hu) (by unfold maxLen; omega) (by omega) (by simp; omega) ?_)
            intro v' w3 ho3 hg3
            have hb3 := below_push (lo := w.heap.size) (B := w.heap.size) (a := w) (hb.trans ((below_alloc _ _).mono hze)) (ho.out.mono (below_alloc _ _)) hg3 (Nat.le_refl _) (by simp; omega)
            replace ho3 := Lib.hid ho3
            go_wp2_with fail
            go_roundw
            case rel => exact ⟨k + 1, by omega, by go_num, by rw [hun.out]; exact Lib.hid (by simpa using ho3.out), hb3⟩
            case measure => simp [intOf]; omega
          · have hun := Lib.hid (fl_no (p := fun x => ltS s x) hlt o1)
            go_wp2_with fail
            go_roundw
            case rel => exact ⟨k + 1, by omega, by go_num, by rw [hun.out]; exact ho.out, hb⟩
            case measure => simp [intOf]; omega
          · have hun := Lib.hid (fl_no (p := fun x => ltS s x) hlt o1)
            go_wp2_with fail
            go_roundw
            case rel => exact ⟨k + 1, by omega, by go_num, by rw [hun.out]; exact ho.out, hb⟩
            case measure => simp [intOf]; omega
        · obtain rfl : k = l.length := by omega
          rw [List.take_length] at ho
          go_wp2_with fail
          go_ret
          exact ⟨_, rfl, by rw [hP.out]; exact ho.out, hb⟩
end Go.Proofs.YteainpflmofjaaaGreatDoor
