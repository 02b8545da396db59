/- The text of a chest: by the program. Condition: Go's table of powers of ten reads as it is laid. -/
import Derived.Test.YtkflcpfekaddpaaDoorTb21
import Derived.Deep.Cut
import Derived.Deep.RegionWith
namespace Go.Proofs.YtkflcpfekaddpaaDoor
open Go.RowKit
set_option maxHeartbeats 8000000 in
set_option maxRecDepth 100000 in
theorem chestText_c (c : Cst) (v : Value) (l : List Int) (w : World) (h : Sl w IntE.enc 1 v l) (ht : Tab w) : Calls Tryd.prog 35 #[cval c v] w fun e w' => e = .returned (.tuple #[.string (chS c l), .bool (areCh c l)]) ∧ Below w.heap.size w w' := by
  have HI := Lib.hid (fun W (hB : Below w.heap.size w W) => isChest_c c v l W (h.mono hB))
  cases hA : areCh c l
  · have hS : Hid (chS c l = ⟨#[]⟩) := (show chS c l = _ by rw [chS, hA]; rfl)
    rw [hA] at HI
    replace HI := Lib.hid HI.out
    generalize chS c l = T at hS ⊢
    clear hA h ht
    unfold cval at HI ⊢
    go_enter Tryd.func35, Tryd.ntmps35
    go_wp2_with (go_at_call 93; refine (HI.out _ (by repeat' (first | exact Below.refl _ _ | with_reducible assumption | refine bext ?_ ?_ _ | refine Below.alloc ?_ ?_ _ | refine Below.setCell ?_ ?_ _ | refine Below.drew ?_ | (simp; done) | (have hbz := hb.size; first | omega | (simp; omega)) | (simp; omega) | omega))).mono ?_; rintro e w' ⟨rfl, hbq⟩; obtain ⟨p, rfl⟩ := ext_of_below hbq; clear hbq)
    go_ret2
    exact ⟨by rw [hS.out]; rfl, (by repeat' (first | exact Below.refl _ _ | with_reducible assumption | refine bext ?_ ?_ _ | refine Below.alloc ?_ ?_ _ | refine Below.setCell ?_ ?_ _ | refine Below.drew ?_ | (simp; done) | (have hbz := hb.size; first | omega | (simp; omega)) | (simp; omega) | omega))⟩
  · obtain ⟨f1, f2, f3, f4, f7, f10⟩ := areCh_facts hA
    have hS : Hid (chS c l = chT (chH c) l l.length) := (show chS c l = _ by rw [chS, hA]; rfl)
    rw [hA] at HI
    replace HI := Lib.hid HI.out
    have q1 : (numT c.du).size ≤ 18 := numF_size 17 c.du
    have H1 := Lib.hid (fun W (hB : Below w.heap.size w W) => text_c c.du W (by omega) (by omega) (ht.mono hB))
    have H4 := Lib.hid (fun j (hj : j < l.length) W (hB : Below w.heap.size w W) => text_c (gd l j) W (by have := f10 j hj; omega) (by have := f10 j hj; omega) (ht.mono hB))
    have hHz := chH_size c
    have hU := Lib.hid (chT_size (chH c) l hHz)
    have hcs := Lib.hid (fun k => show (chT (chH c) l k ++ ⟨#[32]⟩) ++ numT (gd l k) = chT (chH c) l (k + 1) from rfl)
    have hH : Hid ((stW c.st ++ ⟨#[32, 100, 117, 115, 116, 32]⟩) ++ numT c.du = chT (chH c) l 0) := (show chH c = chT (chH c) l 0 from rfl)
    have hq := Lib.hid (show ∀ k, (numT (gd l k)).size ≤ 18 from fun k => numF_size 17 _)
    generalize chT (chH c) l = cT at hS hU hcs hH
    clear hA f10 hHz ht
    generalize chS c l = T at hS ⊢
    obtain ⟨xa, xcap, b, off, rfl, hlc, hm, hc⟩ := h
    obtain ⟨xst, xkey, xdu, xla, xgi⟩ := c
    unfold maxLen at hm
    unfold cval at HI ⊢
    dsimp only at f1 f2 f3 f4 f7 q1 H1 H4 HI hS hU hcs hH hq ⊢
    generalize numT xdu = N1 at H1 hH q1
    have h012 : xst = 0 ∨ xst = 1 ∨ xst = 2 := by omega
    have BX0 := Lib.hid (BoxAt.new w [.int .i64 xst, .int .i64 xkey, .slice xa l.length xcap, .int .i64 xdu, .int .i64 xla, .int .i64 xgi] 59)
    go_enter Tryd.func35, Tryd.ntmps35
    go_upto_region 3 with (go_at_call 93; refine (HI.out _ (by repeat' (first | exact Below.refl _ _ | with_reducible assumption | refine bext ?_ ?_ _ | refine Below.alloc ?_ ?_ _ | refine Below.setCell ?_ ?_ _ | refine Below.drew ?_ | (simp; done) | (have hbz := hb.size; first | omega | (simp; omega)) | (simp; omega) | omega))).mono ?_; rintro e w' ⟨rfl, hbq⟩; obtain ⟨p, rfl⟩ := ext_of_below hbq; clear hbq)
    go_cut [4] from 7 (fun s W => s = .string (cT 0) ∧ Hid (BoxAt W w.heap.size [.int .i64 xst, .int .i64 xkey, .slice xa l.length xcap, .int .i64 xdu, .int .i64 xla, .int .i64 xgi]) ∧ Below w.heap.size w W)
    case first =>
      rcases h012 with rfl | rfl | rfl
      all_goals
        go_region_with (go_at_call 68; refine (H1.out _ (by repeat' (first | exact Below.refl _ _ | with_reducible assumption | refine bext ?_ ?_ _ | refine Below.alloc ?_ ?_ _ | refine Below.setCell ?_ ?_ _ | refine Below.drew ?_ | (simp; done) | (have hbz := hb.size; first | omega | (simp; omega)) | (simp; omega) | omega))).mono ?_; rintro e w' ⟨rfl, hbq⟩; obtain ⟨p, rfl⟩ := ext_of_below hbq; clear hbq)
        all_goals
          go_wp2_with fail
          go_meet
          case rel => exact ⟨by rw [← hH.out]; rfl, BX0.out.mono (by repeat' (first | exact Below.refl _ _ | with_reducible assumption | refine bext ?_ ?_ _ | refine Below.alloc ?_ ?_ _ | refine Below.setCell ?_ ?_ _ | refine Below.drew ?_ | (simp; done) | (have hbz := hb.size; first | omega | (simp; omega)) | (simp; omega) | omega)), (by repeat' (first | exact Below.refl _ _ | with_reducible assumption | refine bext ?_ ?_ _ | refine Below.alloc ?_ ?_ _ | refine Below.setCell ?_ ?_ _ | refine Below.drew ?_ | (simp; done) | (have hbz := hb.size; first | omega | (simp; omega)) | (simp; omega) | omega))⟩
    case rest =>
      obtain ⟨rfl, hBX, hBW⟩ := hcut
      obtain ⟨hB, y2⟩ : w.heap.size < wc.heap.size ∧ wc.cell? ⟨w.heap.size, 2, none⟩ = some (.slice xa l.length xcap) := ⟨hBX.out.1, hBX.out.2 2 _ rfl⟩
      go_wp2_with fail
      go_loopw [4, 23] (fun s i wr => ∃ k : Nat, k ≤ l.length ∧ i = .int .i64 k ∧ s = .string (cT k) ∧ Hid (BoxAt wr w.heap.size [.int .i64 xst, .int .i64 xkey, .slice xa l.length xcap, .int .i64 xdu, .int .i64 xla, .int .i64 xgi]) ∧ Below w.heap.size w wr) (fun _ i _ => l.length - (intOf i).toNat)
      case atStart => exact ⟨0, Nat.zero_le _, rfl, rfl, hBX.out.mono (by repeat' (first | exact Below.refl _ _ | with_reducible assumption | refine bext ?_ ?_ _ | refine Below.alloc ?_ ?_ _ | refine Below.setCell ?_ ?_ _ | refine Below.drew ?_ | (simp; done) | (have hbz := hb.size; first | omega | (simp; omega)) | (simp; omega) | omega)), (by repeat' (first | exact Below.refl _ _ | with_reducible assumption | refine bext ?_ ?_ _ | refine Below.alloc ?_ ?_ _ | refine Below.setCell ?_ ?_ _ | refine Below.drew ?_ | (simp; done) | (have hbz := hb.size; first | omega | (simp; omega)) | (simp; omega) | omega))⟩
      case round =>
        obtain ⟨k, hk, rfl, rfl, hbx, hb⟩ := hrel
        obtain ⟨hB, y2⟩ : w.heap.size < wr.heap.size ∧ wr.cell? ⟨w.heap.size, 2, none⟩ = some (.slice xa l.length xcap) := ⟨hbx.out.1, hbx.out.2 2 _ rfl⟩
        by_cases hlt : k < l.length
        · obtain ⟨rfl, hbw, d0⟩ := IntE.at (hc.mono hb) k hlt
          have hun := Lib.hid (hcs.out k)
          have HN := Lib.hid (H4.out k hlt)
          have hz := hU.out k
          have hz2 := hq.out k
          generalize gd l k = n at d0 hun HN hz2
          generalize numT n = N at hun HN hz2
          have z1 : (cT k).size + 1 ≤ 9223372036854775807 := by omega
          have z2 : (cT k).size + 1 + N.size ≤ 9223372036854775807 := by omega
          have z3 : 1 + N.size ≤ 9223372036854775807 := by omega
          have z4 : (cT k).size + (1 + N.size) ≤ 9223372036854775807 := by omega
          go_wp2_with (go_at_call 68; refine (HN.out _ (by repeat' (first | exact Below.refl _ _ | with_reducible assumption | refine bext ?_ ?_ _ | refine Below.alloc ?_ ?_ _ | refine Below.setCell ?_ ?_ _ | refine Below.drew ?_ | (simp; done) | (have hbz := hb.size; first | omega | (simp; omega)) | (simp; omega) | omega))).mono ?_; rintro e w' ⟨rfl, hbq⟩; obtain ⟨p, rfl⟩ := ext_of_below hbq; clear hbq)
          go_roundw
          case rel => exact ⟨k + 1, by omega, by go_num, by rw [← hun.out] <;> first | rfl | (simp only [ByteArray.append_assoc]; done), hbx.out.mono (below_ext _ _), bext hb hb.size _⟩
          case measure => simp [intOf]; omega
        · obtain rfl : k = l.length := by omega
          go_wp2_with fail
          go_ret2
          exact ⟨by rw [hS.out]; rfl, hb⟩
end Go.Proofs.YtkflcpfekaddpaaDoor
