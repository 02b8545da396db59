/- Entries: the clashes of two, by the program. Conditions: sizes; Go's table of powers of ten reads as it is laid. -/
import Derived.Test.YteainpflmofjaaaDoorAq25
import Derived.Test.YteainpflmofjaaaDoorItx
namespace Go.Proofs.YteainpflmofjaaaDoor
open Go.RowKit
set_option maxHeartbeats 4000000 in
set_option maxRecDepth 100000 in
theorem clashes_c (x y : Ent) (w : World) (hx0 : 0 ≤ x.yr) (hx1 : x.yr ≤ 2100) (hy0 : 0 ≤ y.yr) (hy1 : y.yr ≤ 2100) (ht : Tab w) : Calls Tryd.prog 53 #[.agg #[.int .i64 x.id, .string x.ti, .string x.pl, .int .i64 x.yr, .int .i64 x.ct, .slice x.a x.sub.length x.cap], .agg #[.int .i64 y.id, .string y.ti, .string y.pl, .int .i64 y.yr, .int .i64 y.ct, .slice y.a y.sub.length y.cap]] w (RetOwn w 81 Cls.enc 3 (clashL x y)) := by
  obtain ⟨i, hi, hz0, hz1, hz2⟩ := info_parts (show (Tryd.prog.info? 81).map (fun i => (i.zero, i.size, i.bytes)) = some (some (.agg #[.int .i64 0, .string ByteArray.empty, .string ByteArray.empty]), 3, 40) by kernel_rfl)
  have CA := clash_app x y
  have HT := Lib.hid (fun W (hb : Below w.heap.size w W) => ht.mono hb)
  have hS : ClI w x y [] (.slice none 0 0) ((w.alloc (.cells #[.int .i64 x.id, .string x.ti, .string x.pl, .int .i64 x.yr, .int .i64 x.ct, .slice x.a x.sub.length x.cap] 51)).alloc (.cells #[.int .i64 y.id, .string y.ti, .string y.pl, .int .i64 y.yr, .int .i64 y.ct, .slice y.a y.sub.length y.cap] 51)) := by
    have h1 : w.heap.size + 1 = (w.alloc (.cells #[.int .i64 x.id, .string x.ti, .string x.pl, .int .i64 x.yr, .int .i64 x.ct, .slice x.a x.sub.length x.cap] 51)).heap.size := by simp
    refine ⟨btrans (below_alloc _ _) (below_alloc _ _), by simp, ?_, ?_, Own.nil _ _ _ _ _⟩
    · exact (BoxAt.new w x.enc _).mono (below_alloc _ _)
    · rw [h1]; exact BoxAt.new _ y.enc _
  replace hS := Lib.hid hS
  go_enter Tryd.func53, Tryd.ntmps53
  go_upto_region 2 with fail
  generalize e7 : (w.alloc _).alloc _ = W7 at hS ⊢
  clear e7
  obtain ⟨⟨q1, q2⟩, ⟨x1, x2, x3⟩, y1, y2, y3⟩ := hS.out.cells
  go_upto_if 10 with fail
  go_cut [0, 1, 5] from 6 (fun _ _ s W => ClI w x y (c1L x y) s W)
  case first =>
    cases hc : (x.ti.toList == y.ti.toList)
    · have hL := Lib.hid (show c1L x y = [] ++ [⟨1, x.ti, y.ti⟩] by have := ne_of_beq_false hc; simp [c1L, c1B, this])
      clear hc
      go_wp2_with (at_builtin; refine wpList_push Cls.len Cls.one rfl _ _ 32 rfl (w.heap.size + 2) 81 i _ 40 Tryd.underlying32 hi hz0 hz1 hz2 rfl (by omega) _ ([] : List Cls) rfl (hS.out.mono (below_alloc _ _)).o _ 1 ⟨1, x.ti, y.ti⟩ rfl (fun j u hu => new_cells _ [.int .i64 1, .string x.ti, .string y.ti] _ _ (by simp) j u hu) (by simp [maxLen]) (by simp) (by have := hS.out.z; simp; omega) ?_)
      intro v' w2 ho2 hg2
      have hP := Lib.hid ((hS.out.mono (below_alloc _ _)).push ho2 hg2)
      go_wp2_with fail
      go_meet
      case rel => rw [hL.out]; exact hP.out
    · have hL := Lib.hid (show c1L x y = [] by have := eq_of_beq hc; simp [c1L, c1B, this])
      clear hc
      go_wp2_with fail
      go_meet
      case rel => rw [hL.out]; exact hS.out
  case rest =>
    clear x1 x2 x3 y1 y2 y3 q1 q2 hS W7
    have HL := Lib.hid (show clashL x y = c1L x y ++ c2L x y ++ c3L x y from rfl)
    generalize c1L x y = l1 at hcut CA HL
    obtain ⟨⟨q1, q2⟩, ⟨x1, x2, x3⟩, y1, y2, y3⟩ := hcut.cells
    have hC := Lib.hid hcut
    clear hcut
    go_upto_region 4 with fail
    go_cut [33] from 6 (fun t W => t = .bool (c2B x y) ∧ W = wc)
    case first =>
      have hB : c2B x y = (!(x.pl.toList == y.pl.toList) && !x.pl.toList.isEmpty && !y.pl.toList.isEmpty) := by
        unfold c2B
        by_cases h1 : x.pl.toList = y.pl.toList <;> by_cases h2 : x.pl.toList = [] <;> by_cases h3 : y.pl.toList = [] <;> simp_all
      replace hB := Lib.hid hB
      cases h1 : (x.pl.toList == y.pl.toList)
      · cases h2 : x.pl.toList.isEmpty
        · go_wp2_with fail
          go_meet
          case rel => exact ⟨congrArg Value.bool (by rw [hB.out, h1]; first | rfl | (simp; done) | (rw [h2]; simp; done)), rfl⟩
        · go_wp2_with fail
          go_meet
          case rel => exact ⟨congrArg Value.bool (by rw [hB.out, h1]; first | rfl | (simp; done) | (rw [h2]; simp; done)), rfl⟩
      · go_wp2_with fail
        go_meet
        case rel => exact ⟨congrArg Value.bool (by rw [hB.out, h1]; first | rfl | (simp; done) | (rw [h2]; simp; done)), rfl⟩
    case rest =>
    obtain ⟨rfl, rfl⟩ := hcut
    have hQ := Lib.hid (show c2L x y = if c2B x y then [⟨2, x.pl, y.pl⟩] else [] from rfl)
    go_upto_if 33 with fail
    generalize c2B x y = t2 at hQ
    go_cut [5] from 6 (fun s W => ClI w x y (l1 ++ c2L x y) s W)
    case first =>
      cases t2
      · go_wp2_with fail
        go_meet
        case rel => rw [hQ.out]; simpa using hC.out
      · go_wp2_with (at_builtin; refine wpList_push Cls.len Cls.one rfl _ _ 32 rfl (w.heap.size + 2) 81 i _ 40 Tryd.underlying32 hi hz0 hz1 hz2 rfl (by omega) _ l1 rfl (hC.out.mono (below_alloc _ _)).o _ 1 ⟨2, x.pl, y.pl⟩ rfl (fun j u hu => new_cells _ [.int .i64 2, .string x.pl, .string y.pl] _ _ (by simp) j u hu) (by unfold maxLen; omega) (by omega) (by have := hC.out.z; simp; omega) ?_)
        intro v' w2 ho2 hg2
        have hP := Lib.hid ((hC.out.mono (below_alloc _ _)).push ho2 hg2)
        go_wp2_with fail
        go_meet
        case rel => rw [hQ.out]; exact hP.out
    case rest =>
    clear x1 x2 x3 y1 y2 y3 q1 q2 hC hQ t2
    generalize c2L x y = l2 at hcut CA HL
    obtain ⟨⟨q1, q2⟩, ⟨x1, x2, x3⟩, y1, y2, y3⟩ := hcut.cells
    have hC := Lib.hid hcut
    clear hcut
    replace HL : Hid (clashL x y = (l1 ++ l2) ++ c3L x y) := HL
    generalize l1 ++ l2 = l3 at hC CA HL
    go_upto_region 6 with fail
    go_cut [56] from 6 (fun t W => t = .bool (c3B x y) ∧ W = wc)
    case first =>
      have hB : c3B x y = (!(x.yr == y.yr) && !(x.yr == 0) && !(y.yr == 0)) := by
        unfold c3B
        by_cases h1 : x.yr = y.yr <;> by_cases h2 : x.yr = 0 <;> by_cases h3 : y.yr = 0 <;> simp_all
      replace hB := Lib.hid hB
      by_cases h1 : x.yr = y.yr
      · go_wp2_with fail
        go_meet
        case rel => exact ⟨congrArg Value.bool (by rw [hB.out]; first | rfl | (simp [h1]; done) | (simp [h2]; done)), rfl⟩
      · by_cases h2 : x.yr = 0
        · go_wp2_with fail
          go_meet
          case rel => exact ⟨congrArg Value.bool (by rw [hB.out]; first | rfl | (simp [h1]; done) | (simp [h2]; done)), rfl⟩
        · go_wp2_with fail
          go_meet
          case rel => exact ⟨congrArg Value.bool (by rw [hB.out]; first | rfl | (simp [h1]; done) | (simp [h2]; done)), rfl⟩
    case rest =>
    obtain ⟨rfl, rfl⟩ := hcut
    have hQ := Lib.hid (show c3L x y = if c3B x y then [⟨3, numT x.yr, numT y.yr⟩] else [] from rfl)
    generalize c3B x y = t3 at hQ
    cases t3
    · have hE := Lib.hid (show clashL x y = l3 by rw [HL.out, hQ.out]; simp)
      go_wp2_with fail
      go_ret
      exact ⟨_, rfl, by rw [hE.out]; exact hC.out.o.lower (by omega), hC.out.b⟩
    · go_upto_region 7 with fail
      have hE := Lib.hid (show clashL x y = l3 ++ [⟨3, numT x.yr, numT y.yr⟩] by rw [HL.out, hQ.out]; simp)
      have HS : wc.cell? ⟨w.heap.size, 3, none⟩ = some (.int .i64 x.yr) ∧ wc.cell? ⟨w.heap.size + 1, 3, none⟩ = some (.int .i64 y.yr) := ⟨x3, y3⟩
      have D := drewOn wc
      have hl3 : l3.length ≤ 2 := CA.2
      clear x1 x2 y1 y2 hQ HL CA
      replace hC := Lib.hid (hC.out.mono D)
      go_region_held3 (fun W => W.cell? ⟨w.heap.size, 3, none⟩ = some (.int .i64 x.yr) ∧ W.cell? ⟨w.heap.size + 1, 3, none⟩ = some (.int .i64 y.yr)) (first | assumption | (exact ⟨cellOn (by assumption) (And.left (by assumption)), cellOn (by assumption) (And.right (by assumption))⟩) | (exact ⟨cellOn (below_alloc _ _) (And.left (by assumption)), cellOn (below_alloc _ _) (And.right (by assumption))⟩) | (exact ⟨hP.out.cells.2.1.2.2, hP.out.cells.2.2.2.2⟩))
        (first | (go_at_call 73; refine (text_c _ _ (by omega) (by omega) (HT.out _ (ClI.b hC.out))).mono ?_; rintro e w8 ⟨rfl, b8⟩; replace hC := Lib.hid (ClI.mono hC.out b8)) | (refine step_push Cls.len Cls.one (by rfl) (.tmp 57) (.tmp 65) 32 (by rfl) (w.heap.size + 2) 81 i _ 40 Tryd.underlying32 hi hz0 hz1 hz2 (by rfl) (by omega) _ l3 (by rfl) (ClI.mono hC.out (below_alloc _ _)).o _ 1 ⟨3, numT x.yr, numT y.yr⟩ (by rfl) (by omega) (by unfold maxLen; omega) (fun j u hu => new_cells _ [.int .i64 3, .string (numT x.yr), .string (numT y.yr)] _ _ (by simp) j u hu) (by unfold maxLen; omega) (by omega) (ClI.mono hC.out (below_alloc _ _)).z ?_; intro v' w3 ho2 hg2; have hP := Lib.hid (ClI.push (ClI.mono hC.out (below_alloc _ _)) ho2 hg2)))
      go_wp2_with fail
      go_ret
      exact ⟨_, rfl, by rw [hE.out]; exact hP.out.o.lower (by omega), hP.out.b⟩
end Go.Proofs.YteainpflmofjaaaDoor
