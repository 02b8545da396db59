/- Headings drawn from choices: what the draw leaves. No condition but that not too many choices were read. -/
import Derived.Test.YtbkkaibjenofiaaNs
import Derived.Test.YtbkkaibjenofiaaMark
import Derived.Test.YtbkkaibjenofiaaHx23
import Derived.Test.YtbkkaibjenofiaaPt23
import Derived.Outline
import Derived.Deep.Cut
import Derived.Deep.CutBlock
namespace Go.Proofs.Ytbkkaibjenofiaa
open Go.RowKit
def hdOk (c : Nat) (x : Hdg) : Prop := x.sub.length ≤ c ∧ x.nm.size ≤ 10
abbrev HSt (w0 w : World) (B : Nat) (v : Value) (l : List Hdg) (m N c : Nat) : Prop := NSt w0 w B 55 Hdg.enc 4 3 IntE.enc Hdg.hv Hdg.sub (hdOk c) v l m N
abbrev HIn (w0 w : World) (c : Nat) (v : Value) (x : Hdg) : Prop := NIn w0 w 3 IntE.enc Hdg.hv Hdg.sub (hdOk c) v x
abbrev HBx (w : World) (lo b : Nat) (x : Hdg) : Prop := Bx w lo 55 Hdg.enc 4 b x
abbrev HSB (w0 w : World) (B : Nat) (v : Value) (l : List Hdg) (m N c hb : Nat) (y : Hdg) : Prop := NSB w0 w B 55 Hdg.enc 4 3 IntE.enc Hdg.hv Hdg.sub (hdOk c) v l m N hb y
theorem HSt.deep {w0 w : World} {B m N c : Nat} {v : Value} {l : List Hdg} (h : HSt w0 w B v l m N c) : Hdg.Deep w l := fun i hi => (h.2 i hi).1.sl IntE.len
theorem HSt.fits {w0 w : World} {B m N c : Nat} {v : Value} {l : List Hdg} (h : HSt w0 w B v l m N c) : ∀ i, i < l.length → (gd l i).Fits := fun i hi => ⟨by have := (h.2 i hi).2.2.2; unfold maxLen; omega, trivial⟩
theorem HSt.sl {w0 w : World} {B m N c : Nat} {v : Value} {l : List Hdg} (h : HSt w0 w B v l m N c) : Sl w Hdg.enc 4 v l := h.own.sl Hdg.len
theorem HBx.cells {w : World} {lo b : Nat} {x : Hdg} (h : HBx w lo b x) : (lo ≤ b ∧ b < w.heap.size) ∧ w.cell? ⟨b, 0, none⟩ = some (.int .i64 x.id) ∧ w.cell? ⟨b, 1, none⟩ = some (.string x.nm) ∧ w.cell? ⟨b, 2, none⟩ = some (.int .i64 x.un) ∧ w.cell? ⟨b, 3, none⟩ = some (.slice x.a x.sub.length x.cap) :=
  ⟨h.lt, h.cell Hdg.len 0 _ rfl, h.cell Hdg.len 1 _ rfl, h.cell Hdg.len 2 _ rfl, h.cell Hdg.len 3 _ rfl⟩
/-- a call that hands back a list of headings and has read choices -/
def CurHds (w : World) (B m : Nat) (e : Ending) (w' : World) : Prop := ∃ (v : Value) (l : List Hdg), e = .returned v ∧ HSt w w' B v l m 17 5
set_option maxHeartbeats 16000000 in
set_option maxRecDepth 100000 in
theorem headings_c (w : World) (B m : Nat) (h : Cur w B m) (hm : m ≤ 10000000) : Calls Try.prog 50 #[.pointer (some ⟨B, 0, none⟩)] w (CurHds w B (m + 500)) := by
  have hB := h.lt
  obtain ⟨i0, hi, hz0, hz1, hz2⟩ := info_parts (show (Try.prog.info? 55).map (fun i => (i.zero, i.size, i.bytes)) = some (some (.agg #[.int .i64 0, .string ByteArray.empty, .int .i64 0, .slice none 0 0]), 4, 56) by kernel_rfl)
  have S0 : Hid (HSt w (w.alloc (.cells #[] 55)) B (.slice (some ⟨w.heap.size, 0, none⟩) 0 0) [] m 0 0) := Lib.hid (NSt.start h)
  clear h
  go_enter Try.func50, Try.ntmps50
  go_wp2_with fail
  refine (pick_c _ B m 9 S0.out.cur (by omega) (by omega)).mono ?_
  rintro e w1 ⟨p, hp, rfl, C1, g1⟩
  obtain ⟨k, rfl⟩ : ∃ k : Nat, p = (k : Int) := ⟨p.toNat, by have := hp.1; omega⟩
  have hk : k ≤ 8 := by have := hp.2.1 (by omega); omega
  have S1 := Lib.hid (S0.out.turn g1 C1)
  clear S0 C1 g1 hp
  go_upto_block 0 with fail
  go_cut [3, 4, 5, 6, 7, 8] from 16 (fun o _ _ _ _ _ W => ∃ l : List Hdg, Hid (HSt w W B o l (m + 100) 9 0))
  case first =>
    go_wp2_with fail
    go_loopw [3, 4, 5] (fun o vid vn wr => ∃ (q : Nat) (l : List Hdg) (id : Int), q ≤ k ∧ (0 ≤ id ∧ id ≤ 2 * ((k : Int) - q)) ∧ vn = .int .i64 (q : Int) ∧ vid = .int .i64 id ∧ Hid (HSt w wr B o l (m + 2 + 10 * (k - q)) (k - q) 0)) (fun _ _ vn _ => (intOf vn).toNat)
    case atStart => exact ⟨k, [], 0, by omega, by omega, rfl, rfl, Lib.hid (S1.out.le (by omega) (by omega))⟩
    case round =>
      obtain ⟨q, l, id, hq, hid, rfl, rfl, hS⟩ := hrel
      by_cases hq0 : 0 < q
      · have hq1 : 0 < (q : Int) := by omega
        go_wp2_with fail
        refine (pick_c _ B _ 2 hS.out.cur (by omega) (by omega)).mono ?_
        rintro e w2 ⟨x, hx, rfl, C2, g2⟩
        have hx1 := hx.1
        have hx2 := hx.2.1 (by omega)
        clear hx
        have S2 := Lib.hid (hS.out.turn g2 C2)
        clear hS C2 g2 S1
        go_wp2_with fail
        refine (ofL_c [.string ⟨#[97, 108, 112, 115]⟩, .string ⟨#[114, 105, 118, 101, 114, 115]⟩, .string ⟨#[114, 111, 97, 100, 115]⟩, .string ⟨#[116, 111, 119, 110, 115]⟩, .string ⟨#[115, 101, 97, 115]⟩] (fun s => s.size ≤ 10) S2.out.cur (by omega) (allS (by rfl)) (by simp) (by simp) (by simp) (by simp)).mono ?_
        rintro e w3 ⟨s, hs, rfl, C3, g3⟩
        have S3 := Lib.hid (S2.out.turn g3 C3)
        clear S2 C3 g3
        go_upto_region 8 with fail
        obtain ⟨a, cap, b0, off, rfl, hlc, hm, -⟩ := HSt.sl S3.out
        unfold maxLen at hm
        have X3 := Lib.hid (NSB.start Hdg.len S3.out ⟨id + 1 + x, s, 0, none, 0, []⟩ (NIn.nil _ _ rfl rfl ⟨Nat.zero_le _, hs⟩))
        refine wpAt fun W4 hW4 => ?_
        replace X3 : Hid (HSB w W4 B (.slice a l.length cap) l (m + 2 + 10 * (k - q) + 2 + 2) (k - q) 0 w3.heap.size ⟨id + 1 + x, s, 0, none, 0, []⟩) := by rw [hW4]; exact X3
        have hid2 : 0 ≤ id + 1 + x ∧ id + 1 + x ≤ 2 * ((k : Int) - (q - 1)) := by omega
        clear hW4 S3
        generalize w3.heap.size = hb at X3 ⊢
        generalize id + 1 + x = id2 at X3 hid2 ⊢
        clear hid hx1 hx2 hq1
        go_upto_region 9 with fail
        go_cut [41] from 35 to 62 (fun t W => ∃ t1 : Bool, t = .bool t1 ∧ (t1 = true → 0 < l.length) ∧ Hid (HSB w W B (.slice a l.length cap) l (m + 2 + 10 * (k - q) + 6) (k - q) 0 hb ⟨id2, s, 0, none, 0, []⟩))
        case first =>
          by_cases h0 : l.length = 0
          · have h0' : ¬ 0 < (l.length : Int) := by omega
            replace h0 := Lib.hid h0
            go_wp2_with fail
            go_meet
            case rel => exact ⟨false, rfl, by simp, Lib.hid (X3.out.le (by omega) (by omega))⟩
          · have h0' : 0 < (l.length : Int) := by omega
            go_wp2_with fail
            refine (one_c _ B _ 4 X3.out.cur (by omega) (by omega)).mono ?_
            rintro e w5 ⟨t1, rfl, C5, g5⟩
            have X5 := Lib.hid (X3.out.turn g5 C5)
            clear X3 C5 g5
            go_wp2_with fail
            go_meet
            case rel => exact ⟨!t1, rfl, fun _ => by omega, X5⟩
        obtain ⟨t1, rfl, htl, X5⟩ := hcut
        clear X3
        go_upto_if 41 with fail
        go_cut [] from 19 to 62 (fun W => ∃ un : Int, Hid (HSB w W B (.slice a l.length cap) l (m + 2 + 10 * (k - q) + 8) (k - q) 0 hb ⟨id2, s, un, none, 0, []⟩))
        case first =>
          cases t1
          · go_wp2_with fail
            go_meet
            case rel => exact ⟨0, Lib.hid (X5.out.le (by omega) (by omega))⟩
          · have hl0 := htl rfl
            have hlN := X5.out.st.len
            go_wp2_with fail
            refine (pick_c _ B _ _ X5.out.cur (by omega) (by omega)).mono ?_
            rintro e w6 ⟨p, hp, rfl, C6, g6⟩
            obtain ⟨j, rfl⟩ : ∃ j : Nat, p = (j : Int) := ⟨p.toNat, by have := hp.1; omega⟩
            have hj : j < l.length := by
              rcases Nat.lt_or_ge 1 l.length with h1 | h1
              · have := hp.2.1 (by omega); omega
              · have := hp.2.2 (by omega); omega
            have X6 := Lib.hid (X5.out.turn g6 C6)
            clear X5 C6 g6 hp
            obtain ⟨a', cap', b', off', hv', -, -, hc⟩ := HSt.sl X6.out.st
            injection hv' with e1 e2 e3
            subst e1 e3
            clear e2
            obtain ⟨rfl, hbw, c0, -, -, -⟩ := Hdg.at hc j hj
            have Y := Lib.hid (NSB.scal Hdg.len X6.out ⟨id2, s, (gd l j).id, none, 0, []⟩ 2 (by omega) (.int .i64 (gd l j).id) rfl rfl rfl ⟨Nat.zero_le _, hs⟩)
            obtain ⟨⟨hb0, hb1⟩, y0, y1, y2, y3⟩ := HBx.cells X6.out.2.1
            have z2 := X6.out.2.1.frozen 2
            generalize (gd l j).id = un at c0 Y
            clear hc
            go_wp2_with fail
            go_meet
            case rel => exact ⟨un, Y⟩
        obtain ⟨un, X6⟩ := hcut
        clear X5
        go_upto_region 11 with fail
        have hlN := X6.out.st.len
        obtain ⟨⟨hb0, hb1⟩, y0, y1, y2, y3⟩ := HBx.cells X6.out.2.1
        have HR := Lib.hid (fun W (hB : Below wc.heap.size wc W) => (HSt.sl X6.out.st).mono hB)
        go_cut [8] from 19 to 62 (fun sv W => Hid (Own W wc.heap.size 55 Hdg.enc 4 sv (l ++ [⟨id2, s, un, none, 0, []⟩])) ∧ Below wc.heap.size wc W)
        case first =>
          have hb := Below.refl wc.heap.size wc
          go_region_law (first | (refine step_cat Hdg.len Hdg.one (by rfl) (.tmp 50) (.tmp 51) 24 (by rfl) wc.heap.size 55 i0 _ 56 Try.underlying24 hi hz0 hz1 hz2 (by rfl) (by omega) (.slice (some ⟨wc.heap.size, 0, none⟩) 0 0) ([] : List Hdg) (by rfl) (by first | exact Own.mono (Own.emptyAt (by simp) (by simp)) (drewOn _) | exact Own.mono (Own.emptyAt (by simp) (by simp)) (btrans (below_alloc _ _) (drewOn _)) | exact Own.emptyAt (by simp) (by simp) | exact Own.mono (Own.emptyAt (by simp) (by simp)) (below_alloc _ _)) _ l (by rfl) (HR.out _ (by repeat' (first | exact Below.refl _ _ | with_reducible assumption | refine bext ?_ ?_ _ | refine Below.alloc ?_ ?_ _ | refine Below.setCell ?_ ?_ _ | refine Below.drew ?_ | (simp; done) | (have hbz := hb.size; first | omega | (simp; omega)) | (simp; omega) | omega))) (by unfold maxLen; simp; omega) (by simp; omega) (by first | omega | (simp; done) | (simp; omega) | (have hbz := hb.size; first | omega | (simp; omega))) ?_; intro v1 w1 oa ga; have ba := below_push (lo := wc.heap.size) (B := wc.heap.size) (a := wc) (by repeat' (first | exact Below.refl _ _ | with_reducible assumption | refine bext ?_ ?_ _ | refine Below.alloc ?_ ?_ _ | refine Below.setCell ?_ ?_ _ | refine Below.drew ?_ | (simp; done) | (have hbz := hb.size; first | omega | (simp; omega)) | (simp; omega) | omega)) ((by first | exact Own.mono (Own.emptyAt (by simp) (by simp)) (drewOn _) | exact Own.mono (Own.emptyAt (by simp) (by simp)) (btrans (below_alloc _ _) (drewOn _)) | exact Own.emptyAt (by simp) (by simp) | exact Own.mono (Own.emptyAt (by simp) (by simp)) (below_alloc _ _)) : Own _ wc.heap.size 55 Hdg.enc 4 (.slice (some ⟨wc.heap.size, 0, none⟩) 0 0) ([] : List Hdg)) ga (Nat.le_refl _) (by first | omega | (simp; done) | (simp; omega) | (have hbz := hb.size; first | omega | (simp; omega))); have za := ba.size; have p0 := cellOn ba y0; have p1 := cellOn ba y1; have p2 := cellOn ba y2; have p3 := cellOn ba y3) | (refine step_cat Hdg.len Hdg.one (by rfl) (.tmp 50) (.tmp 51) 24 (by rfl) wc.heap.size 55 i0 _ 56 Try.underlying24 hi hz0 hz1 hz2 (by rfl) (by omega) (.slice (some ⟨wc.heap.size + 1, 0, none⟩) 0 0) ([] : List Hdg) (by rfl) (by first | exact Own.mono (Own.emptyAt (by simp) (by simp)) (drewOn _) | exact Own.mono (Own.emptyAt (by simp) (by simp)) (btrans (below_alloc _ _) (drewOn _)) | exact Own.emptyAt (by simp) (by simp) | exact Own.mono (Own.emptyAt (by simp) (by simp)) (below_alloc _ _)) _ l (by rfl) (HR.out _ (by repeat' (first | exact Below.refl _ _ | with_reducible assumption | refine bext ?_ ?_ _ | refine Below.alloc ?_ ?_ _ | refine Below.setCell ?_ ?_ _ | refine Below.drew ?_ | (simp; done) | (have hbz := hb.size; first | omega | (simp; omega)) | (simp; omega) | omega))) (by unfold maxLen; simp; omega) (by simp; omega) (by first | omega | (simp; done) | (simp; omega) | (have hbz := hb.size; first | omega | (simp; omega))) ?_; intro v1 w1 oa ga; have ba := below_push (lo := wc.heap.size) (B := wc.heap.size) (a := wc) (by repeat' (first | exact Below.refl _ _ | with_reducible assumption | refine bext ?_ ?_ _ | refine Below.alloc ?_ ?_ _ | refine Below.setCell ?_ ?_ _ | refine Below.drew ?_ | (simp; done) | (have hbz := hb.size; first | omega | (simp; omega)) | (simp; omega) | omega)) ((by first | exact Own.mono (Own.emptyAt (by simp) (by simp)) (drewOn _) | exact Own.mono (Own.emptyAt (by simp) (by simp)) (btrans (below_alloc _ _) (drewOn _)) | exact Own.emptyAt (by simp) (by simp) | exact Own.mono (Own.emptyAt (by simp) (by simp)) (below_alloc _ _)) : Own _ wc.heap.size 55 Hdg.enc 4 (.slice (some ⟨wc.heap.size + 1, 0, none⟩) 0 0) ([] : List Hdg)) ga (Nat.le_refl _) (by first | omega | (simp; done) | (simp; omega) | (have hbz := hb.size; first | omega | (simp; omega))); have za := ba.size; have p0 := cellOn ba y0; have p1 := cellOn ba y1; have p2 := cellOn ba y2; have p3 := cellOn ba y3) | (refine step_push Hdg.len Hdg.one (by rfl) (.tmp 52) (.tmp 54) 24 (by rfl) wc.heap.size 55 i0 _ 56 Try.underlying24 hi hz0 hz1 hz2 (by rfl) (by omega) v1 ([] ++ l) (by rfl) (oa.mono (by repeat' (first | exact Below.refl _ _ | with_reducible assumption | refine bext ?_ ?_ _ | refine Below.alloc ?_ ?_ _ | refine Below.setCell ?_ ?_ _ | refine Below.drew ?_ | (simp; done) | (have hbz := hb.size; first | omega | (simp; omega)) | (simp; omega) | omega))) _ 1 ⟨id2, s, un, none, 0, []⟩ (by rfl) (by omega) (by unfold maxLen; omega) (cells4 (by first | (simp; done) | (refine cellGrown ?_ ga ?_ <;> simp [Value.ownBlock]; done)) (by first | (simp; done) | (refine cellGrown ?_ ga ?_ <;> simp [Value.ownBlock]; done)) (by first | (simp; done) | (refine cellGrown ?_ ga ?_ <;> simp [Value.ownBlock]; done)) (by first | (simp; done) | (refine cellGrown ?_ ga ?_ <;> simp [Value.ownBlock]; done))) (by unfold maxLen; simp; omega) (by simp; omega) (by first | omega | (simp; done) | (simp; omega) | (have hbz := hb.size; first | omega | (simp; omega))) ?_; intro v2 w2 ob gb; have bb := below_push (lo := wc.heap.size) (B := wc.heap.size) (a := wc) (Below.trans ba (by repeat' (first | exact Below.refl _ _ | with_reducible assumption | refine bext ?_ ?_ _ | refine Below.alloc ?_ ?_ _ | refine Below.setCell ?_ ?_ _ | refine Below.drew ?_ | (simp; done) | (have hbz := hb.size; first | omega | (simp; omega)) | (simp; omega) | omega))) (oa.mono (by repeat' (first | exact Below.refl _ _ | with_reducible assumption | refine bext ?_ ?_ _ | refine Below.alloc ?_ ?_ _ | refine Below.setCell ?_ ?_ _ | refine Below.drew ?_ | (simp; done) | (have hbz := hb.size; first | omega | (simp; omega)) | (simp; omega) | omega))) gb (Nat.le_refl _) (by first | omega | (simp; done) | (simp; omega) | (have hbz := hb.size; first | omega | (simp; omega)))) | fail)
          all_goals
            have oF := Lib.hid ob
            have B3 := Lib.hid bb
            clear oa ob ga gb ba bb za
            go_wp2_with fail
            go_meet
            case rel => exact ⟨Lib.hid (by simpa using oF.out), B3.out⟩
        obtain ⟨hO, hBW⟩ := hcut
        have T1 := Lib.hid (X6.out.st.fresh hBW hO.out (Own.nil _ _ _ _ _) ⟨Nat.zero_le _, hs⟩)
        have T0 := Lib.hid (X6.out.st.below hBW)
        clear hO hBW HR y0 y1 y2 y3 X6
        have hR := l23Good_c _ _ wc (HSt.sl T1.out) (HSt.deep T1.out) (HSt.fits T1.out)
        generalize areHd (l ++ [⟨id2, s, un, none, 0, []⟩]) = ok at hR
        replace hR := Lib.hid hR
        generalize l ++ [(⟨id2, s, un, none, 0, []⟩ : Hdg)] = l2 at hR T1
        cases ok
        · go_wp2_with fail
          refine hR.out.mono ?_
          rintro e w7 ⟨rfl, b7⟩
          replace T1 := Lib.hid (T1.out.below b7)
          replace T0 := Lib.hid (T0.out.below b7)
          clear hR b7
          go_wp2_with fail
          refine (one_c _ B _ 80 T0.out.cur (by omega) (by omega)).mono ?_
          rintro e w8 ⟨t2, rfl, C8, g8⟩
          replace T1 := Lib.hid (T1.out.turn g8 C8)
          replace T0 := Lib.hid (T0.out.turn g8 C8)
          clear C8 g8
          cases t2
          · go_wp2_with fail
            go_roundw
            case rel => exact ⟨q - 1, l, id2, by omega, by omega, congrArg (Value.int .i64) (by omega), rfl, Lib.hid (T0.out.le (by omega) (by omega))⟩
            case measure => simp [intOf]; omega
          · go_wp2_with fail
            go_roundw
            case rel => exact ⟨q - 1, l2, id2, by omega, by omega, congrArg (Value.int .i64) (by omega), rfl, Lib.hid (T1.out.le (by omega) (by omega))⟩
            case measure => simp [intOf]; omega
        · go_wp2_with fail
          refine hR.out.mono ?_
          rintro e w7 ⟨rfl, b7⟩
          replace T1 := Lib.hid (T1.out.below b7)
          clear hR b7 T0
          go_wp2_with fail
          go_roundw
          case rel => exact ⟨q - 1, l2, id2, by omega, by omega, congrArg (Value.int .i64) (by omega), rfl, Lib.hid (T1.out.le (by omega) (by omega))⟩
          case measure => simp [intOf]; omega
      · obtain rfl : q = 0 := by omega
        go_wp2_with fail
        go_meet
        case rel => exact ⟨l, Lib.hid (hS.out.le (by omega) (by omega))⟩
  obtain ⟨l, S2⟩ := hcut
  clear S1
  have hz := Lib.hid (fun i (hi : i < l.length) => (S2.out.2 i hi).2.2.1)
  obtain ⟨a, cap, b0, off, rfl, hlc, hm2, -⟩ := HSt.sl S2.out
  unfold maxLen at hm2
  have hl9 := S2.out.len
  go_upto_block 2 with fail
  go_cut [9, 10, 11, 12] from 63 (fun _ _ _ _ W => ∃ L : List Hdg, L.length = l.length ∧ Hid (HSt w W B (.slice a l.length cap) L (m + 300) 9 3))
  case first =>
    go_wp2_with fail
    go_loopw [9] (fun vi wr => ∃ (j : Nat) (L : List Hdg), j ≤ l.length ∧ L.length = l.length ∧ vi = .int .i64 (j : Int) ∧ Hid (HSt w wr B (.slice a l.length cap) L (m + 100 + 20 * j) 9 3) ∧ Hid (∀ i, j ≤ i → i < l.length → (gd L i).sub.length ≤ 0)) (fun vi _ => l.length - (intOf vi).toNat)
    case atStart => exact ⟨0, l, by omega, rfl, rfl, Lib.hid (S2.out.weak (fun x hx => ⟨Nat.le_trans hx.1 (by omega), hx.2⟩)), Lib.hid (fun i _ hi => hz.out i hi)⟩
    case round =>
      obtain ⟨j, L, hj, hL, rfl, hS, hZ⟩ := hrel
      by_cases hjl : j < l.length
      · obtain ⟨g, cap', hv', hlo, hg, -, -, hfz, hcc⟩ := hS.out.own.form Hdg.len (by omega)
        injection hv' with e1 e2 e3
        subst e1 e3
        clear e2
        obtain ⟨-, -, c0, c1, c2, c3⟩ := Hdg.at hcc j (by omega)
        rw [Nat.zero_add] at c0 c1 c2 c3
        have hI := Lib.hid (hS.out.2 j (by omega))
        have hZj := hZ.out j (Nat.le_refl _) hjl
        have hne : ∀ i, i < L.length → (gd L i).hv.ownBlock ≠ some g := fun i hi e => (hS.out.2 i hi).2.1 _ e rfl
        replace hne := Lib.hid hne
        have hjL : (j : Int) < (l.length : Int) := by omega
        have X0 := Lib.hid (NSB.start Hdg.len hS.out (gd L j) hI.out)
        generalize hy0 : gd L j = y0 at c0 c1 c2 c3 hI hZj X0
        replace hy0 := Lib.hid hy0
        clear hfz hcc
        go_upto_region 18 with fail
        refine wpAt fun W4 hW4 => ?_
        replace X0 : Hid (HSB w W4 B (.slice (some ⟨g, 0, none⟩) l.length cap) L (m + 100 + 20 * j) 9 3 wr.heap.size y0) := by rw [hW4]; exact X0
        clear hW4 c0 c1 c2 c3 hS
        generalize wr.heap.size = hb at X0 ⊢
        go_wp2_with fail
        refine (pick_c _ B _ 4 X0.out.cur (by omega) (by omega)).mono ?_
        rintro e w5 ⟨p, hp, rfl, C5, g5⟩
        obtain ⟨kk, rfl⟩ : ∃ kk : Nat, p = (kk : Int) := ⟨p.toNat, by have := hp.1; omega⟩
        have hkk : kk ≤ 3 := by have := hp.2.1 (by omega); omega
        have X5 := Lib.hid (X0.out.turn g5 C5)
        clear X0 C5 g5 hp
        go_wp2_with fail
        go_loopw [11] (fun vn wr => ∃ (q : Nat) (y : Hdg), q ≤ kk ∧ vn = .int .i64 (q : Int) ∧ y.sub.length ≤ kk - q ∧ Hid (HSB w wr B (.slice (some ⟨g, 0, none⟩) l.length cap) L (m + 100 + 20 * j + 2 + 4 * (kk - q)) 9 3 hb y)) (fun vn _ => (intOf vn).toNat)
        case atStart => exact ⟨kk, y0, by omega, rfl, by omega, Lib.hid (X5.out.le (by omega) (by omega))⟩
        case round =>
          obtain ⟨q, y, hq, rfl, hyl, hX⟩ := hrel
          by_cases hq0 : 0 < q
          · have hq1 : 0 < (q : Int) := by omega
            go_wp2_with fail
            refine (pick_c _ B _ _ hX.out.cur (by omega) (by omega)).mono ?_
            rintro e w6 ⟨p, hp, rfl, C6, g6⟩
            obtain ⟨t, rfl⟩ : ∃ t : Nat, p = (t : Int) := ⟨p.toNat, by have := hp.1; omega⟩
            have ht : t < l.length := by
              rcases Nat.lt_or_ge 1 l.length with h1 | h1
              · have := hp.2.1 (by omega); omega
              · have := hp.2.2 (by omega); omega
            have X6 := Lib.hid (hX.out.turn g6 C6)
            clear hX C6 g6 hp X5
            obtain ⟨g', cap', hv', -, hg6, -, -, -, hcc⟩ := X6.out.st.own.form Hdg.len (by omega)
            injection hv' with e1 e2 e3
            injection e1 with e1
            injection e1 with e1
            subst e1 e3
            clear e2
            obtain ⟨-, -, d0, -, -, -⟩ := Hdg.at hcc t (by omega)
            rw [Nat.zero_add] at d0
            obtain ⟨⟨hb0, hb1⟩, y0, y1, y2, y3⟩ := HBx.cells X6.out.2.1
            have htL : (t : Int) < (l.length : Int) := by omega
            generalize (gd L t).id = idt at d0
            clear hcc
            go_upto_region 22 with fail
            go_cut [94] from 87 to 99 (fun t W => ∃ t1 : Bool, t = .bool t1 ∧ Hid (HSB w W B (.slice (some ⟨g, 0, none⟩) l.length cap) L (m + 100 + 20 * j + 2 + 4 * (kk - q) + 4) 9 3 hb y))
            case first =>
              generalize y.id = yi at y0
              by_cases hid : idt = yi
              · subst hid
                go_wp2_with fail
                refine (one_c _ B _ 80 X6.out.cur (by omega) (by omega)).mono ?_
                rintro e w8 ⟨t2, rfl, C8, g8⟩
                have X8 := Lib.hid (X6.out.turn g8 C8)
                clear X6 C8 g8
                go_wp2_with fail
                go_meet
                case rel => exact ⟨t2, rfl, X8⟩
              · have hid' : (idt == yi) = false := by simpa using hid
                have hid2 : (idt != yi) = true := by simpa using hid
                clear hid
                go_wp2_with fail
                go_meet
                case rel => exact ⟨true, rfl, Lib.hid (X6.out.le (by omega) (by omega))⟩
            obtain ⟨t1, rfl, X8⟩ := hcut
            clear X6 y0 y1 y2 y3 d0 hb0 hb1 hg6
            cases t1
            · go_wp2_with fail
              go_roundw
              case rel => exact ⟨q - 1, y, by omega, congrArg (Value.int .i64) (by omega), by omega, Lib.hid (X8.out.le (by omega) (by omega))⟩
              case measure => simp [intOf]; omega
            · obtain ⟨⟨hb0, hb1⟩, y0, y1, y2, y3⟩ := HBx.cells X8.out.2.1
              have z3 := X8.out.2.1.frozen 3
              have hP := l1Put_p _ y.sub idt wc (X8.out.2.2.1.1.sl IntE.len) (by omega)
              replace hP := Lib.hid (show Calls Try.prog 83 #[.slice y.a y.sub.length y.cap, .int .i64 idt] wc (RetPut wc (.slice y.a y.sub.length y.cap) y.sub (putI y.sub idt)) from hP)
              have hpl := putI_len y.sub idt
              go_wp2_with fail
              refine hP.out.mono ?_
              rintro e w9 ⟨v9, rfl, s9, o9, b9⟩
              have X9 := Lib.hid (X8.out.below b9)
              have y3 := cellOn b9 y3
              have z3 : w9.frozen? ⟨hb, 3, none⟩ = false := X9.out.2.1.frozen 3
              have hb9 := X9.out.2.1.lt.2
              obtain ⟨a9, c9, -, -, rfl, -, -, -⟩ := s9
              have hn9 : HIn w w9 3 (.slice (some ⟨g, 0, none⟩) l.length cap) ⟨y.id, y.nm, y.un, a9, c9, putI y.sub idt⟩ ∧ (Value.slice a9 (putI y.sub idt).length c9).ownBlock ≠ some hb := by
                rcases o9 with ⟨e1, e2⟩ | o9
                · have e3 : Hdg.hv ⟨y.id, y.nm, y.un, a9, c9, putI y.sub idt⟩ = Hdg.hv y := e1
                  refine ⟨⟨?_, ?_, by simp; omega, X9.out.2.2.1.2.2.2⟩, ?_⟩
                  · rw [e3]; simp only [e2]; exact X9.out.2.2.1.1
                  · rw [e3]; exact X9.out.2.2.1.2.1
                  · rw [show Value.slice a9 (putI y.sub idt).length c9 = Hdg.hv y from e1]; exact X9.out.2.2.2.2.2
                · refine ⟨NIn.new o9 X8.out.st.vlt X8.out.st.size ⟨by simp; omega, X9.out.2.2.1.2.2.2⟩, fun e => ?_⟩
                  have := (o9.bounds _ e).1
                  omega
              have X10 := Lib.hid (NSB.set Hdg.len X9.out ⟨y.id, y.nm, y.un, a9, c9, putI y.sub idt⟩ 3 (by omega) (.slice a9 (putI y.sub idt).length c9) rfl hn9.1 hn9.2)
              clear hn9 o9 X9 X8 hP y0 y1 y2 hb0 hb1
              go_wp2_with fail
              go_roundw
              case rel => exact ⟨q - 1, _, by omega, congrArg (Value.int .i64) (by omega), by simp; omega, Lib.hid (X10.out.le (by omega) (by omega))⟩
              case measure => simp [intOf]; omega
          · obtain rfl : q = 0 := by omega
            clear X5
            obtain ⟨g', cap', hv', -, hg6, -, -, hfz, hcc⟩ := hX.out.st.own.form Hdg.len (by omega)
            injection hv' with e1 e2 e3
            injection e1 with e1
            injection e1 with e1
            subst e1 e3
            clear e2
            obtain ⟨-, -, d0, d1, d2, d3⟩ := Hdg.at hcc j (by omega)
            rw [Nat.zero_add] at d0 d1 d2 d3
            have f0 := hfz (j * 4)
            have f1 := hfz (j * 4 + 1)
            have f2 := hfz (j * 4 + 2)
            have f3 := hfz (j * 4 + 3)
            obtain ⟨⟨hb0, hb1⟩, y0, y1, y2, y3⟩ := HBx.cells hX.out.2.1
            have hSt := Lib.hid (Own.storeAll Hdg.len hX.out.st.own hL.symm j (by omega) y)
            have hyN := Lib.hid hX.out.2.2.1
            have hS3 := Lib.hid hX.out.st
            have hlw : l.length = L.length := hL.symm
            replace hlw := Lib.hid hlw
            clear hfz hX hcc
            go_upto_region 16 with fail
            refine wpAt fun W5 hW5 => ?_
            have N5 : Hid (HSt w W5 B (.slice (some ⟨g, 0, none⟩) l.length cap) (L.set j y) (m + 100 + 20 * (j + 1)) 9 3) := by
              rw [hW5]
              exact Lib.hid ((hS3.out.put (by omega) hSt.out.1 hSt.out.2 hyN.out).le (by omega) (by omega))
            clear hW5 hSt hyN hS3 y0 y1 y2 y3 f0 f1 f2 f3 d0 d1 d2 d3
            have hZ2 : Hid (∀ i, j + 1 ≤ i → i < l.length → (gd (L.set j y) i).sub.length ≤ 0) := fun i h1 h2 => by
              rw [gd_set_ne (by omega)]; exact hZ.out i (by omega) h2
            have hL2 : (L.set j y).length = l.length := by rw [List.length_set]; exact hL
            go_wp2_with fail
            go_roundw
            case rel => exact ⟨j + 1, _, by omega, hL2, by go_num, N5, hZ2⟩
            case measure => simp [intOf]; omega
      · obtain rfl : j = l.length := by omega
        go_wp2_with fail
        go_meet
        case rel => exact ⟨L, hL, Lib.hid (hS.out.le (by omega) (by omega))⟩
  obtain ⟨L, hL, S3⟩ := hcut
  clear S2 hz
  generalize l.length = n at *
  subst hL
  go_upto_region 26 with fail
  go_cut [111] from 106 (fun t W => ∃ t1 : Bool, t = .bool t1 ∧ (t1 = true → 0 < L.length) ∧ Hid (HSt w W B (.slice a L.length cap) L (m + 302) 9 3))
  case first =>
    by_cases h0 : L.length = 0
    · have h0' : ¬ 0 < (L.length : Int) := by omega
      replace h0 := Lib.hid h0
      go_wp2_with fail
      go_meet
      case rel => exact ⟨false, rfl, by simp, Lib.hid (S3.out.le (by omega) (by omega))⟩
    · have h0' : 0 < (L.length : Int) := by omega
      go_wp2_with fail
      refine (one_c _ B _ 14 S3.out.cur (by omega) (by omega)).mono ?_
      rintro e w5 ⟨t1, rfl, C5, g5⟩
      have X5 := Lib.hid (S3.out.turn g5 C5)
      clear S3 C5 g5
      go_wp2_with fail
      go_meet
      case rel => exact ⟨t1, rfl, fun _ => by omega, X5⟩
  obtain ⟨t1, rfl, htl, S4⟩ := hcut
  clear S3
  go_upto_if 111 with fail
  go_cut [14] from 112 (fun _ W => ∃ L' : List Hdg, L'.length = L.length ∧ Hid (HSt w W B (.slice a L.length cap) L' (m + 310) 9 5))
  case first =>
    cases t1
    · go_wp2_with fail
      go_meet
      case rel => exact ⟨L, rfl, Lib.hid ((S4.out.weak (fun x hx => ⟨Nat.le_trans hx.1 (by omega), hx.2⟩)).le (by omega) (by omega))⟩
    · have hl0 := htl rfl
      have S5 : Hid (HSt w wc B (.slice a L.length cap) L (m + 302) 9 5) := Lib.hid (S4.out.weak (fun x hx => ⟨Nat.le_trans hx.1 (by omega), hx.2⟩))
      clear S4
      obtain ⟨g, cap', hv', hlo, hg, -, -, hfz, hcc⟩ := S5.out.own.form Hdg.len hl0
      injection hv' with e1 e2 e3
      subst e1 e3
      clear e2
      obtain ⟨-, -, c0, c1, c2, c3⟩ := Hdg.at hcc (L.length - 1) (by omega)
      rw [Nat.zero_add] at c0 c1 c2 c3
      have hn1 : ((L.length : Int) - 1).toNat = L.length - 1 := by omega
      have hn2 : (0 : Int) ≤ (L.length : Int) - 1 := by omega
      have X0 := Lib.hid (NSB.start Hdg.len S5.out (gd L (L.length - 1)) (S5.out.2 _ (by omega)))
      generalize gd L (L.length - 1) = y0 at c0 c1 c2 c3 X0
      clear hfz hcc
      go_upto_region 28 with fail
      refine wpAt fun W4 hW4 => ?_
      replace X0 : Hid (HSB w W4 B (.slice (some ⟨g, 0, none⟩) L.length cap) L (m + 302) 9 5 wc.heap.size y0) := by rw [hW4]; exact X0
      clear hW4 c0 c1 c2 c3 S5
      generalize wc.heap.size = hb at X0 ⊢
      go_wp2_with fail
      refine (pick_c _ B _ 5 X0.out.cur (by omega) (by omega)).mono ?_
      rintro e w5 ⟨p, hp, rfl, C5, g5⟩
      have X5 := Lib.hid (X0.out.turn g5 C5)
      clear X0 C5 g5 hp
      go_upto_block 6 with fail
      go_cut [] from 119 (fun W => ∃ y : Hdg, Hid (HSB w W B (.slice (some ⟨g, 0, none⟩) L.length cap) L (m + 310) 9 5 hb y))
      case first =>
        obtain ⟨⟨hb0, hb1⟩, y0', y1, y2, y3⟩ := HBx.cells X5.out.2.1
        by_cases hp0 : p = 0
        · subst hp0
          go_wp2_with fail
          refine (amongL_c [.int .i64 0, .int .i64 100] (fun _ => True) X5.out.cur (by omega) (allI rfl) (by simp) (by simp) (by simp) (by simp)).mono ?_
          rintro e w6 ⟨z, -, rfl, C6, g6⟩
          have X6 := Lib.hid (X5.out.turn g6 C6)
          clear X5 C6 g6 y0' y1 y2 y3 hb1
          have Y := Lib.hid (NSB.scal Hdg.len X6.out { y0 with id := z } 0 (by omega) (.int .i64 z) rfl rfl rfl X6.out.2.2.1.2.2)
          obtain ⟨⟨-, hb1⟩, y0', y1, y2, y3⟩ := HBx.cells X6.out.2.1
          have z0 := X6.out.2.1.frozen 0
          go_wp2_with fail
          go_meet
          case rel => exact ⟨_, Lib.hid (Y.out.le (by omega) (by omega))⟩
        have hp0' : (p == 0) = false := by simpa using hp0
        clear hp0
        by_cases hp1 : p = 1
        · subst hp1
          go_wp2_with fail
          refine (ofL_c [.string ⟨#[]⟩, .string ⟨#[65, 108, 112, 115]⟩] (fun s => s.size ≤ 10) X5.out.cur (by omega) (allS (by rfl)) (by simp) (by simp) (by simp) (by simp)).mono ?_
          rintro e w6 ⟨z, hz, rfl, C6, g6⟩
          have X6 := Lib.hid (X5.out.turn g6 C6)
          clear X5 C6 g6 y0' y1 y2 y3 hb1
          have Y := Lib.hid (NSB.scal Hdg.len X6.out { y0 with nm := z } 1 (by omega) (.string z) rfl rfl rfl ⟨X6.out.2.2.1.2.2.1, hz⟩)
          obtain ⟨⟨-, hb1⟩, y0', y1, y2, y3⟩ := HBx.cells X6.out.2.1
          have z1 := X6.out.2.1.frozen 1
          go_wp2_with fail
          go_meet
          case rel => exact ⟨_, Lib.hid (Y.out.le (by omega) (by omega))⟩
        have hp1' : (p == 1) = false := by simpa using hp1
        clear hp1
        by_cases hp2 : p = 2
        · subst hp2
          go_wp2_with fail
          refine (amongL_c [.int .i64 (-1), .int .i64 y0.id, .int .i64 99] (fun _ => True) X5.out.cur (by omega) (allI rfl) (by simp) (by simp) (by simp) (by simp)).mono ?_
          rintro e w6 ⟨z, -, rfl, C6, g6⟩
          have X6 := Lib.hid (X5.out.turn g6 C6)
          clear X5 C6 g6 y0' y1 y2 y3 hb1
          have Y := Lib.hid (NSB.scal Hdg.len X6.out { y0 with un := z } 2 (by omega) (.int .i64 z) rfl rfl rfl X6.out.2.2.1.2.2)
          obtain ⟨⟨-, hb1⟩, y0', y1, y2, y3⟩ := HBx.cells X6.out.2.1
          have z2 := X6.out.2.1.frozen 2
          go_wp2_with fail
          go_meet
          case rel => exact ⟨_, Lib.hid (Y.out.le (by omega) (by omega))⟩
        have hp2' : (p == 2) = false := by simpa using hp2
        clear hp2
        by_cases hp3 : p = 3
        · subst hp3
          go_wp2_with fail
          refine (amongL_c [.int .i64 0, .int .i64 98] (fun _ => True) X5.out.cur (by omega) (allI rfl) (by simp) (by simp) (by simp) (by simp)).mono ?_
          rintro e w6 ⟨z, -, rfl, C6, g6⟩
          have X6 := Lib.hid (X5.out.turn g6 C6)
          clear X5 C6 g6 y0' y1 y2 y3 hb1
          have X7 := X6.out.alloc (.cells #[.int .i64 z] 3)
          have hO : Own (w6.alloc (.cells #[.int .i64 z] 3)) w6.heap.size 3 IntE.enc 1 (.slice (some ⟨w6.heap.size, 0, none⟩) 1 1) [z] := ⟨rfl, .inr ⟨w6.heap.size, 1, _, rfl, Nat.le_refl _, heap_alloc_new _ _, Nat.le_refl _, by simp [maxLen], rfl, rfl⟩⟩
          have hne : ¬ w6.heap.size = hb := by have := X6.out.2.1.lt.2; omega
          have hN : HIn w (w6.alloc (.cells #[.int .i64 z] 3)) 5 (.slice (some ⟨g, 0, none⟩) L.length cap) ⟨y0.id, y0.nm, y0.un, some ⟨w6.heap.size, 0, none⟩, 1, [z]⟩ := NIn.new hO X6.out.st.vlt X6.out.st.size ⟨by simp, X6.out.2.2.1.2.2.2⟩
          have Y := Lib.hid (NSB.set Hdg.len X7 ⟨y0.id, y0.nm, y0.un, some ⟨w6.heap.size, 0, none⟩, 1, [z]⟩ 3 (by omega) (.slice (some ⟨w6.heap.size, 0, none⟩) 1 1) rfl hN (fun e => hne (Option.some.inj e)))
          obtain ⟨⟨-, hb1⟩, y0', y1, y2, y3⟩ := HBx.cells X6.out.2.1
          have z3 := X6.out.2.1.frozen 3
          replace Y := Y.out
          rw [World.setCell_alloc_past _ _ _ _ (X6.out.2.1.lt.2)] at Y
          replace Y := Lib.hid Y
          clear hN hO X7
          go_wp2_with fail
          go_meet
          case rel => exact ⟨_, Lib.hid (Y.out.le (by omega) (by omega))⟩
        have hp3' : (p == 3) = false := by simpa using hp3
        clear hp3
        by_cases hp4 : p = 4
        · subst hp4
          obtain ⟨g', cap', hv', -, hg6, -, -, -, hcc⟩ := X5.out.st.own.form Hdg.len hl0
          injection hv' with e1 e2 e3
          injection e1 with e1
          injection e1 with e1
          subst e1 e3
          clear e2
          obtain ⟨-, -, d0, -, -, -⟩ := Hdg.at hcc 0 hl0
          rw [Nat.zero_add, Nat.zero_mul] at d0
          generalize (gd L 0).id = z at d0
          have z3 := X5.out.2.1.frozen 3
          have hl0' : 0 < (L.length : Int) := by omega
          clear hcc
          have X7 := X5.out.alloc (.cells #[.int .i64 z, .int .i64 z] 3)
          have hO : Own (w5.alloc (.cells #[.int .i64 z, .int .i64 z] 3)) w5.heap.size 3 IntE.enc 1 (.slice (some ⟨w5.heap.size, 0, none⟩) 2 2) [z, z] := ⟨rfl, .inr ⟨w5.heap.size, 2, _, rfl, Nat.le_refl _, heap_alloc_new _ _, Nat.le_refl _, by simp [maxLen], rfl, rfl⟩⟩
          have hne : ¬ w5.heap.size = hb := by have := X5.out.2.1.lt.2; omega
          have hN : HIn w (w5.alloc (.cells #[.int .i64 z, .int .i64 z] 3)) 5 (.slice (some ⟨g, 0, none⟩) L.length cap) ⟨y0.id, y0.nm, y0.un, some ⟨w5.heap.size, 0, none⟩, 2, [z, z]⟩ := NIn.new hO X5.out.st.vlt X5.out.st.size ⟨by simp, X5.out.2.2.1.2.2.2⟩
          have Y := NSB.set Hdg.len X7 ⟨y0.id, y0.nm, y0.un, some ⟨w5.heap.size, 0, none⟩, 2, [z, z]⟩ 3 (by omega) (.slice (some ⟨w5.heap.size, 0, none⟩) 2 2) rfl hN (fun e => hne (Option.some.inj e))
          rw [World.setCell_alloc_past _ _ _ _ (X5.out.2.1.lt.2)] at Y
          replace Y := Lib.hid (Y.below (drewOn _))
          clear hN hO X7
          go_upto_region 38 with fail
          go_region
          go_wp2_with fail
          go_meet
          case rel => exact ⟨_, Lib.hid (Y.out.le (by omega) (by omega))⟩
        · have hp4' : (p == 4) = false := by simpa using hp4
          go_wp2_with fail
          go_meet
          case rel => exact ⟨y0, Lib.hid (X5.out.le (by omega) (by omega))⟩
      clear X5
      obtain ⟨y, X5⟩ := hcut
      obtain ⟨g', cap', hv', -, hg6, -, -, hfz, hcc⟩ := X5.out.st.own.form Hdg.len hl0
      injection hv' with e1 e2 e3
      injection e1 with e1
      injection e1 with e1
      subst e1 e3
      clear e2
      obtain ⟨-, -, d0, d1, d2, d3⟩ := Hdg.at hcc (L.length - 1) (by omega)
      rw [Nat.zero_add] at d0 d1 d2 d3
      have f0 := hfz ((L.length - 1) * 4)
      have f1 := hfz ((L.length - 1) * 4 + 1)
      have f2 := hfz ((L.length - 1) * 4 + 2)
      have f3 := hfz ((L.length - 1) * 4 + 3)
      obtain ⟨⟨hb0, hb1⟩, y0, y1, y2, y3⟩ := HBx.cells X5.out.2.1
      have hSt := Own.storeAll Hdg.len X5.out.st.own rfl (L.length - 1) (by omega) y
      have N5 := Lib.hid (X5.out.st.put (by omega) hSt.1 hSt.2 X5.out.2.2.1)
      clear hSt hfz hcc X5
      go_wp2_with fail
      go_meet
      case rel => exact ⟨_, by rw [List.length_set], N5.out⟩
  obtain ⟨L', hL', S5⟩ := hcut
  clear S4
  rw [← hL'] at hlc hl9
  generalize L.length = n at *
  subst hL'
  clear hl9
  have hl9 := S5.out.len
  go_wp2_with fail
  refine (one_c _ B _ 24 S5.out.cur (by omega) (by omega)).mono ?_
  rintro e w6 ⟨t2, rfl, C6, g6⟩
  have S6 := Lib.hid (S5.out.turn g6 C6)
  clear S5 C6 g6
  cases t2
  · go_wp2_with fail
    go_ret
    exact ⟨_, _, rfl, S6.out.le (by omega) (by omega)⟩
  · have S7 : Hid (HSt w (w6.alloc (.cells #[] 55)) B (.slice (some ⟨w6.heap.size, 0, none⟩) 0 0) [] (m + 312) 0 5) := Lib.hid (S6.out.empty rfl)
    clear S6
    go_wp2_with fail
    go_loopw [3, 15] (fun o vi wr => ∃ l : List Hdg, vi = .int .i64 (l.length : Int) ∧ Hid (HSt w wr B o l (m + 312 + 4 * l.length) 16 5)) (fun _ vi _ => (17 - intOf vi).toNat)
    case atStart => exact ⟨[], rfl, Lib.hid (S7.out.le (by simp) (by omega))⟩
    case round =>
      obtain ⟨l3, rfl, hS⟩ := hrel
      have hl := hS.out.len
      go_wp2_with fail
      refine (pick_c _ B _ 2 hS.out.cur (by omega) (by omega)).mono ?_
      rintro e w7 ⟨p, hp, rfl, C7, g7⟩
      have hp2 := hp.1
      have hp3 := hp.2.1 (by omega)
      have T1 := Lib.hid (hS.out.turn g7 C7)
      clear hS C7 g7 hp S7
      by_cases hlt : (l3.length : Int) < 15 + p
      · go_wp2_with fail
        refine (ofL_c [.string ⟨#[97, 108, 112, 115]⟩, .string ⟨#[114, 111, 97, 100, 115]⟩, .string ⟨#[115, 101, 97, 115]⟩, .string ⟨#[116, 111, 119, 110, 115]⟩] (fun s => s.size ≤ 10) T1.out.cur (by omega) (allS (by rfl)) (by simp) (by simp) (by simp) (by simp)).mono ?_
        rintro e w8 ⟨z, hz, rfl, C8, g8⟩
        have T2 := Lib.hid (T1.out.turn g8 C8)
        have hsz := T2.out.size
        clear T1 C8 g8
        go_wp2_with (at_builtin; refine wpList_pushAt Hdg.len Hdg.one rfl (.tmp 173) (.tmp 181) 24 rfl w.heap.size 55 i0 _ 56 Try.underlying24 hi hz0 hz1 hz2 rfl (by omega) _ l3 rfl (T2.out.alloc _).own _ 1 ⟨(l3.length : Int) + 1, z, (l3.length : Int), none, 0, []⟩ rfl (cells4 (by simp) (by simp) (by simp) (by simp)) (by unfold maxLen; omega) (by omega) (by simp; omega) ?_; intro v' w9 ho9 hg9 hat9)
        have T3 := Lib.hid ((T2.out.alloc _).push ho9 hg9 hat9 (NIn.nil _ _ rfl rfl ⟨Nat.zero_le _, hz⟩))
        clear T2 ho9 hg9 hat9
        go_wp2_with fail
        go_roundw
        case rel =>
          refine ⟨_, by simp, Lib.hid (NSt.cut (T3.out.le (by simp; omega) (Nat.le_refl _)) (by simp; omega))⟩
        case measure => simp [intOf]; omega
      · go_wp2_with fail
        go_ret
        exact ⟨_, _, rfl, T1.out.le (by omega) (by omega)⟩
end Go.Proofs.Ytbkkaibjenofiaa
