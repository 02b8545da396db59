/- Reading a card, by the reference. No condition but sizes. What Go's library answers where a card is read: a text cut at blanks, a number read. Conditions: Go's variables read as they are laid. Reading a card, by the program. Conditions: sizes; Go's variables read as they are laid. What the row's condition and the world's shape give a walk: what Go's variables hold. The wrap of a row that keeps both. Conditions: those that each states. -/
import Derived.Test.YteainpflmofjaaaGreatDoorZa3
import Derived.Test.YteainpflmofjaaaGreatDoorSd
import Derived.Test.YteainpflmofjaaaGreatDoorNs
import Derived.Test.YteainpflmofjaaaGreatDoorMark
import Derived.Deep.Cut
import Derived.Test.YteainpflmofjaaaGreatDoorZa1
import Derived.Shelf.Strconv.AtoiAll
import Derived.Test.YteainpflmofjaaaGreatDoorCl
import Derived.Outline
import Derived.Test.YteainpflmofjaaaGreatDoorTie
import Derived.Test.YteainpflmofjaaaGreatDoorCards
import Derived.LaidMore
import Derived.MakeChecks
import Derived.SevenTiedAt
import Derived.LaidSub
import Derived.Stop.Joined
import Derived.Stop.LaidErr
import Derived.HandedShaped
namespace Go.Proofs.YteainpflmofjaaaGreatDoor
open Go.RowKit
def cZero : List Value := [.int .i64 0, .int .i64 0, .slice none 0 0]
/-- what a reading of a card leaves -/
def RetCard (w : World) (s : ByteArray) (e : Ending) (w' : World) : Prop := ∃ (x : Crd) (ok : Bool), e = .returned (.tuple #[.agg #[.int .i64 x.id, .int .i64 x.yr, .slice x.a x.sub.length x.cap], .bool ok]) ∧ PQ s ok x ∧ Own w' w.heap.size 9 StrE.enc 1 (.slice x.a x.sub.length x.cap) x.sub ∧ x.sub.length ≤ 1048577 ∧ Below w.heap.size w w'
theorem spl_le (c : UInt8) : ∀ (l : List UInt8), ∀ q, q ∈ spl c l → q.length ≤ l.length
  | [], q, h => by simp [spl] at h; subst h; simp
  | b :: l, q, h => by
    have ih := spl_le c l
    unfold spl at h
    split at h
    · rcases List.mem_cons.1 h with rfl | h
      · simp
      · exact Nat.le_succ_of_le (ih q h)
    · cases hs : spl c l with
      | nil => exact absurd hs (spl_ne c l)
      | cons y t =>
        rw [hs] at h ih
        dsimp only at h
        rcases List.mem_cons.1 h with rfl | h
        · have := ih y List.mem_cons_self
          simpa using this
        · exact Nat.le_succ_of_le (ih q (List.mem_cons_of_mem _ h))
theorem parts_size {s : ByteArray} {ps : List ByteArray} (hp : ps.map (·.data.toList) = spl 32 s.data.toList) (i : Nat) (hi : i < ps.length) : (gd ps i).size ≤ s.size := by
  have hm : (gd ps i).data.toList ∈ spl 32 s.data.toList := by
    rw [← hp, gd_get hi]
    exact List.mem_map.2 ⟨ps[i], List.getElem_mem hi, rfl⟩
  have := spl_le 32 _ _ hm
  rwa [ba_len, ba_len] at this
theorem parts_fits {s : ByteArray} {ps : List ByteArray} (hs : s.size ≤ 1048576) (hp : ps.map (·.data.toList) = spl 32 s.data.toList) : StrE.Fits ps := fun i hi => by
  have := parts_size hp i hi
  show (gd ps i).size ≤ maxLen
  unfold maxLen; omega
theorem toList_inj {a b : ByteArray} (h : a.toList = b.toList) : a = b := by
  apply ByteArray.ext
  apply Array.toList_inj.1
  rwa [ByteArray.toList_eq, ByteArray.toList_eq] at h
/-- the card's box beside the result's box -/
def CW (w W : World) (hb : Nat) (x : Crd) : Prop := Bx W w.heap.size 34 Crd.enc 3 hb x ∧ Own W w.heap.size 9 StrE.enc 1 (.slice x.a x.sub.length x.cap) x.sub ∧ Blk W w.heap.size 34 cZero ∧ Below w.heap.size w W ∧ w.heap.size < hb ∧ (∀ q, (Value.slice x.a x.sub.length x.cap).ownBlock = some q → q ≠ hb ∧ q ≠ w.heap.size)
theorem CW.mono {w W W' : World} {hb : Nat} {x : Crd} (h : CW w W hb x) (hb2 : Below W.heap.size W W') : CW w W' hb x :=
  ⟨h.1.mono hb2, h.2.1.mono hb2, h.2.2.1.mono hb2, h.2.2.2.1.trans (hb2.mono h.2.2.2.1.size), h.2.2.2.2⟩
theorem CW.scal {w W : World} {hb : Nat} {x : Crd} (h : CW w W hb x) (z : Crd) (j : Nat) (hj : j < 3) (u : Value) (hz : z.enc = x.enc.set j u) (h1 : Value.slice z.a z.sub.length z.cap = .slice x.a x.sub.length x.cap) (h2 : z.sub = x.sub) : CW w (W.setCell ⟨hb, j, none⟩ u) hb z := by
  obtain ⟨a1, a2, a3, a4, a5, a6⟩ := h
  obtain ⟨b1, b2⟩ := a1.store Crd.len z j hj u hz
  refine ⟨b1, ?_, a3.grown b2 (by omega), a4.setCell (by show w.heap.size ≤ hb; omega) _, a5, by rw [h1]; exact a6⟩
  rw [h1, h2]
  exact own_keep a2 b2 (fun q hq e => (a6 q hq).1 (by injection e with e; exact e.symm))
theorem CW.cells {w W : World} {hb : Nat} {x : Crd} (h : CW w W hb x) : (hb < W.heap.size ∧ w.heap.size < W.heap.size) ∧ (W.cell? ⟨hb, 0, none⟩ = some (.int .i64 x.id) ∧ W.cell? ⟨hb, 1, none⟩ = some (.int .i64 x.yr) ∧ W.cell? ⟨hb, 2, none⟩ = some (.slice x.a x.sub.length x.cap)) ∧ (∀ j, W.frozen? ⟨hb, j, none⟩ = false) :=
  ⟨⟨h.1.lt.2, h.2.2.1.lt⟩, ⟨h.1.cell Crd.len 0 _ rfl, h.1.cell Crd.len 1 _ rfl, h.1.cell Crd.len 2 _ rfl⟩, h.1.frozen⟩
theorem CW.start {w w2 : World} {a2 : Option Addr} {cap2 : Nat} {ws : List ByteArray} (hK : Blk w2 w.heap.size 34 cZero) (ho : Own w2 w.heap.size 9 StrE.enc 1 (.slice a2 ws.length cap2) ws) (hB : Below w.heap.size w w2) (n y : Int) : CW w (w2.alloc (.cells #[.int .i64 n, .int .i64 y, .slice a2 ws.length cap2] 34)) w2.heap.size ⟨n, y, a2, cap2, ws⟩ :=
  ⟨Bx.new (tE := 34) Crd.len w2 w.heap.size hB.size (⟨n, y, a2, cap2, ws⟩ : Crd), ho.mono (below_alloc _ _), hK.mono (below_alloc _ _), hB.trans ((below_alloc _ _).mono hB.size), hK.lt, fun q hq => ⟨fun e => by
    have := (ho.bounds q hq).2
    omega, fun e => by
    subst e
    rcases ho.2 with ⟨e1, -⟩ | ⟨g, cap, cur, e1, -, hgb, -⟩
    · rw [e1] at hq; cases hq
    · rw [e1] at hq
      have e2 : g = w.heap.size := Option.some.inj hq
      unfold Blk at hK
      rw [← e2, hgb] at hK
      have e3 := Option.some.inj hK
      injection e3 with _ e4
      exact absurd e4 (by decide)⟩⟩
set_option maxHeartbeats 8000000 in
set_option maxRecDepth 100000 in
theorem specParseCard_c (s : ByteArray) (w : World) (hs : s.size ≤ 1048576) : Calls Tryz.prog 20 #[.string s] w (RetCard w s) := by
  have A0 := below_alloc w (.cells cZero.toArray 34)
  have HS := Lib.hid (l1Split_c s (w.alloc (.cells cZero.toArray 34)) hs)
  have K0 := Lib.hid (Blk.new w 34 cZero)
  obtain ⟨i', hi', hy0, hy1, hy2⟩ := info_parts (show (Tryz.prog.info? 9).map (fun i => (i.zero, i.size, i.bytes)) = some (some (.string ByteArray.empty), 1, 16) by kernel_rfl)
  unfold cZero at HS
  go_enter Tryz.func20, Tryz.ntmps20
  go_wp2_with fail
  refine HS.out.mono ?_
  rintro e w1 ⟨v, ps, rfl, hO, hp, hpl, b1⟩
  have K1 := K0.out.mono b1
  have B1 := btrans A0 b1
  have hOl := hO.lower (lo' := w.heap.size) (by simp)
  obtain ⟨a, cap, b, off, rfl, hlc, hm, hc⟩ := hO.sl StrE.len
  unfold maxLen at hm
  have hp' := Lib.hid hp
  clear A0 b1 HS K0
  by_cases hbad1 : 90 < s.size
  · have hno := pq_look hp (.inl hbad1)
    have hb1 : (90 : Int) < (s.size : Int) := by omega
    clear hO hOl hc hp
    replace hno := Lib.hid hno
    have hwl := K1.lt
    have k0 := K1.cell 0 _ rfl
    have k1 := K1.cell 1 _ rfl
    have k2 := K1.cell 2 _ rfl
    have f0 := K1.frozen 0
    have f1 := K1.frozen 1
    have f2 := K1.frozen 2
    replace K1 := Lib.hid K1
    replace B1 := Lib.hid B1
    go_wp2_with fail
    (try simp only [Exit.inBlock, Exit.then])
    refine bodyPost_ret (by simp [results, Tryz.results20, go_sem, k0, k1, k2]; try rfl) rfl ?_
    exact ⟨⟨0, 0, none, 0, []⟩, false, rfl, hno.out, Own.nil _ _ _ _ _, by simp, ((B1.out.setCell (Nat.le_refl _) _).setCell (Nat.le_refl _) _).setCell (Nat.le_refl _) _⟩
  have hb1 : ¬ (90 : Int) < (s.size : Int) := by omega
  by_cases hin : inB (ps.length : Int) 3 8 = true
  rotate_left
  · have hin' : inB (ps.length : Int) 3 8 = false := by simpa using hin
    have hno := pq_look hp (by
      by_cases h3 : ps.length < 3
      · exact .inr (.inl h3)
      · refine .inr (.inr (.inl ?_))
        have : ¬ (3 ≤ (ps.length : Int) ∧ (ps.length : Int) ≤ 8) := fun h => hin (inB_iff.2 h)
        omega)
    have HI := Lib.hid (by have H := l1In_c (ps.length : Int) 3 8 w1; rw [hin'] at H; exact H)
    clear hO hOl hc hp hin hin'
    replace hno := Lib.hid hno
    have hwl := K1.lt
    have k0 := K1.cell 0 _ rfl
    have k1 := K1.cell 1 _ rfl
    have k2 := K1.cell 2 _ rfl
    have f0 := K1.frozen 0
    have f1 := K1.frozen 1
    have f2 := K1.frozen 2
    replace K1 := Lib.hid K1
    replace B1 := Lib.hid B1
    go_wp2_with (go_at_call 59; refine (HI.out).mono ?_; rintro e w' ⟨rfl, rfl⟩)
    (try simp only [Exit.inBlock, Exit.then])
    refine bodyPost_ret (by simp [results, Tryz.results20, go_sem, k0, k1, k2]; try rfl) rfl ?_
    exact ⟨⟨0, 0, none, 0, []⟩, false, rfl, hno.out, Own.nil _ _ _ _ _, by simp, ((B1.out.setCell (Nat.le_refl _) _).setCell (Nat.le_refl _) _).setCell (Nat.le_refl _) _⟩
  have hn38 := inB_iff.1 hin
  have HI := Lib.hid (by have H := l1In_c (ps.length : Int) 3 8 w1; rw [hin] at H; exact H)
  clear hin
  obtain ⟨rfl, hbw, c1⟩ := StrE.at hc 1 (by omega)
  obtain ⟨-, -, c0⟩ := StrE.at hc 0 (by omega)
  rw [Nat.add_zero] at c0
  have hcap1 : 2 ≤ cap := by omega
  have hx0 : 0 < ps.length := by omega
  have hx1 : 1 < ps.length := by omega
  have hx2 : (1 : Int) < (ps.length : Int) := by omega
  have hx3 : (2 : Int) ≤ (ps.length : Int) := by omega
  replace hn38 := Lib.hid hn38
  by_cases hsz : (gd ps 1).size = 5
  rotate_left
  · have hno := pq_look hp (.inr (.inr (.inr hsz)))
    have hsz2 : ¬ (((gd ps 1).size : Nat) : Int) = 5 := by omega
    have hsz3 : ((((gd ps 1).size : Nat) : Int) != 5) = true := by rw [bne_iff_ne]; exact hsz2
    clear hO hOl hc hp
    generalize gd ps 1 = p1 at c1 hsz hsz2 hsz3
    replace hno := Lib.hid hno
    have hwl := K1.lt
    have k0 := K1.cell 0 _ rfl
    have k1 := K1.cell 1 _ rfl
    have k2 := K1.cell 2 _ rfl
    have f0 := K1.frozen 0
    have f1 := K1.frozen 1
    have f2 := K1.frozen 2
    replace K1 := Lib.hid K1
    replace B1 := Lib.hid B1
    go_wp2_with (go_at_call 59; refine (HI.out).mono ?_; rintro e w' ⟨rfl, rfl⟩)
    (try simp only [Exit.inBlock, Exit.then])
    refine bodyPost_ret (by simp [results, Tryz.results20, go_sem, k0, k1, k2]; try rfl) rfl ?_
    exact ⟨⟨0, 0, none, 0, []⟩, false, rfl, hno.out, Own.nil _ _ _ _ _, by simp, ((B1.out.setCell (Nat.le_refl _) _).setCell (Nat.le_refl _) _).setCell (Nat.le_refl _) _⟩
  have hOd : Sl w1 StrE.enc 1 (.slice (some ⟨b, off + 2, none⟩) (ps.length - 2) (cap - 2)) (ps.drop 2) := by
    have H := (hO.sl StrE.len).drop (n := 2) (by omega)
    rwa [Nat.mul_one] at H
  have hq1 := parts_size hp 1 hx1
  have hF := Lib.hid (parts_fits hs hp)
  replace hOd := Lib.hid hOd
  have hck : ¬ cap = 2 := by have := hn38.out; omega
  have hck2 : ¬ (cap : Int) = 2 := by have := hn38.out; omega
  clear hO hOl hc hp
  have hszg : ((((gd ps 1).size : Nat) : Int) != 5) = false := by rw [hsz]; rfl
  have hszI : (((gd ps 1).size : Nat) : Int) = 5 := by omega
  have hz1 := B1.size
  replace K1 := Lib.hid K1
  go_upto_region 5 with (go_at_call 59; refine (HI.out).mono ?_; rintro e w' ⟨rfl, rfl⟩)
  go_wp2_with (at_builtin; refine wpList_cat StrE.len StrE.one rfl (.tmp 27) (.tmp 29) 25 rfl w.heap.size 9 i' _ 16 Tryz.underlying25 hi' hy0 hy1 hy2 rfl (by omega) (.slice (some ⟨w1.heap.size, 0, none⟩) 0 0) ([] : List ByteArray) rfl (Own.emptyAt (by simp) hz1) _ (ps.drop 2) rfl (hOd.out.mono (below_alloc _ _)) (by unfold maxLen; simp; omega) (by simp; omega) (by simp; omega) ?_)
  intro v2 w2 o2 g2
  have B2 := below_push (lo := w.heap.size) (B1.trans ((below_alloc _ _).mono hz1)) (Own.emptyAt (α := ByteArray) (enc := StrE.enc) (k := 1) rfl hz1) g2 (Nat.le_refl _) (by simp; omega)
  have b12 : Below w1.heap.size w1 w2 := (below_alloc w1 _).grown g2 (by simp) (fun q hq => by
    have : w1.heap.size = q := Option.some.inj hq
    omega)
  generalize hws : ps.drop 2 = ws at *
  replace hws := Lib.hid hws
  obtain ⟨a2, cap2, b2', off2, rfl, -, -, -⟩ := o2.sl StrE.len
  have d0 := cellOn b12 c0
  have d1 := cellOn b12 c1
  have K2 := Lib.hid (K1.out.mono b12)
  have hbb : b < w2.heap.size := block_lt_of_cell d0
  go_upto_region 6 with fail
  refine wpAt fun W3 hW3 => ?_
  have X3 : Hid (CW w W3 w2.heap.size ⟨0, 0, a2, cap2, ws⟩) := by rw [hW3]; exact Lib.hid (CW.start K2.out o2 B2 0 0)
  have b23 : Below w2.heap.size w2 W3 := by rw [hW3]; exact below_alloc _ _
  replace d0 := cellOn b23 d0
  replace d1 := cellOn b23 d1
  have hne : b ≠ w2.heap.size := by omega
  have hq0 := parts_size hp'.out 0 hx0
  clear hW3 b23 o2 hOd K2 B2
  generalize w2.heap.size = hb at *
  go_wp2_with fail
  refine (l1Read_c (gd ps 0) _ (by omega)).mono ?_
  rintro e w4 ⟨n0, t0, rfl, hn0, b4⟩
  replace X3 := Lib.hid (X3.out.mono b4)
  replace d1 := cellOn b4 d1
  replace hn0 := Lib.hid hn0
  clear b4 d0
  obtain ⟨⟨s1, s2⟩, ⟨y0, y1, y2⟩, hfz⟩ := X3.out.cells
  have z0 := hfz 0
  have X5 := Lib.hid (X3.out.scal ⟨n0, 0, a2, cap2, ws⟩ 0 (by omega) (.int .i64 n0) rfl rfl rfl)
  go_upto_region 7 with fail
  refine wpAt fun W5 hW5 => ?_
  replace X5 : Hid (CW w W5 hb ⟨n0, 0, a2, cap2, ws⟩) := by rw [hW5]; exact X5
  replace d1 : W5.cell? ⟨b, off + 1, none⟩ = some (.string (gd ps 1)) := by rw [hW5]; exact cellGrown d1 (only_setCell (World.grownBy.refl _ _) ⟨hb, 0, none⟩ rfl _) (fun e => hne (Option.some.inj e))
  clear hW5 X3 y0 y1 y2 z0 hfz s1 s2
  have hd1b := block_lt_of_cell d1
  have h4s : (4 : Int) ≤ (((gd ps 1).size : Nat) : Int) := by omega
  go_wp2_with fail
  have hsz4 : ((gd ps 1).extract 0 4).size ≤ 1048576 := by simp; omega
  refine (l1Read_c ((gd ps 1).extract 0 4) _ hsz4).mono ?_
  rintro e w6 ⟨n1, t1, rfl, hn1, b6⟩
  replace X5 := Lib.hid (X5.out.mono b6)
  have hPQ := pq_gen (a := a2) (c := cap2) hp'.out hn0.out (yr_four hn1)
  rw [hws.out] at hPQ
  replace hPQ := Lib.hid hPQ
  have hF2 : Hid (StrE.Fits ws) := by
    rw [← hws.out]
    exact Lib.hid (fun i hi => by rw [gd_drop]; exact hF.out (2 + i) (by simp at hi; omega))
  have hwl6 : ws.length ≤ 1048577 := by rw [← hws.out]; simp; omega
  clear b6 d1 hn1 hsz4 h4s hd1b
  obtain ⟨⟨s1, s2⟩, ⟨y0, y1, y2⟩, hfz⟩ := X5.out.cells
  have z1 := hfz 1
  have X7 := Lib.hid (X5.out.scal ⟨n0, n1, a2, cap2, ws⟩ 1 (by omega) (.int .i64 n1) rfl rfl rfl)
  go_upto_region 8 with fail
  refine wpAt fun W7 hW7 => ?_
  replace X7 : Hid (CW w W7 hb ⟨n0, n1, a2, cap2, ws⟩) := by rw [hW7]; exact X7
  clear hW7 X5 y0 y1 y2 z1 hfz s1 s2
  obtain ⟨⟨s1, s2⟩, ⟨y0, y1, y2⟩, -⟩ := X7.out.cells
  dsimp only at y0 y1 y2
  have HO := l24One_c (⟨n0, n1, a2, cap2, ws⟩ : Crd) W7 (X7.out.2.1.sl StrE.len) hF2.out
  cases hA : isCrd (⟨n0, n1, a2, cap2, ws⟩ : Crd)
  · rw [hA] at HO
    replace HO := Lib.hid HO
    have hno := Lib.hid (hPQ.out.2 (fun h => by rw [hA] at h; exact absurd h.1 (by simp)))
    clear hA
    go_upto_if 57 with (go_at_call 45; refine HO.out.mono ?_; rintro e w8 ⟨rfl, b8⟩)
    have X8 := Lib.hid (X7.out.mono b8)
    clear y0 y1 y2 s1 s2 b8 X7
    have hwl := X8.out.cells.1.2
    have K8 := X8.out.2.2.1
    have k0 := K8.cell 0 _ rfl
    have k1 := K8.cell 1 _ rfl
    have k2 := K8.cell 2 _ rfl
    have f0 := K8.frozen 0
    have f1 := K8.frozen 1
    have f2 := K8.frozen 2
    obtain ⟨⟨s1, s2⟩, ⟨y0, y1, y2⟩, -⟩ := X8.out.cells
    replace K8 := Lib.hid K8
    have B8 := Lib.hid X8.out.2.2.2.1
    go_wp2_with fail
    (try simp only [Exit.inBlock, Exit.then])
    refine bodyPost_ret (by simp [results, Tryz.results20, go_sem, k0, k1, k2]; try rfl) rfl ?_
    exact ⟨⟨0, 0, none, 0, []⟩, false, rfl, hno.out, Own.nil _ _ _ _ _, by simp, ((B8.out.setCell (Nat.le_refl _) _).setCell (Nat.le_refl _) _).setCell (Nat.le_refl _) _⟩
  · have HT := Lib.hid (fun W (hB : Below W7.heap.size W7 W) => l24Text_c (⟨n0, n1, a2, cap2, ws⟩ : Crd) W ((X7.out.2.1.mono hB).sl StrE.len) hA)
    rw [hA] at HO
    replace HO := Lib.hid HO
    have hTx := Lib.hid (rfl : cdT (⟨n0, n1, a2, cap2, ws⟩ : Crd) ws.length = cdT (⟨n0, n1, a2, cap2, ws⟩ : Crd) ws.length)
    dsimp only at HT
    generalize hT : cdT (⟨n0, n1, a2, cap2, ws⟩ : Crd) ws.length = tx at HT hPQ
    replace hT := Lib.hid hT
    cases hq : (tx.toList == s.toList)
    · have hno := Lib.hid (hPQ.out.2 (fun h => by rw [h.2] at hq; simp at hq))
      replace hA := Lib.hid hA
      go_upto_if 57 with (first | (go_at_call 45; refine HO.out.mono ?_; rintro e w8 ⟨rfl, b8⟩; have y0 := cellOn b8 y0; have y1 := cellOn b8 y1; have y2 := cellOn b8 y2; have X8 := Lib.hid (X7.out.mono b8); have HT2 := Lib.hid (HT.out w8 b8)) | (go_at_call 46; refine HT2.out.mono ?_; rintro e w9 ⟨rfl, b9⟩))
      replace X8 := Lib.hid (X8.out.mono b9)
      generalize w9 = w8 at *
      clear y0 y1 y2 s1 s2 b9 X7
      have hwl := X8.out.cells.1.2
      have K8 := X8.out.2.2.1
      have k0 := K8.cell 0 _ rfl
      have k1 := K8.cell 1 _ rfl
      have k2 := K8.cell 2 _ rfl
      have f0 := K8.frozen 0
      have f1 := K8.frozen 1
      have f2 := K8.frozen 2
      obtain ⟨⟨s1, s2⟩, ⟨y0, y1, y2⟩, -⟩ := X8.out.cells
      replace K8 := Lib.hid K8
      have B8 := Lib.hid X8.out.2.2.2.1
      go_wp2_with fail
      (try simp only [Exit.inBlock, Exit.then])
      refine bodyPost_ret (by simp [results, Tryz.results20, go_sem, k0, k1, k2]; try rfl) rfl ?_
      exact ⟨⟨0, 0, none, 0, []⟩, false, rfl, hno.out, Own.nil _ _ _ _ _, by simp, ((B8.out.setCell (Nat.le_refl _) _).setCell (Nat.le_refl _) _).setCell (Nat.le_refl _) _⟩
    · have hyes := Lib.hid (hPQ.out.1 hA (toList_inj (eq_of_beq hq)))
      replace hA := Lib.hid hA
      go_upto_if 57 with (first | (go_at_call 45; refine HO.out.mono ?_; rintro e w8 ⟨rfl, b8⟩; have y0 := cellOn b8 y0; have y1 := cellOn b8 y1; have y2 := cellOn b8 y2; have X8 := Lib.hid (X7.out.mono b8); have HT2 := Lib.hid (HT.out w8 b8)) | (go_at_call 46; refine HT2.out.mono ?_; rintro e w9 ⟨rfl, b9⟩))
      replace X8 := Lib.hid (X8.out.mono b9)
      generalize w9 = w8 at *
      clear y0 y1 y2 s1 s2 b9 X7
      have hwl := X8.out.cells.1.2
      have K8 := X8.out.2.2.1
      have k0 := K8.cell 0 _ rfl
      have k1 := K8.cell 1 _ rfl
      have k2 := K8.cell 2 _ rfl
      have f0 := K8.frozen 0
      have f1 := K8.frozen 1
      have f2 := K8.frozen 2
      obtain ⟨⟨s1, s2⟩, ⟨y0, y1, y2⟩, -⟩ := X8.out.cells
      replace K8 := Lib.hid K8
      have B8 := Lib.hid X8.out.2.2.2.1
      dsimp only at y0 y1 y2
      go_wp2_with fail
      (try simp only [Exit.inBlock, Exit.then])
      refine bodyPost_ret (by simp [results, Tryz.results20, go_sem, k0, k1, k2]; try rfl) rfl ?_
      have G : w8.grownBy (((w8.setCell ⟨w.heap.size, 0, none⟩ (.int .i64 n0)).setCell ⟨w.heap.size, 1, none⟩ (.int .i64 n1)).setCell ⟨w.heap.size, 2, none⟩ (.slice a2 ws.length cap2)) (some w.heap.size) := only_set (only_set (only_set (World.grownBy.refl _ _)))
      exact ⟨⟨n0, n1, a2, cap2, ws⟩, true, rfl, hyes.out, own_keep X8.out.2.1 G (fun q hq e => (X8.out.2.2.2.2.2 q hq).2 (by injection e with e; exact e.symm)), hwl6, ((B8.out.setCell (Nat.le_refl _) _).setCell (Nat.le_refl _) _).setCell (Nat.le_refl _) _⟩
end Go.Proofs.YteainpflmofjaaaGreatDoor

namespace Go.Proofs.YteainpflmofjaaaGreatDoor
open Go.RowKit
/-- an error, or none -/
def ErrV (v : Value) : Prop := v = .nilIface ∨ ∃ te pe, v = .iface te pe
/-- what Go's variables hold -/
structure Env (w : World) : Prop where
  tab : Tab w
  ml : ∃ m : Int, w.cell? ⟨laysM146_ren.g 1, 0, none⟩ = some (.int .i64 m)
  es : ∃ v, w.cell? ⟨laysC172_ren.g 15, 0, none⟩ = some v ∧ ErrV v
  er : ∃ v, w.cell? ⟨laysC172_ren.g 16, 0, none⟩ = some v ∧ ErrV v
theorem Env.mono {w w' : World} (h : Env w) (hb : Below w.heap.size w w') : Env w' := by
  obtain ⟨h1, ⟨m, h2⟩, ⟨v, h3, h4⟩, u, h5, h6⟩ := h
  exact ⟨h1.mono hb, ⟨m, cellOn hb h2⟩, ⟨v, cellOn hb h3, h4⟩, u, cellOn hb h5, h6⟩
theorem str_flat (l : List ByteArray) : l.flatMap StrE.enc = l.map Value.string := by
  induction l with
  | nil => rfl
  | cons x l ih => rw [List.flatMap_cons, ih]; rfl
theorem split_c (s : ByteArray) (w : World) (hE : Env w) (hs : s.size ≤ 1048576) : Calls Tryz.prog 51 #[.string s, .string ⟨#[32]⟩] w (RetParts w s) := by
  obtain ⟨m, hm⟩ := hE.ml
  refine (Any.strings_Split { laysM146 with } laysM146.i9 s ⟨#[32]⟩ m w (by omega) hm (by decide)).mono ?_
  rintro e w' ⟨rfl, rfl⟩
  have hl := Lib.splitB_all ⟨#[32]⟩ (by decide) 0 _ s rfl
  have hd : (Lib.splitB ⟨#[32]⟩ 0 (Lib.countB s ⟨#[32]⟩) s).map (·.data.toList) = spl 32 s.data.toList := by
    rw [Lib.splitB_data]
    exact splitK_spl 32 _ _ (Nat.le_refl _)
  have hc := Lib.countB_le ⟨#[32]⟩ (by decide) s.size s (Nat.le_refl _)
  refine ⟨_, Lib.splitB ⟨#[32]⟩ 0 (Lib.countB s ⟨#[32]⟩) s, rfl, ?_, hd, by omega, below_alloc _ _⟩
  rw [← hl]
  refine ⟨by simp [flat_len StrE.len], .inr ⟨w.heap.size, _, _, rfl, Nat.le_refl _, heap_alloc_new _ _, Nat.le_refl _, by unfold maxLen; omega, ?_, ?_⟩⟩
  · simp
  · rw [str_flat]
    simp only [Nat.mul_one]
    exact List.take_of_length_le (by simp)
/-- strconv.Atoi at whatever text: what it answers, and whether -/
theorem atoi_c (s : ByteArray) (w : World) (hE : Env w) (hs : s.size ≤ 1048576) : Calls Tryz.prog 98 #[.string s] w fun e w' => Below w.heap.size w w' ∧
    ((∃ v : Int, Lib.atoiAll s.data.toList = .ok v ∧ e = .returned (.tuple #[.int .i64 v, .nilIface])) ∨ ((∀ v, Lib.atoiAll s.data.toList ≠ .ok v) ∧ ∃ (n : Int) (te : TypeId) (pe : Value), e = .returned (.tuple #[.int .i64 n, .iface te pe]))) := by
  rcases h : Lib.atoiAll s.data.toList with v | - | -
  · refine (Any.strconv_Atoi_ok laysC172 s (by omega) v h w).mono ?_
    rintro e w' ⟨rfl, hw⟩
    refine ⟨?_, .inl ⟨v, rfl, rfl⟩⟩
    rcases hw with rfl | ⟨t, rfl⟩
    · exact Below.refl _ _
    · exact Lib.bytesWorld_below _ _ _
  · obtain ⟨ev, h1, h2⟩ := hE.es
    refine (Any.strconv_Atoi_syntax laysC172 s (by omega) h ev w h1 h2).mono ?_
    rintro e w' ⟨N, rfl, -, -, hb⟩
    exact ⟨hb, .inr ⟨fun v hv => (by cases hv), _, _, _, rfl⟩⟩
  · obtain ⟨ev, h1, h2⟩ := hE.er
    refine (Any.strconv_Atoi_range laysC172 s (by omega) h ev w h1 h2).mono ?_
    rintro e w' ⟨N, rfl, -, -, hb⟩
    exact ⟨hb, .inr ⟨fun v hv => (by cases hv), _, _, _, rfl⟩⟩
/-- the program's text of whatever number -/
theorem itoaZ_c (n : Int) (w : World) (h0 : -999999 ≤ n) (h1 : n ≤ 999999) (ht : Tab w) : Calls Tryz.prog 43 #[.int .i64 n] w fun e w' => ∃ t : ByteArray, e = .returned (.string t) ∧ (0 ≤ n → t = numT n) ∧ Below w.heap.size w w' := by
  have H := Lib.hid (strconv_Itoa n (by omega) (by omega) w ht)
  clear ht
  go_enter Tryz.func43, Tryz.ntmps43
  go_wp2_with fail
  refine H.out.mono ?_
  rintro e w1 ⟨rfl, k, os, rfl⟩
  have b1 := below_grow w k os
  generalize Go.Sort.grow (w.drewN k) os = w1 at *
  have hq := Lib.hid (show 0 ≤ n → (⟨(Lib.itoa n).toArray⟩ : ByteArray) = numT n from fun h => (numT_itoa n h (by omega)).symm)
  generalize (⟨(Lib.itoa n).toArray⟩ : ByteArray) = t at *
  go_wp2_with fail
  go_ret
  exact ⟨t, rfl, hq.out, b1⟩
/-- a number that was read -/
def RetN (w : World) (s : ByteArray) (e : Ending) (w' : World) : Prop := ∃ n : Int, e = .returned (.int .i64 n) ∧ NumP s n ∧ Below w.heap.size w w'
set_option maxHeartbeats 4000000 in
theorem parseInt_c (s : ByteArray) (w : World) (hE : Env w) (hs : s.size ≤ 1048576) : Calls Tryz.prog 84 #[.string s] w fun e w' => ∃ (n : Int) (b : Bool), e = .returned (.tuple #[.int .i64 n, .bool b]) ∧ (∀ k : Nat, k ≤ 999999 → s.data.toList = Lib.decDigits k → n = (k : Int) ∧ b = true) ∧ Below w.heap.size w w' := by
  have HA := Lib.hid (atoi_c s w hE hs)
  have HE := Lib.hid hE
  clear hE
  go_enter Tryz.func84, Tryz.ntmps84
  go_wp2_with fail
  refine HA.out.mono ?_
  rintro e w1 ⟨b1, ⟨v, hv, rfl⟩ | ⟨hno, n, te, pe, rfl⟩⟩
  · have hk := Lib.hid (show ∀ k : Nat, k ≤ 999999 → s.data.toList = Lib.decDigits k → v = (k : Int) from fun k hk e => by
      rw [e, atoi_dec k (by omega)] at hv
      injection hv with hv
      exact hv.symm)
    clear hv HA
    by_cases hr : inB v (-999999) 999999 = true
    · have hr2 := inB_iff.1 hr
      have HW := Lib.hid (by have H := within_c v (-999999) 999999 w1; rw [hr] at H; exact H)
      have HI := Lib.hid (itoaZ_c v w1 (by omega) (by omega) (HE.out.mono b1).tab)
      clear hr
      go_wp2_with (go_at_call 50; refine (HW.out).mono ?_; rintro e w' ⟨rfl, rfl⟩)
      refine HI.out.mono ?_
      rintro e w2 ⟨t, rfl, ht, b2⟩
      have ht := Lib.hid ht
      cases hq : (t.toList == s.toList)
      · have hno := Lib.hid (show ∀ k : Nat, k ≤ 999999 → s.data.toList ≠ Lib.decDigits k from fun k hk6 e => by
          have h1 := hk.out k hk6 e
          subst h1
          have h2 : t = s := by
            rw [ht.out (by omega)]
            apply ba_ext
            rw [numT_digits (by omega) (by omega), e]
            simp
          rw [h2] at hq
          simp at hq)
        go_wp2_with fail
        go_ret2
        exact ⟨0, false, rfl, fun k hk6 e => absurd e (hno.out k hk6), btrans b1 b2⟩
      · go_wp2_with fail
        go_ret2
        exact ⟨v, true, rfl, fun k hk6 e => ⟨hk.out k hk6 e, rfl⟩, btrans b1 b2⟩
    · have hr' : inB v (-999999) 999999 = false := by simpa using hr
      have HW := Lib.hid (by have H := within_c v (-999999) 999999 w1; rw [hr'] at H; exact H)
      have hno := Lib.hid (show ∀ k : Nat, k ≤ 999999 → s.data.toList ≠ Lib.decDigits k from fun k hk6 e => by
        have h1 := hk.out k hk6 e
        exact hr (inB_iff.2 (by omega)))
      clear hr hr'
      go_wp2_with (go_at_call 50; refine (HW.out).mono ?_; rintro e w' ⟨rfl, rfl⟩)
      go_ret2
      exact ⟨0, false, rfl, fun k hk6 e => absurd e (hno.out k hk6), b1⟩
  · have hno := Lib.hid (show ∀ k : Nat, k ≤ 999999 → s.data.toList ≠ Lib.decDigits k from fun k hk6 e => by
      refine hno k ?_
      rw [e, atoi_dec k (by omega)])
    clear HA
    go_wp2_with fail
    go_ret2
    exact ⟨0, false, rfl, fun k hk6 e => absurd e (hno.out k hk6), b1⟩
set_option maxHeartbeats 1000000 in
theorem number_c (s : ByteArray) (w : World) (hE : Env w) (hs : s.size ≤ 1048576) : Calls Tryz.prog 52 #[.string s] w (RetN w s) := by
  have HP := Lib.hid (parseInt_c s w hE hs)
  clear hE
  go_enter Tryz.func52, Tryz.ntmps52
  go_wp2_with fail
  refine HP.out.mono ?_
  rintro e w1 ⟨n, b, rfl, h1, b1⟩
  replace h1 := Lib.hid h1
  cases b
  · go_wp2_with fail
    go_ret
    exact ⟨_, rfl, fun k hk e => (by have := (h1.out k hk e).2; cases this), b1⟩
  · go_wp2_with fail
    go_ret
    exact ⟨n, rfl, fun k hk e => (h1.out k hk e).1, b1⟩
end Go.Proofs.YteainpflmofjaaaGreatDoor

namespace Go.Proofs.YteainpflmofjaaaGreatDoor
open Go.RowKit
theorem own_blk_ne {W : World} {lo hb : Nat} {a : Option Addr} {n c : Nat} {ws : List ByteArray} (ho : Own W lo 9 StrE.enc 1 (.slice a n c) ws) (hX : Blk W hb 34 cZero) : ∀ q, (Value.slice a n c).ownBlock = some q → q ≠ hb := fun q hq e => by
  subst e
  rcases ho.2 with ⟨e1, -⟩ | ⟨g, cap, cur, e1, -, hgb, -⟩
  · rw [e1] at hq; cases hq
  · rw [e1] at hq
    have e2 : g = q := Option.some.inj hq
    unfold Blk at hX
    rw [← e2, hgb] at hX
    have e3 := Option.some.inj hX
    injection e3 with _ e4
    exact absurd e4 (by decide)
theorem keepS {w1 W : World} {b off : Nat} {x y : Value} (h0 : w1.cell? ⟨b, off, none⟩ = some x) (h1 : w1.cell? ⟨b, off + 1, none⟩ = some y) (h : Below w1.heap.size w1 W) : (Below w1.heap.size w1 W ∧ w1.heap.size ≤ W.heap.size) ∧ W.cell? ⟨b, off, none⟩ = some x ∧ W.cell? ⟨b, off + 1, none⟩ = some y := ⟨⟨h, h.size⟩, cellOn h h0, cellOn h h1⟩
theorem CW.of {w W : World} {hb : Nat} {a : Option Addr} {c : Nat} {ws : List ByteArray} {lo : Nat} (hK : Blk W w.heap.size 34 cZero) (hX : Blk W hb 34 cZero) (ho : Own W lo 9 StrE.enc 1 (.slice a ws.length c) ws) (hlo : w.heap.size ≤ lo) (hB : Below w.heap.size w W) (hlt : w.heap.size < hb) (n y : Int) :
    CW w (((W.setCell ⟨hb, 0, none⟩ (.int .i64 n)).setCell ⟨hb, 1, none⟩ (.int .i64 y)).setCell ⟨hb, 2, none⟩ (.slice a ws.length c)) hb ⟨n, y, a, c, ws⟩ := by
  have x0 : Bx W w.heap.size 34 Crd.enc 3 hb ⟨0, 0, none, 0, []⟩ := ⟨rfl, .inr ⟨hb, 1, _, rfl, by omega, hX, Nat.le_refl _, by simp [maxLen], rfl, rfl⟩⟩
  have h1 := own_blk_ne ho hX
  have h2 := own_blk_ne ho hK
  have ho0 := Own.lower (lo' := w.heap.size) ho hlo
  obtain ⟨x1, g1⟩ := x0.store Crd.len ⟨n, 0, none, 0, []⟩ 0 (by omega) (.int .i64 n) rfl
  have ho1 := own_keep ho0 g1 (fun q hq e => h1 q hq (by injection e with e; exact e.symm))
  obtain ⟨x2, g2⟩ := x1.store Crd.len ⟨n, y, none, 0, []⟩ 1 (by omega) (.int .i64 y) rfl
  have ho2 := own_keep ho1 g2 (fun q hq e => h1 q hq (by injection e with e; exact e.symm))
  obtain ⟨x3, g3⟩ := x2.store Crd.len ⟨n, y, a, c, ws⟩ 2 (by omega) (.slice a ws.length c) rfl
  have ho3 := own_keep ho2 g3 (fun q hq e => h1 q hq (by injection e with e; exact e.symm))
  refine ⟨x3, ho3, ((hK.grown g1 (by omega)).grown g2 (by omega)).grown g3 (by omega), ((hB.setCell (by show w.heap.size ≤ hb; omega) _).setCell (by show w.heap.size ≤ hb; omega) _).setCell (by show w.heap.size ≤ hb; omega) _, hlt, fun q hq => ⟨h1 q hq, h2 q hq⟩⟩
set_option maxHeartbeats 8000000 in
set_option maxRecDepth 100000 in
theorem parseCard_c (s : ByteArray) (w : World) (hE : Env w) (hs : s.size ≤ 1048576) : Calls Tryz.prog 17 #[.string s] w (RetCard w s) := by
  have A0 := below_alloc w (.cells cZero.toArray 34)
  have HS := Lib.hid (split_c s (w.alloc (.cells cZero.toArray 34)) (hE.mono A0) hs)
  have K0 := Lib.hid (Blk.new w 34 cZero)
  unfold cZero at HS
  replace hE := Lib.hid hE
  go_enter Tryz.func17, Tryz.ntmps17
  go_wp2_with fail
  refine HS.out.mono ?_
  rintro e w1 ⟨v, ps, rfl, hO, hp, hpl, b1⟩
  have K1 := K0.out.mono b1
  have B1 := btrans A0 b1
  obtain ⟨a, cap, b, off, rfl, hlc, hm, hc⟩ := hO.sl StrE.len
  unfold maxLen at hm
  have hp' := Lib.hid hp
  clear A0 b1 HS K0
  by_cases h3 : ps.length < 3
  · have hno := pq_few hp h3
    have h3' : (ps.length : Int) < 3 := by omega
    clear hO hc hp
    replace hno := Lib.hid hno
    have hwl := K1.lt
    have k0 := K1.cell 0 _ rfl
    have k1 := K1.cell 1 _ rfl
    have k2 := K1.cell 2 _ rfl
    have f0 := K1.frozen 0
    have f1 := K1.frozen 1
    have f2 := K1.frozen 2
    replace K1 := Lib.hid K1
    replace B1 := Lib.hid B1
    go_wp2_with fail
    (try simp only [Exit.inBlock, Exit.then])
    refine bodyPost_ret (by simp [results, Tryz.results17, go_sem, k0, k1, k2]; try rfl) rfl ?_
    exact ⟨⟨0, 0, none, 0, []⟩, false, rfl, hno.out, Own.nil _ _ _ _ _, by simp, ((B1.out.setCell (Nat.le_refl _) _).setCell (Nat.le_refl _) _).setCell (Nat.le_refl _) _⟩
  have h3' : ¬ (ps.length : Int) < 3 := by omega
  obtain ⟨rfl, hbw, c1⟩ := StrE.at hc 1 (by omega)
  obtain ⟨-, -, c0⟩ := StrE.at hc 0 (by omega)
  rw [Nat.add_zero] at c0
  have hOd : Sl w1 StrE.enc 1 (.slice (some ⟨b, off + 2, none⟩) (ps.length - 2) (cap - 2)) (ps.drop 2) := by
    have H := (hO.sl StrE.len).drop (n := 2) (by omega)
    rwa [Nat.mul_one] at H
  have hx0 : 0 < ps.length := by omega
  have hx1 : 1 < ps.length := by omega
  have hx2 : (1 : Int) < (ps.length : Int) := by omega
  have hx3 : (2 : Int) ≤ (ps.length : Int) := by omega
  have hx4 : (0 : Int) < (ps.length : Int) := by omega
  have hck : ¬ cap = 2 := by omega
  have hck2 : ¬ (cap : Int) = 2 := by omega
  have hcc : (2 : Int) ≤ (cap : Int) := by omega
  have hq0 := parts_size hp 0 hx0
  have hq1 := parts_size hp 1 hx1
  have hF := Lib.hid (parts_fits hs hp)
  have hz1 := B1.size
  replace K1 := Lib.hid K1
  have hE1 := Lib.hid (hE.out.mono B1)
  clear hO hc hp
  go_upto_region 4 with fail
  have hE1m : ∀ W, Below w1.heap.size w1 W → Env W := fun W hB => hE1.out.mono hB
  have hst : ((⟨(Lib.trimSuffix (gd ps 1).data.toList [58]).toArray⟩ : ByteArray)).size ≤ 1048576 := by
    have h1 : (Lib.trimSuffix (gd ps 1).data.toList [58]).length ≤ (gd ps 1).data.toList.length := by
      unfold Lib.trimSuffix
      split
      · first | (simp; done) | (simp; omega)
      · exact Nat.le_refl _
    rw [ba_len] at h1
    show (Lib.trimSuffix (gd ps 1).data.toList [58]).toArray.size ≤ _
    simp; omega
  have HA := Lib.hid (fun W (hB : Below w1.heap.size w1 W) => number_c (gd ps 0) W (hE1m W hB) (by omega))
  have HT := Lib.hid (fun W => strings_TrimSuffix (gd ps 1) ⟨#[58]⟩ W (by omega))
  have HB := Lib.hid (fun W (hB : Below w1.heap.size w1 W) => number_c (⟨(Lib.trimSuffix (gd ps 1).data.toList [58]).toArray⟩ : ByteArray) W (hE1m W hB) hst)
  have HC := Lib.hid (fun W (hB : Below w1.heap.size w1 W) => cloneStr_c (.slice (some ⟨b, off + 2, none⟩) (ps.length - 2) (cap - 2)) (ps.drop 2) W (hOd.mono hB) (by simp; omega))
  clear hE1m hst hOd
  have hTr : Hid ((⟨(Lib.trimSuffix (gd ps 1).data.toList (⟨#[58]⟩ : ByteArray).data.toList).toArray⟩ : ByteArray) = ⟨(Lib.trimSuffix (gd ps 1).data.toList [58]).toArray⟩) := Lib.hid rfl
  replace HT : Hid (∀ W : World, Calls Tryz.prog 53 #[.string (gd ps 1), .string ⟨#[58]⟩] W fun e w' => e = .returned (.string ⟨(Lib.trimSuffix (gd ps 1).data.toList [58]).toArray⟩) ∧ w' = W) := HT
  generalize hg1 : (⟨(Lib.trimSuffix (gd ps 1).data.toList [58]).toArray⟩ : ByteArray) = t1 at HT HB
  replace hg1 := Lib.hid hg1
  generalize hgw : ps.drop 2 = ws at HC
  replace hgw := Lib.hid hgw
  have HSS : (Below w1.heap.size w1 w1 ∧ w1.heap.size ≤ w1.heap.size) ∧ w1.cell? ⟨b, off, none⟩ = some (.string (gd ps 0)) ∧ w1.cell? ⟨b, off + 1, none⟩ = some (.string (gd ps 1)) := ⟨⟨Below.refl _ _, Nat.le_refl _⟩, c0, c1⟩
  have D := drewOn w1
  have hc0 := Lib.hid c0
  have hc1 := Lib.hid c1
  clear c0 c1 hTr
  go_cut [5] from 8 (fun p W => ∃ (hb : Nat) (n y : Int) (a : Option Addr) (c : Nat), p = .pointer (some ⟨hb, 0, none⟩) ∧ Hid (NumP (gd ps 0) n) ∧ Hid (NumP t1 y) ∧ Hid (CW w W hb ⟨n, y, a, c, ws⟩))
  case first =>
    go_region_held3 (fun W => (Below w1.heap.size w1 W ∧ w1.heap.size ≤ W.heap.size) ∧ W.cell? ⟨b, off, none⟩ = some (.string (gd ps 0)) ∧ W.cell? ⟨b, off + 1, none⟩ = some (.string (gd ps 1))) (first | assumption | (refine keep2 (by assumption) (by assumption)) | (refine keep2 (below_alloc _ _) (by assumption)) | (refine keep2 (below_alloc _ _) ?_; exact Hid.out (by assumption)) | (exact keepS hc0.out hc1.out (((Below.setCell sK.out.1.1 (by first | exact Nat.le_refl _ | assumption | (dsimp only; omega) | (simp; done)) _).setCell (by first | exact Nat.le_refl _ | assumption | (dsimp only; omega) | (simp; done)) _).setCell (by first | exact Nat.le_refl _ | assumption | (dsimp only; omega) | (simp; done)) _)) | fail)
      (first | (go_at_call 52; first | ((with_reducible refine (HA.out _ (And.left (And.left (by assumption)))).mono ?_); rintro e w8 ⟨n0, rfl, hn0, b8⟩; replace hn0 := Lib.hid hn0; have sK : Hid ((Below w1.heap.size w1 w8 ∧ w1.heap.size ≤ w8.heap.size) ∧ w8.cell? ⟨b, off, none⟩ = some (.string (gd ps 0)) ∧ w8.cell? ⟨b, off + 1, none⟩ = some (.string (gd ps 1))) := Lib.hid (keep2 b8 (by assumption)); have sz := sK.out.1.2; (first | (replace zK := Lib.hid (zK.out.mono b8)) | (have zK : Hid (Blk w8 w1.heap.size 34 cZero) := Lib.hid (Blk.mono (Blk.new w1.drew 34 cZero) b8)) | (have zK := Lib.hid ((Blk.new _ 34 cZero).mono b8)) | skip)) | ((with_reducible refine (HB.out _ (And.left (And.left (by assumption)))).mono ?_); rintro e w8 ⟨y0, rfl, hy0, b8⟩; replace hy0 := Lib.hid hy0; have sK : Hid ((Below w1.heap.size w1 w8 ∧ w1.heap.size ≤ w8.heap.size) ∧ w8.cell? ⟨b, off, none⟩ = some (.string (gd ps 0)) ∧ w8.cell? ⟨b, off + 1, none⟩ = some (.string (gd ps 1))) := Lib.hid (keep2 b8 (by assumption)); have sz := sK.out.1.2; (first | (replace zK := Lib.hid (zK.out.mono b8)) | (have zK : Hid (Blk w8 w1.heap.size 34 cZero) := Lib.hid (Blk.mono (Blk.new w1.drew 34 cZero) b8)) | (have zK := Lib.hid ((Blk.new _ 34 cZero).mono b8)) | skip)) | fail) | (go_at_call 53; refine (HT.out _).mono ?_; rintro e w8 ⟨rfl, rfl⟩) | (go_at_call 54; refine (HC.out _ (And.left (And.left (by assumption)))).mono ?_; rintro e w8 ⟨v8, rfl, o8, b8⟩; obtain ⟨a8, c8, b88, f8, rfl, -, -, -⟩ := o8.sl StrE.len; replace o8 := Lib.hid o8; have sK : Hid ((Below w1.heap.size w1 w8 ∧ w1.heap.size ≤ w8.heap.size) ∧ w8.cell? ⟨b, off, none⟩ = some (.string (gd ps 0)) ∧ w8.cell? ⟨b, off + 1, none⟩ = some (.string (gd ps 1))) := Lib.hid (keep2 b8 (by assumption)); have sz := sK.out.1.2; (first | (replace zK := Lib.hid (zK.out.mono b8)) | (have zK : Hid (Blk w8 w1.heap.size 34 cZero) := Lib.hid (Blk.mono (Blk.new w1.drew 34 cZero) b8)) | (have zK := Lib.hid ((Blk.new _ 34 cZero).mono b8)) | skip); (first | (have q0 := zK.out.cell 0 _ rfl; have q1 := zK.out.cell 1 _ rfl; have q2 := zK.out.cell 2 _ rfl; have p0 := zK.out.frozen 0; have p1 := zK.out.frozen 1; have p2 := zK.out.frozen 2; have pl := zK.out.lt) | skip)) | fail)
    all_goals (
      have hKw := K1.out.lt
      have hBw := btrans B1 sK.out.1.1
      have kk := K1.out.mono sK.out.1.1
      go_wp2_with fail
      go_meet
      case rel => exact ⟨_, n0, y0, a8, c8, rfl, hn0, hy0, Lib.hid (by first | exact CW.of kk zK.out o8.out (by first | omega | (simp; omega)) hBw (by omega) n0 y0 | exact CW.start kk (Own.lower (lo' := w.heap.size) o8.out (by first | omega | (simp; omega))) hBw n0 y0)⟩)
  clear HA HT HB HC HSS D hc0 hc1
  obtain ⟨hb, n, y, a, c, rfl, hn, hy, X5⟩ := hcut
  generalize wc = w5 at *
  have hy2 : NumP ⟨(Lib.trimSuffix (gd ps 1).data.toList [58]).toArray⟩ y := by rw [hg1.out]; exact hy.out
  have hPQ := pq_gen (a := a) (c := c) hp'.out hn.out (yr_trim hy2)
  rw [hgw.out] at hPQ
  replace hPQ := Lib.hid hPQ
  have hF2 : Hid (StrE.Fits ws) := by
    rw [← hgw.out]
    exact Lib.hid (fun i hi => by rw [gd_drop]; exact hF.out (2 + i) (by simp at hi; omega))
  have hwl6 : ws.length ≤ 1048577 := by rw [← hgw.out]; simp; omega
  have hE5 := Lib.hid (hE.out.mono X5.out.2.2.2.1)
  have HT := cardText_c (⟨n, y, a, c, ws⟩ : Crd) w5 (X5.out.2.1.sl StrE.len) hF2.out hE5.out.tab
  clear hn hy hy2 hg1 hgw hF hE5
  obtain ⟨⟨s1, s2⟩, ⟨y0, y1, y2⟩, -⟩ := X5.out.cells
  dsimp only at y0 y1 y2 HT
  cases hA : isCrd (⟨n, y, a, c, ws⟩ : Crd)
  · have hS0 : cdS (⟨n, y, a, c, ws⟩ : Crd) = ⟨#[]⟩ := by rw [cdS, hA]; rfl
    rw [hA, hS0] at HT
    replace HT := Lib.hid HT
    have hno := Lib.hid (hPQ.out.2 (fun h => by rw [hA] at h; exact absurd h.1 (by simp)))
    clear hA hS0
    go_wp2_with fail
    refine HT.out.mono ?_
    rintro e w8 ⟨rfl, b8⟩
    have X8 := Lib.hid (X5.out.mono b8)
    clear y0 y1 y2 s1 s2 b8 X5 HT
    have hwl := X8.out.cells.1.2
    have K8 := X8.out.2.2.1
    have k0 := K8.cell 0 _ rfl
    have k1 := K8.cell 1 _ rfl
    have k2 := K8.cell 2 _ rfl
    have f0 := K8.frozen 0
    have f1 := K8.frozen 1
    have f2 := K8.frozen 2
    obtain ⟨⟨s1, s2⟩, ⟨y0, y1, y2⟩, -⟩ := X8.out.cells
    replace K8 := Lib.hid K8
    have B8 := Lib.hid X8.out.2.2.2.1
    dsimp only at y0 y1 y2
    go_wp2_with fail
    (try simp only [Exit.inBlock, Exit.then])
    refine bodyPost_ret (by simp [results, Tryz.results17, go_sem, k0, k1, k2]; try rfl) rfl ?_
    exact ⟨⟨0, 0, none, 0, []⟩, false, rfl, hno.out, Own.nil _ _ _ _ _, by simp, ((B8.out.setCell (Nat.le_refl _) _).setCell (Nat.le_refl _) _).setCell (Nat.le_refl _) _⟩
  · have hS1 : cdS (⟨n, y, a, c, ws⟩ : Crd) = cdT (⟨n, y, a, c, ws⟩ : Crd) ws.length := by rw [cdS, hA]; rfl
    rw [hA, hS1] at HT
    clear hS1
    generalize hT : cdT (⟨n, y, a, c, ws⟩ : Crd) ws.length = tx at HT hPQ
    replace hT := Lib.hid hT
    replace HT := Lib.hid HT
    cases hq : (tx.toList == s.toList)
    · have hno := Lib.hid (hPQ.out.2 (fun h => by rw [h.2] at hq; simp at hq))
      replace hA := Lib.hid hA
      go_wp2_with fail
      refine HT.out.mono ?_
      rintro e w8 ⟨rfl, b8⟩
      have X8 := Lib.hid (X5.out.mono b8)
      clear y0 y1 y2 s1 s2 b8 X5 HT
      have hwl := X8.out.cells.1.2
      have K8 := X8.out.2.2.1
      have k0 := K8.cell 0 _ rfl
      have k1 := K8.cell 1 _ rfl
      have k2 := K8.cell 2 _ rfl
      have f0 := K8.frozen 0
      have f1 := K8.frozen 1
      have f2 := K8.frozen 2
      obtain ⟨⟨s1, s2⟩, ⟨y0, y1, y2⟩, -⟩ := X8.out.cells
      replace K8 := Lib.hid K8
      have B8 := Lib.hid X8.out.2.2.2.1
      dsimp only at y0 y1 y2
      go_wp2_with fail
      (try simp only [Exit.inBlock, Exit.then])
      refine bodyPost_ret (by simp [results, Tryz.results17, go_sem, k0, k1, k2]; try rfl) rfl ?_
      exact ⟨⟨0, 0, none, 0, []⟩, false, rfl, hno.out, Own.nil _ _ _ _ _, by simp, ((B8.out.setCell (Nat.le_refl _) _).setCell (Nat.le_refl _) _).setCell (Nat.le_refl _) _⟩
    · have hyes := Lib.hid (hPQ.out.1 hA (toList_inj (eq_of_beq hq)))
      replace hA := Lib.hid hA
      go_wp2_with fail
      refine HT.out.mono ?_
      rintro e w8 ⟨rfl, b8⟩
      have X8 := Lib.hid (X5.out.mono b8)
      clear y0 y1 y2 s1 s2 b8 X5 HT
      have hwl := X8.out.cells.1.2
      have K8 := X8.out.2.2.1
      have k0 := K8.cell 0 _ rfl
      have k1 := K8.cell 1 _ rfl
      have k2 := K8.cell 2 _ rfl
      have f0 := K8.frozen 0
      have f1 := K8.frozen 1
      have f2 := K8.frozen 2
      obtain ⟨⟨s1, s2⟩, ⟨y0, y1, y2⟩, -⟩ := X8.out.cells
      replace K8 := Lib.hid K8
      have B8 := Lib.hid X8.out.2.2.2.1
      dsimp only at y0 y1 y2
      go_wp2_with fail
      (try simp only [Exit.inBlock, Exit.then])
      refine bodyPost_ret (by simp [results, Tryz.results17, go_sem, k0, k1, k2]; try rfl) rfl ?_
      have G : w8.grownBy (((w8.setCell ⟨w.heap.size, 0, none⟩ (.int .i64 n)).setCell ⟨w.heap.size, 1, none⟩ (.int .i64 y)).setCell ⟨w.heap.size, 2, none⟩ (.slice a ws.length c)) (some w.heap.size) := only_set (only_set (only_set (World.grownBy.refl _ _)))
      exact ⟨⟨n, y, a, c, ws⟩, true, rfl, hyes.out, own_keep X8.out.2.1 G (fun q hq e => (X8.out.2.2.2.2.2 q hq).2 (by injection e with e; exact e.symm)), hwl6, ((B8.out.setCell (Nat.le_refl _) _).setCell (Nat.le_refl _) _).setCell (Nat.le_refl _) _⟩
end Go.Proofs.YteainpflmofjaaaGreatDoor

namespace Go.Proofs.YteainpflmofjaaaGreatDoor
open Go.RowKit
section
variable {H : Type} {enc : TypeId × Value → H}
theorem returnsInHanded_and_shaped {a : Assume} {C : Checked} {os : Os} {f : FuncId} {fn : Func} {s : ChangeSpec} {conds : List PathCond} {apart fresh handsOn again : Bool} {X : World → Array Value → Prop}
    (hX : ∀ (w w' : World) (args : Array Value), w.heap = w'.heap → X w args → X w' args)
    (own : ownKnob C.prog.godebug = none) (started : os.Started) (noInit : C.prog.inits.idxOf? f = none) (hfn : C.prog.funcs[f]? = some fn)
    (witness : ∃ (w : World) (tape : Tape) (i : Input), w.os = os ∧ (w.forCall tape i).Shaped C.prog ∧ i.vars = [] ∧ Input.okWide C.prog (w.forCall tape i) .any w.heap.size f i ∧
      ((s.pre enc C.prog fn conds apart (w.forCall tape i).memory i.args ∧ X (w.forCall tape i).memory i.args) ∧ sizedMet enc C.prog fn (OpenSpec.ofChange s) apart (w.forCall tape i).memory i.args) ∧ a.holds C.prog (lone (Frame.enter C.prog f i.args .normal) [] (w.forCall tape i)))
    (contract : ∀ (W : World) (base : Nat) (args : Array Value) (ds gs : List (DataW H)) (before : List MemPlace),
      (∀ (j : Nat) t v, fn.params[j]? = some t → args[j]? = some v → Value.okWide C.prog W .any base t v) →
      DataW.Whole enc C.prog fn.params.toList s.vars apart W args.toList ds gs before →
      X W args → W.ShapedOpen C.prog →
      Calls C.prog f args W fun e W' => ∃ v, e = .returned v ∧ s.post enc C.prog fn apart fresh handsOn again W args v W') :
    ReturnsInHanded a C os f .any (fun w args => (s.pre enc C.prog fn conds apart w args ∧ X w args) ∧ sizedMet enc C.prog fn (OpenSpec.ofChange s) apart w args) (s.post enc C.prog fn apart fresh handsOn again) := by
  refine returnsInHanded_of_calls own started noInit witness ?_
  intro w tape i _ hsh _ hok hpre _
  obtain ⟨_, _, _, fn', hfn', _, _, _, _, hval⟩ := hok
  have e : fn' = fn := Option.some.inj (hfn'.symm.trans hfn)
  subst e
  obtain ⟨⟨⟨ds, gs, before, hw, _⟩, hx⟩, _⟩ := hpre
  have hw' := DataW.Whole.of_heap (w' := w.forCall tape i) (by rfl) hw
  refine (contract (w.forCall tape i) w.heap.size i.args ds gs before hval hw' (hX _ _ _ (by rfl) hx) hsh).mono fun e W' ⟨v, he, hp⟩ => ?_
  subst he
  exact ChangeSpec.post_blind hp
end
set_option maxRecDepth 100000
theorem star_err : "*" ++ "errors.errorString" = "*errors.errorString" := by decide
theorem row_err (u : TypeId) (h : Tryz.prog.typeName? 3 u = some "*errors.errorString") : u = 145 :=
  typeName_ptr_named (nm := "errors.errorString") (by rw [star_err]; kernel_rfl) (by kernel_rfl) (by decide) u (by rw [star_err]; exact h)
theorem cErrS : Tryz.prog.cellsOf 147 = 1 := by kernel_rfl
theorem cStr1 : Tryz.prog.cellsOf 9 = 1 := by kernel_rfl
/-- a variable that holds one of Go's own errors -/
theorem sent_of {W : World} {n : String} {g : Nat} {text : List UInt8} (h : laidMet Tryz.prog [(n, .iface "*errors.errorString" (.ptr (.agg [.lit (.string text)])))] W) (hg : Tryz.prog.globalNamed n = some g) (ht : (Tryz.prog.globals[g]?).map (·.type) = some 90) : ∃ v, W.cell? ⟨g, 0, none⟩ = some v ∧ ErrV v := by
  obtain ⟨a, s, hv, -, -, -⟩ := laid_sentinel h hg ht Tryz.underlying90 row_err Tryz.underlying145 Tryz.underlying147 rfl rfl Tryz.underlying9 cErrS cStr1
  exact ⟨_, by simpa using World.var?_cell hg hv 0, .inr ⟨_, _, rfl⟩⟩
/-- what the row's condition gives -/
theorem env_of {W : World} (h : laidMetH Tryz.prog Rows.fnCardsRow.laid W) (hs : W.ShapedOpen Tryz.prog) : Env W := by
  refine ⟨?_, laysM146.s1_3 W hs, ?_, ?_⟩
  · have h2 := h.filter (fun x => x.1 == "internal/strconv.uint64pow10")
    have e : (Rows.fnCardsRow.laid.filter fun x => x.1 == "internal/strconv.uint64pow10") = [("internal/strconv.uint64pow10", Lib.tabData .u64 Lib.pow10Tab)] := by kernel_rfl
    rw [e, MakeChecks.laidMetH_plain _ _ _ (by kernel_rfl)] at h2
    exact Lib.tabIs_of_head (P := Tryz.prog) (g := 1) (t := 127) (e := 46) (by kernel_rfl) (by kernel_rfl) Tryz.underlying127 Tryz.underlying46 (by kernel_rfl) (by kernel_rfl) h2
  · have h2 := h.filter (fun x => x.1 == "strconv.ErrSyntax")
    have e : (Rows.fnCardsRow.laid.filter fun x => x.1 == "strconv.ErrSyntax") = [("strconv.ErrSyntax", Rows.laid_strconv_ErrSyntax)] := by kernel_rfl
    rw [e, MakeChecks.laidMetH_plain _ _ _ (by kernel_rfl)] at h2
    exact sent_of h2 laysC172.m15 (by kernel_rfl)
  · have h2 := h.filter (fun x => x.1 == "strconv.ErrRange")
    have e : (Rows.fnCardsRow.laid.filter fun x => x.1 == "strconv.ErrRange") = [("strconv.ErrRange", Rows.laid_strconv_ErrRange)] := by kernel_rfl
    rw [e, MakeChecks.laidMetH_plain _ _ _ (by kernel_rfl)] at h2
    exact sent_of h2 laysC172.m16 (by kernel_rfl)
end Go.Proofs.YteainpflmofjaaaGreatDoor
