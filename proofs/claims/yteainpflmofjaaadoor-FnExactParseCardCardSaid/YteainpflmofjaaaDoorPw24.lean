/- Reading a card, by the reference. No condition but sizes. -/
import Derived.Test.YteainpflmofjaaaDoorSl24
import Derived.Test.YteainpflmofjaaaDoorRd24
import Derived.Test.YteainpflmofjaaaDoorSd
import Derived.Test.YteainpflmofjaaaDoorNs
import Derived.Test.YteainpflmofjaaaDoorMark
import Derived.Deep.Cut
namespace Go.Proofs.YteainpflmofjaaaDoor
open Go.RowKit
def cZero : List Value := [.int .i64 0, .int .i64 0, .slice none 0 0]
/-- what a reading of a card leaves -/
def RetCard (w : World) (s : ByteArray) (e : Ending) (w' : World) : Prop := ∃ (x : Crd) (ok : Bool), e = .returned (.tuple #[.agg #[.int .i64 x.id, .int .i64 x.yr, .slice x.a x.sub.length x.cap], .bool ok]) ∧ PQ s ok x ∧ Own w' w.heap.size 9 StrE.enc 1 (.slice x.a x.sub.length x.cap) x.sub ∧ x.sub.length ≤ 1048577 ∧ Below w.heap.size w w'
theorem spl_le (c : UInt8) : ∀ (l : List UInt8), ∀ q, q ∈ spl c l → q.length ≤ l.length
  | [], q, h => by simp [spl] at h; subst h; simp
  | b :: l, q, h => by
    have ih := spl_le c l
    unfold spl at h
    split at h
    · rcases List.mem_cons.1 h with rfl | h
      · simp
      · exact Nat.le_succ_of_le (ih q h)
    · cases hs : spl c l with
      | nil => exact absurd hs (spl_ne c l)
      | cons y t =>
        rw [hs] at h ih
        dsimp only at h
        rcases List.mem_cons.1 h with rfl | h
        · have := ih y List.mem_cons_self
          simpa using this
        · exact Nat.le_succ_of_le (ih q (List.mem_cons_of_mem _ h))
theorem parts_size {s : ByteArray} {ps : List ByteArray} (hp : ps.map (·.data.toList) = spl 32 s.data.toList) (i : Nat) (hi : i < ps.length) : (gd ps i).size ≤ s.size := by
  have hm : (gd ps i).data.toList ∈ spl 32 s.data.toList := by
    rw [← hp, gd_get hi]
    exact List.mem_map.2 ⟨ps[i], List.getElem_mem hi, rfl⟩
  have := spl_le 32 _ _ hm
  rwa [ba_len, ba_len] at this
theorem parts_fits {s : ByteArray} {ps : List ByteArray} (hs : s.size ≤ 1048576) (hp : ps.map (·.data.toList) = spl 32 s.data.toList) : StrE.Fits ps := fun i hi => by
  have := parts_size hp i hi
  show (gd ps i).size ≤ maxLen
  unfold maxLen; omega
theorem toList_inj {a b : ByteArray} (h : a.toList = b.toList) : a = b := by
  apply ByteArray.ext
  apply Array.toList_inj.1
  rwa [ByteArray.toList_eq, ByteArray.toList_eq] at h
/-- the card's box beside the result's box -/
def CW (w W : World) (hb : Nat) (x : Crd) : Prop := Bx W w.heap.size 24 Crd.enc 3 hb x ∧ Own W w.heap.size 9 StrE.enc 1 (.slice x.a x.sub.length x.cap) x.sub ∧ Blk W w.heap.size 24 cZero ∧ Below w.heap.size w W ∧ w.heap.size < hb ∧ (∀ q, (Value.slice x.a x.sub.length x.cap).ownBlock = some q → q ≠ hb ∧ q ≠ w.heap.size)
theorem CW.mono {w W W' : World} {hb : Nat} {x : Crd} (h : CW w W hb x) (hb2 : Below W.heap.size W W') : CW w W' hb x :=
  ⟨h.1.mono hb2, h.2.1.mono hb2, h.2.2.1.mono hb2, h.2.2.2.1.trans (hb2.mono h.2.2.2.1.size), h.2.2.2.2⟩
theorem CW.scal {w W : World} {hb : Nat} {x : Crd} (h : CW w W hb x) (z : Crd) (j : Nat) (hj : j < 3) (u : Value) (hz : z.enc = x.enc.set j u) (h1 : Value.slice z.a z.sub.length z.cap = .slice x.a x.sub.length x.cap) (h2 : z.sub = x.sub) : CW w (W.setCell ⟨hb, j, none⟩ u) hb z := by
  obtain ⟨a1, a2, a3, a4, a5, a6⟩ := h
  obtain ⟨b1, b2⟩ := a1.store Crd.len z j hj u hz
  refine ⟨b1, ?_, a3.grown b2 (by omega), a4.setCell (by show w.heap.size ≤ hb; omega) _, a5, by rw [h1]; exact a6⟩
  rw [h1, h2]
  exact own_keep a2 b2 (fun q hq e => (a6 q hq).1 (by injection e with e; exact e.symm))
theorem CW.cells {w W : World} {hb : Nat} {x : Crd} (h : CW w W hb x) : (hb < W.heap.size ∧ w.heap.size < W.heap.size) ∧ (W.cell? ⟨hb, 0, none⟩ = some (.int .i64 x.id) ∧ W.cell? ⟨hb, 1, none⟩ = some (.int .i64 x.yr) ∧ W.cell? ⟨hb, 2, none⟩ = some (.slice x.a x.sub.length x.cap)) ∧ (∀ j, W.frozen? ⟨hb, j, none⟩ = false) :=
  ⟨⟨h.1.lt.2, h.2.2.1.lt⟩, ⟨h.1.cell Crd.len 0 _ rfl, h.1.cell Crd.len 1 _ rfl, h.1.cell Crd.len 2 _ rfl⟩, h.1.frozen⟩
theorem CW.start {w w2 : World} {a2 : Option Addr} {cap2 : Nat} {ws : List ByteArray} (hK : Blk w2 w.heap.size 24 cZero) (ho : Own w2 w.heap.size 9 StrE.enc 1 (.slice a2 ws.length cap2) ws) (hB : Below w.heap.size w w2) (n y : Int) : CW w (w2.alloc (.cells #[.int .i64 n, .int .i64 y, .slice a2 ws.length cap2] 24)) w2.heap.size ⟨n, y, a2, cap2, ws⟩ :=
  ⟨Bx.new (tE := 24) Crd.len w2 w.heap.size hB.size (⟨n, y, a2, cap2, ws⟩ : Crd), ho.mono (below_alloc _ _), hK.mono (below_alloc _ _), hB.trans ((below_alloc _ _).mono hB.size), hK.lt, fun q hq => ⟨fun e => by
    have := (ho.bounds q hq).2
    omega, fun e => by
    subst e
    rcases ho.2 with ⟨e1, -⟩ | ⟨g, cap, cur, e1, -, hgb, -⟩
    · rw [e1] at hq; cases hq
    · rw [e1] at hq
      have e2 : g = w.heap.size := Option.some.inj hq
      unfold Blk at hK
      rw [← e2, hgb] at hK
      have e3 := Option.some.inj hK
      injection e3 with _ e4
      exact absurd e4 (by decide)⟩⟩
set_option maxHeartbeats 8000000 in
set_option maxRecDepth 100000 in
theorem specParseCard_c (s : ByteArray) (w : World) (hs : s.size ≤ 1048576) : Calls Tryd.prog 6 #[.string s] w (RetCard w s) := by
  have A0 := below_alloc w (.cells cZero.toArray 24)
  have HS := Lib.hid (l1Split_c s (w.alloc (.cells cZero.toArray 24)) hs)
  have K0 := Lib.hid (Blk.new w 24 cZero)
  obtain ⟨i', hi', hy0, hy1, hy2⟩ := info_parts (show (Tryd.prog.info? 9).map (fun i => (i.zero, i.size, i.bytes)) = some (some (.string ByteArray.empty), 1, 16) by kernel_rfl)
  unfold cZero at HS
  go_enter Tryd.func6, Tryd.ntmps6
  go_wp2_with fail
  refine HS.out.mono ?_
  rintro e w1 ⟨v, ps, rfl, hO, hp, hpl, b1⟩
  have K1 := K0.out.mono b1
  have B1 := btrans A0 b1
  have hOl := hO.lower (lo' := w.heap.size) (by simp)
  obtain ⟨a, cap, b, off, rfl, hlc, hm, hc⟩ := hO.sl StrE.len
  unfold maxLen at hm
  have hp' := Lib.hid hp
  clear A0 b1 HS K0
  by_cases hbad1 : 90 < s.size
  · have hno := pq_look hp (.inl hbad1)
    have hb1 : (90 : Int) < (s.size : Int) := by omega
    clear hO hOl hc hp
    replace hno := Lib.hid hno
    have hwl := K1.lt
    have k0 := K1.cell 0 _ rfl
    have k1 := K1.cell 1 _ rfl
    have k2 := K1.cell 2 _ rfl
    have f0 := K1.frozen 0
    have f1 := K1.frozen 1
    have f2 := K1.frozen 2
    replace K1 := Lib.hid K1
    replace B1 := Lib.hid B1
    go_wp2_with fail
    (try simp only [Exit.inBlock, Exit.then])
    refine bodyPost_ret (by simp [results, Tryd.results6, go_sem, k0, k1, k2]; try rfl) rfl ?_
    exact ⟨⟨0, 0, none, 0, []⟩, false, rfl, hno.out, Own.nil _ _ _ _ _, by simp, ((B1.out.setCell (Nat.le_refl _) _).setCell (Nat.le_refl _) _).setCell (Nat.le_refl _) _⟩
  have hb1 : ¬ (90 : Int) < (s.size : Int) := by omega
  by_cases hin : inB (ps.length : Int) 3 8 = true
  rotate_left
  · have hin' : inB (ps.length : Int) 3 8 = false := by simpa using hin
    have hno := pq_look hp (by
      by_cases h3 : ps.length < 3
      · exact .inr (.inl h3)
      · refine .inr (.inr (.inl ?_))
        have : ¬ (3 ≤ (ps.length : Int) ∧ (ps.length : Int) ≤ 8) := fun h => hin (inB_iff.2 h)
        omega)
    have HI := Lib.hid (by have H := l1In_c (ps.length : Int) 3 8 w1; rw [hin'] at H; exact H)
    clear hO hOl hc hp hin hin'
    replace hno := Lib.hid hno
    have hwl := K1.lt
    have k0 := K1.cell 0 _ rfl
    have k1 := K1.cell 1 _ rfl
    have k2 := K1.cell 2 _ rfl
    have f0 := K1.frozen 0
    have f1 := K1.frozen 1
    have f2 := K1.frozen 2
    replace K1 := Lib.hid K1
    replace B1 := Lib.hid B1
    go_wp2_with (go_at_call 36; refine (HI.out).mono ?_; rintro e w' ⟨rfl, rfl⟩)
    (try simp only [Exit.inBlock, Exit.then])
    refine bodyPost_ret (by simp [results, Tryd.results6, go_sem, k0, k1, k2]; try rfl) rfl ?_
    exact ⟨⟨0, 0, none, 0, []⟩, false, rfl, hno.out, Own.nil _ _ _ _ _, by simp, ((B1.out.setCell (Nat.le_refl _) _).setCell (Nat.le_refl _) _).setCell (Nat.le_refl _) _⟩
  have hn38 := inB_iff.1 hin
  have HI := Lib.hid (by have H := l1In_c (ps.length : Int) 3 8 w1; rw [hin] at H; exact H)
  clear hin
  obtain ⟨rfl, hbw, c1⟩ := StrE.at hc 1 (by omega)
  obtain ⟨-, -, c0⟩ := StrE.at hc 0 (by omega)
  rw [Nat.add_zero] at c0
  have hcap1 : 2 ≤ cap := by omega
  have hx0 : 0 < ps.length := by omega
  have hx1 : 1 < ps.length := by omega
  have hx2 : (1 : Int) < (ps.length : Int) := by omega
  have hx3 : (2 : Int) ≤ (ps.length : Int) := by omega
  replace hn38 := Lib.hid hn38
  by_cases hsz : (gd ps 1).size = 5
  rotate_left
  · have hno := pq_look hp (.inr (.inr (.inr hsz)))
    have hsz2 : ¬ (((gd ps 1).size : Nat) : Int) = 5 := by omega
    have hsz3 : ((((gd ps 1).size : Nat) : Int) != 5) = true := by rw [bne_iff_ne]; exact hsz2
    clear hO hOl hc hp
    generalize gd ps 1 = p1 at c1 hsz hsz2 hsz3
    replace hno := Lib.hid hno
    have hwl := K1.lt
    have k0 := K1.cell 0 _ rfl
    have k1 := K1.cell 1 _ rfl
    have k2 := K1.cell 2 _ rfl
    have f0 := K1.frozen 0
    have f1 := K1.frozen 1
    have f2 := K1.frozen 2
    replace K1 := Lib.hid K1
    replace B1 := Lib.hid B1
    go_wp2_with (go_at_call 36; refine (HI.out).mono ?_; rintro e w' ⟨rfl, rfl⟩)
    (try simp only [Exit.inBlock, Exit.then])
    refine bodyPost_ret (by simp [results, Tryd.results6, go_sem, k0, k1, k2]; try rfl) rfl ?_
    exact ⟨⟨0, 0, none, 0, []⟩, false, rfl, hno.out, Own.nil _ _ _ _ _, by simp, ((B1.out.setCell (Nat.le_refl _) _).setCell (Nat.le_refl _) _).setCell (Nat.le_refl _) _⟩
  have hOd : Sl w1 StrE.enc 1 (.slice (some ⟨b, off + 2, none⟩) (ps.length - 2) (cap - 2)) (ps.drop 2) := by
    have H := (hO.sl StrE.len).drop (n := 2) (by omega)
    rwa [Nat.mul_one] at H
  have hq1 := parts_size hp 1 hx1
  have hF := Lib.hid (parts_fits hs hp)
  replace hOd := Lib.hid hOd
  have hck : ¬ cap = 2 := by have := hn38.out; omega
  have hck2 : ¬ (cap : Int) = 2 := by have := hn38.out; omega
  clear hO hOl hc hp
  have hszg : ((((gd ps 1).size : Nat) : Int) != 5) = false := by rw [hsz]; rfl
  have hszI : (((gd ps 1).size : Nat) : Int) = 5 := by omega
  have hz1 := B1.size
  replace K1 := Lib.hid K1
  go_upto_region 5 with (go_at_call 36; refine (HI.out).mono ?_; rintro e w' ⟨rfl, rfl⟩)
  go_wp2_with (at_builtin; refine wpList_cat StrE.len StrE.one rfl (.tmp 27) (.tmp 29) 22 rfl w.heap.size 9 i' _ 16 Tryd.underlying22 hi' hy0 hy1 hy2 rfl (by omega) (.slice (some ⟨w1.heap.size, 0, none⟩) 0 0) ([] : List ByteArray) rfl (Own.emptyAt (by simp) hz1) _ (ps.drop 2) rfl (hOd.out.mono (below_alloc _ _)) (by unfold maxLen; simp; omega) (by simp; omega) (by simp; omega) ?_)
  intro v2 w2 o2 g2
  have B2 := below_push (lo := w.heap.size) (B1.trans ((below_alloc _ _).mono hz1)) (Own.emptyAt (α := ByteArray) (enc := StrE.enc) (k := 1) rfl hz1) g2 (Nat.le_refl _) (by simp; omega)
  have b12 : Below w1.heap.size w1 w2 := (below_alloc w1 _).grown g2 (by simp) (fun q hq => by
    have : w1.heap.size = q := Option.some.inj hq
    omega)
  generalize hws : ps.drop 2 = ws at *
  replace hws := Lib.hid hws
  obtain ⟨a2, cap2, b2', off2, rfl, -, -, -⟩ := o2.sl StrE.len
  have d0 := cellOn b12 c0
  have d1 := cellOn b12 c1
  have K2 := Lib.hid (K1.out.mono b12)
  have hbb : b < w2.heap.size := block_lt_of_cell d0
  go_upto_region 6 with fail
  refine wpAt fun W3 hW3 => ?_
  have X3 : Hid (CW w W3 w2.heap.size ⟨0, 0, a2, cap2, ws⟩) := by rw [hW3]; exact Lib.hid (CW.start K2.out o2 B2 0 0)
  have b23 : Below w2.heap.size w2 W3 := by rw [hW3]; exact below_alloc _ _
  replace d0 := cellOn b23 d0
  replace d1 := cellOn b23 d1
  have hne : b ≠ w2.heap.size := by omega
  have hq0 := parts_size hp'.out 0 hx0
  clear hW3 b23 o2 hOd K2 B2
  generalize w2.heap.size = hb at *
  go_wp2_with fail
  refine (l1Read_c (gd ps 0) _ (by omega)).mono ?_
  rintro e w4 ⟨n0, t0, rfl, hn0, b4⟩
  replace X3 := Lib.hid (X3.out.mono b4)
  replace d1 := cellOn b4 d1
  replace hn0 := Lib.hid hn0
  clear b4 d0
  obtain ⟨⟨s1, s2⟩, ⟨y0, y1, y2⟩, hfz⟩ := X3.out.cells
  have z0 := hfz 0
  have X5 := Lib.hid (X3.out.scal ⟨n0, 0, a2, cap2, ws⟩ 0 (by omega) (.int .i64 n0) rfl rfl rfl)
  go_upto_region 7 with fail
  refine wpAt fun W5 hW5 => ?_
  replace X5 : Hid (CW w W5 hb ⟨n0, 0, a2, cap2, ws⟩) := by rw [hW5]; exact X5
  replace d1 : W5.cell? ⟨b, off + 1, none⟩ = some (.string (gd ps 1)) := by rw [hW5]; exact cellGrown d1 (only_setCell (World.grownBy.refl _ _) ⟨hb, 0, none⟩ rfl _) (fun e => hne (Option.some.inj e))
  clear hW5 X3 y0 y1 y2 z0 hfz s1 s2
  have hd1b := block_lt_of_cell d1
  have h4s : (4 : Int) ≤ (((gd ps 1).size : Nat) : Int) := by omega
  go_wp2_with fail
  have hsz4 : ((gd ps 1).extract 0 4).size ≤ 1048576 := by simp; omega
  refine (l1Read_c ((gd ps 1).extract 0 4) _ hsz4).mono ?_
  rintro e w6 ⟨n1, t1, rfl, hn1, b6⟩
  replace X5 := Lib.hid (X5.out.mono b6)
  have hPQ := pq_gen (a := a2) (c := cap2) hp'.out hn0.out (yr_four hn1)
  rw [hws.out] at hPQ
  replace hPQ := Lib.hid hPQ
  have hF2 : Hid (StrE.Fits ws) := by
    rw [← hws.out]
    exact Lib.hid (fun i hi => by rw [gd_drop]; exact hF.out (2 + i) (by simp at hi; omega))
  have hwl6 : ws.length ≤ 1048577 := by rw [← hws.out]; simp; omega
  clear b6 d1 hn1 hsz4 h4s hd1b
  obtain ⟨⟨s1, s2⟩, ⟨y0, y1, y2⟩, hfz⟩ := X5.out.cells
  have z1 := hfz 1
  have X7 := Lib.hid (X5.out.scal ⟨n0, n1, a2, cap2, ws⟩ 1 (by omega) (.int .i64 n1) rfl rfl rfl)
  go_upto_region 8 with fail
  refine wpAt fun W7 hW7 => ?_
  replace X7 : Hid (CW w W7 hb ⟨n0, n1, a2, cap2, ws⟩) := by rw [hW7]; exact X7
  clear hW7 X5 y0 y1 y2 z1 hfz s1 s2
  obtain ⟨⟨s1, s2⟩, ⟨y0, y1, y2⟩, -⟩ := X7.out.cells
  dsimp only at y0 y1 y2
  have HO := l24One_c (⟨n0, n1, a2, cap2, ws⟩ : Crd) W7 (X7.out.2.1.sl StrE.len) hF2.out
  cases hA : isCrd (⟨n0, n1, a2, cap2, ws⟩ : Crd)
  · rw [hA] at HO
    replace HO := Lib.hid HO
    have hno := Lib.hid (hPQ.out.2 (fun h => by rw [hA] at h; exact absurd h.1 (by simp)))
    clear hA
    go_upto_if 57 with (go_at_call 38; refine HO.out.mono ?_; rintro e w8 ⟨rfl, b8⟩)
    have X8 := Lib.hid (X7.out.mono b8)
    clear y0 y1 y2 s1 s2 b8 X7
    have hwl := X8.out.cells.1.2
    have K8 := X8.out.2.2.1
    have k0 := K8.cell 0 _ rfl
    have k1 := K8.cell 1 _ rfl
    have k2 := K8.cell 2 _ rfl
    have f0 := K8.frozen 0
    have f1 := K8.frozen 1
    have f2 := K8.frozen 2
    obtain ⟨⟨s1, s2⟩, ⟨y0, y1, y2⟩, -⟩ := X8.out.cells
    replace K8 := Lib.hid K8
    have B8 := Lib.hid X8.out.2.2.2.1
    go_wp2_with fail
    (try simp only [Exit.inBlock, Exit.then])
    refine bodyPost_ret (by simp [results, Tryd.results6, go_sem, k0, k1, k2]; try rfl) rfl ?_
    exact ⟨⟨0, 0, none, 0, []⟩, false, rfl, hno.out, Own.nil _ _ _ _ _, by simp, ((B8.out.setCell (Nat.le_refl _) _).setCell (Nat.le_refl _) _).setCell (Nat.le_refl _) _⟩
  · have HT := Lib.hid (fun W (hB : Below W7.heap.size W7 W) => l24Text_c (⟨n0, n1, a2, cap2, ws⟩ : Crd) W ((X7.out.2.1.mono hB).sl StrE.len) hA)
    rw [hA] at HO
    replace HO := Lib.hid HO
    have hTx := Lib.hid (rfl : cdT (⟨n0, n1, a2, cap2, ws⟩ : Crd) ws.length = cdT (⟨n0, n1, a2, cap2, ws⟩ : Crd) ws.length)
    dsimp only at HT
    generalize hT : cdT (⟨n0, n1, a2, cap2, ws⟩ : Crd) ws.length = tx at HT hPQ
    replace hT := Lib.hid hT
    cases hq : (tx.toList == s.toList)
    · have hno := Lib.hid (hPQ.out.2 (fun h => by rw [h.2] at hq; simp at hq))
      replace hA := Lib.hid hA
      go_upto_if 57 with (first | (go_at_call 38; refine HO.out.mono ?_; rintro e w8 ⟨rfl, b8⟩; have y0 := cellOn b8 y0; have y1 := cellOn b8 y1; have y2 := cellOn b8 y2; have X8 := Lib.hid (X7.out.mono b8); have HT2 := Lib.hid (HT.out w8 b8)) | (go_at_call 39; refine HT2.out.mono ?_; rintro e w9 ⟨rfl, b9⟩))
      replace X8 := Lib.hid (X8.out.mono b9)
      generalize w9 = w8 at *
      clear y0 y1 y2 s1 s2 b9 X7
      have hwl := X8.out.cells.1.2
      have K8 := X8.out.2.2.1
      have k0 := K8.cell 0 _ rfl
      have k1 := K8.cell 1 _ rfl
      have k2 := K8.cell 2 _ rfl
      have f0 := K8.frozen 0
      have f1 := K8.frozen 1
      have f2 := K8.frozen 2
      obtain ⟨⟨s1, s2⟩, ⟨y0, y1, y2⟩, -⟩ := X8.out.cells
      replace K8 := Lib.hid K8
      have B8 := Lib.hid X8.out.2.2.2.1
      go_wp2_with fail
      (try simp only [Exit.inBlock, Exit.then])
      refine bodyPost_ret (by simp [results, Tryd.results6, go_sem, k0, k1, k2]; try rfl) rfl ?_
      exact ⟨⟨0, 0, none, 0, []⟩, false, rfl, hno.out, Own.nil _ _ _ _ _, by simp, ((B8.out.setCell (Nat.le_refl _) _).setCell (Nat.le_refl _) _).setCell (Nat.le_refl _) _⟩
    · have hyes := Lib.hid (hPQ.out.1 hA (toList_inj (eq_of_beq hq)))
      replace hA := Lib.hid hA
      go_upto_if 57 with (first | (go_at_call 38; refine HO.out.mono ?_; rintro e w8 ⟨rfl, b8⟩; have y0 := cellOn b8 y0; have y1 := cellOn b8 y1; have y2 := cellOn b8 y2; have X8 := Lib.hid (X7.out.mono b8); have HT2 := Lib.hid (HT.out w8 b8)) | (go_at_call 39; refine HT2.out.mono ?_; rintro e w9 ⟨rfl, b9⟩))
      replace X8 := Lib.hid (X8.out.mono b9)
      generalize w9 = w8 at *
      clear y0 y1 y2 s1 s2 b9 X7
      have hwl := X8.out.cells.1.2
      have K8 := X8.out.2.2.1
      have k0 := K8.cell 0 _ rfl
      have k1 := K8.cell 1 _ rfl
      have k2 := K8.cell 2 _ rfl
      have f0 := K8.frozen 0
      have f1 := K8.frozen 1
      have f2 := K8.frozen 2
      obtain ⟨⟨s1, s2⟩, ⟨y0, y1, y2⟩, -⟩ := X8.out.cells
      replace K8 := Lib.hid K8
      have B8 := Lib.hid X8.out.2.2.2.1
      dsimp only at y0 y1 y2
      go_wp2_with fail
      (try simp only [Exit.inBlock, Exit.then])
      refine bodyPost_ret (by simp [results, Tryd.results6, go_sem, k0, k1, k2]; try rfl) rfl ?_
      have G : w8.grownBy (((w8.setCell ⟨w.heap.size, 0, none⟩ (.int .i64 n0)).setCell ⟨w.heap.size, 1, none⟩ (.int .i64 n1)).setCell ⟨w.heap.size, 2, none⟩ (.slice a2 ws.length cap2)) (some w.heap.size) := only_set (only_set (only_set (World.grownBy.refl _ _)))
      exact ⟨⟨n0, n1, a2, cap2, ws⟩, true, rfl, hyes.out, own_keep X8.out.2.1 G (fun q hq e => (X8.out.2.2.2.2.2 q hq).2 (by injection e with e; exact e.symm)), hwl6, ((B8.out.setCell (Nat.le_refl _) _).setCell (Nat.le_refl _) _).setCell (Nat.le_refl _) _⟩
end Go.Proofs.YteainpflmofjaaaDoor
