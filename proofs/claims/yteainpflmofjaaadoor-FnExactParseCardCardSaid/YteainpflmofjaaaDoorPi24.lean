/- Reading a card, by the program. Conditions: sizes; Go's variables read as they are laid. -/
import Derived.Test.YteainpflmofjaaaDoorPw24
import Derived.Test.YteainpflmofjaaaDoorEv24
import Derived.Test.YteainpflmofjaaaDoorCl
import Derived.Outline
namespace Go.Proofs.YteainpflmofjaaaDoor
open Go.RowKit
theorem own_blk_ne {W : World} {lo hb : Nat} {a : Option Addr} {n c : Nat} {ws : List ByteArray} (ho : Own W lo 9 StrE.enc 1 (.slice a n c) ws) (hX : Blk W hb 24 cZero) : ∀ q, (Value.slice a n c).ownBlock = some q → q ≠ hb := fun q hq e => by
  subst e
  rcases ho.2 with ⟨e1, -⟩ | ⟨g, cap, cur, e1, -, hgb, -⟩
  · rw [e1] at hq; cases hq
  · rw [e1] at hq
    have e2 : g = q := Option.some.inj hq
    unfold Blk at hX
    rw [← e2, hgb] at hX
    have e3 := Option.some.inj hX
    injection e3 with _ e4
    exact absurd e4 (by decide)
theorem keepS {w1 W : World} {b off : Nat} {x y : Value} (h0 : w1.cell? ⟨b, off, none⟩ = some x) (h1 : w1.cell? ⟨b, off + 1, none⟩ = some y) (h : Below w1.heap.size w1 W) : (Below w1.heap.size w1 W ∧ w1.heap.size ≤ W.heap.size) ∧ W.cell? ⟨b, off, none⟩ = some x ∧ W.cell? ⟨b, off + 1, none⟩ = some y := ⟨⟨h, h.size⟩, cellOn h h0, cellOn h h1⟩
theorem CW.of {w W : World} {hb : Nat} {a : Option Addr} {c : Nat} {ws : List ByteArray} {lo : Nat} (hK : Blk W w.heap.size 24 cZero) (hX : Blk W hb 24 cZero) (ho : Own W lo 9 StrE.enc 1 (.slice a ws.length c) ws) (hlo : w.heap.size ≤ lo) (hB : Below w.heap.size w W) (hlt : w.heap.size < hb) (n y : Int) :
    CW w (((W.setCell ⟨hb, 0, none⟩ (.int .i64 n)).setCell ⟨hb, 1, none⟩ (.int .i64 y)).setCell ⟨hb, 2, none⟩ (.slice a ws.length c)) hb ⟨n, y, a, c, ws⟩ := by
  have x0 : Bx W w.heap.size 24 Crd.enc 3 hb ⟨0, 0, none, 0, []⟩ := ⟨rfl, .inr ⟨hb, 1, _, rfl, by omega, hX, Nat.le_refl _, by simp [maxLen], rfl, rfl⟩⟩
  have h1 := own_blk_ne ho hX
  have h2 := own_blk_ne ho hK
  have ho0 := Own.lower (lo' := w.heap.size) ho hlo
  obtain ⟨x1, g1⟩ := x0.store Crd.len ⟨n, 0, none, 0, []⟩ 0 (by omega) (.int .i64 n) rfl
  have ho1 := own_keep ho0 g1 (fun q hq e => h1 q hq (by injection e with e; exact e.symm))
  obtain ⟨x2, g2⟩ := x1.store Crd.len ⟨n, y, none, 0, []⟩ 1 (by omega) (.int .i64 y) rfl
  have ho2 := own_keep ho1 g2 (fun q hq e => h1 q hq (by injection e with e; exact e.symm))
  obtain ⟨x3, g3⟩ := x2.store Crd.len ⟨n, y, a, c, ws⟩ 2 (by omega) (.slice a ws.length c) rfl
  have ho3 := own_keep ho2 g3 (fun q hq e => h1 q hq (by injection e with e; exact e.symm))
  refine ⟨x3, ho3, ((hK.grown g1 (by omega)).grown g2 (by omega)).grown g3 (by omega), ((hB.setCell (by show w.heap.size ≤ hb; omega) _).setCell (by show w.heap.size ≤ hb; omega) _).setCell (by show w.heap.size ≤ hb; omega) _, hlt, fun q hq => ⟨h1 q hq, h2 q hq⟩⟩
set_option maxHeartbeats 8000000 in
set_option maxRecDepth 100000 in
theorem parseCard_c (s : ByteArray) (w : World) (hE : Env w) (hs : s.size ≤ 1048576) : Calls Tryd.prog 7 #[.string s] w (RetCard w s) := by
  have A0 := below_alloc w (.cells cZero.toArray 24)
  have HS := Lib.hid (split_c s (w.alloc (.cells cZero.toArray 24)) (hE.mono A0) hs)
  have K0 := Lib.hid (Blk.new w 24 cZero)
  unfold cZero at HS
  replace hE := Lib.hid hE
  go_enter Tryd.func7, Tryd.ntmps7
  go_wp2_with fail
  refine HS.out.mono ?_
  rintro e w1 ⟨v, ps, rfl, hO, hp, hpl, b1⟩
  have K1 := K0.out.mono b1
  have B1 := btrans A0 b1
  obtain ⟨a, cap, b, off, rfl, hlc, hm, hc⟩ := hO.sl StrE.len
  unfold maxLen at hm
  have hp' := Lib.hid hp
  clear A0 b1 HS K0
  by_cases h3 : ps.length < 3
  · have hno := pq_few hp h3
    have h3' : (ps.length : Int) < 3 := by omega
    clear hO hc hp
    replace hno := Lib.hid hno
    have hwl := K1.lt
    have k0 := K1.cell 0 _ rfl
    have k1 := K1.cell 1 _ rfl
    have k2 := K1.cell 2 _ rfl
    have f0 := K1.frozen 0
    have f1 := K1.frozen 1
    have f2 := K1.frozen 2
    replace K1 := Lib.hid K1
    replace B1 := Lib.hid B1
    go_wp2_with fail
    (try simp only [Exit.inBlock, Exit.then])
    refine bodyPost_ret (by simp [results, Tryd.results7, go_sem, k0, k1, k2]; try rfl) rfl ?_
    exact ⟨⟨0, 0, none, 0, []⟩, false, rfl, hno.out, Own.nil _ _ _ _ _, by simp, ((B1.out.setCell (Nat.le_refl _) _).setCell (Nat.le_refl _) _).setCell (Nat.le_refl _) _⟩
  have h3' : ¬ (ps.length : Int) < 3 := by omega
  obtain ⟨rfl, hbw, c1⟩ := StrE.at hc 1 (by omega)
  obtain ⟨-, -, c0⟩ := StrE.at hc 0 (by omega)
  rw [Nat.add_zero] at c0
  have hOd : Sl w1 StrE.enc 1 (.slice (some ⟨b, off + 2, none⟩) (ps.length - 2) (cap - 2)) (ps.drop 2) := by
    have H := (hO.sl StrE.len).drop (n := 2) (by omega)
    rwa [Nat.mul_one] at H
  have hx0 : 0 < ps.length := by omega
  have hx1 : 1 < ps.length := by omega
  have hx2 : (1 : Int) < (ps.length : Int) := by omega
  have hx3 : (2 : Int) ≤ (ps.length : Int) := by omega
  have hx4 : (0 : Int) < (ps.length : Int) := by omega
  have hck : ¬ cap = 2 := by omega
  have hck2 : ¬ (cap : Int) = 2 := by omega
  have hcc : (2 : Int) ≤ (cap : Int) := by omega
  have hq0 := parts_size hp 0 hx0
  have hq1 := parts_size hp 1 hx1
  have hF := Lib.hid (parts_fits hs hp)
  have hz1 := B1.size
  replace K1 := Lib.hid K1
  have hE1 := Lib.hid (hE.out.mono B1)
  clear hO hc hp
  go_upto_region 4 with fail
  have hE1m : ∀ W, Below w1.heap.size w1 W → Env W := fun W hB => hE1.out.mono hB
  have hst : ((⟨(Lib.trimSuffix (gd ps 1).data.toList [58]).toArray⟩ : ByteArray)).size ≤ 1048576 := by
    have h1 : (Lib.trimSuffix (gd ps 1).data.toList [58]).length ≤ (gd ps 1).data.toList.length := by
      unfold Lib.trimSuffix
      split
      · first | (simp; done) | (simp; omega)
      · exact Nat.le_refl _
    rw [ba_len] at h1
    show (Lib.trimSuffix (gd ps 1).data.toList [58]).toArray.size ≤ _
    simp; omega
  have HA := Lib.hid (fun W (hB : Below w1.heap.size w1 W) => number_c (gd ps 0) W (hE1m W hB) (by omega))
  have HT := Lib.hid (fun W => strings_TrimSuffix (gd ps 1) ⟨#[58]⟩ W (by omega))
  have HB := Lib.hid (fun W (hB : Below w1.heap.size w1 W) => number_c (⟨(Lib.trimSuffix (gd ps 1).data.toList [58]).toArray⟩ : ByteArray) W (hE1m W hB) hst)
  have HC := Lib.hid (fun W (hB : Below w1.heap.size w1 W) => cloneStr_c (.slice (some ⟨b, off + 2, none⟩) (ps.length - 2) (cap - 2)) (ps.drop 2) W (hOd.mono hB) (by simp; omega))
  clear hE1m hst hOd
  have hTr : Hid ((⟨(Lib.trimSuffix (gd ps 1).data.toList (⟨#[58]⟩ : ByteArray).data.toList).toArray⟩ : ByteArray) = ⟨(Lib.trimSuffix (gd ps 1).data.toList [58]).toArray⟩) := Lib.hid rfl
  replace HT : Hid (∀ W : World, Calls Tryd.prog 42 #[.string (gd ps 1), .string ⟨#[58]⟩] W fun e w' => e = .returned (.string ⟨(Lib.trimSuffix (gd ps 1).data.toList [58]).toArray⟩) ∧ w' = W) := HT
  generalize hg1 : (⟨(Lib.trimSuffix (gd ps 1).data.toList [58]).toArray⟩ : ByteArray) = t1 at HT HB
  replace hg1 := Lib.hid hg1
  generalize hgw : ps.drop 2 = ws at HC
  replace hgw := Lib.hid hgw
  have HSS : (Below w1.heap.size w1 w1 ∧ w1.heap.size ≤ w1.heap.size) ∧ w1.cell? ⟨b, off, none⟩ = some (.string (gd ps 0)) ∧ w1.cell? ⟨b, off + 1, none⟩ = some (.string (gd ps 1)) := ⟨⟨Below.refl _ _, Nat.le_refl _⟩, c0, c1⟩
  have D := drewOn w1
  have hc0 := Lib.hid c0
  have hc1 := Lib.hid c1
  clear c0 c1 hTr
  go_cut [5] from 8 (fun p W => ∃ (hb : Nat) (n y : Int) (a : Option Addr) (c : Nat), p = .pointer (some ⟨hb, 0, none⟩) ∧ Hid (NumP (gd ps 0) n) ∧ Hid (NumP t1 y) ∧ Hid (CW w W hb ⟨n, y, a, c, ws⟩))
  case first =>
    go_region_held3 (fun W => (Below w1.heap.size w1 W ∧ w1.heap.size ≤ W.heap.size) ∧ W.cell? ⟨b, off, none⟩ = some (.string (gd ps 0)) ∧ W.cell? ⟨b, off + 1, none⟩ = some (.string (gd ps 1))) (first | assumption | (refine keep2 (by assumption) (by assumption)) | (refine keep2 (below_alloc _ _) (by assumption)) | (refine keep2 (below_alloc _ _) ?_; exact Hid.out (by assumption)) | (exact keepS hc0.out hc1.out (((Below.setCell sK.out.1.1 (by first | exact Nat.le_refl _ | assumption | (dsimp only; omega) | (simp; done)) _).setCell (by first | exact Nat.le_refl _ | assumption | (dsimp only; omega) | (simp; done)) _).setCell (by first | exact Nat.le_refl _ | assumption | (dsimp only; omega) | (simp; done)) _)) | fail)
      (first | (go_at_call 41; first | ((with_reducible refine (HA.out _ (And.left (And.left (by assumption)))).mono ?_); rintro e w8 ⟨n0, rfl, hn0, b8⟩; replace hn0 := Lib.hid hn0; have sK : Hid ((Below w1.heap.size w1 w8 ∧ w1.heap.size ≤ w8.heap.size) ∧ w8.cell? ⟨b, off, none⟩ = some (.string (gd ps 0)) ∧ w8.cell? ⟨b, off + 1, none⟩ = some (.string (gd ps 1))) := Lib.hid (keep2 b8 (by assumption)); have sz := sK.out.1.2; (first | (replace zK := Lib.hid (zK.out.mono b8)) | (have zK : Hid (Blk w8 w1.heap.size 24 cZero) := Lib.hid (Blk.mono (Blk.new w1.drew 24 cZero) b8)) | (have zK := Lib.hid ((Blk.new _ 24 cZero).mono b8)) | skip)) | ((with_reducible refine (HB.out _ (And.left (And.left (by assumption)))).mono ?_); rintro e w8 ⟨y0, rfl, hy0, b8⟩; replace hy0 := Lib.hid hy0; have sK : Hid ((Below w1.heap.size w1 w8 ∧ w1.heap.size ≤ w8.heap.size) ∧ w8.cell? ⟨b, off, none⟩ = some (.string (gd ps 0)) ∧ w8.cell? ⟨b, off + 1, none⟩ = some (.string (gd ps 1))) := Lib.hid (keep2 b8 (by assumption)); have sz := sK.out.1.2; (first | (replace zK := Lib.hid (zK.out.mono b8)) | (have zK : Hid (Blk w8 w1.heap.size 24 cZero) := Lib.hid (Blk.mono (Blk.new w1.drew 24 cZero) b8)) | (have zK := Lib.hid ((Blk.new _ 24 cZero).mono b8)) | skip)) | fail) | (go_at_call 42; refine (HT.out _).mono ?_; rintro e w8 ⟨rfl, rfl⟩) | (go_at_call 43; refine (HC.out _ (And.left (And.left (by assumption)))).mono ?_; rintro e w8 ⟨v8, rfl, o8, b8⟩; obtain ⟨a8, c8, b88, f8, rfl, -, -, -⟩ := o8.sl StrE.len; replace o8 := Lib.hid o8; have sK : Hid ((Below w1.heap.size w1 w8 ∧ w1.heap.size ≤ w8.heap.size) ∧ w8.cell? ⟨b, off, none⟩ = some (.string (gd ps 0)) ∧ w8.cell? ⟨b, off + 1, none⟩ = some (.string (gd ps 1))) := Lib.hid (keep2 b8 (by assumption)); have sz := sK.out.1.2; (first | (replace zK := Lib.hid (zK.out.mono b8)) | (have zK : Hid (Blk w8 w1.heap.size 24 cZero) := Lib.hid (Blk.mono (Blk.new w1.drew 24 cZero) b8)) | (have zK := Lib.hid ((Blk.new _ 24 cZero).mono b8)) | skip); (first | (have q0 := zK.out.cell 0 _ rfl; have q1 := zK.out.cell 1 _ rfl; have q2 := zK.out.cell 2 _ rfl; have p0 := zK.out.frozen 0; have p1 := zK.out.frozen 1; have p2 := zK.out.frozen 2; have pl := zK.out.lt) | skip)) | fail)
    all_goals (
      have hKw := K1.out.lt
      have hBw := btrans B1 sK.out.1.1
      have kk := K1.out.mono sK.out.1.1
      go_wp2_with fail
      go_meet
      case rel => exact ⟨_, n0, y0, a8, c8, rfl, hn0, hy0, Lib.hid (by first | exact CW.of kk zK.out o8.out (by first | omega | (simp; omega)) hBw (by omega) n0 y0 | exact CW.start kk (Own.lower (lo' := w.heap.size) o8.out (by first | omega | (simp; omega))) hBw n0 y0)⟩)
  clear HA HT HB HC HSS D hc0 hc1
  obtain ⟨hb, n, y, a, c, rfl, hn, hy, X5⟩ := hcut
  generalize wc = w5 at *
  have hy2 : NumP ⟨(Lib.trimSuffix (gd ps 1).data.toList [58]).toArray⟩ y := by rw [hg1.out]; exact hy.out
  have hPQ := pq_gen (a := a) (c := c) hp'.out hn.out (yr_trim hy2)
  rw [hgw.out] at hPQ
  replace hPQ := Lib.hid hPQ
  have hF2 : Hid (StrE.Fits ws) := by
    rw [← hgw.out]
    exact Lib.hid (fun i hi => by rw [gd_drop]; exact hF.out (2 + i) (by simp at hi; omega))
  have hwl6 : ws.length ≤ 1048577 := by rw [← hgw.out]; simp; omega
  have hE5 := Lib.hid (hE.out.mono X5.out.2.2.2.1)
  have HT := cardText_c (⟨n, y, a, c, ws⟩ : Crd) w5 (X5.out.2.1.sl StrE.len) hF2.out hE5.out.tab
  clear hn hy hy2 hg1 hgw hF hE5
  obtain ⟨⟨s1, s2⟩, ⟨y0, y1, y2⟩, -⟩ := X5.out.cells
  dsimp only at y0 y1 y2 HT
  cases hA : isCrd (⟨n, y, a, c, ws⟩ : Crd)
  · have hS0 : cdS (⟨n, y, a, c, ws⟩ : Crd) = ⟨#[]⟩ := by rw [cdS, hA]; rfl
    rw [hA, hS0] at HT
    replace HT := Lib.hid HT
    have hno := Lib.hid (hPQ.out.2 (fun h => by rw [hA] at h; exact absurd h.1 (by simp)))
    clear hA hS0
    go_wp2_with fail
    refine HT.out.mono ?_
    rintro e w8 ⟨rfl, b8⟩
    have X8 := Lib.hid (X5.out.mono b8)
    clear y0 y1 y2 s1 s2 b8 X5 HT
    have hwl := X8.out.cells.1.2
    have K8 := X8.out.2.2.1
    have k0 := K8.cell 0 _ rfl
    have k1 := K8.cell 1 _ rfl
    have k2 := K8.cell 2 _ rfl
    have f0 := K8.frozen 0
    have f1 := K8.frozen 1
    have f2 := K8.frozen 2
    obtain ⟨⟨s1, s2⟩, ⟨y0, y1, y2⟩, -⟩ := X8.out.cells
    replace K8 := Lib.hid K8
    have B8 := Lib.hid X8.out.2.2.2.1
    dsimp only at y0 y1 y2
    go_wp2_with fail
    (try simp only [Exit.inBlock, Exit.then])
    refine bodyPost_ret (by simp [results, Tryd.results7, go_sem, k0, k1, k2]; try rfl) rfl ?_
    exact ⟨⟨0, 0, none, 0, []⟩, false, rfl, hno.out, Own.nil _ _ _ _ _, by simp, ((B8.out.setCell (Nat.le_refl _) _).setCell (Nat.le_refl _) _).setCell (Nat.le_refl _) _⟩
  · have hS1 : cdS (⟨n, y, a, c, ws⟩ : Crd) = cdT (⟨n, y, a, c, ws⟩ : Crd) ws.length := by rw [cdS, hA]; rfl
    rw [hA, hS1] at HT
    clear hS1
    generalize hT : cdT (⟨n, y, a, c, ws⟩ : Crd) ws.length = tx at HT hPQ
    replace hT := Lib.hid hT
    replace HT := Lib.hid HT
    cases hq : (tx.toList == s.toList)
    · have hno := Lib.hid (hPQ.out.2 (fun h => by rw [h.2] at hq; simp at hq))
      replace hA := Lib.hid hA
      go_wp2_with fail
      refine HT.out.mono ?_
      rintro e w8 ⟨rfl, b8⟩
      have X8 := Lib.hid (X5.out.mono b8)
      clear y0 y1 y2 s1 s2 b8 X5 HT
      have hwl := X8.out.cells.1.2
      have K8 := X8.out.2.2.1
      have k0 := K8.cell 0 _ rfl
      have k1 := K8.cell 1 _ rfl
      have k2 := K8.cell 2 _ rfl
      have f0 := K8.frozen 0
      have f1 := K8.frozen 1
      have f2 := K8.frozen 2
      obtain ⟨⟨s1, s2⟩, ⟨y0, y1, y2⟩, -⟩ := X8.out.cells
      replace K8 := Lib.hid K8
      have B8 := Lib.hid X8.out.2.2.2.1
      dsimp only at y0 y1 y2
      go_wp2_with fail
      (try simp only [Exit.inBlock, Exit.then])
      refine bodyPost_ret (by simp [results, Tryd.results7, go_sem, k0, k1, k2]; try rfl) rfl ?_
      exact ⟨⟨0, 0, none, 0, []⟩, false, rfl, hno.out, Own.nil _ _ _ _ _, by simp, ((B8.out.setCell (Nat.le_refl _) _).setCell (Nat.le_refl _) _).setCell (Nat.le_refl _) _⟩
    · have hyes := Lib.hid (hPQ.out.1 hA (toList_inj (eq_of_beq hq)))
      replace hA := Lib.hid hA
      go_wp2_with fail
      refine HT.out.mono ?_
      rintro e w8 ⟨rfl, b8⟩
      have X8 := Lib.hid (X5.out.mono b8)
      clear y0 y1 y2 s1 s2 b8 X5 HT
      have hwl := X8.out.cells.1.2
      have K8 := X8.out.2.2.1
      have k0 := K8.cell 0 _ rfl
      have k1 := K8.cell 1 _ rfl
      have k2 := K8.cell 2 _ rfl
      have f0 := K8.frozen 0
      have f1 := K8.frozen 1
      have f2 := K8.frozen 2
      obtain ⟨⟨s1, s2⟩, ⟨y0, y1, y2⟩, -⟩ := X8.out.cells
      replace K8 := Lib.hid K8
      have B8 := Lib.hid X8.out.2.2.2.1
      dsimp only at y0 y1 y2
      go_wp2_with fail
      (try simp only [Exit.inBlock, Exit.then])
      refine bodyPost_ret (by simp [results, Tryd.results7, go_sem, k0, k1, k2]; try rfl) rfl ?_
      have G : w8.grownBy (((w8.setCell ⟨w.heap.size, 0, none⟩ (.int .i64 n)).setCell ⟨w.heap.size, 1, none⟩ (.int .i64 y)).setCell ⟨w.heap.size, 2, none⟩ (.slice a ws.length c)) (some w.heap.size) := only_set (only_set (only_set (World.grownBy.refl _ _)))
      exact ⟨⟨n, y, a, c, ws⟩, true, rfl, hyes.out, own_keep X8.out.2.1 G (fun q hq e => (X8.out.2.2.2.2.2 q hq).2 (by injection e with e; exact e.symm)), hwl6, ((B8.out.setCell (Nat.le_refl _) _).setCell (Nat.le_refl _) _).setCell (Nat.le_refl _) _⟩
end Go.Proofs.YteainpflmofjaaaDoor
