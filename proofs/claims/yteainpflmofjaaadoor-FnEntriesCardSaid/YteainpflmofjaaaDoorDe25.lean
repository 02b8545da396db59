/- Entries drawn from choices: what the draw leaves. No condition but that not too many choices were read. -/
import Derived.Test.YteainpflmofjaaaDoorNs
import Derived.Test.YteainpflmofjaaaDoorMark
import Derived.Test.YteainpflmofjaaaDoorEp25
import Derived.Outline
import Derived.Deep.Cut
import Derived.Deep.CutBlock
namespace Go.Proofs.YteainpflmofjaaaDoor
open Go.RowKit
def entOk (x : Ent) : Prop := x.sub.length ≤ 8 ∧ x.ti.size ≤ 12 ∧ x.pl.size ≤ 12
abbrev ESt (w0 w : World) (B : Nat) (v : Value) (l : List Ent) (m N : Nat) : Prop := NSt w0 w B 51 Ent.enc 6 3 IntE.enc Ent.hv Ent.sub entOk v l m N
abbrev EIn (w0 w : World) (v : Value) (x : Ent) : Prop := NIn w0 w 3 IntE.enc Ent.hv Ent.sub entOk v x
abbrev EBx (w : World) (lo b : Nat) (x : Ent) : Prop := Bx w lo 51 Ent.enc 6 b x
abbrev ESB (w0 w : World) (B : Nat) (v : Value) (l : List Ent) (m N hb : Nat) (y : Ent) : Prop := NSB w0 w B 51 Ent.enc 6 3 IntE.enc Ent.hv Ent.sub entOk v l m N hb y
theorem ESt.deep {w0 w : World} {B m N : Nat} {v : Value} {l : List Ent} (h : ESt w0 w B v l m N) : Ent.Deep w l := fun i hi => (h.2 i hi).1.sl IntE.len
theorem entOk.fits {x : Ent} (h : entOk x) : x.Fits := ⟨by have := h.2.1; unfold maxLen; omega, by have := h.2.2; unfold maxLen; omega, trivial⟩
theorem ESt.fits {w0 w : World} {B m N : Nat} {v : Value} {l : List Ent} (h : ESt w0 w B v l m N) : ∀ i, i < l.length → (gd l i).Fits := fun i hi => entOk.fits (h.2 i hi).2.2
theorem ESt.sl {w0 w : World} {B m N : Nat} {v : Value} {l : List Ent} (h : ESt w0 w B v l m N) : Sl w Ent.enc 6 v l := h.own.sl Ent.len
theorem EBx.cells {w : World} {lo b : Nat} {x : Ent} (h : EBx w lo b x) : (lo ≤ b ∧ b < w.heap.size) ∧ w.cell? ⟨b, 0, none⟩ = some (.int .i64 x.id) ∧ w.cell? ⟨b, 1, none⟩ = some (.string x.ti) ∧ w.cell? ⟨b, 2, none⟩ = some (.string x.pl) ∧ w.cell? ⟨b, 3, none⟩ = some (.int .i64 x.yr) ∧ w.cell? ⟨b, 4, none⟩ = some (.int .i64 x.ct) ∧ w.cell? ⟨b, 5, none⟩ = some (.slice x.a x.sub.length x.cap) :=
  ⟨h.lt, h.cell Ent.len 0 _ rfl, h.cell Ent.len 1 _ rfl, h.cell Ent.len 2 _ rfl, h.cell Ent.len 3 _ rfl, h.cell Ent.len 4 _ rfl, h.cell Ent.len 5 _ rfl⟩
section
variable {α β : Type} [Inhabited α] {tE tI : TypeId} {enc : α → List Value} {K : Nat} {encI : β → List Value} {hv : α → Value} {sub : α → List β} {Q : α → Prop}
/-- no list at all, beside a box -/
theorem NSt.none0 {w0 w : World} {B m : Nat} (h : Cur w B m) (hg : w0.grownBy w (some B)) (hB : B < w0.heap.size) : NSt w0 w B tE enc K tI encI hv sub Q (.slice none 0 0) ([] : List α) m 0 :=
  ⟨⟨Own.nil _ _ _ _ _, Nat.le_refl _, h, hg, hB⟩, fun i hi => absurd hi (by simp)⟩
theorem grown_new {w0 w w' : World} {B : Nat} {r : Option Nat} (h : w0.grownBy w (some B)) (hg : w.grownBy w' r) (hr : ∀ g, r = some g → w0.heap.size ≤ g) : w0.grownBy w' (some B) :=
  ⟨hg.os.trans h.os, hg.tape.trans h.tape, hg.output.trans h.output, Nat.le_trans h.size hg.size, fun q hq hne => (hg.block q (Nat.lt_of_lt_of_le hq h.size) (fun e => by have := hr q e.symm; omega)).trans (h.block q hq hne)⟩
/-- the slice of the box's struct has grown, and is written into the box -/
theorem NSB.grow (hk : ∀ x, (enc x).length = K) {w0 w w3 : World} {B m hb : Nat} {y : α} (h : NSB w0 w B tE enc K tI encI hv sub Q (.slice none 0 0) ([] : List α) m 0 hb y) (z : α) (j : Nat) (hj : j < K) (hz : enc z = (enc y).set j (hv z))
    (ho : Own w3 w0.heap.size tI encI 1 (hv z) (sub z)) (hg : w.grownBy w3 (hv y).ownBlock) (hat : (hv z).ownBlock = (hv y).ownBlock ∨ ∃ b, (hv z).ownBlock = some b ∧ w.heap.size ≤ b) (hq : Q z) :
    NSB w0 (w3.setCell ⟨hb, j, none⟩ (hv z)) B tE enc K tI encI hv sub Q (.slice none 0 0) ([] : List α) m 0 hb z := by
  obtain ⟨h1, h2, h3, h4, h5, h6⟩ := h
  have hr : ∀ g, (hv y).ownBlock = some g → w0.heap.size ≤ g := fun g e => (h3.1.bounds g e).1
  have n1 : NSt w0 w3 B tE enc K tI encI hv sub Q (.slice none 0 0) ([] : List α) m 0 := NSt.none0 (h1.cur.grownO hg (fun g e => by have := hr g e; have := h1.blt; omega)) (grown_new h1.gr hg hr) h1.blt
  have n2 : Bx w3 w0.heap.size tE enc K hb y := h2.keep hg h6
  have hzb : (hv z).ownBlock ≠ some hb := by
    rcases hat with e | ⟨b, e, hb2⟩
    · rw [e]; exact h6
    · intro e2
      rw [e] at e2
      have := h2.lt.2
      injection e2 with e2
      omega
  obtain ⟨hs, hg2⟩ := n2.store hk z j hj (hv z) hz
  exact ⟨n1.box hg2 h2.lt.1 (by simp [Value.ownBlock]) (fun i hi => absurd hi (by simp)), hs, ⟨own_keep ho hg2 (fun c hc e => hzb (by rw [hc]; exact e.symm)), (fun b _ e => by cases e), hq⟩, h4, h5, hzb⟩
end
/-- a call that hands back an entry whose slice is the call's own, and has read choices -/
def CurE (w : World) (B m : Nat) (e : Ending) (w' : World) : Prop := ∃ x : Ent, e = .returned (.agg #[.int .i64 x.id, .string x.ti, .string x.pl, .int .i64 x.yr, .int .i64 x.ct, .slice x.a x.sub.length x.cap]) ∧ Cur w' B m ∧ w.grownBy w' (some B) ∧ Own w' w.heap.size 3 IntE.enc 1 (Ent.hv x) x.sub ∧ entOk x
/-- the empty box of the result, and what choices were read -/
structure EDs (w W : World) (B m : Nat) : Prop where
  cur : Cur W B m
  gr : w.grownBy W (some B)
  blk : Blk W w.heap.size 51 [.int .i64 0, .string ByteArray.empty, .string ByteArray.empty, .int .i64 0, .int .i64 0, .slice none 0 0]
theorem EDs.turn {w W W' : World} {B m m' : Nat} (h : EDs w W B m) (hB : B < w.heap.size) (hg : W.grownBy W' (some B)) (hC : Cur W' B m') : EDs w W' B m' := ⟨hC, only_trans h.gr hg, h.blk.grown hg (by omega)⟩
/-- the result's box beside the struct's -/
def EDb (w W : World) (B m hb : Nat) (y : Ent) : Prop := ESB w W B (.slice none 0 0) [] m 0 hb y ∧ Blk W w.heap.size 51 [.int .i64 0, .string ByteArray.empty, .string ByteArray.empty, .int .i64 0, .int .i64 0, .slice none 0 0] ∧ w.heap.size < hb
theorem EDb.turn {w W W' : World} {B m m' hb : Nat} {y : Ent} (h : EDb w W B m hb y) (hg : W.grownBy W' (some B)) (hC : Cur W' B m') : EDb w W' B m' hb y := ⟨h.1.turn hg hC, h.2.1.grown hg (by have := h.1.st.blt; omega), h.2.2⟩
theorem EDb.le {w W : World} {B m m' hb : Nat} {y : Ent} (h : EDb w W B m hb y) (h1 : m ≤ m') : EDb w W B m' hb y := ⟨h.1.le h1 (Nat.le_refl _), h.2⟩
theorem EDb.below {w W W' : World} {B m hb : Nat} {y : Ent} (h : EDb w W B m hb y) (hb2 : Below W.heap.size W W') : EDb w W' B m hb y := ⟨h.1.below hb2, h.2.1.mono hb2, h.2.2⟩
theorem EDb.scal {w W : World} {B m hb : Nat} {y : Ent} (h : EDb w W B m hb y) (z : Ent) (j : Nat) (hj : j < 6) (u : Value) (hz : z.enc = y.enc.set j u) (h1 : Ent.hv z = Ent.hv y) (h2 : z.sub = y.sub) (hq : entOk z) : EDb w (W.setCell ⟨hb, j, none⟩ u) B m hb z :=
  ⟨NSB.scal Ent.len h.1 z j hj u hz h1 h2 hq, h.2.1.grown (B := hb) (only_setCell (World.grownBy.refl _ _) ⟨hb, j, none⟩ rfl _) (by have := h.2.2; omega), h.2.2⟩
theorem EDb.setN {w W : World} {B m hb : Nat} {y : Ent} (h : EDb w W B m hb y) (z : Ent) (hz : z.enc = y.enc.set 5 (Ent.hv z)) (hn : EIn w W (.slice none 0 0) z) (hne : (Ent.hv z).ownBlock ≠ some hb) : EDb w (W.setCell ⟨hb, 5, none⟩ (Ent.hv z)) B m hb z :=
  ⟨NSB.set Ent.len h.1 z 5 (by omega) _ hz hn hne, h.2.1.grown (B := hb) (only_setCell (World.grownBy.refl _ _) ⟨hb, 5, none⟩ rfl _) (by have := h.2.2; omega), h.2.2⟩
theorem EDb.hvne {w W : World} {B m hb : Nat} {y : Ent} (h : EDb w W B m hb y) : (Ent.hv y).ownBlock ≠ some w.heap.size := fun e => by
  have hi : Own W w.heap.size 3 IntE.enc 1 (Ent.hv y) y.sub := h.1.2.2.1.1
  rcases hi.2 with ⟨e1, -⟩ | ⟨g, cap, cur, e1, -, hgb, -⟩
  · rw [e1] at e; cases e
  · rw [e1] at e
    have e2 : g = w.heap.size := Option.some.inj e
    have hk := h.2.1
    unfold Blk at hk
    rw [← e2, hgb] at hk
    have e3 := Option.some.inj hk
    injection e3 with _ e4
    exact absurd e4 (by decide)
theorem EDb.grow {w W W3 : World} {B m hb : Nat} {y : Ent} (h : EDb w W B m hb y) (z : Ent) (hz : z.enc = y.enc.set 5 (Ent.hv z)) (ho : Own W3 w.heap.size 3 IntE.enc 1 (Ent.hv z) z.sub) (hg : W.grownBy W3 (Ent.hv y).ownBlock)
    (hat : (Ent.hv z).ownBlock = (Ent.hv y).ownBlock ∨ (Ent.hv z).ownBlock = some W.heap.size) (hq : entOk z) : EDb w (W3.setCell ⟨hb, 5, none⟩ (Ent.hv z)) B m hb z := by
  refine ⟨NSB.grow Ent.len h.1 z 5 (by omega) hz ho hg (hat.imp id (fun e => ⟨_, e, Nat.le_refl _⟩)) hq, ?_, h.2.2⟩
  have h1 : Blk W3 w.heap.size 51 _ := (hg.block _ h.2.1.lt (fun e => h.hvne e.symm)).trans h.2.1
  exact Blk.grown h1 (B := hb) (only_setCell (World.grownBy.refl _ _) ⟨hb, 5, none⟩ rfl _) (by have := h.2.2; omega)
set_option maxHeartbeats 16000000 in
set_option maxRecDepth 100000 in
theorem entry_c (w : World) (B m : Nat) (id : Int) (h : Cur w B m) (hm : m ≤ 10000000) (hid : -1000000 ≤ id ∧ id ≤ 1000000) : Calls Tryd.prog 104 #[.pointer (some ⟨B, 0, none⟩), .int .i64 id] w (CurE w B (m + 20)) := by
  obtain ⟨n, hn0, hw0, hw1, hw2⟩ := info_parts (show (Tryd.prog.info? 3).map (fun i => (i.zero, i.size, i.bytes)) = some (some (.int .i64 0), 1, 8) by kernel_rfl)
  have hB := h.lt
  have S0 : Hid (EDs w (w.alloc (.cells #[.int .i64 0, .string ByteArray.empty, .string ByteArray.empty, .int .i64 0, .int .i64 0, .slice none 0 0] 51)) B m) := Lib.hid ⟨h.mono (below_alloc w _), only_new (World.grownBy.refl w (some B)), Blk.new w _ _⟩
  go_enter Tryd.func104, Tryd.ntmps104
  go_wp2_with fail
  refine (ofL_c [.string ⟨#[97, 108, 112, 115]⟩, .string ⟨#[97, 108, 112, 115]⟩, .string ⟨#[99, 111, 97, 115, 116]⟩, .string ⟨#[114, 105, 118, 101, 114]⟩] (fun s => s.size ≤ 12) S0.out.cur (by omega) (allS (by rfl)) (by simp) (by simp) (by simp) (by simp)).mono ?_
  rintro e w1 ⟨ti, hti, rfl, C1, g1⟩
  have S1 := Lib.hid (S0.out.turn hB g1 C1)
  clear S0 C1 g1
  go_wp2_with fail
  refine (ofL_c [.string ⟨#[]⟩, .string ⟨#[]⟩, .string ⟨#[98, 101, 114, 110]⟩, .string ⟨#[98, 101, 114, 110]⟩, .string ⟨#[114, 111, 109, 101]⟩] (fun s => s.size ≤ 12) S1.out.cur (by omega) (allS (by rfl)) (by simp) (by simp) (by simp) (by simp)).mono ?_
  rintro e w2 ⟨pl, hpl, rfl, C2, g2⟩
  have S2 := Lib.hid (S1.out.turn hB g2 C2)
  clear S1 C2 g2
  go_wp2_with fail
  refine (amongL_c [.int .i64 0, .int .i64 0, .int .i64 1890, .int .i64 1890, .int .i64 1950] (fun _ => True) S2.out.cur (by omega) (allI rfl) (by simp) (by simp) (by simp) (by simp)).mono ?_
  rintro e w3 ⟨yr, -, rfl, C3, g3⟩
  have S3 := Lib.hid (S2.out.turn hB g3 C3)
  clear S2 C3 g3
  go_wp2_with fail
  refine (amongL_c [.int .i64 0, .int .i64 1, .int .i64 2, .int .i64 5, .int .i64 99] (fun _ => True) S3.out.cur (by omega) (allI rfl) (by simp) (by simp) (by simp) (by simp)).mono ?_
  rintro e w4 ⟨ct, -, rfl, C4, g4⟩
  have S4 := Lib.hid (S3.out.turn hB g4 C4)
  clear S3 C4 g4
  have hz4 := S4.out.blk.lt
  have hZ4 := Lib.hid (S4.out.gr.size)
  go_upto_region 2 with fail
  refine wpAt fun W5 hW5 => ?_
  have X5 : Hid (EDb w W5 B (m + 8) (w4.heap.size + 1) ⟨id, ti, pl, yr, ct, some ⟨w4.heap.size, 0, none⟩, 0, []⟩) := by
    have hC := S4.out.cur.mono (below_alloc w4 (.cells #[] 3))
    have h1 := NSB.start Ent.len (NSt.none0 (tE := 51) (tI := 3) (enc := Ent.enc) (K := 6) (encI := IntE.enc) (hv := Ent.hv) (sub := Ent.sub) (Q := entOk) hC (only_new S4.out.gr) hB) (⟨id, ti, pl, yr, ct, some ⟨w4.heap.size, 0, none⟩, 0, []⟩ : Ent) ⟨Own.empty _ _ _ _ _ hZ4.out, fun b _ e => by (cases e), by simp, hti, hpl⟩
    rw [hW5]
    exact Lib.hid ⟨by simpa [Ent.enc] using h1, (S4.out.blk.mono (below_alloc _ _)).mono (below_alloc _ _), by omega⟩
  obtain ⟨y, hy, X5⟩ : ∃ y : Ent, Hid (y.sub.length ≤ 0) ∧ Hid (EDb w W5 B (m + 8) (w4.heap.size + 1) y) := ⟨_, Lib.hid (by simp), X5⟩
  clear hW5 S4 hz4 hZ4
  generalize w4.heap.size + 1 = hb at *
  go_wp2_with fail
  refine (one_c _ B _ 3 X5.out.1.cur (by omega) (by omega)).mono ?_
  rintro e w6 ⟨b1, rfl, C6, g6⟩
  have X6 := Lib.hid (X5.out.turn g6 C6)
  clear X5 C6 g6
  go_upto_if 22 with fail
  go_cut [] from 23 (fun W => ∃ y : Ent, Hid (y.sub.length ≤ 1) ∧ Hid (EDb w W B (m + 10) hb y))
  case first =>
    cases b1
    · go_wp2_with fail
      go_meet
      case rel => exact ⟨y, Lib.hid (by have := hy.out; omega), Lib.hid (X6.out.le (by omega))⟩
    · obtain ⟨⟨hb0, hb1⟩, y0, y1, y2, y3, y4, y5⟩ := EBx.cells X6.out.1.2.1
      have z5 := X6.out.1.2.1.frozen 5
      have hz6 := Lib.hid X6.out.1.st.size
      have hnb : some hb ≠ (Ent.hv y).ownBlock := fun e => X6.out.1.2.2.2.2.2 e.symm
      have hI := Lib.hid X6.out.1.2.2.1.1
      have hQ := X6.out.1.2.2.1.2.2
      clear y0 y1 y2 y3 y4
      have hw : IntKind.i64.wrap (id + 500) = id + 500 := by rw [IntKind.wrap_i64]; omega
      go_wp2_with (at_builtin; refine wpList_pushAt IntE.len IntE.one rfl (.tmp 24) (.tmp 27) 49 rfl w.heap.size 3 n _ 8 Tryd.underlying49 hn0 hw0 hw1 hw2 rfl (by omega) (Ent.hv y) y.sub rfl (hI.out.mono (below_alloc _ _)) _ 1 (id + 500) rfl (cells1 (by simp)) (by have := hy.out; unfold maxLen; omega) (by have := hy.out; omega) (by have := hz6.out; simp; omega) ?_)
      intro v3 w7 ho3 hg3 hat3
      obtain ⟨a3, cap3, b3, off3, rfl, -, -, -⟩ := ho3.sl IntE.len
      have q5 := cellGrown (cellOn (below_alloc _ _) y5) hg3 hnb
      have hA := below_alloc w6 (.cells #[.int .i64 (id + 500)] 3)
      have qz : w7.frozen? ⟨hb, 5, none⟩ = false := (World.frozen?_of_block (a := ⟨hb, 5, none⟩) (hg3.block hb (Nat.lt_of_lt_of_le hb1 hA.size) hnb)).trans ((hA.frozen (p := ⟨hb, 5, none⟩) hb1).trans z5)
      have hq7 := block_lt_of_cell q5
      have Y := EDb.grow (X6.out.below hA) (⟨y.id, y.ti, y.pl, y.yr, y.ct, a3, cap3, y.sub ++ [id + 500]⟩ : Ent) rfl ho3 hg3 (by rcases hat3 with e | e; exact .inl e; exact .inr (e.trans (by simp))) ⟨by have := hy.out; show (y.sub ++ [_]).length ≤ 8; rw [List.length_append, List.length_singleton]; omega, hQ.2⟩
      have hzl : Hid ((⟨y.id, y.ti, y.pl, y.yr, y.ct, a3, cap3, y.sub ++ [id + 500]⟩ : Ent).sub.length ≤ 1) := Lib.hid (by have := hy.out; show (y.sub ++ [_]).length ≤ 1; rw [List.length_append, List.length_singleton]; omega)
      rw [show Ent.hv (⟨y.id, y.ti, y.pl, y.yr, y.ct, a3, cap3, y.sub ++ [id + 500]⟩ : Ent) = .slice a3 (y.sub.length + 1) cap3 by simp [Ent.hv]] at Y
      replace Y := Lib.hid Y
      clear ho3 hg3 hat3 hA X6 z5 y5 hI
      go_wp2_with fail
      go_meet
      case rel => exact ⟨_, hzl, Lib.hid (Y.out.le (by omega))⟩
  obtain ⟨y, hy, X5⟩ := hcut
  clear X6
  generalize wc = w5 at *
  go_wp2_with fail
  refine (one_c _ B _ 6 X5.out.1.cur (by omega) (by omega)).mono ?_
  rintro e w6 ⟨b1, rfl, C6, g6⟩
  have X6 := Lib.hid (X5.out.turn g6 C6)
  clear X5 C6 g6
  go_upto_if 31 with fail
  go_cut [] from 32 (fun W => ∃ y : Ent, Hid (y.sub.length ≤ 2) ∧ Hid (EDb w W B (m + 12) hb y))
  case first =>
    cases b1
    · go_wp2_with fail
      go_meet
      case rel => exact ⟨y, Lib.hid (by have := hy.out; omega), Lib.hid (X6.out.le (by omega))⟩
    · obtain ⟨⟨hb0, hb1⟩, y0, y1, y2, y3, y4, y5⟩ := EBx.cells X6.out.1.2.1
      have z5 := X6.out.1.2.1.frozen 5
      have hz6 := Lib.hid X6.out.1.st.size
      have hnb : some hb ≠ (Ent.hv y).ownBlock := fun e => X6.out.1.2.2.2.2.2 e.symm
      have hI := Lib.hid X6.out.1.2.2.1.1
      have hQ := X6.out.1.2.2.1.2.2
      clear y0 y1 y2 y3 y4
      have hw : IntKind.i64.wrap (id + 501) = id + 501 := by rw [IntKind.wrap_i64]; omega
      go_wp2_with (at_builtin; refine wpList_pushAt IntE.len IntE.one rfl (.tmp 33) (.tmp 36) 49 rfl w.heap.size 3 n _ 8 Tryd.underlying49 hn0 hw0 hw1 hw2 rfl (by omega) (Ent.hv y) y.sub rfl (hI.out.mono (below_alloc _ _)) _ 1 (id + 501) rfl (cells1 (by simp)) (by have := hy.out; unfold maxLen; omega) (by have := hy.out; omega) (by have := hz6.out; simp; omega) ?_)
      intro v3 w7 ho3 hg3 hat3
      obtain ⟨a3, cap3, b3, off3, rfl, -, -, -⟩ := ho3.sl IntE.len
      have q5 := cellGrown (cellOn (below_alloc _ _) y5) hg3 hnb
      have hA := below_alloc w6 (.cells #[.int .i64 (id + 501)] 3)
      have qz : w7.frozen? ⟨hb, 5, none⟩ = false := (World.frozen?_of_block (a := ⟨hb, 5, none⟩) (hg3.block hb (Nat.lt_of_lt_of_le hb1 hA.size) hnb)).trans ((hA.frozen (p := ⟨hb, 5, none⟩) hb1).trans z5)
      have hq7 := block_lt_of_cell q5
      have Y := EDb.grow (X6.out.below hA) (⟨y.id, y.ti, y.pl, y.yr, y.ct, a3, cap3, y.sub ++ [id + 501]⟩ : Ent) rfl ho3 hg3 (by rcases hat3 with e | e; exact .inl e; exact .inr (e.trans (by simp))) ⟨by have := hy.out; show (y.sub ++ [_]).length ≤ 8; rw [List.length_append, List.length_singleton]; omega, hQ.2⟩
      have hzl : Hid ((⟨y.id, y.ti, y.pl, y.yr, y.ct, a3, cap3, y.sub ++ [id + 501]⟩ : Ent).sub.length ≤ 2) := Lib.hid (by have := hy.out; show (y.sub ++ [_]).length ≤ 2; rw [List.length_append, List.length_singleton]; omega)
      rw [show Ent.hv (⟨y.id, y.ti, y.pl, y.yr, y.ct, a3, cap3, y.sub ++ [id + 501]⟩ : Ent) = .slice a3 (y.sub.length + 1) cap3 by simp [Ent.hv]] at Y
      replace Y := Lib.hid Y
      clear ho3 hg3 hat3 hA X6 z5 y5 hI
      go_wp2_with fail
      go_meet
      case rel => exact ⟨_, hzl, Lib.hid (Y.out.le (by omega))⟩
  obtain ⟨y, hy, X5⟩ := hcut
  clear X6
  generalize wc = w5 at *
  go_wp2_with fail
  refine (pick_c _ B _ 64 X5.out.1.cur (by omega) (by omega)).mono ?_
  rintro e w6 ⟨p, hp, rfl, C6, g6⟩
  have X6 := Lib.hid (X5.out.turn g6 C6)
  clear X5 C6 g6 hp hy
  go_upto_block 0 with fail
  go_cut [] from 41 (fun W => ∃ y : Ent, Hid (EDb w W B (m + 16) hb y))
  case first =>
    obtain ⟨⟨hb0, hb1⟩, y0, y1, y2, y3, y4, y5⟩ := EBx.cells X6.out.1.2.1
    by_cases hp0 : p = 0
    · subst hp0
      go_wp2_with fail
      refine (ofL_c [.string ⟨#[]⟩, .string ⟨#[65, 108, 112, 115]⟩, .string ⟨#[97, 98, 99, 100, 101, 102, 103, 104, 105, 106, 107]⟩] (fun s => s.size ≤ 12) X6.out.1.cur (by omega) (allS (by rfl)) (by simp) (by simp) (by simp) (by simp)).mono ?_
      rintro e w7 ⟨z, hz, rfl, C7, g7⟩
      have X7 := Lib.hid (X6.out.turn g7 C7)
      clear X6 C7 g7 y0 y1 y2 y3 y4 y5 hb1
      have Y := Lib.hid (EDb.scal X7.out { y with ti := z } 1 (by omega) (.string z) rfl rfl rfl ⟨X7.out.1.2.2.1.2.2.1, hz, X7.out.1.2.2.1.2.2.2.2⟩)
      obtain ⟨⟨-, hb1⟩, y0, y1, y2, y3, y4, y5⟩ := EBx.cells X7.out.1.2.1
      have z1 := X7.out.1.2.1.frozen 1
      go_wp2_with fail
      go_meet
      case rel => exact ⟨_, Lib.hid (Y.out.le (by omega))⟩
    have hp0' : (p == 0) = false := by simpa using hp0
    clear hp0
    by_cases hp1 : p = 1
    · subst hp1
      go_wp2_with fail
      refine (amongL_c [.int .i64 1499, .int .i64 2101] (fun _ => True) X6.out.1.cur (by omega) (allI rfl) (by simp) (by simp) (by simp) (by simp)).mono ?_
      rintro e w7 ⟨z, hz, rfl, C7, g7⟩
      have X7 := Lib.hid (X6.out.turn g7 C7)
      clear X6 C7 g7 y0 y1 y2 y3 y4 y5 hb1
      have Y := Lib.hid (EDb.scal X7.out { y with yr := z } 3 (by omega) (.int .i64 z) rfl rfl rfl X7.out.1.2.2.1.2.2)
      obtain ⟨⟨-, hb1⟩, y0, y1, y2, y3, y4, y5⟩ := EBx.cells X7.out.1.2.1
      have z3 := X7.out.1.2.1.frozen 3
      go_wp2_with fail
      go_meet
      case rel => exact ⟨_, Lib.hid (Y.out.le (by omega))⟩
    have hp1' : (p == 1) = false := by simpa using hp1
    clear hp1
    by_cases hp2 : p = 2
    · subst hp2
      have X7 := X6.out.below (below_alloc w6 (.cells #[.int .i64 9, .int .i64 8] 3))
      have hO : Own (w6.alloc (.cells #[.int .i64 9, .int .i64 8] 3)) w6.heap.size 3 IntE.enc 1 (.slice (some ⟨w6.heap.size, 0, none⟩) 2 2) [9, 8] := ⟨rfl, .inr ⟨w6.heap.size, 2, _, rfl, Nat.le_refl _, heap_alloc_new _ _, Nat.le_refl _, by simp [maxLen], rfl, rfl⟩⟩
      have hne : ¬ w6.heap.size = hb := by have := X6.out.1.2.1.lt.2; omega
      have hN : EIn w (w6.alloc (.cells #[.int .i64 9, .int .i64 8] 3)) (.slice none 0 0) ⟨y.id, y.ti, y.pl, y.yr, y.ct, some ⟨w6.heap.size, 0, none⟩, 2, [9, 8]⟩ := NIn.new hO (fun b e => by cases e) X6.out.1.st.size ⟨by simp, X6.out.1.2.2.1.2.2.2⟩
      have Y := EDb.setN X7 ⟨y.id, y.ti, y.pl, y.yr, y.ct, some ⟨w6.heap.size, 0, none⟩, 2, [9, 8]⟩ rfl hN (fun e => hne (Option.some.inj e))
      have z5 := X6.out.1.2.1.frozen 5
      rw [World.setCell_alloc_past _ _ _ _ (X6.out.1.2.1.lt.2)] at Y
      replace Y := Lib.hid Y
      clear hN hO X7
      go_wp2_with fail
      go_meet
      case rel => exact ⟨_, Lib.hid (Y.out.le (by omega))⟩
    have hp2' : (p == 2) = false := by simpa using hp2
    clear hp2
    by_cases hp3 : p = 3
    · subst hp3
      have X7 := X6.out.below (below_alloc w6 (.cells #[.int .i64 1, .int .i64 2, .int .i64 3, .int .i64 4, .int .i64 6, .int .i64 7, .int .i64 11, .int .i64 13] 3))
      have hO : Own (w6.alloc (.cells #[.int .i64 1, .int .i64 2, .int .i64 3, .int .i64 4, .int .i64 6, .int .i64 7, .int .i64 11, .int .i64 13] 3)) w6.heap.size 3 IntE.enc 1 (.slice (some ⟨w6.heap.size, 0, none⟩) 8 8) [1, 2, 3, 4, 6, 7, 11, 13] := ⟨rfl, .inr ⟨w6.heap.size, 8, _, rfl, Nat.le_refl _, heap_alloc_new _ _, Nat.le_refl _, by simp [maxLen], rfl, rfl⟩⟩
      have hne : ¬ w6.heap.size = hb := by have := X6.out.1.2.1.lt.2; omega
      have hN : EIn w (w6.alloc (.cells #[.int .i64 1, .int .i64 2, .int .i64 3, .int .i64 4, .int .i64 6, .int .i64 7, .int .i64 11, .int .i64 13] 3)) (.slice none 0 0) ⟨y.id, y.ti, y.pl, y.yr, y.ct, some ⟨w6.heap.size, 0, none⟩, 8, [1, 2, 3, 4, 6, 7, 11, 13]⟩ := NIn.new hO (fun b e => by cases e) X6.out.1.st.size ⟨by simp, X6.out.1.2.2.1.2.2.2⟩
      have Y := EDb.setN X7 ⟨y.id, y.ti, y.pl, y.yr, y.ct, some ⟨w6.heap.size, 0, none⟩, 8, [1, 2, 3, 4, 6, 7, 11, 13]⟩ rfl hN (fun e => hne (Option.some.inj e))
      have z5 := X6.out.1.2.1.frozen 5
      rw [World.setCell_alloc_past _ _ _ _ (X6.out.1.2.1.lt.2)] at Y
      replace Y := Lib.hid Y
      clear hN hO X7
      go_wp2_with fail
      go_meet
      case rel => exact ⟨_, Lib.hid (Y.out.le (by omega))⟩
    have hp3' : (p == 3) = false := by simpa using hp3
    clear hp3
    go_wp2_with fail
    go_meet
    case rel => exact ⟨y, Lib.hid (X6.out.le (by omega))⟩
  clear X6
  obtain ⟨y, X6⟩ := hcut
  generalize wc = w7 at *
  obtain ⟨⟨hb0, hb1⟩, y0, y1, y2, y3, y4, y5⟩ := EBx.cells X6.out.1.2.1
  have hK := X6.out.2.1
  have hwl := hK.lt
  have k0 := hK.cell 0 _ rfl
  have k1 := hK.cell 1 _ rfl
  have k2 := hK.cell 2 _ rfl
  have k3 := hK.cell 3 _ rfl
  have k4 := hK.cell 4 _ rfl
  have k5 := hK.cell 5 _ rfl
  have f0 := hK.frozen 0
  have f1 := hK.frozen 1
  have f2 := hK.frozen 2
  have f3 := hK.frozen 3
  have f4 := hK.frozen 4
  have f5 := hK.frozen 5
  have hhb := X6.out.2.2
  clear hK
  have hnv := X6.out.hvne
  go_wp2_with fail
  (try simp only [Exit.inBlock, Exit.then])
  refine bodyPost_ret (by simp [results, Tryd.results104, go_sem, k0, k1, k2, k3, k4, k5]; try rfl) rfl ?_
  refine ⟨y, rfl, ?_⟩
  have G : w7.grownBy ((((((w7.setCell ⟨w.heap.size, 0, none⟩ (.int .i64 y.id)).setCell ⟨w.heap.size, 1, none⟩ (.string y.ti)).setCell ⟨w.heap.size, 2, none⟩ (.string y.pl)).setCell ⟨w.heap.size, 3, none⟩ (.int .i64 y.yr)).setCell ⟨w.heap.size, 4, none⟩ (.int .i64 y.ct)).setCell ⟨w.heap.size, 5, none⟩ (.slice y.a y.sub.length y.cap)) (some w.heap.size) := only_set (only_set (only_set (only_set (only_set (only_set (World.grownBy.refl _ _))))))
  exact ⟨(X6.out.1.cur.grown G hB).le (by omega), grown_new X6.out.1.st.gr G (fun g e => by injection e with e; omega), own_keep X6.out.1.2.2.1.1 G (fun b hb2 e => hnv (by rw [hb2]; exact e.symm)), X6.out.1.2.2.1.2.2⟩
/-- a call that hands back a list of entries and has read choices -/
def CurEs (w : World) (B m : Nat) (e : Ending) (w' : World) : Prop := ∃ (v : Value) (l : List Ent), e = .returned v ∧ ESt w w' B v l m 13
theorem ESt.in {w0 w w' : World} {B m N m' : Nat} {v : Value} {l : List Ent} {x : Ent} (h : ESt w0 w B v l m N) (_ : Cur w' B m') (ho : Own w' w.heap.size 3 IntE.enc 1 (Ent.hv x) x.sub) (hq : entOk x) (o : Obj) : EIn w0 (w'.alloc o) v x :=
  (NIn.new ho h.vlt h.size hq).turn (only_of_below (below_alloc _ _) _) h.blt
set_option maxHeartbeats 16000000 in
set_option maxRecDepth 100000 in
theorem entries_c (w : World) (B m : Nat) (h : Cur w B m) (hm : m ≤ 1000000) : Calls Tryd.prog 68 #[.pointer (some ⟨B, 0, none⟩)] w (CurEs w B (m + 400)) := by
  have hB := h.lt
  obtain ⟨i0, hi, hz0, hz1, hz2⟩ := info_parts (show (Tryd.prog.info? 51).map (fun i => (i.zero, i.size, i.bytes)) = some (some (.agg #[.int .i64 0, .string ByteArray.empty, .string ByteArray.empty, .int .i64 0, .int .i64 0, .slice none 0 0]), 6, 80) by kernel_rfl)
  have S0 : Hid (ESt w (w.alloc (.cells #[] 51)) B (.slice (some ⟨w.heap.size, 0, none⟩) 0 0) [] m 0) := Lib.hid (NSt.start h)
  clear h
  go_enter Tryd.func68, Tryd.ntmps68
  go_upto_block 0 with fail
  go_cut [3, 4] from 6 (fun o _ W => ∃ l : List Ent, Hid (ESt w W B o l (m + 200) 6))
  case first =>
    go_wp2_with fail
    go_loopw [3, 4] (fun o vn wr => ∃ (q : Nat) (l : List Ent), 1 ≤ q ∧ q ≤ 7 ∧ vn = .int .i64 (q : Int) ∧ Hid (ESt w wr B o l (m + 30 * (q - 1)) (q - 1))) (fun _ vn _ => (7 - (intOf vn)).toNat)
    case atStart => exact ⟨1, [], by omega, by omega, rfl, Lib.hid (S0.out.le (by omega) (by omega))⟩
    case round =>
      obtain ⟨q, l, hq1, hq7, rfl, hS⟩ := hrel
      have hl := hS.out.len
      by_cases hlt : q < 7
      · have hlt' : (q : Int) < 7 := by omega
        go_wp2_with fail
        refine (one_c _ B _ 3 hS.out.cur (by omega) (by omega)).mono ?_
        rintro e w2 ⟨b2, rfl, C2, g2⟩
        have S2 := Lib.hid (hS.out.turn g2 C2)
        clear hS C2 g2 S0
        cases b2
        · go_wp2_with fail
          refine (entry_c _ B _ (20 * (q : Int)) S2.out.cur (by omega) (by omega)).mono ?_
          rintro e w3 ⟨x, rfl, C3, g3, hO, hq⟩
          have S3 := Lib.hid (S2.out.turn g3 C3)
          have hN := Lib.hid (fun o => ESt.in S2.out C3 hO hq o)
          clear C3 g3 hO hq S2
          go_wp2_with (at_builtin; refine wpList_pushAt Ent.len Ent.one rfl (.tmp 13) (.tmp 18) 35 rfl w.heap.size 51 i0 _ 80 Tryd.underlying35 hi hz0 hz1 hz2 rfl (by omega) _ l rfl (S3.out.alloc _).own _ 1 x rfl (fun j u hu => new_cells _ (Ent.enc x) _ _ (by simp) j u hu) (by unfold maxLen; omega) (by omega) (by have := S3.out.size; simp; omega) ?_)
          intro v' w5 ho5 hg5 hat5
          have T3 := Lib.hid ((S3.out.alloc _).push ho5 hg5 (by simpa using hat5) (hN.out _))
          clear ho5 hg5 hat5 S3 hN
          go_wp2_with fail
          go_roundw
          case rel => exact ⟨q + 1, _, by omega, by omega, by go_num, Lib.hid (T3.out.le (by omega) (by omega))⟩
          case measure => simp [intOf]; omega
        · go_wp2_with fail
          go_roundw
          case rel => exact ⟨q + 1, l, by omega, by omega, by go_num, Lib.hid (S2.out.le (by omega) (by omega))⟩
          case measure => simp [intOf]; omega
      · obtain rfl : q = 7 := by omega
        go_wp2_with fail
        go_meet
        case rel => exact ⟨l, Lib.hid (hS.out.le (by omega) (by omega))⟩
  obtain ⟨l, S1⟩ := hcut
  clear S0
  generalize wc = w1 at *
  have hl := S1.out.len
  go_wp2_with fail
  refine (pick_c _ B _ 32 S1.out.cur (by omega) (by omega)).mono ?_
  rintro e w2 ⟨p, hp, rfl, C2, g2⟩
  have S2 := Lib.hid (S1.out.turn g2 C2)
  clear S1 C2 g2 hp
  by_cases hp0 : p = 0
  · subst hp0
    go_wp2_with fail
    refine (amongL_c [.int .i64 0, .int .i64 20, .int .i64 520, .int .i64 999] (fun x => 0 ≤ x ∧ x ≤ 999) S2.out.cur (by omega) (fun v hv => by simp at hv; rcases hv with rfl | rfl | rfl | rfl <;> exact ⟨_, by omega, rfl⟩) (by simp) (by simp) (by simp) (by simp)).mono ?_
    rintro e w3 ⟨z, ⟨z0, z1⟩, rfl, C3, g3⟩
    have S3 := Lib.hid (S2.out.turn g3 C3)
    clear C3 g3 S2
    go_wp2_with fail
    refine (entry_c _ B _ z S3.out.cur (by omega) (by omega)).mono ?_
    rintro e w4 ⟨x, rfl, C4, g4, hO, hq⟩
    have S4 := Lib.hid (S3.out.turn g4 C4)
    have hN := Lib.hid (fun o => ESt.in S3.out C4 hO hq o)
    clear C4 g4 hO hq S3
    go_wp2_with (at_builtin; refine wpList_pushAt Ent.len Ent.one rfl (.tmp 24) (.tmp 30) 35 rfl w.heap.size 51 i0 _ 80 Tryd.underlying35 hi hz0 hz1 hz2 rfl (by omega) _ l rfl (S4.out.alloc _).own _ 1 x rfl (fun j u hu => new_cells _ (Ent.enc x) _ _ (by simp) j u hu) (by unfold maxLen; omega) (by omega) (by have := S4.out.size; simp; omega) ?_)
    intro v' w5 ho5 hg5 hat5
    have T3 := Lib.hid ((S4.out.alloc _).push ho5 hg5 (by simpa using hat5) (hN.out _))
    clear ho5 hg5 hat5 S4 hN
    go_wp2_with fail
    go_ret
    exact ⟨_, _, rfl, T3.out.le (by omega) (by omega)⟩
  · have hp0' : (p == 0) = false := by simpa using hp0
    clear hp0
    by_cases hp1 : p = 1
    · subst hp1
      go_wp2_with fail
      go_loopw [3] (fun o wr => ∃ l : List Ent, l.length ≤ 13 ∧ Hid (ESt w wr B o l (m + 202 + 4 * l.length) 13)) (fun o _ => 14 - lenV o)
      case atStart => exact ⟨l, by omega, Lib.hid (S2.out.le (by omega) (by omega))⟩
      case round =>
        obtain ⟨l, hl13, hS⟩ := hrel
        obtain ⟨a, cap, b0, off, rfl, hlc, hm2, -⟩ := ESt.sl hS.out
        unfold maxLen at hm2
        go_wp2_with fail
        refine (pick_c _ B _ 2 hS.out.cur (by omega) (by omega)).mono ?_
        rintro e w7 ⟨p, hp, rfl, C7, g7⟩
        have hp2 := hp.1
        have hp3 := hp.2.1 (by omega)
        have T1 := Lib.hid (hS.out.turn g7 C7)
        clear hS C7 g7 hp S2
        by_cases hlt : (l.length : Int) < 12 + p
        · go_wp2_with (at_builtin; refine wpList_pushAt Ent.len Ent.one rfl (.tmp 40) (.tmp 45) 35 rfl w.heap.size 51 i0 _ 80 Tryd.underlying35 hi hz0 hz1 hz2 rfl (by omega) _ l rfl (T1.out.alloc _).own _ 1 ⟨300 + (l.length : Int), ⟨#[104, 105, 108, 108]⟩, ByteArray.empty, 0, 0, none, 0, []⟩ rfl (fun j u hu => new_cells _ (Ent.enc ⟨300 + (l.length : Int), ⟨#[104, 105, 108, 108]⟩, ByteArray.empty, 0, 0, none, 0, []⟩) _ _ (by simp) j u hu) (by unfold maxLen; omega) (by omega) (by have := T1.out.size; simp; omega) ?_)
          intro v' w9 ho9 hg9 hat9
          have T3 := Lib.hid ((T1.out.alloc _).push ho9 hg9 (by simpa using hat9) (NIn.nil _ _ rfl rfl ⟨Nat.zero_le _, by show (⟨#[104, 105, 108, 108]⟩ : ByteArray).size ≤ 12; decide, by show ByteArray.empty.size ≤ 12; decide⟩))
          obtain ⟨a9, c9, b9, f9, rfl, -, -, -⟩ := ho9.sl Ent.len
          clear T1 ho9 hg9 hat9
          go_wp2_with fail
          go_roundw
          case rel => exact ⟨_, by simp; omega, Lib.hid (NSt.cut (T3.out.le (by simp; omega) (Nat.le_refl _)) (by simp; omega))⟩
          case measure => simp [lenV]; omega
        · go_wp2_with fail
          go_ret
          exact ⟨_, _, rfl, T1.out.le (by omega) (by omega)⟩
    · have hp1' : (p == 1) = false := by simpa using hp1
      go_wp2_with fail
      go_ret
      exact ⟨_, l, rfl, S2.out.le (by omega) (by omega)⟩
end Go.Proofs.YteainpflmofjaaaDoor
