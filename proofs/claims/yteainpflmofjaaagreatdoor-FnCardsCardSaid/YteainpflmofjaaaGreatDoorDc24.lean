/- Cards drawn from choices: what the draw leaves. No condition but that not too many choices were read. -/
import Derived.Test.YteainpflmofjaaaGreatDoorNs
import Derived.Test.YteainpflmofjaaaGreatDoorMark
import Derived.Test.YteainpflmofjaaaGreatDoorPu24
import Derived.Outline
import Derived.Deep.Cut
import Derived.Deep.CutBlock
namespace Go.Proofs.YteainpflmofjaaaGreatDoor
open Go.RowKit
def crdOk (x : Crd) : Prop := x.sub.length ≤ 16 ∧ ∀ i, i < x.sub.length → (gd x.sub i).size ≤ 12
abbrev KSt (w0 w : World) (B : Nat) (v : Value) (l : List Crd) (m N : Nat) : Prop := NSt w0 w B 34 Crd.enc 3 9 StrE.enc Crd.hv Crd.sub crdOk v l m N
abbrev KIn (w0 w : World) (v : Value) (x : Crd) : Prop := NIn w0 w 9 StrE.enc Crd.hv Crd.sub crdOk v x
abbrev KBx (w : World) (lo b : Nat) (x : Crd) : Prop := Bx w lo 34 Crd.enc 3 b x
abbrev KSB (w0 w : World) (B : Nat) (v : Value) (l : List Crd) (m N hb : Nat) (y : Crd) : Prop := NSB w0 w B 34 Crd.enc 3 9 StrE.enc Crd.hv Crd.sub crdOk v l m N hb y
theorem KSt.deep {w0 w : World} {B m N : Nat} {v : Value} {l : List Crd} (h : KSt w0 w B v l m N) : Crd.Deep w l := fun i hi => (h.2 i hi).1.sl StrE.len
theorem crdOk.fits {x : Crd} (h : crdOk x) : StrE.Fits x.sub := fun i hi => by
  have := h.2 i hi
  show (gd x.sub i).size ≤ maxLen
  unfold maxLen; omega
theorem KSt.fits {w0 w : World} {B m N : Nat} {v : Value} {l : List Crd} (h : KSt w0 w B v l m N) : ∀ i, i < l.length → StrE.Fits (gd l i).sub := fun i hi => crdOk.fits (h.2 i hi).2.2
theorem KSt.sl {w0 w : World} {B m N : Nat} {v : Value} {l : List Crd} (h : KSt w0 w B v l m N) : Sl w Crd.enc 3 v l := h.own.sl Crd.len
theorem KBx.cells {w : World} {lo b : Nat} {x : Crd} (h : KBx w lo b x) : (lo ≤ b ∧ b < w.heap.size) ∧ w.cell? ⟨b, 0, none⟩ = some (.int .i64 x.id) ∧ w.cell? ⟨b, 1, none⟩ = some (.int .i64 x.yr) ∧ w.cell? ⟨b, 2, none⟩ = some (.slice x.a x.sub.length x.cap) :=
  ⟨h.lt, h.cell Crd.len 0 _ rfl, h.cell Crd.len 1 _ rfl, h.cell Crd.len 2 _ rfl⟩
section
variable {α β : Type} [Inhabited α] {tE tI : TypeId} {enc : α → List Value} {K : Nat} {encI : β → List Value} {hv : α → Value} {sub : α → List β} {Q : α → Prop}
/-- no list at all, beside a box -/
theorem NSt.none1 {w0 w : World} {B m : Nat} (h : Cur w B m) (hg : w0.grownBy w (some B)) (hB : B < w0.heap.size) : NSt w0 w B tE enc K tI encI hv sub Q (.slice none 0 0) ([] : List α) m 0 :=
  ⟨⟨Own.nil _ _ _ _ _, Nat.le_refl _, h, hg, hB⟩, fun i hi => absurd hi (by simp)⟩
theorem grown_newK {w0 w w' : World} {B : Nat} {r : Option Nat} (h : w0.grownBy w (some B)) (hg : w.grownBy w' r) (hr : ∀ g, r = some g → w0.heap.size ≤ g) : w0.grownBy w' (some B) :=
  ⟨hg.os.trans h.os, hg.tape.trans h.tape, hg.output.trans h.output, Nat.le_trans h.size hg.size, fun q hq hne => (hg.block q (Nat.lt_of_lt_of_le hq h.size) (fun e => by have := hr q e.symm; omega)).trans (h.block q hq hne)⟩
end
theorem flt_two (p q : ByteArray → Bool) (h : ∀ x, p x = true → q x = false) : ∀ l : List ByteArray, (l.filter p).length + (l.filter q).length ≤ l.length
  | [] => by simp
  | x :: l => by
    have ih := flt_two p q h l
    have hx := h x
    cases hp : p x <;> cases hq : q x <;> simp [hp, hq] at hx ⊢ <;> omega
theorem putW_len1 (w : ByteArray) (l : List ByteArray) : (putW w l).length ≤ l.length + 1 := by
  have h := flt_two (fun x => ltS x w) (fun x => ltS w x) (fun x hx => by
    unfold ltS at hx ⊢
    rcases ord3 x w with ⟨o1, o2, -⟩ | ⟨o1, -, -⟩ | ⟨o1, -, -⟩
    · rw [hx] at o2; cases o2
    · exact o1
    · exact o1) l
  simp only [putW, List.length_append, List.length_singleton]
  omega
theorem putW_sz {w : ByteArray} {l : List ByteArray} {N : Nat} (hw : w.size ≤ N) (hl : ∀ i, i < l.length → (gd l i).size ≤ N) : ∀ i, i < (putW w l).length → (gd (putW w l) i).size ≤ N := fun i hi => by
  have key : ∀ z, z ∈ putW w l → z.size ≤ N := fun z hz => by
    simp only [putW, List.mem_append, List.mem_filter, List.mem_singleton] at hz
    have hm : z ∈ l → z.size ≤ N := fun h => by
      obtain ⟨j, hj, e⟩ := List.getElem_of_mem h
      have := hl j hj
      rw [gd_get hj, e] at this
      exact this
    rcases hz with (⟨h, -⟩ | rfl) | ⟨h, -⟩
    · exact hm h
    · exact hw
    · exact hm h
  refine key _ ?_
  rw [gd_get hi]
  exact List.getElem_mem hi
set_option maxHeartbeats 2000000 in
theorem term24_c (w : World) (B m : Nat) (h : Cur w B m) (hm : m ≤ 10000000) : Calls Tryz.prog 65 #[.pointer (some ⟨B, 0, none⟩)] w (CurS w B (m + 4) (fun s => s.size ≤ 12)) := by
  replace h := Lib.hid h
  go_enter Tryz.func65, Tryz.ntmps65
  go_wp2_with fail
  refine (one_c _ B m 60 h.out (by omega) (by omega)).mono ?_
  rintro e w1 ⟨b1, rfl, C1, g1⟩
  replace C1 := Lib.hid C1
  replace g1 := Lib.hid g1
  cases b1
  · go_wp2_with fail
    refine (ofL_c [.string ⟨#[97, 108, 112, 115]⟩, .string ⟨#[99, 111, 97, 115, 116]⟩, .string ⟨#[108, 97, 107, 101, 115]⟩, .string ⟨#[112, 97, 115, 115, 101, 115]⟩, .string ⟨#[114, 111, 97, 100, 115]⟩, .string ⟨#[116, 111, 119, 110, 115]⟩, .string ⟨#[122, 111, 110, 101, 115]⟩] (fun s => s.size ≤ 12) C1.out (by omega) (allS (by rfl)) (by simp) (by simp) (by simp) (by simp)).mono ?_
    rintro e w2 ⟨z, hz, rfl, C2, g2⟩
    replace C2 := Lib.hid C2
    replace g2 := Lib.hid g2
    go_wp2_with fail
    go_ret
    exact ⟨z, hz, rfl, C2.out.le (by omega), only_trans g1.out g2.out⟩
  · go_wp2_with fail
    refine (ofL_c [.string ⟨#[]⟩, .string ⟨#[65, 108, 112, 115]⟩, .string ⟨#[97, 98, 99, 100, 101, 102, 103, 104, 105, 106, 107]⟩] (fun s => s.size ≤ 12) C1.out (by omega) (allS (by rfl)) (by simp) (by simp) (by simp) (by simp)).mono ?_
    rintro e w2 ⟨z, hz, rfl, C2, g2⟩
    replace C2 := Lib.hid C2
    replace g2 := Lib.hid g2
    go_wp2_with fail
    go_ret
    exact ⟨z, hz, rfl, C2.out.le (by omega), only_trans g1.out g2.out⟩
/-- a call that hands back a card whose words are the call's own, and has read choices -/
def CurK (w : World) (B m : Nat) (e : Ending) (w' : World) : Prop := ∃ x : Crd, e = .returned (.agg #[.int .i64 x.id, .int .i64 x.yr, .slice x.a x.sub.length x.cap]) ∧ Cur w' B m ∧ w.grownBy w' (some B) ∧ Own w' w.heap.size 9 StrE.enc 1 (Crd.hv x) x.sub ∧ crdOk x
/-- the empty box of the result, and what choices were read -/
structure KDs (w W : World) (B m : Nat) : Prop where
  cur : Cur W B m
  gr : w.grownBy W (some B)
  blk : Blk W w.heap.size 34 [.int .i64 0, .int .i64 0, .slice none 0 0]
theorem KDs.turn {w W W' : World} {B m m' : Nat} (h : KDs w W B m) (hB : B < w.heap.size) (hg : W.grownBy W' (some B)) (hC : Cur W' B m') : KDs w W' B m' := ⟨hC, only_trans h.gr hg, h.blk.grown hg (by omega)⟩
/-- the result's box beside the struct's -/
def KDb (w W : World) (B m hb : Nat) (y : Crd) : Prop := KSB w W B (.slice none 0 0) [] m 0 hb y ∧ Blk W w.heap.size 34 [.int .i64 0, .int .i64 0, .slice none 0 0] ∧ w.heap.size < hb
theorem KDb.turn {w W W' : World} {B m m' hb : Nat} {y : Crd} (h : KDb w W B m hb y) (hg : W.grownBy W' (some B)) (hC : Cur W' B m') : KDb w W' B m' hb y := ⟨h.1.turn hg hC, h.2.1.grown hg (by have := h.1.st.blt; omega), h.2.2⟩
theorem KDb.le {w W : World} {B m m' hb : Nat} {y : Crd} (h : KDb w W B m hb y) (h1 : m ≤ m') : KDb w W B m' hb y := ⟨h.1.le h1 (Nat.le_refl _), h.2⟩
theorem KDb.below {w W W' : World} {B m hb : Nat} {y : Crd} (h : KDb w W B m hb y) (hb2 : Below W.heap.size W W') : KDb w W' B m hb y := ⟨h.1.below hb2, h.2.1.mono hb2, h.2.2⟩
theorem KDb.scal {w W : World} {B m hb : Nat} {y : Crd} (h : KDb w W B m hb y) (z : Crd) (j : Nat) (hj : j < 3) (u : Value) (hz : z.enc = y.enc.set j u) (h1 : Crd.hv z = Crd.hv y) (h2 : z.sub = y.sub) (hq : crdOk z) : KDb w (W.setCell ⟨hb, j, none⟩ u) B m hb z :=
  ⟨NSB.scal Crd.len h.1 z j hj u hz h1 h2 hq, h.2.1.grown (B := hb) (only_setCell (World.grownBy.refl _ _) ⟨hb, j, none⟩ rfl _) (by have := h.2.2; omega), h.2.2⟩
theorem KDb.setN {w W : World} {B m hb : Nat} {y : Crd} (h : KDb w W B m hb y) (z : Crd) (hz : z.enc = y.enc.set 2 (Crd.hv z)) (hn : KIn w W (.slice none 0 0) z) (hne : (Crd.hv z).ownBlock ≠ some hb) : KDb w (W.setCell ⟨hb, 2, none⟩ (Crd.hv z)) B m hb z :=
  ⟨NSB.set Crd.len h.1 z 2 (by omega) _ hz hn hne, h.2.1.grown (B := hb) (only_setCell (World.grownBy.refl _ _) ⟨hb, 2, none⟩ rfl _) (by have := h.2.2; omega), h.2.2⟩
theorem KDb.hvne {w W : World} {B m hb : Nat} {y : Crd} (h : KDb w W B m hb y) : (Crd.hv y).ownBlock ≠ some w.heap.size := fun e => by
  have hi : Own W w.heap.size 9 StrE.enc 1 (Crd.hv y) y.sub := h.1.2.2.1.1
  rcases hi.2 with ⟨e1, -⟩ | ⟨g, cap, cur, e1, -, hgb, -⟩
  · rw [e1] at e; cases e
  · rw [e1] at e
    have e2 : g = w.heap.size := Option.some.inj e
    have hk := h.2.1
    unfold Blk at hk
    rw [← e2, hgb] at hk
    have e3 := Option.some.inj hk
    injection e3 with _ e4
    exact absurd e4 (by decide)
/-- words made anew are written into the box -/
theorem KDb.words {w W : World} {B m hb : Nat} {y : Crd} {lo : Nat} (h : KDb w W B m hb y) (a : Option Addr) (c : Nat) (s : List ByteArray) (ho : Own W lo 9 StrE.enc 1 (.slice a s.length c) s) (hlo : hb < lo) (hq : crdOk ⟨y.id, y.yr, a, c, s⟩) : KDb w (W.setCell ⟨hb, 2, none⟩ (.slice a s.length c)) B m hb ⟨y.id, y.yr, a, c, s⟩ :=
  KDb.setN h ⟨y.id, y.yr, a, c, s⟩ rfl ⟨Own.lower (lo' := w.heap.size) ho (by have := h.2.2; omega), fun b _ e => by (cases e), hq⟩ (fun e => by
    have := (ho.bounds hb e).1
    omega)
set_option maxHeartbeats 16000000 in
set_option maxRecDepth 100000 in
theorem card_c (w : World) (B m : Nat) (id : Int) (h : Cur w B m) (hm : m ≤ 1000000) : Calls Tryz.prog 62 #[.pointer (some ⟨B, 0, none⟩), .int .i64 id] w (CurK w B (m + 40)) := by
  have hB := h.lt
  have S0 : Hid (KDs w (w.alloc (.cells #[.int .i64 0, .int .i64 0, .slice none 0 0] 34)) B m) := Lib.hid ⟨h.mono (below_alloc w _), only_new (World.grownBy.refl w (some B)), Blk.new w _ _⟩
  go_enter Tryz.func62, Tryz.ntmps62
  go_wp2_with fail
  refine (amongL_c [.int .i64 1500, .int .i64 1850, .int .i64 1850, .int .i64 1900, .int .i64 1901, .int .i64 2100] (fun _ => True) S0.out.cur (by omega) (allI rfl) (by simp) (by simp) (by simp) (by simp)).mono ?_
  rintro e w1 ⟨yr, -, rfl, C1, g1⟩
  have S1 := Lib.hid (S0.out.turn hB g1 C1)
  clear S0 C1 g1
  have hz1 := S1.out.blk.lt
  have hZ1 := Lib.hid (S1.out.gr.size)
  go_upto_region 2 with fail
  refine wpAt fun W2 hW2 => ?_
  have X2 : Hid (KDb w W2 B (m + 2) w1.heap.size ⟨id, yr, none, 0, []⟩) := by
    have h1 := NSB.start Crd.len (NSt.none1 (tE := 34) (tI := 9) (enc := Crd.enc) (K := 3) (encI := StrE.enc) (hv := Crd.hv) (sub := Crd.sub) (Q := crdOk) S1.out.cur S1.out.gr hB) (⟨id, yr, none, 0, []⟩ : Crd) (NIn.nil _ _ rfl rfl ⟨by simp, fun i hi => absurd hi (by simp)⟩)
    rw [hW2]
    exact Lib.hid ⟨by simpa [Crd.enc] using h1, S1.out.blk.mono (below_alloc _ _), hz1⟩
  obtain ⟨y, hy, X2⟩ : ∃ y : Crd, Hid (y.sub.length ≤ 0) ∧ Hid (KDb w W2 B (m + 2) w1.heap.size y) := ⟨_, Lib.hid (by simp), X2⟩
  clear hW2 S1 hz1 hZ1
  generalize w1.heap.size = hb at *
  go_wp2_with fail
  refine (pick_c _ B _ 4 X2.out.1.cur (by omega) (by omega)).mono ?_
  rintro e w3 ⟨p, hp, rfl, C3, g3⟩
  obtain ⟨p, rfl⟩ : ∃ k : Nat, p = (k : Int) := ⟨p.toNat, by have := hp.1; omega⟩
  have hp4 : p < 4 := by have := hp.2.1 (by omega); omega
  have X3 := Lib.hid (X2.out.turn g3 C3)
  clear X2 C3 g3 hp
  go_upto_block 0 with fail
  go_cut [] from 25 (fun W => ∃ y : Crd, Hid (KDb w W B (m + 24) hb y))
  case first =>
    go_wp2_with fail
    go_loopw [6] (fun n wr => ∃ (q : Nat) (y : Crd), q ≤ 4 ∧ n = .int .i64 (q : Int) ∧ Hid (y.sub.length + q ≤ 4) ∧ Hid (KDb w wr B (m + 4 + 4 * (4 - q)) hb y)) (fun n _ => (intOf n).toNat)
    case atStart => exact ⟨p + 1, y, by omega, by go_num, Lib.hid (by have := hy.out; omega), Lib.hid (X3.out.le (by omega))⟩
    case round =>
      obtain ⟨q, y, hq4, rfl, hy, X⟩ := hrel
      clear X3
      by_cases hq : 0 < q
      · obtain ⟨⟨hb0, hb1⟩, y0, y1, y2⟩ := KBx.cells X.out.1.2.1
        clear y0 y1
        have z2 := X.out.1.2.1.frozen 2
        have D := drewOn wr
        have X1 := Lib.hid (X.out.below D)
        have hnb : some hb ≠ some B := fun e => by
          have h1 := X.out.1.st.blt
          have h2 := X.out.2.2
          injection e with e
          omega
        replace hnb := Lib.hid hnb
        have hys : y.sub.length ≤ 4 := by have := hy.out; omega
        go_upto_region 5 with fail
        go_region_with (first
          | (go_at_call 65; refine (term24_c _ B _ X1.out.1.cur (by omega)).mono ?_; rintro e w8 ⟨t, ht, rfl, C8, g8⟩; have X8 := Lib.hid (X1.out.turn g8 C8); have u2 := (KBx.cells X8.out.1.2.1).2.2.2; replace ht := Lib.hid ht; clear C8 g8)
          | (go_at_call 87; refine (l24Put_c _ y.sub t _ (X8.out.1.2.2.1.1.sl StrE.len) (by omega)).mono ?_; rintro e w9 ⟨v9, rfl, o9, b9⟩; obtain ⟨a9, c9, b99, f9, rfl, -, -, -⟩ := o9.sl StrE.len; have X9 := Lib.hid (X8.out.below b9); have x2 := (KBx.cells X9.out.1.2.1).2.2.2; have hx2 := (KBx.cells X9.out.1.2.1).1.2; have v2 := X9.out.1.2.1.frozen 2; replace o9 := Lib.hid o9)
          | fail)
        all_goals (
          replace o9 := o9.out
          have hlo := X8.out.1.2.1.lt.2
          have Y := KDb.words X9.out a9 c9 (putW t y.sub) o9 hlo ⟨by have := putW_len1 t y.sub; show (putW t y.sub).length ≤ 16; omega, putW_sz ht.out X.out.1.2.2.1.2.2.2⟩
          have hyl : Hid ((putW t y.sub).length + (q - 1) ≤ 4) := Lib.hid (by have := putW_len1 t y.sub; have := hy.out; omega)
          replace Y := Lib.hid Y
          clear o9 X X1 X8 X9 hlo ht hnb
          go_wp2_with fail
          go_roundw
          case rel => exact ⟨q - 1, _, by omega, by go_num, hyl, Lib.hid (Y.out.le (by omega))⟩
          case measure => simp [intOf]; omega)
      · obtain rfl : q = 0 := by omega
        go_wp2_with fail
        go_meet
        case rel => exact ⟨y, Lib.hid (X.out.le (by omega))⟩
  obtain ⟨y, X5⟩ := hcut
  clear X3 hy
  generalize wc = w5 at *
  go_wp2_with fail
  refine (pick_c _ B _ 100 X5.out.1.cur (by omega) (by omega)).mono ?_
  rintro e w6 ⟨p, hp, rfl, C6, g6⟩
  have X6 := Lib.hid (X5.out.turn g6 C6)
  clear X5 C6 g6 hp
  go_upto_block 2 with fail
  go_cut [] from 59 (fun W => ∃ y : Crd, Hid (KDb w W B (m + 34) hb y))
  case first =>
    obtain ⟨⟨hb0, hb1⟩, y0, y1, y2⟩ := KBx.cells X6.out.1.2.1
    by_cases hp0 : p = 0
    · subst hp0
      go_wp2_with fail
      refine (amongL_c [.int .i64 0, .int .i64 999, .int .i64 1000] (fun _ => True) X6.out.1.cur (by omega) (allI rfl) (by simp) (by simp) (by simp) (by simp)).mono ?_
      rintro e w7 ⟨z, -, rfl, C7, g7⟩
      have X7 := Lib.hid (X6.out.turn g7 C7)
      clear X6 C7 g7 y0 y1 y2 hb1
      have Y := Lib.hid (KDb.scal X7.out { y with id := z } 0 (by omega) (.int .i64 z) rfl rfl rfl X7.out.1.2.2.1.2.2)
      obtain ⟨⟨-, hb1⟩, y0, y1, y2⟩ := KBx.cells X7.out.1.2.1
      have z0 := X7.out.1.2.1.frozen 0
      go_wp2_with fail
      go_meet
      case rel => exact ⟨_, Lib.hid (Y.out.le (by omega))⟩
    have hp0' : (p == 0) = false := by simpa using hp0
    clear hp0
    by_cases hp1 : p = 1
    · subst hp1
      go_wp2_with fail
      refine (amongL_c [.int .i64 1499, .int .i64 2101] (fun _ => True) X6.out.1.cur (by omega) (allI rfl) (by simp) (by simp) (by simp) (by simp)).mono ?_
      rintro e w7 ⟨z, -, rfl, C7, g7⟩
      have X7 := Lib.hid (X6.out.turn g7 C7)
      clear X6 C7 g7 y0 y1 y2 hb1
      have Y := Lib.hid (KDb.scal X7.out { y with yr := z } 1 (by omega) (.int .i64 z) rfl rfl rfl X7.out.1.2.2.1.2.2)
      obtain ⟨⟨-, hb1⟩, y0, y1, y2⟩ := KBx.cells X7.out.1.2.1
      have z1 := X7.out.1.2.1.frozen 1
      go_wp2_with fail
      go_meet
      case rel => exact ⟨_, Lib.hid (Y.out.le (by omega))⟩
    have hp1' : (p == 1) = false := by simpa using hp1
    clear hp1
    by_cases hp2 : p = 2
    · subst hp2
      have X7 := X6.out.below (below_alloc w6 (.cells #[] 9))
      have hO : Own (w6.alloc (.cells #[] 9)) w6.heap.size 9 StrE.enc 1 (.slice (some ⟨w6.heap.size, 0, none⟩) 0 0) ([] : List ByteArray) := Own.empty _ _ _ _ _ (Nat.le_refl _)
      have hq : crdOk ⟨y.id, y.yr, some ⟨w6.heap.size, 0, none⟩, 0, ([] : List ByteArray)⟩ := ⟨by simp, by
        intro i hi
        have h3 : ∀ z, z ∈ ([] : List ByteArray) → z.size ≤ 12 := by first | (intro z hz; cases hz; done) | (intro z hz; simp at hz; rcases hz with rfl | rfl <;> decide) | (intro z hz; simp at hz; subst hz; decide)
        exact h3 _ (by rw [gd_get hi]; exact List.getElem_mem hi)⟩
      have Y := KDb.words X7 (some ⟨w6.heap.size, 0, none⟩) 0 ([] : List ByteArray) hO (X6.out.1.2.1.lt.2) hq
      have z2 := X6.out.1.2.1.frozen 2
      have hne : ¬ w6.heap.size = hb := by have := X6.out.1.2.1.lt.2; omega
      dsimp only [List.length_cons, List.length_nil] at Y
      rw [World.setCell_alloc_past _ _ _ _ (X6.out.1.2.1.lt.2)] at Y
      replace Y := Lib.hid Y
      clear hO X7 hq
      go_wp2_with fail
      go_meet
      case rel => exact ⟨_, Lib.hid (Y.out.le (by omega))⟩
    have hp2' : (p == 2) = false := by simpa using hp2
    clear hp2
    by_cases hp3 : p = 3
    · subst hp3
      have X7 := X6.out.below (below_alloc w6 (.cells #[.string ⟨#[114, 111, 97, 100, 115]⟩, .string ⟨#[97, 108, 112, 115]⟩] 9))
      have hO : Own (w6.alloc (.cells #[.string ⟨#[114, 111, 97, 100, 115]⟩, .string ⟨#[97, 108, 112, 115]⟩] 9)) w6.heap.size 9 StrE.enc 1 (.slice (some ⟨w6.heap.size, 0, none⟩) 2 2) [⟨#[114, 111, 97, 100, 115]⟩, ⟨#[97, 108, 112, 115]⟩] := ⟨rfl, .inr ⟨w6.heap.size, 2, _, rfl, Nat.le_refl _, heap_alloc_new _ _, Nat.le_refl _, by simp [maxLen], rfl, rfl⟩⟩
      have hq : crdOk ⟨y.id, y.yr, some ⟨w6.heap.size, 0, none⟩, 2, [⟨#[114, 111, 97, 100, 115]⟩, ⟨#[97, 108, 112, 115]⟩]⟩ := ⟨by simp, by
        intro i hi
        have h3 : ∀ z, z ∈ ([⟨#[114, 111, 97, 100, 115]⟩, ⟨#[97, 108, 112, 115]⟩] : List ByteArray) → z.size ≤ 12 := by first | (intro z hz; cases hz; done) | (intro z hz; simp at hz; rcases hz with rfl | rfl <;> decide) | (intro z hz; simp at hz; subst hz; decide)
        exact h3 _ (by rw [gd_get hi]; exact List.getElem_mem hi)⟩
      have Y := KDb.words X7 (some ⟨w6.heap.size, 0, none⟩) 2 [⟨#[114, 111, 97, 100, 115]⟩, ⟨#[97, 108, 112, 115]⟩] hO (X6.out.1.2.1.lt.2) hq
      have z2 := X6.out.1.2.1.frozen 2
      have hne : ¬ w6.heap.size = hb := by have := X6.out.1.2.1.lt.2; omega
      dsimp only [List.length_cons, List.length_nil] at Y
      rw [World.setCell_alloc_past _ _ _ _ (X6.out.1.2.1.lt.2)] at Y
      replace Y := Lib.hid Y
      clear hO X7 hq
      go_wp2_with fail
      go_meet
      case rel => exact ⟨_, Lib.hid (Y.out.le (by omega))⟩
    have hp3' : (p == 3) = false := by simpa using hp3
    clear hp3
    by_cases hp4 : p = 4
    · subst hp4
      have X7 := X6.out.below (below_alloc w6 (.cells #[.string ⟨#[97, 108, 112, 115]⟩, .string ⟨#[97, 108, 112, 115]⟩] 9))
      have hO : Own (w6.alloc (.cells #[.string ⟨#[97, 108, 112, 115]⟩, .string ⟨#[97, 108, 112, 115]⟩] 9)) w6.heap.size 9 StrE.enc 1 (.slice (some ⟨w6.heap.size, 0, none⟩) 2 2) [⟨#[97, 108, 112, 115]⟩, ⟨#[97, 108, 112, 115]⟩] := ⟨rfl, .inr ⟨w6.heap.size, 2, _, rfl, Nat.le_refl _, heap_alloc_new _ _, Nat.le_refl _, by simp [maxLen], rfl, rfl⟩⟩
      have hq : crdOk ⟨y.id, y.yr, some ⟨w6.heap.size, 0, none⟩, 2, [⟨#[97, 108, 112, 115]⟩, ⟨#[97, 108, 112, 115]⟩]⟩ := ⟨by simp, by
        intro i hi
        have h3 : ∀ z, z ∈ ([⟨#[97, 108, 112, 115]⟩, ⟨#[97, 108, 112, 115]⟩] : List ByteArray) → z.size ≤ 12 := by first | (intro z hz; cases hz; done) | (intro z hz; simp at hz; rcases hz with rfl | rfl <;> decide) | (intro z hz; simp at hz; subst hz; decide)
        exact h3 _ (by rw [gd_get hi]; exact List.getElem_mem hi)⟩
      have Y := KDb.words X7 (some ⟨w6.heap.size, 0, none⟩) 2 [⟨#[97, 108, 112, 115]⟩, ⟨#[97, 108, 112, 115]⟩] hO (X6.out.1.2.1.lt.2) hq
      have z2 := X6.out.1.2.1.frozen 2
      have hne : ¬ w6.heap.size = hb := by have := X6.out.1.2.1.lt.2; omega
      dsimp only [List.length_cons, List.length_nil] at Y
      rw [World.setCell_alloc_past _ _ _ _ (X6.out.1.2.1.lt.2)] at Y
      replace Y := Lib.hid Y
      clear hO X7 hq
      go_wp2_with fail
      go_meet
      case rel => exact ⟨_, Lib.hid (Y.out.le (by omega))⟩
    have hp4' : (p == 4) = false := by simpa using hp4
    clear hp4
    by_cases hp5 : p = 5
    · subst hp5
      have X7 := Lib.hid (X6.out.below (below_alloc w6 (.cells #[.string ⟨#[97, 108, 112, 115]⟩, .string ⟨#[99, 111, 97, 115, 116]⟩, .string ⟨#[108, 97, 107, 101, 115]⟩, .string ⟨#[112, 97, 115, 115, 101, 115]⟩, .string ⟨#[114, 111, 97, 100, 115]⟩, .string ⟨#[116, 111, 119, 110, 115]⟩, .string ⟨#[122, 111, 110, 101, 115]⟩] 9)))
      have hO : Hid (∀ n, n ≤ 7 → Own (w6.alloc (.cells #[.string ⟨#[97, 108, 112, 115]⟩, .string ⟨#[99, 111, 97, 115, 116]⟩, .string ⟨#[108, 97, 107, 101, 115]⟩, .string ⟨#[112, 97, 115, 115, 101, 115]⟩, .string ⟨#[114, 111, 97, 100, 115]⟩, .string ⟨#[116, 111, 119, 110, 115]⟩, .string ⟨#[122, 111, 110, 101, 115]⟩] 9)) w6.heap.size 9 StrE.enc 1 (.slice (some ⟨w6.heap.size, 0, none⟩) (([⟨#[97, 108, 112, 115]⟩, ⟨#[99, 111, 97, 115, 116]⟩, ⟨#[108, 97, 107, 101, 115]⟩, ⟨#[112, 97, 115, 115, 101, 115]⟩, ⟨#[114, 111, 97, 100, 115]⟩, ⟨#[116, 111, 119, 110, 115]⟩, ⟨#[122, 111, 110, 101, 115]⟩] : List ByteArray).take n).length 7) (([⟨#[97, 108, 112, 115]⟩, ⟨#[99, 111, 97, 115, 116]⟩, ⟨#[108, 97, 107, 101, 115]⟩, ⟨#[112, 97, 115, 115, 101, 115]⟩, ⟨#[114, 111, 97, 100, 115]⟩, ⟨#[116, 111, 119, 110, 115]⟩, ⟨#[122, 111, 110, 101, 115]⟩] : List ByteArray).take n)) := fun n hn => by
        refine ⟨by rw [flat_len StrE.len, Nat.mul_one], .inr ⟨w6.heap.size, 7, _, rfl, Nat.le_refl _, heap_alloc_new _ _, by simp; omega, by simp [maxLen], rfl, ?_⟩⟩
        obtain rfl | rfl | rfl | rfl | rfl | rfl | rfl | rfl : n = 0 ∨ n = 1 ∨ n = 2 ∨ n = 3 ∨ n = 4 ∨ n = 5 ∨ n = 6 ∨ n = 7 := by omega
        all_goals rfl
      clear y0 y1 y2
      have hlo : hb < w6.heap.size := X6.out.1.2.1.lt.2
      have hbB : w6.heap.size ≠ B := by have h1 := X6.out.1.st.blt; have h2 := X6.out.2.2; omega
      replace hbB := Lib.hid hbB
      go_wp2_with fail
      refine (pick_c _ B _ 2 X7.out.1.cur (by omega) (by omega)).mono ?_
      rintro e w8 ⟨p, hp, rfl, C8, g8⟩
      obtain ⟨p, rfl⟩ : ∃ k : Nat, p = (k : Int) := ⟨p.toNat, by have := hp.1; omega⟩
      have hp2 : p < 2 := by have := hp.2.1 (by omega); omega
      have X8 := Lib.hid (X7.out.turn g8 C8)
      have hO8 := Lib.hid (own_keep (hO.out (6 + p) (by omega)) g8 (fun b hb e => by
        have h1 := (hO.out (6 + p) (by omega)).bounds b hb
        have h2 := X6.out.1.st.blt
        have h3 := X6.out.1.st.size
        injection e with e
        omega))
      clear X6 X7 hO C8 g8 hp
      have hq : crdOk ⟨y.id, y.yr, some ⟨w6.heap.size, 0, none⟩, 7, ([⟨#[97, 108, 112, 115]⟩, ⟨#[99, 111, 97, 115, 116]⟩, ⟨#[108, 97, 107, 101, 115]⟩, ⟨#[112, 97, 115, 115, 101, 115]⟩, ⟨#[114, 111, 97, 100, 115]⟩, ⟨#[116, 111, 119, 110, 115]⟩, ⟨#[122, 111, 110, 101, 115]⟩] : List ByteArray).take (6 + p)⟩ := ⟨by show (List.take _ _).length ≤ 16; simp; omega, by
        intro i hi
        have h3 : ∀ z, z ∈ ([⟨#[97, 108, 112, 115]⟩, ⟨#[99, 111, 97, 115, 116]⟩, ⟨#[108, 97, 107, 101, 115]⟩, ⟨#[112, 97, 115, 115, 101, 115]⟩, ⟨#[114, 111, 97, 100, 115]⟩, ⟨#[116, 111, 119, 110, 115]⟩, ⟨#[122, 111, 110, 101, 115]⟩] : List ByteArray) → z.size ≤ 12 := by intro z hz; simp at hz; rcases hz with rfl | rfl | rfl | rfl | rfl | rfl | rfl <;> decide
        exact h3 _ (List.mem_of_mem_take (by rw [gd_get hi]; exact List.getElem_mem hi))⟩
      have Y := KDb.words X8.out (some ⟨w6.heap.size, 0, none⟩) 7 _ hO8.out hlo hq
      obtain ⟨⟨-, hb1⟩, y0, y1, y2⟩ := KBx.cells X8.out.1.2.1
      have z2 := X8.out.1.2.1.frozen 2
      have hl7 : (([⟨#[97, 108, 112, 115]⟩, ⟨#[99, 111, 97, 115, 116]⟩, ⟨#[108, 97, 107, 101, 115]⟩, ⟨#[112, 97, 115, 115, 101, 115]⟩, ⟨#[114, 111, 97, 100, 115]⟩, ⟨#[116, 111, 119, 110, 115]⟩, ⟨#[122, 111, 110, 101, 115]⟩] : List ByteArray).take (6 + p)).length = 6 + p := by simp; omega
      rw [hl7] at Y
      replace Y := Lib.hid Y
      clear hq hl7 hO8
      have hp3 : 6 + (p : Int) ≤ 7 := by omega
      go_wp2_with fail
      go_meet
      case rel => exact ⟨_, Lib.hid (Y.out.le (by omega))⟩
    have hp5' : (p == 5) = false := by simpa using hp5
    clear hp5
    go_wp2_with fail
    go_meet
    case rel => exact ⟨y, Lib.hid (X6.out.le (by omega))⟩
  clear X6
  obtain ⟨y, X6⟩ := hcut
  generalize wc = w7 at *
  obtain ⟨⟨hb0, hb1⟩, y0, y1, y2⟩ := KBx.cells X6.out.1.2.1
  have hK := X6.out.2.1
  have hwl := hK.lt
  have k0 := hK.cell 0 _ rfl
  have k1 := hK.cell 1 _ rfl
  have k2 := hK.cell 2 _ rfl
  have f0 := hK.frozen 0
  have f1 := hK.frozen 1
  have f2 := hK.frozen 2
  have hhb := X6.out.2.2
  clear hK
  have hnv := X6.out.hvne
  go_wp2_with fail
  (try simp only [Exit.inBlock, Exit.then])
  refine bodyPost_ret (by simp [results, Tryz.results62, go_sem, k0, k1, k2]; try rfl) rfl ?_
  refine ⟨y, rfl, ?_⟩
  have G : w7.grownBy (((w7.setCell ⟨w.heap.size, 0, none⟩ (.int .i64 y.id)).setCell ⟨w.heap.size, 1, none⟩ (.int .i64 y.yr)).setCell ⟨w.heap.size, 2, none⟩ (.slice y.a y.sub.length y.cap)) (some w.heap.size) := only_set (only_set (only_set (World.grownBy.refl _ _)))
  exact ⟨(X6.out.1.cur.grown G hB).le (by omega), grown_newK X6.out.1.st.gr G (fun g e => by injection e with e; omega), own_keep X6.out.1.2.2.1.1 G (fun b hb2 e => hnv (by rw [hb2]; exact e.symm)), X6.out.1.2.2.1.2.2⟩
/-- a call that hands back a list of cards and has read choices -/
def CurKs (w : World) (B m : Nat) (e : Ending) (w' : World) : Prop := ∃ (v : Value) (l : List Crd), e = .returned v ∧ KSt w w' B v l m 13
theorem KSt.in {w0 w w' : World} {B m N m' : Nat} {v : Value} {l : List Crd} {x : Crd} (h : KSt w0 w B v l m N) (_ : Cur w' B m') (ho : Own w' w.heap.size 9 StrE.enc 1 (Crd.hv x) x.sub) (hq : crdOk x) (o : Obj) : KIn w0 (w'.alloc o) v x :=
  (NIn.new ho h.vlt h.size hq).turn (only_of_below (below_alloc _ _) _) h.blt
theorem KSt.pair {w0 w : World} {B m N : Nat} {v : Value} {l : List Crd} (h : KSt w0 w B v l m N) (n y : Int) (a b : ByteArray) (ha : a.size ≤ 12) (hb : b.size ≤ 12) (o : Obj) : KIn w0 ((w.alloc (.cells #[.string a, .string b] 9)).alloc o) v ⟨n, y, some ⟨w.heap.size, 0, none⟩, 2, [a, b]⟩ := by
  have hO : Own (w.alloc (.cells #[.string a, .string b] 9)) w.heap.size 9 StrE.enc 1 (.slice (some ⟨w.heap.size, 0, none⟩) 2 2) [a, b] := ⟨rfl, .inr ⟨w.heap.size, 2, _, rfl, Nat.le_refl _, heap_alloc_new _ _, Nat.le_refl _, by simp [maxLen], rfl, rfl⟩⟩
  refine NIn.new (hO.mono (below_alloc _ _)) h.vlt h.size ⟨by simp, fun i hi => ?_⟩
  have h3 : ∀ z, z ∈ [a, b] → z.size ≤ 12 := by
    intro z hz
    simp at hz
    rcases hz with rfl | rfl
    · exact ha
    · exact hb
  exact h3 _ (by rw [gd_get hi]; exact List.getElem_mem hi)
set_option maxHeartbeats 16000000 in
set_option maxRecDepth 100000 in
theorem cards_c (w : World) (B m : Nat) (h : Cur w B m) (hm : m ≤ 100000) : Calls Tryz.prog 23 #[.pointer (some ⟨B, 0, none⟩)] w (CurKs w B (m + 500)) := by
  have hB := h.lt
  obtain ⟨i0, hi, hz0, hz1, hz2⟩ := info_parts (show (Tryz.prog.info? 34).map (fun i => (i.zero, i.size, i.bytes)) = some (some (.agg #[.int .i64 0, .int .i64 0, .slice none 0 0]), 3, 40) by kernel_rfl)
  have S0 : Hid (KSt w (w.alloc (.cells #[] 34)) B (.slice (some ⟨w.heap.size, 0, none⟩) 0 0) [] m 0) := Lib.hid (NSt.start h)
  clear h
  go_enter Tryz.func23, Tryz.ntmps23
  go_wp2_with fail
  refine (pick_c _ B _ 7 S0.out.cur (by omega) (by omega)).mono ?_
  rintro e w1 ⟨p, hp, rfl, C1, g1⟩
  obtain ⟨p, rfl⟩ : ∃ k : Nat, p = (k : Int) := ⟨p.toNat, by have := hp.1; omega⟩
  have hp7 : p < 7 := by have := hp.2.1 (by omega); omega
  have S1 := Lib.hid (S0.out.turn g1 C1)
  clear S0 C1 g1 hp
  go_upto_block 0 with fail
  go_cut [3, 4, 5] from 10 (fun o _ _ W => ∃ l : List Crd, Hid (KSt w W B o l (m + 300) 6))
  case first =>
    go_wp2_with fail
    go_loopw [3, 4, 5] (fun o idv nv wr => ∃ (q : Nat) (l : List Crd) (id : Int), q ≤ 6 ∧ nv = .int .i64 (q : Int) ∧ idv = .int .i64 id ∧ 0 ≤ id ∧ id + 3 * q ≤ 18 ∧ Hid (KSt w wr B o l (m + 2 + 45 * (6 - q)) (6 - q))) (fun _ _ nv _ => (intOf nv).toNat)
    case atStart => exact ⟨p, [], 0, by omega, rfl, rfl, by omega, by omega, Lib.hid (S1.out.le (by omega) (by omega))⟩
    case round =>
      obtain ⟨q, l, id, hq6, rfl, rfl, hid0, hid1, hS⟩ := hrel
      have hl := hS.out.len
      clear S1
      by_cases hlt : 0 < q
      · have hlt' : 0 < (q : Int) := by omega
        go_wp2_with fail
        refine (pick_c _ B _ 3 hS.out.cur (by omega) (by omega)).mono ?_
        rintro e w2 ⟨r, hr, rfl, C2, g2⟩
        have S2 := Lib.hid (hS.out.turn g2 C2)
        have hr0 := hr.1
        have hr3 := hr.2.1 (by omega)
        clear hS C2 g2 hr
        go_wp2_with fail
        refine (pick_c _ B _ 150 S2.out.cur (by omega) (by omega)).mono ?_
        rintro e w3 ⟨s, hs, rfl, C3, g3⟩
        have S3 := Lib.hid (S2.out.turn g3 C3)
        have hs0 := hs.1
        have hs3 := hs.2.1 (by omega)
        have hsq : s.tdiv 149 = s / 149 := Int.tdiv_eq_ediv_of_nonneg hs0
        obtain ⟨k, hk, hk2⟩ : ∃ k : Nat, s.tdiv 149 = (k : Int) ∧ k ≤ 1 := ⟨(s / 149).toNat, by rw [hsq]; omega, by omega⟩
        clear S2 C3 g3 hs hsq
        go_wp2_with fail
        refine (card_c _ B _ (id + 1 + r - k) S3.out.cur (by omega)).mono ?_
        rintro e w4 ⟨x, rfl, C4, g4, hO, hx⟩
        have S4 := Lib.hid (S3.out.turn g4 C4)
        have hN := Lib.hid (fun o => KSt.in S3.out C4 hO hx o)
        clear C4 g4 hO hx S3
        go_wp2_with (at_builtin; refine wpList_pushAt Crd.len Crd.one rfl (.tmp 23) (.tmp 27) 24 rfl w.heap.size 34 i0 _ 40 Tryz.underlying24 hi hz0 hz1 hz2 rfl (by omega) _ l rfl (S4.out.alloc _).own _ 1 x rfl (fun j u hu => new_cells _ (Crd.enc x) _ _ (by simp) j u hu) (by unfold maxLen; omega) (by omega) (by have := S4.out.size; simp; omega) ?_)
        intro v' w5 ho5 hg5 hat5
        have T3 := Lib.hid ((S4.out.alloc _).push ho5 hg5 (by simpa using hat5) (hN.out _))
        clear ho5 hg5 hat5 S4 hN
        go_wp2_with fail
        go_roundw
        case rel => exact ⟨q - 1, _, id + 1 + r - k, by omega, by go_num, rfl, by omega, by omega, Lib.hid (T3.out.le (by omega) (by omega))⟩
        case measure => simp [intOf]; omega
      · obtain rfl : q = 0 := by omega
        go_wp2_with fail
        go_meet
        case rel => exact ⟨l, Lib.hid (hS.out.le (by omega) (by omega))⟩
  obtain ⟨l, S2⟩ := hcut
  clear S1
  generalize wc = w2 at *
  have hl := S2.out.len
  go_wp2_with fail
  refine (one_c _ B _ 24 S2.out.cur (by omega) (by omega)).mono ?_
  rintro e w3 ⟨b3, rfl, C3, g3⟩
  have S3 := Lib.hid (S2.out.turn g3 C3)
  clear S2 C3 g3
  cases b3
  · go_wp2_with fail
    go_ret
    exact ⟨_, l, rfl, S3.out.le (by omega) (by omega)⟩
  · have S4 : Hid (KSt w (w3.alloc (.cells #[] 34)) B (.slice (some ⟨w3.heap.size, 0, none⟩) 0 0) ([] : List Crd) (m + 300 + 2) 0) := Lib.hid (S3.out.empty rfl)
    clear S3 hl
    go_wp2_with fail
    go_loopw [3, 6] (fun o nv wr => ∃ l : List Crd, l.length ≤ 13 ∧ nv = .int .i64 (l.length : Int) ∧ Hid (KSt w wr B o l (m + 310 + 4 * l.length) 13)) (fun _ nv _ => 14 - (intOf nv).toNat)
    case atStart => exact ⟨[], by simp, rfl, Lib.hid (S4.out.le (by simp only [List.length_nil]; omega) (by omega))⟩
    case round =>
      obtain ⟨l, hl13, rfl, hS⟩ := hrel
      clear S4
      go_wp2_with fail
      refine (pick_c _ B _ 2 hS.out.cur (by omega) (by omega)).mono ?_
      rintro e w7 ⟨p, hp, rfl, C7, g7⟩
      have hp2 := hp.1
      have hp3 := hp.2.1 (by omega)
      have T1 := Lib.hid (hS.out.turn g7 C7)
      clear hS C7 g7 hp
      by_cases hlt : (l.length : Int) < 12 + p
      · have hmq : (l.length : Int).tmod 3 = (l.length : Int) % 3 := Int.tmod_eq_emod_of_nonneg (by omega)
        obtain ⟨k, hk, hk2⟩ : ∃ k : Nat, (l.length : Int).tmod 3 = (k : Int) ∧ k ≤ 2 := ⟨l.length % 3, by rw [hmq]; omega, by omega⟩
        clear hmq
        go_wp2_with fail
        refine (ofL_c [.string ⟨#[97, 108, 112, 115]⟩, .string ⟨#[99, 111, 97, 115, 116]⟩] (fun s => s.size ≤ 12) T1.out.cur (by omega) (allS (by rfl)) (by simp) (by simp) (by simp) (by simp)).mono ?_
        rintro e w8 ⟨z, hz, rfl, C8, g8⟩
        have T2 := Lib.hid (T1.out.turn g8 C8)
        have hN := Lib.hid (fun o => KSt.pair T2.out ((l.length : Int) + 1) (1800 + k) z ⟨#[114, 111, 97, 100, 115]⟩ hz (by decide) o)
        clear T1 C8 g8 hz
        go_wp2_with (at_builtin; refine wpList_pushAt Crd.len Crd.one rfl (.tmp 39) (.tmp 50) 24 rfl w.heap.size 34 i0 _ 40 Tryz.underlying24 hi hz0 hz1 hz2 rfl (by omega) _ l rfl ((T2.out.alloc _).alloc _).own _ 1 ⟨(l.length : Int) + 1, 1800 + k, some ⟨w8.heap.size, 0, none⟩, 2, [z, ⟨#[114, 111, 97, 100, 115]⟩]⟩ rfl (fun j u hu => new_cells _ (Crd.enc ⟨(l.length : Int) + 1, 1800 + k, some ⟨w8.heap.size, 0, none⟩, 2, [z, ⟨#[114, 111, 97, 100, 115]⟩]⟩) _ _ (by simp) j u hu) (by unfold maxLen; omega) (by omega) (by have := T2.out.size; simp; omega) ?_)
        intro v' w9 ho9 hg9 hat9
        have T3 := Lib.hid (((T2.out.alloc _).alloc _).push ho9 hg9 (by simpa using hat9) (hN.out _))
        clear T2 ho9 hg9 hat9 hN
        go_wp2_with fail
        go_roundw
        case rel => exact ⟨_, by simp; omega, by simp, Lib.hid (NSt.cut (T3.out.le (by simp; omega) (Nat.le_refl _)) (by simp; omega))⟩
        case measure => simp [intOf]; omega
      · go_wp2_with fail
        go_ret
        exact ⟨_, _, rfl, T1.out.le (by omega) (by omega)⟩
end Go.Proofs.YteainpflmofjaaaGreatDoor
