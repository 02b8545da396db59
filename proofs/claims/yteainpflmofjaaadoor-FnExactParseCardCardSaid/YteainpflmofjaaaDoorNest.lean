/- Helpers at []string and at structs that hold one slice: contracts of to.., sz.., eq... No condition but sizes. -/
import Derived.Test.YteainpflmofjaaaDoorTypes
import Derived.Test.YteainpflmofjaaaDoorMore
import Derived.Test.YteainpflmofjaaaDoorHeld
namespace Go.Proofs.YteainpflmofjaaaDoor
open Go.RowKit
/-- what a count of sizes hands back -/
def SzPost (C : Prop) (left : Int) (w : World) (e : Ending) (w' : World) : Prop := Below w.heap.size w w' ∧ ∃ r : Int, e = .returned (.int .i64 r) ∧ (r = -1 ∨ (0 ≤ r ∧ r ≤ left ∧ C))
theorem Fill.swap {w : World} {lo : Nat} {e : TypeId} {k n : Nat} {v : Value} {F F' : List Value} {m : Nat} (h : Fill w lo e k v n F m) (hl : F'.length = n * k) (hf : ∀ j, j < m → F'[j]? = F[j]?) : Fill w lo e k v n F' m := by
  obtain ⟨_, xs, ho, hx⟩ := h
  exact ⟨hl, xs, ho, fun j hj => (hx j hj).trans (hf j hj).symm⟩
theorem gd_set {α : Type} [Inhabited α] {l : List α} {k i : Nat} {y : α} (hk : k < l.length) : gd (l.set k y) i = if i = k then y else gd l i := by
  simp only [gd, List.getD, List.getElem?_set]
  by_cases h : k = i
  · subst h; simp [hk]
  · simp [h, Ne.symm h]
theorem set_flat {α : Type} [Inhabited α] {enc : α → List Value} {K : Nat} (hK : ∀ x, (enc x).length = K) {l : List α} {k : Nat} {y : α} (hk : k < l.length) (j : Nat) (hj : j < k * K) : ((l.set k y).flatMap enc)[j]? = (l.flatMap enc)[j]? := by
  have hK0 : 0 < K := by rcases Nat.eq_zero_or_pos K with h0 | h0; · subst h0; omega
                         · exact h0
  have hi : j / K < k := by rw [Nat.div_lt_iff_lt_mul hK0]; exact hj
  have hm := Nat.mod_lt j hK0
  have e : j / K * K + j % K = j := by rw [Nat.mul_comm]; exact Nat.div_add_mod j K
  have h1 := flat_get hK (l.set k y) (j / K) (j % K) (by simp; omega) hm
  have h2 := flat_get hK l (j / K) (j % K) (by omega) hm
  rw [e] at h1 h2
  rw [h1, h2, gd_set hk, if_neg (by omega)]
theorem grown_ext {W W3 : World} {p : Gap} {row : Option Nat} (h : W.grownBy W3 row) (hs : W3.heap.size = W.heap.size) : (ext W p).grownBy (ext W3 p) row := by
  refine ⟨h.os, h.tape, h.output, by simp [hs], fun i hi hne => ?_⟩
  simp only [ext, Array.getElem?_append, hs]
  by_cases hk : i < W.heap.size
  · rw [if_pos hk, if_pos hk]; exact h.block i hk hne
  · rw [if_neg hk, if_neg hk]
theorem ball_succ {Q : Nat → Prop} {k : Nat} (h : ∀ i, i < k → Q i) (hk : Q k) : ∀ i, i < k + 1 → Q i := fun i hi => by
  rcases Nat.lt_or_eq_of_le (Nat.lt_succ_iff.1 hi) with h1 | rfl
  · exact h i h1
  · exact hk
theorem map_same {α β : Type} [Inhabited α] {f : α → β} {l l' : List α} (hl : l'.length = l.length) (h : ∀ i, i < l.length → f (gd l' i) = f (gd l i)) : l'.map f = l.map f := by
  apply List.ext_getElem
  · simp [hl]
  · intro i h1 h2
    have h3 : i < l.length := by simpa using h2
    have := h i h3
    rw [gd_get (by omega), gd_get h3] at this
    simpa using this
theorem map_same_at {α β : Type} [Inhabited α] {f : α → β} {l l' : List α} (h : l'.map f = l.map f) (i : Nat) (hi : i < l.length) : l'.length = l.length ∧ f (gd l' i) = f (gd l i) := by
  have hl : l'.length = l.length := by simpa using congrArg List.length h
  refine ⟨hl, ?_⟩
  have h2 : (l'.map f)[i]? = (l.map f)[i]? := by rw [h]
  simp only [List.getElem?_map, gd_eq (show i < l'.length by omega), gd_eq hi, Option.map_some] at h2
  exact Option.some.inj h2

def StrE.enc (x : ByteArray) : List Value := [.string x]
theorem StrE.len (x : ByteArray) : (StrE.enc x).length = 1 := rfl
theorem StrE.one (x : ByteArray) : ∀ u ∈ StrE.enc x, u.oneCell' = true := fun u hu => by simp [StrE.enc] at hu; subst hu; rfl
theorem StrE.at {w : World} {a : Option Addr} {b off : Nat} {l : List ByteArray} (h : Cells w StrE.enc 1 a b off l) (i : Nat) (hi : i < l.length) : a = some ⟨b, off, none⟩ ∧ b < w.heap.size ∧
    w.cell? ⟨b, off + i, none⟩ = some (.string (gd l i)) := by
  obtain ⟨ha, hb, c⟩ := h i hi
  have c0 := c 0 _ rfl
  rw [Nat.mul_one, Nat.add_zero] at c0
  exact ⟨ha, hb, c0⟩
def StrE.Short (l : List ByteArray) : Prop := l.length ≤ 1048576 ∧ ∀ i, i < l.length → (gd l i).size ≤ 1048576
def StrE.Fits (l : List ByteArray) : Prop := ∀ i, i < l.length → (gd l i).size ≤ maxLen

def IntE.Short (l : List Int) : Prop := l.length ≤ 1048576
def IntE.Fits (_ : List Int) : Prop := True

theorem szIntS_p (v : Value) (l : List Int) (left : Int) (w : World) (h : Sl w IntE.enc 1 v l) (_ : IntE.Fits l) (h0 : 0 ≤ left) (h1 : left ≤ 1048576) : Calls Tryd.prog 89 #[v, .int .i64 left] w (SzPost (IntE.Short l) left w) := by
  obtain ⟨a, cap, b, off, rfl, hlc, hm, hc⟩ := h
  refine (szIntS_c a l.length cap left w (by omega) h0 h1).mono ?_
  rintro e w1 ⟨rfl, rfl⟩
  refine ⟨Below.refl _ _, _, rfl, ?_⟩
  rcases szN_or left l.length with e | ⟨a, b, c⟩
  · exact .inl e
  · exact .inr ⟨a, b, by unfold IntE.Short; omega⟩

set_option maxHeartbeats 1000000 in
theorem eqStringS_c (v v' : Value) (l : List ByteArray) (w : World) (h : Sl w StrE.enc 1 v l) (h' : Sl w StrE.enc 1 v' l) : Calls Tryd.prog 45 #[v, v'] w fun e w' =>
    e = .returned (.bool true) ∧ Below w.heap.size w w' := by
  obtain ⟨a, cap, b, off, rfl, hlc, hm, hc⟩ := h
  obtain ⟨a', cap', b', off', rfl, hlc', hm', hc'⟩ := h'
  unfold maxLen at hm hm'
  go_enter Tryd.func45, Tryd.ntmps45
  go_wp2_with fail
  go_loopw [5] (fun i wr => ∃ k : Nat, k ≤ l.length ∧ i = .int .i64 k ∧ Below w.heap.size w wr) (fun i _ => l.length - (intOf i).toNat)
  case atStart => exact ⟨0, Nat.zero_le _, rfl, Below.refl _ _⟩
  case round =>
    obtain ⟨k, hk, rfl, hb⟩ := hrel
    by_cases hlt : k < l.length
    · obtain ⟨rfl, hbw, c0⟩ := StrE.at (hc.mono hb) k hlt
      obtain ⟨rfl, hbw', c0'⟩ := StrE.at (hc'.mono hb) k hlt
      go_wp2_with fail
      refine wp_region_ext (by kernel_rfl) (by kernel_rfl) ?_
      repeat (any_goals (first | go_big_quiet_step (fail)))
      refine wpQuiet_nil ?_
      rintro _ ⟨q, rfl⟩
      go_wp2_with fail
      go_roundw
      case rel => exact ⟨k + 1, by omega, by go_num, bext hb hb.size _⟩
      case measure => simp [intOf]; omega
    · go_wp2_with fail
      go_ret
      exact ⟨rfl, hb⟩

structure Crd where
  id : Int
  yr : Int
  a : Option Addr
  cap : Nat
  sub : List ByteArray
instance : Inhabited Crd := ⟨⟨0, 0, none, 0, []⟩⟩
def Crd.enc (x : Crd) : List Value := [.int .i64 x.id, .int .i64 x.yr, .slice x.a x.sub.length x.cap]
theorem Crd.len (x : Crd) : x.enc.length = 3 := rfl
theorem Crd.one (x : Crd) : ∀ u ∈ x.enc, u.oneCell' = true := fun u hu => by simp [Crd.enc] at hu; rcases hu with hu | hu | hu <;> (subst hu; rfl)
theorem Crd.at {w : World} {a : Option Addr} {b off : Nat} {l : List Crd} (h : Cells w Crd.enc 3 a b off l) (i : Nat) (hi : i < l.length) : a = some ⟨b, off, none⟩ ∧ b < w.heap.size ∧
    w.cell? ⟨b, off + i * 3, none⟩ = some (.int .i64 (gd l i).id) ∧
    w.cell? ⟨b, off + i * 3 + 1, none⟩ = some (.int .i64 (gd l i).yr) ∧
    w.cell? ⟨b, off + i * 3 + 2, none⟩ = some (.slice (gd l i).a (gd l i).sub.length (gd l i).cap) := by
  obtain ⟨ha, hb, c⟩ := h i hi
  exact ⟨ha, hb, c 0 _ rfl, c 1 _ rfl, c 2 _ rfl⟩

/-- what the slice in x reads as -/
def Crd.In (w : World) (x : Crd) : Prop := Sl w StrE.enc 1 (.slice x.a x.sub.length x.cap) x.sub
theorem Crd.In.mono {w w' : World} {x : Crd} (h : x.In w) (hb : Below w.heap.size w w') : x.In w' := Sl.mono h hb
def Crd.Deep (w : World) (l : List Crd) : Prop := ∀ i, i < l.length → (gd l i).In w
theorem Crd.Deep.mono {w w' : World} {l : List Crd} (h : Crd.Deep w l) (hb : Below w.heap.size w w') : Crd.Deep w' l := fun i hi => (h i hi).mono hb
def Crd.bare (x : Crd) : Crd := { x with a := none, cap := 0 }
def Crd.Short (x : Crd) : Prop := StrE.Short x.sub
def Crd.Fits (x : Crd) : Prop := StrE.Fits x.sub
theorem Crd.sub_eq {x y : Crd} (h : x.bare = y.bare) : x.id = y.id ∧ x.yr = y.yr ∧ x.sub = y.sub := by
  simp only [Crd.bare, Crd.mk.injEq] at h
  simp_all
theorem Crd.fits {l l' : List Crd} (h : l'.map Crd.bare = l.map Crd.bare) (hf : ∀ i, i < l.length → (gd l i).Fits) : ∀ i, i < l'.length → (gd l' i).Fits := fun i hi => by
  have hl : l'.length = l.length := by simpa using congrArg List.length h
  have e := (map_same_at h i (by omega)).2
  have := hf i (by omega)
  exact (congrArg Crd.Fits e : (gd l' i).bare.Fits = (gd l i).bare.Fits) ▸ this
/-- a call that hands back a struct with a slice of its own -/
def Crd.Ret (w : World) (x : Crd) (e : Ending) (w' : World) : Prop := ∃ (a' : Option Addr) (cap' : Nat), e = .returned (.agg #[.int .i64 x.id, .int .i64 x.yr, .slice a' x.sub.length cap']) ∧ Own w' w.heap.size 9 StrE.enc 1 (.slice a' x.sub.length cap') x.sub ∧ Below w.heap.size w w'
/-- a slice of the call's own, each of its elements with a slice of its own -/
def Crd.OwnS (w : World) (lo : Nat) (v : Value) (l : List Crd) : Prop := Own w lo 24 Crd.enc 3 v l ∧ ∃ g, lo ≤ g ∧ g < w.heap.size ∧ (∀ b, v.ownBlock = some b → b = g) ∧
  (∀ i, i < l.length → Own w (g + 1) 9 StrE.enc 1 (.slice (gd l i).a (gd l i).sub.length (gd l i).cap) (gd l i).sub) ∧
  ∀ i j b b', i < j → j < l.length → (Value.slice (gd l i).a (gd l i).sub.length (gd l i).cap).ownBlock = some b → (Value.slice (gd l j).a (gd l j).sub.length (gd l j).cap).ownBlock = some b' → b < b'
theorem Crd.OwnS.sl {w : World} {lo : Nat} {v : Value} {l : List Crd} (h : Crd.OwnS w lo v l) : Sl w Crd.enc 3 v l := h.1.sl Crd.len
theorem Crd.OwnS.deep {w : World} {lo : Nat} {v : Value} {l : List Crd} (h : Crd.OwnS w lo v l) : Crd.Deep w l := fun i hi => by
  obtain ⟨g, _, _, _, h2, _⟩ := h.2
  exact (h2 i hi).sl StrE.len
theorem Crd.OwnS.mono {w w' : World} {lo : Nat} {v : Value} {l : List Crd} (h : Crd.OwnS w lo v l) (hb : Below w.heap.size w w') : Crd.OwnS w' lo v l := by
  obtain ⟨h1, g, h2, h3, h4, h5, h6⟩ := h
  exact ⟨h1.mono hb, g, h2, Nat.lt_of_lt_of_le h3 hb.size, h4, fun i hi => (h5 i hi).mono hb, h6⟩
/-- a call that hands back such a slice that reads as l does -/
def Crd.RetS (w : World) (l : List Crd) (e : Ending) (w' : World) : Prop := ∃ (v' : Value) (l' : List Crd), e = .returned v' ∧ Crd.OwnS w' w.heap.size v' l' ∧ l'.map Crd.bare = l.map Crd.bare ∧ Below w.heap.size w w'

set_option maxHeartbeats 1000000 in
theorem eqCard_p (x y : Crd) (w : World) (h : x.In w) (h' : y.In w) (hb : x.bare = y.bare) : Calls Tryd.prog 8 #[.agg #[.int .i64 x.id, .int .i64 x.yr, .slice x.a x.sub.length x.cap], .agg #[.int .i64 y.id, .int .i64 y.yr, .slice y.a y.sub.length y.cap]] w fun e w' => e = .returned (.bool true) ∧ Below w.heap.size w w' := by
  obtain ⟨yid, yyr, ya, ycap, ysub⟩ := y
  obtain ⟨xid, xyr, xa, xcap, xsub⟩ := x
  have h0 := Lib.hid (show Sl w StrE.enc 1 (.slice xa xsub.length xcap) xsub from h)
  have h0' := Lib.hid (show Sl w StrE.enc 1 (.slice ya ysub.length ycap) ysub from h')
  clear h h'
  simp only [Crd.bare, Crd.mk.injEq] at hb
  obtain ⟨rfl, rfl, _, _, rfl⟩ := hb
  dsimp only
  go_enter Tryd.func8, Tryd.ntmps8
  go_wp2_with (go_at_call 45; refine (eqStringS_c _ _ xsub _ (h0.out.mono (btrans (below_alloc _ _) (below_alloc _ _))) (h0'.out.mono (btrans (below_alloc _ _) (below_alloc _ _)))).mono ?_; rintro e w1 ⟨rfl, hb1⟩; obtain ⟨p, rfl⟩ := ext_of_below hb1)
  go_ret
  exact ⟨rfl, bext (btrans (below_alloc _ _) (below_alloc _ _)) (by simp; omega) _⟩

structure Ent where
  id : Int
  ti : ByteArray
  pl : ByteArray
  yr : Int
  ct : Int
  a : Option Addr
  cap : Nat
  sub : List Int
instance : Inhabited Ent := ⟨⟨0, ByteArray.empty, ByteArray.empty, 0, 0, none, 0, []⟩⟩
def Ent.enc (x : Ent) : List Value := [.int .i64 x.id, .string x.ti, .string x.pl, .int .i64 x.yr, .int .i64 x.ct, .slice x.a x.sub.length x.cap]
theorem Ent.len (x : Ent) : x.enc.length = 6 := rfl
theorem Ent.one (x : Ent) : ∀ u ∈ x.enc, u.oneCell' = true := fun u hu => by simp [Ent.enc] at hu; rcases hu with hu | hu | hu | hu | hu | hu <;> (subst hu; rfl)
theorem Ent.at {w : World} {a : Option Addr} {b off : Nat} {l : List Ent} (h : Cells w Ent.enc 6 a b off l) (i : Nat) (hi : i < l.length) : a = some ⟨b, off, none⟩ ∧ b < w.heap.size ∧
    w.cell? ⟨b, off + i * 6, none⟩ = some (.int .i64 (gd l i).id) ∧
    w.cell? ⟨b, off + i * 6 + 1, none⟩ = some (.string (gd l i).ti) ∧
    w.cell? ⟨b, off + i * 6 + 2, none⟩ = some (.string (gd l i).pl) ∧
    w.cell? ⟨b, off + i * 6 + 3, none⟩ = some (.int .i64 (gd l i).yr) ∧
    w.cell? ⟨b, off + i * 6 + 4, none⟩ = some (.int .i64 (gd l i).ct) ∧
    w.cell? ⟨b, off + i * 6 + 5, none⟩ = some (.slice (gd l i).a (gd l i).sub.length (gd l i).cap) := by
  obtain ⟨ha, hb, c⟩ := h i hi
  exact ⟨ha, hb, c 0 _ rfl, c 1 _ rfl, c 2 _ rfl, c 3 _ rfl, c 4 _ rfl, c 5 _ rfl⟩

/-- what the slice in x reads as -/
def Ent.In (w : World) (x : Ent) : Prop := Sl w IntE.enc 1 (.slice x.a x.sub.length x.cap) x.sub
theorem Ent.In.mono {w w' : World} {x : Ent} (h : x.In w) (hb : Below w.heap.size w w') : x.In w' := Sl.mono h hb
def Ent.Deep (w : World) (l : List Ent) : Prop := ∀ i, i < l.length → (gd l i).In w
theorem Ent.Deep.mono {w w' : World} {l : List Ent} (h : Ent.Deep w l) (hb : Below w.heap.size w w') : Ent.Deep w' l := fun i hi => (h i hi).mono hb
def Ent.bare (x : Ent) : Ent := { x with a := none, cap := 0 }
def Ent.Short (x : Ent) : Prop := x.ti.size ≤ 1048576 ∧ x.pl.size ≤ 1048576 ∧ IntE.Short x.sub
def Ent.Fits (x : Ent) : Prop := x.ti.size ≤ maxLen ∧ x.pl.size ≤ maxLen ∧ IntE.Fits x.sub
theorem Ent.sub_eq {x y : Ent} (h : x.bare = y.bare) : x.id = y.id ∧ x.ti = y.ti ∧ x.pl = y.pl ∧ x.yr = y.yr ∧ x.ct = y.ct ∧ x.sub = y.sub := by
  simp only [Ent.bare, Ent.mk.injEq] at h
  simp_all
theorem Ent.fits {l l' : List Ent} (h : l'.map Ent.bare = l.map Ent.bare) (hf : ∀ i, i < l.length → (gd l i).Fits) : ∀ i, i < l'.length → (gd l' i).Fits := fun i hi => by
  have hl : l'.length = l.length := by simpa using congrArg List.length h
  have e := (map_same_at h i (by omega)).2
  have := hf i (by omega)
  exact (congrArg Ent.Fits e : (gd l' i).bare.Fits = (gd l i).bare.Fits) ▸ this
/-- a call that hands back a struct with a slice of its own -/
def Ent.Ret (w : World) (x : Ent) (e : Ending) (w' : World) : Prop := ∃ (a' : Option Addr) (cap' : Nat), e = .returned (.agg #[.int .i64 x.id, .string x.ti, .string x.pl, .int .i64 x.yr, .int .i64 x.ct, .slice a' x.sub.length cap']) ∧ Own w' w.heap.size 3 IntE.enc 1 (.slice a' x.sub.length cap') x.sub ∧ Below w.heap.size w w'
/-- a slice of the call's own, each of its elements with a slice of its own -/
def Ent.OwnS (w : World) (lo : Nat) (v : Value) (l : List Ent) : Prop := Own w lo 51 Ent.enc 6 v l ∧ ∃ g, lo ≤ g ∧ g < w.heap.size ∧ (∀ b, v.ownBlock = some b → b = g) ∧
  (∀ i, i < l.length → Own w (g + 1) 3 IntE.enc 1 (.slice (gd l i).a (gd l i).sub.length (gd l i).cap) (gd l i).sub) ∧
  ∀ i j b b', i < j → j < l.length → (Value.slice (gd l i).a (gd l i).sub.length (gd l i).cap).ownBlock = some b → (Value.slice (gd l j).a (gd l j).sub.length (gd l j).cap).ownBlock = some b' → b < b'
theorem Ent.OwnS.sl {w : World} {lo : Nat} {v : Value} {l : List Ent} (h : Ent.OwnS w lo v l) : Sl w Ent.enc 6 v l := h.1.sl Ent.len
theorem Ent.OwnS.deep {w : World} {lo : Nat} {v : Value} {l : List Ent} (h : Ent.OwnS w lo v l) : Ent.Deep w l := fun i hi => by
  obtain ⟨g, _, _, _, h2, _⟩ := h.2
  exact (h2 i hi).sl IntE.len
theorem Ent.OwnS.mono {w w' : World} {lo : Nat} {v : Value} {l : List Ent} (h : Ent.OwnS w lo v l) (hb : Below w.heap.size w w') : Ent.OwnS w' lo v l := by
  obtain ⟨h1, g, h2, h3, h4, h5, h6⟩ := h
  exact ⟨h1.mono hb, g, h2, Nat.lt_of_lt_of_le h3 hb.size, h4, fun i hi => (h5 i hi).mono hb, h6⟩
/-- a call that hands back such a slice that reads as l does -/
def Ent.RetS (w : World) (l : List Ent) (e : Ending) (w' : World) : Prop := ∃ (v' : Value) (l' : List Ent), e = .returned v' ∧ Ent.OwnS w' w.heap.size v' l' ∧ l'.map Ent.bare = l.map Ent.bare ∧ Below w.heap.size w w'

set_option maxHeartbeats 1000000 in
theorem szEntry_p (x : Ent) (left : Int) (w : World) (h : x.In w) (hf : x.Fits) (h0 : 0 ≤ left) (h1 : left ≤ 1048576) : Calls Tryd.prog 48 #[.agg #[.int .i64 x.id, .string x.ti, .string x.pl, .int .i64 x.yr, .int .i64 x.ct, .slice x.a x.sub.length x.cap], .int .i64 left] w (SzPost x.Short left w) := by
  obtain ⟨xid, xti, xpl, xyr, xct, xa, xcap, xsub⟩ := x
  dsimp only
  have h' := h
  obtain ⟨_, _, _, _, _, hlc, hm, _⟩ := h'
  have hh := Lib.hid h
  have hff := hf
  unfold Ent.Fits at hff
  dsimp only at hff
  unfold maxLen at hm
  try unfold maxLen at hff
  have HF := Lib.hid (show IntE.Fits xsub from hf.2.2)
  obtain ⟨f0, f1, _⟩ := hff
  clear h hf
  go_enter Tryd.func48, Tryd.ntmps48
  go_wp2_with (go_at_call 89; refine (szIntS_p _ xsub _ _ (hh.out.mono (below_alloc _ _)) HF.out (by omega) (by omega)).mono ?_; rintro e w1 ⟨hb, r, rfl, hr⟩; replace hr := Lib.hid hr; obtain ⟨p, rfl⟩ := ext_of_below hb)
  all_goals go_ret
  all_goals first
    | exact ⟨by first | exact below_alloc _ _ | exact bext (below_alloc _ _) (by simp) _, -1, rfl, .inl rfl⟩
    | (refine ⟨by first | exact below_alloc _ _ | exact bext (below_alloc _ _) (by simp) _, _, rfl, ?_⟩; rcases hr.out with e | ⟨a, b, c⟩; exact .inl e; exact .inr ⟨a, by omega, ⟨show xti.size ≤ 1048576 by omega, show xpl.size ≤ 1048576 by omega, c⟩⟩)

set_option maxHeartbeats 1000000 in
theorem szEntryS_p (v : Value) (l : List Ent) (left : Int) (w : World) (h : Sl w Ent.enc 6 v l) (hd : Ent.Deep w l) (hf : ∀ i, i < l.length → (gd l i).Fits) (h0 : 0 ≤ left) (h1 : left ≤ 1048576) : Calls Tryd.prog 11 #[v, .int .i64 left] w (SzPost (l.length ≤ 1048576 ∧ ∀ i, i < l.length → (gd l i).Short) left w) := by
  obtain ⟨a, cap, b, off, rfl, hlc, hm, hc⟩ := h
  unfold maxLen at hm
  by_cases hlt : left < l.length
  · go_enter Tryd.func11, Tryd.ntmps11
    go_wp2_with fail
    go_ret
    exact ⟨Below.refl _ _, -1, rfl, .inl rfl⟩
  go_enter Tryd.func11, Tryd.ntmps11
  go_wp2_with fail
  go_loopw [1, 5] (fun m i wr => ∃ (k : Nat) (lf : Int), k ≤ l.length ∧ i = .int .i64 k ∧ m = .int .i64 lf ∧ 0 ≤ lf ∧ lf ≤ left ∧ Hid (∀ i, i < k → (gd l i).Short) ∧ Below w.heap.size w wr) (fun _ i _ => l.length - (intOf i).toNat)
  case atStart => exact ⟨0, _, Nat.zero_le _, rfl, rfl, by omega, by omega, fun i hi => by omega, Below.refl _ _⟩
  case round =>
    obtain ⟨k, lf, hk, rfl, rfl, hl0, hl1, hall, hb⟩ := hrel
    by_cases hlt : k < l.length
    · obtain ⟨rfl, hbw, c0, c1, c2, c3, c4, c5⟩ := Ent.at (hc.mono hb) k hlt
      have hZ := Lib.hid (szEntry_p (gd l k) lf wr ((hd k hlt).mono hb) (hf k hlt) hl0 (by omega))
      go_wp2_with fail
      refine hZ.out.mono ?_
      rintro e w1 ⟨hb1, r, rfl, hr⟩
      replace hr := Lib.hid hr
      by_cases hr0 : r < 0
      · go_wp2_with fail
        go_ret
        exact ⟨btrans hb hb1, -1, rfl, .inl rfl⟩
      · go_wp2_with fail
        go_roundw
        case rel =>
          have h2 : 0 ≤ r ∧ r ≤ lf ∧ (gd l k).Short := by
            rcases hr.out with e | h2
            · omega
            · exact h2
          exact ⟨k + 1, _, by omega, by go_num, rfl, by omega, by omega, ball_succ hall.out h2.2.2, btrans hb hb1⟩
        case measure => simp [intOf]; omega
    · obtain rfl : k = l.length := by omega
      go_wp2_with fail
      go_ret
      exact ⟨hb, _, rfl, .inr ⟨by omega, by omega, by omega, hall.out⟩⟩

set_option maxHeartbeats 1000000 in
theorem toEntry_p (x : Ent) (w : World) (h : x.In w) (hl : x.sub.length ≤ 1048576) : Calls Tryd.prog 51 #[.agg #[.int .i64 x.id, .string x.ti, .string x.pl, .int .i64 x.yr, .int .i64 x.ct, .slice x.a x.sub.length x.cap]] w (x.Ret w) := by
  obtain ⟨xid, xti, xpl, xyr, xct, xa, xcap, xsub⟩ := x
  have h0 := Lib.hid (show Sl w IntE.enc 1 (.slice xa xsub.length xcap) xsub from h)
  dsimp only at hl ⊢
  clear h
  go_enter Tryd.func51, Tryd.ntmps51
  go_wp2_with fail
  refine (toIntS_c _ xsub _ (h0.out.mono (btrans (below_alloc _ _) (btrans (below_alloc _ _) (below_alloc _ _)))) hl).mono ?_
  rintro e w1 ⟨v1, rfl, o1, b1⟩
  have hv := o1.sl IntE.len
  obtain ⟨a1, cap1, b1', off1, rfl, _, _, _⟩ := hv
  obtain ⟨p, rfl⟩ := ext_of_below b1
  go_wp2
  go_returns
  refine ⟨_, _, rfl, (o1.rebase (by simp) (by simp)).lower (by simp; omega), ?_⟩
  exact bext (btrans (below_alloc _ _) (btrans (below_alloc _ _) (below_alloc _ _))) (by simp; omega) _

set_option maxHeartbeats 1000000 in
theorem eqEntry_p (x y : Ent) (w : World) (h : x.In w) (h' : y.In w) (hb : x.bare = y.bare) : Calls Tryd.prog 55 #[.agg #[.int .i64 x.id, .string x.ti, .string x.pl, .int .i64 x.yr, .int .i64 x.ct, .slice x.a x.sub.length x.cap], .agg #[.int .i64 y.id, .string y.ti, .string y.pl, .int .i64 y.yr, .int .i64 y.ct, .slice y.a y.sub.length y.cap]] w fun e w' => e = .returned (.bool true) ∧ Below w.heap.size w w' := by
  obtain ⟨yid, yti, ypl, yyr, yct, ya, ycap, ysub⟩ := y
  obtain ⟨xid, xti, xpl, xyr, xct, xa, xcap, xsub⟩ := x
  have h0 := Lib.hid (show Sl w IntE.enc 1 (.slice xa xsub.length xcap) xsub from h)
  have h0' := Lib.hid (show Sl w IntE.enc 1 (.slice ya ysub.length ycap) ysub from h')
  clear h h'
  simp only [Ent.bare, Ent.mk.injEq] at hb
  obtain ⟨rfl, rfl, rfl, rfl, rfl, _, _, rfl⟩ := hb
  dsimp only
  go_enter Tryd.func55, Tryd.ntmps55
  go_wp2_with (go_at_call 95; refine (eqIntS_c _ _ xsub _ (h0.out.mono (btrans (below_alloc _ _) (below_alloc _ _))) (h0'.out.mono (btrans (below_alloc _ _) (below_alloc _ _)))).mono ?_; rintro e w1 ⟨rfl, hb1⟩; obtain ⟨p, rfl⟩ := ext_of_below hb1)
  go_ret
  exact ⟨rfl, bext (btrans (below_alloc _ _) (below_alloc _ _)) (by simp; omega) _⟩

set_option maxHeartbeats 1000000 in
theorem eqEntryS_p (v v' : Value) (l l' : List Ent) (w : World) (h : Sl w Ent.enc 6 v l) (hd : Ent.Deep w l) (h' : Sl w Ent.enc 6 v' l') (hd' : Ent.Deep w l') (he : l.map Ent.bare = l'.map Ent.bare) : Calls Tryd.prog 16 #[v, v'] w fun e w' =>
    e = .returned (.bool true) ∧ Below w.heap.size w w' := by
  obtain ⟨a, cap, b, off, rfl, hlc, hm, hc⟩ := h
  obtain ⟨a', cap', b', off', rfl, hlc', hm', hc'⟩ := h'
  have hE := Lib.hid he
  have hll : l.length = l'.length := by simpa using congrArg List.length he
  clear he
  unfold maxLen at hm hm'
  rw [← hll] at hlc' ⊢
  go_enter Tryd.func16, Tryd.ntmps16
  go_wp2_with fail
  go_loopw [5] (fun i wr => ∃ k : Nat, k ≤ l.length ∧ i = .int .i64 k ∧ Below w.heap.size w wr) (fun i _ => l.length - (intOf i).toNat)
  case atStart => exact ⟨0, Nat.zero_le _, rfl, Below.refl _ _⟩
  case round =>
    obtain ⟨k, hk, rfl, hb⟩ := hrel
    by_cases hlt : k < l.length
    · obtain ⟨rfl, hbw, c0, c1, c2, c3, c4, c5⟩ := Ent.at (hc.mono hb) k hlt
      obtain ⟨rfl, hbw', c0', c1', c2', c3', c4', c5'⟩ := Ent.at (hc'.mono hb) k (by omega)
      have hQ := Lib.hid (fun p => eqEntry_p (gd l k) (gd l' k) (ext wr p) ((hd k hlt).mono (btrans hb (below_ext wr p))) ((hd' k (by omega)).mono (btrans hb (below_ext wr p))) (map_same_at hE.out k (by omega)).2)
      go_wp2_with fail
      refine wp_region_ext (by kernel_rfl) (by kernel_rfl) ?_
      repeat (any_goals (first | go_big_quiet_step ((go_at_call 55; exact Calls.ext_of (hQ.out _)))))
      refine wpQuiet_nil ?_
      rintro _ ⟨q, rfl⟩
      go_wp2_with fail
      go_roundw
      case rel => exact ⟨k + 1, by omega, by go_num, bext hb hb.size _⟩
      case measure => simp [intOf]; omega
    · go_wp2_with fail
      go_ret
      exact ⟨rfl, hb⟩

/-- what the rounds of toEntryS have made so far -/
def Ent.Made (w : World) (lo : Nat) (l l' : List Ent) (k : Nat) : Prop := l'.length = l.length ∧ (∀ i, i < k → (gd l' i).bare = (gd l i).bare ∧ Own w (lo + 1) 3 IntE.enc 1 (.slice (gd l' i).a (gd l' i).sub.length (gd l' i).cap) (gd l' i).sub) ∧
  ∀ i j b b', i < j → j < k → (Value.slice (gd l' i).a (gd l' i).sub.length (gd l' i).cap).ownBlock = some b → (Value.slice (gd l' j).a (gd l' j).sub.length (gd l' j).cap).ownBlock = some b' → b < b'
theorem Ent.Made.step {w w' : World} {lo : Nat} {l l' : List Ent} {k : Nat} (h : Ent.Made w lo l l' k) (hk : k < l.length) (hlo : lo < w.heap.size) (hw : Below w.heap.size w w') {w2 : World} (hw2 : w'.grownBy w2 (some lo)) {a1 : Option Addr} {cap1 : Nat}
    (o : Own w' w.heap.size 3 IntE.enc 1 (.slice a1 (gd l k).sub.length cap1) (gd l k).sub) : Ent.Made w2 lo l (l'.set k { gd l k with a := a1, cap := cap1 }) (k + 1) := by
  obtain ⟨h1, h2, h3⟩ := h
  have kept : ∀ {v : Value} {s : List Int} {z : Nat}, lo < z → Own w' z 3 IntE.enc 1 v s → Own w2 z 3 IntE.enc 1 v s := fun hz ho => ho.kept hw2 (by
    cases hb : Value.ownBlock _ with
    | none => exact .inl rfl
    | some g => exact .inr (fun e => by have := ho.bounds g hb; injection e with e; omega))
  have hkl : k < l'.length := by omega
  refine ⟨by simp [h1], fun i hi => ?_, fun i j b b' hij hj hbi hbj => ?_⟩
  · rw [gd_set hkl]
    by_cases e : i = k
    · subst e
      rw [if_pos rfl]
      exact ⟨rfl, (kept hlo o).lower (by omega)⟩
    · rw [if_neg e]
      obtain ⟨e1, e2⟩ := h2 i (by omega)
      exact ⟨e1, kept (by omega) (e2.mono hw)⟩
  · rw [gd_set hkl] at hbi hbj
    rw [if_neg (by omega)] at hbi
    by_cases e : j = k
    · subst e
      rw [if_pos rfl] at hbj
      have h4 := (h2 i (by omega)).2.bounds b hbi
      have h5 := o.bounds b' hbj
      omega
    · rw [if_neg e] at hbj
      exact h3 i j b b' hij (by omega) hbi hbj

set_option maxHeartbeats 1000000 in
theorem toEntryS_p (v : Value) (l : List Ent) (w : World) (h : Sl w Ent.enc 6 v l) (hd : Ent.Deep w l) (hl : l.length ≤ 1048576) (hls : ∀ i, i < l.length → (gd l i).sub.length ≤ 1048576) : Calls Tryd.prog 13 #[v] w (Ent.RetS w l) := by
  obtain ⟨a, cap, b, off, rfl, hlc, hm, hc⟩ := h
  obtain ⟨i, hi, hz0, hz1, hz2⟩ := info_parts (show (Tryd.prog.info? 51).map (fun i => (i.zero, i.size, i.bytes)) = some (some (.agg #[.int .i64 0, .string ByteArray.empty, .string ByteArray.empty, .int .i64 0, .int .i64 0, .slice none 0 0]), 6, 80) by kernel_rfl)
  go_enter Tryd.func13, Tryd.ntmps13
  go_wp2_with (at_make; refine wpList_make_full _ rfl _ _ 35 rfl w.heap.size 51 i _ 6 Tryd.underlying35 hi hz0 hz1 _ _ _ _ l.length rfl rfl rfl rfl (by rw [hz2]; omega) (by unfold maxLen; omega) (Nat.le_refl _) ?_)
  intro w1 hown hgr
  have hb1 := (Below.refl w.heap.size w).grown hgr (Nat.le_refl _) (fun k hk => by cases hk)
  have hf := Fill.start (flat_len Ent.len l) hown
  clear hown hgr
  go_wp2_with fail
  go_loopw [4] (fun i wr => ∃ (k : Nat) (l' : List Ent), k ≤ l.length ∧ i = .int .i64 k ∧ Below w.heap.size w wr ∧ Fill wr w.heap.size 51 6 (.slice (some ⟨w.heap.size, 0, none⟩) l.length l.length) l.length (l'.flatMap Ent.enc) (k * 6) ∧ Hid (Ent.Made wr w.heap.size l l' k)) (fun i _ => l.length - (intOf i).toNat)
  case atStart => exact ⟨0, l, Nat.zero_le _, rfl, hb1, by simpa using hf, rfl, fun i hi => by omega, fun i j b b' hij hj => by omega⟩
  case round =>
    obtain ⟨k, l', hk, rfl, hb, hfk, hM⟩ := hrel
    by_cases hlt : k < l.length
    · obtain ⟨rfl, hbw, c0, c1, c2, c3, c4, c5⟩ := Ent.at (hc.mono hb) k hlt
      have hg := hfk.lt.2
      obtain ⟨u0, d0⟩ := hfk.cell (k * 6) (by omega)
      obtain ⟨u1, d1⟩ := hfk.cell (k * 6 + 1) (by omega)
      obtain ⟨u2, d2⟩ := hfk.cell (k * 6 + 2) (by omega)
      obtain ⟨u3, d3⟩ := hfk.cell (k * 6 + 3) (by omega)
      obtain ⟨u4, d4⟩ := hfk.cell (k * 6 + 4) (by omega)
      obtain ⟨u5, d5⟩ := hfk.cell (k * 6 + 5) (by omega)
      have z0 := hfk.frozen (k * 6)
      have z1 := hfk.frozen (k * 6 + 1)
      have z2 := hfk.frozen (k * 6 + 2)
      have z3 := hfk.frozen (k * 6 + 3)
      have z4 := hfk.frozen (k * 6 + 4)
      have z5 := hfk.frozen (k * 6 + 5)
      have f0 : ∀ (a1 : Option Addr) (cap1 : Nat), ((l'.set k { gd l k with a := a1, cap := cap1 }).flatMap Ent.enc)[k * 6 + 0]? = some (.int .i64 (gd l k).id) := fun a1 cap1 => (flat_get Ent.len (l'.set k { gd l k with a := a1, cap := cap1 }) k 0 (by simp [hM.out.1]; exact hlt) (by omega)).trans (by rw [gd_set (by rw [hM.out.1]; exact hlt), if_pos rfl]; rfl)
      have f1 : ∀ (a1 : Option Addr) (cap1 : Nat), ((l'.set k { gd l k with a := a1, cap := cap1 }).flatMap Ent.enc)[k * 6 + 1]? = some (.string (gd l k).ti) := fun a1 cap1 => (flat_get Ent.len (l'.set k { gd l k with a := a1, cap := cap1 }) k 1 (by simp [hM.out.1]; exact hlt) (by omega)).trans (by rw [gd_set (by rw [hM.out.1]; exact hlt), if_pos rfl]; rfl)
      have f2 : ∀ (a1 : Option Addr) (cap1 : Nat), ((l'.set k { gd l k with a := a1, cap := cap1 }).flatMap Ent.enc)[k * 6 + 2]? = some (.string (gd l k).pl) := fun a1 cap1 => (flat_get Ent.len (l'.set k { gd l k with a := a1, cap := cap1 }) k 2 (by simp [hM.out.1]; exact hlt) (by omega)).trans (by rw [gd_set (by rw [hM.out.1]; exact hlt), if_pos rfl]; rfl)
      have f3 : ∀ (a1 : Option Addr) (cap1 : Nat), ((l'.set k { gd l k with a := a1, cap := cap1 }).flatMap Ent.enc)[k * 6 + 3]? = some (.int .i64 (gd l k).yr) := fun a1 cap1 => (flat_get Ent.len (l'.set k { gd l k with a := a1, cap := cap1 }) k 3 (by simp [hM.out.1]; exact hlt) (by omega)).trans (by rw [gd_set (by rw [hM.out.1]; exact hlt), if_pos rfl]; rfl)
      have f4 : ∀ (a1 : Option Addr) (cap1 : Nat), ((l'.set k { gd l k with a := a1, cap := cap1 }).flatMap Ent.enc)[k * 6 + 4]? = some (.int .i64 (gd l k).ct) := fun a1 cap1 => (flat_get Ent.len (l'.set k { gd l k with a := a1, cap := cap1 }) k 4 (by simp [hM.out.1]; exact hlt) (by omega)).trans (by rw [gd_set (by rw [hM.out.1]; exact hlt), if_pos rfl]; rfl)
      have f5 : ∀ (a1 : Option Addr) (cap1 : Nat), ((l'.set k { gd l k with a := a1, cap := cap1 }).flatMap Ent.enc)[k * 6 + 5]? = some (.slice a1 (gd l k).sub.length cap1) := fun a1 cap1 => (flat_get Ent.len (l'.set k { gd l k with a := a1, cap := cap1 }) k 5 (by simp [hM.out.1]; exact hlt) (by omega)).trans (by rw [gd_set (by rw [hM.out.1]; exact hlt), if_pos rfl]; rfl)
      have hT := Lib.hid (toEntry_p (gd l k) wr ((hd k hlt).mono hb) (hls k hlt))
      go_wp2_with fail
      refine hT.out.mono ?_
      rintro e w2 ⟨a1, cap1, rfl, o1, hb2⟩
      have hM2 := Lib.hid (fun (w3 : World) (hw : w2.grownBy w3 (some w.heap.size)) => hM.out.step hlt hg hb2 hw o1)
      obtain ⟨p, rfl⟩ := ext_of_below hb2
      go_wp2_with fail
      go_roundw
      case rel =>
        refine ⟨k + 1, l'.set k { gd l k with a := a1, cap := cap1 }, by omega, by go_num, ?_, ?_, hM2.out _ ?_⟩
        · exact bext ((((((hb.setCell (Nat.le_refl _) _).setCell (Nat.le_refl _) _).setCell (Nat.le_refl _) _).setCell (Nat.le_refl _) _).setCell (Nat.le_refl _) _).setCell (Nat.le_refl _) _) (by simp; exact hb.size) _
        · rw [show (k + 1) * 6 = k * 6 + 5 + 1 by omega]
          exact ((((((((hfk.swap (F' := (l'.set k { gd l k with a := a1, cap := cap1 }).flatMap Ent.enc) (by rw [flat_len Ent.len]; simp [hM.out.1]) (fun j hj => set_flat Ent.len (by rw [hM.out.1]; exact hlt) j hj))).step (f0 a1 cap1)).step (f1 a1 cap1)).step (f2 a1 cap1)).step (f3 a1 cap1)).step (f4 a1 cap1)).step (f5 a1 cap1)).mono (below_ext _ _)
        · exact grown_ext (only_setCell (only_setCell (only_setCell (only_setCell (only_setCell (only_setCell (World.grownBy.refl _ _) ⟨w.heap.size, k * 6, none⟩ rfl _) ⟨w.heap.size, k * 6 + 1, none⟩ rfl _) ⟨w.heap.size, k * 6 + 2, none⟩ rfl _) ⟨w.heap.size, k * 6 + 3, none⟩ rfl _) ⟨w.heap.size, k * 6 + 4, none⟩ rfl _) ⟨w.heap.size, k * 6 + 5, none⟩ rfl _) (by simp)
      case measure => simp [intOf]; omega
    · obtain rfl : k = l.length := by omega
      have HM := hM.out
      go_wp2_with fail
      go_ret
      exact ⟨_, l', rfl, ⟨by unfold Own; rw [HM.1]; exact hfk.all (by omega), w.heap.size, Nat.le_refl _, hfk.lt.2, fun b hb => (Option.some.inj (show some w.heap.size = some b from hb)).symm, fun i hi => (HM.2.1 i (by rw [← HM.1]; exact hi)).2, fun i j b b' hij hj => HM.2.2 i j b b' hij (by rw [← HM.1]; exact hj)⟩, map_same HM.1 (fun i hi => (HM.2.1 i hi).1), hb⟩

end Go.Proofs.YteainpflmofjaaaDoor
