/- Helpers at []string and at structs that hold one slice: contracts of to.., sz.., eq... No condition but sizes. -/
import Derived.Test.YtemgcbmcjpgelaaDoorTypes
import Derived.Test.YtemgcbmcjpgelaaDoorMore
import Derived.Test.YtemgcbmcjpgelaaDoorHeld
namespace Go.Proofs.YtemgcbmcjpgelaaDoor
open Go.RowKit
/-- what a count of sizes hands back -/
def SzPost (C : Prop) (left : Int) (w : World) (e : Ending) (w' : World) : Prop := Below w.heap.size w w' ∧ ∃ r : Int, e = .returned (.int .i64 r) ∧ (r = -1 ∨ (0 ≤ r ∧ r ≤ left ∧ C))
theorem Fill.swap {w : World} {lo : Nat} {e : TypeId} {k n : Nat} {v : Value} {F F' : List Value} {m : Nat} (h : Fill w lo e k v n F m) (hl : F'.length = n * k) (hf : ∀ j, j < m → F'[j]? = F[j]?) : Fill w lo e k v n F' m := by
  obtain ⟨_, xs, ho, hx⟩ := h
  exact ⟨hl, xs, ho, fun j hj => (hx j hj).trans (hf j hj).symm⟩
theorem gd_set {α : Type} [Inhabited α] {l : List α} {k i : Nat} {y : α} (hk : k < l.length) : gd (l.set k y) i = if i = k then y else gd l i := by
  simp only [gd, List.getD, List.getElem?_set]
  by_cases h : k = i
  · subst h; simp [hk]
  · simp [h, Ne.symm h]
theorem set_flat {α : Type} [Inhabited α] {enc : α → List Value} {K : Nat} (hK : ∀ x, (enc x).length = K) {l : List α} {k : Nat} {y : α} (hk : k < l.length) (j : Nat) (hj : j < k * K) : ((l.set k y).flatMap enc)[j]? = (l.flatMap enc)[j]? := by
  have hK0 : 0 < K := by rcases Nat.eq_zero_or_pos K with h0 | h0; · subst h0; omega
                         · exact h0
  have hi : j / K < k := by rw [Nat.div_lt_iff_lt_mul hK0]; exact hj
  have hm := Nat.mod_lt j hK0
  have e : j / K * K + j % K = j := by rw [Nat.mul_comm]; exact Nat.div_add_mod j K
  have h1 := flat_get hK (l.set k y) (j / K) (j % K) (by simp; omega) hm
  have h2 := flat_get hK l (j / K) (j % K) (by omega) hm
  rw [e] at h1 h2
  rw [h1, h2, gd_set hk, if_neg (by omega)]
theorem grown_ext {W W3 : World} {p : Gap} {row : Option Nat} (h : W.grownBy W3 row) (hs : W3.heap.size = W.heap.size) : (ext W p).grownBy (ext W3 p) row := by
  refine ⟨h.os, h.tape, h.output, by simp [hs], fun i hi hne => ?_⟩
  simp only [ext, Array.getElem?_append, hs]
  by_cases hk : i < W.heap.size
  · rw [if_pos hk, if_pos hk]; exact h.block i hk hne
  · rw [if_neg hk, if_neg hk]
theorem ball_succ {Q : Nat → Prop} {k : Nat} (h : ∀ i, i < k → Q i) (hk : Q k) : ∀ i, i < k + 1 → Q i := fun i hi => by
  rcases Nat.lt_or_eq_of_le (Nat.lt_succ_iff.1 hi) with h1 | rfl
  · exact h i h1
  · exact hk
theorem map_same {α β : Type} [Inhabited α] {f : α → β} {l l' : List α} (hl : l'.length = l.length) (h : ∀ i, i < l.length → f (gd l' i) = f (gd l i)) : l'.map f = l.map f := by
  apply List.ext_getElem
  · simp [hl]
  · intro i h1 h2
    have h3 : i < l.length := by simpa using h2
    have := h i h3
    rw [gd_get (by omega), gd_get h3] at this
    simpa using this
theorem map_same_at {α β : Type} [Inhabited α] {f : α → β} {l l' : List α} (h : l'.map f = l.map f) (i : Nat) (hi : i < l.length) : l'.length = l.length ∧ f (gd l' i) = f (gd l i) := by
  have hl : l'.length = l.length := by simpa using congrArg List.length h
  refine ⟨hl, ?_⟩
  have h2 : (l'.map f)[i]? = (l.map f)[i]? := by rw [h]
  simp only [List.getElem?_map, gd_eq (show i < l'.length by omega), gd_eq hi, Option.map_some] at h2
  exact Option.some.inj h2

def StrE.enc (x : ByteArray) : List Value := [.string x]
theorem StrE.len (x : ByteArray) : (StrE.enc x).length = 1 := rfl
theorem StrE.one (x : ByteArray) : ∀ u ∈ StrE.enc x, u.oneCell' = true := fun u hu => by simp [StrE.enc] at hu; subst hu; rfl
theorem StrE.at {w : World} {a : Option Addr} {b off : Nat} {l : List ByteArray} (h : Cells w StrE.enc 1 a b off l) (i : Nat) (hi : i < l.length) : a = some ⟨b, off, none⟩ ∧ b < w.heap.size ∧
    w.cell? ⟨b, off + i, none⟩ = some (.string (gd l i)) := by
  obtain ⟨ha, hb, c⟩ := h i hi
  have c0 := c 0 _ rfl
  rw [Nat.mul_one, Nat.add_zero] at c0
  exact ⟨ha, hb, c0⟩
def StrE.Short (l : List ByteArray) : Prop := l.length ≤ 1048576 ∧ ∀ i, i < l.length → (gd l i).size ≤ 1048576
def StrE.Fits (l : List ByteArray) : Prop := ∀ i, i < l.length → (gd l i).size ≤ maxLen


set_option maxHeartbeats 1000000 in
theorem szStringS_p (v : Value) (l : List ByteArray) (left : Int) (w : World) (h : Sl w StrE.enc 1 v l) (hf : StrE.Fits l) (h0 : 0 ≤ left) (h1 : left ≤ 1048576) : Calls Tryd.prog 26 #[v, .int .i64 left] w (SzPost (StrE.Short l) left w) := by
  obtain ⟨a, cap, b, off, rfl, hlc, hm, hc⟩ := h
  unfold maxLen at hm
  by_cases hlt : left < l.length
  · go_enter Tryd.func26, Tryd.ntmps26
    go_wp2_with fail
    go_ret
    exact ⟨Below.refl _ _, -1, rfl, .inl rfl⟩
  go_enter Tryd.func26, Tryd.ntmps26
  go_wp2_with fail
  go_loop [1, 5] (fun m i => ∃ (k : Nat) (lf : Int), k ≤ l.length ∧ i = .int .i64 k ∧ m = .int .i64 lf ∧ 0 ≤ lf ∧ lf ≤ left ∧ Hid (∀ i, i < k → (gd l i).size ≤ 1048576)) (fun _ i => l.length - (intOf i).toNat)
  case atStart => exact ⟨0, _, Nat.zero_le _, rfl, rfl, by omega, by omega, fun i hi => by omega⟩
  case round =>
    obtain ⟨k, lf, hk, rfl, rfl, hl0, hl1, hall⟩ := hrel
    by_cases hlt : k < l.length
    · obtain ⟨rfl, hbw, c0⟩ := StrE.at hc k hlt
      have hz := hf k hlt
      unfold maxLen at hz
      by_cases hs : lf < (gd l k).size
      · go_wp2_with fail
        go_ret
        exact ⟨Below.refl _ _, -1, rfl, .inl rfl⟩
      · go_wp2_with fail
        go_round
        case rel => exact ⟨k + 1, _, by omega, by go_num, rfl, by omega, by omega, ball_succ hall.out (by omega)⟩
        case measure => simp [intOf]; omega
    · obtain rfl : k = l.length := by omega
      go_wp2_with fail
      go_ret
      exact ⟨Below.refl _ _, _, rfl, .inr ⟨by omega, by omega, by omega, hall.out⟩⟩

set_option maxHeartbeats 1000000 in
theorem toStringS_c (v : Value) (l : List ByteArray) (w : World) (h : Sl w StrE.enc 1 v l) (hl : l.length ≤ 1048576) : Calls Tryd.prog 27 #[v] w (RetOwn w 9 StrE.enc 1 l) := by
  obtain ⟨a, cap, b, off, rfl, hlc, hm, hc⟩ := h
  obtain ⟨i, hi, hz0, hz1, hz2⟩ := info_parts (show (Tryd.prog.info? 9).map (fun i => (i.zero, i.size, i.bytes)) = some (some (.string ByteArray.empty), 1, 16) by kernel_rfl)
  go_enter Tryd.func27, Tryd.ntmps27
  go_wp2_with (at_make; refine wpList_make_full _ rfl _ _ 22 rfl w.heap.size 9 i _ 1 Tryd.underlying22 hi hz0 hz1 _ _ _ _ l.length rfl rfl rfl rfl (by rw [hz2]; omega) (by unfold maxLen; omega) (Nat.le_refl _) ?_)
  intro w1 hown hgr
  have hb1 := (Below.refl w.heap.size w).grown hgr (Nat.le_refl _) (fun k hk => by cases hk)
  have hf := Fill.start (flat_len StrE.len l) hown
  clear hown hgr
  go_wp2_with fail
  go_loopw [4] (fun i wr => ∃ k : Nat, k ≤ l.length ∧ i = .int .i64 k ∧ Below w.heap.size w wr ∧ Fill wr w.heap.size 9 1 (.slice (some ⟨w.heap.size, 0, none⟩) l.length l.length) l.length (l.flatMap StrE.enc) k) (fun i _ => l.length - (intOf i).toNat)
  case atStart => exact ⟨0, Nat.zero_le _, rfl, hb1, hf⟩
  case round =>
    obtain ⟨k, hk, rfl, hb, hfk⟩ := hrel
    by_cases hlt : k < l.length
    · obtain ⟨rfl, hbw, c0⟩ := StrE.at (hc.mono hb) k hlt
      have hg := hfk.lt.2
      obtain ⟨u0, d0⟩ := hfk.cell (k) (by omega)
      have z0 := hfk.frozen (k)
      have f0 := Lib.hid (flat_get StrE.len l k 0 hlt (by omega))
      rw [Nat.mul_one, Nat.add_zero] at f0
      go_wp2_with fail
      go_roundw
      case rel =>
        refine ⟨k + 1, by omega, by go_num, ?_, ?_⟩
        · exact (hb.setCell (Nat.le_refl _) _)
        · exact (hfk).step f0.out
      case measure => simp [intOf]; omega
    · go_wp2_with fail
      go_ret
      exact ⟨_, rfl, hfk.all (by omega), hb⟩

set_option maxHeartbeats 1000000 in
theorem eqStringS_c (v v' : Value) (l : List ByteArray) (w : World) (h : Sl w StrE.enc 1 v l) (h' : Sl w StrE.enc 1 v' l) : Calls Tryd.prog 23 #[v, v'] w fun e w' =>
    e = .returned (.bool true) ∧ Below w.heap.size w w' := by
  obtain ⟨a, cap, b, off, rfl, hlc, hm, hc⟩ := h
  obtain ⟨a', cap', b', off', rfl, hlc', hm', hc'⟩ := h'
  unfold maxLen at hm hm'
  go_enter Tryd.func23, Tryd.ntmps23
  go_wp2_with fail
  go_loopw [5] (fun i wr => ∃ k : Nat, k ≤ l.length ∧ i = .int .i64 k ∧ Below w.heap.size w wr) (fun i _ => l.length - (intOf i).toNat)
  case atStart => exact ⟨0, Nat.zero_le _, rfl, Below.refl _ _⟩
  case round =>
    obtain ⟨k, hk, rfl, hb⟩ := hrel
    by_cases hlt : k < l.length
    · obtain ⟨rfl, hbw, c0⟩ := StrE.at (hc.mono hb) k hlt
      obtain ⟨rfl, hbw', c0'⟩ := StrE.at (hc'.mono hb) k hlt
      go_wp2_with fail
      refine wp_region_ext (by kernel_rfl) (by kernel_rfl) ?_
      repeat (any_goals (first | go_big_quiet_step (fail)))
      refine wpQuiet_nil ?_
      rintro _ ⟨q, rfl⟩
      go_wp2_with fail
      go_roundw
      case rel => exact ⟨k + 1, by omega, by go_num, bext hb hb.size _⟩
      case measure => simp [intOf]; omega
    · go_wp2_with fail
      go_ret
      exact ⟨rfl, hb⟩

structure Crd where
  id : Int
  yr : Int
  a : Option Addr
  cap : Nat
  sub : List ByteArray
instance : Inhabited Crd := ⟨⟨0, 0, none, 0, []⟩⟩
def Crd.enc (x : Crd) : List Value := [.int .i64 x.id, .int .i64 x.yr, .slice x.a x.sub.length x.cap]
theorem Crd.len (x : Crd) : x.enc.length = 3 := rfl
theorem Crd.one (x : Crd) : ∀ u ∈ x.enc, u.oneCell' = true := fun u hu => by simp [Crd.enc] at hu; rcases hu with hu | hu | hu <;> (subst hu; rfl)
theorem Crd.at {w : World} {a : Option Addr} {b off : Nat} {l : List Crd} (h : Cells w Crd.enc 3 a b off l) (i : Nat) (hi : i < l.length) : a = some ⟨b, off, none⟩ ∧ b < w.heap.size ∧
    w.cell? ⟨b, off + i * 3, none⟩ = some (.int .i64 (gd l i).id) ∧
    w.cell? ⟨b, off + i * 3 + 1, none⟩ = some (.int .i64 (gd l i).yr) ∧
    w.cell? ⟨b, off + i * 3 + 2, none⟩ = some (.slice (gd l i).a (gd l i).sub.length (gd l i).cap) := by
  obtain ⟨ha, hb, c⟩ := h i hi
  exact ⟨ha, hb, c 0 _ rfl, c 1 _ rfl, c 2 _ rfl⟩

/-- what the slice in x reads as -/
def Crd.In (w : World) (x : Crd) : Prop := Sl w StrE.enc 1 (.slice x.a x.sub.length x.cap) x.sub
theorem Crd.In.mono {w w' : World} {x : Crd} (h : x.In w) (hb : Below w.heap.size w w') : x.In w' := Sl.mono h hb
def Crd.Deep (w : World) (l : List Crd) : Prop := ∀ i, i < l.length → (gd l i).In w
theorem Crd.Deep.mono {w w' : World} {l : List Crd} (h : Crd.Deep w l) (hb : Below w.heap.size w w') : Crd.Deep w' l := fun i hi => (h i hi).mono hb
def Crd.bare (x : Crd) : Crd := { x with a := none, cap := 0 }
def Crd.Short (x : Crd) : Prop := StrE.Short x.sub
def Crd.Fits (x : Crd) : Prop := StrE.Fits x.sub
theorem Crd.sub_eq {x y : Crd} (h : x.bare = y.bare) : x.id = y.id ∧ x.yr = y.yr ∧ x.sub = y.sub := by
  simp only [Crd.bare, Crd.mk.injEq] at h
  simp_all
theorem Crd.fits {l l' : List Crd} (h : l'.map Crd.bare = l.map Crd.bare) (hf : ∀ i, i < l.length → (gd l i).Fits) : ∀ i, i < l'.length → (gd l' i).Fits := fun i hi => by
  have hl : l'.length = l.length := by simpa using congrArg List.length h
  have e := (map_same_at h i (by omega)).2
  have := hf i (by omega)
  exact (congrArg Crd.Fits e : (gd l' i).bare.Fits = (gd l i).bare.Fits) ▸ this
/-- a call that hands back a struct with a slice of its own -/
def Crd.Ret (w : World) (x : Crd) (e : Ending) (w' : World) : Prop := ∃ (a' : Option Addr) (cap' : Nat), e = .returned (.agg #[.int .i64 x.id, .int .i64 x.yr, .slice a' x.sub.length cap']) ∧ Own w' w.heap.size 9 StrE.enc 1 (.slice a' x.sub.length cap') x.sub ∧ Below w.heap.size w w'
/-- a slice of the call's own, each of its elements with a slice of its own -/
def Crd.OwnS (w : World) (lo : Nat) (v : Value) (l : List Crd) : Prop := Own w lo 24 Crd.enc 3 v l ∧ ∃ g, lo ≤ g ∧ g < w.heap.size ∧ (∀ b, v.ownBlock = some b → b = g) ∧
  (∀ i, i < l.length → Own w (g + 1) 9 StrE.enc 1 (.slice (gd l i).a (gd l i).sub.length (gd l i).cap) (gd l i).sub) ∧
  ∀ i j b b', i < j → j < l.length → (Value.slice (gd l i).a (gd l i).sub.length (gd l i).cap).ownBlock = some b → (Value.slice (gd l j).a (gd l j).sub.length (gd l j).cap).ownBlock = some b' → b < b'
theorem Crd.OwnS.sl {w : World} {lo : Nat} {v : Value} {l : List Crd} (h : Crd.OwnS w lo v l) : Sl w Crd.enc 3 v l := h.1.sl Crd.len
theorem Crd.OwnS.deep {w : World} {lo : Nat} {v : Value} {l : List Crd} (h : Crd.OwnS w lo v l) : Crd.Deep w l := fun i hi => by
  obtain ⟨g, _, _, _, h2, _⟩ := h.2
  exact (h2 i hi).sl StrE.len
theorem Crd.OwnS.mono {w w' : World} {lo : Nat} {v : Value} {l : List Crd} (h : Crd.OwnS w lo v l) (hb : Below w.heap.size w w') : Crd.OwnS w' lo v l := by
  obtain ⟨h1, g, h2, h3, h4, h5, h6⟩ := h
  exact ⟨h1.mono hb, g, h2, Nat.lt_of_lt_of_le h3 hb.size, h4, fun i hi => (h5 i hi).mono hb, h6⟩
/-- a call that hands back such a slice that reads as l does -/
def Crd.RetS (w : World) (l : List Crd) (e : Ending) (w' : World) : Prop := ∃ (v' : Value) (l' : List Crd), e = .returned v' ∧ Crd.OwnS w' w.heap.size v' l' ∧ l'.map Crd.bare = l.map Crd.bare ∧ Below w.heap.size w w'

set_option maxHeartbeats 1000000 in
theorem szCard_p (x : Crd) (left : Int) (w : World) (h : x.In w) (hf : x.Fits) (h0 : 0 ≤ left) (h1 : left ≤ 1048576) : Calls Tryd.prog 10 #[.agg #[.int .i64 x.id, .int .i64 x.yr, .slice x.a x.sub.length x.cap], .int .i64 left] w (SzPost x.Short left w) := by
  obtain ⟨xid, xyr, xa, xcap, xsub⟩ := x
  dsimp only
  have h' := h
  obtain ⟨_, _, _, _, _, hlc, hm, _⟩ := h'
  have hh := Lib.hid h
  have hff := hf
  unfold Crd.Fits at hff
  dsimp only at hff
  unfold maxLen at hm
  try unfold maxLen at hff
  have HF := Lib.hid (show StrE.Fits xsub from hf)
  clear hff
  clear h hf
  go_enter Tryd.func10, Tryd.ntmps10
  go_wp2_with (go_at_call 26; refine (szStringS_p _ xsub _ _ (hh.out.mono (below_alloc _ _)) HF.out (by omega) (by omega)).mono ?_; rintro e w1 ⟨hb, r, rfl, hr⟩; replace hr := Lib.hid hr; obtain ⟨p, rfl⟩ := ext_of_below hb)
  all_goals go_ret
  all_goals first
    | exact ⟨by first | exact below_alloc _ _ | exact bext (below_alloc _ _) (by simp) _, -1, rfl, .inl rfl⟩
    | (refine ⟨by first | exact below_alloc _ _ | exact bext (below_alloc _ _) (by simp) _, _, rfl, ?_⟩; rcases hr.out with e | ⟨a, b, c⟩; exact .inl e; exact .inr ⟨a, by omega, c⟩)

set_option maxHeartbeats 1000000 in
theorem toCard_p (x : Crd) (w : World) (h : x.In w) (hl : x.sub.length ≤ 1048576) : Calls Tryd.prog 12 #[.agg #[.int .i64 x.id, .int .i64 x.yr, .slice x.a x.sub.length x.cap]] w (x.Ret w) := by
  obtain ⟨xid, xyr, xa, xcap, xsub⟩ := x
  have h0 := Lib.hid (show Sl w StrE.enc 1 (.slice xa xsub.length xcap) xsub from h)
  dsimp only at hl ⊢
  clear h
  go_enter Tryd.func12, Tryd.ntmps12
  go_wp2_with fail
  refine (toStringS_c _ xsub _ (h0.out.mono (btrans (below_alloc _ _) (btrans (below_alloc _ _) (below_alloc _ _)))) hl).mono ?_
  rintro e w1 ⟨v1, rfl, o1, b1⟩
  have hv := o1.sl StrE.len
  obtain ⟨a1, cap1, b1', off1, rfl, _, _, _⟩ := hv
  obtain ⟨p, rfl⟩ := ext_of_below b1
  go_wp2
  go_returns
  refine ⟨_, _, rfl, (o1.rebase (by simp) (by simp)).lower (by simp; omega), ?_⟩
  exact bext (btrans (below_alloc _ _) (btrans (below_alloc _ _) (below_alloc _ _))) (by simp; omega) _

set_option maxHeartbeats 1000000 in
theorem eqCard_p (x y : Crd) (w : World) (h : x.In w) (h' : y.In w) (hb : x.bare = y.bare) : Calls Tryd.prog 7 #[.agg #[.int .i64 x.id, .int .i64 x.yr, .slice x.a x.sub.length x.cap], .agg #[.int .i64 y.id, .int .i64 y.yr, .slice y.a y.sub.length y.cap]] w fun e w' => e = .returned (.bool true) ∧ Below w.heap.size w w' := by
  obtain ⟨yid, yyr, ya, ycap, ysub⟩ := y
  obtain ⟨xid, xyr, xa, xcap, xsub⟩ := x
  have h0 := Lib.hid (show Sl w StrE.enc 1 (.slice xa xsub.length xcap) xsub from h)
  have h0' := Lib.hid (show Sl w StrE.enc 1 (.slice ya ysub.length ycap) ysub from h')
  clear h h'
  simp only [Crd.bare, Crd.mk.injEq] at hb
  obtain ⟨rfl, rfl, _, _, rfl⟩ := hb
  dsimp only
  go_enter Tryd.func7, Tryd.ntmps7
  go_wp2_with (go_at_call 23; refine (eqStringS_c _ _ xsub _ (h0.out.mono (btrans (below_alloc _ _) (below_alloc _ _))) (h0'.out.mono (btrans (below_alloc _ _) (below_alloc _ _)))).mono ?_; rintro e w1 ⟨rfl, hb1⟩; obtain ⟨p, rfl⟩ := ext_of_below hb1)
  go_ret
  exact ⟨rfl, bext (btrans (below_alloc _ _) (below_alloc _ _)) (by simp; omega) _⟩

end Go.Proofs.YtemgcbmcjpgelaaDoor
