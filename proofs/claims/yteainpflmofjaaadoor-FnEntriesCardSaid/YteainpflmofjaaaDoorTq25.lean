/- Entries: the groups of the same title, what is general. -/
import Derived.Test.YteainpflmofjaaaDoorTh25
import Derived.Test.YteainpflmofjaaaDoorGd
import Derived.Test.YteainpflmofjaaaDoorSd
import Derived.Test.YteainpflmofjaaaDoorCk
import Derived.Test.YteainpflmofjaaaDoorStep
import Derived.Test.YteainpflmofjaaaDoorOw
namespace Go.Proofs.YteainpflmofjaaaDoor
open Go.RowKit
section
variable {α β : Type} [Inhabited α] {tE tI : TypeId} {enc : α → List Value} {K : Nat} {encI : β → List Value} {hv : α → Value} {sub : α → List β}
theorem gd_ins {l : List α} {k : Nat} {y : α} (hk : k ≤ l.length) (i : Nat) : gd (l.take k ++ [y] ++ l.drop k) i = if i < k then gd l i else if i = k then y else gd l (i - 1) := by
  have hlt : (l.take k).length = k := by simp; omega
  split
  · rename_i h
    unfold gd List.getD
    rw [List.append_assoc, List.getElem?_append_left (by omega), List.getElem?_take, if_pos h]
  · split
    · rename_i h1 h
      subst h
      have : (l.take i ++ [y] ++ l.drop i)[i]? = some y := by
        rw [List.append_assoc, List.getElem?_append_right (by omega), hlt]; simp
      unfold gd List.getD
      rw [this]; rfl
    · rename_i h1 h2
      unfold gd List.getD
      have : (l.take k ++ [y] ++ l.drop k)[i]? = l[i - 1]? := by
        rw [List.append_assoc, List.getElem?_append_right (by omega), hlt, List.getElem?_append_right (by simp; omega), List.getElem?_drop]
        simp only [List.length_singleton]
        congr 1; omega
      rw [this]
/-- a copy of the outer slice with one element put in; the new outer slice and the new element's slice lie in new memory -/
theorem NOwn.insert {W W' : World} {lo H : Nat} {v v' : Value} {l : List α} {y : α} {k : Nat} (h : NOwn W lo H tE enc K tI encI hv sub v l) (hk : k ≤ l.length) (hb : Below W.heap.size W W') (hlo : lo ≤ W.heap.size) (hH : H ≤ W.heap.size)
    (ho : Own W' W.heap.size tE enc K v' (l.take k ++ [y] ++ l.drop k)) (hy : Own W' W.heap.size tI encI 1 (hv y) (sub y)) (hne : ∀ b, (hv y).ownBlock = some b → v'.ownBlock ≠ some b) :
    NOwn W' lo W'.heap.size tE enc K tI encI hv sub v' (l.take k ++ [y] ++ l.drop k) := by
  have hlen : (l.take k ++ [y] ++ l.drop k).length = l.length + 1 := by simp; omega
  have old : ∀ m, m < l.length → Own W' lo tI encI 1 (hv (gd l m)) (sub (gd l m)) ∧ ∀ b, (hv (gd l m)).ownBlock = some b → b < W.heap.size := fun m hm => by
    obtain ⟨h1, h2⟩ := h.2.2.1 m hm
    exact ⟨h1.mono hb, fun b hbb => Nat.lt_of_lt_of_le (h2 b hbb).1 hH⟩
  refine ⟨ho.lower hlo, fun b hbb => (ho.bounds b hbb).2, fun i hi => ?_, fun i j b hij hj => ?_⟩
  · rw [hlen] at hi
    have oldc : ∀ m, m < l.length → Own W' lo tI encI 1 (hv (gd l m)) (sub (gd l m)) ∧ ∀ b, (hv (gd l m)).ownBlock = some b → b < W'.heap.size ∧ v'.ownBlock ≠ some b := fun m hm => by
      obtain ⟨h1, h2⟩ := old m hm
      refine ⟨h1, fun b hbb => ⟨(h1.bounds b hbb).2, fun e => ?_⟩⟩
      have h3 := (ho.bounds b e).1
      have h4 := h2 b hbb
      omega
    rw [gd_ins hk]
    split
    · exact oldc i (by omega)
    · split
      · exact ⟨hy.lower hlo, fun b hbb => ⟨(hy.bounds b hbb).2, hne b hbb⟩⟩
      · exact oldc (i - 1) (by omega)
  · rw [hlen] at hj
    rw [gd_ins hk, gd_ins hk]
    have newO : ∀ m, m < l.length → ∀ b, (hv y).ownBlock = some b → (hv (gd l m)).ownBlock ≠ some b := fun m hm b hbb e => by
      have h1 := (hy.bounds b hbb).1
      have h2 := (old m hm).2 b e
      omega
    split
    · rename_i h1
      split
      · exact h.2.2.2 i j b hij (by omega)
      · split
        · exact fun e e2 => newO i (by omega) b e2 e
        · exact h.2.2.2 i (j - 1) b (by omega) (by omega)
    · split
      · rename_i h1 h2
        rw [if_neg (by omega), if_neg (by omega)]
        exact newO (j - 1) (by omega) b
      · rename_i h1 h2
        rw [if_neg (by omega), if_neg (by omega)]
        exact h.2.2.2 (i - 1) (j - 1) b (by omega) (by omega)
end
/-- blocks of slices of different kinds are different blocks -/
theorem Own.apart {α β : Type} {w : World} {lo lo' : Nat} {e e' : TypeId} {enc : α → List Value} {enc' : β → List Value} {k k' : Nat} {v v' : Value} {l : List α} {l' : List β} (h : Own w lo e enc k v l) (h' : Own w lo' e' enc' k' v' l') (he : e ≠ e') : ∀ b, v.ownBlock = some b → v'.ownBlock ≠ some b := fun b h1 h2 => by
  rcases h.2 with ⟨rfl, -⟩ | ⟨g, cap, cur, rfl, -, hg, -⟩
  · cases h1
  · rcases h'.2 with ⟨rfl, -⟩ | ⟨g', cap', cur', rfl, -, hg', -⟩
    · cases h2
    · have e1 : g = b := Option.some.inj h1
      have e2 : g' = b := Option.some.inj h2
      subst e1
      subst e2
      rw [hg] at hg'
      have h3 := Option.some.inj hg'
      injection h3 with _ h4
      exact he h4
theorem Own.made1 {W : World} {lo g : Nat} {e : TypeId} (hg : g = W.heap.size) (h : lo ≤ W.heap.size) (x : Int) : Own (W.alloc (.cells #[.int .i64 x] e)) lo e IntE.enc 1 (.slice (some ⟨g, 0, none⟩) 1 1) [x] := by
  subst hg
  exact ⟨rfl, .inr ⟨W.heap.size, 1, _, rfl, h, heap_alloc_new W _, Nat.le_refl _, by simp [maxLen], rfl, rfl⟩⟩
/-- what the loop holds: the groups and the titles -/
def TgI (w wr : World) (o s : Value) (S : List (List Int)) (T : List ByteArray) : Prop := ∃ l' : List Rw, l'.map Rw.sub = S ∧ Rw.OwnN wr w.heap.size wr.heap.size o l' ∧ Own wr w.heap.size 9 StrE.enc 1 s T ∧ Below w.heap.size w wr ∧ (∃ b, o.ownBlock = some b) ∧ ∃ b, s.ownBlock = some b
theorem Own.someForm {α : Type} [Inhabited α] {w : World} {lo : Nat} {e : TypeId} {enc : α → List Value} {k : Nat} (hk : ∀ x, (enc x).length = k) {v : Value} {l : List α} (h : Own w lo e enc k v l) (hs : ∃ b, v.ownBlock = some b) :
    ∃ g cap, v = .slice (some ⟨g, 0, none⟩) l.length cap ∧ l.length ≤ cap ∧ cap ≤ maxLen ∧ Cells w enc k (some ⟨g, 0, none⟩) g 0 l := by
  obtain ⟨a, cap, b, off, hv, h1, h2, hc⟩ := h.sl hk
  rcases h.2 with ⟨rfl, -⟩ | ⟨g, cap', cur, hv', -, -, -⟩
  · obtain ⟨b, hb⟩ := hs; cases hb
  · rw [hv'] at hv
    injection hv with e1 e2 e3
    subst e1 e3
    refine ⟨g, cap', hv', h1, h2, fun i hi => ?_⟩
    obtain ⟨e4, h3, h4⟩ := hc i hi
    injection e4 with e4
    injection e4 with e5 e6
    subst e5 e6
    exact ⟨rfl, h3, h4⟩
theorem Own.someOf {α : Type} [Inhabited α] {w : World} {lo : Nat} {e : TypeId} {enc : α → List Value} {k : Nat} (hk : ∀ x, (enc x).length = k) {v : Value} {l : List α} (h : Own w lo e enc k v l) (h0 : 0 < l.length) : ∃ b, v.ownBlock = some b := by
  obtain ⟨g, cap, rfl, -⟩ := h.form hk h0
  exact ⟨g, rfl⟩
theorem tgY2 {α : Type} {W w2 : World} {lo lo1 Y : Nat} {e e' : TypeId} {enc : α → List Value} {k : Nat} {v : Value} {l : List α} {x : Int} (hy : Own W lo e IntE.enc 1 (.slice (some ⟨Y, 0, none⟩) 1 1) [x]) (oa : Own W lo1 e' enc k v l) (he : e ≠ e') (gb : W.grownBy w2 v.ownBlock) :
    Own w2 lo e IntE.enc 1 (.slice (some ⟨Y, 0, none⟩) 1 1) [x] := by
  refine hy.kept gb ?_
  exact .inr (fun e2 => (Own.apart oa hy (Ne.symm he)) Y e2.symm rfl)
theorem tgY {α : Type} {W w2 : World} {lo lo1 Y : Nat} {e e' : TypeId} {enc : α → List Value} {k : Nat} {v : Value} {l : List α} {x : Int} (oa : Own W lo1 e' enc k v l) (he : e ≠ e') (hb : W.heap[Y]? = some (.cells #[.int .i64 x] e (0, 0))) (hlo : lo ≤ Y) (gb : W.grownBy w2 v.ownBlock) :
    Own w2 lo e IntE.enc 1 (.slice (some ⟨Y, 0, none⟩) 1 1) [x] :=
  tgY2 ⟨rfl, .inr ⟨Y, 1, _, rfl, hlo, hb, Nat.le_refl _, by simp [maxLen], rfl, rfl⟩⟩ oa he gb
theorem tgBlk {W w1 : World} {r : Option Nat} {Y : Nat} {o : Obj} (ga : W.grownBy w1 r) (hY : W.heap[Y]? = some o) (hne : some Y ≠ r) : w1.heap[Y]? = some o :=
  (ga.block Y (Array.getElem?_eq_some_iff.1 hY).1 hne).trans hY
theorem tgBlkA {W w1 : World} {r : Option Nat} {Y : Nat} {o b : Obj} (ga : W.grownBy w1 r) (hY : W.heap[Y]? = some o) (hne : some Y ≠ r) : (w1.alloc b).heap[Y]? = some o := by
  have h := tgBlk ga hY hne
  exact ((below_alloc w1 b).block Y (Array.getElem?_eq_some_iff.1 h).1).trans h
theorem tgDr {W : World} {Y : Nat} {o : Obj} (h : W.heap[Y]? = some o) : W.drew.heap[Y]? = some o := h
theorem tgA0 {W : World} {Y : Nat} {o : Obj} (h : Y = W.heap.size) : (W.alloc o).heap[Y]? = some o := by subst h; exact heap_alloc_new W o
theorem tgAs {W : World} {Y : Nat} {o b : Obj} (h : W.heap[Y]? = some o) : (W.alloc b).heap[Y]? = some o := ((below_alloc W b).block Y (Array.getElem?_eq_some_iff.1 h).1).trans h
theorem cellH {W : World} {b : Nat} {v : Value} {t : TypeId} (h : W.heap[b]? = some (.cells #[v] t (0, 0))) : W.cell? ⟨b, 0, none⟩ = some v := by
  rw [cell_of_row W b 0 _ t (0, 0) h]; rfl
/-- out[k] = append(out[k], n) -/
theorem tg_put {w W W3 : World} {g n oc k hi cap3 : Nat} {a3 : Option Addr} {s : Value} {T : List ByteArray} {S : List (List Int)} {l' : List Rw} {X : Rw} {x : Int} (hO : Rw.OwnN W w.heap.size hi (.slice (some ⟨g, 0, none⟩) n oc) l') (hk : k < l'.length) (hX : gd l' k = X)
    (ho3 : Own W3 w.heap.size 3 IntE.enc 1 (.slice a3 (X.sub ++ [x]).length cap3) (X.sub ++ [x])) (hg3 : W.grownBy W3 (Rw.hv X).ownBlock) (hat3 : (Value.slice a3 (X.sub ++ [x]).length cap3).ownBlock = (Rw.hv X).ownBlock ∨ (Value.slice a3 (X.sub ++ [x]).length cap3).ownBlock = some W.heap.size)
    (hT : Own W w.heap.size 9 StrE.enc 1 s T) (hB : Below w.heap.size w W) (hhi : hi ≤ W.heap.size) (hl : l'.map Rw.sub = S) (hsb : ∃ b, s.ownBlock = some b) :
    TgI w (W3.setCell ⟨g, k, none⟩ (.slice a3 (X.sub.length + 1) cap3)) (.slice (some ⟨g, 0, none⟩) n oc) s (S.set k (X.sub ++ [x])) T := by
  subst hX
  have hlen : ((gd l' k).sub ++ [x]).length = (gd l' k).sub.length + 1 := by simp
  have N := NOwn.regrow Rw.len (NOwn.wide hO (Nat.le_refl _) hhi) k hk ⟨a3, cap3, (gd l' k).sub ++ [x]⟩ 0 (by omega) (.slice a3 ((gd l' k).sub ++ [x]).length cap3) rfl hat3 ho3 hg3
  rw [Nat.mul_one, Nat.add_zero, hlen] at N
  have hI := hO.inn k hk
  have hT3 : Own W3 w.heap.size 9 StrE.enc 1 s T := hT.kept hg3 (by
    cases hb : (Rw.hv (gd l' k)).ownBlock with
    | none =>
      cases hs : s.ownBlock with
      | none => exact .inl rfl
      | some b => exact .inr (by simp)
    | some b =>
      refine .inr fun e => ?_
      exact Own.apart hI hT (by decide) b hb e)
  have hO3 : Own W3 w.heap.size 49 Rw.enc 1 (.slice (some ⟨g, 0, none⟩) n oc) l' := hO.own.kept hg3 (by
    cases hb : (Rw.hv (gd l' k)).ownBlock with
    | none => exact .inr (by simp [Value.ownBlock])
    | some b => exact .inr (fun e => Own.apart hI hO.own (by decide) b hb e))
  have hs : W3.grownBy (W3.setCell ⟨g, k, none⟩ (.slice a3 ((gd l' k).sub.length + 1) cap3)) (some g) := only_setCell (World.grownBy.refl _ _) _ rfl _
  have hT4 : Own (W3.setCell ⟨g, k, none⟩ (.slice a3 ((gd l' k).sub.length + 1) cap3)) w.heap.size 9 StrE.enc 1 s T := hT3.kept hs (by
    cases hb : s.ownBlock with
    | none => exact .inl rfl
    | some b => exact .inr (fun e => Own.apart hO3 hT3 (by decide) g rfl (by rw [hb]; exact e)))
  refine ⟨l'.set k ⟨a3, cap3, (gd l' k).sub ++ [x]⟩, by rw [List.map_set, hl], N.tight, hT4, ?_, ⟨g, rfl⟩, hsb⟩
  refine Below.setCell (hB.grown hg3 hB.size (fun q hq => (hI.bounds q hq).1)) ?_ _
  exact (hO.own.bounds g rfl).1
theorem tg_ins {w W W3 : World} {o v3 : Value} {l' : List Rw} {Y k : Nat} {x : Int} (hO : Rw.OwnN W w.heap.size W.heap.size o l') (hk : k ≤ l'.length) (hb : Below W.heap.size W W3) (hz : w.heap.size ≤ W.heap.size)
    (oc : Own W3 W.heap.size 49 Rw.enc 1 v3 ((([] ++ l'.take k) ++ [⟨some ⟨Y, 0, none⟩, 1, [x]⟩]) ++ l'.drop k)) (hy : Own W3 W.heap.size 3 IntE.enc 1 (.slice (some ⟨Y, 0, none⟩) 1 1) [x]) :
    ∃ l2 : List Rw, l2.map Rw.sub = (l'.map Rw.sub).take k ++ [[x]] ++ (l'.map Rw.sub).drop k ∧ Rw.OwnN W3 w.heap.size W3.heap.size v3 l2 := by
  rw [List.nil_append] at oc
  exact ⟨_, by simp [List.map_take, List.map_drop], NOwn.insert hO hk hb hz (Nat.le_refl _) oc hy (fun b hb2 => Own.apart hy oc (by decide) b hb2)⟩
/-- the last of one element's slice: grown, its header with it -/
theorem rw_put {w W W3 : World} {g n oc k lo hi cap3 : Nat} {a3 : Option Addr} {l' : List Rw} {X : Rw} {x : Int} (hO : Rw.OwnN W lo hi (.slice (some ⟨g, 0, none⟩) n oc) l') (hk : k < l'.length) (hX : gd l' k = X)
    (ho3 : Own W3 lo 3 IntE.enc 1 (.slice a3 (X.sub ++ [x]).length cap3) (X.sub ++ [x])) (hg3 : W.grownBy W3 (Rw.hv X).ownBlock) (hat3 : (Value.slice a3 (X.sub ++ [x]).length cap3).ownBlock = (Rw.hv X).ownBlock ∨ (Value.slice a3 (X.sub ++ [x]).length cap3).ownBlock = some W.heap.size)
    (hB : Below lo w W) (hlo : lo ≤ W.heap.size) (hhi : hi ≤ W.heap.size) :
    Rw.OwnN (W3.setCell ⟨g, k, none⟩ (.slice a3 (X.sub.length + 1) cap3)) lo (W3.setCell ⟨g, k, none⟩ (.slice a3 (X.sub.length + 1) cap3)).heap.size (.slice (some ⟨g, 0, none⟩) n oc) (l'.set k ⟨a3, cap3, X.sub ++ [x]⟩) ∧
      Below lo w (W3.setCell ⟨g, k, none⟩ (.slice a3 (X.sub.length + 1) cap3)) := by
  subst hX
  have hlen : ((gd l' k).sub ++ [x]).length = (gd l' k).sub.length + 1 := by simp
  have N := NOwn.regrow Rw.len (NOwn.wide hO (Nat.le_refl _) hhi) k hk ⟨a3, cap3, (gd l' k).sub ++ [x]⟩ 0 (by omega) (.slice a3 ((gd l' k).sub ++ [x]).length cap3) rfl hat3 ho3 hg3
  rw [Nat.mul_one, Nat.add_zero, hlen] at N
  have hI := hO.inn k hk
  exact ⟨N.tight, Below.setCell (hB.grown hg3 hlo (fun q hq => (hI.bounds q hq).1)) (hO.own.bounds g rfl).1 _⟩
/-- where the header lies behind the growth of an element's slice -/
theorem rw_cell {W w3 : World} {g n oc k lo hi : Nat} {l' : List Rw} {X : Rw} (hO : Rw.OwnN W lo hi (.slice (some ⟨g, 0, none⟩) n oc) l') (hk : k < l'.length) (hX : gd l' k = X) (hg : W.grownBy w3 (Rw.hv X).ownBlock) : g < w3.heap.size ∧ w3.frozen? ⟨g, k, none⟩ = false ∧ w3.cell? ⟨g, k, none⟩ = some (.slice X.a X.sub.length X.cap) := by
  subst hX
  have h2 : Own w3 lo 49 Rw.enc 1 (.slice (some ⟨g, 0, none⟩) n oc) l' := hO.own.kept hg (by
    cases hbv : (Rw.hv (gd l' k)).ownBlock with
    | none => exact .inr (by simp [Value.ownBlock])
    | some q => exact .inr (fun e => Own.apart (hO.inn k hk) hO.own (by decide) q hbv e))
  obtain ⟨g', oc', hv', -, hg3, -, -, hfz, hcc⟩ := h2.form Rw.len (by omega)
  have e1 : g = g' := by injection hv' with e1; injection e1 with e1; injection e1
  subst e1
  have h3 := (Rw.at hcc k hk).2.2
  rw [Nat.zero_add] at h3
  exact ⟨hg3, hfz k, h3⟩
end Go.Proofs.YteainpflmofjaaaDoor
