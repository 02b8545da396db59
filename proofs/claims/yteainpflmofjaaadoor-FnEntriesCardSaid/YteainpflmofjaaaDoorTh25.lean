/- Groups of entries by title: the groups as numbers; sizes; that they hang on numbers and titles alone; one step by places. No condition. -/
import Derived.Test.YteainpflmofjaaaDoorTg25
import Derived.Test.YteainpflmofjaaaDoorAs25
namespace Go.Proofs.YteainpflmofjaaaDoor
open Go.RowKit
def tgL (l : List Ent) : List (List Int) := (grps l).map (fun q => q.2.map Ent.id)
def tgR (l : List Ent) : List (List Int) := if areEnt l then tgL l else []
theorem tgR_no {l : List Ent} (h : areEnt l = false) : tgR l = [] := by simp [tgR, h]
theorem tgR_yes {l : List Ent} (h : areEnt l = true) : tgR l = tgL l := by simp [tgR, h]
def bG (q : Grp) : Grp := (q.1, q.2.map Ent.bare)
theorem gPut_bare (x : Ent) : ∀ Q : List Grp, gPut x.bare (Q.map bG) = (gPut x Q).map bG
  | [] => rfl
  | (t, E) :: R => by
    have ih := gPut_bare x R
    have e1 : x.bare.ti = x.ti := rfl
    simp only [List.map_cons, bG, gPut, e1]
    split
    · rw [List.map_cons]; congr 1
    · split
      · simp [bG]
      · simp [bG]
theorem grps_bare (l : List Ent) : grps (l.map Ent.bare) = (grps l).map bG := by
  have : ∀ (l : List Ent) (Q : List Grp), (l.map Ent.bare).foldl (fun Q x => gPut x Q) (Q.map bG) = (l.foldl (fun Q x => gPut x Q) Q).map bG := by
    intro l
    induction l with
    | nil => intro Q; rfl
    | cons x l ih => intro Q; simp only [List.map_cons, List.foldl_cons]; rw [gPut_bare, ih]
  exact this l []
theorem tgL_bare (l : List Ent) : tgL (l.map Ent.bare) = tgL l := by
  unfold tgL
  rw [grps_bare, List.map_map]
  apply List.map_congr_left
  intro q _
  simp only [Function.comp, bG, List.map_map]
  apply List.map_congr_left
  intro x _
  rfl
theorem tg_same {l l' : List Ent} (h : l'.map Ent.bare = l.map Ent.bare) : tgR l' = tgR l ∧ areEnt l' = areEnt l := by
  have hA := areEnt_same h
  refine ⟨?_, hA⟩
  unfold tgR
  rw [hA, ← tgL_bare l', h, tgL_bare]
theorem gPut_len (x : Ent) : ∀ (Q : List Grp) (n : Nat), (∀ q, q ∈ Q → q.2.length ≤ n) → (gPut x Q).length ≤ Q.length + 1 ∧ ∀ q, q ∈ gPut x Q → q.2.length ≤ n + 1
  | [], n, _ => by simp [gPut]
  | (t, E) :: R, n, h => by
    obtain ⟨h1, h2⟩ := gPut_len x R n (fun q hq => h q (List.mem_cons_of_mem _ hq))
    have hE := h _ (List.mem_cons_self (a := (t, E)) (l := R))
    have hR : ∀ q, q ∈ R → q.2.length ≤ n + 1 := fun q hq => Nat.le_succ_of_le (h q (List.mem_cons_of_mem _ hq))
    unfold gPut
    split
    · refine ⟨by simp; omega, fun q hq => ?_⟩
      rcases List.mem_cons.1 hq with rfl | hq
      · exact Nat.le_succ_of_le hE
      · exact h2 q hq
    · split
      · refine ⟨by simp, fun q hq => ?_⟩
        rcases List.mem_cons.1 hq with rfl | hq
        · simpa using hE
        · exact hR q hq
      · refine ⟨by simp, fun q hq => ?_⟩
        rcases List.mem_cons.1 hq with rfl | hq
        · simp
        · rcases List.mem_cons.1 hq with rfl | hq
          · exact Nat.le_succ_of_le hE
          · exact hR q hq
theorem grps_len (l : List Ent) : (grps l).length ≤ l.length ∧ ∀ q, q ∈ grps l → q.2.length ≤ l.length := by
  have : ∀ (l : List Ent) (Q : List Grp) (n : Nat), Q.length ≤ n → (∀ q, q ∈ Q → q.2.length ≤ n) → (l.foldl (fun Q x => gPut x Q) Q).length ≤ n + l.length ∧ ∀ q, q ∈ l.foldl (fun Q x => gPut x Q) Q → q.2.length ≤ n + l.length := by
    intro l
    induction l with
    | nil => intro Q n h1 h2; exact ⟨by simpa using h1, by simpa using h2⟩
    | cons x l ih =>
      intro Q n h1 h2
      obtain ⟨g1, g2⟩ := gPut_len x Q n h2
      have := ih (gPut x Q) (n + 1) (by omega) g2
      simpa [Nat.add_assoc, Nat.add_comm 1] using this
  have h := this l [] 0 (Nat.le_refl _) (by simp)
  rw [Nat.zero_add] at h
  exact h
theorem tgB_bound (l : List Ent) : (tgR l).length ≤ 1048577 ∧ ∀ x, x ∈ tgR l → x.length ≤ 1048577 := by
  unfold tgR
  split
  · rename_i h
    have h12 := areEnt_len h
    obtain ⟨h1, h2⟩ := grps_len l
    refine ⟨by simp [tgL]; omega, fun x hx => ?_⟩
    obtain ⟨q, hq, rfl⟩ := List.mem_map.1 hx
    have := h2 q hq
    simp; omega
  · simp
/-! ### one step by places -/
/-- the place of the first title that is not less -/
def tPos (T : List ByteArray) (t : ByteArray) : Nat := (findTo (fun i => !tlt (gd T i) t) T.length).getD T.length
theorem tPos_stop {T : List ByteArray} {t : ByteArray} {k : Nat} (hk : k < T.length) (h1 : ∀ i, i < k → tlt (gd T i) t = true) (h2 : tlt (gd T k) t = false) : tPos T t = k := by
  unfold tPos
  rw [findTo_some (k := k) (fun i hi => by simp [h1 i hi]) (by simp [h2]) hk]; rfl
theorem tPos_end {T : List ByteArray} {t : ByteArray} (h1 : ∀ i, i < T.length → tlt (gd T i) t = true) : tPos T t = T.length := by
  unfold tPos
  rw [findTo_none (fun i hi => by simp [h1 i hi])]; rfl
theorem tPos_spec (T : List ByteArray) (t : ByteArray) : tPos T t ≤ T.length ∧ (∀ i, i < tPos T t → tlt (gd T i) t = true) ∧ (tPos T t < T.length → tlt (gd T (tPos T t)) t = false) := by
  unfold tPos
  cases h : findTo (fun i => !tlt (gd T i) t) T.length with
  | none =>
    have := findTo_none_spec h
    exact ⟨Nat.le_refl _, fun i hi => by simpa using this i hi, fun hl => absurd hl (Nat.lt_irrefl _)⟩
  | some k =>
    obtain ⟨h1, h2, h3⟩ := findTo_spec h
    exact ⟨Nat.le_of_lt h1, fun i hi => by simpa using h3 i hi, fun _ => by simpa using h2⟩
theorem gd_map {α β : Type} [Inhabited α] [Inhabited β] (f : α → β) {l : List α} {i : Nat} (h : i < l.length) : gd (l.map f) i = f (gd l i) := by
  rw [gd_get h, gd_get (by simpa using h), List.getElem_map]
theorem gPut_hit (x : Ent) (Q : List Grp) (hk : tPos (Q.map (·.1)) x.ti < Q.length) (he : gd (Q.map (·.1)) (tPos (Q.map (·.1)) x.ti) = x.ti) :
    gPut x Q = Q.set (tPos (Q.map (·.1)) x.ti) ((gd Q (tPos (Q.map (·.1)) x.ti)).1, (gd Q (tPos (Q.map (·.1)) x.ti)).2 ++ [x]) := by
  obtain ⟨h1, h2, h3⟩ := tPos_spec (Q.map (·.1)) x.ti
  generalize tPos (Q.map (·.1)) x.ti = k at *
  rw [List.length_map] at h1 h3
  have h3 := h3 hk
  rw [gd_map _ hk] at h3 he
  rw [gPut_at x Q k h1 (fun i hi q hq => by
    have := h2 i hi
    rw [gd_map _ (by omega), gd_get (by omega)] at this
    rw [List.getElem?_eq_getElem (by omega)] at hq
    rw [← Option.some.inj hq]; exact this) (fun q hq => by
    rw [gd_eq hk] at hq
    rw [← Option.some.inj hq]; exact h3)]
  rw [gd_eq hk]
  dsimp only
  rw [if_pos he]
theorem gPut_new (x : Ent) (Q : List Grp) (he : tPos (Q.map (·.1)) x.ti < Q.length → gd (Q.map (·.1)) (tPos (Q.map (·.1)) x.ti) ≠ x.ti) :
    gPut x Q = Q.take (tPos (Q.map (·.1)) x.ti) ++ [(x.ti, [x])] ++ Q.drop (tPos (Q.map (·.1)) x.ti) := by
  obtain ⟨h1, h2, h3⟩ := tPos_spec (Q.map (·.1)) x.ti
  generalize tPos (Q.map (·.1)) x.ti = k at *
  rw [List.length_map] at h1 h3
  rw [gPut_at x Q k h1 (fun i hi q hq => by
    have := h2 i hi
    rw [gd_map _ (by omega), gd_get (by omega)] at this
    rw [List.getElem?_eq_getElem (by omega)] at hq
    rw [← Option.some.inj hq]; exact this) (fun q hq => by
    have hk : k < Q.length := (List.getElem?_eq_some_iff.1 hq).1
    have h3 := h3 hk
    rw [gd_map _ hk] at h3
    rw [gd_eq hk] at hq
    rw [← Option.some.inj hq]; exact h3)]
  by_cases hk : k < Q.length
  · have he := he hk
    rw [gd_map _ hk] at he
    rw [gd_eq hk]
    dsimp only
    rw [if_neg he]
  · obtain rfl : k = Q.length := by omega
    rw [List.getElem?_eq_none (Nat.le_refl _)]
    simp
/-- the titles, and the numbers, behind i entries -/
def gT (Q : List Grp) : List ByteArray := Q.map (·.1)
def gS (Q : List Grp) : List (List Int) := Q.map (fun q => q.2.map Ent.id)
def tT (l : List Ent) (i : Nat) : List ByteArray := gT (grps (l.take i))
def tS (l : List Ent) (i : Nat) : List (List Int) := gS (grps (l.take i))
theorem tT_zero (l : List Ent) : tT l 0 = [] ∧ tS l 0 = [] := ⟨rfl, rfl⟩
theorem tS_all (l : List Ent) : tS l l.length = tgL l := by rw [tS, List.take_length]; rfl
theorem tT_len (l : List Ent) (i : Nat) : (tT l i).length = (tS l i).length ∧ (tS l i).length ≤ i ∧ ∀ k, k < (tS l i).length → (gd (tS l i) k).length ≤ i := by
  obtain ⟨h1, h2⟩ := grps_len (l.take i)
  have h3 : (l.take i).length ≤ i := by simp; omega
  refine ⟨by simp [tT, tS, gT, gS], by simp [tS, gS]; omega, fun k hk => ?_⟩
  have hk' : k < (grps (l.take i)).length := by simpa [tS, gS] using hk
  rw [tS, gS, gd_map _ hk', List.length_map]
  have := h2 (gd (grps (l.take i)) k) (by rw [gd_get hk']; exact List.getElem_mem hk')
  omega
theorem grps_step {l : List Ent} {i : Nat} (hi : i < l.length) : grps (l.take (i + 1)) = gPut (gd l i) (grps (l.take i)) := by
  rw [take_succ_gd hi, grps_push]
theorem t_hit {l : List Ent} {i : Nat} (hi : i < l.length) (hk : tPos (tT l i) (gd l i).ti < (tT l i).length) (he : gd (tT l i) (tPos (tT l i) (gd l i).ti) = (gd l i).ti) :
    tT l (i + 1) = tT l i ∧ tS l (i + 1) = (tS l i).set (tPos (tT l i) (gd l i).ti) (gd (tS l i) (tPos (tT l i) (gd l i).ti) ++ [(gd l i).id]) := by
  have hk' : tPos (tT l i) (gd l i).ti < (grps (l.take i)).length := by simpa [tT, gT] using hk
  have h := gPut_hit (gd l i) (grps (l.take i)) hk' he
  have e : tPos ((grps (l.take i)).map (·.1)) (gd l i).ti = tPos (tT l i) (gd l i).ti := rfl
  rw [e] at h
  generalize tPos (tT l i) (gd l i).ti = k at *
  unfold tT tS
  rw [grps_step hi, h]
  constructor
  · unfold gT
    rw [List.map_set]
    apply List.ext_getElem?
    intro m
    rw [List.getElem?_set]
    split
    · rename_i e2
      subst e2
      rw [if_pos (by simpa using hk'), List.getElem?_map, gd_eq hk']
      rfl
    · rfl
  · unfold gS
    rw [List.map_set, gd_map _ hk', List.map_append]
    rfl
theorem t_new {l : List Ent} {i : Nat} (hi : i < l.length) (he : tPos (tT l i) (gd l i).ti < (tT l i).length → gd (tT l i) (tPos (tT l i) (gd l i).ti) ≠ (gd l i).ti) :
    tT l (i + 1) = (tT l i).take (tPos (tT l i) (gd l i).ti) ++ [(gd l i).ti] ++ (tT l i).drop (tPos (tT l i) (gd l i).ti) ∧ tS l (i + 1) = (tS l i).take (tPos (tT l i) (gd l i).ti) ++ [[(gd l i).id]] ++ (tS l i).drop (tPos (tT l i) (gd l i).ti) := by
  have h := gPut_new (gd l i) (grps (l.take i)) (fun hk => he (by simpa [tT, gT] using hk))
  have e : tPos ((grps (l.take i)).map (·.1)) (gd l i).ti = tPos (tT l i) (gd l i).ti := rfl
  rw [e] at h
  generalize tPos (tT l i) (gd l i).ti = k at *
  unfold tT tS
  rw [grps_step hi, h]
  constructor
  · simp [gT, List.map_take, List.map_drop]
  · simp [gS, List.map_take, List.map_drop]
end Go.Proofs.YteainpflmofjaaaDoor
