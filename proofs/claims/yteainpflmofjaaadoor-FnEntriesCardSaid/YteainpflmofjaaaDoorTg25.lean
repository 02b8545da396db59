/- Groups of entries by title: plain law (a stable sort and its runs; a list of titles kept in order). No condition. -/
import Derived.Test.YteainpflmofjaaaDoorEp25
import Derived.Test.YteainpflmofjaaaDoorIns
import Derived.Test.YteainpflmofjaaaDoorWd
namespace Go.Proofs.YteainpflmofjaaaDoor
open Go.RowKit
def tlt (a b : ByteArray) : Bool := Op.bytesLess a.toList b.toList
theorem tlt_irrefl (a : ByteArray) : tlt a a = false := less_irrefl _
theorem tlt_trans {a b c : ByteArray} (h : tlt a b = true) (h' : tlt b c = true) : tlt a c = true := less_trans h h'
theorem toList_inj {a b : ByteArray} (h : a.toList = b.toList) : a = b := by
  apply ByteArray.ext
  apply Array.toList_inj.1
  rwa [ByteArray.toList_eq, ByteArray.toList_eq] at h
theorem tlt_tri (a b : ByteArray) : tlt a b = true ∨ a = b ∨ tlt b a = true := by
  have h := leq_not a.toList b.toList
  cases h1 : Op.bytesLess a.toList b.toList
  · cases h2 : Op.bytesLess b.toList a.toList
    · rw [h1, h2] at h
      exact .inr (.inl (toList_inj (by simpa using h)))
    · exact .inr (.inr h2)
  · exact .inl h1
theorem tlt_asymm {a b : ByteArray} (h : tlt a b = true) : tlt b a = false := by
  cases h' : tlt b a
  · rfl
  · have := tlt_trans h h'
    rw [tlt_irrefl] at this; cases this
/-- groups: a title and the entries that bear it -/
abbrev Grp := ByteArray × List Ent
/-- x is put among the groups -/
def gPut (x : Ent) : List Grp → List Grp
  | [] => [(x.ti, [x])]
  | (t, E) :: R => if tlt t x.ti then (t, E) :: gPut x R else if t = x.ti then (t, E ++ [x]) :: R else (x.ti, [x]) :: (t, E) :: R
def grps (l : List Ent) : List Grp := l.foldl (fun Q x => gPut x Q) []
theorem grps_push (l : List Ent) (x : Ent) : grps (l ++ [x]) = gPut x (grps l) := by simp [grps]
structure Good (Q : List Grp) : Prop where
  asc : Q.Pairwise (fun a b => tlt a.1 b.1 = true)
  own : ∀ q, q ∈ Q → q.2 ≠ [] ∧ ∀ e, e ∈ q.2 → e.ti = q.1
theorem gPut_mem {x : Ent} : ∀ {Q : List Grp} {q : Grp}, q ∈ gPut x Q → q.1 = x.ti ∨ ∃ p, p ∈ Q ∧ q.1 = p.1
  | [], q, h => by simp [gPut] at h; subst h; exact .inl rfl
  | (t, E) :: R, q, h => by
    unfold gPut at h
    split at h
    · rcases List.mem_cons.1 h with rfl | h
      · exact .inr ⟨_, List.mem_cons_self, rfl⟩
      · rcases gPut_mem h with h | ⟨p, h1, h2⟩
        · exact .inl h
        · exact .inr ⟨p, List.mem_cons_of_mem _ h1, h2⟩
    · split at h
      · rcases List.mem_cons.1 h with rfl | h
        · exact .inr ⟨_, List.mem_cons_self, rfl⟩
        · exact .inr ⟨_, List.mem_cons_of_mem _ h, rfl⟩
      · rcases List.mem_cons.1 h with rfl | h
        · exact .inl rfl
        · exact .inr ⟨_, h, rfl⟩
theorem gPut_good {x : Ent} : ∀ {Q : List Grp}, Good Q → Good (gPut x Q)
  | [], _ => ⟨by simp [gPut], by simp [gPut]⟩
  | (t, E) :: R, ⟨h1, h2⟩ => by
    obtain ⟨a1, a2⟩ := List.pairwise_cons.1 h1
    obtain ⟨b1, b2⟩ := h2 _ List.mem_cons_self
    have hR : Good R := ⟨a2, fun q hq => h2 q (List.mem_cons_of_mem _ hq)⟩
    unfold gPut
    split
    · rename_i hlt
      have ih := gPut_good (x := x) hR
      refine ⟨List.pairwise_cons.2 ⟨fun q hq => ?_, ih.asc⟩, fun q hq => ?_⟩
      · rcases gPut_mem hq with e | ⟨p, hp, e⟩
        · rw [e]; exact hlt
        · rw [e]; exact a1 p hp
      · rcases List.mem_cons.1 hq with rfl | hq
        · exact ⟨b1, b2⟩
        · exact ih.own q hq
    · rename_i hlt
      split
      · rename_i he
        refine ⟨List.pairwise_cons.2 ⟨fun q hq => a1 q hq, a2⟩, fun q hq => ?_⟩
        rcases List.mem_cons.1 hq with rfl | hq
        · refine ⟨by simp, fun e hm => ?_⟩
          rcases List.mem_append.1 hm with hm | hm
          · exact b2 e hm
          · rw [List.mem_singleton] at hm; subst hm; exact he.symm
        · exact hR.own q hq
      · rename_i hne
        have hgt : tlt x.ti t = true := by
          rcases tlt_tri t x.ti with h | h | h
          · exact absurd h hlt
          · exact absurd h hne
          · exact h
        refine ⟨List.pairwise_cons.2 ⟨fun q hq => ?_, h1⟩, fun q hq => ?_⟩
        · rcases List.mem_cons.1 hq with rfl | hq
          · exact hgt
          · exact tlt_trans hgt (a1 q hq)
        · rcases List.mem_cons.1 hq with rfl | hq
          · exact ⟨by simp, fun e hm => by simp at hm; subst hm; rfl⟩
          · exact h2 q hq
theorem grps_good (l : List Ent) : Good (grps l) := by
  have : ∀ (l : List Ent) Q, Good Q → Good (l.foldl (fun Q x => gPut x Q) Q) := by
    intro l
    induction l with
    | nil => intro Q h; exact h
    | cons x l ih => intro Q h; exact ih _ (gPut_good h)
  exact this l [] ⟨List.Pairwise.nil, by simp⟩
/-! ### the stable sort -/
def flatG (Q : List Grp) : List Ent := Q.flatMap (·.2)
def ltE (x y : Ent) : Bool := tlt x.ti y.ti
theorem gPut_flat {x : Ent} : ∀ {Q : List Grp}, Good Q → ∃ A B, flatG Q = A ++ B ∧ flatG (gPut x Q) = A ++ x :: B ∧ (∀ y, y ∈ A → ltE x y = false) ∧ ∀ y, y ∈ B → ltE x y = true
  | [], _ => ⟨[], [], rfl, rfl, by simp, by simp⟩
  | (t, E) :: R, ⟨h1, h2⟩ => by
    obtain ⟨a1, a2⟩ := List.pairwise_cons.1 h1
    obtain ⟨b1, b2⟩ := h2 _ List.mem_cons_self
    have hR : Good R := ⟨a2, fun q hq => h2 q (List.mem_cons_of_mem _ hq)⟩
    have hE : flatG ((t, E) :: R) = E ++ flatG R := by simp [flatG]
    have above : tlt x.ti t = true ∨ x.ti = t → ∀ y, y ∈ flatG R → ltE x y = true := fun h y hy => by
      obtain ⟨q, hq, hy⟩ := List.mem_flatMap.1 hy
      show tlt x.ti y.ti = true
      rw [(hR.own q hq).2 y hy]
      rcases h with h | h
      · exact tlt_trans h (a1 q hq)
      · rw [h]; exact a1 q hq
    unfold gPut
    split
    · rename_i hlt
      obtain ⟨A, B, e1, e2, e3, e4⟩ := gPut_flat (x := x) hR
      refine ⟨E ++ A, B, by rw [hE, e1, List.append_assoc], ?_, fun y hy => ?_, e4⟩
      · rw [show flatG ((t, E) :: gPut x R) = E ++ flatG (gPut x R) by simp [flatG], e2, List.append_assoc]
      · rcases List.mem_append.1 hy with hy | hy
        · show tlt x.ti y.ti = false
          rw [b2 y hy]; exact tlt_asymm hlt
        · exact e3 y hy
    · rename_i hlt
      split
      · rename_i he
        refine ⟨E, flatG R, hE, by simp [flatG], fun y hy => ?_, above (.inr he.symm)⟩
        show tlt x.ti y.ti = false
        rw [b2 y hy, he]; exact tlt_irrefl _
      · rename_i hne
        have hgt : tlt x.ti t = true := by
          rcases tlt_tri t x.ti with h | h | h
          · exact absurd h hlt
          · exact absurd h hne
          · exact h
        refine ⟨[], E ++ flatG R, by rw [hE]; rfl, by simp [flatG], by simp, fun y hy => ?_⟩
        rcases List.mem_append.1 hy with hy | hy
        · show tlt x.ti y.ti = true
          rw [b2 y hy]; exact hgt
        · exact above (.inl hgt) y hy
theorem sort_flat (l : List Ent) : (sortR ltE l).reverse = flatG (grps l) := by
  have : ∀ (r : List Ent) (l : List Ent), l = r.reverse → (sortR ltE l).reverse = flatG (grps l) := by
    intro r
    induction r with
    | nil => rintro _ rfl; rfl
    | cons x r ih =>
      rintro _ rfl
      have h := ih r.reverse rfl
      rw [List.reverse_cons, sortR_push, grps_push]
      obtain ⟨A, B, e1, e2, e3, e4⟩ := gPut_flat (x := x) (grps_good r.reverse)
      have e5 : sortR ltE r.reverse = B.reverse ++ A.reverse := by
        rw [← List.reverse_append, ← e1, ← h, List.reverse_reverse]
      rw [e5, insR_split ltE x B.reverse A.reverse (fun y hy => e4 y (List.mem_reverse.1 hy)) (fun y hy => e3 y (List.mem_reverse.1 hy)), e2]
      simp
  exact this l.reverse l (by simp)
/-! ### the runs -/
def newAt (P : List Ent) (k : Nat) : Bool := k == 0 || !((gd P k).ti.toList == (gd P (k - 1)).ti.toList)
/-- one more in the last run, or a new run -/
def runPut (G : List (List Int)) (new : Bool) (n : Int) : List (List Int) := if new then G ++ [[n]] else G.set (G.length - 1) (gd G (G.length - 1) ++ [n])
def runsTo (P : List Ent) : Nat → List (List Int)
  | 0 => []
  | k + 1 => runPut (runsTo P k) (newAt P k) (gd P k).id
theorem runsTo_congr {P P' : List Ent} : ∀ k, (∀ i, i < k → gd P i = gd P' i) → runsTo P k = runsTo P' k
  | 0, _ => rfl
  | k + 1, h => by
    have e : newAt P k = newAt P' k := by
      unfold newAt
      cases k with
      | zero => rfl
      | succ k => rw [h (k + 1) (by omega), show k + 1 - 1 = k from rfl, h k (by omega)]
    rw [runsTo, runsTo, runsTo_congr k (fun i hi => h i (by omega)), e, h k (by omega)]
def runs (P : List Ent) : List (List Int) := runsTo P P.length
theorem runs_push (P : List Ent) (x : Ent) : runs (P ++ [x]) = runPut (runs P) (P.length == 0 || !(x.ti.toList == (gd P (P.length - 1)).ti.toList)) x.id := by
  have h1 : gd (P ++ [x]) P.length = x := by simp [gd]
  have h2 : ∀ i, i < P.length → gd (P ++ [x]) i = gd P i := fun i hi => by simp [gd, List.getElem?_append_left hi]
  unfold runs
  rw [List.length_append, List.length_singleton, runsTo, h1, runsTo_congr P.length h2]
  congr 1
  unfold newAt
  rw [h1]
  cases hP : P.length with
  | zero => rfl
  | succ n => rw [h2 _ (by omega)]
theorem runs_same (P : List Ent) (t : ByteArray) (hP : P = [] ∨ (gd P (P.length - 1)).ti ≠ t) : ∀ (r E : List Ent), E = r.reverse → E ≠ [] → (∀ e, e ∈ E → e.ti = t) → runs (P ++ E) = runs P ++ [E.map Ent.id]
  | [], E, h, h0, _ => absurd h h0
  | [x], _, rfl, _, ht => by
    have hx : x.ti = t := ht x (by simp)
    simp only [List.reverse_cons, List.reverse_nil, List.nil_append]
    rw [runs_push]
    have : (P.length == 0 || !(x.ti.toList == (gd P (P.length - 1)).ti.toList)) = true := by
      rcases hP with h | h
      · rw [h]; rfl
      · have : (t.toList == (gd P (P.length - 1)).ti.toList) = false := by
          rw [Bool.eq_false_iff]
          intro e
          exact h (toList_inj (eq_of_beq e)).symm
        rw [hx, this]; simp
    rw [this]; rfl
  | x :: y :: r, _, rfl, _, ht => by
    have ih := runs_same P t hP (y :: r) _ rfl (by simp) (fun e he => ht e (by simp at he ⊢; rcases he with h | h <;> simp [h]))
    have hx : x.ti = t := ht x (by simp)
    have hy : y.ti = t := ht y (by simp)
    rw [List.reverse_cons, ← List.append_assoc, runs_push, ih]
    have hlast : gd (P ++ (y :: r).reverse) ((P ++ (y :: r).reverse).length - 1) = y := by
      simp [gd, ← List.append_assoc]
    rw [hlast, hx, hy]
    have : ((P ++ (y :: r).reverse).length == 0 || !(t.toList == t.toList)) = false := by simp
    rw [this]
    have e3 : gd (runs P ++ [((y :: r).reverse).map Ent.id]) ((runs P ++ [((y :: r).reverse).map Ent.id]).length - 1) = ((y :: r).reverse).map Ent.id := by
      simp [gd]
    unfold runPut
    rw [if_neg (by simp), e3, List.map_append]
    simp
theorem runs_flat : ∀ (r Q : List Grp), Q = r.reverse → Good Q → runs (flatG Q) = Q.map (fun q => q.2.map Ent.id)
  | [], _, rfl, _ => rfl
  | q :: r, _, rfl, h => by
    have hg : Good r.reverse := by
      obtain ⟨h1, h2⟩ := h
      rw [List.reverse_cons] at h1 h2
      exact ⟨(List.pairwise_append.1 h1).1, fun p hp => h2 p (List.mem_append_left _ hp)⟩
    have ih := runs_flat r r.reverse rfl hg
    obtain ⟨h1, h2⟩ := h
    rw [List.reverse_cons] at h1 h2 ⊢
    obtain ⟨b1, b2⟩ := h2 q (by simp)
    rw [show flatG (r.reverse ++ [q]) = flatG r.reverse ++ q.2 by simp [flatG], runs_same (flatG r.reverse) q.1 ?_ q.2.reverse q.2 (by simp) b1 b2, ih, List.map_append]
    · rfl
    · cases hF : flatG r.reverse with
      | nil => exact .inl rfl
      | cons y F =>
        right
        rw [← hF]
        have hm : gd (flatG r.reverse) ((flatG r.reverse).length - 1) ∈ flatG r.reverse := by
          have hl : (flatG r.reverse).length - 1 < (flatG r.reverse).length := by rw [hF]; simp
          rw [gd_get hl]; exact List.getElem_mem hl
        obtain ⟨p, hp, hy⟩ := List.mem_flatMap.1 hm
        rw [(hg.own p hp).2 _ hy]
        have := (List.pairwise_append.1 h1).2.2 p hp q (by simp)
        intro e
        rw [e, tlt_irrefl] at this; cases this
/-- the program's groups are the reference's -/
theorem groups_same (l : List Ent) : runs (sortR ltE l).reverse = (grps l).map (fun q => q.2.map Ent.id) := by
  rw [sort_flat, runs_flat (grps l).reverse (grps l) (by simp) (grps_good l)]
/-! ### the reference's step by places -/
theorem gPut_at (x : Ent) : ∀ (Q : List Grp) (k : Nat), k ≤ Q.length → (∀ i, (h : i < k) → ∀ q, Q[i]? = some q → tlt q.1 x.ti = true) → (∀ q, Q[k]? = some q → tlt q.1 x.ti = false) →
    gPut x Q = match Q[k]? with
      | some q => if q.1 = x.ti then Q.set k (q.1, q.2 ++ [x]) else Q.take k ++ [(x.ti, [x])] ++ Q.drop k
      | none => Q ++ [(x.ti, [x])]
  | [], k, hk, _, _ => by
    obtain rfl : k = 0 := by simpa using hk
    rfl
  | (t, E) :: R, 0, _, _, h2 => by
    have := h2 (t, E) rfl
    unfold gPut
    rw [if_neg (by rw [this]; simp)]
    simp
  | (t, E) :: R, k + 1, hk, h1, h2 => by
    have h3 := h1 0 (by omega) (t, E) rfl
    have ih := gPut_at x R k (by simpa using hk) (fun i hi q hq => h1 (i + 1) (by omega) q (by simpa using hq)) (fun q hq => h2 q (by simpa using hq))
    unfold gPut
    rw [if_pos h3, ih]
    simp only [List.getElem?_cons_succ]
    cases hR : R[k]? with
    | none => rfl
    | some q =>
      dsimp only
      split <;> simp
end Go.Proofs.YteainpflmofjaaaDoor
