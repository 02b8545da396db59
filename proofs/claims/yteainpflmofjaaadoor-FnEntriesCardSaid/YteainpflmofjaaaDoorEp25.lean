/- Entries: what is an entry, a list of entries (plain law). No condition. -/
import Derived.Test.YteainpflmofjaaaDoorRi
import Derived.Test.YteainpflmofjaaaDoorWd
namespace Go.Proofs.YteainpflmofjaaaDoor
open Go.RowKit
def emptyB (s : ByteArray) : Bool := s.toList == []
def entTail (x : Ent) : Bool := inB x.id 1 999 && wordB x.ti && (emptyB x.pl || wordB x.pl) && (x.yr == 0 || inB x.yr 1500 2100) && inB x.ct 0 99
def seenBad (l : List Int) (n : Int) (i : Nat) : Bool := !inB (gd l i) 1 999 || gd l i == n
def isEnt (x : Ent) : Bool := decide (x.sub.length ≤ 8) && rising x.sub && !(findTo (seenBad x.sub x.id) x.sub.length).isSome && entTail x
theorem isEnt_spec (x : Ent) : isEnt x = (entTail x && (decide (x.sub.length ≤ 8) && allTo (fun i => inB (gd x.sub i) 1 999 && riseAt x.sub i) x.sub.length && !hasI x.sub x.id)) := by
  have h1 : (!(findTo (seenBad x.sub x.id) x.sub.length).isSome) = (allTo (fun i => inB (gd x.sub i) 1 999) x.sub.length && !hasI x.sub x.id) := by
    rw [hasI, find_isSome, find_isSome, Bool.not_not, Bool.not_not, ← all_and]
    exact all_congr fun i _ => by simp [seenBad]
  rw [isEnt, h1, all_and, rising]
  cases entTail x <;> cases decide (x.sub.length ≤ 8) <;> cases allTo (fun i => inB (gd x.sub i) 1 999) x.sub.length <;> cases allTo (riseAt x.sub) x.sub.length <;> cases hasI x.sub x.id <;> rfl
theorem isEnt_bare (x : Ent) : isEnt x.bare = isEnt x := rfl
theorem isEnt_b {x : Ent} (h : isEnt x = true) : 1 ≤ x.id ∧ x.id ≤ 999 ∧ 0 ≤ x.ct ∧ x.ct ≤ 99 ∧ x.sub.length ≤ 8 := by
  simp only [isEnt, entTail, Bool.and_eq_true, inB_iff, decide_eq_true_eq] at h
  omega
/-- an entry knows an id -/
def knows (x : Ent) (n : Int) : Bool := x.id == n || hasI x.sub n
def entAt (l : List Ent) (k : Nat) : Bool := isEnt (gd l k) && (k == 0 || decide ((gd l (k - 1)).id < (gd l k).id))
/-- nobody else knows what entry i has seen -/
def aloneAt (l : List Ent) (i j : Nat) : Bool := allTo (fun n => decide (n = i) || !knows (gd l n) (gd (gd l i).sub j)) l.length
def alone (l : List Ent) (i : Nat) : Bool := allTo (aloneAt l i) (gd l i).sub.length
def areEnt (l : List Ent) : Bool := allTo (fun i => entAt l i && alone l i) l.length && decide (l.length ≤ 12)
theorem areEnt_no {l : List Ent} (k : Nat) (hk : k < l.length) (h : (entAt l k && alone l k) = false) : areEnt l = false := by simp [areEnt, allTo_false (f := fun i => entAt l i && alone l i) k hk h]
theorem areEnt_end {l : List Ent} (h : ∀ i, i < l.length → (entAt l i && alone l i) = true) : areEnt l = decide (l.length ≤ 12) := by simp [areEnt, allTo_true (f := fun i => entAt l i && alone l i) h]
theorem areEnt_alt (l : List Ent) : areEnt l = (decide (l.length ≤ 12) && allTo (entAt l) l.length && allTo (alone l) l.length) := by
  rw [areEnt, all_and]
  cases allTo (entAt l) l.length <;> cases allTo (alone l) l.length <;> cases decide (l.length ≤ 12) <;> rfl
theorem ent_same {l l' : List Ent} (h : l'.map Ent.bare = l.map Ent.bare) (i : Nat) (hi : i < l.length) : (gd l' i).bare = (gd l i).bare := (map_same_at h i hi).2
theorem areEnt_same {l l' : List Ent} (h : l'.map Ent.bare = l.map Ent.bare) : areEnt l' = areEnt l := by
  have hl : l'.length = l.length := by simpa using congrArg List.length h
  have hk : ∀ i, i < l.length → ∀ n, knows (gd l' i) n = knows (gd l i) n := fun i hi n => by
    have := Ent.sub_eq (ent_same h i hi)
    simp only [knows, this]
  rw [areEnt, areEnt, hl]
  congr 1
  refine all_congr fun i hi => ?_
  have e := ent_same h i hi
  have e1 := Ent.sub_eq e
  have e2 := Ent.sub_eq (ent_same h (i - 1) (by omega))
  have ei : isEnt (gd l' i) = isEnt (gd l i) := by rw [← isEnt_bare, e, isEnt_bare]
  have ea : alone l' i = alone l i := by
    unfold alone
    rw [e1.2.2.2.2.2]
    refine all_congr fun j _ => ?_
    unfold aloneAt
    rw [hl, e1.2.2.2.2.2]
    exact all_congr fun n hn => by rw [hk n hn]
  rw [ea, entAt, entAt, ei, e1.1, e2.1]
theorem areEnt_len {l : List Ent} (h : areEnt l = true) : l.length ≤ 12 := by simp [areEnt] at h; exact h.2
theorem areEnt_ok {l : List Ent} (h : areEnt l = true) (i : Nat) (hi : i < l.length) : isEnt (gd l i) = true := by
  simp only [areEnt, Bool.and_eq_true, allTo_iff] at h
  have := (h.1 i hi).1
  simp only [entAt, Bool.and_eq_true] at this
  exact this.1
theorem areEnt_lt {l : List Ent} (h : areEnt l = true) (i : Nat) : ∀ j, i < j → j < l.length → (gd l i).id < (gd l j).id
  | 0, hj, _ => by omega
  | j + 1, hj, hl => by
    have hs : (gd l j).id < (gd l (j + 1)).id := by
      simp only [areEnt, Bool.and_eq_true, allTo_iff] at h
      have := (h.1 (j + 1) hl).1
      simp only [entAt, Bool.and_eq_true] at this
      simpa using this.2
    rcases Nat.lt_or_eq_of_le (Nat.lt_succ_iff.1 hj) with h2 | rfl
    · have := areEnt_lt h i j h2 (by omega)
      omega
    · exact hs
/-- the first entry that knows an id -/
def entOf (l : List Ent) (n : Int) : Option Nat := findTo (fun i => knows (gd l i) n) l.length
/-- the program's test of one seen id -/
theorem alone_step (l : List Ent) (i j : Nat) (hi : i < l.length) (hj : j < (gd l i).sub.length) :
    aloneAt l i j = (decide (entOf l (gd (gd l i).sub j) = some i) && !(findTo (fun n => knows (gd (l.drop (i + 1)) n) (gd (gd l i).sub j)) (l.drop (i + 1)).length).isSome) := by
  have hk : knows (gd l i) (gd (gd l i).sub j) = true := by
    simp only [knows, Bool.or_eq_true]
    exact .inr (hasI_iff.2 ⟨j, hj, rfl⟩)
  rw [Bool.eq_iff_iff, Bool.and_eq_true, find_isSome, Bool.not_not, allTo_iff, decide_eq_true_eq, aloneAt, allTo_iff]
  simp only [Bool.or_eq_true, decide_eq_true_eq, Bool.not_eq_true']
  constructor
  · intro h
    refine ⟨findTo_some (fun n hn => ?_) hk hi, fun n hn => ?_⟩
    · rcases h n (by omega) with h1 | h1
      · omega
      · exact h1
    · rw [gd_drop]
      simp at hn
      rcases h (i + 1 + n) (by omega) with h1 | h1
      · omega
      · exact h1
  · rintro ⟨h1, h2⟩ n hn
    obtain ⟨_, _, h3⟩ := findTo_spec h1
    rcases Nat.lt_trichotomy n i with h4 | h4 | h4
    · exact .inr (h3 n h4)
    · exact .inl h4
    · have := h2 (n - (i + 1)) (by simp; omega)
      rw [gd_drop, show i + 1 + (n - (i + 1)) = n by omega] at this
      exact .inr this
def feB (l : List Ent) (n : Int) : Bool := areEnt l && inB n 1 999 && (entOf l n).isSome
def feV (l : List Ent) (n : Int) : Int := if feB l n then (gd l ((entOf l n).getD 0)).id else 0
theorem entOf_same {l l' : List Ent} (h : l'.map Ent.bare = l.map Ent.bare) (n : Int) : entOf l' n = entOf l n := by
  have hl : l'.length = l.length := by simpa using congrArg List.length h
  unfold entOf
  rw [hl]
  exact find_congr fun i hi => by
    have := Ent.sub_eq (ent_same h i hi)
    simp only [knows, this]
theorem feB_same {l l' : List Ent} (h : l'.map Ent.bare = l.map Ent.bare) (n : Int) : feB l' n = feB l n := by rw [feB, feB, areEnt_same h, entOf_same h]
theorem feV_same {l l' : List Ent} (h : l'.map Ent.bare = l.map Ent.bare) (n : Int) : feV l' n = feV l n := by
  rw [feV, feV, feB_same h]
  split
  · rename_i hb
    rw [entOf_same h]
    simp only [feB, Bool.and_eq_true] at hb
    obtain ⟨k, hk⟩ := Option.isSome_iff_exists.1 hb.2
    rw [hk]
    exact (Ent.sub_eq (ent_same h k (findTo_spec hk).1)).1
  · rfl
def sumCt (l : List Ent) : Nat → Int
  | 0 => 0
  | k + 1 => sumCt l k + (gd l k).ct
def cpV (l : List Ent) : Int := if areEnt l then sumCt l l.length else 0
theorem sumCt_same {l l' : List Ent} (h : l'.map Ent.bare = l.map Ent.bare) : ∀ k, k ≤ l.length → sumCt l' k = sumCt l k
  | 0, _ => rfl
  | k + 1, hk => by rw [sumCt, sumCt, sumCt_same h k (by omega), (Ent.sub_eq (ent_same h k (by omega))).2.2.2.2.1]
theorem cpV_same {l l' : List Ent} (h : l'.map Ent.bare = l.map Ent.bare) : cpV l' = cpV l := by
  have hl : l'.length = l.length := by simpa using congrArg List.length h
  rw [cpV, cpV, areEnt_same h, hl, sumCt_same h _ (Nat.le_refl _)]
theorem sumCt_b {l : List Ent} (h : areEnt l = true) : ∀ k, k ≤ l.length → 0 ≤ sumCt l k ∧ sumCt l k ≤ 99 * (k : Int)
  | 0, _ => by simp [sumCt]
  | k + 1, hk => by
    have h1 := sumCt_b h k (by omega)
    have h2 := isEnt_b (areEnt_ok h k (by omega))
    unfold sumCt
    omega
end Go.Proofs.YteainpflmofjaaaDoor
