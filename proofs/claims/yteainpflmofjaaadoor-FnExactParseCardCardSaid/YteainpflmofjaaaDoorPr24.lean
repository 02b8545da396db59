/- Reading a card: what any reading answers that takes the parts of a text and looks whether the card's text is that text. Plain facts. No condition. -/
import Derived.Test.YteainpflmofjaaaDoorPp24
namespace Go.Proofs.YteainpflmofjaaaDoor
open Go.RowKit
/-- what a reading of s answers -/
def PQ (s : ByteArray) (ok : Bool) (x : Crd) : Prop :=
  (ok = true → isCrd x = true ∧ cdT x x.sub.length = s) ∧ (∀ X : Crd, isCrd X = true → cdT X X.sub.length = s → ok = true ∧ x.bare = X.bare) ∧ (ok = false → x = ⟨0, 0, none, 0, []⟩)
theorem PQ.same {s : ByteArray} {ok ok' : Bool} {x x' : Crd} (h : PQ s ok x) (h' : PQ s ok' x') : ok = ok' ∧ x.bare = x'.bare := by
  obtain ⟨a1, a2, a3⟩ := h
  obtain ⟨b1, b2, b3⟩ := h'
  cases hok : ok
  · cases hok' : ok'
    · exact ⟨rfl, by rw [a3 hok, b3 hok']⟩
    · obtain ⟨h1, h2⟩ := b1 hok'
      have := (a2 x' h1 h2).1
      rw [hok] at this; cases this
  · obtain ⟨h1, h2⟩ := a1 hok
    obtain ⟨h3, h4⟩ := b2 x h1 h2
    exact ⟨h3.symm, h4.symm⟩
/-- n is what t spells, where t is a number's numeral -/
def NumP (t : ByteArray) (n : Int) : Prop := ∀ k : Nat, k ≤ 999999 → t.data.toList = Lib.decDigits k → n = (k : Int)
theorem dec_len (k : Nat) : ∀ m, k < 10 ^ (m + 1) → (Lib.decDigits k).length ≤ m + 1 := fun m => by
  induction m generalizing k with
  | zero => intro h; rw [Lib.decDigits_one (by simpa using h)]; simp
  | succ m ih =>
    intro h
    by_cases h10 : k < 10
    · rw [Lib.decDigits_one h10]; simp
    · rw [Lib.decDigits, dif_neg h10, List.length_append, List.length_singleton]
      have := ih (k / 10) (by rw [Nat.div_lt_iff_lt_mul (by omega), ← Nat.pow_succ]; exact h)
      omega
theorem dec_len4 (k : Nat) (h1 : 1000 ≤ k) (h2 : k < 10000) : (Lib.decDigits k).length = 4 := by
  have e1 : Lib.decDigits k = ((Lib.decDigits (k / 10 / 10 / 10) ++ [UInt8.ofNat (48 + k / 10 / 10 % 10)]) ++ [UInt8.ofNat (48 + k / 10 % 10)]) ++ [UInt8.ofNat (48 + k % 10)] := by
    rw [Lib.decDigits, dif_neg (by omega)]
    congr 1
    rw [Lib.decDigits, dif_neg (by omega)]
    congr 1
    rw [Lib.decDigits, dif_neg (by omega)]
  rw [e1, Lib.decDigits_one (by omega)]
  simp
/-- the parts of a card's text -/
theorem card_parts {X : Crd} {s : ByteArray} {ps : List ByteArray} (h : isCrd X = true) (hs : cdT X X.sub.length = s) (hp : ps.map (·.data.toList) = spl 32 s.data.toList) :
    ps.length = X.sub.length + 2 ∧ (gd ps 0).data.toList = Lib.decDigits X.id.toNat ∧ (gd ps 1).data.toList = Lib.decDigits X.yr.toNat ++ [58] ∧ ps.drop 2 = X.sub := by
  rw [← hs, cdT_spl h _ (Nat.le_refl _), cdP, List.take_length] at hp
  match ps, hp with
  | [], hp => simp at hp
  | [a], hp => simp at hp
  | a :: b :: r, hp =>
    simp only [List.map_cons, List.cons_append, List.nil_append, List.cons.injEq] at hp
    obtain ⟨h1, h2, h3⟩ := hp
    have h4 : r = X.sub := by
      have hl : r.length = X.sub.length := by simpa using congrArg List.length h3
      apply List.ext_getElem hl
      intro i hi hi'
      have h5 := congrArg (fun q => q[i]?) h3
      simp only [List.getElem?_map, List.getElem?_eq_getElem hi, List.getElem?_eq_getElem hi', Option.map_some, Option.some.injEq] at h5
      exact ba_ext h5
    exact ⟨by simp [h4], h1, h2, h4⟩
theorem trim_colon (l : List UInt8) : Lib.trimSuffix (l ++ [58]) [58] = l := by
  have h : Lib.hasSuffix (l ++ [58]) [58] = true := by simp [Lib.hasSuffix]
  rw [Lib.trimSuffix, if_pos h]
  simp
theorem card_size {X : Crd} (h : isCrd X = true) : (cdT X X.sub.length).size ≤ 90 := by
  obtain ⟨h1, h2, h3, h4, h5, h6, h7⟩ := isCrd_facts h
  have e : ∀ k, k ≤ X.sub.length → (cdT X k).size ≤ 9 + 11 * k := by
    intro k
    induction k with
    | zero =>
      intro _
      have d1 := dec_len X.id.toNat 2 (by omega)
      have d2 := dec_len X.yr.toNat 3 (by omega)
      rw [← numT_digits (n := X.id) (by omega) (by omega), ba_len] at d1
      rw [← numT_digits (n := X.yr) (by omega) (by omega), ba_len] at d2
      show (((numT X.id ++ blank) ++ numT X.yr) ++ colon).size ≤ _
      rw [ByteArray.size_append, ByteArray.size_append, ByteArray.size_append]
      show (numT X.id).size + 1 + (numT X.yr).size + 1 ≤ _
      omega
    | succ k ih =>
      intro hk
      have g1 := ih (by omega)
      have g2 := h7 k (by omega)
      show ((cdT X k ++ blank) ++ gd X.sub k).size ≤ _
      rw [ByteArray.size_append, ByteArray.size_append]
      show (cdT X k).size + 1 + _ ≤ _
      omega
  have := e _ (Nat.le_refl _)
  omega
/-- the program's reading -/
theorem pq_few {s : ByteArray} {ps : List ByteArray} (hp : ps.map (·.data.toList) = spl 32 s.data.toList) (h : ps.length < 3) : PQ s false ⟨0, 0, none, 0, []⟩ :=
  ⟨fun e => (by cases e), fun X h1 h2 => by
    have h3 := (card_parts h1 h2 hp).1
    have h4 := (isCrd_facts h1).2.2.2.2.1
    omega, fun _ => rfl⟩
theorem pq_gen {s : ByteArray} {ps : List ByteArray} (hp : ps.map (·.data.toList) = spl 32 s.data.toList) {n y : Int} {a : Option Addr} {c : Nat} (hn : NumP (gd ps 0) n) (hy : ∀ k : Nat, 1000 ≤ k → k < 10000 → (gd ps 1).data.toList = Lib.decDigits k ++ [58] → y = (k : Int)) :
    (isCrd ⟨n, y, a, c, ps.drop 2⟩ = true → cdT ⟨n, y, a, c, ps.drop 2⟩ (ps.drop 2).length = s → PQ s true ⟨n, y, a, c, ps.drop 2⟩) ∧
    (¬ (isCrd ⟨n, y, a, c, ps.drop 2⟩ = true ∧ cdT ⟨n, y, a, c, ps.drop 2⟩ (ps.drop 2).length = s) → PQ s false ⟨0, 0, none, 0, []⟩) := by
  have key : ∀ X : Crd, isCrd X = true → cdT X X.sub.length = s → X.bare = (⟨n, y, none, 0, ps.drop 2⟩ : Crd) := fun X h1 h2 => by
    obtain ⟨e1, e2, e3, e4⟩ := card_parts h1 h2 hp
    obtain ⟨f1, f2, f3, f4, -⟩ := isCrd_facts h1
    have g1 := hn X.id.toNat (by omega) e2
    have g2 := hy X.yr.toNat (by omega) (by omega) e3
    show (⟨X.id, X.yr, none, 0, X.sub⟩ : Crd) = _
    rw [e4, g1, g2]
    congr 1 <;> omega
  refine ⟨fun h1 h2 => ⟨fun _ => ⟨h1, h2⟩, fun X g1 g2 => ⟨rfl, (key X g1 g2).symm⟩, fun e => (by cases e)⟩, fun hno => ⟨fun e => (by cases e), fun X g1 g2 => ?_, fun _ => rfl⟩⟩
  exfalso
  have hk := key X g1 g2
  apply hno
  have e1 : isCrd ⟨n, y, a, c, ps.drop 2⟩ = true := by
    have : isCrd X.bare = true := g1
    rw [hk] at this
    exact this
  refine ⟨e1, ?_⟩
  have e2 : cdT X.bare X.bare.sub.length = s := by
    show cdT ⟨X.id, X.yr, none, 0, X.sub⟩ X.sub.length = s
    rw [cdT_at X.id X.yr none X.a 0 X.cap X.sub]
    exact g2
  rw [hk] at e2
  rw [cdT_at n y a none c 0 (ps.drop 2)]
  exact e2
theorem yr_trim {t : ByteArray} {y : Int} (hy : NumP ⟨(Lib.trimSuffix t.data.toList [58]).toArray⟩ y) (k : Nat) (_ : 1000 ≤ k) (h2 : k < 10000) (e : t.data.toList = Lib.decDigits k ++ [58]) : y = (k : Int) :=
  hy k (by omega) (by
    show (Lib.trimSuffix t.data.toList [58]).toArray.toList = _
    rw [e, trim_colon])
theorem yr_four {t : ByteArray} {y : Int} (hy : NumP (t.extract 0 4) y) (k : Nat) (h1 : 1000 ≤ k) (h2 : k < 10000) (e : t.data.toList = Lib.decDigits k ++ [58]) : y = (k : Int) :=
  hy k (by omega) (by
    rw [Lib.extract_from_zero, e, List.take_append_of_le_length (by rw [dec_len4 k h1 h2]; omega), List.take_of_length_le (by rw [dec_len4 k h1 h2]; omega)])
/-- the reference's first look -/
theorem pq_look {s : ByteArray} {ps : List ByteArray} (hp : ps.map (·.data.toList) = spl 32 s.data.toList) (h : 90 < s.size ∨ ps.length < 3 ∨ 8 < ps.length ∨ (gd ps 1).size ≠ 5) : PQ s false ⟨0, 0, none, 0, []⟩ :=
  ⟨fun e => (by cases e), fun X h1 h2 => by
    obtain ⟨e1, e2, e3, e4⟩ := card_parts h1 h2 hp
    obtain ⟨f1, f2, f3, f4, f5, f6, -⟩ := isCrd_facts h1
    have g1 := card_size h1
    rw [h2] at g1
    have g2 := congrArg List.length e3
    rw [ba_len, List.length_append, dec_len4 X.yr.toNat (by omega) (by omega)] at g2
    simp at g2
    omega, fun _ => rfl⟩
end Go.Proofs.YteainpflmofjaaaDoor
