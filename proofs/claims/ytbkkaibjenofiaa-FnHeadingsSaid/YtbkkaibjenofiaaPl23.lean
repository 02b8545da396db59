/- Headings: paths are told apart, what stands directly under one is below it, a new one stands under the told one, the lowest above two. Plain. No condition. -/
import Derived.Test.YtbkkaibjenofiaaHf23
import Derived.Test.YtbkkaibjenofiaaAd23
import Derived.Test.YtbkkaibjenofiaaAb23
import Derived.Test.YtbkkaibjenofiaaSp23
namespace Go.Proofs.Ytbkkaibjenofiaa
open Go.RowKit
theorem cut_last {p q a b : List UInt8} {c : UInt8} (ha : c ∉ a) (hb : c ∉ b) (h : p ++ c :: a = q ++ c :: b) : p = q ∧ a = b := by
  rcases List.append_eq_append_iff.1 h with ⟨r, h1, h2⟩ | ⟨r, h1, h2⟩
  · cases r with
    | nil => simp at h1 h2; exact ⟨h1.symm, h2⟩
    | cons x r =>
      simp only [List.cons_append, List.cons.injEq] at h2
      exact absurd (by rw [h2.2]; simp) ha
  · cases r with
    | nil => simp at h1 h2; exact ⟨h1, h2.symm⟩
    | cons x r =>
      simp only [List.cons_append, List.cons.injEq] at h2
      exact absurd (by rw [h2.2]; simp) hb
theorem word_no {s : ByteArray} (h : wordB s = true) : (47 : UInt8) ∉ s.data.toList := by
  intro hm
  simp only [wordB, Bool.and_eq_true, allTo_iff] at h
  obtain ⟨i, hi, he⟩ := List.getElem_of_mem hm
  have hi' : i < s.size := by simpa using hi
  have h1 := letter_iff.1 (h.2 i hi')
  rw [← byteL_getD s i hi', List.getD, List.getElem?_eq_getElem hi, Option.getD_some, he] at h1
  have : ((47 : UInt8).toNat : Int) = 47 := rfl
  omega
theorem pth_cons (l : List Hdg) (x : Int) (us : List Int) : ∀ k, (pth l (x :: us) (k + 1)).data.toList = (pth l us k).data.toList ++ (if 0 < k then 47 :: (nmOf l x).data.toList else (nmOf l x).data.toList)
  | 0 => by simp [pth, gd]
  | k + 1 => by
    have ih := pth_cons l x us k
    have e : gd (x :: us) (k + 1) = gd us k := by simp [gd]
    rw [pth, if_pos (by omega), e, ByteArray.data_append, Array.toList_append, ih, pth]
    by_cases hk : 0 < k
    · simp [hk]
    · obtain rfl : k = 0 := by omega
      simp [pth]
theorem path_at {l : List Hdg} (h : areHd l = true) {k : Nat} (hk : k < l.length) : (pathL l (gd l k).id).data.toList = if (gd l k).un = 0 then (gd l k).nm.data.toList else (pathL l (gd l k).un).data.toList ++ 47 :: (gd l k).nm.data.toList := by
  have hn := (nm_size h hk).1
  rw [pathL, upL_split h hk, List.length_cons, pth_cons, hn]
  rcases upL_next h hk with hu | ⟨j, hj, he⟩
  · rw [if_pos hu, hu, upL_zero]; simp [pth]
  · have hj' : j < l.length := by omega
    have hh := hdHead_b (areHd_heads h j hj')
    rw [if_neg (show ¬ (gd l k).un = 0 by omega), ← he, pathL]
    rw [if_pos (by rw [upL_split h hj']; simp)]
theorem no_same {l : List Hdg} (h : areHd l = true) {i j : Nat} (hij : i < j) (hj : j < l.length) (hu : (gd l i).un = (gd l j).un) (hn : (gd l i).nm.data.toList = (gd l j).nm.data.toList) : False := by
  simp only [areHd, Bool.and_eq_true, allTo_iff] at h
  have := h.1 j hj
  simp only [hdI, Bool.and_eq_true, Bool.not_eq_true', Option.isSome_eq_false_iff, Option.isNone_iff_eq_none] at this
  have h2 := findTo_none_spec this.2 i hij
  simp [sameAt, hu, ByteArray.toList_eq, hn] at h2
theorem un_pos {l : List Hdg} (h : areHd l = true) {k : Nat} (hk : k < l.length) (hu : (gd l k).un ≠ 0) : ∃ j, j < k ∧ (gd l j).id = (gd l k).un := by
  rcases upL_next h hk with e | e
  · exact absurd e hu
  · exact e
theorem hd_word {l : List Hdg} (h : areHd l = true) {k : Nat} (hk : k < l.length) : wordB (gd l k).nm = true := by
  have := areHd_heads h k hk
  simp only [hdHead, Bool.and_eq_true] at this
  exact this.1.2
theorem path_inj {l : List Hdg} (h : areHd l = true) : ∀ (i : Nat), i < l.length → ∀ j, j < l.length → (pathL l (gd l i).id).data.toList = (pathL l (gd l j).id).data.toList → i = j := by
  intro i
  induction i using Nat.strongRecOn with
  | _ i ih =>
    intro hi j hj he
    rw [path_at h hi, path_at h hj] at he
    have w1 := word_no (hd_word h hi)
    have w2 := word_no (hd_word h hj)
    have hsame : (gd l i).un = (gd l j).un → (gd l i).nm.data.toList = (gd l j).nm.data.toList → i = j := fun hu hn => by
      rcases Nat.lt_trichotomy i j with hlt | e | hlt
      · exact (no_same h hlt hj hu hn).elim
      · exact e
      · exact (no_same h hlt hi hu.symm hn.symm).elim
    by_cases h1 : (gd l i).un = 0
    · rw [if_pos h1] at he
      by_cases h2 : (gd l j).un = 0
      · rw [if_pos h2] at he
        exact hsame (by rw [h1, h2]) he
      · rw [if_neg h2] at he
        exact absurd (by rw [he]; simp) w1
    · rw [if_neg h1] at he
      by_cases h2 : (gd l j).un = 0
      · rw [if_pos h2] at he
        exact absurd (by rw [← he]; simp) w2
      · rw [if_neg h2] at he
        obtain ⟨e1, e2⟩ := cut_last w1 w2 he
        obtain ⟨a, ha, ea⟩ := un_pos h hi h1
        obtain ⟨b, hb, eb⟩ := un_pos h hj h2
        rw [← ea, ← eb] at e1
        have := ih a ha (by omega) b (by omega) e1
        subst this
        exact hsame (by rw [← ea, ← eb]) e2
/-- a heading is found by its path -/
theorem path_found {l : List Hdg} {n : Int} (h : isHd l n = true) : fpB l (pathV l n) = true ∧ fpV l (pathV l n) = n := by
  have hA := (isHd_some h).1
  have hs : (hdIdx l n).isSome = true := by unfold isHd at h; simp at h; exact h.2
  obtain ⟨k, hk⟩ := Option.isSome_iff_exists.1 hs
  obtain ⟨hkl, he⟩ := hdIdx_some hk
  have hp : pathV l n = pathL l (gd l k).id := by rw [pathV, if_pos h, he]
  rw [hp]
  obtain ⟨h1, h2⟩ := fp_yes (p := pathL l (gd l k).id) hA (k := k) (fun i hi => by
    cases hf : fpAt l (pathL l (gd l k).id) i
    · rfl
    · simp only [fpAt, beq_iff_eq, ByteArray.toList_eq] at hf
      have := path_inj hA i (by omega) k hkl hf
      omega) (by simp [fpAt]) hkl
  exact ⟨h1, by rw [h2, he]⟩
theorem pickL_mem {α : Type} {p : Nat → Bool} {f : Nat → α} {n : Nat} {x : α} : x ∈ pickL p f n ↔ ∃ i, i < n ∧ p i = true ∧ f i = x := by
  simp [pickL, and_assoc]
theorem ids_ne {l : List Hdg} (h : areHd l = true) {i j : Nat} (hi : i < l.length) (hj : j < l.length) (he : (gd l i).id = (gd l j).id) : i = j := by
  have h1 := areHd_at h hi
  rw [he, areHd_at h hj] at h1
  exact (Option.some.inj h1).symm
/-- what stands directly under a heading is below it -/
theorem du_ab {l : List Hdg} {n : Int} (h : isHd l n = true) : ∀ i, i < (duL l n).length → hasI (abL l n) (gd (duL l n) i) = true := fun i hi => by
  have hA := (isHd_some h).1
  have hs : (hdIdx l n).isSome = true := by unfold isHd at h; simp at h; exact h.2
  obtain ⟨k, hk⟩ := Option.isSome_iff_exists.1 hs
  obtain ⟨hkl, he⟩ := hdIdx_some hk
  have hm : gd (duL l n) i ∈ duL l n := mem_gd.2 ⟨i, hi, rfl⟩
  have hg : duGood l n = true := by simp [duGood, hA, hs]
  rw [duL, if_pos hg, duIds, pickL_mem] at hm
  obtain ⟨j, hj, hp, hx⟩ := hm
  have hun : (gd l j).un = n := by simpa using hp
  rw [hasI_mem, abL, if_pos h, abIds, pickL_mem]
  refine ⟨j, hj, ?_, by rw [duL, if_pos hg]; exact hx⟩
  have h1 := hdHead_b (areHd_heads hA k hkl)
  obtain ⟨j', hj', ej'⟩ := un_pos hA hj (by omega)
  have hne : (gd l j).id ≠ n := fun e => by
    have := ids_ne hA (i := j) (j := j') hj (by omega) (by omega)
    omega
  simp only [abP, Bool.and_eq_true, bne_iff_ne, ne_eq]
  refine ⟨hne, ?_⟩
  rw [hasI_mem, upL_split hA hj, hun, ← he, upL_split hA hkl]
  simp
/-- the lowest above a heading and itself is that heading -/
theorem low_self {l : List Hdg} {n : Int} (h : isHd l n = true) : lowB l n n = true ∧ lowV l n n = n := by
  have hA := (isHd_some h).1
  have hs : (hdIdx l n).isSome = true := by unfold isHd at h; simp at h; exact h.2
  obtain ⟨k, hk⟩ := Option.isSome_iff_exists.1 hs
  obtain ⟨hkl, he⟩ := hdIdx_some hk
  have hU : upL l n = n :: upL l (gd l k).un := by rw [← he]; exact upL_split hA hkl
  have hl : lowAt l n n = some 0 := by
    unfold lowAt
    refine findTo_some (fun i hi => by omega) ?_ (by rw [hU]; simp)
    rw [hasI_mem, hU]; simp [gd]
  obtain ⟨h1, h2⟩ := low_yes (show lowG l n n = true by simp [lowG, h]) hl
  exact ⟨h1, by rw [h2, hU]; simp [gd]⟩
/-- a new heading stands directly under the told one -/
theorem ad_stands {l : List Hdg} {s : ByteArray} {u : Int} (h : adGood l s u = true) : duGood (adL l s u) u = true ∧ hasI (duL (adL l s u) u) (adId l) = true ∧ isHd (adL l s u) (adId l) = true := by
  have hA : areHd (adL l s u) = true := by simp only [adGood, Bool.and_eq_true] at h; exact h.2
  have hlen : (adL l s u).length = l.length + 1 := by simp [adL]
  have hlast : gd (adL l s u) l.length = adX l s u := gd_append_last
  have hk : l.length < (adL l s u).length := by omega
  have hat := areHd_at hA hk
  rw [hlast] at hat
  have hI : isHd (adL l s u) (adId l) = true := by
    simp only [isHd, hA, Bool.true_and]
    rw [show adId l = (adX l s u).id from rfl, hat]; rfl
  have hg : duGood (adL l s u) u = true := by
    simp only [duGood, hA, Bool.true_and, Bool.or_eq_true, beq_iff_eq]
    by_cases hu : u = 0
    · exact .inl hu
    · obtain ⟨j, hj, ej⟩ := un_pos hA hk (by rw [hlast]; exact hu)
      rw [hlast] at ej
      have := areHd_at hA (show j < (adL l s u).length by omega)
      rw [ej] at this
      have this2 : hdIdx (adL l s u) u = some j := this
      rw [this2]
      exact .inr rfl
  refine ⟨hg, ?_, hI⟩
  rw [hasI_mem, duL, if_pos hg, duIds, pickL_mem]
  exact ⟨l.length, hk, by rw [hlast]; simp [adX], by rw [hlast]; rfl⟩
theorem pathV_size (l : List Hdg) (n : Int) : (pathV l n).size ≤ 1000 := by
  unfold pathV
  split
  · rename_i hh
    obtain ⟨hA, hn⟩ := isHd_some hh
    have h1 := pth_size hA hn _ (Nat.le_refl _)
    have h2 := upL_len l n
    have h3 := areHd_len hA
    rw [pathL]; omega
  · exact Nat.zero_le _
/-- what reads as the headings with a new one -/
theorem ad_done {l L : List Hdg} {s : ByteArray} {u : Int} (h : adGood l s u = true) (he : L.map Hdg.bare = adB l s u) : duGood L u = true ∧ hasI (duL L u) (adI l s u) = true ∧ lowB L (adI l s u) (adI l s u) = true ∧ lowV L (adI l s u) (adI l s u) = adI l s u := by
  have e : L.map Hdg.bare = (adL l s u).map Hdg.bare := by rw [he, adB, if_pos h]
  have hI : adI l s u = adId l := by rw [adI, if_pos h]
  obtain ⟨h1, h2, h3⟩ := ad_stands h
  obtain ⟨e1, e2⟩ := du_same e u
  obtain ⟨e3, e4⟩ := low_same e (adId l) (adId l)
  obtain ⟨h4, h5⟩ := low_self h3
  rw [hI, e1, e2, e3, e4]
  exact ⟨h1, h2, h4, h5⟩
theorem ad_fit {l L : List Hdg} {s : ByteArray} {u : Int} (h : adGood l s u = true) (he : L.map Hdg.bare = adB l s u) (hs : ∀ i, i < l.length → (gd l i).Fits) (hz : s.size ≤ maxLen) : ∀ i, i < L.length → (gd L i).Fits :=
  Hdg.fits (l := adL l s u) (by rw [he, adB, if_pos h]) (ad_fits rfl hs (adX l s u) ⟨hz, trivial⟩)
/-! ### the lowest above two -/
theorem up_tail {l : List Hdg} (h : areHd l = true) : ∀ k, k < l.length → ∀ x, x ∈ upL l (gd l k).id → (x ≤ (gd l k).id ∧ 1 ≤ x) ∧ ∀ y, y ∈ upL l (gd l k).id → y ≤ x → y ∈ upL l x := by
  intro k
  induction k using Nat.strongRecOn with
  | _ k ih =>
    intro hk x hx
    rw [upL_split h hk] at hx
    have hh := hdHead_b (areHd_heads h k hk)
    rcases List.mem_cons.1 hx with rfl | hx
    · exact ⟨⟨Int.le_refl _, hh.1⟩, fun y hy _ => hy⟩
    · rcases upL_next h hk with hu | ⟨j, hj, he⟩
      · rw [hu, upL_zero] at hx; cases hx
      · rw [← he] at hx
        obtain ⟨h1, h2⟩ := ih j hj (by omega) x hx
        have hlt := hd_up (areHd_heads h) j k hj hk
        refine ⟨by omega, fun y hy hyx => ?_⟩
        rw [upL_split h hk, ← he] at hy
        rcases List.mem_cons.1 hy with rfl | hy
        · omega
        · exact h2 y hy hyx
theorem up_desc {l : List Hdg} (h : areHd l = true) : ∀ k, k < l.length → (upL l (gd l k).id).Pairwise (fun a b => b < a) := by
  intro k
  induction k using Nat.strongRecOn with
  | _ k ih =>
    intro hk
    rw [upL_split h hk]
    rcases upL_next h hk with hu | ⟨j, hj, he⟩
    · rw [hu, upL_zero]; simp
    · rw [← he, List.pairwise_cons]
      refine ⟨fun y hy => ?_, ih j hj (by omega)⟩
      have := (up_tail h j (by omega) y hy).1
      have hlt := hd_up (areHd_heads h) j k hj hk
      omega
theorem low_first {l : List Hdg} {a b : Int} {k : Nat} (ha : (upL l a).Pairwise (fun a b => b < a)) (h : lowAt l a b = some k) : gd (upL l a) k ∈ upL l a ∧ gd (upL l a) k ∈ upL l b ∧ ∀ y, y ∈ upL l a → y ∈ upL l b → y ≤ gd (upL l a) k := by
  obtain ⟨hk, h1, h2⟩ := findTo_spec h
  refine ⟨mem_gd.2 ⟨k, hk, rfl⟩, hasI_mem.1 h1, fun y hy hyb => ?_⟩
  obtain ⟨i, hi, rfl⟩ := mem_gd.1 hy
  rcases Nat.lt_trichotomy i k with hlt | rfl | hlt
  · have := h2 i hlt
    rw [hasI_mem.2 hyb] at this; cases this
  · exact Int.le_refl _
  · have := List.pairwise_iff_getElem.1 ha k i hk hi hlt
    rw [gd_get hk, gd_get hi]
    omega
theorem low_none {l : List Hdg} {a b : Int} (h : lowAt l a b = none) : ∀ y, y ∈ upL l a → y ∉ upL l b := fun y hy hyb => by
  obtain ⟨i, hi, rfl⟩ := mem_gd.1 hy
  have := findTo_none_spec h i hi
  rw [hasI_mem.2 hyb] at this; cases this
/-- the lowest above two, in either order -/
theorem low_swap (l : List Hdg) (a b : Int) : lowV l b a = lowV l a b ∧ lowB l b a = lowB l a b := by
  cases hg : lowG l a b
  · have hg2 : lowG l b a = false := by rw [lowG, Bool.and_comm]; exact hg
    have e1 : lowB l a b = false := by rw [lowB, hg]; rfl
    have e2 : lowB l b a = false := by rw [lowB, hg2]; rfl
    rw [low_no e1, low_no e2, e1, e2]
    exact ⟨rfl, rfl⟩
  · have hg2 : lowG l b a = true := by rw [lowG, Bool.and_comm]; exact hg
    have hab : isHd l a = true ∧ isHd l b = true := by simpa [lowG] using hg
    have desc : ∀ n, isHd l n = true → (upL l n).Pairwise (fun a b => b < a) := fun n hn => by
      have hA := (isHd_some hn).1
      have hs : (hdIdx l n).isSome = true := by unfold isHd at hn; simp at hn; exact hn.2
      obtain ⟨k, hk⟩ := Option.isSome_iff_exists.1 hs
      obtain ⟨hkl, he⟩ := hdIdx_some hk
      rw [← he]
      exact up_desc hA k hkl
    have da := desc a hab.1
    have db := desc b hab.2
    cases h1 : lowAt l a b with
    | none =>
      cases h2 : lowAt l b a with
      | none =>
        have e1 : lowB l a b = false := by rw [lowB, h1]; simp
        have e2 : lowB l b a = false := by rw [lowB, h2]; simp
        rw [low_no e1, low_no e2, e1, e2]
        exact ⟨rfl, rfl⟩
      | some k =>
        obtain ⟨m1, m2, -⟩ := low_first db h2
        exact absurd m1 (low_none h1 _ m2)
    | some k =>
      obtain ⟨m1, m2, m3⟩ := low_first da h1
      cases h2 : lowAt l b a with
      | none => exact absurd m1 (low_none h2 _ m2)
      | some k' =>
        obtain ⟨n1, n2, n3⟩ := low_first db h2
        obtain ⟨e1, e2⟩ := low_yes hg h1
        obtain ⟨e3, e4⟩ := low_yes hg2 h2
        rw [e1, e2, e3, e4]
        have p1 := m3 _ n2 n1
        have p2 := n3 _ m2 m1
        exact ⟨by omega, rfl⟩
end Go.Proofs.Ytbkkaibjenofiaa
