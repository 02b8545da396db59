/- Headings: the path of one, by the program and by the reference. No condition but sizes. -/
import Derived.Test.YtbkkaibjenofiaaHl23
namespace Go.Proofs.Ytbkkaibjenofiaa
open Go.RowKit
def slashB : ByteArray := ⟨#[47]⟩
def nmOf (l : List Hdg) (u : Int) : ByteArray := (gd l ((hdIdx l u).getD 0)).nm
/-- the path that the first k of the climb make -/
def pth (l : List Hdg) (us : List Int) : Nat → ByteArray
  | 0 => ⟨#[]⟩
  | k + 1 => (if 0 < k then nmOf l (gd us k) ++ ⟨#[47]⟩ else nmOf l (gd us k)) ++ pth l us k
def pathL (l : List Hdg) (n : Int) : ByteArray := pth l (upL l n) (upL l n).length
theorem upF_mem {l : List Hdg} (h : areHd l = true) : ∀ (f : Nat) (n : Int), standsAt l n → ∀ k, k < (upF l f n).length → ∃ j, j < l.length ∧ (gd l j).id = gd (upF l f n) k
  | 0, n, _, k, hk => by simp [upF] at hk
  | f + 1, n, hn, k, hk => by
    unfold upF at hk ⊢
    split at hk
    · simp at hk
    · rename_i h0
      rw [if_neg h0]
      obtain ⟨j, hj, he⟩ : ∃ j, j < l.length ∧ (gd l j).id = n := by
        rcases hn with hn | hn
        · exact absurd hn h0
        · exact hn
      cases k with
      | zero => exact ⟨j, hj, by rw [he]; rfl⟩
      | succ k =>
        have hi : hdIdx l n = some j := he ▸ areHd_at h hj
        rw [hi] at hk ⊢
        simp only [Option.getD_some, List.length_cons] at hk ⊢
        have := upF_mem h f (gd l j).un (stands_next h hj).1 k (by omega)
        exact this
theorem nm_size {l : List Hdg} (h : areHd l = true) {j : Nat} (hj : j < l.length) : nmOf l (gd l j).id = (gd l j).nm ∧ (gd l j).nm.size ≤ 10 := by
  refine ⟨by rw [nmOf, areHd_at h hj]; rfl, ?_⟩
  have := areHd_heads h j hj
  simp only [hdHead, wordB, Bool.and_eq_true, inB_iff] at this
  omega
theorem up_at {l : List Hdg} (h : areHd l = true) {n : Int} (hn : standsAt l n) {k : Nat} (hk : k < (upL l n).length) : ∃ j, j < l.length ∧ hdIdx l (gd (upL l n) k) = some j ∧ (gd l j).nm.size ≤ 10 ∧ nmOf l (gd (upL l n) k) = (gd l j).nm := by
  obtain ⟨j, hj, he⟩ := upF_mem h _ n hn k hk
  have he' : gd (upL l n) k = (gd l j).id := he.symm
  rw [he']
  exact ⟨j, hj, areHd_at h hj, (nm_size h hj).2, (nm_size h hj).1⟩
theorem pth_size {l : List Hdg} (h : areHd l = true) {n : Int} (hn : standsAt l n) : ∀ k, k ≤ (upL l n).length → (pth l (upL l n) k).size ≤ 11 * k
  | 0, _ => Nat.le_of_eq rfl
  | k + 1, hk => by
    have ih := pth_size h hn k (by omega)
    obtain ⟨j, _, _, h1, h2⟩ := up_at h hn (show k < _ by omega)
    rw [pth, h2]
    split
    · rw [ByteArray.size_append, ByteArray.size_append]
      have : (⟨#[47]⟩ : ByteArray).size = 1 := rfl
      omega
    · rw [ByteArray.size_append]; omega
theorem nmOf_same {l l' : List Hdg} (h : l'.map Hdg.bare = l.map Hdg.bare) (u : Int) : nmOf l' u = nmOf l u := by
  have hl : l'.length = l.length := by simpa using congrArg List.length h
  rw [nmOf, nmOf, hdIdx_same h]
  by_cases hi : (hdIdx l u).getD 0 < l.length
  · exact (hd_bare h _ hi).2.1
  · rw [gd_out (by omega), gd_out (by omega)]
theorem pth_same {l l' : List Hdg} (h : l'.map Hdg.bare = l.map Hdg.bare) (us : List Int) : ∀ k, pth l' us k = pth l us k
  | 0 => rfl
  | k + 1 => by rw [pth, pth, nmOf_same h, pth_same h us k]
theorem pathL_same {l l' : List Hdg} (h : l'.map Hdg.bare = l.map Hdg.bare) (n : Int) : pathL l' n = pathL l n := by rw [pathL, pathL, upL_same h, pth_same h]
def pathV (l : List Hdg) (n : Int) : ByteArray := if isHd l n then pathL l n else ⟨#[]⟩
theorem path_same {l l' : List Hdg} (h : l'.map Hdg.bare = l.map Hdg.bare) (n : Int) : pathV l' n = pathV l n ∧ isHd l' n = isHd l n := ⟨by rw [pathV, pathV, isHd_same h, pathL_same h], isHd_same h n⟩
end Go.Proofs.Ytbkkaibjenofiaa
