/- The text of a chest: plain law. No condition. -/
import Derived.Test.YtkflcpfekaddpaaDoorItx
import Derived.Test.YtkflcpfekaddpaaDoorSg21
namespace Go.Proofs.YtkflcpfekaddpaaDoor
open Go.RowKit
def stW (n : Int) : ByteArray := if n = 0 then ⟨#[115, 104, 117, 116]⟩ else if n = 1 then ⟨#[111, 112, 101, 110]⟩ else ⟨#[108, 111, 99, 107, 101, 100]⟩
def chH (c : Cst) : ByteArray := (stW c.st ++ ⟨#[32, 100, 117, 115, 116, 32]⟩) ++ numT c.du
/-- the text with the first k sheets of the stack -/
def chT (H : ByteArray) (l : List Int) : Nat → ByteArray
  | 0 => H
  | k + 1 => (chT H l k ++ ⟨#[32]⟩) ++ numT (gd l k)
def chS (c : Cst) (l : List Int) : ByteArray := if areCh c l then chT (chH c) l l.length else ⟨#[]⟩
theorem areCh_facts {c : Cst} {l : List Int} (h : areCh c l = true) : 0 ≤ c.st ∧ c.st ≤ 2 ∧ 0 ≤ c.du ∧ c.du ≤ 100 ∧ l.length ≤ 10 ∧ ∀ i, i < l.length → 1 ≤ gd l i ∧ gd l i ≤ 999 := by
  simp only [areCh, tailB, Bool.and_eq_true, inB_iff, decide_eq_true_eq] at h
  obtain ⟨a1, ⟨⟨⟨⟨⟨⟨a2, a3⟩, a4⟩, a5⟩, a6, a7⟩, a8⟩, a9⟩, a10⟩ := h
  refine ⟨a2, a3, a6, a7, a5, fun i hi => ?_⟩
  have := allTo_iff.1 a1 i hi
  simp only [stkAt, Bool.and_eq_true, inB_iff] at this
  exact this.1
theorem stW_size (n : Int) : (stW n).size ≤ 6 := by
  unfold stW
  split
  · decide
  · split <;> decide
theorem chT_size (H : ByteArray) (l : List Int) (hH : H.size ≤ 30) : ∀ k, (chT H l k).size ≤ 30 + 19 * k
  | 0 => by show H.size ≤ _; omega
  | k + 1 => by
    have h1 := chT_size H l hH k
    have h2 : (numT (gd l k)).size ≤ 18 := numF_size 17 _
    show ((chT H l k ++ ⟨#[32]⟩) ++ numT (gd l k)).size ≤ _
    rw [ByteArray.size_append, ByteArray.size_append]
    show _ + 1 + _ ≤ _
    omega
theorem chH_size (c : Cst) : (chH c).size ≤ 30 := by
  have h1 := stW_size c.st
  have h2 : (numT c.du).size ≤ 18 := numF_size 17 _
  show ((stW c.st ++ ⟨#[32, 100, 117, 115, 116, 32]⟩) ++ numT c.du).size ≤ _
  rw [ByteArray.size_append, ByteArray.size_append]
  show _ + 6 + _ ≤ _
  omega
end Go.Proofs.YtkflcpfekaddpaaDoor
