/-
  No cell of these rows narrows 'for every input' (looked for: loops, veiled, ifaces, maps, wideKeys, modest, calm, conditions, laid).
  DERIVED. THE GIVEN ROWS OF THIS SEAT. 10 by the template 'for every input the law returns true; each argument reads behind the call as it read before'; 0 by the template 'total and deterministic' (their statements: YtemgcbmcjpgelaaTotals.lean).
  GIVEN WITH THE SEED: the statements are not yours to turn. If you find one false, say at which input.
  Laid BY PROGRAM, IN A SANDBOX (cutbox-rows.mjs): the forced cells as the released guide's own fill.sh prints them over the translation d1a8dd4a80ce8954… (all of the seat's roots in one cut). By AI agents, Wed Nov 11 2026. No macro, syntax, notation, axiom, sorry.
-/
import Derived.Test.YtemgcbmcjpgelaaChecked
import GoSem.Claim
import GoSem.ClaimJoined
import GoSem.ClaimMapViews
import Derived.JoinedTies
import Derived.KernelRfl
namespace Go.Proofs.Ytemgcbmcjpgelaa
/- THE CELL 'sum', in the pinned program and in every row, IS THE sha256 OF THE DUMP (.gsa) THAT YtemgcbmcjpgelaaProg.lean LOADS. Nothing in Lean hashes anything: it is a label: what it is worth is what the hold of that sum in a sandbox is worth. -/
noncomputable def Try.pinned : Pinned := { name := "ytemgcbmcjpgelaa", sum := "d1a8dd4a80ce8954c240e005ab2018c070b6498cd2961648348aed400bf1fcd4", checked := Try.checked }
namespace Rows
def none {H : Type} : Left H := { results := [], args := [] }

/-- 'laws.FnExactIsCard': WHATEVER THE INPUT: true; the input reads as it did. -/
def fnExactIsCardSpec : ChangeSpec := { name := "fnExactIsCard", fn := fun _ => fun
  | [d] => { results := [.lit (.bool true)], args := [d] }
  | _ => none }
def fnExactIsCardRow : OpenClaim := { program := "ytemgcbmcjpgelaa", sum := "d1a8dd4a80ce8954c240e005ab2018c070b6498cd2961648348aed400bf1fcd4", func := "loop.example/g01060/laws.FnExactIsCard", spec := "fnExactIsCard", unfollowed := true, recurses := true, apart := false }
def FnExactIsCardSaid : Prop := fnExactIsCardRow.holds Try.pinned (OpenSpec.ofChange fnExactIsCardSpec)

/-- ITS FALSE NEIGHBOUR: 'it returns false'. Refute it at one input. -/
def fnExactIsCardWrong : ChangeSpec := { name := "fnExactIsCard", fn := fun _ => fun
  | [d] => { results := [.lit (.bool false)], args := [d] }
  | _ => none }
def FnExactIsCardWrongFalsely : Prop := fnExactIsCardRow.holds Try.pinned (OpenSpec.ofChange fnExactIsCardWrong)

/-- 'laws.FnExactAreCards': WHATEVER THE INPUT: true; the input reads as it did. -/
def fnExactAreCardsSpec : ChangeSpec := { name := "fnExactAreCards", fn := fun _ => fun
  | [d] => { results := [.lit (.bool true)], args := [d] }
  | _ => none }
def fnExactAreCardsRow : OpenClaim := { program := "ytemgcbmcjpgelaa", sum := "d1a8dd4a80ce8954c240e005ab2018c070b6498cd2961648348aed400bf1fcd4", func := "loop.example/g01060/laws.FnExactAreCards", spec := "fnExactAreCards", unfollowed := true, recurses := true, apart := false }
def FnExactAreCardsSaid : Prop := fnExactAreCardsRow.holds Try.pinned (OpenSpec.ofChange fnExactAreCardsSpec)

/-- ITS FALSE NEIGHBOUR: 'it returns false'. Refute it at one input. -/
def fnExactAreCardsWrong : ChangeSpec := { name := "fnExactAreCards", fn := fun _ => fun
  | [d] => { results := [.lit (.bool false)], args := [d] }
  | _ => none }
def FnExactAreCardsWrongFalsely : Prop := fnExactAreCardsRow.holds Try.pinned (OpenSpec.ofChange fnExactAreCardsWrong)

/-- 'laws.FnExactWordCounts': WHATEVER THE INPUT: true; the input reads as it did. -/
def fnExactWordCountsSpec : ChangeSpec := { name := "fnExactWordCounts", fn := fun _ => fun
  | [d1, d2] => { results := [.lit (.bool true)], args := [d1, d2] }
  | _ => none }
def fnExactWordCountsRow : OpenClaim := { program := "ytemgcbmcjpgelaa", sum := "d1a8dd4a80ce8954c240e005ab2018c070b6498cd2961648348aed400bf1fcd4", func := "loop.example/g01060/laws.FnExactWordCounts", spec := "fnExactWordCounts", unfollowed := true, recurses := true, apart := false }
def FnExactWordCountsSaid : Prop := fnExactWordCountsRow.holds Try.pinned (OpenSpec.ofChange fnExactWordCountsSpec)

/-- ITS FALSE NEIGHBOUR: 'it returns false'. Refute it at one input. -/
def fnExactWordCountsWrong : ChangeSpec := { name := "fnExactWordCounts", fn := fun _ => fun
  | [d1, d2] => { results := [.lit (.bool false)], args := [d1, d2] }
  | _ => none }
def FnExactWordCountsWrongFalsely : Prop := fnExactWordCountsRow.holds Try.pinned (OpenSpec.ofChange fnExactWordCountsWrong)

/-- 'laws.FnExactNearestCard': WHATEVER THE INPUT: true; the input reads as it did. -/
def fnExactNearestCardSpec : ChangeSpec := { name := "fnExactNearestCard", fn := fun _ => fun
  | [d1, d2] => { results := [.lit (.bool true)], args := [d1, d2] }
  | _ => none }
def fnExactNearestCardRow : OpenClaim := { program := "ytemgcbmcjpgelaa", sum := "d1a8dd4a80ce8954c240e005ab2018c070b6498cd2961648348aed400bf1fcd4", func := "loop.example/g01060/laws.FnExactNearestCard", spec := "fnExactNearestCard", unfollowed := true, recurses := true, apart := false }
def FnExactNearestCardSaid : Prop := fnExactNearestCardRow.holds Try.pinned (OpenSpec.ofChange fnExactNearestCardSpec)

/-- ITS FALSE NEIGHBOUR: 'it returns false'. Refute it at one input. -/
def fnExactNearestCardWrong : ChangeSpec := { name := "fnExactNearestCard", fn := fun _ => fun
  | [d1, d2] => { results := [.lit (.bool false)], args := [d1, d2] }
  | _ => none }
def FnExactNearestCardWrongFalsely : Prop := fnExactNearestCardRow.holds Try.pinned (OpenSpec.ofChange fnExactNearestCardWrong)

/-- 'laws.FnExactCommonWords': WHATEVER THE INPUT: true; the input reads as it did. -/
def fnExactCommonWordsSpec : ChangeSpec := { name := "fnExactCommonWords", fn := fun _ => fun
  | [d1, d2, d3] => { results := [.lit (.bool true)], args := [d1, d2, d3] }
  | _ => none }
def fnExactCommonWordsRow : OpenClaim := { program := "ytemgcbmcjpgelaa", sum := "d1a8dd4a80ce8954c240e005ab2018c070b6498cd2961648348aed400bf1fcd4", func := "loop.example/g01060/laws.FnExactCommonWords", spec := "fnExactCommonWords", unfollowed := true, recurses := true, apart := false }
def FnExactCommonWordsSaid : Prop := fnExactCommonWordsRow.holds Try.pinned (OpenSpec.ofChange fnExactCommonWordsSpec)

/-- ITS FALSE NEIGHBOUR: 'it returns false'. Refute it at one input. -/
def fnExactCommonWordsWrong : ChangeSpec := { name := "fnExactCommonWords", fn := fun _ => fun
  | [d1, d2, d3] => { results := [.lit (.bool false)], args := [d1, d2, d3] }
  | _ => none }
def FnExactCommonWordsWrongFalsely : Prop := fnExactCommonWordsRow.holds Try.pinned (OpenSpec.ofChange fnExactCommonWordsWrong)

/-- 'laws.FnExactCardsWith': WHATEVER THE INPUT: true; the input reads as it did. -/
def fnExactCardsWithSpec : ChangeSpec := { name := "fnExactCardsWith", fn := fun _ => fun
  | [d1, d2] => { results := [.lit (.bool true)], args := [d1, d2] }
  | _ => none }
def fnExactCardsWithRow : OpenClaim := { program := "ytemgcbmcjpgelaa", sum := "d1a8dd4a80ce8954c240e005ab2018c070b6498cd2961648348aed400bf1fcd4", func := "loop.example/g01060/laws.FnExactCardsWith", spec := "fnExactCardsWith", unfollowed := true, recurses := true, apart := false }
def FnExactCardsWithSaid : Prop := fnExactCardsWithRow.holds Try.pinned (OpenSpec.ofChange fnExactCardsWithSpec)

/-- ITS FALSE NEIGHBOUR: 'it returns false'. Refute it at one input. -/
def fnExactCardsWithWrong : ChangeSpec := { name := "fnExactCardsWith", fn := fun _ => fun
  | [d1, d2] => { results := [.lit (.bool false)], args := [d1, d2] }
  | _ => none }
def FnExactCardsWithWrongFalsely : Prop := fnExactCardsWithRow.holds Try.pinned (OpenSpec.ofChange fnExactCardsWithWrong)

/-- 'laws.FnExactCardsBetween': WHATEVER THE INPUT: true; the input reads as it did. -/
def fnExactCardsBetweenSpec : ChangeSpec := { name := "fnExactCardsBetween", fn := fun _ => fun
  | [d1, d2, d3] => { results := [.lit (.bool true)], args := [d1, d2, d3] }
  | _ => none }
def fnExactCardsBetweenRow : OpenClaim := { program := "ytemgcbmcjpgelaa", sum := "d1a8dd4a80ce8954c240e005ab2018c070b6498cd2961648348aed400bf1fcd4", func := "loop.example/g01060/laws.FnExactCardsBetween", spec := "fnExactCardsBetween", unfollowed := true, recurses := true, apart := false }
def FnExactCardsBetweenSaid : Prop := fnExactCardsBetweenRow.holds Try.pinned (OpenSpec.ofChange fnExactCardsBetweenSpec)

/-- ITS FALSE NEIGHBOUR: 'it returns false'. Refute it at one input. -/
def fnExactCardsBetweenWrong : ChangeSpec := { name := "fnExactCardsBetween", fn := fun _ => fun
  | [d1, d2, d3] => { results := [.lit (.bool false)], args := [d1, d2, d3] }
  | _ => none }
def FnExactCardsBetweenWrongFalsely : Prop := fnExactCardsBetweenRow.holds Try.pinned (OpenSpec.ofChange fnExactCardsBetweenWrong)

/-- 'laws.FnExactRankCards': WHATEVER THE INPUT: true; the input reads as it did. -/
def fnExactRankCardsSpec : ChangeSpec := { name := "fnExactRankCards", fn := fun _ => fun
  | [d1, d2] => { results := [.lit (.bool true)], args := [d1, d2] }
  | _ => none }
def fnExactRankCardsRow : OpenClaim := { program := "ytemgcbmcjpgelaa", sum := "d1a8dd4a80ce8954c240e005ab2018c070b6498cd2961648348aed400bf1fcd4", func := "loop.example/g01060/laws.FnExactRankCards", spec := "fnExactRankCards", unfollowed := true, recurses := true, apart := false }
def FnExactRankCardsSaid : Prop := fnExactRankCardsRow.holds Try.pinned (OpenSpec.ofChange fnExactRankCardsSpec)

/-- ITS FALSE NEIGHBOUR: 'it returns false'. Refute it at one input. -/
def fnExactRankCardsWrong : ChangeSpec := { name := "fnExactRankCards", fn := fun _ => fun
  | [d1, d2] => { results := [.lit (.bool false)], args := [d1, d2] }
  | _ => none }
def FnExactRankCardsWrongFalsely : Prop := fnExactRankCardsRow.holds Try.pinned (OpenSpec.ofChange fnExactRankCardsWrong)

/-- 'laws.FnExactRareWords': WHATEVER THE INPUT: true; the input reads as it did. -/
def fnExactRareWordsSpec : ChangeSpec := { name := "fnExactRareWords", fn := fun _ => fun
  | [d] => { results := [.lit (.bool true)], args := [d] }
  | _ => none }
def fnExactRareWordsRow : OpenClaim := { program := "ytemgcbmcjpgelaa", sum := "d1a8dd4a80ce8954c240e005ab2018c070b6498cd2961648348aed400bf1fcd4", func := "loop.example/g01060/laws.FnExactRareWords", spec := "fnExactRareWords", unfollowed := true, recurses := true, apart := false }
def FnExactRareWordsSaid : Prop := fnExactRareWordsRow.holds Try.pinned (OpenSpec.ofChange fnExactRareWordsSpec)

/-- ITS FALSE NEIGHBOUR: 'it returns false'. Refute it at one input. -/
def fnExactRareWordsWrong : ChangeSpec := { name := "fnExactRareWords", fn := fun _ => fun
  | [d] => { results := [.lit (.bool false)], args := [d] }
  | _ => none }
def FnExactRareWordsWrongFalsely : Prop := fnExactRareWordsRow.holds Try.pinned (OpenSpec.ofChange fnExactRareWordsWrong)

/-- 'laws.FnExactAddWord': WHATEVER THE INPUT: true; the input reads as it did. -/
def fnExactAddWordSpec : ChangeSpec := { name := "fnExactAddWord", fn := fun _ => fun
  | [d1, d2, d3] => { results := [.lit (.bool true)], args := [d1, d2, d3] }
  | _ => none }
def fnExactAddWordRow : OpenClaim := { program := "ytemgcbmcjpgelaa", sum := "d1a8dd4a80ce8954c240e005ab2018c070b6498cd2961648348aed400bf1fcd4", func := "loop.example/g01060/laws.FnExactAddWord", spec := "fnExactAddWord", unfollowed := true, recurses := true, apart := false }
def FnExactAddWordSaid : Prop := fnExactAddWordRow.holds Try.pinned (OpenSpec.ofChange fnExactAddWordSpec)

/-- ITS FALSE NEIGHBOUR: 'it returns false'. Refute it at one input. -/
def fnExactAddWordWrong : ChangeSpec := { name := "fnExactAddWord", fn := fun _ => fun
  | [d1, d2, d3] => { results := [.lit (.bool false)], args := [d1, d2, d3] }
  | _ => none }
def FnExactAddWordWrongFalsely : Prop := fnExactAddWordRow.holds Try.pinned (OpenSpec.ofChange fnExactAddWordWrong)

/- THE SECOND FORM. 'bulk': how many values and letters a reading holds, each counted each time it is reached (what is shared counts as often as it is met; a slice's spare places count too). A statement '..UptoSaid' is the law's where the arguments, and the package variables that the reading takes, are together of bulk at most 1048576: NARROWER than '..Said'. Prove '..Said' where nothing that the law and all that it calls make is longer than what came in: it says more and counts as full. Else prove '..UptoSaid'. A law counts once. -/
mutual
def uptoBulk {H : Type} : DataW H → Nat
  | .lit (.string bytes) => bytes.length + 1
  | .lit _ => 1
  | .nil => 1
  | .ptr d => uptoBulk d + 1
  | .slice elems spare => uptoBulkAll elems + uptoBulkAll spare + 1
  | .agg parts => uptoBulkAll parts + 1
  | .iface _ d => uptoBulk d + 1
  | .map entries => uptoBulkEntries entries + 1
  | .held _ => 1
def uptoBulkAll {H : Type} : List (DataW H) → Nat
  | [] => 0
  | d :: r => uptoBulk d + uptoBulkAll r
def uptoBulkEntries {H : Type} : List (Lit × DataW H) → Nat
  | [] => 0
  | x :: r => uptoBulkEntry x + uptoBulkEntries r
def uptoBulkEntry {H : Type} : Lit × DataW H → Nat
  | (.string bytes, d) => bytes.length + uptoBulk d + 1
  | (_, d) => uptoBulk d + 1
 end
def uptoSmall : (H : Type) → List (DataW H) → Bool := fun _ ds => decide (uptoBulkAll ds ≤ 1048576)
def OpenSpec.upto (s : _root_.Go.ChangeSpec) : _root_.Go.OpenSpec := { _root_.Go.OpenSpec.ofChange s with cond := some uptoSmall }

/-- 'laws.FnExactIsCard', WHERE WHAT IT READS IS OF BULK AT MOST 1048576: true; the input reads as it did. -/
def fnExactIsCardUptoRow : OpenClaim := { program := "ytemgcbmcjpgelaa", sum := "d1a8dd4a80ce8954c240e005ab2018c070b6498cd2961648348aed400bf1fcd4", func := "loop.example/g01060/laws.FnExactIsCard", spec := "fnExactIsCard", unfollowed := true, recurses := true, apart := false, narrowed := true }
def FnExactIsCardUptoSaid : Prop := fnExactIsCardUptoRow.holds Try.pinned (OpenSpec.upto fnExactIsCardSpec)

/-- 'laws.FnExactAreCards', WHERE WHAT IT READS IS OF BULK AT MOST 1048576: true; the input reads as it did. -/
def fnExactAreCardsUptoRow : OpenClaim := { program := "ytemgcbmcjpgelaa", sum := "d1a8dd4a80ce8954c240e005ab2018c070b6498cd2961648348aed400bf1fcd4", func := "loop.example/g01060/laws.FnExactAreCards", spec := "fnExactAreCards", unfollowed := true, recurses := true, apart := false, narrowed := true }
def FnExactAreCardsUptoSaid : Prop := fnExactAreCardsUptoRow.holds Try.pinned (OpenSpec.upto fnExactAreCardsSpec)

/-- 'laws.FnExactWordCounts', WHERE WHAT IT READS IS OF BULK AT MOST 1048576: true; the input reads as it did. -/
def fnExactWordCountsUptoRow : OpenClaim := { program := "ytemgcbmcjpgelaa", sum := "d1a8dd4a80ce8954c240e005ab2018c070b6498cd2961648348aed400bf1fcd4", func := "loop.example/g01060/laws.FnExactWordCounts", spec := "fnExactWordCounts", unfollowed := true, recurses := true, apart := false, narrowed := true }
def FnExactWordCountsUptoSaid : Prop := fnExactWordCountsUptoRow.holds Try.pinned (OpenSpec.upto fnExactWordCountsSpec)

/-- 'laws.FnExactNearestCard', WHERE WHAT IT READS IS OF BULK AT MOST 1048576: true; the input reads as it did. -/
def fnExactNearestCardUptoRow : OpenClaim := { program := "ytemgcbmcjpgelaa", sum := "d1a8dd4a80ce8954c240e005ab2018c070b6498cd2961648348aed400bf1fcd4", func := "loop.example/g01060/laws.FnExactNearestCard", spec := "fnExactNearestCard", unfollowed := true, recurses := true, apart := false, narrowed := true }
def FnExactNearestCardUptoSaid : Prop := fnExactNearestCardUptoRow.holds Try.pinned (OpenSpec.upto fnExactNearestCardSpec)

/-- 'laws.FnExactCommonWords', WHERE WHAT IT READS IS OF BULK AT MOST 1048576: true; the input reads as it did. -/
def fnExactCommonWordsUptoRow : OpenClaim := { program := "ytemgcbmcjpgelaa", sum := "d1a8dd4a80ce8954c240e005ab2018c070b6498cd2961648348aed400bf1fcd4", func := "loop.example/g01060/laws.FnExactCommonWords", spec := "fnExactCommonWords", unfollowed := true, recurses := true, apart := false, narrowed := true }
def FnExactCommonWordsUptoSaid : Prop := fnExactCommonWordsUptoRow.holds Try.pinned (OpenSpec.upto fnExactCommonWordsSpec)

/-- 'laws.FnExactCardsWith', WHERE WHAT IT READS IS OF BULK AT MOST 1048576: true; the input reads as it did. -/
def fnExactCardsWithUptoRow : OpenClaim := { program := "ytemgcbmcjpgelaa", sum := "d1a8dd4a80ce8954c240e005ab2018c070b6498cd2961648348aed400bf1fcd4", func := "loop.example/g01060/laws.FnExactCardsWith", spec := "fnExactCardsWith", unfollowed := true, recurses := true, apart := false, narrowed := true }
def FnExactCardsWithUptoSaid : Prop := fnExactCardsWithUptoRow.holds Try.pinned (OpenSpec.upto fnExactCardsWithSpec)

/-- 'laws.FnExactCardsBetween', WHERE WHAT IT READS IS OF BULK AT MOST 1048576: true; the input reads as it did. -/
def fnExactCardsBetweenUptoRow : OpenClaim := { program := "ytemgcbmcjpgelaa", sum := "d1a8dd4a80ce8954c240e005ab2018c070b6498cd2961648348aed400bf1fcd4", func := "loop.example/g01060/laws.FnExactCardsBetween", spec := "fnExactCardsBetween", unfollowed := true, recurses := true, apart := false, narrowed := true }
def FnExactCardsBetweenUptoSaid : Prop := fnExactCardsBetweenUptoRow.holds Try.pinned (OpenSpec.upto fnExactCardsBetweenSpec)

/-- 'laws.FnExactRankCards', WHERE WHAT IT READS IS OF BULK AT MOST 1048576: true; the input reads as it did. -/
def fnExactRankCardsUptoRow : OpenClaim := { program := "ytemgcbmcjpgelaa", sum := "d1a8dd4a80ce8954c240e005ab2018c070b6498cd2961648348aed400bf1fcd4", func := "loop.example/g01060/laws.FnExactRankCards", spec := "fnExactRankCards", unfollowed := true, recurses := true, apart := false, narrowed := true }
def FnExactRankCardsUptoSaid : Prop := fnExactRankCardsUptoRow.holds Try.pinned (OpenSpec.upto fnExactRankCardsSpec)

/-- 'laws.FnExactRareWords', WHERE WHAT IT READS IS OF BULK AT MOST 1048576: true; the input reads as it did. -/
def fnExactRareWordsUptoRow : OpenClaim := { program := "ytemgcbmcjpgelaa", sum := "d1a8dd4a80ce8954c240e005ab2018c070b6498cd2961648348aed400bf1fcd4", func := "loop.example/g01060/laws.FnExactRareWords", spec := "fnExactRareWords", unfollowed := true, recurses := true, apart := false, narrowed := true }
def FnExactRareWordsUptoSaid : Prop := fnExactRareWordsUptoRow.holds Try.pinned (OpenSpec.upto fnExactRareWordsSpec)

/-- 'laws.FnExactAddWord', WHERE WHAT IT READS IS OF BULK AT MOST 1048576: true; the input reads as it did. -/
def fnExactAddWordUptoRow : OpenClaim := { program := "ytemgcbmcjpgelaa", sum := "d1a8dd4a80ce8954c240e005ab2018c070b6498cd2961648348aed400bf1fcd4", func := "loop.example/g01060/laws.FnExactAddWord", spec := "fnExactAddWord", unfollowed := true, recurses := true, apart := false, narrowed := true }
def FnExactAddWordUptoSaid : Prop := fnExactAddWordUptoRow.holds Try.pinned (OpenSpec.upto fnExactAddWordSpec)

end Rows
end Go.Proofs.Ytemgcbmcjpgelaa
