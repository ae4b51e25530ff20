/-
  No cell of these rows narrows 'for every input' (looked for: loops, veiled, ifaces, maps, wideKeys, modest, calm, conditions, laid).
  DERIVED. THE GIVEN ROWS OF THIS SEAT. 10 by the template 'for every input the law returns true; each argument reads behind the call as it read before'; 0 by the template 'total and deterministic' (their statements: YtmlgjilflpdffaaTotals.lean).
  GIVEN WITH THE SEED: the statements are not yours to turn. If you find one false, say at which input.
  Laid BY PROGRAM, IN A SANDBOX (cutbox-rows.mjs): the forced cells as the released guide's own fill.sh prints them over the translation 1c71211706e27945… (all of the seat's roots in one cut). By AI agents, Wed Nov 11 2026. No macro, syntax, notation, axiom, sorry.
-/
import Derived.Test.YtmlgjilflpdffaaChecked
import GoSem.Claim
import GoSem.ClaimJoined
import GoSem.ClaimMapViews
import Derived.JoinedTies
import Derived.KernelRfl
namespace Go.Proofs.Ytmlgjilflpdffaa
/- THE CELL 'sum', in the pinned program and in every row, IS THE sha256 OF THE DUMP (.gsa) THAT YtmlgjilflpdffaaProg.lean LOADS. Nothing in Lean hashes anything: it is a label: what it is worth is what the hold of that sum in a sandbox is worth. -/
noncomputable def Try.pinned : Pinned := { name := "ytmlgjilflpdffaa", sum := "1c71211706e27945f470ec8f26258381ac43a3fb2eb2d3e83b5515e174c0bdb7", checked := Try.checked }
namespace Rows
def none {H : Type} : Left H := { results := [], args := [] }

/-- 'archivoltlaw06.PressMatches': WHATEVER THE INPUT: true; the input reads as it did. -/
def pressMatchesSpec : ChangeSpec := { name := "pressMatches", fn := fun _ => fun
  | [d1, d2] => { results := [.lit (.bool true)], args := [d1, d2] }
  | _ => none }
def pressMatchesRow : OpenClaim := { program := "ytmlgjilflpdffaa", sum := "1c71211706e27945f470ec8f26258381ac43a3fb2eb2d3e83b5515e174c0bdb7", func := "archivolt/archivoltlaw06.PressMatches", spec := "pressMatches", unfollowed := true, recurses := true, apart := false }
def PressMatchesSaid : Prop := pressMatchesRow.holds Try.pinned (OpenSpec.ofChange pressMatchesSpec)

/-- ITS FALSE NEIGHBOUR: 'it returns false'. Refute it at one input. -/
def pressMatchesWrong : ChangeSpec := { name := "pressMatches", fn := fun _ => fun
  | [d1, d2] => { results := [.lit (.bool false)], args := [d1, d2] }
  | _ => none }
def PressMatchesWrongFalsely : Prop := pressMatchesRow.holds Try.pinned (OpenSpec.ofChange pressMatchesWrong)

/-- 'archivoltlaw06.PressGreedy': WHATEVER THE INPUT: true; the input reads as it did. -/
def pressGreedySpec : ChangeSpec := { name := "pressGreedy", fn := fun _ => fun
  | [d] => { results := [.lit (.bool true)], args := [d] }
  | _ => none }
def pressGreedyRow : OpenClaim := { program := "ytmlgjilflpdffaa", sum := "1c71211706e27945f470ec8f26258381ac43a3fb2eb2d3e83b5515e174c0bdb7", func := "archivolt/archivoltlaw06.PressGreedy", spec := "pressGreedy", unfollowed := true, recurses := true, apart := false }
def PressGreedySaid : Prop := pressGreedyRow.holds Try.pinned (OpenSpec.ofChange pressGreedySpec)

/-- ITS FALSE NEIGHBOUR: 'it returns false'. Refute it at one input. -/
def pressGreedyWrong : ChangeSpec := { name := "pressGreedy", fn := fun _ => fun
  | [d] => { results := [.lit (.bool false)], args := [d] }
  | _ => none }
def PressGreedyWrongFalsely : Prop := pressGreedyRow.holds Try.pinned (OpenSpec.ofChange pressGreedyWrong)

/-- 'archivoltlaw06.PressExpands': WHATEVER THE INPUT: true; the input reads as it did. -/
def pressExpandsSpec : ChangeSpec := { name := "pressExpands", fn := fun _ => fun
  | [d1, d2] => { results := [.lit (.bool true)], args := [d1, d2] }
  | _ => none }
def pressExpandsRow : OpenClaim := { program := "ytmlgjilflpdffaa", sum := "1c71211706e27945f470ec8f26258381ac43a3fb2eb2d3e83b5515e174c0bdb7", func := "archivolt/archivoltlaw06.PressExpands", spec := "pressExpands", unfollowed := true, recurses := true, apart := false }
def PressExpandsSaid : Prop := pressExpandsRow.holds Try.pinned (OpenSpec.ofChange pressExpandsSpec)

/-- ITS FALSE NEIGHBOUR: 'it returns false'. Refute it at one input. -/
def pressExpandsWrong : ChangeSpec := { name := "pressExpands", fn := fun _ => fun
  | [d1, d2] => { results := [.lit (.bool false)], args := [d1, d2] }
  | _ => none }
def PressExpandsWrongFalsely : Prop := pressExpandsRow.holds Try.pinned (OpenSpec.ofChange pressExpandsWrong)

/-- 'archivoltlaw06.PressTokens': WHATEVER THE INPUT: true; the input reads as it did. -/
def pressTokensSpec : ChangeSpec := { name := "pressTokens", fn := fun _ => fun
  | [d1, d2] => { results := [.lit (.bool true)], args := [d1, d2] }
  | _ => none }
def pressTokensRow : OpenClaim := { program := "ytmlgjilflpdffaa", sum := "1c71211706e27945f470ec8f26258381ac43a3fb2eb2d3e83b5515e174c0bdb7", func := "archivolt/archivoltlaw06.PressTokens", spec := "pressTokens", unfollowed := true, recurses := true, apart := false }
def PressTokensSaid : Prop := pressTokensRow.holds Try.pinned (OpenSpec.ofChange pressTokensSpec)

/-- ITS FALSE NEIGHBOUR: 'it returns false'. Refute it at one input. -/
def pressTokensWrong : ChangeSpec := { name := "pressTokens", fn := fun _ => fun
  | [d1, d2] => { results := [.lit (.bool false)], args := [d1, d2] }
  | _ => none }
def PressTokensWrongFalsely : Prop := pressTokensRow.holds Try.pinned (OpenSpec.ofChange pressTokensWrong)

/-- 'archivoltlaw06.PressPrefixes': WHATEVER THE INPUT: true; the input reads as it did. -/
def pressPrefixesSpec : ChangeSpec := { name := "pressPrefixes", fn := fun _ => fun
  | [d1, d2] => { results := [.lit (.bool true)], args := [d1, d2] }
  | _ => none }
def pressPrefixesRow : OpenClaim := { program := "ytmlgjilflpdffaa", sum := "1c71211706e27945f470ec8f26258381ac43a3fb2eb2d3e83b5515e174c0bdb7", func := "archivolt/archivoltlaw06.PressPrefixes", spec := "pressPrefixes", unfollowed := true, recurses := true, apart := false }
def PressPrefixesSaid : Prop := pressPrefixesRow.holds Try.pinned (OpenSpec.ofChange pressPrefixesSpec)

/-- ITS FALSE NEIGHBOUR: 'it returns false'. Refute it at one input. -/
def pressPrefixesWrong : ChangeSpec := { name := "pressPrefixes", fn := fun _ => fun
  | [d1, d2] => { results := [.lit (.bool false)], args := [d1, d2] }
  | _ => none }
def PressPrefixesWrongFalsely : Prop := pressPrefixesRow.holds Try.pinned (OpenSpec.ofChange pressPrefixesWrong)

/-- 'archivoltlaw06.PressCompresses': WHATEVER THE INPUT: true; the input reads as it did. -/
def pressCompressesSpec : ChangeSpec := { name := "pressCompresses", fn := fun _ => fun
  | [d] => { results := [.lit (.bool true)], args := [d] }
  | _ => none }
def pressCompressesRow : OpenClaim := { program := "ytmlgjilflpdffaa", sum := "1c71211706e27945f470ec8f26258381ac43a3fb2eb2d3e83b5515e174c0bdb7", func := "archivolt/archivoltlaw06.PressCompresses", spec := "pressCompresses", unfollowed := true, recurses := true, apart := false }
def PressCompressesSaid : Prop := pressCompressesRow.holds Try.pinned (OpenSpec.ofChange pressCompressesSpec)

/-- ITS FALSE NEIGHBOUR: 'it returns false'. Refute it at one input. -/
def pressCompressesWrong : ChangeSpec := { name := "pressCompresses", fn := fun _ => fun
  | [d] => { results := [.lit (.bool false)], args := [d] }
  | _ => none }
def PressCompressesWrongFalsely : Prop := pressCompressesRow.holds Try.pinned (OpenSpec.ofChange pressCompressesWrong)

/-- 'archivoltlaw06.PressBack': WHATEVER THE INPUT: true; the input reads as it did. -/
def pressBackSpec : ChangeSpec := { name := "pressBack", fn := fun _ => fun
  | [d] => { results := [.lit (.bool true)], args := [d] }
  | _ => none }
def pressBackRow : OpenClaim := { program := "ytmlgjilflpdffaa", sum := "1c71211706e27945f470ec8f26258381ac43a3fb2eb2d3e83b5515e174c0bdb7", func := "archivolt/archivoltlaw06.PressBack", spec := "pressBack", unfollowed := true, recurses := true, apart := false }
def PressBackSaid : Prop := pressBackRow.holds Try.pinned (OpenSpec.ofChange pressBackSpec)

/-- ITS FALSE NEIGHBOUR: 'it returns false'. Refute it at one input. -/
def pressBackWrong : ChangeSpec := { name := "pressBack", fn := fun _ => fun
  | [d] => { results := [.lit (.bool false)], args := [d] }
  | _ => none }
def PressBackWrongFalsely : Prop := pressBackRow.holds Try.pinned (OpenSpec.ofChange pressBackWrong)

/-- 'archivoltlaw06.PressShortest': WHATEVER THE INPUT: true; the input reads as it did. -/
def pressShortestSpec : ChangeSpec := { name := "pressShortest", fn := fun _ => fun
  | [d] => { results := [.lit (.bool true)], args := [d] }
  | _ => none }
def pressShortestRow : OpenClaim := { program := "ytmlgjilflpdffaa", sum := "1c71211706e27945f470ec8f26258381ac43a3fb2eb2d3e83b5515e174c0bdb7", func := "archivolt/archivoltlaw06.PressShortest", spec := "pressShortest", unfollowed := true, recurses := true, apart := false }
def PressShortestSaid : Prop := pressShortestRow.holds Try.pinned (OpenSpec.ofChange pressShortestSpec)

/-- ITS FALSE NEIGHBOUR: 'it returns false'. Refute it at one input. -/
def pressShortestWrong : ChangeSpec := { name := "pressShortest", fn := fun _ => fun
  | [d] => { results := [.lit (.bool false)], args := [d] }
  | _ => none }
def PressShortestWrongFalsely : Prop := pressShortestRow.holds Try.pinned (OpenSpec.ofChange pressShortestWrong)

/-- 'archivoltlaw06.PressBounds': WHATEVER THE INPUT: true; the input reads as it did. -/
def pressBoundsSpec : ChangeSpec := { name := "pressBounds", fn := fun _ => fun
  | [d] => { results := [.lit (.bool true)], args := [d] }
  | _ => none }
def pressBoundsRow : OpenClaim := { program := "ytmlgjilflpdffaa", sum := "1c71211706e27945f470ec8f26258381ac43a3fb2eb2d3e83b5515e174c0bdb7", func := "archivolt/archivoltlaw06.PressBounds", spec := "pressBounds", unfollowed := true, recurses := true, apart := false }
def PressBoundsSaid : Prop := pressBoundsRow.holds Try.pinned (OpenSpec.ofChange pressBoundsSpec)

/-- ITS FALSE NEIGHBOUR: 'it returns false'. Refute it at one input. -/
def pressBoundsWrong : ChangeSpec := { name := "pressBounds", fn := fun _ => fun
  | [d] => { results := [.lit (.bool false)], args := [d] }
  | _ => none }
def PressBoundsWrongFalsely : Prop := pressBoundsRow.holds Try.pinned (OpenSpec.ofChange pressBoundsWrong)

/-- 'archivoltlaw06.PressGrowth': WHATEVER THE INPUT: true; the input reads as it did. -/
def pressGrowthSpec : ChangeSpec := { name := "pressGrowth", fn := fun _ => fun
  | [d1, d2] => { results := [.lit (.bool true)], args := [d1, d2] }
  | _ => none }
def pressGrowthRow : OpenClaim := { program := "ytmlgjilflpdffaa", sum := "1c71211706e27945f470ec8f26258381ac43a3fb2eb2d3e83b5515e174c0bdb7", func := "archivolt/archivoltlaw06.PressGrowth", spec := "pressGrowth", unfollowed := true, recurses := true, apart := false }
def PressGrowthSaid : Prop := pressGrowthRow.holds Try.pinned (OpenSpec.ofChange pressGrowthSpec)

/-- ITS FALSE NEIGHBOUR: 'it returns false'. Refute it at one input. -/
def pressGrowthWrong : ChangeSpec := { name := "pressGrowth", fn := fun _ => fun
  | [d1, d2] => { results := [.lit (.bool false)], args := [d1, d2] }
  | _ => none }
def PressGrowthWrongFalsely : Prop := pressGrowthRow.holds Try.pinned (OpenSpec.ofChange pressGrowthWrong)

/- THE SECOND FORM. 'bulk': how many values and letters a reading holds, each counted each time it is reached (what is shared counts as often as it is met; a slice's spare places count too). A statement '..UptoSaid' is the law's where the arguments, and the package variables that the reading takes, are together of bulk at most 1048576: NARROWER than '..Said'. Prove '..Said' where nothing that the law and all that it calls make is longer than what came in: it says more and counts as full. Else prove '..UptoSaid'. A law counts once. -/
mutual
def uptoBulk {H : Type} : DataW H → Nat
  | .lit (.string bytes) => bytes.length + 1
  | .lit _ => 1
  | .nil => 1
  | .ptr d => uptoBulk d + 1
  | .slice elems spare => uptoBulkAll elems + uptoBulkAll spare + 1
  | .agg parts => uptoBulkAll parts + 1
  | .iface _ d => uptoBulk d + 1
  | .map entries => uptoBulkEntries entries + 1
  | .held _ => 1
def uptoBulkAll {H : Type} : List (DataW H) → Nat
  | [] => 0
  | d :: r => uptoBulk d + uptoBulkAll r
def uptoBulkEntries {H : Type} : List (Lit × DataW H) → Nat
  | [] => 0
  | x :: r => uptoBulkEntry x + uptoBulkEntries r
def uptoBulkEntry {H : Type} : Lit × DataW H → Nat
  | (.string bytes, d) => bytes.length + uptoBulk d + 1
  | (_, d) => uptoBulk d + 1
 end
def uptoSmall : (H : Type) → List (DataW H) → Bool := fun _ ds => decide (uptoBulkAll ds ≤ 1048576)
def OpenSpec.upto (s : _root_.Go.ChangeSpec) : _root_.Go.OpenSpec := { _root_.Go.OpenSpec.ofChange s with cond := some uptoSmall }

/-- 'archivoltlaw06.PressMatches', WHERE WHAT IT READS IS OF BULK AT MOST 1048576: true; the input reads as it did. -/
def pressMatchesUptoRow : OpenClaim := { program := "ytmlgjilflpdffaa", sum := "1c71211706e27945f470ec8f26258381ac43a3fb2eb2d3e83b5515e174c0bdb7", func := "archivolt/archivoltlaw06.PressMatches", spec := "pressMatches", unfollowed := true, recurses := true, apart := false, narrowed := true }
def PressMatchesUptoSaid : Prop := pressMatchesUptoRow.holds Try.pinned (OpenSpec.upto pressMatchesSpec)

/-- 'archivoltlaw06.PressGreedy', WHERE WHAT IT READS IS OF BULK AT MOST 1048576: true; the input reads as it did. -/
def pressGreedyUptoRow : OpenClaim := { program := "ytmlgjilflpdffaa", sum := "1c71211706e27945f470ec8f26258381ac43a3fb2eb2d3e83b5515e174c0bdb7", func := "archivolt/archivoltlaw06.PressGreedy", spec := "pressGreedy", unfollowed := true, recurses := true, apart := false, narrowed := true }
def PressGreedyUptoSaid : Prop := pressGreedyUptoRow.holds Try.pinned (OpenSpec.upto pressGreedySpec)

/-- 'archivoltlaw06.PressExpands', WHERE WHAT IT READS IS OF BULK AT MOST 1048576: true; the input reads as it did. -/
def pressExpandsUptoRow : OpenClaim := { program := "ytmlgjilflpdffaa", sum := "1c71211706e27945f470ec8f26258381ac43a3fb2eb2d3e83b5515e174c0bdb7", func := "archivolt/archivoltlaw06.PressExpands", spec := "pressExpands", unfollowed := true, recurses := true, apart := false, narrowed := true }
def PressExpandsUptoSaid : Prop := pressExpandsUptoRow.holds Try.pinned (OpenSpec.upto pressExpandsSpec)

/-- 'archivoltlaw06.PressTokens', WHERE WHAT IT READS IS OF BULK AT MOST 1048576: true; the input reads as it did. -/
def pressTokensUptoRow : OpenClaim := { program := "ytmlgjilflpdffaa", sum := "1c71211706e27945f470ec8f26258381ac43a3fb2eb2d3e83b5515e174c0bdb7", func := "archivolt/archivoltlaw06.PressTokens", spec := "pressTokens", unfollowed := true, recurses := true, apart := false, narrowed := true }
def PressTokensUptoSaid : Prop := pressTokensUptoRow.holds Try.pinned (OpenSpec.upto pressTokensSpec)

/-- 'archivoltlaw06.PressPrefixes', WHERE WHAT IT READS IS OF BULK AT MOST 1048576: true; the input reads as it did. -/
def pressPrefixesUptoRow : OpenClaim := { program := "ytmlgjilflpdffaa", sum := "1c71211706e27945f470ec8f26258381ac43a3fb2eb2d3e83b5515e174c0bdb7", func := "archivolt/archivoltlaw06.PressPrefixes", spec := "pressPrefixes", unfollowed := true, recurses := true, apart := false, narrowed := true }
def PressPrefixesUptoSaid : Prop := pressPrefixesUptoRow.holds Try.pinned (OpenSpec.upto pressPrefixesSpec)

/-- 'archivoltlaw06.PressCompresses', WHERE WHAT IT READS IS OF BULK AT MOST 1048576: true; the input reads as it did. -/
def pressCompressesUptoRow : OpenClaim := { program := "ytmlgjilflpdffaa", sum := "1c71211706e27945f470ec8f26258381ac43a3fb2eb2d3e83b5515e174c0bdb7", func := "archivolt/archivoltlaw06.PressCompresses", spec := "pressCompresses", unfollowed := true, recurses := true, apart := false, narrowed := true }
def PressCompressesUptoSaid : Prop := pressCompressesUptoRow.holds Try.pinned (OpenSpec.upto pressCompressesSpec)

/-- 'archivoltlaw06.PressBack', WHERE WHAT IT READS IS OF BULK AT MOST 1048576: true; the input reads as it did. -/
def pressBackUptoRow : OpenClaim := { program := "ytmlgjilflpdffaa", sum := "1c71211706e27945f470ec8f26258381ac43a3fb2eb2d3e83b5515e174c0bdb7", func := "archivolt/archivoltlaw06.PressBack", spec := "pressBack", unfollowed := true, recurses := true, apart := false, narrowed := true }
def PressBackUptoSaid : Prop := pressBackUptoRow.holds Try.pinned (OpenSpec.upto pressBackSpec)

/-- 'archivoltlaw06.PressShortest', WHERE WHAT IT READS IS OF BULK AT MOST 1048576: true; the input reads as it did. -/
def pressShortestUptoRow : OpenClaim := { program := "ytmlgjilflpdffaa", sum := "1c71211706e27945f470ec8f26258381ac43a3fb2eb2d3e83b5515e174c0bdb7", func := "archivolt/archivoltlaw06.PressShortest", spec := "pressShortest", unfollowed := true, recurses := true, apart := false, narrowed := true }
def PressShortestUptoSaid : Prop := pressShortestUptoRow.holds Try.pinned (OpenSpec.upto pressShortestSpec)

/-- 'archivoltlaw06.PressBounds', WHERE WHAT IT READS IS OF BULK AT MOST 1048576: true; the input reads as it did. -/
def pressBoundsUptoRow : OpenClaim := { program := "ytmlgjilflpdffaa", sum := "1c71211706e27945f470ec8f26258381ac43a3fb2eb2d3e83b5515e174c0bdb7", func := "archivolt/archivoltlaw06.PressBounds", spec := "pressBounds", unfollowed := true, recurses := true, apart := false, narrowed := true }
def PressBoundsUptoSaid : Prop := pressBoundsUptoRow.holds Try.pinned (OpenSpec.upto pressBoundsSpec)

/-- 'archivoltlaw06.PressGrowth', WHERE WHAT IT READS IS OF BULK AT MOST 1048576: true; the input reads as it did. -/
def pressGrowthUptoRow : OpenClaim := { program := "ytmlgjilflpdffaa", sum := "1c71211706e27945f470ec8f26258381ac43a3fb2eb2d3e83b5515e174c0bdb7", func := "archivolt/archivoltlaw06.PressGrowth", spec := "pressGrowth", unfollowed := true, recurses := true, apart := false, narrowed := true }
def PressGrowthUptoSaid : Prop := pressGrowthUptoRow.holds Try.pinned (OpenSpec.upto pressGrowthSpec)

end Rows
end Go.Proofs.Ytmlgjilflpdffaa
