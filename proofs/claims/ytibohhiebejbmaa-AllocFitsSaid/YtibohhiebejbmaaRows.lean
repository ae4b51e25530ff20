/-
  No cell of these rows narrows 'for every input' (looked for: loops, veiled, ifaces, maps, wideKeys, modest, calm, conditions, laid).
  DERIVED. THE GIVEN ROWS OF THIS SEAT. 6 by the template 'for every input the law returns true; each argument reads behind the call as it read before'; 0 by the template 'total and deterministic' (their statements: YtibohhiebejbmaaTotals.lean).
  GIVEN WITH THE SEED: the statements are not yours to turn. If you find one false, say at which input.
  Laid BY PROGRAM, IN A SANDBOX (cutbox-rows.mjs): the forced cells as the released guide's own fill.sh prints them over the translation 5c742d8d280a44ee… (all of the seat's roots in one cut). By AI agents, Wed Nov 11 2026. No macro, syntax, notation, axiom, sorry.
-/
import Derived.Test.YtibohhiebejbmaaChecked
import GoSem.Claim
import GoSem.ClaimJoined
import GoSem.ClaimMapViews
import Derived.JoinedTies
import Derived.KernelRfl
namespace Go.Proofs.Ytibohhiebejbmaa
/- THE CELL 'sum', in the pinned program and in every row, IS THE sha256 OF THE DUMP (.gsa) THAT YtibohhiebejbmaaProg.lean LOADS. Nothing in Lean hashes anything: it is a label: what it is worth is what the hold of that sum in a sandbox is worth. -/
noncomputable def Try.pinned : Pinned := { name := "ytibohhiebejbmaa", sum := "5c742d8d280a44ee0bd9a7c62291e2d11fdfbe399824c47a0f5960beb9f20741", checked := Try.checked }
namespace Rows
def none {H : Type} : Left H := { results := [], args := [] }

/-- 'archivoltlaw17.AllocActs': WHATEVER THE INPUT: true; the input reads as it did. -/
def allocActsSpec : ChangeSpec := { name := "allocActs", fn := fun _ => fun
  | [d1, d2, d3] => { results := [.lit (.bool true)], args := [d1, d2, d3] }
  | _ => none }
def allocActsRow : OpenClaim := { program := "ytibohhiebejbmaa", sum := "5c742d8d280a44ee0bd9a7c62291e2d11fdfbe399824c47a0f5960beb9f20741", func := "archivolt/archivoltlaw17.AllocActs", spec := "allocActs", unfollowed := true, recurses := true, apart := false }
def AllocActsSaid : Prop := allocActsRow.holds Try.pinned (OpenSpec.ofChange allocActsSpec)

/-- ITS FALSE NEIGHBOUR: 'it returns false'. Refute it at one input. -/
def allocActsWrong : ChangeSpec := { name := "allocActs", fn := fun _ => fun
  | [d1, d2, d3] => { results := [.lit (.bool false)], args := [d1, d2, d3] }
  | _ => none }
def AllocActsWrongFalsely : Prop := allocActsRow.holds Try.pinned (OpenSpec.ofChange allocActsWrong)

/-- 'archivoltlaw17.AllocApart': WHATEVER THE INPUT: true; the input reads as it did. -/
def allocApartSpec : ChangeSpec := { name := "allocApart", fn := fun _ => fun
  | [d1, d2, d3, d4, d5] => { results := [.lit (.bool true)], args := [d1, d2, d3, d4, d5] }
  | _ => none }
def allocApartRow : OpenClaim := { program := "ytibohhiebejbmaa", sum := "5c742d8d280a44ee0bd9a7c62291e2d11fdfbe399824c47a0f5960beb9f20741", func := "archivolt/archivoltlaw17.AllocApart", spec := "allocApart", unfollowed := true, recurses := true, apart := false }
def AllocApartSaid : Prop := allocApartRow.holds Try.pinned (OpenSpec.ofChange allocApartSpec)

/-- ITS FALSE NEIGHBOUR: 'it returns false'. Refute it at one input. -/
def allocApartWrong : ChangeSpec := { name := "allocApart", fn := fun _ => fun
  | [d1, d2, d3, d4, d5] => { results := [.lit (.bool false)], args := [d1, d2, d3, d4, d5] }
  | _ => none }
def AllocApartWrongFalsely : Prop := allocApartRow.holds Try.pinned (OpenSpec.ofChange allocApartWrong)

/-- 'archivoltlaw17.AllocTaken': WHATEVER THE INPUT: true; the input reads as it did. -/
def allocTakenSpec : ChangeSpec := { name := "allocTaken", fn := fun _ => fun
  | [d1, d2, d3, d4, d5] => { results := [.lit (.bool true)], args := [d1, d2, d3, d4, d5] }
  | _ => none }
def allocTakenRow : OpenClaim := { program := "ytibohhiebejbmaa", sum := "5c742d8d280a44ee0bd9a7c62291e2d11fdfbe399824c47a0f5960beb9f20741", func := "archivolt/archivoltlaw17.AllocTaken", spec := "allocTaken", unfollowed := true, recurses := true, apart := false }
def AllocTakenSaid : Prop := allocTakenRow.holds Try.pinned (OpenSpec.ofChange allocTakenSpec)

/-- ITS FALSE NEIGHBOUR: 'it returns false'. Refute it at one input. -/
def allocTakenWrong : ChangeSpec := { name := "allocTaken", fn := fun _ => fun
  | [d1, d2, d3, d4, d5] => { results := [.lit (.bool false)], args := [d1, d2, d3, d4, d5] }
  | _ => none }
def AllocTakenWrongFalsely : Prop := allocTakenRow.holds Try.pinned (OpenSpec.ofChange allocTakenWrong)

/-- 'archivoltlaw17.AllocCounts': WHATEVER THE INPUT: true; the input reads as it did. -/
def allocCountsSpec : ChangeSpec := { name := "allocCounts", fn := fun _ => fun
  | [d1, d2] => { results := [.lit (.bool true)], args := [d1, d2] }
  | _ => none }
def allocCountsRow : OpenClaim := { program := "ytibohhiebejbmaa", sum := "5c742d8d280a44ee0bd9a7c62291e2d11fdfbe399824c47a0f5960beb9f20741", func := "archivolt/archivoltlaw17.AllocCounts", spec := "allocCounts", unfollowed := true, recurses := true, apart := false }
def AllocCountsSaid : Prop := allocCountsRow.holds Try.pinned (OpenSpec.ofChange allocCountsSpec)

/-- ITS FALSE NEIGHBOUR: 'it returns false'. Refute it at one input. -/
def allocCountsWrong : ChangeSpec := { name := "allocCounts", fn := fun _ => fun
  | [d1, d2] => { results := [.lit (.bool false)], args := [d1, d2] }
  | _ => none }
def AllocCountsWrongFalsely : Prop := allocCountsRow.holds Try.pinned (OpenSpec.ofChange allocCountsWrong)

/-- 'archivoltlaw17.AllocFits': WHATEVER THE INPUT: true; the input reads as it did. -/
def allocFitsSpec : ChangeSpec := { name := "allocFits", fn := fun _ => fun
  | [d1, d2, d3, d4, d5] => { results := [.lit (.bool true)], args := [d1, d2, d3, d4, d5] }
  | _ => none }
def allocFitsRow : OpenClaim := { program := "ytibohhiebejbmaa", sum := "5c742d8d280a44ee0bd9a7c62291e2d11fdfbe399824c47a0f5960beb9f20741", func := "archivolt/archivoltlaw17.AllocFits", spec := "allocFits", unfollowed := true, recurses := true, apart := false }
def AllocFitsSaid : Prop := allocFitsRow.holds Try.pinned (OpenSpec.ofChange allocFitsSpec)

/-- ITS FALSE NEIGHBOUR: 'it returns false'. Refute it at one input. -/
def allocFitsWrong : ChangeSpec := { name := "allocFits", fn := fun _ => fun
  | [d1, d2, d3, d4, d5] => { results := [.lit (.bool false)], args := [d1, d2, d3, d4, d5] }
  | _ => none }
def AllocFitsWrongFalsely : Prop := allocFitsRow.holds Try.pinned (OpenSpec.ofChange allocFitsWrong)

/-- 'archivoltlaw17.AllocLooks': WHATEVER THE INPUT: true; the input reads as it did. -/
def allocLooksSpec : ChangeSpec := { name := "allocLooks", fn := fun _ => fun
  | [d1, d2, d3, d4, d5, d6] => { results := [.lit (.bool true)], args := [d1, d2, d3, d4, d5, d6] }
  | _ => none }
def allocLooksRow : OpenClaim := { program := "ytibohhiebejbmaa", sum := "5c742d8d280a44ee0bd9a7c62291e2d11fdfbe399824c47a0f5960beb9f20741", func := "archivolt/archivoltlaw17.AllocLooks", spec := "allocLooks", unfollowed := true, recurses := true, apart := false }
def AllocLooksSaid : Prop := allocLooksRow.holds Try.pinned (OpenSpec.ofChange allocLooksSpec)

/-- ITS FALSE NEIGHBOUR: 'it returns false'. Refute it at one input. -/
def allocLooksWrong : ChangeSpec := { name := "allocLooks", fn := fun _ => fun
  | [d1, d2, d3, d4, d5, d6] => { results := [.lit (.bool false)], args := [d1, d2, d3, d4, d5, d6] }
  | _ => none }
def AllocLooksWrongFalsely : Prop := allocLooksRow.holds Try.pinned (OpenSpec.ofChange allocLooksWrong)

/- THE SECOND FORM. 'bulk': how many values and letters a reading holds, each counted each time it is reached (what is shared counts as often as it is met; a slice's spare places count too). A statement '..UptoSaid' is the law's where the arguments, and the package variables that the reading takes, are together of bulk at most 1048576: NARROWER than '..Said'. Prove '..Said' where nothing that the law and all that it calls make is longer than what came in: it says more and counts as full. Else prove '..UptoSaid'. A law counts once. -/
mutual
def uptoBulk {H : Type} : DataW H → Nat
  | .lit (.string bytes) => bytes.length + 1
  | .lit _ => 1
  | .nil => 1
  | .ptr d => uptoBulk d + 1
  | .slice elems spare => uptoBulkAll elems + uptoBulkAll spare + 1
  | .agg parts => uptoBulkAll parts + 1
  | .iface _ d => uptoBulk d + 1
  | .map entries => uptoBulkEntries entries + 1
  | .held _ => 1
def uptoBulkAll {H : Type} : List (DataW H) → Nat
  | [] => 0
  | d :: r => uptoBulk d + uptoBulkAll r
def uptoBulkEntries {H : Type} : List (Lit × DataW H) → Nat
  | [] => 0
  | x :: r => uptoBulkEntry x + uptoBulkEntries r
def uptoBulkEntry {H : Type} : Lit × DataW H → Nat
  | (.string bytes, d) => bytes.length + uptoBulk d + 1
  | (_, d) => uptoBulk d + 1
 end
def uptoSmall : (H : Type) → List (DataW H) → Bool := fun _ ds => decide (uptoBulkAll ds ≤ 1048576)
def OpenSpec.upto (s : _root_.Go.ChangeSpec) : _root_.Go.OpenSpec := { _root_.Go.OpenSpec.ofChange s with cond := some uptoSmall }

/-- 'archivoltlaw17.AllocActs', WHERE WHAT IT READS IS OF BULK AT MOST 1048576: true; the input reads as it did. -/
def allocActsUptoRow : OpenClaim := { program := "ytibohhiebejbmaa", sum := "5c742d8d280a44ee0bd9a7c62291e2d11fdfbe399824c47a0f5960beb9f20741", func := "archivolt/archivoltlaw17.AllocActs", spec := "allocActs", unfollowed := true, recurses := true, apart := false, narrowed := true }
def AllocActsUptoSaid : Prop := allocActsUptoRow.holds Try.pinned (OpenSpec.upto allocActsSpec)

/-- 'archivoltlaw17.AllocApart', WHERE WHAT IT READS IS OF BULK AT MOST 1048576: true; the input reads as it did. -/
def allocApartUptoRow : OpenClaim := { program := "ytibohhiebejbmaa", sum := "5c742d8d280a44ee0bd9a7c62291e2d11fdfbe399824c47a0f5960beb9f20741", func := "archivolt/archivoltlaw17.AllocApart", spec := "allocApart", unfollowed := true, recurses := true, apart := false, narrowed := true }
def AllocApartUptoSaid : Prop := allocApartUptoRow.holds Try.pinned (OpenSpec.upto allocApartSpec)

/-- 'archivoltlaw17.AllocTaken', WHERE WHAT IT READS IS OF BULK AT MOST 1048576: true; the input reads as it did. -/
def allocTakenUptoRow : OpenClaim := { program := "ytibohhiebejbmaa", sum := "5c742d8d280a44ee0bd9a7c62291e2d11fdfbe399824c47a0f5960beb9f20741", func := "archivolt/archivoltlaw17.AllocTaken", spec := "allocTaken", unfollowed := true, recurses := true, apart := false, narrowed := true }
def AllocTakenUptoSaid : Prop := allocTakenUptoRow.holds Try.pinned (OpenSpec.upto allocTakenSpec)

/-- 'archivoltlaw17.AllocCounts', WHERE WHAT IT READS IS OF BULK AT MOST 1048576: true; the input reads as it did. -/
def allocCountsUptoRow : OpenClaim := { program := "ytibohhiebejbmaa", sum := "5c742d8d280a44ee0bd9a7c62291e2d11fdfbe399824c47a0f5960beb9f20741", func := "archivolt/archivoltlaw17.AllocCounts", spec := "allocCounts", unfollowed := true, recurses := true, apart := false, narrowed := true }
def AllocCountsUptoSaid : Prop := allocCountsUptoRow.holds Try.pinned (OpenSpec.upto allocCountsSpec)

/-- 'archivoltlaw17.AllocFits', WHERE WHAT IT READS IS OF BULK AT MOST 1048576: true; the input reads as it did. -/
def allocFitsUptoRow : OpenClaim := { program := "ytibohhiebejbmaa", sum := "5c742d8d280a44ee0bd9a7c62291e2d11fdfbe399824c47a0f5960beb9f20741", func := "archivolt/archivoltlaw17.AllocFits", spec := "allocFits", unfollowed := true, recurses := true, apart := false, narrowed := true }
def AllocFitsUptoSaid : Prop := allocFitsUptoRow.holds Try.pinned (OpenSpec.upto allocFitsSpec)

/-- 'archivoltlaw17.AllocLooks', WHERE WHAT IT READS IS OF BULK AT MOST 1048576: true; the input reads as it did. -/
def allocLooksUptoRow : OpenClaim := { program := "ytibohhiebejbmaa", sum := "5c742d8d280a44ee0bd9a7c62291e2d11fdfbe399824c47a0f5960beb9f20741", func := "archivolt/archivoltlaw17.AllocLooks", spec := "allocLooks", unfollowed := true, recurses := true, apart := false, narrowed := true }
def AllocLooksUptoSaid : Prop := allocLooksUptoRow.holds Try.pinned (OpenSpec.upto allocLooksSpec)

end Rows
end Go.Proofs.Ytibohhiebejbmaa
