/-
  No cell of these rows narrows 'for every input' (looked for: loops, veiled, ifaces, maps, wideKeys, modest, calm, conditions, laid).
  DERIVED. THE GIVEN ROWS OF THIS SEAT. 18 by the template 'for every input the law returns true; each argument reads behind the call as it read before'; 0 by the template 'total and deterministic' (their statements: YtoapghakfcdflaaTotals.lean).
  GIVEN WITH THE SEED: the statements are not yours to turn. If you find one false, say at which input.
  Laid BY PROGRAM, IN A SANDBOX (cutbox-rows.mjs): the forced cells as the released guide's own fill.sh prints them over the translation 4b6419cd733ba0c3… (all of the seat's roots in one cut). By AI agents, Wed Nov 11 2026. No macro, syntax, notation, axiom, sorry.
-/
import Derived.Test.YtoapghakfcdflaaChecked
import GoSem.Claim
import GoSem.ClaimJoined
import GoSem.ClaimMapViews
import Derived.JoinedTies
import Derived.KernelRfl
namespace Go.Proofs.Ytoapghakfcdflaa
/- THE CELL 'sum', in the pinned program and in every row, IS THE sha256 OF THE DUMP (.gsa) THAT YtoapghakfcdflaaProg.lean LOADS. Nothing in Lean hashes anything: it is a label: what it is worth is what the hold of that sum in a sandbox is worth. -/
noncomputable def Try.pinned : Pinned := { name := "ytoapghakfcdflaa", sum := "4b6419cd733ba0c34580e2ab773920b96cb19c62c80405fd1f03dd819cb79896", checked := Try.checked }
namespace Rows
def none {H : Type} : Left H := { results := [], args := [] }

/-- 'artesianlaw15.LotsRow': WHATEVER THE INPUT: true; the input reads as it did. -/
def lotsRowSpec : ChangeSpec := { name := "lotsRow", fn := fun _ => fun
  | [d1, d2] => { results := [.lit (.bool true)], args := [d1, d2] }
  | _ => none }
def lotsRowRow : OpenClaim := { program := "ytoapghakfcdflaa", sum := "4b6419cd733ba0c34580e2ab773920b96cb19c62c80405fd1f03dd819cb79896", func := "artesian/artesianlaw15.LotsRow", spec := "lotsRow", unfollowed := true, recurses := true, apart := false }
def LotsRowSaid : Prop := lotsRowRow.holds Try.pinned (OpenSpec.ofChange lotsRowSpec)

/-- ITS FALSE NEIGHBOUR: 'it returns false'. Refute it at one input. -/
def lotsRowWrong : ChangeSpec := { name := "lotsRow", fn := fun _ => fun
  | [d1, d2] => { results := [.lit (.bool false)], args := [d1, d2] }
  | _ => none }
def LotsRowWrongFalsely : Prop := lotsRowRow.holds Try.pinned (OpenSpec.ofChange lotsRowWrong)

/-- 'artesianlaw15.LotsNone': WHATEVER THE INPUT: true; the input reads as it did. -/
def lotsNoneSpec : ChangeSpec := { name := "lotsNone", fn := fun _ => fun
  | [d] => { results := [.lit (.bool true)], args := [d] }
  | _ => none }
def lotsNoneRow : OpenClaim := { program := "ytoapghakfcdflaa", sum := "4b6419cd733ba0c34580e2ab773920b96cb19c62c80405fd1f03dd819cb79896", func := "artesian/artesianlaw15.LotsNone", spec := "lotsNone", unfollowed := true, recurses := true, apart := false }
def LotsNoneSaid : Prop := lotsNoneRow.holds Try.pinned (OpenSpec.ofChange lotsNoneSpec)

/-- ITS FALSE NEIGHBOUR: 'it returns false'. Refute it at one input. -/
def lotsNoneWrong : ChangeSpec := { name := "lotsNone", fn := fun _ => fun
  | [d] => { results := [.lit (.bool false)], args := [d] }
  | _ => none }
def LotsNoneWrongFalsely : Prop := lotsNoneRow.holds Try.pinned (OpenSpec.ofChange lotsNoneWrong)

/-- 'artesianlaw15.LotsSeed': WHATEVER THE INPUT: true; the input reads as it did. -/
def lotsSeedSpec : ChangeSpec := { name := "lotsSeed", fn := fun _ => fun
  | [d1, d2, d3, d4] => { results := [.lit (.bool true)], args := [d1, d2, d3, d4] }
  | _ => none }
def lotsSeedRow : OpenClaim := { program := "ytoapghakfcdflaa", sum := "4b6419cd733ba0c34580e2ab773920b96cb19c62c80405fd1f03dd819cb79896", func := "artesian/artesianlaw15.LotsSeed", spec := "lotsSeed", unfollowed := true, recurses := true, apart := false }
def LotsSeedSaid : Prop := lotsSeedRow.holds Try.pinned (OpenSpec.ofChange lotsSeedSpec)

/-- ITS FALSE NEIGHBOUR: 'it returns false'. Refute it at one input. -/
def lotsSeedWrong : ChangeSpec := { name := "lotsSeed", fn := fun _ => fun
  | [d1, d2, d3, d4] => { results := [.lit (.bool false)], args := [d1, d2, d3, d4] }
  | _ => none }
def LotsSeedWrongFalsely : Prop := lotsSeedRow.holds Try.pinned (OpenSpec.ofChange lotsSeedWrong)

/-- 'artesianlaw15.LotsKnown': WHATEVER THE INPUT: true; the input reads as it did. -/
def lotsKnownSpec : ChangeSpec := { name := "lotsKnown", fn := fun _ => fun
  | [] => { results := [.lit (.bool true)], args := [] }
  | _ => none }
def lotsKnownRow : OpenClaim := { program := "ytoapghakfcdflaa", sum := "4b6419cd733ba0c34580e2ab773920b96cb19c62c80405fd1f03dd819cb79896", func := "artesian/artesianlaw15.LotsKnown", spec := "lotsKnown", unfollowed := true, recurses := true, apart := false }
def LotsKnownSaid : Prop := lotsKnownRow.holds Try.pinned (OpenSpec.ofChange lotsKnownSpec)

/-- ITS FALSE NEIGHBOUR: 'it returns false'. Refute it at one input. -/
def lotsKnownWrong : ChangeSpec := { name := "lotsKnown", fn := fun _ => fun
  | [] => { results := [.lit (.bool false)], args := [] }
  | _ => none }
def LotsKnownWrongFalsely : Prop := lotsKnownRow.holds Try.pinned (OpenSpec.ofChange lotsKnownWrong)

/-- 'artesianlaw15.LotsTold': WHATEVER THE INPUT: true; the input reads as it did. -/
def lotsToldSpec : ChangeSpec := { name := "lotsTold", fn := fun _ => fun
  | [d1, d2] => { results := [.lit (.bool true)], args := [d1, d2] }
  | _ => none }
def lotsToldRow : OpenClaim := { program := "ytoapghakfcdflaa", sum := "4b6419cd733ba0c34580e2ab773920b96cb19c62c80405fd1f03dd819cb79896", func := "artesian/artesianlaw15.LotsTold", spec := "lotsTold", unfollowed := true, recurses := true, apart := false }
def LotsToldSaid : Prop := lotsToldRow.holds Try.pinned (OpenSpec.ofChange lotsToldSpec)

/-- ITS FALSE NEIGHBOUR: 'it returns false'. Refute it at one input. -/
def lotsToldWrong : ChangeSpec := { name := "lotsTold", fn := fun _ => fun
  | [d1, d2] => { results := [.lit (.bool false)], args := [d1, d2] }
  | _ => none }
def LotsToldWrongFalsely : Prop := lotsToldRow.holds Try.pinned (OpenSpec.ofChange lotsToldWrong)

/-- 'artesianlaw15.LotsBelow': WHATEVER THE INPUT: true; the input reads as it did. -/
def lotsBelowSpec : ChangeSpec := { name := "lotsBelow", fn := fun _ => fun
  | [d1, d2, d3, d4] => { results := [.lit (.bool true)], args := [d1, d2, d3, d4] }
  | _ => none }
def lotsBelowRow : OpenClaim := { program := "ytoapghakfcdflaa", sum := "4b6419cd733ba0c34580e2ab773920b96cb19c62c80405fd1f03dd819cb79896", func := "artesian/artesianlaw15.LotsBelow", spec := "lotsBelow", unfollowed := true, recurses := true, apart := false }
def LotsBelowSaid : Prop := lotsBelowRow.holds Try.pinned (OpenSpec.ofChange lotsBelowSpec)

/-- ITS FALSE NEIGHBOUR: 'it returns false'. Refute it at one input. -/
def lotsBelowWrong : ChangeSpec := { name := "lotsBelow", fn := fun _ => fun
  | [d1, d2, d3, d4] => { results := [.lit (.bool false)], args := [d1, d2, d3, d4] }
  | _ => none }
def LotsBelowWrongFalsely : Prop := lotsBelowRow.holds Try.pinned (OpenSpec.ofChange lotsBelowWrong)

/-- 'artesianlaw16.SubsetRanks': WHATEVER THE INPUT: true; the input reads as it did. -/
def subsetRanksSpec : ChangeSpec := { name := "subsetRanks", fn := fun _ => fun
  | [d1, d2] => { results := [.lit (.bool true)], args := [d1, d2] }
  | _ => none }
def subsetRanksRow : OpenClaim := { program := "ytoapghakfcdflaa", sum := "4b6419cd733ba0c34580e2ab773920b96cb19c62c80405fd1f03dd819cb79896", func := "artesian/artesianlaw16.SubsetRanks", spec := "subsetRanks", unfollowed := true, recurses := true, apart := false }
def SubsetRanksSaid : Prop := subsetRanksRow.holds Try.pinned (OpenSpec.ofChange subsetRanksSpec)

/-- ITS FALSE NEIGHBOUR: 'it returns false'. Refute it at one input. -/
def subsetRanksWrong : ChangeSpec := { name := "subsetRanks", fn := fun _ => fun
  | [d1, d2] => { results := [.lit (.bool false)], args := [d1, d2] }
  | _ => none }
def SubsetRanksWrongFalsely : Prop := subsetRanksRow.holds Try.pinned (OpenSpec.ofChange subsetRanksWrong)

/-- 'artesianlaw16.SubsetRanked': WHATEVER THE INPUT: true; the input reads as it did. -/
def subsetRankedSpec : ChangeSpec := { name := "subsetRanked", fn := fun _ => fun
  | [d1, d2] => { results := [.lit (.bool true)], args := [d1, d2] }
  | _ => none }
def subsetRankedRow : OpenClaim := { program := "ytoapghakfcdflaa", sum := "4b6419cd733ba0c34580e2ab773920b96cb19c62c80405fd1f03dd819cb79896", func := "artesian/artesianlaw16.SubsetRanked", spec := "subsetRanked", unfollowed := true, recurses := true, apart := false }
def SubsetRankedSaid : Prop := subsetRankedRow.holds Try.pinned (OpenSpec.ofChange subsetRankedSpec)

/-- ITS FALSE NEIGHBOUR: 'it returns false'. Refute it at one input. -/
def subsetRankedWrong : ChangeSpec := { name := "subsetRanked", fn := fun _ => fun
  | [d1, d2] => { results := [.lit (.bool false)], args := [d1, d2] }
  | _ => none }
def SubsetRankedWrongFalsely : Prop := subsetRankedRow.holds Try.pinned (OpenSpec.ofChange subsetRankedWrong)

/-- 'artesianlaw22.StopUnions': WHATEVER THE INPUT: true; the input reads as it did. -/
def stopUnionsSpec : ChangeSpec := { name := "stopUnions", fn := fun _ => fun
  | [d1, d2, d3, d4] => { results := [.lit (.bool true)], args := [d1, d2, d3, d4] }
  | _ => none }
def stopUnionsRow : OpenClaim := { program := "ytoapghakfcdflaa", sum := "4b6419cd733ba0c34580e2ab773920b96cb19c62c80405fd1f03dd819cb79896", func := "artesian/artesianlaw22.StopUnions", spec := "stopUnions", unfollowed := true, recurses := true, apart := false }
def StopUnionsSaid : Prop := stopUnionsRow.holds Try.pinned (OpenSpec.ofChange stopUnionsSpec)

/-- ITS FALSE NEIGHBOUR: 'it returns false'. Refute it at one input. -/
def stopUnionsWrong : ChangeSpec := { name := "stopUnions", fn := fun _ => fun
  | [d1, d2, d3, d4] => { results := [.lit (.bool false)], args := [d1, d2, d3, d4] }
  | _ => none }
def StopUnionsWrongFalsely : Prop := stopUnionsRow.holds Try.pinned (OpenSpec.ofChange stopUnionsWrong)

/-- 'artesianlaw22.StopMore': WHATEVER THE INPUT: true; the input reads as it did. -/
def stopMoreSpec : ChangeSpec := { name := "stopMore", fn := fun _ => fun
  | [d1, d2, d3] => { results := [.lit (.bool true)], args := [d1, d2, d3] }
  | _ => none }
def stopMoreRow : OpenClaim := { program := "ytoapghakfcdflaa", sum := "4b6419cd733ba0c34580e2ab773920b96cb19c62c80405fd1f03dd819cb79896", func := "artesian/artesianlaw22.StopMore", spec := "stopMore", unfollowed := true, recurses := true, apart := false }
def StopMoreSaid : Prop := stopMoreRow.holds Try.pinned (OpenSpec.ofChange stopMoreSpec)

/-- ITS FALSE NEIGHBOUR: 'it returns false'. Refute it at one input. -/
def stopMoreWrong : ChangeSpec := { name := "stopMore", fn := fun _ => fun
  | [d1, d2, d3] => { results := [.lit (.bool false)], args := [d1, d2, d3] }
  | _ => none }
def StopMoreWrongFalsely : Prop := stopMoreRow.holds Try.pinned (OpenSpec.ofChange stopMoreWrong)

/-- 'artesianlaw16.SubsetKnown': WHATEVER THE INPUT: true; the input reads as it did. -/
def subsetKnownSpec : ChangeSpec := { name := "subsetKnown", fn := fun _ => fun
  | [] => { results := [.lit (.bool true)], args := [] }
  | _ => none }
def subsetKnownRow : OpenClaim := { program := "ytoapghakfcdflaa", sum := "4b6419cd733ba0c34580e2ab773920b96cb19c62c80405fd1f03dd819cb79896", func := "artesian/artesianlaw16.SubsetKnown", spec := "subsetKnown", unfollowed := true, recurses := true, apart := false }
def SubsetKnownSaid : Prop := subsetKnownRow.holds Try.pinned (OpenSpec.ofChange subsetKnownSpec)

/-- ITS FALSE NEIGHBOUR: 'it returns false'. Refute it at one input. -/
def subsetKnownWrong : ChangeSpec := { name := "subsetKnown", fn := fun _ => fun
  | [] => { results := [.lit (.bool false)], args := [] }
  | _ => none }
def SubsetKnownWrongFalsely : Prop := subsetKnownRow.holds Try.pinned (OpenSpec.ofChange subsetKnownWrong)

/-- 'artesianlaw16.SubsetEven': WHATEVER THE INPUT: true; the input reads as it did. -/
def subsetEvenSpec : ChangeSpec := { name := "subsetEven", fn := fun _ => fun
  | [d1, d2] => { results := [.lit (.bool true)], args := [d1, d2] }
  | _ => none }
def subsetEvenRow : OpenClaim := { program := "ytoapghakfcdflaa", sum := "4b6419cd733ba0c34580e2ab773920b96cb19c62c80405fd1f03dd819cb79896", func := "artesian/artesianlaw16.SubsetEven", spec := "subsetEven", unfollowed := true, recurses := true, apart := false }
def SubsetEvenSaid : Prop := subsetEvenRow.holds Try.pinned (OpenSpec.ofChange subsetEvenSpec)

/-- ITS FALSE NEIGHBOUR: 'it returns false'. Refute it at one input. -/
def subsetEvenWrong : ChangeSpec := { name := "subsetEven", fn := fun _ => fun
  | [d1, d2] => { results := [.lit (.bool false)], args := [d1, d2] }
  | _ => none }
def SubsetEvenWrongFalsely : Prop := subsetEvenRow.holds Try.pinned (OpenSpec.ofChange subsetEvenWrong)

/-- 'artesianlaw16.SubsetDraws': WHATEVER THE INPUT: true; the input reads as it did. -/
def subsetDrawsSpec : ChangeSpec := { name := "subsetDraws", fn := fun _ => fun
  | [d1, d2, d3] => { results := [.lit (.bool true)], args := [d1, d2, d3] }
  | _ => none }
def subsetDrawsRow : OpenClaim := { program := "ytoapghakfcdflaa", sum := "4b6419cd733ba0c34580e2ab773920b96cb19c62c80405fd1f03dd819cb79896", func := "artesian/artesianlaw16.SubsetDraws", spec := "subsetDraws", unfollowed := true, recurses := true, apart := false }
def SubsetDrawsSaid : Prop := subsetDrawsRow.holds Try.pinned (OpenSpec.ofChange subsetDrawsSpec)

/-- ITS FALSE NEIGHBOUR: 'it returns false'. Refute it at one input. -/
def subsetDrawsWrong : ChangeSpec := { name := "subsetDraws", fn := fun _ => fun
  | [d1, d2, d3] => { results := [.lit (.bool false)], args := [d1, d2, d3] }
  | _ => none }
def SubsetDrawsWrongFalsely : Prop := subsetDrawsRow.holds Try.pinned (OpenSpec.ofChange subsetDrawsWrong)

/-- 'artesianlaw16.SubsetSeeds': WHATEVER THE INPUT: true; the input reads as it did. -/
def subsetSeedsSpec : ChangeSpec := { name := "subsetSeeds", fn := fun _ => fun
  | [d1, d2, d3, d4, d5] => { results := [.lit (.bool true)], args := [d1, d2, d3, d4, d5] }
  | _ => none }
def subsetSeedsRow : OpenClaim := { program := "ytoapghakfcdflaa", sum := "4b6419cd733ba0c34580e2ab773920b96cb19c62c80405fd1f03dd819cb79896", func := "artesian/artesianlaw16.SubsetSeeds", spec := "subsetSeeds", unfollowed := true, recurses := true, apart := false }
def SubsetSeedsSaid : Prop := subsetSeedsRow.holds Try.pinned (OpenSpec.ofChange subsetSeedsSpec)

/-- ITS FALSE NEIGHBOUR: 'it returns false'. Refute it at one input. -/
def subsetSeedsWrong : ChangeSpec := { name := "subsetSeeds", fn := fun _ => fun
  | [d1, d2, d3, d4, d5] => { results := [.lit (.bool false)], args := [d1, d2, d3, d4, d5] }
  | _ => none }
def SubsetSeedsWrongFalsely : Prop := subsetSeedsRow.holds Try.pinned (OpenSpec.ofChange subsetSeedsWrong)

/-- 'artesianlaw16.SubsetBack': WHATEVER THE INPUT: true; the input reads as it did. -/
def subsetBackSpec : ChangeSpec := { name := "subsetBack", fn := fun _ => fun
  | [d1, d2, d3] => { results := [.lit (.bool true)], args := [d1, d2, d3] }
  | _ => none }
def subsetBackRow : OpenClaim := { program := "ytoapghakfcdflaa", sum := "4b6419cd733ba0c34580e2ab773920b96cb19c62c80405fd1f03dd819cb79896", func := "artesian/artesianlaw16.SubsetBack", spec := "subsetBack", unfollowed := true, recurses := true, apart := false }
def SubsetBackSaid : Prop := subsetBackRow.holds Try.pinned (OpenSpec.ofChange subsetBackSpec)

/-- ITS FALSE NEIGHBOUR: 'it returns false'. Refute it at one input. -/
def subsetBackWrong : ChangeSpec := { name := "subsetBack", fn := fun _ => fun
  | [d1, d2, d3] => { results := [.lit (.bool false)], args := [d1, d2, d3] }
  | _ => none }
def SubsetBackWrongFalsely : Prop := subsetBackRow.holds Try.pinned (OpenSpec.ofChange subsetBackWrong)

/-- 'artesianlaw22.StopTells': WHATEVER THE INPUT: true; the input reads as it did. -/
def stopTellsSpec : ChangeSpec := { name := "stopTells", fn := fun _ => fun
  | [d1, d2, d3] => { results := [.lit (.bool true)], args := [d1, d2, d3] }
  | _ => none }
def stopTellsRow : OpenClaim := { program := "ytoapghakfcdflaa", sum := "4b6419cd733ba0c34580e2ab773920b96cb19c62c80405fd1f03dd819cb79896", func := "artesian/artesianlaw22.StopTells", spec := "stopTells", unfollowed := true, recurses := true, apart := false }
def StopTellsSaid : Prop := stopTellsRow.holds Try.pinned (OpenSpec.ofChange stopTellsSpec)

/-- ITS FALSE NEIGHBOUR: 'it returns false'. Refute it at one input. -/
def stopTellsWrong : ChangeSpec := { name := "stopTells", fn := fun _ => fun
  | [d1, d2, d3] => { results := [.lit (.bool false)], args := [d1, d2, d3] }
  | _ => none }
def StopTellsWrongFalsely : Prop := stopTellsRow.holds Try.pinned (OpenSpec.ofChange stopTellsWrong)

/-- 'artesianlaw22.StopKnown': WHATEVER THE INPUT: true; the input reads as it did. -/
def stopKnownSpec : ChangeSpec := { name := "stopKnown", fn := fun _ => fun
  | [] => { results := [.lit (.bool true)], args := [] }
  | _ => none }
def stopKnownRow : OpenClaim := { program := "ytoapghakfcdflaa", sum := "4b6419cd733ba0c34580e2ab773920b96cb19c62c80405fd1f03dd819cb79896", func := "artesian/artesianlaw22.StopKnown", spec := "stopKnown", unfollowed := true, recurses := true, apart := false }
def StopKnownSaid : Prop := stopKnownRow.holds Try.pinned (OpenSpec.ofChange stopKnownSpec)

/-- ITS FALSE NEIGHBOUR: 'it returns false'. Refute it at one input. -/
def stopKnownWrong : ChangeSpec := { name := "stopKnown", fn := fun _ => fun
  | [] => { results := [.lit (.bool false)], args := [] }
  | _ => none }
def StopKnownWrongFalsely : Prop := stopKnownRow.holds Try.pinned (OpenSpec.ofChange stopKnownWrong)

/-- 'artesianlaw22.StopLargest': WHATEVER THE INPUT: true; the input reads as it did. -/
def stopLargestSpec : ChangeSpec := { name := "stopLargest", fn := fun _ => fun
  | [d1, d2] => { results := [.lit (.bool true)], args := [d1, d2] }
  | _ => none }
def stopLargestRow : OpenClaim := { program := "ytoapghakfcdflaa", sum := "4b6419cd733ba0c34580e2ab773920b96cb19c62c80405fd1f03dd819cb79896", func := "artesian/artesianlaw22.StopLargest", spec := "stopLargest", unfollowed := true, recurses := true, apart := false }
def StopLargestSaid : Prop := stopLargestRow.holds Try.pinned (OpenSpec.ofChange stopLargestSpec)

/-- ITS FALSE NEIGHBOUR: 'it returns false'. Refute it at one input. -/
def stopLargestWrong : ChangeSpec := { name := "stopLargest", fn := fun _ => fun
  | [d1, d2] => { results := [.lit (.bool false)], args := [d1, d2] }
  | _ => none }
def StopLargestWrongFalsely : Prop := stopLargestRow.holds Try.pinned (OpenSpec.ofChange stopLargestWrong)

/- THE SECOND FORM. 'bulk': how many values and letters a reading holds, each counted each time it is reached (what is shared counts as often as it is met; a slice's spare places count too). A statement '..UptoSaid' is the law's where the arguments, and the package variables that the reading takes, are together of bulk at most 1048576: NARROWER than '..Said'. Prove '..Said' where nothing that the law and all that it calls make is longer than what came in: it says more and counts as full. Else prove '..UptoSaid'. A law counts once. -/
mutual
def uptoBulk {H : Type} : DataW H → Nat
  | .lit (.string bytes) => bytes.length + 1
  | .lit _ => 1
  | .nil => 1
  | .ptr d => uptoBulk d + 1
  | .slice elems spare => uptoBulkAll elems + uptoBulkAll spare + 1
  | .agg parts => uptoBulkAll parts + 1
  | .iface _ d => uptoBulk d + 1
  | .map entries => uptoBulkEntries entries + 1
  | .held _ => 1
def uptoBulkAll {H : Type} : List (DataW H) → Nat
  | [] => 0
  | d :: r => uptoBulk d + uptoBulkAll r
def uptoBulkEntries {H : Type} : List (Lit × DataW H) → Nat
  | [] => 0
  | x :: r => uptoBulkEntry x + uptoBulkEntries r
def uptoBulkEntry {H : Type} : Lit × DataW H → Nat
  | (.string bytes, d) => bytes.length + uptoBulk d + 1
  | (_, d) => uptoBulk d + 1
 end
def uptoSmall : (H : Type) → List (DataW H) → Bool := fun _ ds => decide (uptoBulkAll ds ≤ 1048576)
def OpenSpec.upto (s : _root_.Go.ChangeSpec) : _root_.Go.OpenSpec := { _root_.Go.OpenSpec.ofChange s with cond := some uptoSmall }

/-- 'artesianlaw15.LotsRow', WHERE WHAT IT READS IS OF BULK AT MOST 1048576: true; the input reads as it did. -/
def lotsRowUptoRow : OpenClaim := { program := "ytoapghakfcdflaa", sum := "4b6419cd733ba0c34580e2ab773920b96cb19c62c80405fd1f03dd819cb79896", func := "artesian/artesianlaw15.LotsRow", spec := "lotsRow", unfollowed := true, recurses := true, apart := false, narrowed := true }
def LotsRowUptoSaid : Prop := lotsRowUptoRow.holds Try.pinned (OpenSpec.upto lotsRowSpec)

/-- 'artesianlaw15.LotsNone', WHERE WHAT IT READS IS OF BULK AT MOST 1048576: true; the input reads as it did. -/
def lotsNoneUptoRow : OpenClaim := { program := "ytoapghakfcdflaa", sum := "4b6419cd733ba0c34580e2ab773920b96cb19c62c80405fd1f03dd819cb79896", func := "artesian/artesianlaw15.LotsNone", spec := "lotsNone", unfollowed := true, recurses := true, apart := false, narrowed := true }
def LotsNoneUptoSaid : Prop := lotsNoneUptoRow.holds Try.pinned (OpenSpec.upto lotsNoneSpec)

/-- 'artesianlaw15.LotsSeed', WHERE WHAT IT READS IS OF BULK AT MOST 1048576: true; the input reads as it did. -/
def lotsSeedUptoRow : OpenClaim := { program := "ytoapghakfcdflaa", sum := "4b6419cd733ba0c34580e2ab773920b96cb19c62c80405fd1f03dd819cb79896", func := "artesian/artesianlaw15.LotsSeed", spec := "lotsSeed", unfollowed := true, recurses := true, apart := false, narrowed := true }
def LotsSeedUptoSaid : Prop := lotsSeedUptoRow.holds Try.pinned (OpenSpec.upto lotsSeedSpec)

/-- 'artesianlaw15.LotsKnown', WHERE WHAT IT READS IS OF BULK AT MOST 1048576: true; the input reads as it did. -/
def lotsKnownUptoRow : OpenClaim := { program := "ytoapghakfcdflaa", sum := "4b6419cd733ba0c34580e2ab773920b96cb19c62c80405fd1f03dd819cb79896", func := "artesian/artesianlaw15.LotsKnown", spec := "lotsKnown", unfollowed := true, recurses := true, apart := false, narrowed := true }
def LotsKnownUptoSaid : Prop := lotsKnownUptoRow.holds Try.pinned (OpenSpec.upto lotsKnownSpec)

/-- 'artesianlaw15.LotsTold', WHERE WHAT IT READS IS OF BULK AT MOST 1048576: true; the input reads as it did. -/
def lotsToldUptoRow : OpenClaim := { program := "ytoapghakfcdflaa", sum := "4b6419cd733ba0c34580e2ab773920b96cb19c62c80405fd1f03dd819cb79896", func := "artesian/artesianlaw15.LotsTold", spec := "lotsTold", unfollowed := true, recurses := true, apart := false, narrowed := true }
def LotsToldUptoSaid : Prop := lotsToldUptoRow.holds Try.pinned (OpenSpec.upto lotsToldSpec)

/-- 'artesianlaw15.LotsBelow', WHERE WHAT IT READS IS OF BULK AT MOST 1048576: true; the input reads as it did. -/
def lotsBelowUptoRow : OpenClaim := { program := "ytoapghakfcdflaa", sum := "4b6419cd733ba0c34580e2ab773920b96cb19c62c80405fd1f03dd819cb79896", func := "artesian/artesianlaw15.LotsBelow", spec := "lotsBelow", unfollowed := true, recurses := true, apart := false, narrowed := true }
def LotsBelowUptoSaid : Prop := lotsBelowUptoRow.holds Try.pinned (OpenSpec.upto lotsBelowSpec)

/-- 'artesianlaw16.SubsetRanks', WHERE WHAT IT READS IS OF BULK AT MOST 1048576: true; the input reads as it did. -/
def subsetRanksUptoRow : OpenClaim := { program := "ytoapghakfcdflaa", sum := "4b6419cd733ba0c34580e2ab773920b96cb19c62c80405fd1f03dd819cb79896", func := "artesian/artesianlaw16.SubsetRanks", spec := "subsetRanks", unfollowed := true, recurses := true, apart := false, narrowed := true }
def SubsetRanksUptoSaid : Prop := subsetRanksUptoRow.holds Try.pinned (OpenSpec.upto subsetRanksSpec)

/-- 'artesianlaw16.SubsetRanked', WHERE WHAT IT READS IS OF BULK AT MOST 1048576: true; the input reads as it did. -/
def subsetRankedUptoRow : OpenClaim := { program := "ytoapghakfcdflaa", sum := "4b6419cd733ba0c34580e2ab773920b96cb19c62c80405fd1f03dd819cb79896", func := "artesian/artesianlaw16.SubsetRanked", spec := "subsetRanked", unfollowed := true, recurses := true, apart := false, narrowed := true }
def SubsetRankedUptoSaid : Prop := subsetRankedUptoRow.holds Try.pinned (OpenSpec.upto subsetRankedSpec)

/-- 'artesianlaw22.StopUnions', WHERE WHAT IT READS IS OF BULK AT MOST 1048576: true; the input reads as it did. -/
def stopUnionsUptoRow : OpenClaim := { program := "ytoapghakfcdflaa", sum := "4b6419cd733ba0c34580e2ab773920b96cb19c62c80405fd1f03dd819cb79896", func := "artesian/artesianlaw22.StopUnions", spec := "stopUnions", unfollowed := true, recurses := true, apart := false, narrowed := true }
def StopUnionsUptoSaid : Prop := stopUnionsUptoRow.holds Try.pinned (OpenSpec.upto stopUnionsSpec)

/-- 'artesianlaw22.StopMore', WHERE WHAT IT READS IS OF BULK AT MOST 1048576: true; the input reads as it did. -/
def stopMoreUptoRow : OpenClaim := { program := "ytoapghakfcdflaa", sum := "4b6419cd733ba0c34580e2ab773920b96cb19c62c80405fd1f03dd819cb79896", func := "artesian/artesianlaw22.StopMore", spec := "stopMore", unfollowed := true, recurses := true, apart := false, narrowed := true }
def StopMoreUptoSaid : Prop := stopMoreUptoRow.holds Try.pinned (OpenSpec.upto stopMoreSpec)

/-- 'artesianlaw16.SubsetKnown', WHERE WHAT IT READS IS OF BULK AT MOST 1048576: true; the input reads as it did. -/
def subsetKnownUptoRow : OpenClaim := { program := "ytoapghakfcdflaa", sum := "4b6419cd733ba0c34580e2ab773920b96cb19c62c80405fd1f03dd819cb79896", func := "artesian/artesianlaw16.SubsetKnown", spec := "subsetKnown", unfollowed := true, recurses := true, apart := false, narrowed := true }
def SubsetKnownUptoSaid : Prop := subsetKnownUptoRow.holds Try.pinned (OpenSpec.upto subsetKnownSpec)

/-- 'artesianlaw16.SubsetEven', WHERE WHAT IT READS IS OF BULK AT MOST 1048576: true; the input reads as it did. -/
def subsetEvenUptoRow : OpenClaim := { program := "ytoapghakfcdflaa", sum := "4b6419cd733ba0c34580e2ab773920b96cb19c62c80405fd1f03dd819cb79896", func := "artesian/artesianlaw16.SubsetEven", spec := "subsetEven", unfollowed := true, recurses := true, apart := false, narrowed := true }
def SubsetEvenUptoSaid : Prop := subsetEvenUptoRow.holds Try.pinned (OpenSpec.upto subsetEvenSpec)

/-- 'artesianlaw16.SubsetDraws', WHERE WHAT IT READS IS OF BULK AT MOST 1048576: true; the input reads as it did. -/
def subsetDrawsUptoRow : OpenClaim := { program := "ytoapghakfcdflaa", sum := "4b6419cd733ba0c34580e2ab773920b96cb19c62c80405fd1f03dd819cb79896", func := "artesian/artesianlaw16.SubsetDraws", spec := "subsetDraws", unfollowed := true, recurses := true, apart := false, narrowed := true }
def SubsetDrawsUptoSaid : Prop := subsetDrawsUptoRow.holds Try.pinned (OpenSpec.upto subsetDrawsSpec)

/-- 'artesianlaw16.SubsetSeeds', WHERE WHAT IT READS IS OF BULK AT MOST 1048576: true; the input reads as it did. -/
def subsetSeedsUptoRow : OpenClaim := { program := "ytoapghakfcdflaa", sum := "4b6419cd733ba0c34580e2ab773920b96cb19c62c80405fd1f03dd819cb79896", func := "artesian/artesianlaw16.SubsetSeeds", spec := "subsetSeeds", unfollowed := true, recurses := true, apart := false, narrowed := true }
def SubsetSeedsUptoSaid : Prop := subsetSeedsUptoRow.holds Try.pinned (OpenSpec.upto subsetSeedsSpec)

/-- 'artesianlaw16.SubsetBack', WHERE WHAT IT READS IS OF BULK AT MOST 1048576: true; the input reads as it did. -/
def subsetBackUptoRow : OpenClaim := { program := "ytoapghakfcdflaa", sum := "4b6419cd733ba0c34580e2ab773920b96cb19c62c80405fd1f03dd819cb79896", func := "artesian/artesianlaw16.SubsetBack", spec := "subsetBack", unfollowed := true, recurses := true, apart := false, narrowed := true }
def SubsetBackUptoSaid : Prop := subsetBackUptoRow.holds Try.pinned (OpenSpec.upto subsetBackSpec)

/-- 'artesianlaw22.StopTells', WHERE WHAT IT READS IS OF BULK AT MOST 1048576: true; the input reads as it did. -/
def stopTellsUptoRow : OpenClaim := { program := "ytoapghakfcdflaa", sum := "4b6419cd733ba0c34580e2ab773920b96cb19c62c80405fd1f03dd819cb79896", func := "artesian/artesianlaw22.StopTells", spec := "stopTells", unfollowed := true, recurses := true, apart := false, narrowed := true }
def StopTellsUptoSaid : Prop := stopTellsUptoRow.holds Try.pinned (OpenSpec.upto stopTellsSpec)

/-- 'artesianlaw22.StopKnown', WHERE WHAT IT READS IS OF BULK AT MOST 1048576: true; the input reads as it did. -/
def stopKnownUptoRow : OpenClaim := { program := "ytoapghakfcdflaa", sum := "4b6419cd733ba0c34580e2ab773920b96cb19c62c80405fd1f03dd819cb79896", func := "artesian/artesianlaw22.StopKnown", spec := "stopKnown", unfollowed := true, recurses := true, apart := false, narrowed := true }
def StopKnownUptoSaid : Prop := stopKnownUptoRow.holds Try.pinned (OpenSpec.upto stopKnownSpec)

/-- 'artesianlaw22.StopLargest', WHERE WHAT IT READS IS OF BULK AT MOST 1048576: true; the input reads as it did. -/
def stopLargestUptoRow : OpenClaim := { program := "ytoapghakfcdflaa", sum := "4b6419cd733ba0c34580e2ab773920b96cb19c62c80405fd1f03dd819cb79896", func := "artesian/artesianlaw22.StopLargest", spec := "stopLargest", unfollowed := true, recurses := true, apart := false, narrowed := true }
def StopLargestUptoSaid : Prop := stopLargestUptoRow.holds Try.pinned (OpenSpec.upto stopLargestSpec)

end Rows
end Go.Proofs.Ytoapghakfcdflaa
