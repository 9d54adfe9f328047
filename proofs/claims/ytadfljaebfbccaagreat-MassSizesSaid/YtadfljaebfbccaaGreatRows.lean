/-
  No cell of these rows narrows 'for every input' (looked for: loops, veiled, ifaces, maps, wideKeys, modest, calm, conditions, laid).
  DERIVED. THE GIVEN ROWS OF THIS SEAT. 6 by the template 'for every input the law returns true; each argument reads behind the call as it read before'; 0 by the template 'total and deterministic' (their statements: YtadfljaebfbccaaGreatTotals.lean).
  GIVEN WITH THE SEED: the statements are not yours to turn. If you find one false, say at which input.
  Laid BY PROGRAM, IN A SANDBOX (cutbox-rows.mjs): the forced cells as the released guide's own fill.sh prints them over the translation 3b9aeb5aa475eff7… (all of the seat's roots in one cut). By AI agents, Wed Nov 11 2026. No macro, syntax, notation, axiom, sorry.
-/
import Derived.Test.YtadfljaebfbccaaGreatChecked
import GoSem.Claim
import GoSem.ClaimJoined
import GoSem.ClaimMapViews
import Derived.JoinedTies
import Derived.KernelRfl
namespace Go.Proofs.YtadfljaebfbccaaGreat
/- THE CELL 'sum', in the pinned program and in every row, IS THE sha256 OF THE DUMP (.gsa) THAT YtadfljaebfbccaaGreatProg.lean LOADS. Nothing in Lean hashes anything: it is a label: what it is worth is what the hold of that sum in a sandbox is worth. -/
noncomputable def Tryz.pinned : Pinned := { name := "ytadfljaebfbccaagreat", sum := "3b9aeb5aa475eff756ed5a45305ac632a261f619d9b6bbe36bae4ebed4dcd468", checked := Tryz.checked }
namespace Rows
def none {H : Type} : Left H := { results := [], args := [] }

/-- 'artesianlaw23.MassSets': WHATEVER THE INPUT: true; the input reads as it did. -/
def massSetsSpec : ChangeSpec := { name := "massSets", fn := fun _ => fun
  | [d1, d2] => { results := [.lit (.bool true)], args := [d1, d2] }
  | _ => none }
def massSetsRow : OpenClaim := { program := "ytadfljaebfbccaagreat", sum := "3b9aeb5aa475eff756ed5a45305ac632a261f619d9b6bbe36bae4ebed4dcd468", func := "artesian/artesianlaw23.MassSets", spec := "massSets", inPlace := ["math/bits.Add64", "math/bits.Sub64"], unfollowed := true, recurses := true, named := ["math/bits.divideError", "math/bits.overflowError"], apart := false }
def MassSetsSaid : Prop := massSetsRow.holds Tryz.pinned (OpenSpec.ofChange massSetsSpec)

/-- ITS FALSE NEIGHBOUR: 'it returns false'. Refute it at one input. -/
def massSetsWrong : ChangeSpec := { name := "massSets", fn := fun _ => fun
  | [d1, d2] => { results := [.lit (.bool false)], args := [d1, d2] }
  | _ => none }
def MassSetsWrongFalsely : Prop := massSetsRow.holds Tryz.pinned (OpenSpec.ofChange massSetsWrong)

/-- 'artesianlaw23.MassSizes': WHATEVER THE INPUT: true; the input reads as it did. -/
def massSizesSpec : ChangeSpec := { name := "massSizes", fn := fun _ => fun
  | [d1, d2] => { results := [.lit (.bool true)], args := [d1, d2] }
  | _ => none }
def massSizesRow : OpenClaim := { program := "ytadfljaebfbccaagreat", sum := "3b9aeb5aa475eff756ed5a45305ac632a261f619d9b6bbe36bae4ebed4dcd468", func := "artesian/artesianlaw23.MassSizes", spec := "massSizes", inPlace := ["math/bits.Add64", "math/bits.Sub64"], unfollowed := true, recurses := true, named := ["math/bits.divideError", "math/bits.overflowError"], apart := false }
def MassSizesSaid : Prop := massSizesRow.holds Tryz.pinned (OpenSpec.ofChange massSizesSpec)

/-- ITS FALSE NEIGHBOUR: 'it returns false'. Refute it at one input. -/
def massSizesWrong : ChangeSpec := { name := "massSizes", fn := fun _ => fun
  | [d1, d2] => { results := [.lit (.bool false)], args := [d1, d2] }
  | _ => none }
def MassSizesWrongFalsely : Prop := massSizesRow.holds Tryz.pinned (OpenSpec.ofChange massSizesWrong)

/-- 'artesianlaw23.MassWhole': WHATEVER THE INPUT: true; the input reads as it did. -/
def massWholeSpec : ChangeSpec := { name := "massWhole", fn := fun _ => fun
  | [d1, d2, d3] => { results := [.lit (.bool true)], args := [d1, d2, d3] }
  | _ => none }
def massWholeRow : OpenClaim := { program := "ytadfljaebfbccaagreat", sum := "3b9aeb5aa475eff756ed5a45305ac632a261f619d9b6bbe36bae4ebed4dcd468", func := "artesian/artesianlaw23.MassWhole", spec := "massWhole", inPlace := ["math/bits.Add64", "math/bits.Sub64"], unfollowed := true, recurses := true, named := ["math/bits.divideError", "math/bits.overflowError"], apart := false }
def MassWholeSaid : Prop := massWholeRow.holds Tryz.pinned (OpenSpec.ofChange massWholeSpec)

/-- ITS FALSE NEIGHBOUR: 'it returns false'. Refute it at one input. -/
def massWholeWrong : ChangeSpec := { name := "massWhole", fn := fun _ => fun
  | [d1, d2, d3] => { results := [.lit (.bool false)], args := [d1, d2, d3] }
  | _ => none }
def MassWholeWrongFalsely : Prop := massWholeRow.holds Tryz.pinned (OpenSpec.ofChange massWholeWrong)

/-- 'artesianlaw23.MassFails': WHATEVER THE INPUT: true; the input reads as it did. -/
def massFailsSpec : ChangeSpec := { name := "massFails", fn := fun _ => fun
  | [d1, d2, d3] => { results := [.lit (.bool true)], args := [d1, d2, d3] }
  | _ => none }
def massFailsRow : OpenClaim := { program := "ytadfljaebfbccaagreat", sum := "3b9aeb5aa475eff756ed5a45305ac632a261f619d9b6bbe36bae4ebed4dcd468", func := "artesian/artesianlaw23.MassFails", spec := "massFails", inPlace := ["math/bits.Add64", "math/bits.Sub64"], unfollowed := true, recurses := true, named := ["math/bits.divideError", "math/bits.overflowError"], apart := false }
def MassFailsSaid : Prop := massFailsRow.holds Tryz.pinned (OpenSpec.ofChange massFailsSpec)

/-- ITS FALSE NEIGHBOUR: 'it returns false'. Refute it at one input. -/
def massFailsWrong : ChangeSpec := { name := "massFails", fn := fun _ => fun
  | [d1, d2, d3] => { results := [.lit (.bool false)], args := [d1, d2, d3] }
  | _ => none }
def MassFailsWrongFalsely : Prop := massFailsRow.holds Tryz.pinned (OpenSpec.ofChange massFailsWrong)

/-- 'artesianlaw23.MassKnown': WHATEVER THE INPUT: true; the input reads as it did. -/
def massKnownSpec : ChangeSpec := { name := "massKnown", fn := fun _ => fun
  | [] => { results := [.lit (.bool true)], args := [] }
  | _ => none }
def massKnownRow : OpenClaim := { program := "ytadfljaebfbccaagreat", sum := "3b9aeb5aa475eff756ed5a45305ac632a261f619d9b6bbe36bae4ebed4dcd468", func := "artesian/artesianlaw23.MassKnown", spec := "massKnown", inPlace := ["math/bits.Add64", "math/bits.Sub64"], unfollowed := true, recurses := true, named := ["math/bits.divideError", "math/bits.overflowError"], apart := false }
def MassKnownSaid : Prop := massKnownRow.holds Tryz.pinned (OpenSpec.ofChange massKnownSpec)

/-- ITS FALSE NEIGHBOUR: 'it returns false'. Refute it at one input. -/
def massKnownWrong : ChangeSpec := { name := "massKnown", fn := fun _ => fun
  | [] => { results := [.lit (.bool false)], args := [] }
  | _ => none }
def MassKnownWrongFalsely : Prop := massKnownRow.holds Tryz.pinned (OpenSpec.ofChange massKnownWrong)

/-- 'artesianlaw23.MassDrawn': WHATEVER THE INPUT: true; the input reads as it did. -/
def massDrawnSpec : ChangeSpec := { name := "massDrawn", fn := fun _ => fun
  | [d1, d2, d3] => { results := [.lit (.bool true)], args := [d1, d2, d3] }
  | _ => none }
def massDrawnRow : OpenClaim := { program := "ytadfljaebfbccaagreat", sum := "3b9aeb5aa475eff756ed5a45305ac632a261f619d9b6bbe36bae4ebed4dcd468", func := "artesian/artesianlaw23.MassDrawn", spec := "massDrawn", inPlace := ["math/bits.Add64", "math/bits.Sub64"], unfollowed := true, recurses := true, named := ["math/bits.divideError", "math/bits.overflowError"], apart := false }
def MassDrawnSaid : Prop := massDrawnRow.holds Tryz.pinned (OpenSpec.ofChange massDrawnSpec)

/-- ITS FALSE NEIGHBOUR: 'it returns false'. Refute it at one input. -/
def massDrawnWrong : ChangeSpec := { name := "massDrawn", fn := fun _ => fun
  | [d1, d2, d3] => { results := [.lit (.bool false)], args := [d1, d2, d3] }
  | _ => none }
def MassDrawnWrongFalsely : Prop := massDrawnRow.holds Tryz.pinned (OpenSpec.ofChange massDrawnWrong)

/- THE SECOND FORM. 'bulk': how many values and letters a reading holds, each counted each time it is reached (what is shared counts as often as it is met; a slice's spare places count too). A statement '..UptoSaid' is the law's where the arguments, and the package variables that the reading takes, are together of bulk at most 1048576: NARROWER than '..Said'. Prove '..Said' where nothing that the law and all that it calls make is longer than what came in: it says more and counts as full. Else prove '..UptoSaid'. A law counts once. -/
mutual
def uptoBulk {H : Type} : DataW H → Nat
  | .lit (.string bytes) => bytes.length + 1
  | .lit _ => 1
  | .nil => 1
  | .ptr d => uptoBulk d + 1
  | .slice elems spare => uptoBulkAll elems + uptoBulkAll spare + 1
  | .agg parts => uptoBulkAll parts + 1
  | .iface _ d => uptoBulk d + 1
  | .map entries => uptoBulkEntries entries + 1
  | .held _ => 1
def uptoBulkAll {H : Type} : List (DataW H) → Nat
  | [] => 0
  | d :: r => uptoBulk d + uptoBulkAll r
def uptoBulkEntries {H : Type} : List (Lit × DataW H) → Nat
  | [] => 0
  | x :: r => uptoBulkEntry x + uptoBulkEntries r
def uptoBulkEntry {H : Type} : Lit × DataW H → Nat
  | (.string bytes, d) => bytes.length + uptoBulk d + 1
  | (_, d) => uptoBulk d + 1
 end
def uptoSmall : (H : Type) → List (DataW H) → Bool := fun _ ds => decide (uptoBulkAll ds ≤ 1048576)
def OpenSpec.upto (s : _root_.Go.ChangeSpec) : _root_.Go.OpenSpec := { _root_.Go.OpenSpec.ofChange s with cond := some uptoSmall }

/-- 'artesianlaw23.MassSets', WHERE WHAT IT READS IS OF BULK AT MOST 1048576: true; the input reads as it did. -/
def massSetsUptoRow : OpenClaim := { program := "ytadfljaebfbccaagreat", sum := "3b9aeb5aa475eff756ed5a45305ac632a261f619d9b6bbe36bae4ebed4dcd468", func := "artesian/artesianlaw23.MassSets", spec := "massSets", inPlace := ["math/bits.Add64", "math/bits.Sub64"], unfollowed := true, recurses := true, named := ["math/bits.divideError", "math/bits.overflowError"], apart := false, narrowed := true }
def MassSetsUptoSaid : Prop := massSetsUptoRow.holds Tryz.pinned (OpenSpec.upto massSetsSpec)

/-- 'artesianlaw23.MassSizes', WHERE WHAT IT READS IS OF BULK AT MOST 1048576: true; the input reads as it did. -/
def massSizesUptoRow : OpenClaim := { program := "ytadfljaebfbccaagreat", sum := "3b9aeb5aa475eff756ed5a45305ac632a261f619d9b6bbe36bae4ebed4dcd468", func := "artesian/artesianlaw23.MassSizes", spec := "massSizes", inPlace := ["math/bits.Add64", "math/bits.Sub64"], unfollowed := true, recurses := true, named := ["math/bits.divideError", "math/bits.overflowError"], apart := false, narrowed := true }
def MassSizesUptoSaid : Prop := massSizesUptoRow.holds Tryz.pinned (OpenSpec.upto massSizesSpec)

/-- 'artesianlaw23.MassWhole', WHERE WHAT IT READS IS OF BULK AT MOST 1048576: true; the input reads as it did. -/
def massWholeUptoRow : OpenClaim := { program := "ytadfljaebfbccaagreat", sum := "3b9aeb5aa475eff756ed5a45305ac632a261f619d9b6bbe36bae4ebed4dcd468", func := "artesian/artesianlaw23.MassWhole", spec := "massWhole", inPlace := ["math/bits.Add64", "math/bits.Sub64"], unfollowed := true, recurses := true, named := ["math/bits.divideError", "math/bits.overflowError"], apart := false, narrowed := true }
def MassWholeUptoSaid : Prop := massWholeUptoRow.holds Tryz.pinned (OpenSpec.upto massWholeSpec)

/-- 'artesianlaw23.MassFails', WHERE WHAT IT READS IS OF BULK AT MOST 1048576: true; the input reads as it did. -/
def massFailsUptoRow : OpenClaim := { program := "ytadfljaebfbccaagreat", sum := "3b9aeb5aa475eff756ed5a45305ac632a261f619d9b6bbe36bae4ebed4dcd468", func := "artesian/artesianlaw23.MassFails", spec := "massFails", inPlace := ["math/bits.Add64", "math/bits.Sub64"], unfollowed := true, recurses := true, named := ["math/bits.divideError", "math/bits.overflowError"], apart := false, narrowed := true }
def MassFailsUptoSaid : Prop := massFailsUptoRow.holds Tryz.pinned (OpenSpec.upto massFailsSpec)

/-- 'artesianlaw23.MassKnown', WHERE WHAT IT READS IS OF BULK AT MOST 1048576: true; the input reads as it did. -/
def massKnownUptoRow : OpenClaim := { program := "ytadfljaebfbccaagreat", sum := "3b9aeb5aa475eff756ed5a45305ac632a261f619d9b6bbe36bae4ebed4dcd468", func := "artesian/artesianlaw23.MassKnown", spec := "massKnown", inPlace := ["math/bits.Add64", "math/bits.Sub64"], unfollowed := true, recurses := true, named := ["math/bits.divideError", "math/bits.overflowError"], apart := false, narrowed := true }
def MassKnownUptoSaid : Prop := massKnownUptoRow.holds Tryz.pinned (OpenSpec.upto massKnownSpec)

/-- 'artesianlaw23.MassDrawn', WHERE WHAT IT READS IS OF BULK AT MOST 1048576: true; the input reads as it did. -/
def massDrawnUptoRow : OpenClaim := { program := "ytadfljaebfbccaagreat", sum := "3b9aeb5aa475eff756ed5a45305ac632a261f619d9b6bbe36bae4ebed4dcd468", func := "artesian/artesianlaw23.MassDrawn", spec := "massDrawn", inPlace := ["math/bits.Add64", "math/bits.Sub64"], unfollowed := true, recurses := true, named := ["math/bits.divideError", "math/bits.overflowError"], apart := false, narrowed := true }
def MassDrawnUptoSaid : Prop := massDrawnUptoRow.holds Tryz.pinned (OpenSpec.upto massDrawnSpec)

end Rows
end Go.Proofs.YtadfljaebfbccaaGreat
