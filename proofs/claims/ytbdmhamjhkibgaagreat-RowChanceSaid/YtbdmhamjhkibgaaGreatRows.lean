/-
  No cell of these rows narrows 'for every input' (looked for: loops, veiled, ifaces, maps, wideKeys, modest, calm, conditions, laid).
  DERIVED. THE GIVEN ROWS OF THIS SEAT. 6 by the template 'for every input the law returns true; each argument reads behind the call as it read before'; 0 by the template 'total and deterministic' (their statements: YtbdmhamjhkibgaaGreatTotals.lean).
  GIVEN WITH THE SEED: the statements are not yours to turn. If you find one false, say at which input.
  Laid BY PROGRAM, IN A SANDBOX (cutbox-rows.mjs): the forced cells as the released guide's own fill.sh prints them over the translation 8a06a70ce4942860… (all of the seat's roots in one cut). By AI agents, Wed Nov 11 2026. No macro, syntax, notation, axiom, sorry.
-/
import Derived.Test.YtbdmhamjhkibgaaGreatChecked
import GoSem.Claim
import GoSem.ClaimJoined
import GoSem.ClaimMapViews
import Derived.JoinedTies
import Derived.KernelRfl
namespace Go.Proofs.YtbdmhamjhkibgaaGreat
/- THE CELL 'sum', in the pinned program and in every row, IS THE sha256 OF THE DUMP (.gsa) THAT YtbdmhamjhkibgaaGreatProg.lean LOADS. Nothing in Lean hashes anything: it is a label: what it is worth is what the hold of that sum in a sandbox is worth. -/
noncomputable def Tryz.pinned : Pinned := { name := "ytbdmhamjhkibgaagreat", sum := "8a06a70ce49428601b476c412abbab8c488293ae49344596a22fea831bb597ba", checked := Tryz.checked }
namespace Rows
def none {H : Type} : Left H := { results := [], args := [] }

/-- 'artesianlaw17.RowMeasures': WHATEVER THE INPUT: true; the input reads as it did. -/
def rowMeasuresSpec : ChangeSpec := { name := "rowMeasures", fn := fun _ => fun
  | [d1, d2, d3, d4] => { results := [.lit (.bool true)], args := [d1, d2, d3, d4] }
  | _ => none }
def rowMeasuresRow : OpenClaim := { program := "ytbdmhamjhkibgaagreat", sum := "8a06a70ce49428601b476c412abbab8c488293ae49344596a22fea831bb597ba", func := "artesian/artesianlaw17.RowMeasures", spec := "rowMeasures", inPlace := ["math/bits.Add64", "math/bits.Sub64"], unfollowed := true, recurses := true, named := ["math/bits.divideError", "math/bits.overflowError"], apart := false }
def RowMeasuresSaid : Prop := rowMeasuresRow.holds Tryz.pinned (OpenSpec.ofChange rowMeasuresSpec)

/-- ITS FALSE NEIGHBOUR: 'it returns false'. Refute it at one input. -/
def rowMeasuresWrong : ChangeSpec := { name := "rowMeasures", fn := fun _ => fun
  | [d1, d2, d3, d4] => { results := [.lit (.bool false)], args := [d1, d2, d3, d4] }
  | _ => none }
def RowMeasuresWrongFalsely : Prop := rowMeasuresRow.holds Tryz.pinned (OpenSpec.ofChange rowMeasuresWrong)

/-- 'artesianlaw17.RowSets': WHATEVER THE INPUT: true; the input reads as it did. -/
def rowSetsSpec : ChangeSpec := { name := "rowSets", fn := fun _ => fun
  | [d1, d2, d3, d4, d5, d6] => { results := [.lit (.bool true)], args := [d1, d2, d3, d4, d5, d6] }
  | _ => none }
def rowSetsRow : OpenClaim := { program := "ytbdmhamjhkibgaagreat", sum := "8a06a70ce49428601b476c412abbab8c488293ae49344596a22fea831bb597ba", func := "artesian/artesianlaw17.RowSets", spec := "rowSets", inPlace := ["math/bits.Add64", "math/bits.Sub64"], unfollowed := true, recurses := true, named := ["math/bits.divideError", "math/bits.overflowError"], apart := false }
def RowSetsSaid : Prop := rowSetsRow.holds Tryz.pinned (OpenSpec.ofChange rowSetsSpec)

/-- ITS FALSE NEIGHBOUR: 'it returns false'. Refute it at one input. -/
def rowSetsWrong : ChangeSpec := { name := "rowSets", fn := fun _ => fun
  | [d1, d2, d3, d4, d5, d6] => { results := [.lit (.bool false)], args := [d1, d2, d3, d4, d5, d6] }
  | _ => none }
def RowSetsWrongFalsely : Prop := rowSetsRow.holds Tryz.pinned (OpenSpec.ofChange rowSetsWrong)

/-- 'artesianlaw17.RowLists': WHATEVER THE INPUT: true; the input reads as it did. -/
def rowListsSpec : ChangeSpec := { name := "rowLists", fn := fun _ => fun
  | [d1, d2] => { results := [.lit (.bool true)], args := [d1, d2] }
  | _ => none }
def rowListsRow : OpenClaim := { program := "ytbdmhamjhkibgaagreat", sum := "8a06a70ce49428601b476c412abbab8c488293ae49344596a22fea831bb597ba", func := "artesian/artesianlaw17.RowLists", spec := "rowLists", inPlace := ["math/bits.Add64", "math/bits.Sub64"], unfollowed := true, recurses := true, named := ["math/bits.divideError", "math/bits.overflowError"], apart := false }
def RowListsSaid : Prop := rowListsRow.holds Tryz.pinned (OpenSpec.ofChange rowListsSpec)

/-- ITS FALSE NEIGHBOUR: 'it returns false'. Refute it at one input. -/
def rowListsWrong : ChangeSpec := { name := "rowLists", fn := fun _ => fun
  | [d1, d2] => { results := [.lit (.bool false)], args := [d1, d2] }
  | _ => none }
def RowListsWrongFalsely : Prop := rowListsRow.holds Tryz.pinned (OpenSpec.ofChange rowListsWrong)

/-- 'artesianlaw17.RowKnown': WHATEVER THE INPUT: true; the input reads as it did. -/
def rowKnownSpec : ChangeSpec := { name := "rowKnown", fn := fun _ => fun
  | [] => { results := [.lit (.bool true)], args := [] }
  | _ => none }
def rowKnownRow : OpenClaim := { program := "ytbdmhamjhkibgaagreat", sum := "8a06a70ce49428601b476c412abbab8c488293ae49344596a22fea831bb597ba", func := "artesian/artesianlaw17.RowKnown", spec := "rowKnown", inPlace := ["math/bits.Add64", "math/bits.Sub64"], unfollowed := true, recurses := true, named := ["math/bits.divideError", "math/bits.overflowError"], apart := false }
def RowKnownSaid : Prop := rowKnownRow.holds Tryz.pinned (OpenSpec.ofChange rowKnownSpec)

/-- ITS FALSE NEIGHBOUR: 'it returns false'. Refute it at one input. -/
def rowKnownWrong : ChangeSpec := { name := "rowKnown", fn := fun _ => fun
  | [] => { results := [.lit (.bool false)], args := [] }
  | _ => none }
def RowKnownWrongFalsely : Prop := rowKnownRow.holds Tryz.pinned (OpenSpec.ofChange rowKnownWrong)

/-- 'artesianlaw17.RowChance': WHATEVER THE INPUT: true; the input reads as it did. -/
def rowChanceSpec : ChangeSpec := { name := "rowChance", fn := fun _ => fun
  | [d1, d2] => { results := [.lit (.bool true)], args := [d1, d2] }
  | _ => none }
def rowChanceRow : OpenClaim := { program := "ytbdmhamjhkibgaagreat", sum := "8a06a70ce49428601b476c412abbab8c488293ae49344596a22fea831bb597ba", func := "artesian/artesianlaw17.RowChance", spec := "rowChance", inPlace := ["math/bits.Add64", "math/bits.Sub64"], unfollowed := true, recurses := true, named := ["math/bits.divideError", "math/bits.overflowError"], apart := false }
def RowChanceSaid : Prop := rowChanceRow.holds Tryz.pinned (OpenSpec.ofChange rowChanceSpec)

/-- ITS FALSE NEIGHBOUR: 'it returns false'. Refute it at one input. -/
def rowChanceWrong : ChangeSpec := { name := "rowChance", fn := fun _ => fun
  | [d1, d2] => { results := [.lit (.bool false)], args := [d1, d2] }
  | _ => none }
def RowChanceWrongFalsely : Prop := rowChanceRow.holds Tryz.pinned (OpenSpec.ofChange rowChanceWrong)

/-- 'artesianlaw17.RowWhole': WHATEVER THE INPUT: true; the input reads as it did. -/
def rowWholeSpec : ChangeSpec := { name := "rowWhole", fn := fun _ => fun
  | [d1, d2] => { results := [.lit (.bool true)], args := [d1, d2] }
  | _ => none }
def rowWholeRow : OpenClaim := { program := "ytbdmhamjhkibgaagreat", sum := "8a06a70ce49428601b476c412abbab8c488293ae49344596a22fea831bb597ba", func := "artesian/artesianlaw17.RowWhole", spec := "rowWhole", inPlace := ["math/bits.Add64", "math/bits.Sub64"], unfollowed := true, recurses := true, named := ["math/bits.divideError", "math/bits.overflowError"], apart := false }
def RowWholeSaid : Prop := rowWholeRow.holds Tryz.pinned (OpenSpec.ofChange rowWholeSpec)

/-- ITS FALSE NEIGHBOUR: 'it returns false'. Refute it at one input. -/
def rowWholeWrong : ChangeSpec := { name := "rowWhole", fn := fun _ => fun
  | [d1, d2] => { results := [.lit (.bool false)], args := [d1, d2] }
  | _ => none }
def RowWholeWrongFalsely : Prop := rowWholeRow.holds Tryz.pinned (OpenSpec.ofChange rowWholeWrong)

/- THE SECOND FORM. 'bulk': how many values and letters a reading holds, each counted each time it is reached (what is shared counts as often as it is met; a slice's spare places count too). A statement '..UptoSaid' is the law's where the arguments, and the package variables that the reading takes, are together of bulk at most 1048576: NARROWER than '..Said'. Prove '..Said' where nothing that the law and all that it calls make is longer than what came in: it says more and counts as full. Else prove '..UptoSaid'. A law counts once. -/
mutual
def uptoBulk {H : Type} : DataW H → Nat
  | .lit (.string bytes) => bytes.length + 1
  | .lit _ => 1
  | .nil => 1
  | .ptr d => uptoBulk d + 1
  | .slice elems spare => uptoBulkAll elems + uptoBulkAll spare + 1
  | .agg parts => uptoBulkAll parts + 1
  | .iface _ d => uptoBulk d + 1
  | .map entries => uptoBulkEntries entries + 1
  | .held _ => 1
def uptoBulkAll {H : Type} : List (DataW H) → Nat
  | [] => 0
  | d :: r => uptoBulk d + uptoBulkAll r
def uptoBulkEntries {H : Type} : List (Lit × DataW H) → Nat
  | [] => 0
  | x :: r => uptoBulkEntry x + uptoBulkEntries r
def uptoBulkEntry {H : Type} : Lit × DataW H → Nat
  | (.string bytes, d) => bytes.length + uptoBulk d + 1
  | (_, d) => uptoBulk d + 1
 end
def uptoSmall : (H : Type) → List (DataW H) → Bool := fun _ ds => decide (uptoBulkAll ds ≤ 1048576)
def OpenSpec.upto (s : _root_.Go.ChangeSpec) : _root_.Go.OpenSpec := { _root_.Go.OpenSpec.ofChange s with cond := some uptoSmall }

/-- 'artesianlaw17.RowMeasures', WHERE WHAT IT READS IS OF BULK AT MOST 1048576: true; the input reads as it did. -/
def rowMeasuresUptoRow : OpenClaim := { program := "ytbdmhamjhkibgaagreat", sum := "8a06a70ce49428601b476c412abbab8c488293ae49344596a22fea831bb597ba", func := "artesian/artesianlaw17.RowMeasures", spec := "rowMeasures", inPlace := ["math/bits.Add64", "math/bits.Sub64"], unfollowed := true, recurses := true, named := ["math/bits.divideError", "math/bits.overflowError"], apart := false, narrowed := true }
def RowMeasuresUptoSaid : Prop := rowMeasuresUptoRow.holds Tryz.pinned (OpenSpec.upto rowMeasuresSpec)

/-- 'artesianlaw17.RowSets', WHERE WHAT IT READS IS OF BULK AT MOST 1048576: true; the input reads as it did. -/
def rowSetsUptoRow : OpenClaim := { program := "ytbdmhamjhkibgaagreat", sum := "8a06a70ce49428601b476c412abbab8c488293ae49344596a22fea831bb597ba", func := "artesian/artesianlaw17.RowSets", spec := "rowSets", inPlace := ["math/bits.Add64", "math/bits.Sub64"], unfollowed := true, recurses := true, named := ["math/bits.divideError", "math/bits.overflowError"], apart := false, narrowed := true }
def RowSetsUptoSaid : Prop := rowSetsUptoRow.holds Tryz.pinned (OpenSpec.upto rowSetsSpec)

/-- 'artesianlaw17.RowLists', WHERE WHAT IT READS IS OF BULK AT MOST 1048576: true; the input reads as it did. -/
def rowListsUptoRow : OpenClaim := { program := "ytbdmhamjhkibgaagreat", sum := "8a06a70ce49428601b476c412abbab8c488293ae49344596a22fea831bb597ba", func := "artesian/artesianlaw17.RowLists", spec := "rowLists", inPlace := ["math/bits.Add64", "math/bits.Sub64"], unfollowed := true, recurses := true, named := ["math/bits.divideError", "math/bits.overflowError"], apart := false, narrowed := true }
def RowListsUptoSaid : Prop := rowListsUptoRow.holds Tryz.pinned (OpenSpec.upto rowListsSpec)

/-- 'artesianlaw17.RowKnown', WHERE WHAT IT READS IS OF BULK AT MOST 1048576: true; the input reads as it did. -/
def rowKnownUptoRow : OpenClaim := { program := "ytbdmhamjhkibgaagreat", sum := "8a06a70ce49428601b476c412abbab8c488293ae49344596a22fea831bb597ba", func := "artesian/artesianlaw17.RowKnown", spec := "rowKnown", inPlace := ["math/bits.Add64", "math/bits.Sub64"], unfollowed := true, recurses := true, named := ["math/bits.divideError", "math/bits.overflowError"], apart := false, narrowed := true }
def RowKnownUptoSaid : Prop := rowKnownUptoRow.holds Tryz.pinned (OpenSpec.upto rowKnownSpec)

/-- 'artesianlaw17.RowChance', WHERE WHAT IT READS IS OF BULK AT MOST 1048576: true; the input reads as it did. -/
def rowChanceUptoRow : OpenClaim := { program := "ytbdmhamjhkibgaagreat", sum := "8a06a70ce49428601b476c412abbab8c488293ae49344596a22fea831bb597ba", func := "artesian/artesianlaw17.RowChance", spec := "rowChance", inPlace := ["math/bits.Add64", "math/bits.Sub64"], unfollowed := true, recurses := true, named := ["math/bits.divideError", "math/bits.overflowError"], apart := false, narrowed := true }
def RowChanceUptoSaid : Prop := rowChanceUptoRow.holds Tryz.pinned (OpenSpec.upto rowChanceSpec)

/-- 'artesianlaw17.RowWhole', WHERE WHAT IT READS IS OF BULK AT MOST 1048576: true; the input reads as it did. -/
def rowWholeUptoRow : OpenClaim := { program := "ytbdmhamjhkibgaagreat", sum := "8a06a70ce49428601b476c412abbab8c488293ae49344596a22fea831bb597ba", func := "artesian/artesianlaw17.RowWhole", spec := "rowWhole", inPlace := ["math/bits.Add64", "math/bits.Sub64"], unfollowed := true, recurses := true, named := ["math/bits.divideError", "math/bits.overflowError"], apart := false, narrowed := true }
def RowWholeUptoSaid : Prop := rowWholeUptoRow.holds Tryz.pinned (OpenSpec.upto rowWholeSpec)

end Rows
end Go.Proofs.YtbdmhamjhkibgaaGreat
