/-
  No cell of these rows narrows 'for every input' (looked for: loops, veiled, ifaces, maps, wideKeys, modest, calm, conditions, laid).
  DERIVED. THE GIVEN ROWS OF THIS SEAT. 5 by the template 'for every input the law returns true; each argument reads behind the call as it read before'; 0 by the template 'total and deterministic' (their statements: YtmlepnlejdfdjaaGreatTotals.lean).
  GIVEN WITH THE SEED: the statements are not yours to turn. If you find one false, say at which input.
  Laid BY PROGRAM, IN A SANDBOX (cutbox-rows.mjs): the forced cells as the released guide's own fill.sh prints them over the translation e56c63f107c7855c… (all of the seat's roots in one cut). By AI agents, Wed Nov 11 2026. No macro, syntax, notation, axiom, sorry.
-/
import Derived.Test.YtmlepnlejdfdjaaGreatChecked
import GoSem.Claim
import GoSem.ClaimJoined
import GoSem.ClaimMapViews
import Derived.JoinedTies
import Derived.KernelRfl
namespace Go.Proofs.YtmlepnlejdfdjaaGreat
/- THE CELL 'sum', in the pinned program and in every row, IS THE sha256 OF THE DUMP (.gsa) THAT YtmlepnlejdfdjaaGreatProg.lean LOADS. Nothing in Lean hashes anything: it is a label: what it is worth is what the hold of that sum in a sandbox is worth. -/
noncomputable def Tryz.pinned : Pinned := { name := "ytmlepnlejdfdjaagreat", sum := "e56c63f107c7855cfdeb919fda3b775b3ca20d3e5f61271fe9064d51ff959946", checked := Tryz.checked }
namespace Rows
def none {H : Type} : Left H := { results := [], args := [] }

/-- 'artesianlaw29.SenderEnds': WHATEVER THE INPUT: true; the input reads as it did. -/
def senderEndsSpec : ChangeSpec := { name := "senderEnds", fn := fun _ => fun
  | [d1, d2] => { results := [.lit (.bool true)], args := [d1, d2] }
  | _ => none }
def senderEndsRow : OpenClaim := { program := "ytmlepnlejdfdjaagreat", sum := "e56c63f107c7855cfdeb919fda3b775b3ca20d3e5f61271fe9064d51ff959946", func := "artesian/artesianlaw29.SenderEnds", spec := "senderEnds", unfollowed := true, recurses := true, apart := false }
def SenderEndsSaid : Prop := senderEndsRow.holds Tryz.pinned (OpenSpec.ofChange senderEndsSpec)

/-- ITS FALSE NEIGHBOUR: 'it returns false'. Refute it at one input. -/
def senderEndsWrong : ChangeSpec := { name := "senderEnds", fn := fun _ => fun
  | [d1, d2] => { results := [.lit (.bool false)], args := [d1, d2] }
  | _ => none }
def SenderEndsWrongFalsely : Prop := senderEndsRow.holds Tryz.pinned (OpenSpec.ofChange senderEndsWrong)

/-- 'artesianlaw29.SenderNone': WHATEVER THE INPUT: true; the input reads as it did. -/
def senderNoneSpec : ChangeSpec := { name := "senderNone", fn := fun _ => fun
  | [d] => { results := [.lit (.bool true)], args := [d] }
  | _ => none }
def senderNoneRow : OpenClaim := { program := "ytmlepnlejdfdjaagreat", sum := "e56c63f107c7855cfdeb919fda3b775b3ca20d3e5f61271fe9064d51ff959946", func := "artesian/artesianlaw29.SenderNone", spec := "senderNone", unfollowed := true, recurses := true, apart := false }
def SenderNoneSaid : Prop := senderNoneRow.holds Tryz.pinned (OpenSpec.ofChange senderNoneSpec)

/-- ITS FALSE NEIGHBOUR: 'it returns false'. Refute it at one input. -/
def senderNoneWrong : ChangeSpec := { name := "senderNone", fn := fun _ => fun
  | [d] => { results := [.lit (.bool false)], args := [d] }
  | _ => none }
def SenderNoneWrongFalsely : Prop := senderNoneRow.holds Tryz.pinned (OpenSpec.ofChange senderNoneWrong)

/-- 'artesianlaw29.SenderKnown': WHATEVER THE INPUT: true; the input reads as it did. -/
def senderKnownSpec : ChangeSpec := { name := "senderKnown", fn := fun _ => fun
  | [] => { results := [.lit (.bool true)], args := [] }
  | _ => none }
def senderKnownRow : OpenClaim := { program := "ytmlepnlejdfdjaagreat", sum := "e56c63f107c7855cfdeb919fda3b775b3ca20d3e5f61271fe9064d51ff959946", func := "artesian/artesianlaw29.SenderKnown", spec := "senderKnown", unfollowed := true, recurses := true, apart := false }
def SenderKnownSaid : Prop := senderKnownRow.holds Tryz.pinned (OpenSpec.ofChange senderKnownSpec)

/-- ITS FALSE NEIGHBOUR: 'it returns false'. Refute it at one input. -/
def senderKnownWrong : ChangeSpec := { name := "senderKnown", fn := fun _ => fun
  | [] => { results := [.lit (.bool false)], args := [] }
  | _ => none }
def SenderKnownWrongFalsely : Prop := senderKnownRow.holds Tryz.pinned (OpenSpec.ofChange senderKnownWrong)

/-- 'artesianlaw29.SenderTurns': WHATEVER THE INPUT: true; the input reads as it did. -/
def senderTurnsSpec : ChangeSpec := { name := "senderTurns", fn := fun _ => fun
  | [d1, d2] => { results := [.lit (.bool true)], args := [d1, d2] }
  | _ => none }
def senderTurnsRow : OpenClaim := { program := "ytmlepnlejdfdjaagreat", sum := "e56c63f107c7855cfdeb919fda3b775b3ca20d3e5f61271fe9064d51ff959946", func := "artesian/artesianlaw29.SenderTurns", spec := "senderTurns", unfollowed := true, recurses := true, apart := false }
def SenderTurnsSaid : Prop := senderTurnsRow.holds Tryz.pinned (OpenSpec.ofChange senderTurnsSpec)

/-- ITS FALSE NEIGHBOUR: 'it returns false'. Refute it at one input. -/
def senderTurnsWrong : ChangeSpec := { name := "senderTurns", fn := fun _ => fun
  | [d1, d2] => { results := [.lit (.bool false)], args := [d1, d2] }
  | _ => none }
def SenderTurnsWrongFalsely : Prop := senderTurnsRow.holds Tryz.pinned (OpenSpec.ofChange senderTurnsWrong)

/-- 'artesianlaw29.SenderStays': WHATEVER THE INPUT: true; the input reads as it did. -/
def senderStaysSpec : ChangeSpec := { name := "senderStays", fn := fun _ => fun
  | [d1, d2] => { results := [.lit (.bool true)], args := [d1, d2] }
  | _ => none }
def senderStaysRow : OpenClaim := { program := "ytmlepnlejdfdjaagreat", sum := "e56c63f107c7855cfdeb919fda3b775b3ca20d3e5f61271fe9064d51ff959946", func := "artesian/artesianlaw29.SenderStays", spec := "senderStays", unfollowed := true, recurses := true, apart := false }
def SenderStaysSaid : Prop := senderStaysRow.holds Tryz.pinned (OpenSpec.ofChange senderStaysSpec)

/-- ITS FALSE NEIGHBOUR: 'it returns false'. Refute it at one input. -/
def senderStaysWrong : ChangeSpec := { name := "senderStays", fn := fun _ => fun
  | [d1, d2] => { results := [.lit (.bool false)], args := [d1, d2] }
  | _ => none }
def SenderStaysWrongFalsely : Prop := senderStaysRow.holds Tryz.pinned (OpenSpec.ofChange senderStaysWrong)

/- THE SECOND FORM. 'bulk': how many values and letters a reading holds, each counted each time it is reached (what is shared counts as often as it is met; a slice's spare places count too). A statement '..UptoSaid' is the law's where the arguments, and the package variables that the reading takes, are together of bulk at most 1048576: NARROWER than '..Said'. Prove '..Said' where nothing that the law and all that it calls make is longer than what came in: it says more and counts as full. Else prove '..UptoSaid'. A law counts once. -/
mutual
def uptoBulk {H : Type} : DataW H → Nat
  | .lit (.string bytes) => bytes.length + 1
  | .lit _ => 1
  | .nil => 1
  | .ptr d => uptoBulk d + 1
  | .slice elems spare => uptoBulkAll elems + uptoBulkAll spare + 1
  | .agg parts => uptoBulkAll parts + 1
  | .iface _ d => uptoBulk d + 1
  | .map entries => uptoBulkEntries entries + 1
  | .held _ => 1
def uptoBulkAll {H : Type} : List (DataW H) → Nat
  | [] => 0
  | d :: r => uptoBulk d + uptoBulkAll r
def uptoBulkEntries {H : Type} : List (Lit × DataW H) → Nat
  | [] => 0
  | x :: r => uptoBulkEntry x + uptoBulkEntries r
def uptoBulkEntry {H : Type} : Lit × DataW H → Nat
  | (.string bytes, d) => bytes.length + uptoBulk d + 1
  | (_, d) => uptoBulk d + 1
 end
def uptoSmall : (H : Type) → List (DataW H) → Bool := fun _ ds => decide (uptoBulkAll ds ≤ 1048576)
def OpenSpec.upto (s : _root_.Go.ChangeSpec) : _root_.Go.OpenSpec := { _root_.Go.OpenSpec.ofChange s with cond := some uptoSmall }

/-- 'artesianlaw29.SenderEnds', WHERE WHAT IT READS IS OF BULK AT MOST 1048576: true; the input reads as it did. -/
def senderEndsUptoRow : OpenClaim := { program := "ytmlepnlejdfdjaagreat", sum := "e56c63f107c7855cfdeb919fda3b775b3ca20d3e5f61271fe9064d51ff959946", func := "artesian/artesianlaw29.SenderEnds", spec := "senderEnds", unfollowed := true, recurses := true, apart := false, narrowed := true }
def SenderEndsUptoSaid : Prop := senderEndsUptoRow.holds Tryz.pinned (OpenSpec.upto senderEndsSpec)

/-- 'artesianlaw29.SenderNone', WHERE WHAT IT READS IS OF BULK AT MOST 1048576: true; the input reads as it did. -/
def senderNoneUptoRow : OpenClaim := { program := "ytmlepnlejdfdjaagreat", sum := "e56c63f107c7855cfdeb919fda3b775b3ca20d3e5f61271fe9064d51ff959946", func := "artesian/artesianlaw29.SenderNone", spec := "senderNone", unfollowed := true, recurses := true, apart := false, narrowed := true }
def SenderNoneUptoSaid : Prop := senderNoneUptoRow.holds Tryz.pinned (OpenSpec.upto senderNoneSpec)

/-- 'artesianlaw29.SenderKnown', WHERE WHAT IT READS IS OF BULK AT MOST 1048576: true; the input reads as it did. -/
def senderKnownUptoRow : OpenClaim := { program := "ytmlepnlejdfdjaagreat", sum := "e56c63f107c7855cfdeb919fda3b775b3ca20d3e5f61271fe9064d51ff959946", func := "artesian/artesianlaw29.SenderKnown", spec := "senderKnown", unfollowed := true, recurses := true, apart := false, narrowed := true }
def SenderKnownUptoSaid : Prop := senderKnownUptoRow.holds Tryz.pinned (OpenSpec.upto senderKnownSpec)

/-- 'artesianlaw29.SenderTurns', WHERE WHAT IT READS IS OF BULK AT MOST 1048576: true; the input reads as it did. -/
def senderTurnsUptoRow : OpenClaim := { program := "ytmlepnlejdfdjaagreat", sum := "e56c63f107c7855cfdeb919fda3b775b3ca20d3e5f61271fe9064d51ff959946", func := "artesian/artesianlaw29.SenderTurns", spec := "senderTurns", unfollowed := true, recurses := true, apart := false, narrowed := true }
def SenderTurnsUptoSaid : Prop := senderTurnsUptoRow.holds Tryz.pinned (OpenSpec.upto senderTurnsSpec)

/-- 'artesianlaw29.SenderStays', WHERE WHAT IT READS IS OF BULK AT MOST 1048576: true; the input reads as it did. -/
def senderStaysUptoRow : OpenClaim := { program := "ytmlepnlejdfdjaagreat", sum := "e56c63f107c7855cfdeb919fda3b775b3ca20d3e5f61271fe9064d51ff959946", func := "artesian/artesianlaw29.SenderStays", spec := "senderStays", unfollowed := true, recurses := true, apart := false, narrowed := true }
def SenderStaysUptoSaid : Prop := senderStaysUptoRow.holds Tryz.pinned (OpenSpec.upto senderStaysSpec)

end Rows
end Go.Proofs.YtmlepnlejdfdjaaGreat
