/-
  No cell of these rows narrows 'for every input' (looked for: loops, veiled, ifaces, maps, wideKeys, modest, calm, conditions, laid).
  DERIVED. THE GIVEN ROWS OF THIS SEAT. 4 by the template 'for every input the law returns true; each argument reads behind the call as it read before'; 0 by the template 'total and deterministic' (their statements: YthgghnaioddkcaaTotals.lean).
  GIVEN WITH THE SEED: the statements are not yours to turn. If you find one false, say at which input.
  Laid BY PROGRAM, IN A SANDBOX (cutbox-rows.mjs): the forced cells as the released guide's own fill.sh prints them over the translation a4c6382cbe2775b6… (all of the seat's roots in one cut). By AI agents, Wed Nov 11 2026. No macro, syntax, notation, axiom, sorry.
-/
import Derived.Test.YthgghnaioddkcaaChecked
import GoSem.Claim
import GoSem.ClaimJoined
import GoSem.ClaimMapViews
import Derived.JoinedTies
import Derived.KernelRfl
namespace Go.Proofs.Ythgghnaioddkcaa
/- THE CELL 'sum', in the pinned program and in every row, IS THE sha256 OF THE DUMP (.gsa) THAT YthgghnaioddkcaaProg.lean LOADS. Nothing in Lean hashes anything: it is a label: what it is worth is what the hold of that sum in a sandbox is worth. -/
noncomputable def Try.pinned : Pinned := { name := "ythgghnaioddkcaa", sum := "a4c6382cbe2775b6563ba344c61ed317dd6941513df150ccbdbe0ec1af23147c", checked := Try.checked }
namespace Rows
def none {H : Type} : Left H := { results := [], args := [] }

/-- 'artesianlaw19.EncodeNone': WHATEVER THE INPUT: true; the input reads as it did. -/
def encodeNoneSpec : ChangeSpec := { name := "encodeNone", fn := fun _ => fun
  | [d] => { results := [.lit (.bool true)], args := [d] }
  | _ => none }
def encodeNoneRow : OpenClaim := { program := "ythgghnaioddkcaa", sum := "a4c6382cbe2775b6563ba344c61ed317dd6941513df150ccbdbe0ec1af23147c", func := "artesian/artesianlaw19.EncodeNone", spec := "encodeNone", unfollowed := true, recurses := true, apart := false }
def EncodeNoneSaid : Prop := encodeNoneRow.holds Try.pinned (OpenSpec.ofChange encodeNoneSpec)

/-- ITS FALSE NEIGHBOUR: 'it returns false'. Refute it at one input. -/
def encodeNoneWrong : ChangeSpec := { name := "encodeNone", fn := fun _ => fun
  | [d] => { results := [.lit (.bool false)], args := [d] }
  | _ => none }
def EncodeNoneWrongFalsely : Prop := encodeNoneRow.holds Try.pinned (OpenSpec.ofChange encodeNoneWrong)

/-- 'artesianlaw19.EncodeKnown': WHATEVER THE INPUT: true; the input reads as it did. -/
def encodeKnownSpec : ChangeSpec := { name := "encodeKnown", fn := fun _ => fun
  | [] => { results := [.lit (.bool true)], args := [] }
  | _ => none }
def encodeKnownRow : OpenClaim := { program := "ythgghnaioddkcaa", sum := "a4c6382cbe2775b6563ba344c61ed317dd6941513df150ccbdbe0ec1af23147c", func := "artesian/artesianlaw19.EncodeKnown", spec := "encodeKnown", unfollowed := true, recurses := true, apart := false }
def EncodeKnownSaid : Prop := encodeKnownRow.holds Try.pinned (OpenSpec.ofChange encodeKnownSpec)

/-- ITS FALSE NEIGHBOUR: 'it returns false'. Refute it at one input. -/
def encodeKnownWrong : ChangeSpec := { name := "encodeKnown", fn := fun _ => fun
  | [] => { results := [.lit (.bool false)], args := [] }
  | _ => none }
def EncodeKnownWrongFalsely : Prop := encodeKnownRow.holds Try.pinned (OpenSpec.ofChange encodeKnownWrong)

/-- 'artesianlaw19.EncodeSized': WHATEVER THE INPUT: true; the input reads as it did. -/
def encodeSizedSpec : ChangeSpec := { name := "encodeSized", fn := fun _ => fun
  | [d1, d2, d3, d4, d5] => { results := [.lit (.bool true)], args := [d1, d2, d3, d4, d5] }
  | _ => none }
def encodeSizedRow : OpenClaim := { program := "ythgghnaioddkcaa", sum := "a4c6382cbe2775b6563ba344c61ed317dd6941513df150ccbdbe0ec1af23147c", func := "artesian/artesianlaw19.EncodeSized", spec := "encodeSized", unfollowed := true, recurses := true, apart := false }
def EncodeSizedSaid : Prop := encodeSizedRow.holds Try.pinned (OpenSpec.ofChange encodeSizedSpec)

/-- ITS FALSE NEIGHBOUR: 'it returns false'. Refute it at one input. -/
def encodeSizedWrong : ChangeSpec := { name := "encodeSized", fn := fun _ => fun
  | [d1, d2, d3, d4, d5] => { results := [.lit (.bool false)], args := [d1, d2, d3, d4, d5] }
  | _ => none }
def EncodeSizedWrongFalsely : Prop := encodeSizedRow.holds Try.pinned (OpenSpec.ofChange encodeSizedWrong)

/-- 'artesianlaw19.EncodeSums': WHATEVER THE INPUT: true; the input reads as it did. -/
def encodeSumsSpec : ChangeSpec := { name := "encodeSums", fn := fun _ => fun
  | [d1, d2, d3, d4, d5, d6, d7] => { results := [.lit (.bool true)], args := [d1, d2, d3, d4, d5, d6, d7] }
  | _ => none }
def encodeSumsRow : OpenClaim := { program := "ythgghnaioddkcaa", sum := "a4c6382cbe2775b6563ba344c61ed317dd6941513df150ccbdbe0ec1af23147c", func := "artesian/artesianlaw19.EncodeSums", spec := "encodeSums", unfollowed := true, recurses := true, apart := false }
def EncodeSumsSaid : Prop := encodeSumsRow.holds Try.pinned (OpenSpec.ofChange encodeSumsSpec)

/-- ITS FALSE NEIGHBOUR: 'it returns false'. Refute it at one input. -/
def encodeSumsWrong : ChangeSpec := { name := "encodeSums", fn := fun _ => fun
  | [d1, d2, d3, d4, d5, d6, d7] => { results := [.lit (.bool false)], args := [d1, d2, d3, d4, d5, d6, d7] }
  | _ => none }
def EncodeSumsWrongFalsely : Prop := encodeSumsRow.holds Try.pinned (OpenSpec.ofChange encodeSumsWrong)

/- THE SECOND FORM. 'bulk': how many values and letters a reading holds, each counted each time it is reached (what is shared counts as often as it is met; a slice's spare places count too). A statement '..UptoSaid' is the law's where the arguments, and the package variables that the reading takes, are together of bulk at most 1048576: NARROWER than '..Said'. Prove '..Said' where nothing that the law and all that it calls make is longer than what came in: it says more and counts as full. Else prove '..UptoSaid'. A law counts once. -/
mutual
def uptoBulk {H : Type} : DataW H → Nat
  | .lit (.string bytes) => bytes.length + 1
  | .lit _ => 1
  | .nil => 1
  | .ptr d => uptoBulk d + 1
  | .slice elems spare => uptoBulkAll elems + uptoBulkAll spare + 1
  | .agg parts => uptoBulkAll parts + 1
  | .iface _ d => uptoBulk d + 1
  | .map entries => uptoBulkEntries entries + 1
  | .held _ => 1
def uptoBulkAll {H : Type} : List (DataW H) → Nat
  | [] => 0
  | d :: r => uptoBulk d + uptoBulkAll r
def uptoBulkEntries {H : Type} : List (Lit × DataW H) → Nat
  | [] => 0
  | x :: r => uptoBulkEntry x + uptoBulkEntries r
def uptoBulkEntry {H : Type} : Lit × DataW H → Nat
  | (.string bytes, d) => bytes.length + uptoBulk d + 1
  | (_, d) => uptoBulk d + 1
 end
def uptoSmall : (H : Type) → List (DataW H) → Bool := fun _ ds => decide (uptoBulkAll ds ≤ 1048576)
def OpenSpec.upto (s : _root_.Go.ChangeSpec) : _root_.Go.OpenSpec := { _root_.Go.OpenSpec.ofChange s with cond := some uptoSmall }

/-- 'artesianlaw19.EncodeNone', WHERE WHAT IT READS IS OF BULK AT MOST 1048576: true; the input reads as it did. -/
def encodeNoneUptoRow : OpenClaim := { program := "ythgghnaioddkcaa", sum := "a4c6382cbe2775b6563ba344c61ed317dd6941513df150ccbdbe0ec1af23147c", func := "artesian/artesianlaw19.EncodeNone", spec := "encodeNone", unfollowed := true, recurses := true, apart := false, narrowed := true }
def EncodeNoneUptoSaid : Prop := encodeNoneUptoRow.holds Try.pinned (OpenSpec.upto encodeNoneSpec)

/-- 'artesianlaw19.EncodeKnown', WHERE WHAT IT READS IS OF BULK AT MOST 1048576: true; the input reads as it did. -/
def encodeKnownUptoRow : OpenClaim := { program := "ythgghnaioddkcaa", sum := "a4c6382cbe2775b6563ba344c61ed317dd6941513df150ccbdbe0ec1af23147c", func := "artesian/artesianlaw19.EncodeKnown", spec := "encodeKnown", unfollowed := true, recurses := true, apart := false, narrowed := true }
def EncodeKnownUptoSaid : Prop := encodeKnownUptoRow.holds Try.pinned (OpenSpec.upto encodeKnownSpec)

/-- 'artesianlaw19.EncodeSized', WHERE WHAT IT READS IS OF BULK AT MOST 1048576: true; the input reads as it did. -/
def encodeSizedUptoRow : OpenClaim := { program := "ythgghnaioddkcaa", sum := "a4c6382cbe2775b6563ba344c61ed317dd6941513df150ccbdbe0ec1af23147c", func := "artesian/artesianlaw19.EncodeSized", spec := "encodeSized", unfollowed := true, recurses := true, apart := false, narrowed := true }
def EncodeSizedUptoSaid : Prop := encodeSizedUptoRow.holds Try.pinned (OpenSpec.upto encodeSizedSpec)

/-- 'artesianlaw19.EncodeSums', WHERE WHAT IT READS IS OF BULK AT MOST 1048576: true; the input reads as it did. -/
def encodeSumsUptoRow : OpenClaim := { program := "ythgghnaioddkcaa", sum := "a4c6382cbe2775b6563ba344c61ed317dd6941513df150ccbdbe0ec1af23147c", func := "artesian/artesianlaw19.EncodeSums", spec := "encodeSums", unfollowed := true, recurses := true, apart := false, narrowed := true }
def EncodeSumsUptoSaid : Prop := encodeSumsUptoRow.holds Try.pinned (OpenSpec.upto encodeSumsSpec)

end Rows
end Go.Proofs.Ythgghnaioddkcaa
