/-
  No cell of these rows narrows 'for every input' (looked for: loops, veiled, ifaces, maps, wideKeys, modest, calm, conditions, laid).
  DERIVED. THE GIVEN ROWS OF THIS SEAT. 12 by the template 'for every input the law returns true; each argument reads behind the call as it read before'; 0 by the template 'total and deterministic' (their statements: YtpabbhpgikdhfaaGreatTotals.lean).
  GIVEN WITH THE SEED: the statements are not yours to turn. If you find one false, say at which input.
  Laid BY PROGRAM, IN A SANDBOX (cutbox-rows.mjs): the forced cells as the released guide's own fill.sh prints them over the translation b27028fb109bdad1… (all of the seat's roots in one cut). By AI agents, Wed Nov 11 2026. No macro, syntax, notation, axiom, sorry.
-/
import Derived.Test.YtpabbhpgikdhfaaGreatChecked
import GoSem.Claim
import GoSem.ClaimJoined
import GoSem.ClaimMapViews
import Derived.JoinedTies
import Derived.KernelRfl
namespace Go.Proofs.YtpabbhpgikdhfaaGreat
/- THE CELL 'sum', in the pinned program and in every row, IS THE sha256 OF THE DUMP (.gsa) THAT YtpabbhpgikdhfaaGreatProg.lean LOADS. Nothing in Lean hashes anything: it is a label: what it is worth is what the hold of that sum in a sandbox is worth. -/
noncomputable def Tryz.pinned : Pinned := { name := "ytpabbhpgikdhfaagreat", sum := "b27028fb109bdad1daf109c958dc9ed95f330b3ff5b792f737ac4c693fb481ed", checked := Tryz.checked }
namespace Rows
def none {H : Type} : Left H := { results := [], args := [] }

/-- 'artesianlaw25.RippleTells': WHATEVER THE INPUT: true; the input reads as it did. -/
def rippleTellsSpec : ChangeSpec := { name := "rippleTells", fn := fun _ => fun
  | [d1, d2, d3] => { results := [.lit (.bool true)], args := [d1, d2, d3] }
  | _ => none }
def rippleTellsRow : OpenClaim := { program := "ytpabbhpgikdhfaagreat", sum := "b27028fb109bdad1daf109c958dc9ed95f330b3ff5b792f737ac4c693fb481ed", func := "artesian/artesianlaw25.RippleTells", spec := "rippleTells", inPlace := ["math/bits.Add64", "math/bits.Sub64"], unfollowed := true, recurses := true, named := ["math/bits.divideError", "math/bits.overflowError"], apart := false }
def RippleTellsSaid : Prop := rippleTellsRow.holds Tryz.pinned (OpenSpec.ofChange rippleTellsSpec)

/-- ITS FALSE NEIGHBOUR: 'it returns false'. Refute it at one input. -/
def rippleTellsWrong : ChangeSpec := { name := "rippleTells", fn := fun _ => fun
  | [d1, d2, d3] => { results := [.lit (.bool false)], args := [d1, d2, d3] }
  | _ => none }
def RippleTellsWrongFalsely : Prop := rippleTellsRow.holds Tryz.pinned (OpenSpec.ofChange rippleTellsWrong)

/-- 'artesianlaw25.RippleStates': WHATEVER THE INPUT: true; the input reads as it did. -/
def rippleStatesSpec : ChangeSpec := { name := "rippleStates", fn := fun _ => fun
  | [d1, d2, d3, d4] => { results := [.lit (.bool true)], args := [d1, d2, d3, d4] }
  | _ => none }
def rippleStatesRow : OpenClaim := { program := "ytpabbhpgikdhfaagreat", sum := "b27028fb109bdad1daf109c958dc9ed95f330b3ff5b792f737ac4c693fb481ed", func := "artesian/artesianlaw25.RippleStates", spec := "rippleStates", inPlace := ["math/bits.Add64", "math/bits.Sub64"], unfollowed := true, recurses := true, named := ["math/bits.divideError", "math/bits.overflowError"], apart := false }
def RippleStatesSaid : Prop := rippleStatesRow.holds Tryz.pinned (OpenSpec.ofChange rippleStatesSpec)

/-- ITS FALSE NEIGHBOUR: 'it returns false'. Refute it at one input. -/
def rippleStatesWrong : ChangeSpec := { name := "rippleStates", fn := fun _ => fun
  | [d1, d2, d3, d4] => { results := [.lit (.bool false)], args := [d1, d2, d3, d4] }
  | _ => none }
def RippleStatesWrongFalsely : Prop := rippleStatesRow.holds Tryz.pinned (OpenSpec.ofChange rippleStatesWrong)

/-- 'artesianlaw25.RippleKnown': WHATEVER THE INPUT: true; the input reads as it did. -/
def rippleKnownSpec : ChangeSpec := { name := "rippleKnown", fn := fun _ => fun
  | [] => { results := [.lit (.bool true)], args := [] }
  | _ => none }
def rippleKnownRow : OpenClaim := { program := "ytpabbhpgikdhfaagreat", sum := "b27028fb109bdad1daf109c958dc9ed95f330b3ff5b792f737ac4c693fb481ed", func := "artesian/artesianlaw25.RippleKnown", spec := "rippleKnown", inPlace := ["math/bits.Add64", "math/bits.Sub64"], unfollowed := true, recurses := true, named := ["math/bits.divideError", "math/bits.overflowError"], apart := false }
def RippleKnownSaid : Prop := rippleKnownRow.holds Tryz.pinned (OpenSpec.ofChange rippleKnownSpec)

/-- ITS FALSE NEIGHBOUR: 'it returns false'. Refute it at one input. -/
def rippleKnownWrong : ChangeSpec := { name := "rippleKnown", fn := fun _ => fun
  | [] => { results := [.lit (.bool false)], args := [] }
  | _ => none }
def RippleKnownWrongFalsely : Prop := rippleKnownRow.holds Tryz.pinned (OpenSpec.ofChange rippleKnownWrong)

/-- 'artesianlaw25.RippleWhole': WHATEVER THE INPUT: true; the input reads as it did. -/
def rippleWholeSpec : ChangeSpec := { name := "rippleWhole", fn := fun _ => fun
  | [d1, d2, d3] => { results := [.lit (.bool true)], args := [d1, d2, d3] }
  | _ => none }
def rippleWholeRow : OpenClaim := { program := "ytpabbhpgikdhfaagreat", sum := "b27028fb109bdad1daf109c958dc9ed95f330b3ff5b792f737ac4c693fb481ed", func := "artesian/artesianlaw25.RippleWhole", spec := "rippleWhole", inPlace := ["math/bits.Add64", "math/bits.Sub64"], unfollowed := true, recurses := true, named := ["math/bits.divideError", "math/bits.overflowError"], apart := false }
def RippleWholeSaid : Prop := rippleWholeRow.holds Tryz.pinned (OpenSpec.ofChange rippleWholeSpec)

/-- ITS FALSE NEIGHBOUR: 'it returns false'. Refute it at one input. -/
def rippleWholeWrong : ChangeSpec := { name := "rippleWhole", fn := fun _ => fun
  | [d1, d2, d3] => { results := [.lit (.bool false)], args := [d1, d2, d3] }
  | _ => none }
def RippleWholeWrongFalsely : Prop := rippleWholeRow.holds Tryz.pinned (OpenSpec.ofChange rippleWholeWrong)

/-- 'artesianlaw25.RippleTrue': WHATEVER THE INPUT: true; the input reads as it did. -/
def rippleTrueSpec : ChangeSpec := { name := "rippleTrue", fn := fun _ => fun
  | [d1, d2, d3] => { results := [.lit (.bool true)], args := [d1, d2, d3] }
  | _ => none }
def rippleTrueRow : OpenClaim := { program := "ytpabbhpgikdhfaagreat", sum := "b27028fb109bdad1daf109c958dc9ed95f330b3ff5b792f737ac4c693fb481ed", func := "artesian/artesianlaw25.RippleTrue", spec := "rippleTrue", inPlace := ["math/bits.Add64", "math/bits.Sub64"], unfollowed := true, recurses := true, named := ["math/bits.divideError", "math/bits.overflowError"], apart := false }
def RippleTrueSaid : Prop := rippleTrueRow.holds Tryz.pinned (OpenSpec.ofChange rippleTrueSpec)

/-- ITS FALSE NEIGHBOUR: 'it returns false'. Refute it at one input. -/
def rippleTrueWrong : ChangeSpec := { name := "rippleTrue", fn := fun _ => fun
  | [d1, d2, d3] => { results := [.lit (.bool false)], args := [d1, d2, d3] }
  | _ => none }
def RippleTrueWrongFalsely : Prop := rippleTrueRow.holds Tryz.pinned (OpenSpec.ofChange rippleTrueWrong)

/-- 'artesianlaw25.RippleMass': WHATEVER THE INPUT: true; the input reads as it did. -/
def rippleMassSpec : ChangeSpec := { name := "rippleMass", fn := fun _ => fun
  | [d1, d2, d3] => { results := [.lit (.bool true)], args := [d1, d2, d3] }
  | _ => none }
def rippleMassRow : OpenClaim := { program := "ytpabbhpgikdhfaagreat", sum := "b27028fb109bdad1daf109c958dc9ed95f330b3ff5b792f737ac4c693fb481ed", func := "artesian/artesianlaw25.RippleMass", spec := "rippleMass", inPlace := ["math/bits.Add64", "math/bits.Sub64"], unfollowed := true, recurses := true, named := ["math/bits.divideError", "math/bits.overflowError"], apart := false }
def RippleMassSaid : Prop := rippleMassRow.holds Tryz.pinned (OpenSpec.ofChange rippleMassSpec)

/-- ITS FALSE NEIGHBOUR: 'it returns false'. Refute it at one input. -/
def rippleMassWrong : ChangeSpec := { name := "rippleMass", fn := fun _ => fun
  | [d1, d2, d3] => { results := [.lit (.bool false)], args := [d1, d2, d3] }
  | _ => none }
def RippleMassWrongFalsely : Prop := rippleMassRow.holds Tryz.pinned (OpenSpec.ofChange rippleMassWrong)

/-- 'artesianlaw26.CurveLeasts': WHATEVER THE INPUT: true; the input reads as it did. -/
def curveLeastsSpec : ChangeSpec := { name := "curveLeasts", fn := fun _ => fun
  | [d1, d2, d3, d4] => { results := [.lit (.bool true)], args := [d1, d2, d3, d4] }
  | _ => none }
def curveLeastsRow : OpenClaim := { program := "ytpabbhpgikdhfaagreat", sum := "b27028fb109bdad1daf109c958dc9ed95f330b3ff5b792f737ac4c693fb481ed", func := "artesian/artesianlaw26.CurveLeasts", spec := "curveLeasts", inPlace := ["math/bits.Add64", "math/bits.Sub64"], unfollowed := true, recurses := true, named := ["math/bits.divideError", "math/bits.overflowError"], apart := false }
def CurveLeastsSaid : Prop := curveLeastsRow.holds Tryz.pinned (OpenSpec.ofChange curveLeastsSpec)

/-- ITS FALSE NEIGHBOUR: 'it returns false'. Refute it at one input. -/
def curveLeastsWrong : ChangeSpec := { name := "curveLeasts", fn := fun _ => fun
  | [d1, d2, d3, d4] => { results := [.lit (.bool false)], args := [d1, d2, d3, d4] }
  | _ => none }
def CurveLeastsWrongFalsely : Prop := curveLeastsRow.holds Tryz.pinned (OpenSpec.ofChange curveLeastsWrong)

/-- 'artesianlaw26.CurveTells': WHATEVER THE INPUT: true; the input reads as it did. -/
def curveTellsSpec : ChangeSpec := { name := "curveTells", fn := fun _ => fun
  | [d1, d2, d3] => { results := [.lit (.bool true)], args := [d1, d2, d3] }
  | _ => none }
def curveTellsRow : OpenClaim := { program := "ytpabbhpgikdhfaagreat", sum := "b27028fb109bdad1daf109c958dc9ed95f330b3ff5b792f737ac4c693fb481ed", func := "artesian/artesianlaw26.CurveTells", spec := "curveTells", inPlace := ["math/bits.Add64", "math/bits.Sub64"], unfollowed := true, recurses := true, named := ["math/bits.divideError", "math/bits.overflowError"], apart := false }
def CurveTellsSaid : Prop := curveTellsRow.holds Tryz.pinned (OpenSpec.ofChange curveTellsSpec)

/-- ITS FALSE NEIGHBOUR: 'it returns false'. Refute it at one input. -/
def curveTellsWrong : ChangeSpec := { name := "curveTells", fn := fun _ => fun
  | [d1, d2, d3] => { results := [.lit (.bool false)], args := [d1, d2, d3] }
  | _ => none }
def CurveTellsWrongFalsely : Prop := curveTellsRow.holds Tryz.pinned (OpenSpec.ofChange curveTellsWrong)

/-- 'artesianlaw26.CurveKnown': WHATEVER THE INPUT: true; the input reads as it did. -/
def curveKnownSpec : ChangeSpec := { name := "curveKnown", fn := fun _ => fun
  | [] => { results := [.lit (.bool true)], args := [] }
  | _ => none }
def curveKnownRow : OpenClaim := { program := "ytpabbhpgikdhfaagreat", sum := "b27028fb109bdad1daf109c958dc9ed95f330b3ff5b792f737ac4c693fb481ed", func := "artesian/artesianlaw26.CurveKnown", spec := "curveKnown", inPlace := ["math/bits.Add64", "math/bits.Sub64"], unfollowed := true, recurses := true, named := ["math/bits.divideError", "math/bits.overflowError"], apart := false }
def CurveKnownSaid : Prop := curveKnownRow.holds Tryz.pinned (OpenSpec.ofChange curveKnownSpec)

/-- ITS FALSE NEIGHBOUR: 'it returns false'. Refute it at one input. -/
def curveKnownWrong : ChangeSpec := { name := "curveKnown", fn := fun _ => fun
  | [] => { results := [.lit (.bool false)], args := [] }
  | _ => none }
def CurveKnownWrongFalsely : Prop := curveKnownRow.holds Tryz.pinned (OpenSpec.ofChange curveKnownWrong)

/-- 'artesianlaw26.CurveFalls': WHATEVER THE INPUT: true; the input reads as it did. -/
def curveFallsSpec : ChangeSpec := { name := "curveFalls", fn := fun _ => fun
  | [d1, d2, d3] => { results := [.lit (.bool true)], args := [d1, d2, d3] }
  | _ => none }
def curveFallsRow : OpenClaim := { program := "ytpabbhpgikdhfaagreat", sum := "b27028fb109bdad1daf109c958dc9ed95f330b3ff5b792f737ac4c693fb481ed", func := "artesian/artesianlaw26.CurveFalls", spec := "curveFalls", inPlace := ["math/bits.Add64", "math/bits.Sub64"], unfollowed := true, recurses := true, named := ["math/bits.divideError", "math/bits.overflowError"], apart := false }
def CurveFallsSaid : Prop := curveFallsRow.holds Tryz.pinned (OpenSpec.ofChange curveFallsSpec)

/-- ITS FALSE NEIGHBOUR: 'it returns false'. Refute it at one input. -/
def curveFallsWrong : ChangeSpec := { name := "curveFalls", fn := fun _ => fun
  | [d1, d2, d3] => { results := [.lit (.bool false)], args := [d1, d2, d3] }
  | _ => none }
def CurveFallsWrongFalsely : Prop := curveFallsRow.holds Tryz.pinned (OpenSpec.ofChange curveFallsWrong)

/-- 'artesianlaw26.CurveSure': WHATEVER THE INPUT: true; the input reads as it did. -/
def curveSureSpec : ChangeSpec := { name := "curveSure", fn := fun _ => fun
  | [d1, d2, d3, d4, d5] => { results := [.lit (.bool true)], args := [d1, d2, d3, d4, d5] }
  | _ => none }
def curveSureRow : OpenClaim := { program := "ytpabbhpgikdhfaagreat", sum := "b27028fb109bdad1daf109c958dc9ed95f330b3ff5b792f737ac4c693fb481ed", func := "artesian/artesianlaw26.CurveSure", spec := "curveSure", inPlace := ["math/bits.Add64", "math/bits.Sub64"], unfollowed := true, recurses := true, named := ["math/bits.divideError", "math/bits.overflowError"], apart := false }
def CurveSureSaid : Prop := curveSureRow.holds Tryz.pinned (OpenSpec.ofChange curveSureSpec)

/-- ITS FALSE NEIGHBOUR: 'it returns false'. Refute it at one input. -/
def curveSureWrong : ChangeSpec := { name := "curveSure", fn := fun _ => fun
  | [d1, d2, d3, d4, d5] => { results := [.lit (.bool false)], args := [d1, d2, d3, d4, d5] }
  | _ => none }
def CurveSureWrongFalsely : Prop := curveSureRow.holds Tryz.pinned (OpenSpec.ofChange curveSureWrong)

/-- 'artesianlaw26.CurveTruth': WHATEVER THE INPUT: true; the input reads as it did. -/
def curveTruthSpec : ChangeSpec := { name := "curveTruth", fn := fun _ => fun
  | [d1, d2, d3] => { results := [.lit (.bool true)], args := [d1, d2, d3] }
  | _ => none }
def curveTruthRow : OpenClaim := { program := "ytpabbhpgikdhfaagreat", sum := "b27028fb109bdad1daf109c958dc9ed95f330b3ff5b792f737ac4c693fb481ed", func := "artesian/artesianlaw26.CurveTruth", spec := "curveTruth", inPlace := ["math/bits.Add64", "math/bits.Sub64"], unfollowed := true, recurses := true, named := ["math/bits.divideError", "math/bits.overflowError"], apart := false }
def CurveTruthSaid : Prop := curveTruthRow.holds Tryz.pinned (OpenSpec.ofChange curveTruthSpec)

/-- ITS FALSE NEIGHBOUR: 'it returns false'. Refute it at one input. -/
def curveTruthWrong : ChangeSpec := { name := "curveTruth", fn := fun _ => fun
  | [d1, d2, d3] => { results := [.lit (.bool false)], args := [d1, d2, d3] }
  | _ => none }
def CurveTruthWrongFalsely : Prop := curveTruthRow.holds Tryz.pinned (OpenSpec.ofChange curveTruthWrong)

/- THE SECOND FORM. 'bulk': how many values and letters a reading holds, each counted each time it is reached (what is shared counts as often as it is met; a slice's spare places count too). A statement '..UptoSaid' is the law's where the arguments, and the package variables that the reading takes, are together of bulk at most 1048576: NARROWER than '..Said'. Prove '..Said' where nothing that the law and all that it calls make is longer than what came in: it says more and counts as full. Else prove '..UptoSaid'. A law counts once. -/
mutual
def uptoBulk {H : Type} : DataW H → Nat
  | .lit (.string bytes) => bytes.length + 1
  | .lit _ => 1
  | .nil => 1
  | .ptr d => uptoBulk d + 1
  | .slice elems spare => uptoBulkAll elems + uptoBulkAll spare + 1
  | .agg parts => uptoBulkAll parts + 1
  | .iface _ d => uptoBulk d + 1
  | .map entries => uptoBulkEntries entries + 1
  | .held _ => 1
def uptoBulkAll {H : Type} : List (DataW H) → Nat
  | [] => 0
  | d :: r => uptoBulk d + uptoBulkAll r
def uptoBulkEntries {H : Type} : List (Lit × DataW H) → Nat
  | [] => 0
  | x :: r => uptoBulkEntry x + uptoBulkEntries r
def uptoBulkEntry {H : Type} : Lit × DataW H → Nat
  | (.string bytes, d) => bytes.length + uptoBulk d + 1
  | (_, d) => uptoBulk d + 1
 end
def uptoSmall : (H : Type) → List (DataW H) → Bool := fun _ ds => decide (uptoBulkAll ds ≤ 1048576)
def OpenSpec.upto (s : _root_.Go.ChangeSpec) : _root_.Go.OpenSpec := { _root_.Go.OpenSpec.ofChange s with cond := some uptoSmall }

/-- 'artesianlaw25.RippleTells', WHERE WHAT IT READS IS OF BULK AT MOST 1048576: true; the input reads as it did. -/
def rippleTellsUptoRow : OpenClaim := { program := "ytpabbhpgikdhfaagreat", sum := "b27028fb109bdad1daf109c958dc9ed95f330b3ff5b792f737ac4c693fb481ed", func := "artesian/artesianlaw25.RippleTells", spec := "rippleTells", inPlace := ["math/bits.Add64", "math/bits.Sub64"], unfollowed := true, recurses := true, named := ["math/bits.divideError", "math/bits.overflowError"], apart := false, narrowed := true }
def RippleTellsUptoSaid : Prop := rippleTellsUptoRow.holds Tryz.pinned (OpenSpec.upto rippleTellsSpec)

/-- 'artesianlaw25.RippleStates', WHERE WHAT IT READS IS OF BULK AT MOST 1048576: true; the input reads as it did. -/
def rippleStatesUptoRow : OpenClaim := { program := "ytpabbhpgikdhfaagreat", sum := "b27028fb109bdad1daf109c958dc9ed95f330b3ff5b792f737ac4c693fb481ed", func := "artesian/artesianlaw25.RippleStates", spec := "rippleStates", inPlace := ["math/bits.Add64", "math/bits.Sub64"], unfollowed := true, recurses := true, named := ["math/bits.divideError", "math/bits.overflowError"], apart := false, narrowed := true }
def RippleStatesUptoSaid : Prop := rippleStatesUptoRow.holds Tryz.pinned (OpenSpec.upto rippleStatesSpec)

/-- 'artesianlaw25.RippleKnown', WHERE WHAT IT READS IS OF BULK AT MOST 1048576: true; the input reads as it did. -/
def rippleKnownUptoRow : OpenClaim := { program := "ytpabbhpgikdhfaagreat", sum := "b27028fb109bdad1daf109c958dc9ed95f330b3ff5b792f737ac4c693fb481ed", func := "artesian/artesianlaw25.RippleKnown", spec := "rippleKnown", inPlace := ["math/bits.Add64", "math/bits.Sub64"], unfollowed := true, recurses := true, named := ["math/bits.divideError", "math/bits.overflowError"], apart := false, narrowed := true }
def RippleKnownUptoSaid : Prop := rippleKnownUptoRow.holds Tryz.pinned (OpenSpec.upto rippleKnownSpec)

/-- 'artesianlaw25.RippleWhole', WHERE WHAT IT READS IS OF BULK AT MOST 1048576: true; the input reads as it did. -/
def rippleWholeUptoRow : OpenClaim := { program := "ytpabbhpgikdhfaagreat", sum := "b27028fb109bdad1daf109c958dc9ed95f330b3ff5b792f737ac4c693fb481ed", func := "artesian/artesianlaw25.RippleWhole", spec := "rippleWhole", inPlace := ["math/bits.Add64", "math/bits.Sub64"], unfollowed := true, recurses := true, named := ["math/bits.divideError", "math/bits.overflowError"], apart := false, narrowed := true }
def RippleWholeUptoSaid : Prop := rippleWholeUptoRow.holds Tryz.pinned (OpenSpec.upto rippleWholeSpec)

/-- 'artesianlaw25.RippleTrue', WHERE WHAT IT READS IS OF BULK AT MOST 1048576: true; the input reads as it did. -/
def rippleTrueUptoRow : OpenClaim := { program := "ytpabbhpgikdhfaagreat", sum := "b27028fb109bdad1daf109c958dc9ed95f330b3ff5b792f737ac4c693fb481ed", func := "artesian/artesianlaw25.RippleTrue", spec := "rippleTrue", inPlace := ["math/bits.Add64", "math/bits.Sub64"], unfollowed := true, recurses := true, named := ["math/bits.divideError", "math/bits.overflowError"], apart := false, narrowed := true }
def RippleTrueUptoSaid : Prop := rippleTrueUptoRow.holds Tryz.pinned (OpenSpec.upto rippleTrueSpec)

/-- 'artesianlaw25.RippleMass', WHERE WHAT IT READS IS OF BULK AT MOST 1048576: true; the input reads as it did. -/
def rippleMassUptoRow : OpenClaim := { program := "ytpabbhpgikdhfaagreat", sum := "b27028fb109bdad1daf109c958dc9ed95f330b3ff5b792f737ac4c693fb481ed", func := "artesian/artesianlaw25.RippleMass", spec := "rippleMass", inPlace := ["math/bits.Add64", "math/bits.Sub64"], unfollowed := true, recurses := true, named := ["math/bits.divideError", "math/bits.overflowError"], apart := false, narrowed := true }
def RippleMassUptoSaid : Prop := rippleMassUptoRow.holds Tryz.pinned (OpenSpec.upto rippleMassSpec)

/-- 'artesianlaw26.CurveLeasts', WHERE WHAT IT READS IS OF BULK AT MOST 1048576: true; the input reads as it did. -/
def curveLeastsUptoRow : OpenClaim := { program := "ytpabbhpgikdhfaagreat", sum := "b27028fb109bdad1daf109c958dc9ed95f330b3ff5b792f737ac4c693fb481ed", func := "artesian/artesianlaw26.CurveLeasts", spec := "curveLeasts", inPlace := ["math/bits.Add64", "math/bits.Sub64"], unfollowed := true, recurses := true, named := ["math/bits.divideError", "math/bits.overflowError"], apart := false, narrowed := true }
def CurveLeastsUptoSaid : Prop := curveLeastsUptoRow.holds Tryz.pinned (OpenSpec.upto curveLeastsSpec)

/-- 'artesianlaw26.CurveTells', WHERE WHAT IT READS IS OF BULK AT MOST 1048576: true; the input reads as it did. -/
def curveTellsUptoRow : OpenClaim := { program := "ytpabbhpgikdhfaagreat", sum := "b27028fb109bdad1daf109c958dc9ed95f330b3ff5b792f737ac4c693fb481ed", func := "artesian/artesianlaw26.CurveTells", spec := "curveTells", inPlace := ["math/bits.Add64", "math/bits.Sub64"], unfollowed := true, recurses := true, named := ["math/bits.divideError", "math/bits.overflowError"], apart := false, narrowed := true }
def CurveTellsUptoSaid : Prop := curveTellsUptoRow.holds Tryz.pinned (OpenSpec.upto curveTellsSpec)

/-- 'artesianlaw26.CurveKnown', WHERE WHAT IT READS IS OF BULK AT MOST 1048576: true; the input reads as it did. -/
def curveKnownUptoRow : OpenClaim := { program := "ytpabbhpgikdhfaagreat", sum := "b27028fb109bdad1daf109c958dc9ed95f330b3ff5b792f737ac4c693fb481ed", func := "artesian/artesianlaw26.CurveKnown", spec := "curveKnown", inPlace := ["math/bits.Add64", "math/bits.Sub64"], unfollowed := true, recurses := true, named := ["math/bits.divideError", "math/bits.overflowError"], apart := false, narrowed := true }
def CurveKnownUptoSaid : Prop := curveKnownUptoRow.holds Tryz.pinned (OpenSpec.upto curveKnownSpec)

/-- 'artesianlaw26.CurveFalls', WHERE WHAT IT READS IS OF BULK AT MOST 1048576: true; the input reads as it did. -/
def curveFallsUptoRow : OpenClaim := { program := "ytpabbhpgikdhfaagreat", sum := "b27028fb109bdad1daf109c958dc9ed95f330b3ff5b792f737ac4c693fb481ed", func := "artesian/artesianlaw26.CurveFalls", spec := "curveFalls", inPlace := ["math/bits.Add64", "math/bits.Sub64"], unfollowed := true, recurses := true, named := ["math/bits.divideError", "math/bits.overflowError"], apart := false, narrowed := true }
def CurveFallsUptoSaid : Prop := curveFallsUptoRow.holds Tryz.pinned (OpenSpec.upto curveFallsSpec)

/-- 'artesianlaw26.CurveSure', WHERE WHAT IT READS IS OF BULK AT MOST 1048576: true; the input reads as it did. -/
def curveSureUptoRow : OpenClaim := { program := "ytpabbhpgikdhfaagreat", sum := "b27028fb109bdad1daf109c958dc9ed95f330b3ff5b792f737ac4c693fb481ed", func := "artesian/artesianlaw26.CurveSure", spec := "curveSure", inPlace := ["math/bits.Add64", "math/bits.Sub64"], unfollowed := true, recurses := true, named := ["math/bits.divideError", "math/bits.overflowError"], apart := false, narrowed := true }
def CurveSureUptoSaid : Prop := curveSureUptoRow.holds Tryz.pinned (OpenSpec.upto curveSureSpec)

/-- 'artesianlaw26.CurveTruth', WHERE WHAT IT READS IS OF BULK AT MOST 1048576: true; the input reads as it did. -/
def curveTruthUptoRow : OpenClaim := { program := "ytpabbhpgikdhfaagreat", sum := "b27028fb109bdad1daf109c958dc9ed95f330b3ff5b792f737ac4c693fb481ed", func := "artesian/artesianlaw26.CurveTruth", spec := "curveTruth", inPlace := ["math/bits.Add64", "math/bits.Sub64"], unfollowed := true, recurses := true, named := ["math/bits.divideError", "math/bits.overflowError"], apart := false, narrowed := true }
def CurveTruthUptoSaid : Prop := curveTruthUptoRow.holds Tryz.pinned (OpenSpec.upto curveTruthSpec)

end Rows
end Go.Proofs.YtpabbhpgikdhfaaGreat
