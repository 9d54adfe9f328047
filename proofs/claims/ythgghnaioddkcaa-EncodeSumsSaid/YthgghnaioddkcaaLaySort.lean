/- Bodies and types of Go's library that a contract of the shelf asks (root 189), as this program numbers them. Conditions: none. (Printed by the kit's laying command.) -/
import Derived.Test.YthgghnaioddkcaaProg
import Derived.Shelf.Lays
namespace Go.Art
open Go Go.Proofs
def renSort : Shelf.Ren :=
{
  f := fun x =>
    match x with
    | 189 => 59
    | 125 => 64
    | 257 => 63
    | 128 => 74
    | 129 => 75
    | 294 => 65
    | 295 => 66
    | 296 => 67
    | 297 => 68
    | 298 => 69
    | 299 => 70
    | 216 => 71
    | 300 => 72
    | 301 => 73
    | 328 => 76
    | 329 => 77
    | 330 => 78
    | 331 => 79
    | 332 => 80
    | 215 => 81
    | 343 => 82
    | n => n,
  t := fun x =>
    match x with
    | 28 => 23
    | 3 => 3
    | 46 => 98
    | 0 => 0
    | 51 => 123
    | 53 => 66
    | 4 => 4
    | 183 => 117
    | 182 => 116
    | 131 => 103
    | 5 => 5
    | 9 => 9
    | 218 => 125
    | 222 => 129
    | 228 => 131
    | 229 => 132
    | n => n,
  g := fun x =>
    have n := x;
    n }
theorem laysSort : Lays.n189 Try.prog renSort :=
{ mixed := Eq.refl true, f125 := Eq.trans Try.func64 (congrArg some (Eq.refl (Body.n125 renSort))),
  f128 := Eq.trans Try.func74 (congrArg some (Eq.refl (Body.n128 renSort))),
  f129 := Eq.trans Try.func75 (congrArg some (Eq.refl (Body.n129 renSort))),
  f189 := Eq.trans Try.func59 (congrArg some (Eq.refl (Body.n189 renSort))),
  f215 := Eq.trans Try.func81 (congrArg some (Eq.refl (Body.n215 renSort))),
  f216 := Eq.trans Try.func71 (congrArg some (Eq.refl (Body.n216 renSort))),
  f257 := Eq.trans Try.func63 (congrArg some (Eq.refl (Body.n257 renSort))),
  f294 := Eq.trans Try.func65 (congrArg some (Eq.refl (Body.n294 renSort))),
  f295 := Eq.trans Try.func66 (congrArg some (Eq.refl (Body.n295 renSort))),
  f296 := Eq.trans Try.func67 (congrArg some (Eq.refl (Body.n296 renSort))),
  f297 := Eq.trans Try.func68 (congrArg some (Eq.refl (Body.n297 renSort))),
  f298 := Eq.trans Try.func69 (congrArg some (Eq.refl (Body.n298 renSort))),
  f299 := Eq.trans Try.func70 (congrArg some (Eq.refl (Body.n299 renSort))),
  f300 := Eq.trans Try.func72 (congrArg some (Eq.refl (Body.n300 renSort))),
  f301 := Eq.trans Try.func73 (congrArg some (Eq.refl (Body.n301 renSort))),
  f328 := Eq.trans Try.func76 (congrArg some (Eq.refl (Body.n328 renSort))),
  f329 := Eq.trans Try.func77 (congrArg some (Eq.refl (Body.n329 renSort))),
  f330 := Eq.trans Try.func78 (congrArg some (Eq.refl (Body.n330 renSort))),
  f331 := Eq.trans Try.func79 (congrArg some (Eq.refl (Body.n331 renSort))),
  f332 := Eq.trans Try.func80 (congrArg some (Eq.refl (Body.n332 renSort))),
  f343 := Eq.trans Try.func82 (congrArg some (Eq.refl (Body.n343 renSort))), t0 := Try.underlying0,
  a0 := Try.isAgg0, z0 := Try.sizeOf0, v0 := Try.zeroValue0, t3 := Try.underlying3, a3 := Try.isAgg3, z3 := Try.sizeOf3,
  v3 := Try.zeroValue3, t4 := Try.underlying4, a4 := Try.isAgg4, z4 := Try.sizeOf4, v4 := Try.zeroValue4,
  t5 := Try.underlying5, a5 := Try.isAgg5, z5 := Try.sizeOf5, v5 := Try.zeroValue5, t9 := Try.underlying9,
  a9 := Try.isAgg9, z9 := Try.sizeOf9, v9 := Try.zeroValue9, t28 := Try.underlying23, a28 := Try.isAgg23,
  z28 := Try.sizeOf23, v28 := Try.zeroValue23, t46 := Try.underlying98, a46 := Try.isAgg98, z46 := Try.sizeOf98,
  v46 := Try.zeroValue98, t51 := Try.underlying123, a51 := Try.isAgg123, z51 := Try.sizeOf123, v51 := Try.zeroValue123,
  t53 := Try.underlying66, a53 := Try.isAgg66, z53 := Try.sizeOf66, v53 := Try.zeroValue66, t131 := Try.underlying103,
  a131 := Try.isAgg103, z131 := Try.sizeOf103, v131 := Try.zeroValue103, t182 := Try.underlying116,
  a182 := Try.isAgg116, z182 := Try.sizeOf116, v182 := Try.zeroValue116, t183 := Try.underlying117,
  a183 := Try.isAgg117, z183 := Try.sizeOf117, v183 := Try.zeroValue117, t218 := Try.underlying125,
  a218 := Try.isAgg125, z218 := Try.sizeOf125, v218 := Try.zeroValue125, t222 := Try.underlying129,
  a222 := Try.isAgg129, z222 := Try.sizeOf129, v222 := Try.zeroValue129, t228 := Try.underlying131,
  a228 := Try.isAgg131, z228 := Try.sizeOf131, v228 := Try.zeroValue131, t229 := Try.underlying132,
  a229 := Try.isAgg132, z229 := Try.sizeOf132, v229 := Try.zeroValue132 }
end Go.Art
