/- Bodies and types of Go's library that a contract of the shelf asks (root 189), as this program numbers them. Conditions: none. (Printed by the kit's laying command.) -/
import Derived.Test.YtoapghakfcdflaaProg
import Derived.Shelf.Lays
namespace Go.Art
open Go Go.Proofs
def renSort : Shelf.Ren :=
{
  f := fun x =>
    match x with
    | 189 => 89
    | 125 => 97
    | 257 => 96
    | 128 => 107
    | 129 => 108
    | 294 => 99
    | 295 => 100
    | 296 => 101
    | 297 => 102
    | 298 => 103
    | 299 => 104
    | 216 => 93
    | 300 => 105
    | 301 => 106
    | 328 => 109
    | 329 => 110
    | 330 => 111
    | 331 => 112
    | 332 => 113
    | 215 => 98
    | 343 => 114
    | n => n,
  t := fun x =>
    match x with
    | 28 => 22
    | 3 => 3
    | 46 => 49
    | 0 => 0
    | 51 => 125
    | 53 => 42
    | 4 => 4
    | 183 => 120
    | 182 => 119
    | 131 => 82
    | 5 => 5
    | 9 => 9
    | 218 => 127
    | 222 => 130
    | 228 => 132
    | 229 => 133
    | n => n,
  g := fun x =>
    have n := x;
    n }
theorem laysSort : Lays.n189 Try.prog renSort :=
{ mixed := Eq.refl true, f125 := Eq.trans Try.func97 (congrArg some (Eq.refl (Body.n125 renSort))),
  f128 := Eq.trans Try.func107 (congrArg some (Eq.refl (Body.n128 renSort))),
  f129 := Eq.trans Try.func108 (congrArg some (Eq.refl (Body.n129 renSort))),
  f189 := Eq.trans Try.func89 (congrArg some (Eq.refl (Body.n189 renSort))),
  f215 := Eq.trans Try.func98 (congrArg some (Eq.refl (Body.n215 renSort))),
  f216 := Eq.trans Try.func93 (congrArg some (Eq.refl (Body.n216 renSort))),
  f257 := Eq.trans Try.func96 (congrArg some (Eq.refl (Body.n257 renSort))),
  f294 := Eq.trans Try.func99 (congrArg some (Eq.refl (Body.n294 renSort))),
  f295 := Eq.trans Try.func100 (congrArg some (Eq.refl (Body.n295 renSort))),
  f296 := Eq.trans Try.func101 (congrArg some (Eq.refl (Body.n296 renSort))),
  f297 := Eq.trans Try.func102 (congrArg some (Eq.refl (Body.n297 renSort))),
  f298 := Eq.trans Try.func103 (congrArg some (Eq.refl (Body.n298 renSort))),
  f299 := Eq.trans Try.func104 (congrArg some (Eq.refl (Body.n299 renSort))),
  f300 := Eq.trans Try.func105 (congrArg some (Eq.refl (Body.n300 renSort))),
  f301 := Eq.trans Try.func106 (congrArg some (Eq.refl (Body.n301 renSort))),
  f328 := Eq.trans Try.func109 (congrArg some (Eq.refl (Body.n328 renSort))),
  f329 := Eq.trans Try.func110 (congrArg some (Eq.refl (Body.n329 renSort))),
  f330 := Eq.trans Try.func111 (congrArg some (Eq.refl (Body.n330 renSort))),
  f331 := Eq.trans Try.func112 (congrArg some (Eq.refl (Body.n331 renSort))),
  f332 := Eq.trans Try.func113 (congrArg some (Eq.refl (Body.n332 renSort))),
  f343 := Eq.trans Try.func114 (congrArg some (Eq.refl (Body.n343 renSort))), t0 := Try.underlying0,
  a0 := Try.isAgg0, z0 := Try.sizeOf0, v0 := Try.zeroValue0, t3 := Try.underlying3, a3 := Try.isAgg3, z3 := Try.sizeOf3,
  v3 := Try.zeroValue3, t4 := Try.underlying4, a4 := Try.isAgg4, z4 := Try.sizeOf4, v4 := Try.zeroValue4,
  t5 := Try.underlying5, a5 := Try.isAgg5, z5 := Try.sizeOf5, v5 := Try.zeroValue5, t9 := Try.underlying9,
  a9 := Try.isAgg9, z9 := Try.sizeOf9, v9 := Try.zeroValue9, t28 := Try.underlying22, a28 := Try.isAgg22,
  z28 := Try.sizeOf22, v28 := Try.zeroValue22, t46 := Try.underlying49, a46 := Try.isAgg49, z46 := Try.sizeOf49,
  v46 := Try.zeroValue49, t51 := Try.underlying125, a51 := Try.isAgg125, z51 := Try.sizeOf125, v51 := Try.zeroValue125,
  t53 := Try.underlying42, a53 := Try.isAgg42, z53 := Try.sizeOf42, v53 := Try.zeroValue42, t131 := Try.underlying82,
  a131 := Try.isAgg82, z131 := Try.sizeOf82, v131 := Try.zeroValue82, t182 := Try.underlying119, a182 := Try.isAgg119,
  z182 := Try.sizeOf119, v182 := Try.zeroValue119, t183 := Try.underlying120, a183 := Try.isAgg120,
  z183 := Try.sizeOf120, v183 := Try.zeroValue120, t218 := Try.underlying127, a218 := Try.isAgg127,
  z218 := Try.sizeOf127, v218 := Try.zeroValue127, t222 := Try.underlying130, a222 := Try.isAgg130,
  z222 := Try.sizeOf130, v222 := Try.zeroValue130, t228 := Try.underlying132, a228 := Try.isAgg132,
  z228 := Try.sizeOf132, v228 := Try.zeroValue132, t229 := Try.underlying133, a229 := Try.isAgg133,
  z229 := Try.sizeOf133, v229 := Try.zeroValue133 }
end Go.Art
