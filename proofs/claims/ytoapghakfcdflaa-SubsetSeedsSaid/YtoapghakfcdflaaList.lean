/- Small facts on lists and picks. Conditions: none. -/
import Derived.Test.YtoapghakfcdflaaKit
set_option linter.unusedSimpArgs false
set_option linter.unusedVariables false
namespace Go.Art
open Go Go.Proofs Go.RowKit

theorem pick_in (x : Int) : 0 ≤ pick x 1099511627776 ∧ pick x 1099511627776 < 1099511627776 := by
  unfold pick
  rw [if_neg (by omega)]
  omega

theorem drop_get (l : List Int) (k : Nat) (h : k < l.length) : l.drop k = l.getD k 0 :: l.drop (k + 1) := by
  rw [List.drop_eq_getElem_cons h, List.getD_eq_getElem?_getD, List.getElem?_eq_getElem h]; rfl

end Go.Art
