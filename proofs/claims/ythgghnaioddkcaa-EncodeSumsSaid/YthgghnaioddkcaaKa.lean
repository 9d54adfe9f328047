/- Rules for walks; numbers picked. Conditions: none. -/
import Derived.Test.YthgghnaioddkcaaY
import Derived.Test.YthgghnaioddkcaaEnv
set_option linter.unusedSimpArgs false
set_option linter.unusedVariables false
namespace Go.Art
open Go Go.Proofs Go.RowKit
attribute [local irreducible] Fit pt own ro vw mpc lpt vels rels mow lrc dfr
section
variable {P : Program} {E : Env P} {n : Sh} {X : Cx} {s : List K} {fr : Fr} {A : List Ch} {ops : Array Oper} {rest : List Oper} {d : Nat} {ty : TypeId} {pos : String} {after : Array Edge} {a b : Code}
theorem gca {f : FuncId} {args : Array Operand} {ats : Array TypeId} (h : TO E n X s ops (⟨some d, .call ⟨.value (.func f), args, ats⟩, ty, pos, after, none⟩ :: rest) fr A) : TO E n X s ops (⟨some d, .call ⟨.value (.func f), args, ats⟩, ty, pos, after, none⟩ :: rest) fr A := h
/-- What comes behind is shown once, from what stays. -/
theorem sq_cut (p : Prop) (fr' : Fr) (hb : p → TC E n X s b fr' A) (ha : (p → ∀ fr2, Sub fr' fr2 → TC E n X s b fr2 A) → TC E n X (.code b :: s) a fr A) : TC E n X s (.seq a b) fr A :=
  sq (ha fun hp fr2 hs => ⟨fun w hw => SC_sub fr' hs ((hb hp).run w hw)⟩)
end

def pick (x n : Int) : Int := if n ≤ 0 then 0 else x % n
theorem tmod_pick (x m : Int) (hm : 0 < m) : x.tmod m = (if x.tmod m < 0 then x % m - m else x % m) := by
  rw [Int.tmod_eq_emod]
  have h1 := Int.emod_nonneg x (show m ≠ 0 by omega)
  have h2 := Int.emod_lt_of_pos x hm
  by_cases hx : 0 ≤ x ∨ m ∣ x
  · have : ¬ (x % m - 0 < 0) := by omega
    simp [hx]; intro; omega
  · have hn : ((m.natAbs : Nat) : Int) = m := by omega
    simp only [hx, if_false, hn]
    have : x % m - m < 0 := by omega
    simp [this]
theorem pick_in (x : Int) {n : Int} (h : 0 < n) : 0 ≤ pick x n ∧ pick x n < n := by
  unfold pick; rw [if_neg (by omega)]; exact ⟨Int.emod_nonneg _ (by omega), Int.emod_lt_of_pos _ h⟩
theorem amodw {P : Program} {E : Env P} {n : Sh} {X : Cx} {s : List K} {fr : Fr} {A : List Ch} {ops : Array Oper} {rest : List Oper} {d : Nat} {ty t t' : TypeId} {pos : String} {after : Array Edge} {x y : Operand} {m q : Int} (k : TO E n X s ops rest ((d, I (m.tmod q)) :: fr) A) (hx : ev fr x = some (I m) := by rfl) (hy : ev fr y = some (I q) := by rfl) (hb : q ≠ 0 := by omega) (hd : Nat.blt d n.n = true := by rfl) :
    TO E n X s ops (⟨some d, .binOp .rem t x y t', ty, pos, after, none⟩ :: rest) fr A := TO.val (fun _ _ => R_rem hx hy hb) k hd

end Go.Art
