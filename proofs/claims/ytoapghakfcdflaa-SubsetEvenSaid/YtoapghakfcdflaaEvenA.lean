/- The law SubsetEven, in plain lists; and some rules of int operations. Conditions: none. -/
import Derived.Test.YtoapghakfcdflaaSubH
set_option linter.unusedSimpArgs false
set_option linter.unusedVariables false
namespace Go.Art
open Go Go.Proofs Go.RowKit

def dg (k n : Nat) : Nat → List Int × Nat
  | 0 => ([], n)
  | i + 1 => ((dg k n i).1 ++ [(((dg k n i).2 % (k - i) : Nat) : Int)], (dg k n i).2 / (k - i))
theorem dg_length (k n : Nat) : ∀ i, (dg k n i).1.length = i
  | 0 => rfl
  | i + 1 => by simp [dg, dg_length k n i]
theorem dg_get (k n : Nat) : ∀ i, i ≤ k → ∀ j, j < i → 0 ≤ (dg k n i).1.getD j 0 ∧ (dg k n i).1.getD j 0 < (k : Int) - j
  | 0, _, j, hj => by omega
  | i + 1, hi, j, hj => by
    have ih := dg_get k n i (by omega)
    by_cases e : j < i
    · simp only [dg]
      rw [getD_app1 (by rw [dg_length]; exact e)]
      exact ih j e
    · obtain rfl : j = i := by omega
      have h1 := Nat.mod_lt (dg k n j).2 (show 0 < k - j by omega)
      have h2 : (dg k n (j + 1)).1.getD j 0 = (((dg k n j).2 % (k - j) : Nat) : Int) := by
        simp [dg, List.getD_eq_getElem?_getD, dg_length]
      rw [h2]
      omega
theorem dg_rest (k n : Nat) : ∀ i, (dg k n i).2 ≤ n
  | 0 => Nat.le_refl _
  | i + 1 => Nat.le_trans (Nat.div_le_self _ _) (dg_rest k n i)
def mny (k : Nat) : Nat → Nat
  | 0 => 1
  | i + 1 => mny k i * (k - i)
def fct : Nat → Nat
  | 0 => 1
  | i + 1 => fct i * (i + 1)
theorem small : ∀ k, k < 6 → ∀ i, i < 6 → mny k i ≤ 120 ∧ fct i ≤ 120 := by decide +kernel
def msk (l : List Int) : Nat := l.foldl (fun m p => m ||| 2 ^ p.toNat) 0
theorem msk_lt {k : Nat} : ∀ {l : List Int} {m : Nat}, m < 2 ^ k → (∀ y ∈ l, 0 ≤ y ∧ y < k) → l.foldl (fun m p => m ||| 2 ^ p.toNat) m < 2 ^ k
  | [], m, h, _ => h
  | y :: l, m, h, hl => msk_lt (l := l) (Nat.or_lt_two_pow h (Nat.pow_lt_pow_right (by decide) (by have := hl y (by simp); omega))) fun z hz => hl z (by simp [hz])
theorem msk_push (l : List Int) (x : Int) : msk (l ++ [x]) = msk l ||| 2 ^ x.toNat := by simp [msk]
theorem msk_perm {l m : List Int} (h : l.Perm m) : msk l = msk m :=
  h.foldl_eq' (fun x _ y _ z => by rw [Nat.or_assoc, Nat.or_comm (2 ^ x.toNat), ← Nat.or_assoc]) 0
def setOf (k d n : Nat) : Nat := msk (od (upto k) 0 (dg k n d).1)
def oft (k d : Nat) : Nat → List Int
  | 0 => List.replicate (2 ^ k) 0
  | n + 1 => (oft k d n).set (setOf k d n) ((oft k d n).getD (setOf k d n) 0 + 1)
theorem oft_length (k d : Nat) : ∀ n, (oft k d n).length = 2 ^ k
  | 0 => by simp [oft]
  | n + 1 => by simp [oft, oft_length k d n]
theorem oft_le (k d : Nat) : ∀ n j, 0 ≤ (oft k d n).getD j 0 ∧ (oft k d n).getD j 0 ≤ n
  | 0, j => by
    simp only [oft, List.getD_eq_getElem?_getD, List.getElem?_replicate]
    split <;> simp
  | n + 1, j => by
    have h1 := oft_le k d n j
    have h2 := oft_le k d n (setOf k d n)
    simp only [oft, List.getD_eq_getElem?_getD, List.getElem?_set] at h1 h2 ⊢
    split
    · split
      · simp; omega
      · simp; omega
    · omega
def pc : Nat → Nat → Nat
  | 0, _ => 0
  | f + 1, x => x % 2 + pc f (x / 2)
theorem pc_zero : ∀ f, pc f 0 = 0
  | 0 => rfl
  | f + 1 => by simp [pc, pc_zero f]
theorem even_all : ∀ k, k < 6 → ∀ d, d < 6 → 1 ≤ d → d ≤ k → oft k d (mny k d) = (List.range (2 ^ k)).map (fun s => if pc 5 s = d then (fct d : Int) else 0) := by decide +kernel
theorem even_at {k d s : Nat} (hk : k < 6) (h1 : 1 ≤ d) (h2 : d ≤ k) (hs : s < 2 ^ k) : (oft k d (mny k d)).getD s 0 = if pc 5 s = d then (fct d : Int) else 0 := by
  rw [even_all k hk d (by omega) h1 h2]
  simp [List.getD_eq_getElem?_getD, hs]

section
variable {P : Program} {E : Env P} {n : Sh} {fr : Fr} {w : World} {t t' ty : TypeId} {x y : Operand}
theorem R_mulC {a b c : Int} (hx : ev fr x = some (I a)) (hy : ev fr y = some (I b)) (h : a * b = c) (hc : -9223372036854775808 ≤ c ∧ c ≤ 9223372036854775807) : OpV P n fr (.binOp .mul t x y t') ty w (I c) w := by
  have := R_mul (P := P) (n := n) (w := w) (t := t) (t' := t') (ty := ty) hx hy
  rw [h, IntWalk.i64_in _ hc] at this
  exact this
theorem R_remN {a q : Nat} {b : Int} (hx : ev fr x = some (I a)) (hy : ev fr y = some (I b)) (hb : b = q) (hq : 0 < q) : OpV P n fr (.binOp .rem t x y t') ty w (I ((a % q : Nat) : Int)) w := by
  subst hb
  have := R_rem (P := P) (n := n) (w := w) (t := t) (t' := t') (ty := ty) hx hy (by omega)
  rw [← Int.ofNat_tmod] at this
  exact this
theorem R_quoN {a q : Nat} {b : Int} (hx : ev fr x = some (I a)) (hy : ev fr y = some (I b)) (hb : b = q) (hq : 0 < q) (ha : a ≤ 4611686018427387904) : OpV P n fr (.binOp .quo t x y t') ty w (I ((a / q : Nat) : Int)) w := by
  subst hb
  have := R_quo (P := P) (n := n) (w := w) (t := t) (t' := t') (ty := ty) hx hy (by omega)
  have h1 := Nat.div_le_self a q
  rw [← Int.ofNat_tdiv] at this
  generalize a / q = z at *
  rw [IntWalk.i64_in _ (by omega)] at this
  exact this
theorem R_toUk {k : Nat} {m : Int} (ht : lk E.und t' = some (.int .u64)) (hs : (lk E.und t).isSome = true) (hx : ev fr x = some (I m)) (h : m = k) (hk : k < 18446744073709551616) : OpV P n fr (.convert t t' x) ty w (.int .u64 (k : Int)) w := by
  subst h
  exact R_toUi ht hs hx (by omega)
theorem R_ior {a b : Nat} (hx : ev fr x = some (I a)) (hy : ev fr y = some (I b)) (ha : a < 2 ^ 62) (hb : b < 2 ^ 62) : OpV P n fr (.binOp .or t x y t') ty w (I ((a ||| b : Nat) : Int)) w := R_bin hx hy (by
  have h1 : a ||| b < 2 ^ 62 := Nat.or_lt_two_pow ha hb
  have e : (2 : Nat) ^ 62 = 4611686018427387904 := rfl
  rw [e] at ha hb h1
  simp only [binOp, Op.intBits]
  show Result.ok (Value.int .i64 (IntKind.i64.wrap (((BitVec.ofInt 64 (a : Int)) ||| (BitVec.ofInt 64 (b : Int))).toNat : Int))) w = _
  have h2 : ((BitVec.ofInt 64 (a : Int)) ||| (BitVec.ofInt 64 (b : Int))).toNat = a ||| b := by
    rw [BitVec.toNat_or, BitVec.toNat_ofInt, BitVec.toNat_ofInt]
    congr 1 <;> omega
  rw [h2, IntWalk.i64_in _ (by omega)])
theorem R_iorC {a b c : Nat} (hx : ev fr x = some (I a)) (hy : ev fr y = some (I b)) (h : a ||| b = c) (ha : a < 2 ^ 62) (hb : b < 2 ^ 62) : OpV P n fr (.binOp .or t x y t') ty w (I (c : Int)) w := by
  subst h
  exact R_ior hx hy ha hb
end
end Go.Art
