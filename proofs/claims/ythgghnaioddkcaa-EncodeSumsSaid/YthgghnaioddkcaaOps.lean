/- The rules of single operations. Conditions: none. -/
import Derived.Test.YthgghnaioddkcaaFw
set_option linter.unusedSimpArgs false
set_option linter.unusedVariables false
namespace Go.Art
open Go

def aggB : TypeDesc → Bool
  | .struct _ => true
  | .array _ _ => true
  | _ => false

/-- A uint64. -/
def U (b : BitVec 64) : Value := .int .u64 b.toNat
/-- An int. -/
abbrev I (n : Int) : Value := .int .i64 n

def addrAt : Value → Nat → Addr
  | .slice (some a) _ _, j => a.add j
  | _, _ => ⟨0, 0, none⟩

/-- The slice value v reads, element by element (each of one cell), xs. -/
def Sl (w : World) (v : Value) (xs : List Value) : Prop :=
  ∃ a cap, v = .slice a xs.length cap ∧ xs.length ≤ cap ∧ cap ≤ maxLen ∧ (∀ i u, xs[i]? = some u → ∃ x, a = some x ∧ w.cell? (x.add i) = some u)

theorem Sl.len {w : World} {v : Value} {xs : List Value} (h : Sl w v xs) : xs.length ≤ 9223372036854775807 := by
  obtain ⟨_, cap, _, h1, h2, _⟩ := h
  unfold maxLen at h2; omega
theorem Sl.cell {w : World} {v : Value} {xs : List Value} (h : Sl w v xs) {i : Nat} {u : Value} (hi : xs[i]? = some u) : w.cell? (addrAt v i) = some u := by
  obtain ⟨a, cap, rfl, _, _, hc⟩ := h
  obtain ⟨x, rfl, hx⟩ := hc i u hi
  exact hx

variable {P : Program} {E : Env P} {n : Sh} {fr : Fr} {w : World} {ty t t' : TypeId} {x y : Operand} {v : Value}

theorem R_move (hx : ev fr x = some v) : OpV P n fr (.move x) ty w v w := ⟨fun a ha _ _ _ _ => by
  simp only [execOp, ha.ev hx]; rfl⟩
theorem R_assign (hx : ev fr x = some v) : OpV P n fr (.assign x) ty w v w := ⟨fun a ha _ _ _ _ => by
  simp only [execOp, ha.ev hx]; rfl⟩
theorem R_pick_t {c : Operand} (hc : ev fr c = some (.bool true)) (hx : ev fr x = some v) : OpV P n fr (.pick c x y) ty w v w := ⟨fun a ha _ _ _ _ => by
  simp only [execOp, ha.ev hc, ha.ev hx]; rfl⟩
theorem R_pick_f {c : Operand} (hc : ev fr c = some (.bool false)) (hy : ev fr y = some v) : OpV P n fr (.pick c x y) ty w v w := ⟨fun a ha _ _ _ _ => by
  simp only [execOp, ha.ev hc, ha.ev hy]; rfl⟩
theorem R_pick {c : Operand} {b : Bool} {u : Value} (hc : ev fr c = some (.bool b)) (hx : ev fr x = some v) (hy : ev fr y = some u) : OpV P n fr (.pick c x y) ty w (if b then v else u) w := ⟨fun a ha _ _ _ _ => by
  simp only [execOp, ha.ev hc, ha.ev hx, ha.ev hy]; cases b <;> rfl⟩

theorem R_true {o : Op} {w' : World} {p : Prop} [Decidable p] (hr : OpV P n fr o ty w (.bool (decide p)) w') (h : p) : OpV P n fr o ty w (.bool true) w' := by
  rwa [decide_eq_true h] at hr
theorem R_false {o : Op} {w' : World} {p : Prop} [Decidable p] (hr : OpV P n fr o ty w (.bool (decide p)) w') (h : ¬ p) : OpV P n fr o ty w (.bool false) w' := by
  rwa [decide_eq_false h] at hr
theorem R_nfalse {o : Op} {w' : World} {p : Prop} [Decidable p] (hr : OpV P n fr o ty w (.bool (!decide p)) w') (h : p) : OpV P n fr o ty w (.bool false) w' := by
  rwa [decide_eq_true h] at hr
theorem R_ntrue {o : Op} {w' : World} {p : Prop} [Decidable p] (hr : OpV P n fr o ty w (.bool (!decide p)) w') (h : ¬ p) : OpV P n fr o ty w (.bool true) w' := by
  rwa [decide_eq_false h] at hr
theorem R_pick_ht {c : Operand} {b : Bool} (hc : ev fr c = some (.bool b)) (hb : b = true) (hx : ev fr x = some v) : OpV P n fr (.pick c x y) ty w v w := by subst hb; exact R_pick_t hc hx
theorem R_pick_hf {c : Operand} {b : Bool} (hc : ev fr c = some (.bool b)) (hb : b = false) (hy : ev fr y = some v) : OpV P n fr (.pick c x y) ty w v w := by subst hb; exact R_pick_f hc hy
section ints
variable {k : IntKind} {m q : Int}
theorem R_bin {op : BinOp} (hx : ev fr x = some (.int k m)) (hy : ev fr y = some (.int k q)) (hr : (binOp op t (.int k m) (.int k q)).run P w = .ok v w) : OpV P n fr (.binOp op t x y t') ty w v w := ⟨fun a ha _ _ _ _ => by
  have hg : (eqGuard op t x y (.int k m) (.int k q)).run P w = .ok () w := by
    unfold eqGuard
    cases op <;> rfl
  simp only [execOp, ha.ev hx, ha.ev hy]
  simp [hg, hr]⟩
theorem R_add (hx : ev fr x = some (.int k m)) (hy : ev fr y = some (.int k q)) : OpV P n fr (.binOp .add t x y t') ty w (.int k (k.wrap (m + q))) w := R_bin hx hy (by simp [binOp, Op.intArith])
theorem R_sub (hx : ev fr x = some (.int k m)) (hy : ev fr y = some (.int k q)) : OpV P n fr (.binOp .sub t x y t') ty w (.int k (k.wrap (m - q))) w := R_bin hx hy (by simp [binOp, Op.intArith])
theorem R_mul (hx : ev fr x = some (.int k m)) (hy : ev fr y = some (.int k q)) : OpV P n fr (.binOp .mul t x y t') ty w (.int k (k.wrap (m * q))) w := R_bin hx hy (by simp [binOp, Op.intArith])
theorem R_lss (hx : ev fr x = some (.int k m)) (hy : ev fr y = some (.int k q)) : OpV P n fr (.binOp .lss t x y t') ty w (.bool (decide (m < q))) w := R_bin hx hy (by simp [binOp, Op.intCmp])
theorem R_leq (hx : ev fr x = some (.int k m)) (hy : ev fr y = some (.int k q)) : OpV P n fr (.binOp .leq t x y t') ty w (.bool (decide (m ≤ q))) w := R_bin hx hy (by simp [binOp, Op.intCmp])
theorem R_gtr (hx : ev fr x = some (.int k m)) (hy : ev fr y = some (.int k q)) : OpV P n fr (.binOp .gtr t x y t') ty w (.bool (decide (q < m))) w := R_bin hx hy (by simp [binOp, Op.intCmp])
theorem R_geq (hx : ev fr x = some (.int k m)) (hy : ev fr y = some (.int k q)) : OpV P n fr (.binOp .geq t x y t') ty w (.bool (decide (q ≤ m))) w := R_bin hx hy (by simp [binOp, Op.intCmp])
theorem R_eql (hx : ev fr x = some (.int k m)) (hy : ev fr y = some (.int k q)) : OpV P n fr (.binOp .eql t x y t') ty w (.bool (decide (m = q))) w := R_bin hx hy (by simp [binOp, Op.intCmp]; rfl)
theorem R_neq (hx : ev fr x = some (.int k m)) (hy : ev fr y = some (.int k q)) : OpV P n fr (.binOp .neq t x y t') ty w (.bool (!decide (m = q))) w := R_bin hx hy (by simp [binOp, Op.intCmp]; rfl)
theorem R_quo (hx : ev fr x = some (.int k m)) (hy : ev fr y = some (.int k q)) (h : q ≠ 0) : OpV P n fr (.binOp .quo t x y t') ty w (.int k (k.wrap (m.tdiv q))) w := R_bin hx hy (by simp [binOp, Op.intDiv, h])
theorem R_rem (hx : ev fr x = some (.int k m)) (hy : ev fr y = some (.int k q)) (h : q ≠ 0) : OpV P n fr (.binOp .rem t x y t') ty w (.int k (m.tmod q)) w := R_bin hx hy (by simp [binOp, Op.intDiv, h])
/-! int's, no wrap -/
theorem R_add64 (hx : ev fr x = some (I m)) (hy : ev fr y = some (I q)) (h : -9223372036854775808 ≤ m + q ∧ m + q ≤ 9223372036854775807) : OpV P n fr (.binOp .add t x y t') ty w (I (m + q)) w := by
  have := R_add (P := P) (n := n) (w := w) (t := t) (t' := t') (ty := ty) hx hy; rwa [IntWalk.i64_in _ h] at this
theorem R_sub64 (hx : ev fr x = some (I m)) (hy : ev fr y = some (I q)) (h : -9223372036854775808 ≤ m - q ∧ m - q ≤ 9223372036854775807) : OpV P n fr (.binOp .sub t x y t') ty w (I (m - q)) w := by
  have := R_sub (P := P) (n := n) (w := w) (t := t) (t' := t') (ty := ty) hx hy; rwa [IntWalk.i64_in _ h] at this
theorem R_mul64 (hx : ev fr x = some (I m)) (hy : ev fr y = some (I q)) (h : -9223372036854775808 ≤ m * q ∧ m * q ≤ 9223372036854775807) : OpV P n fr (.binOp .mul t x y t') ty w (I (m * q)) w := by
  have := R_mul (P := P) (n := n) (w := w) (t := t) (t' := t') (ty := ty) hx hy; rwa [IntWalk.i64_in _ h] at this
theorem R_quo64 (hx : ev fr x = some (I m)) (hy : ev fr y = some (I q)) (h : 0 ≤ m ∧ m ≤ 9223372036854775807 ∧ 1 ≤ q) : OpV P n fr (.binOp .quo t x y t') ty w (I (m / q)) w := by
  have := R_quo (P := P) (n := n) (w := w) (t := t) (t' := t') (ty := ty) hx hy (by omega); rwa [IntWalk.i64_quo _ _ h] at this
theorem R_rem64 (hx : ev fr x = some (I m)) (hy : ev fr y = some (I q)) (h : 0 ≤ m ∧ q ≠ 0) : OpV P n fr (.binOp .rem t x y t') ty w (I (m % q)) w := by
  have := R_rem (P := P) (n := n) (w := w) (t := t) (t' := t') (ty := ty) hx hy h.2; rwa [IntWalk.rem_in _ _ h.1] at this
theorem R_conv {k' : IntKind} (ht : lk E.und t' = some (.int k')) (hs : (lk E.und t).isSome = true) (hx : ev fr x = some (.int k m)) : OpV P n fr (.convert t t' x) ty w (.int k' (k'.wrap m)) w := ⟨fun a ha _ _ _ _ => by
  obtain ⟨ds, hds⟩ := Option.isSome_iff_exists.1 hs
  have h1 := run_underlying (P := P) (E.un ht) w
  have h2 := run_underlying (P := P) (E.un hds) w
  simp only [execOp, ha.ev hx]
  simp [convert, h1, h2, Conv.intToInt]⟩
theorem R_neg (hx : ev fr x = some (.int k m)) : OpV P n fr (.unOp .neg t x) ty w (.int k (k.wrap (0 - m))) w := ⟨fun a ha _ _ _ _ => by
  simp only [execOp, ha.ev hx]; simp [Op.unary, Op.intArith]⟩
end ints
theorem R_not {b : Bool} (hx : ev fr x = some (.bool b)) : OpV P n fr (.unOp .not t x) ty w (.bool (!b)) w := ⟨fun a ha _ _ _ _ => by
  simp only [execOp, ha.ev hx]; simp [Op.unary]⟩

/-! uint64 as bits -/
theorem wrap_u64 (n : Int) : IntKind.u64.wrap n = ((BitVec.ofInt 64 n).toNat : Int) := by
  have : IntKind.u64.wrap n = n % 18446744073709551616 := by simp [IntKind.wrap, IntKind.bits, IntKind.signed]
  rw [this, BitVec.toNat_ofInt]; omega
section bits
variable {p q : BitVec 64}
theorem ofInt_toNat (p : BitVec 64) : BitVec.ofInt 64 (p.toNat : Int) = p := by
  rw [BitVec.ofInt_natCast]; exact BitVec.ofNat_toNat _ _ |>.trans (by simp)
theorem R_uadd (hx : ev fr x = some (U p)) (hy : ev fr y = some (U q)) : OpV P n fr (.binOp .add t x y t') ty w (U (p + q)) w := by
  have := R_add (P := P) (n := n) (w := w) (t := t) (t' := t') (ty := ty) hx hy
  rw [wrap_u64] at this
  have e : BitVec.ofInt 64 ((p.toNat : Int) + (q.toNat : Int)) = p + q := by rw [BitVec.ofInt_add, ofInt_toNat, ofInt_toNat]
  rw [e] at this; exact this
theorem R_usub (hx : ev fr x = some (U p)) (hy : ev fr y = some (U q)) : OpV P n fr (.binOp .sub t x y t') ty w (U (p - q)) w := by
  have := R_sub (P := P) (n := n) (w := w) (t := t) (t' := t') (ty := ty) hx hy
  rw [wrap_u64] at this
  have e : BitVec.ofInt 64 ((p.toNat : Int) - (q.toNat : Int)) = p - q := by
    rw [Int.sub_eq_add_neg, BitVec.ofInt_add, ofInt_toNat, BitVec.ofInt_neg, ofInt_toNat, BitVec.sub_eq_add_neg]
  rw [e] at this; exact this
theorem R_umul (hx : ev fr x = some (U p)) (hy : ev fr y = some (U q)) : OpV P n fr (.binOp .mul t x y t') ty w (U (p * q)) w := by
  have := R_mul (P := P) (n := n) (w := w) (t := t) (t' := t') (ty := ty) hx hy
  rw [wrap_u64] at this
  have e : BitVec.ofInt 64 ((p.toNat : Int) * (q.toNat : Int)) = p * q := by rw [BitVec.ofInt_mul, ofInt_toNat, ofInt_toNat]
  rw [e] at this; exact this
theorem R_uxor (hx : ev fr x = some (U p)) (hy : ev fr y = some (U q)) : OpV P n fr (.binOp .xor t x y t') ty w (U (p ^^^ q)) w := R_bin hx hy (by
  simp only [binOp, Op.intBits]
  show Result.ok (Value.int .u64 (IntKind.u64.wrap (((BitVec.ofInt 64 (p.toNat : Int)) ^^^ (BitVec.ofInt 64 (q.toNat : Int))).toNat : Int))) w = _
  rw [wrap_u64, ofInt_toNat, ofInt_toNat, ofInt_toNat]; rfl)
theorem R_uor (hx : ev fr x = some (U p)) (hy : ev fr y = some (U q)) : OpV P n fr (.binOp .or t x y t') ty w (U (p ||| q)) w := R_bin hx hy (by
  simp only [binOp, Op.intBits]
  show Result.ok (Value.int .u64 (IntKind.u64.wrap (((BitVec.ofInt 64 (p.toNat : Int)) ||| (BitVec.ofInt 64 (q.toNat : Int))).toNat : Int))) w = _
  rw [wrap_u64, ofInt_toNat, ofInt_toNat, ofInt_toNat]; rfl)
theorem R_uand (hx : ev fr x = some (U p)) (hy : ev fr y = some (U q)) : OpV P n fr (.binOp .and t x y t') ty w (U (p &&& q)) w := R_bin hx hy (by
  simp only [binOp, Op.intBits]
  show Result.ok (Value.int .u64 (IntKind.u64.wrap (((BitVec.ofInt 64 (p.toNat : Int)) &&& (BitVec.ofInt 64 (q.toNat : Int))).toNat : Int))) w = _
  rw [wrap_u64, ofInt_toNat, ofInt_toNat, ofInt_toNat]; rfl)
theorem R_urem (hx : ev fr x = some (U p)) (hy : ev fr y = some (U q)) (h : q ≠ 0#64) : OpV P n fr (.binOp .rem t x y t') ty w (U (p % q)) w := by
  have h0 : (q.toNat : Int) ≠ 0 := fun e => h (BitVec.eq_of_toNat_eq (by simpa using e))
  have := R_rem (P := P) (n := n) (w := w) (t := t) (t' := t') (ty := ty) hx hy h0
  rw [IntWalk.rem_in _ _ (by omega)] at this
  have e : (p.toNat : Int) % (q.toNat : Int) = ((p % q).toNat : Int) := by rw [BitVec.toNat_umod]; rfl
  rw [e] at this; exact this
theorem R_uleq (hx : ev fr x = some (U p)) (hy : ev fr y = some (U q)) : OpV P n fr (.binOp .leq t x y t') ty w (.bool (decide (p.toNat ≤ q.toNat))) w := by
  have := R_leq (P := P) (n := n) (w := w) (t := t) (t' := t') (ty := ty) hx hy
  have e : decide ((p.toNat : Int) ≤ (q.toNat : Int)) = decide (p.toNat ≤ q.toNat) := by simp
  rw [e] at this; exact this
theorem R_ugeq (hx : ev fr x = some (U p)) (hy : ev fr y = some (U q)) : OpV P n fr (.binOp .geq t x y t') ty w (.bool (decide (q.toNat ≤ p.toNat))) w := by
  have := R_geq (P := P) (n := n) (w := w) (t := t) (t' := t') (ty := ty) hx hy
  have e : decide ((q.toNat : Int) ≤ (p.toNat : Int)) = decide (q.toNat ≤ p.toNat) := by simp
  rw [e] at this; exact this
theorem R_ueql (hx : ev fr x = some (U p)) (hy : ev fr y = some (U q)) : OpV P n fr (.binOp .eql t x y t') ty w (.bool (decide (p = q))) w := by
  have := R_eql (P := P) (n := n) (w := w) (t := t) (t' := t') (ty := ty) hx hy
  have e : decide ((p.toNat : Int) = (q.toNat : Int)) = decide (p = q) := by
    rw [decide_eq_decide]; exact ⟨fun h => BitVec.eq_of_toNat_eq (by exact_mod_cast h), fun h => by rw [h]⟩
  rw [e] at this; exact this
theorem R_uneq (hx : ev fr x = some (U p)) (hy : ev fr y = some (U q)) : OpV P n fr (.binOp .neq t x y t') ty w (.bool (!decide (p = q))) w := by
  have := R_neq (P := P) (n := n) (w := w) (t := t) (t' := t') (ty := ty) hx hy
  have e : decide ((p.toNat : Int) = (q.toNat : Int)) = decide (p = q) := by
    rw [decide_eq_decide]; exact ⟨fun h => BitVec.eq_of_toNat_eq (by exact_mod_cast h), fun h => by rw [h]⟩
  rw [e] at this; exact this
theorem fdiv_two_pow (p : BitVec 64) (c : Nat) : ((p.toNat : Int)).fdiv (2 ^ c) = ((p >>> c).toNat : Int) := by
  have h2 : (0 : Int) ≤ 2 ^ c := Int.le_of_lt (Int.pow_pos (by decide))
  rw [BitVec.toNat_ushiftRight, Nat.shiftRight_eq_div_pow, Int.fdiv_eq_ediv_of_nonneg _ h2]
  simp
theorem R_ushr {k : IntKind} {z : Int} (hx : ev fr x = some (U p)) (hy : ev fr y = some (.int k z)) (hz : 0 ≤ z ∧ z ≤ 64) : OpV P n fr (.binOp .shr t x y t') ty w (U (p >>> z.toNat)) w := ⟨fun a ha _ _ _ _ => by
  have hg : (eqGuard .shr t x y (U p) (.int k z)).run P w = .ok () w := rfl
  have h1 : ¬ z < 0 := by omega
  have h2 : min z.toNat 64 = z.toNat := by omega
  simp only [execOp, ha.ev hx, ha.ev hy]
  simp only [hg, Sem.run_bind, Result.andThen_ok]
  show (Result.andThen ((binOp .shr t (.int .u64 (p.toNat : Int)) (.int k z)).run P w) _) = _
  simp only [binOp, Op.shift, h1, if_false]
  show Result.ok (Next.value (.int .u64 ((p.toNat : Int).fdiv (2 ^ (min z.toNat 64))))) w = _
  rw [h2, fdiv_two_pow]; rfl⟩
theorem evU_const {m : Int} (h : 0 ≤ m ∧ m < 18446744073709551616) : ev fr (.const (.int .u64 m)) = some (U (BitVec.ofInt 64 m)) := by
  have e : ((BitVec.ofInt 64 m).toNat : Int) = m := by rw [BitVec.toNat_ofInt]; omega
  show some (Value.int .u64 m) = some (Value.int .u64 ((BitVec.ofInt 64 m).toNat : Int))
  rw [e]
theorem R_toU {m : Int} (ht : lk E.und t' = some (.int .u64)) (hs : (lk E.und t).isSome = true) (hx : ev fr x = some (I m)) : OpV P n fr (.convert t t' x) ty w (U (BitVec.ofInt 64 m)) w := by
  have := R_conv (n := n) (w := w) (ty := ty) ht hs hx
  rw [wrap_u64] at this; exact this
theorem R_ofU (ht : lk E.und t' = some (.int .i64)) (hs : (lk E.und t).isSome = true) (hx : ev fr x = some (U p)) (h : p.toNat ≤ 9223372036854775807) : OpV P n fr (.convert t t' x) ty w (I p.toNat) w := by
  have := R_conv (n := n) (w := w) (ty := ty) ht hs hx
  rw [IntWalk.i64_in _ (by omega)] at this; exact this
theorem R_uneg (hx : ev fr x = some (U p)) : OpV P n fr (.unOp .neg t x) ty w (U (-p)) w := by
  have := R_neg (P := P) (n := n) (w := w) (t := t) (ty := ty) hx
  rw [wrap_u64] at this
  have e : BitVec.ofInt 64 (0 - (p.toNat : Int)) = -p := by rw [Int.zero_sub, BitVec.ofInt_neg, ofInt_toNat]
  rw [e] at this; exact this
end bits

/-! ### Memory -/
theorem aggB_run {d : TypeDesc} (ht : lk E.und t = some d) (hd : aggB d = false) : (isAgg t).run P w = .ok false w := by
  simp only [isAgg, Sem.run_bind, run_underlying (P := P) (E.un ht) w, Result.andThen_ok]
  cases d <;> first | rfl | (simp [aggB] at hd)
theorem R_load {d : TypeDesc} {a : Addr} (ht : lk E.und t = some d) (hd : aggB d = false) (hx : ev fr x = some (.pointer (some a))) (hc : w.cell? a = some v) : OpV P n fr (.load t x) ty w v w := ⟨fun b hb _ _ _ _ => by
  simp only [execOp, hb.ev hx]
  simp [Instr.loadAt, Instr.sureAddr, loadVar, aggB_run (w := w) ht hd, hc]⟩
theorem R_len {e : TypeId} {xs : List Value} (ht : lk E.und t = some (.slice e)) (hx : ev fr x = some v) (hS : Sl w v xs) : OpV P n fr (.call ⟨.builtin .len, #[x], #[t]⟩) ty w (I xs.length) w := ⟨fun b hb _ _ _ _ => by
  obtain ⟨a, cap, rfl, _⟩ := hS
  simp only [execOp, resolve]
  simp [hb.ev hx, invoke, builtin, Builtin.len_, run_underlying (P := P) (E.un ht) w, goInt]⟩
theorem R_idx {e : TypeId} {z : Value} {by_ : Nat} {k : IntKind} {i : Int} {xs : List Value} (ht : lk E.und t = some (.slice e)) (he : lk E.inf e = some (z, 1, by_)) (hx : ev fr x = some v) (hy : ev fr y = some (.int k i)) (hS : Sl w v xs)
    (h : 0 ≤ i ∧ i < xs.length) : OpV P n fr (.indexAddr t x y) ty w (.pointer (some (addrAt v i.toNat))) w := ⟨fun b hb _ _ _ _ => by
  obtain ⟨a, cap, rfl, h1, h2, hc⟩ := hS
  obtain ⟨inf, hi, _, hsz, _⟩ := E.info he
  have hlt : i.toNat < xs.length := by omega
  obtain ⟨ad, rfl, _⟩ := hc i.toNat xs[i.toNat] (List.getElem?_eq_getElem hlt)
  simp only [execOp, hb.ev hx, hb.ev hy]
  simp [Instr.indexAt, asIntOf, run_underlying (P := P) (E.un ht) w, h, sizeOf, typeInfo, hi, hsz, addrAt]⟩
theorem R_nil {a : Addr} (hx : ev fr x = some (.pointer (some a))) : OpV P n fr (.nilCheck x) ty w (.pointer (some a)) w := ⟨fun b hb _ _ _ _ => by
  simp only [execOp, hb.ev hx]; rfl⟩
theorem R_fld {fs : Array Field} {f : Nat} {fld : Field} {z : Value} {sz by_ b o : Nat} (ht : lk E.und t = some (.struct fs)) (hf : fs[f]? = some fld) (he : lk E.inf fld.type = some (z, sz, by_)) (hsz : Nat.beq sz 0 = false)
    (hx : ev fr x = some (.pointer (some ⟨b, o, none⟩))) : OpV P n fr (.fieldAddr t x f) ty w (.pointer (some ⟨b, o + fld.offset, none⟩)) w := ⟨fun a ha _ _ _ _ => by
  obtain ⟨inf, hi, _, hs, _⟩ := E.info he
  have h0 : ¬ sz = 0 := nbeq_ne hsz
  have e : (⟨b, o, none⟩ : Addr).add fld.offset = ⟨b, o + fld.offset, none⟩ := by
    unfold Addr.add; split
    · rename_i h; simp [h]
    · rfl
  simp only [execOp, ha.ev hx]
  simp [Instr.fieldAt, run_underlying (P := P) (E.un ht) w, hf, Instr.sureAddr, fieldPlace, sizeOf, typeInfo, hi, hs, h0, e]⟩
theorem R_extract {vs : List Value} {i : Nat} (hx : ev fr x = some (.tuple vs.toArray)) (hi : vs[i]? = some v) : OpV P n fr (.extract x i) ty w v w := ⟨fun b hb _ _ _ _ => by
  simp only [execOp, hb.ev hx]
  simp [Instr.extract, hi]⟩
end Go.Art
