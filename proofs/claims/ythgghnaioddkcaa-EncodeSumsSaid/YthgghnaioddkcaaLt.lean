/- Lots of a seed, on pieces: the plain law, and the program's. Conditions: none. -/
import Derived.Test.YthgghnaioddkcaaKa
import Derived.Test.YthgghnaioddkcaaQ
set_option linter.unusedSimpArgs false
set_option linter.unusedVariables false
namespace Go.Art
open Go Go.Proofs Go.RowKit

abbrev c64 (n : Int) : BitVec 64 := BitVec.ofInt 64 n
abbrev bshr (p : BitVec 64) (k : Int) : BitVec 64 := p >>> k.toNat
def gold : BitVec 64 := c64 11400714819323198485
def stir1 (z : BitVec 64) : BitVec 64 := (z ^^^ bshr z 30) * c64 13787848793156543929
def stir2 (z : BitVec 64) : BitVec 64 := (z ^^^ bshr z 27) * c64 10723151780598845931
def stir3 (z : BitVec 64) : BitVec 64 := z ^^^ bshr z 31
def stir (x : BitVec 64) : BitVec 64 := stir3 (stir2 (stir1 (x + gold)))

def lim (n : Nat) : Nat := 18446744073709551615 - 18446744073709551616 % n
def ginv : BitVec 64 := c64 17428512612931826493
theorem gold_ginv : gold * ginv = 1#64 := by decide +kernel
theorem stir_neg : stir (-gold) = 0#64 := by decide +kernel
/-- How many words until the state -gold, whose word is 0. -/
def farG (g gi st : BitVec 64) : Nat := ((-g - st) * gi).toNat
theorem farG_step (g gi st : BitVec 64) (hg : g * gi = 1#64) (h : farG g gi st ≠ 0) : farG g gi (st + g) < farG g gi st := by
  have e1 : -g - (st + g) = (-g - st) + -g := by
    simp only [BitVec.sub_eq_add_neg, BitVec.neg_add]
    rw [BitVec.add_assoc]
  have e : (-g - (st + g)) * gi = (-g - st) * gi - 1#64 := by
    rw [e1, BitVec.add_mul, BitVec.neg_mul, hg]
    exact (BitVec.sub_eq_add_neg _ _).symm
  unfold farG at *
  rw [e, BitVec.toNat_sub]
  have := ((-g - st) * gi).isLt
  have h1 : (1#64).toNat = 1 := rfl
  omega
theorem farG_zero (g gi st : BitVec 64) (hg : g * gi = 1#64) (h : farG g gi st = 0) : st = -g := by
  unfold farG at h
  have h0 : (-g - st) * gi = 0#64 := BitVec.eq_of_toNat_eq (by simpa using h)
  have h1 : (-g - st) * gi * g = 0#64 * g := by rw [h0]
  rw [BitVec.mul_assoc, BitVec.mul_comm gi g, hg, BitVec.mul_one, BitVec.zero_mul] at h1
  have h2 : -g - st + st = 0#64 + st := by rw [h1]
  rw [BitVec.sub_add_cancel, BitVec.zero_add] at h2
  exact h2.symm
def far (st : BitVec 64) : Nat := farG gold ginv st
theorem far_step (st : BitVec 64) (h : far st ≠ 0) : far (st + gold) < far st := farG_step gold ginv st gold_ginv h
theorem far_zero (st : BitVec 64) (h : far st = 0) : st = -gold := farG_zero gold ginv st gold_ginv h
theorem far_stop (st : BitVec 64) (n : Nat) (h : ¬ (stir st).toNat ≤ lim n) : far st ≠ 0 := fun e => by
  rw [far_zero st e, stir_neg] at h
  exact h (Nat.zero_le _)

theorem c64_toNat {n : Int} (h : 0 ≤ n ∧ n < 18446744073709551616) : (c64 n).toNat = n.toNat := by rw [BitVec.toNat_ofInt]; omega
theorem c64_ne {n : Int} (h : 1 ≤ n ∧ n < 18446744073709551616) : c64 n ≠ 0#64 := fun e => by
  have := congrArg BitVec.toNat e
  rw [c64_toNat (by omega)] at this
  have h0 : (0#64).toNat = 0 := rfl
  omega

theorem over_toNat {n : Int} (h : 1 ≤ n ∧ n ≤ 1099511627776) : (-(c64 n) % c64 n).toNat = 18446744073709551616 % n.toNat := by
  rw [BitVec.toNat_umod, BitVec.toNat_neg, c64_toNat (by omega)]
  have h1 : (2 ^ 64 - n.toNat) % 2 ^ 64 = 18446744073709551616 - n.toNat := by omega
  rw [h1]
  have h2 : 18446744073709551616 = (18446744073709551616 - n.toNat) + n.toNat := by omega
  conv => rhs; rw [h2, Nat.add_mod_right]
theorem lim_toNat {n : Int} (h : 1 ≤ n ∧ n ≤ 1099511627776) : (c64 18446744073709551615 - (-(c64 n) % c64 n)).toNat = lim n.toNat := by
  have h1 := over_toNat h
  have h2 := Nat.mod_lt 18446744073709551616 (show 0 < n.toNat by omega)
  rw [BitVec.toNat_sub, h1, c64_toNat (by omega)]
  unfold lim
  omega


/-- The state whose word is taken. -/
def saccN (n : Nat) : Nat → BitVec 64 → BitVec 64
  | 0, st => st
  | f + 1, st => if (stir st).toNat ≤ lim n then st else saccN n f (st + gold)
theorem saccN_yes {n f : Nat} {st : BitVec 64} (h : (stir st).toNat ≤ lim n) : saccN n (f + 1) st = st := by unfold saccN; exact if_pos h
theorem saccN_no {n f : Nat} {st : BitVec 64} (h : ¬ (stir st).toNat ≤ lim n) : saccN n (f + 1) st = saccN n f (st + gold) := by
  show (if (stir st).toNat ≤ lim n then st else saccN n f (st + gold)) = saccN n f (st + gold)
  exact if_neg h
theorem saccN_more (n : Nat) (f : Nat) : ∀ (g : Nat) (st : BitVec 64), far st < f → far st < g → saccN n f st = saccN n g st := by
  induction f with
  | zero => intro g st h; exact absurd h (Nat.not_lt_zero _)
  | succ f ih =>
    intro g st h1 h2
    cases g with
    | zero => exact absurd h2 (Nat.not_lt_zero _)
    | succ g =>
      by_cases h : (stir st).toNat ≤ lim n
      · rw [saccN_yes h, saccN_yes h]
      · rw [saccN_no h, saccN_no h]
        have := far_step st (far_stop st n h)
        exact ih g _ (by omega) (by omega)
def sacc (n : Nat) (st : BitVec 64) : BitVec 64 := saccN n (far st + 1) st
theorem sacc_yes {n : Nat} {st : BitVec 64} (h : (stir st).toNat ≤ lim n) : sacc n st = st := saccN_yes h
theorem sacc_no {n : Nat} {st : BitVec 64} (h : ¬ (stir st).toNat ≤ lim n) : sacc n st = sacc n (st + gold) := by
  have := far_step st (far_stop st n h)
  unfold sacc
  rw [saccN_no h]
  exact saccN_more n _ _ _ (by omega) (by omega)
/-- A draw of a number below n: what is told, and the state behind it. -/
def sdraw (n : Nat) (st : BitVec 64) : Nat × BitVec 64 := ((stir (sacc n st)).toNat % n, sacc n st + gold)
theorem sdraw_lt {n : Nat} (h : 0 < n) (st : BitVec 64) : (sdraw n st).1 < n := Nat.mod_lt _ h
def seedOf (seed block id : BitVec 64) : BitVec 64 := stir (stir (stir seed + block) + id)

section
variable {P : Program} {E : Env P} {n : Sh} {X : Cx} {s : List K} {fr : Fr} {A A' G : List Ch} {ops : Array Oper} {rest : List Oper} {d : Nat} {ty t t' : TypeId} {pos : String} {after : Array Edge} {x y : Operand} {p q : BitVec 64}
theorem uad (k : TO E n X s ops rest ((d, U (p + q)) :: fr) A) (hx : ev fr x = some (U p) := by first | rfl | exact evU_const (by decide)) (hy : ev fr y = some (U q) := by first | rfl | exact evU_const (by decide)) (hd : Nat.blt d n.n = true := by rfl) :
    TO E n X s ops (⟨some d, .binOp .add t x y t', ty, pos, after, none⟩ :: rest) fr A := TO.val (fun _ _ => R_uadd hx hy) k hd
theorem usb (k : TO E n X s ops rest ((d, U (p - q)) :: fr) A) (hx : ev fr x = some (U p) := by first | rfl | exact evU_const (by decide)) (hy : ev fr y = some (U q) := by first | rfl | exact evU_const (by decide)) (hd : Nat.blt d n.n = true := by rfl) :
    TO E n X s ops (⟨some d, .binOp .sub t x y t', ty, pos, after, none⟩ :: rest) fr A := TO.val (fun _ _ => R_usub hx hy) k hd
theorem uml (k : TO E n X s ops rest ((d, U (p * q)) :: fr) A) (hx : ev fr x = some (U p) := by first | rfl | exact evU_const (by decide)) (hy : ev fr y = some (U q) := by first | rfl | exact evU_const (by decide)) (hd : Nat.blt d n.n = true := by rfl) :
    TO E n X s ops (⟨some d, .binOp .mul t x y t', ty, pos, after, none⟩ :: rest) fr A := TO.val (fun _ _ => R_umul hx hy) k hd
theorem uxr (k : TO E n X s ops rest ((d, U (p ^^^ q)) :: fr) A) (hx : ev fr x = some (U p) := by first | rfl | exact evU_const (by decide)) (hy : ev fr y = some (U q) := by first | rfl | exact evU_const (by decide)) (hd : Nat.blt d n.n = true := by rfl) :
    TO E n X s ops (⟨some d, .binOp .xor t x y t', ty, pos, after, none⟩ :: rest) fr A := TO.val (fun _ _ => R_uxor hx hy) k hd
theorem urm (k : TO E n X s ops rest ((d, U (p % q)) :: fr) A) (h : q ≠ 0#64 := by assumption) (hx : ev fr x = some (U p) := by first | rfl | exact evU_const (by decide)) (hy : ev fr y = some (U q) := by first | rfl | exact evU_const (by decide)) (hd : Nat.blt d n.n = true := by rfl) :
    TO E n X s ops (⟨some d, .binOp .rem t x y t', ty, pos, after, none⟩ :: rest) fr A := TO.val (fun _ _ => R_urem hx hy h) k hd
theorem ulq (k : TO E n X s ops rest ((d, .bool (decide (p.toNat ≤ q.toNat))) :: fr) A) (hx : ev fr x = some (U p) := by first | rfl | exact evU_const (by decide)) (hy : ev fr y = some (U q) := by first | rfl | exact evU_const (by decide)) (hd : Nat.blt d n.n = true := by rfl) :
    TO E n X s ops (⟨some d, .binOp .leq t x y t', ty, pos, after, none⟩ :: rest) fr A := TO.val (fun _ _ => R_uleq hx hy) k hd
theorem ush {k' : IntKind} {z : Int} (k : TO E n X s ops rest ((d, U (p >>> z.toNat)) :: fr) A) (hx : ev fr x = some (U p) := by rfl) (hy : ev fr y = some (.int k' z) := by rfl) (hz : 0 ≤ z ∧ z ≤ 64 := by omega) (hd : Nat.blt d n.n = true := by rfl) :
    TO E n X s ops (⟨some d, .binOp .shr t x y t', ty, pos, after, none⟩ :: rest) fr A := TO.val (fun _ _ => R_ushr hx hy hz) k hd
theorem ung (k : TO E n X s ops rest ((d, U (-p)) :: fr) A) (hx : ev fr x = some (U p) := by rfl) (hd : Nat.blt d n.n = true := by rfl) : TO E n X s ops (⟨some d, .unOp .neg t x, ty, pos, after, none⟩ :: rest) fr A := TO.val (fun _ _ => R_uneg hx) k hd
theorem uto {m : Int} (k : TO E n X s ops rest ((d, U (c64 m)) :: fr) A) (hx : ev fr x = some (I m) := by rfl) (ht : lk E.und t' = some (.int .u64) := by rfl) (hs : (lk E.und t).isSome = true := by rfl) (hd : Nat.blt d n.n = true := by rfl) : TO E n X s ops (⟨some d, .convert t t' x, ty, pos, after, none⟩ :: rest) fr A := TO.val (fun _ _ => R_toU ht hs hx) k hd
theorem uof (k : TO E n X s ops rest ((d, I p.toNat) :: fr) A) (hx : ev fr x = some (U p) := by rfl) (h : p.toNat ≤ 9223372036854775807 := by omega) (ht : lk E.und t' = some (.int .i64) := by rfl) (hs : (lk E.und t).isSome = true := by rfl) (hd : Nat.blt d n.n = true := by rfl) :
    TO E n X s ops (⟨some d, .convert t t' x, ty, pos, after, none⟩ :: rest) fr A := TO.val (fun _ _ => R_ofU ht hs hx h) k hd
theorem ife {ms : Array (String × TypeId)} {tt : TypeId} {v : Value} (k : TO E n X s ops rest ((d, .bool false) :: fr) A) (hx : ev fr x = some (.iface tt v) := by rfl) (ht : lk E.und t = some (.interface ms) := by rfl) (hd : Nat.blt d n.n = true := by rfl) :
    TO E n X s ops (⟨some d, .binOp .eql t x (.const .nilIface) t', ty, pos, after, none⟩ :: rest) fr A := TO.val (fun _ _ => R_ifEqNil ht hx) k hd
theorem ifn {ms : Array (String × TypeId)} (k : TO E n X s ops rest ((d, .bool true) :: fr) A) (hx : ev fr x = some .nilIface := by rfl) (ht : lk E.und t = some (.interface ms) := by rfl) (hd : Nat.blt d n.n = true := by rfl) :
    TO E n X s ops (⟨some d, .binOp .eql t x (.const .nilIface) t', ty, pos, after, none⟩ :: rest) fr A := TO.val (fun _ _ => R_ifNilEqNil ht hx) k hd
theorem onep_nil : ∀ p ∈ ([] : List (Nat × Value)), p.2.oneCell' = true := fun _ h => nomatch h
theorem onep_cons {p0 : Nat × Value} {l : List (Nat × Value)} (h : p0.2.oneCell' = true) (k : ∀ p ∈ l, p.2.oneCell' = true) : ∀ p ∈ p0 :: l, p.2.oneCell' = true := fun x hx => by
  rcases List.mem_cons.1 hx with rfl | hx
  · exact h
  · exact k x hx
/-- A struct literal. -/
theorem bdz {sz by_ : Nat} {cs : List Value} {fl : List Field} {zs : List Value} {pl : List (Nat × Nat)} {parts : List (Nat × Operand)} {ps : List (Nat × Value)} (k : TO E n X s ops rest ((d, .agg cs.toArray) :: fr) A) (hv : evps fr parts = some ps := by rfl)
    (h1 : ∀ p ∈ ps, p.2.oneCell' = true := by (repeat (first | exact onep_nil | refine onep_cons (by first | rfl | assumption) ?_)); first | done | fail) (ht : lk E.und t = some (.struct fl.toArray) := by rfl) (he : lk E.inf t = some (.agg zs.toArray, sz, by_) := by rfl)
    (hpl : places E.inf fl = some pl := by rfl) (hs : setParts1 pl zs ps = some cs := by rfl) (hd : Nat.blt d n.n = true := by rfl) : TO E n X s ops (⟨some d, .build t parts.toArray, ty, pos, after, none⟩ :: rest) fr A := bdc h1 k hv ht he hpl hs hd
/-- A call of a method through an interface. -/
theorem civ {f : FuncId} {r : Operand} {nm : String} {args : List Operand} {ats : Array TypeId} {vs : List Value} {pre B F : List Ch} {R : Value → List Ch → Prop} {tt : TypeId} {x0 rv : Value} (hf : Tr P f (rv :: vs) pre B R) (k : ∀ v D, R v D → TO E n X s ops rest ((d, v) :: fr) (D ++ F))
    (hm : ∀ w : World, (method (P.types.size + Made.depth) tt x0 nm).run P w = .ok (f, rv) w) (hr : ev fr r = some (.iface tt x0) := by rfl) (hv : evs fr args = some vs := by rfl) (hs : Fit A B F := by first | apply Fit.all | ((repeat (first | (apply Fit.nilN; (repeat (first | apply nrm_nil | apply nrm_cons)); try apply nrm_rfl) | (apply Fit.cons; focus ((repeat (first | apply Tk.here | apply Tk.there)); first | done | fail)))); first | done | fail))
    (hp : ∀ c ∈ pre, Has F c := by (repeat (first | exact has0 | refine has1 (by first | (apply has_vw; (repeat (first | apply List.Mem.head | apply List.Mem.tail)); first | done | fail) | (apply has_own; (repeat (first | apply List.Mem.head | apply List.Mem.tail)); first | done | fail) | (apply has_ro; (repeat (first | apply List.Mem.head | apply List.Mem.tail)); first | done | fail) | apply has_nil | ((with_reducible apply has_el); (focus (first | (apply has_vels; (repeat (first | apply List.Mem.head | apply List.Mem.tail)); first | done | fail) | (apply has_rels; (repeat (first | apply List.Mem.head | apply List.Mem.tail)); first | done | fail))); omega) | (apply has_pt; (repeat (first | apply List.Mem.head | apply List.Mem.tail)); first | done | fail) | (apply has_lpt; (repeat (first | apply List.Mem.head | apply List.Mem.tail)); first | done | fail) | (apply has_vels; (repeat (first | apply List.Mem.head | apply List.Mem.tail)); first | done | fail) | (apply has_rels; (repeat (first | apply List.Mem.head | apply List.Mem.tail)); first | done | fail) | with_reducible assumption | ((with_reducible apply has_elg); (focus (first | (apply has_velg; (repeat (first | apply List.Mem.head | apply List.Mem.tail)); first | done | fail) | (apply has_relg; (repeat (first | apply List.Mem.head | apply List.Mem.tail)); first | done | fail))); omega) | (apply has_velg; (repeat (first | apply List.Mem.head | apply List.Mem.tail)); first | done | fail) | (apply has_relg; (repeat (first | apply List.Mem.head | apply List.Mem.tail)); first | done | fail)) ?_)); first | done | fail) (hd : Nat.blt d n.n = true := by rfl) : TO E n X s ops (⟨some d, .call ⟨.invoke r nm, args.toArray, ats⟩, ty, pos, after, none⟩ :: rest) fr A :=
  ⟨fun w hw => SO_invoke hr hv (hm w) hd (hf.at hs hp hw) fun v w' ⟨D, hR, hS⟩ => (k v D hR).run w' hS⟩
/-- The end, with a mark, a result that lies in a cell and one in a slot. -/
theorem mct {w0 : World} {A0 D : List Ch} {cl : List Value} {T ct : TypeId} {dt : TypeDesc} {R' : Value → List Ch → Prop} {fn : Func} {t1 t2 nn Dm b : Nat} {v1 v2 : Value} (h : R' (.tuple #[v1, v2]) D) (hr : fn.results = #[.cell t1 ct, .tmp t2] := by rfl) (ht : lk E.und ct = some dt := by rfl) (hg : aggB dt = false := by rfl)
    (hv : get fr t1 = some (ptr b) := by rfl) (hv2 : get fr t2 = some v2 := by rfl) (hm : Tk (dfr Dm) A A' := by (repeat (first | apply Tk.here | apply Tk.there)); first | done | fail) (hc : pt b (v1 :: cl) T ∈ A' := by (repeat (first | apply List.Mem.head | apply List.Mem.tail)); first | done | fail) (hf : Fit A' D G := by first | apply Fit.all | ((repeat (first | (apply Fit.nilN; (repeat (first | apply nrm_nil | apply nrm_cons)); try apply nrm_rfl) | (apply Fit.cons; focus ((repeat (first | apply Tk.here | apply Tk.there)); first | done | fail)))); first | done | fail)) (nb : ∀ c ∈ D, ∀ b, ¬ c.bd b := by (repeat (first | exact nb0 | refine nb1 ?_)); first | done | fail) :
    TX E ⟨nn, [mark Dm], none⟩ ⟨bodyPostM (FF none) 0 P fn (RetP (PR w0 A0 R')), w0, A0⟩ [] .ret fr A := ⟨fun w hw =>
  SX_retM rfl ((hw.im hm).mem (List.Mem.head _)) fun a ha w' hU => ⟨.tuple #[v1, v2], res_ct (E := E) ha hr ht hg hv (by
    have h1 := hw.im hm
    have h2 : St ⟨bodyPostM (FF none) 0 P fn (RetP (PR w0 A0 R')), w0, A0⟩ A' w' := h1.step (A := [dfr Dm]) (B := []) (F := A') (Mv.upd hU (fun b hb => .inl (wrs_one.2 (List.mem_singleton.1 hb))) (fun b hb => absurd hb wrs_nil) (fun b hb => absurd hb rds_nil)) (Sat.nil _) (by simp)
    exact blk_cell (h2.mem hc) rfl) hv2, PR.mkM h hw hm hf nb hU⟩⟩
end
theorem fit_mid (B : List Ch) (a l : Ch) : Fit (B ++ [a, l]) (B ++ [a]) [l] := by
  refine Im.perm ?_
  rw [show B ++ [a, l] = (B ++ [a]) ++ [l] by simp]
attribute [local irreducible] Fit pt own ro vw mpc lpt vels rels mow lrc dfr

theorem Stir_tr (x : BitVec 64) : Tr Try.prog 40 [U x] [] [] fun v D => v = U (stir x) ∧ D = [] := by
  refine Tr.enter env _ Try.func40 (by kernel_rfl) rfl Try.ntmps40 rfl (by repeat (first | exact has00 | refine has01 ?_)) fun w0 => ?_
  repeat' first|refine uad ?_|refine uml ?_|refine uxr ?_|refine ush ?_|(refine wo ?_; first|(refine ao ?_; first|refine aw ?_|refine aw6 ?_|refine oa ?_|refine adiv ?_|refine amod ?_|refine shr1 ?_|refine shr ?_|refine umod ?_|refine isl ?_|refine ipe ?_|refine ipn ?_|refine ibe ?_)|refine acw ?_|refine ucv ?_|refine anw ?_|refine oa ?_|refine ld ?_|refine ldl ?_|refine lnm ?_|refine ixmn ?_|refine ixm ?_|refine li ?_|refine lv ?_|refine ln ?_|refine ixn ?_|refine ix ?_|refine le ?_|refine sr ?_|refine soi ?_|refine scm ?_|refine sclm ?_|refine schm ?_|refine gy ?_|refine gn ?_|refine gnn ?_|refine gu ?_|(refine gsi (fun hB => ?_) (fun hB => ?_) <;> try (exfalso; omega))|(refine gsn (fun hB => ?_) (fun hB => ?_) <;> try (exfalso; omega))|(refine gs (fun hB => ?_) (fun hB => ?_) <;> try (exfalso; omega)))|(refine gc ?_; first|refine ct ?_|refine cf ?_|(refine ci (fun hB => ?_) (fun hB => ?_) <;> try (exfalso; omega))|(refine cn (fun hB => ?_) (fun hB => ?_) <;> try (exfalso; omega))|(refine cb (fun hB => ?_) (fun hB => ?_) <;> try (exfalso; omega)))|refine sq ?_|refine rg ?_|refine xc ?_|refine nl ?_|refine sk ?_|refine bk ?_|refine xe ?_|refine rt ?_|refine xb ?_
  exact r1 ⟨rfl, rfl⟩
abbrev TSd : TypeId := 81
abbrev TLo : TypeId := 85
abbrev TpS : TypeId := 78
/-- Lots of a seed. -/
abbrev lotP (b r : Nat) (st : BitVec 64) (used : Int) (br : Bool) : List Ch := [pt b [.iface TpS (ptr r), I used, .bool br] TLo, pt r [U st] TSd]
theorem Seeded_tr (x y z : BitVec 64) : Tr Try.prog 30 [U x, U y, U z] [] [] fun v D => ∃ b r, v = ptr b ∧ D = lotP b r (seedOf x y z) 0 false := by
  refine Tr.enter env _ Try.func30 (by kernel_rfl) rfl Try.ntmps30 rfl (by repeat (first | exact has00 | refine has01 ?_)) fun w0 => ?_
  repeat' first|(refine gca ?_; first|(refine ca (Stir_tr _) ?_; rintro _ _ ⟨rfl, rfl⟩))|refine uad ?_|refine bdz ?_|refine bx fun r => ?_|(refine wo ?_; first|(refine ao ?_; first|refine aw ?_|refine aw6 ?_|refine oa ?_|refine adiv ?_|refine amod ?_|refine shr1 ?_|refine shr ?_|refine umod ?_|refine isl ?_|refine ipe ?_|refine ipn ?_|refine ibe ?_)|refine acw ?_|refine ucv ?_|refine anw ?_|refine oa ?_|refine ld ?_|refine ldl ?_|refine lnm ?_|refine ixmn ?_|refine ixm ?_|refine li ?_|refine lv ?_|refine ln ?_|refine ixn ?_|refine ix ?_|refine le ?_|refine sr ?_|refine soi ?_|refine scm ?_|refine sclm ?_|refine schm ?_|refine gy ?_|refine gn ?_|refine gnn ?_|refine gu ?_|(refine gsi (fun hB => ?_) (fun hB => ?_) <;> try (exfalso; omega))|(refine gsn (fun hB => ?_) (fun hB => ?_) <;> try (exfalso; omega))|(refine gs (fun hB => ?_) (fun hB => ?_) <;> try (exfalso; omega)))|(refine gc ?_; first|refine ct ?_|refine cf ?_|(refine ci (fun hB => ?_) (fun hB => ?_) <;> try (exfalso; omega))|(refine cn (fun hB => ?_) (fun hB => ?_) <;> try (exfalso; omega))|(refine cb (fun hB => ?_) (fun hB => ?_) <;> try (exfalso; omega)))|refine sq ?_|refine rg ?_|refine xc ?_|refine nl ?_|refine sk ?_|refine bk ?_|refine xe ?_|refine rt ?_|refine xb ?_
  exact r1 ⟨_, _, rfl, rfl⟩
theorem words_tr (r : Nat) : Tr Try.prog 101 [ptr r] [] [] fun v D => ∃ c, v = .func (.func 102) #[] #[ptr c] ∧ D = [pt c [ptr r] TpS] := by
  refine Tr.enter env _ Try.func101 (by kernel_rfl) rfl Try.ntmps101 rfl (by repeat (first | exact has00 | refine has01 ?_)) fun w0 => ?_
  repeat' first|refine bx1 fun c => ?_|(refine wo ?_; first|(refine ao ?_; first|refine aw ?_|refine aw6 ?_|refine oa ?_|refine adiv ?_|refine amod ?_|refine shr1 ?_|refine shr ?_|refine umod ?_|refine isl ?_|refine ipe ?_|refine ipn ?_|refine ibe ?_)|refine acw ?_|refine ucv ?_|refine anw ?_|refine oa ?_|refine ld ?_|refine ldl ?_|refine lnm ?_|refine ixmn ?_|refine ixm ?_|refine li ?_|refine lv ?_|refine ln ?_|refine ixn ?_|refine ix ?_|refine le ?_|refine sr ?_|refine soi ?_|refine scm ?_|refine sclm ?_|refine schm ?_|refine gy ?_|refine gn ?_|refine gnn ?_|refine gu ?_|(refine gsi (fun hB => ?_) (fun hB => ?_) <;> try (exfalso; omega))|(refine gsn (fun hB => ?_) (fun hB => ?_) <;> try (exfalso; omega))|(refine gs (fun hB => ?_) (fun hB => ?_) <;> try (exfalso; omega)))|(refine gc ?_; first|refine ct ?_|refine cf ?_|(refine ci (fun hB => ?_) (fun hB => ?_) <;> try (exfalso; omega))|(refine cn (fun hB => ?_) (fun hB => ?_) <;> try (exfalso; omega))|(refine cb (fun hB => ?_) (fun hB => ?_) <;> try (exfalso; omega)))|refine sq ?_|refine rg ?_|refine xc ?_|refine nl ?_|refine sk ?_|refine bk ?_|refine xe ?_|refine rt ?_|refine xb ?_
  exact r1 ⟨c, rfl, rfl⟩
theorem words1_tr (c r l m : Nat) (st : BitVec 64) (J : List Ch) (R : BitVec 64 → List Ch → Prop)
    (hy : ∀ w, ¬ w.toNat ≤ lim m → Ty Try.prog l [U w] [] J fun ok B => ok = true ∧ B = J) (hz : ∀ w, w.toNat ≤ lim m → Ty Try.prog l [U w] [] J fun ok B => ok = false ∧ R w B ∧ ∀ c ∈ B, ∀ b, ¬ c.bd b) :
    Tr Try.prog 102 [yv l, ptr c] [lpt c [ptr r] TpS] (J ++ [pt r [U st] TSd]) fun _ B => ∃ B', R (stir (sacc m st)) B' ∧ B = B' ++ [pt r [U (sacc m st + gold)] TSd] := by
  refine Tr.enter env _ Try.func102 (by kernel_rfl) rfl Try.ntmps102 rfl (by repeat (first | exact has00 | refine has01 ?_)) fun w0 => ?_
  refine TC.im (B := pt r [U st] TSd :: lpt c [ptr r] TpS :: J) (Im.perm (show (lpt c [ptr r] TpS :: (J ++ [pt r [U st] TSd])).Perm (pt r [U st] TSd :: lpt c [ptr r] TpS :: J) from (List.Perm.cons _ (List.perm_append_comm (l₁ := J) (l₂ := [pt r [U st] TSd]))).trans (List.Perm.swap _ _ _))) ?_
  repeat' first|(refine wo ?_; first|(refine ao ?_; first|refine aw ?_|refine aw6 ?_|refine oa ?_|refine adiv ?_|refine amod ?_|refine shr1 ?_|refine shr ?_|refine umod ?_|refine isl ?_|refine ipe ?_|refine ipn ?_|refine ibe ?_)|refine acw ?_|refine ucv ?_|refine anw ?_|refine oa ?_|refine ld ?_|refine ldl ?_|refine lnm ?_|refine ixmn ?_|refine ixm ?_|refine li ?_|refine lv ?_|refine ln ?_|refine ixn ?_|refine ix ?_|refine le ?_|refine sr ?_|refine soi ?_|refine scm ?_|refine sclm ?_|refine schm ?_|refine gy ?_|refine gn ?_|refine gnn ?_|refine gu ?_|(refine gsi (fun hB => ?_) (fun hB => ?_) <;> try (exfalso; omega))|(refine gsn (fun hB => ?_) (fun hB => ?_) <;> try (exfalso; omega))|(refine gs (fun hB => ?_) (fun hB => ?_) <;> try (exfalso; omega)))|(refine gc ?_; first|refine ct ?_|refine cf ?_|(refine ci (fun hB => ?_) (fun hB => ?_) <;> try (exfalso; omega))|(refine cn (fun hB => ?_) (fun hB => ?_) <;> try (exfalso; omega))|(refine cb (fun hB => ?_) (fun hB => ?_) <;> try (exfalso; omega)))|refine sq ?_|refine rg ?_|refine xc ?_|refine nl ?_|refine sk ?_|refine bk ?_|refine xe ?_|refine rt ?_|refine xb ?_
  refine TC.loop (ι := BitVec 64) (fun _ => []) (fun s => pt r [U s] TSd :: lpt c [ptr r] TpS :: J) (fun s => sacc m s = sacc m st) far st [0, 1] rfl ?_ (hf := Fit.all)
  rintro s hs
  have hN : (pt r [U s] TSd :: lpt c [ptr r] TpS :: J) ++ [] = pt r [U s] TSd :: lpt c [ptr r] TpS :: J := List.append_nil _
  refine TC.im (B := pt r [U s] TSd :: lpt c [ptr r] TpS :: J) (Im.perm (by rw [hN])) ?_
  have hF : ∀ s, Fit (pt r [U s] TSd :: lpt c [ptr r] TpS :: J) J [pt r [U s] TSd, lpt c [ptr r] TpS] := fun s => Fit.app [pt r [U s] TSd, lpt c [ptr r] TpS] J
  repeat' first|(refine gca ?_; first|(refine ca (Stir_tr _) ?_; rintro _ _ ⟨rfl, rfl⟩))|refine uad ?_|(refine wo ?_; first|(refine ao ?_; first|refine aw ?_|refine aw6 ?_|refine oa ?_|refine adiv ?_|refine amod ?_|refine shr1 ?_|refine shr ?_|refine umod ?_|refine isl ?_|refine ipe ?_|refine ipn ?_|refine ibe ?_)|refine acw ?_|refine ucv ?_|refine anw ?_|refine oa ?_|refine ld ?_|refine ldl ?_|refine lnm ?_|refine ixmn ?_|refine ixm ?_|refine li ?_|refine lv ?_|refine ln ?_|refine ixn ?_|refine ix ?_|refine le ?_|refine sr ?_|refine soi ?_|refine scm ?_|refine sclm ?_|refine schm ?_|refine gy ?_|refine gn ?_|refine gnn ?_|refine gu ?_|(refine gsi (fun hB => ?_) (fun hB => ?_) <;> try (exfalso; omega))|(refine gsn (fun hB => ?_) (fun hB => ?_) <;> try (exfalso; omega))|(refine gs (fun hB => ?_) (fun hB => ?_) <;> try (exfalso; omega)))|(refine gc ?_; first|refine ct ?_|refine cf ?_|(refine ci (fun hB => ?_) (fun hB => ?_) <;> try (exfalso; omega))|(refine cn (fun hB => ?_) (fun hB => ?_) <;> try (exfalso; omega))|(refine cb (fun hB => ?_) (fun hB => ?_) <;> try (exfalso; omega)))|refine sq ?_|refine rg ?_|refine xc ?_|refine nl ?_|refine sk ?_|refine bk ?_|refine xe ?_|refine rt ?_|refine xb ?_
  refine TO.im (B := pt r [U (s + gold)] TSd :: lpt c [ptr r] TpS :: J) (Im.refl _) ?_
  by_cases hw : (stir s).toNat ≤ lim m
  · refine cy (hz (stir s) hw) ?_ (hs := hF _)
    rintro ok B ⟨rfl, hR, hnb⟩
    repeat' first|(refine wo ?_; first|(refine ao ?_; first|refine aw ?_|refine aw6 ?_|refine oa ?_|refine adiv ?_|refine amod ?_|refine shr1 ?_|refine shr ?_|refine umod ?_|refine isl ?_|refine ipe ?_|refine ipn ?_|refine ibe ?_)|refine acw ?_|refine ucv ?_|refine anw ?_|refine oa ?_|refine ld ?_|refine ldl ?_|refine lnm ?_|refine ixmn ?_|refine ixm ?_|refine li ?_|refine lv ?_|refine ln ?_|refine ixn ?_|refine ix ?_|refine le ?_|refine sr ?_|refine soi ?_|refine scm ?_|refine sclm ?_|refine schm ?_|refine gy ?_|refine gn ?_|refine gnn ?_|refine gu ?_|(refine gsi (fun hB => ?_) (fun hB => ?_) <;> try (exfalso; omega))|(refine gsn (fun hB => ?_) (fun hB => ?_) <;> try (exfalso; omega))|(refine gs (fun hB => ?_) (fun hB => ?_) <;> try (exfalso; omega)))|(refine gc ?_; first|refine ct ?_|refine cf ?_|(refine ci (fun hB => ?_) (fun hB => ?_) <;> try (exfalso; omega))|(refine cn (fun hB => ?_) (fun hB => ?_) <;> try (exfalso; omega))|(refine cb (fun hB => ?_) (fun hB => ?_) <;> try (exfalso; omega)))|refine sq ?_|refine rg ?_|refine xc ?_|refine nl ?_|refine sk ?_|refine bk ?_|refine xe ?_|refine rt ?_|refine xb ?_
    rw [sacc_yes hw] at hs
    refine r0 (D := B ++ [pt r [U (s + gold)] TSd]) (G := [lpt c [ptr r] TpS]) ⟨B, by rw [← hs]; exact hR, by rw [← hs]⟩ (hf := ?_) (nb := ?_)
    · exact fit_mid B _ _
    · intro x hx b hb
      rcases List.mem_append.1 hx with hx | hx
      · exact hnb x hx b hb
      · rw [List.mem_singleton.1 hx] at hb; exact (NoB.nb (c := pt r [U (s + gold)] TSd)) b hb
  · refine cy (hy (stir s) hw) ?_ (hs := hF _)
    rintro ok B ⟨rfl, rfl⟩
    repeat' first|(refine wo ?_; first|(refine ao ?_; first|refine aw ?_|refine aw6 ?_|refine oa ?_|refine adiv ?_|refine amod ?_|refine shr1 ?_|refine shr ?_|refine umod ?_|refine isl ?_|refine ipe ?_|refine ipn ?_|refine ibe ?_)|refine acw ?_|refine ucv ?_|refine anw ?_|refine oa ?_|refine ld ?_|refine ldl ?_|refine lnm ?_|refine ixmn ?_|refine ixm ?_|refine li ?_|refine lv ?_|refine ln ?_|refine ixn ?_|refine ix ?_|refine le ?_|refine sr ?_|refine soi ?_|refine scm ?_|refine sclm ?_|refine schm ?_|refine gy ?_|refine gn ?_|refine gnn ?_|refine gu ?_|(refine gsi (fun hB => ?_) (fun hB => ?_) <;> try (exfalso; omega))|(refine gsn (fun hB => ?_) (fun hB => ?_) <;> try (exfalso; omega))|(refine gs (fun hB => ?_) (fun hB => ?_) <;> try (exfalso; omega)))|(refine gc ?_; first|refine ct ?_|refine cf ?_|(refine ci (fun hB => ?_) (fun hB => ?_) <;> try (exfalso; omega))|(refine cn (fun hB => ?_) (fun hB => ?_) <;> try (exfalso; omega))|(refine cb (fun hB => ?_) (fun hB => ?_) <;> try (exfalso; omega)))|refine sq ?_|refine rg ?_|refine xc ?_|refine nl ?_|refine sk ?_|refine bk ?_|refine xe ?_|refine rt ?_|refine xb ?_
    rw [sacc_no hw] at hs
    refine lp (s + gold) hs (G := []) (hf := ?_) (hlt := far_step s (far_stop s m hw))
    rw [List.append_nil]
    exact Fit.comm [pt r [U (s + gold)] TSd, lpt c [ptr r] TpS] _
theorem seedDraw_tr (r : Nat) (st : BitVec 64) (n : Int) (hn : 1 ≤ n ∧ n ≤ 1099511627776) : Tr Try.prog 100 [ptr r, I n] [] [pt r [U st] TSd]
    fun v D => v = tup2 (I (sdraw n.toNat st).1) (.bool true) ∧ D = [pt r [U (sdraw n.toNat st).2] TSd] := by
  have hnz := c64_ne (n := n) (by omega)
  have hlim := lim_toNat hn
  refine Tr.enterM env _ Try.func100 (by kernel_rfl) rfl Try.ntmps100 rfl (by repeat (first | exact has00 | refine has01 ?_)) fun w0 => ?_
  repeat' first|(refine gca ?_; first|(refine ca (words_tr r) ?_; rintro _ _ ⟨c, rfl, rfl⟩))|refine uto ?_|refine ung ?_|refine urm ?_|refine bx1 fun bn => ?_|refine al fun bo => ?_|(refine wo ?_; first|(refine ao ?_; first|refine aw ?_|refine aw6 ?_|refine oa ?_|refine adiv ?_|refine amod ?_|refine shr1 ?_|refine shr ?_|refine umod ?_|refine isl ?_|refine ipe ?_|refine ipn ?_|refine ibe ?_)|refine acw ?_|refine ucv ?_|refine anw ?_|refine oa ?_|refine ld ?_|refine ldl ?_|refine lnm ?_|refine ixmn ?_|refine ixm ?_|refine li ?_|refine lv ?_|refine ln ?_|refine ixn ?_|refine ix ?_|refine le ?_|refine sr ?_|refine soi ?_|refine scm ?_|refine sclm ?_|refine schm ?_|refine gy ?_|refine gn ?_|refine gnn ?_|refine gu ?_|(refine gsi (fun hB => ?_) (fun hB => ?_) <;> try (exfalso; omega))|(refine gsn (fun hB => ?_) (fun hB => ?_) <;> try (exfalso; omega))|(refine gs (fun hB => ?_) (fun hB => ?_) <;> try (exfalso; omega)))|(refine gc ?_; first|refine ct ?_|refine cf ?_|(refine ci (fun hB => ?_) (fun hB => ?_) <;> try (exfalso; omega))|(refine cn (fun hB => ?_) (fun hB => ?_) <;> try (exfalso; omega))|(refine cb (fun hB => ?_) (fun hB => ?_) <;> try (exfalso; omega)))|refine sq ?_|refine rg ?_|refine xc ?_|refine nl ?_|refine sk ?_|refine bk ?_|refine xe ?_|refine rt ?_|refine xb ?_
  rename_i bx
  refine TC.range [lpt c [ptr r] TpS] [pt bo [U (-c64 n % c64 n)] 66, pt bx [I 0] 3, pt bn [I n] 3, pt r [U st] TSd]
    (fun l rec Dm pend B' => pend = some (.exit 0) ∧ B' = [dfr Dm, pt bo [U (-c64 n % c64 n)] 66, pt bx [I (((stir (sacc n.toNat st)).toNat : Int) % n)] 3, pt bn [I n] 3, pt r [U (sdraw n.toNat st).2] TSd]) ?_ ?_
  · intro rec l Dm hr
    refine (words1_tr c r l n.toNat st [lrc l rec .ready none, dfr Dm, pt bo [U (-c64 n % c64 n)] 66, pt bx [I 0] 3, pt bn [I n] 3]
      (fun w B => B = [lrc l rec .done (some (.exit 0)), dfr Dm, pt bo [U (-c64 n % c64 n)] 66, pt bx [I ((w.toNat : Int) % n)] 3, pt bn [I n] 3]) ?_ ?_).mono ?_
    · intro w hw
      have hw' : ¬ w.toNat ≤ (BitVec.ofInt 64 18446744073709551615 - -c64 n % c64 n).toNat := fun h => hw (by have e := hlim; rw [← e]; exact h)
      refine Ty.intro env hr has00 fun w1 => ?_
      repeat' first|refine xbeg ?_|refine usb ?_|refine ulq ?_|(refine wo ?_; first|(refine ao ?_; first|refine aw ?_|refine aw6 ?_|refine oa ?_|refine adiv ?_|refine amod ?_|refine shr1 ?_|refine shr ?_|refine umod ?_|refine isl ?_|refine ipe ?_|refine ipn ?_|refine ibe ?_)|refine acw ?_|refine ucv ?_|refine anw ?_|refine oa ?_|refine ld ?_|refine ldl ?_|refine lnm ?_|refine ixmn ?_|refine ixm ?_|refine li ?_|refine lv ?_|refine ln ?_|refine ixn ?_|refine ix ?_|refine le ?_|refine sr ?_|refine soi ?_|refine scm ?_|refine sclm ?_|refine schm ?_|refine gy ?_|refine gn ?_|refine gnn ?_|refine gu ?_|(refine gsi (fun hB => ?_) (fun hB => ?_) <;> try (exfalso; omega))|(refine gsn (fun hB => ?_) (fun hB => ?_) <;> try (exfalso; omega))|(refine gs (fun hB => ?_) (fun hB => ?_) <;> try (exfalso; omega)))|(refine gc ?_; first|refine ct ?_|refine cf ?_|(refine ci (fun hB => ?_) (fun hB => ?_) <;> try (exfalso; omega))|(refine cn (fun hB => ?_) (fun hB => ?_) <;> try (exfalso; omega))|(refine cb (fun hB => ?_) (fun hB => ?_) <;> try (exfalso; omega)))|refine sq ?_|refine rg ?_|refine xc ?_|refine nl ?_|refine sk ?_|refine bk ?_|refine xe ?_|refine rt ?_|refine xb ?_
      exact yn ⟨rfl, rfl⟩
    · intro w hw
      have hw' : w.toNat ≤ (BitVec.ofInt 64 18446744073709551615 - -c64 n % c64 n).toNat := by have e := hlim; rw [← e] at hw; exact hw
      have hm1 := Int.emod_nonneg (w.toNat : Int) (show n ≠ 0 by omega)
      have hm2 := Int.emod_lt_of_pos (w.toNat : Int) (show 0 < n by omega)
      refine Ty.intro env hr has00 fun w1 => ?_
      repeat' first|refine xbeg ?_|refine usb ?_|refine ulq ?_|(refine wo ?_; first|(refine ao ?_; first|refine aw ?_|refine aw6 ?_|refine oa ?_|refine adiv ?_|refine amod ?_|refine shr1 ?_|refine shr ?_|refine umod ?_|refine isl ?_|refine ipe ?_|refine ipn ?_|refine ibe ?_)|refine acw ?_|refine ucv ?_|refine anw ?_|refine oa ?_|refine ld ?_|refine ldl ?_|refine lnm ?_|refine ixmn ?_|refine ixm ?_|refine li ?_|refine lv ?_|refine ln ?_|refine ixn ?_|refine ix ?_|refine le ?_|refine sr ?_|refine soi ?_|refine scm ?_|refine sclm ?_|refine schm ?_|refine gy ?_|refine gn ?_|refine gnn ?_|refine gu ?_|(refine gsi (fun hB => ?_) (fun hB => ?_) <;> try (exfalso; omega))|(refine gsn (fun hB => ?_) (fun hB => ?_) <;> try (exfalso; omega))|(refine gs (fun hB => ?_) (fun hB => ?_) <;> try (exfalso; omega)))|(refine gc ?_; first|refine ct ?_|refine cf ?_|(refine ci (fun hB => ?_) (fun hB => ?_) <;> try (exfalso; omega))|(refine cn (fun hB => ?_) (fun hB => ?_) <;> try (exfalso; omega))|(refine cb (fun hB => ?_) (fun hB => ?_) <;> try (exfalso; omega)))|refine sq ?_|refine rg ?_|refine xc ?_|refine nl ?_|refine sk ?_|refine bk ?_|refine xe ?_|refine rt ?_|refine xb ?_
      refine xo ?_
      refine ye ⟨rfl, rfl, ?_⟩
      (repeat (first | exact nb0 | refine nb1 ?_))
    · rintro v B ⟨B', rfl, rfl⟩
      exact ⟨.done, _, _, rfl, by decide, rfl, rfl⟩
  · rintro l rec Dm pend B' ⟨rfl, rfl⟩
    show TC env _ _ _ _ _ _
    repeat' first|(refine wo ?_; first|(refine ao ?_; first|refine aw ?_|refine aw6 ?_|refine oa ?_|refine adiv ?_|refine amod ?_|refine shr1 ?_|refine shr ?_|refine umod ?_|refine isl ?_|refine ipe ?_|refine ipn ?_|refine ibe ?_)|refine acw ?_|refine ucv ?_|refine anw ?_|refine oa ?_|refine ld ?_|refine ldl ?_|refine lnm ?_|refine ixmn ?_|refine ixm ?_|refine li ?_|refine lv ?_|refine ln ?_|refine ixn ?_|refine ix ?_|refine le ?_|refine sr ?_|refine soi ?_|refine scm ?_|refine sclm ?_|refine schm ?_|refine gy ?_|refine gn ?_|refine gnn ?_|refine gu ?_|(refine gsi (fun hB => ?_) (fun hB => ?_) <;> try (exfalso; omega))|(refine gsn (fun hB => ?_) (fun hB => ?_) <;> try (exfalso; omega))|(refine gs (fun hB => ?_) (fun hB => ?_) <;> try (exfalso; omega)))|(refine gc ?_; first|refine ct ?_|refine cf ?_|(refine ci (fun hB => ?_) (fun hB => ?_) <;> try (exfalso; omega))|(refine cn (fun hB => ?_) (fun hB => ?_) <;> try (exfalso; omega))|(refine cb (fun hB => ?_) (fun hB => ?_) <;> try (exfalso; omega)))|refine sq ?_|refine rg ?_|refine xc ?_|refine nl ?_|refine sk ?_|refine bk ?_|refine xe ?_|refine rt ?_|refine xb ?_
    have hv : ((sdraw n.toNat st).1 : Int) = ((stir (sacc n.toNat st)).toNat : Int) % n := by
      show (((stir (sacc n.toNat st)).toNat % n.toNat : Nat) : Int) = _
      rw [Int.natCast_emod, Int.toNat_of_nonneg (by omega)]
    exact mct (b := bx) (cl := []) (T := 3) ⟨by rw [hv], rfl⟩
/-- What a draw of lots of a seed tells: the number, the error; the state behind it, and how many were drawn. -/
def ldraw (n : Int) (st : BitVec 64) (used : Int) : (Int × Int) × (BitVec 64 × Int) := if 1 ≤ n ∧ n ≤ 1099511627776 then ((((sdraw n.toNat st).1 : Int), 0), ((sdraw n.toNat st).2, used + 1)) else ((0, 3), (st, used))
theorem none_tr (b r : Nat) (st : BitVec 64) (used : Int) (br : Bool) : Tr Try.prog 54 [ptr b] [lpt b [.iface TpS (ptr r), I used, .bool br] TLo] [] fun v D => v = .bool false ∧ D = [] := by
  refine Tr.enter env _ Try.func54 (by kernel_rfl) rfl Try.ntmps54 rfl (by repeat (first | exact has00 | refine has01 ?_)) fun w0 => ?_
  repeat' first|refine ife ?_|refine ifn ?_|(refine wo ?_; first|(refine ao ?_; first|refine aw ?_|refine aw6 ?_|refine oa ?_|refine adiv ?_|refine amod ?_|refine shr1 ?_|refine shr ?_|refine umod ?_|refine isl ?_|refine ipe ?_|refine ipn ?_|refine ibe ?_)|refine acw ?_|refine ucv ?_|refine anw ?_|refine oa ?_|refine ld ?_|refine ldl ?_|refine lnm ?_|refine ixmn ?_|refine ixm ?_|refine li ?_|refine lv ?_|refine ln ?_|refine ixn ?_|refine ix ?_|refine le ?_|refine sr ?_|refine soi ?_|refine scm ?_|refine sclm ?_|refine schm ?_|refine gy ?_|refine gn ?_|refine gnn ?_|refine gu ?_|(refine gsi (fun hB => ?_) (fun hB => ?_) <;> try (exfalso; omega))|(refine gsn (fun hB => ?_) (fun hB => ?_) <;> try (exfalso; omega))|(refine gs (fun hB => ?_) (fun hB => ?_) <;> try (exfalso; omega)))|(refine gc ?_; first|refine ct ?_|refine cf ?_|(refine ci (fun hB => ?_) (fun hB => ?_) <;> try (exfalso; omega))|(refine cn (fun hB => ?_) (fun hB => ?_) <;> try (exfalso; omega))|(refine cb (fun hB => ?_) (fun hB => ?_) <;> try (exfalso; omega)))|refine sq ?_|refine rg ?_|refine xc ?_|refine nl ?_|refine sk ?_|refine bk ?_|refine xe ?_|refine rt ?_|refine xb ?_
  exact r1 ⟨rfl, rfl⟩
theorem method_seeded (a : Addr) (w : World) : (method (Try.prog.types.size + Made.depth) 78 (.pointer (some a)) "artesian/lots.draw").run Try.prog w = .ok (100, .pointer (some a)) w := by kernel_rfl
theorem Draw_tr (b r : Nat) (st : BitVec 64) (used n : Int) (hu : 0 ≤ used ∧ used ≤ 4611686018427387904) : Tr Try.prog 46 [ptr b, I n] [] (lotP b r st used false)
    fun v D => v = tup2 (I (ldraw n st used).1.1) (I (ldraw n st used).1.2) ∧ D = lotP b r (ldraw n st used).2.1 (ldraw n st used).2.2 false := by
  have hl1 : ¬ (1 ≤ n ∧ n ≤ 1099511627776) → ldraw n st used = ((0, 3), (st, used)) := fun h => if_neg h
  refine Tr.enter env _ Try.func46 (by kernel_rfl) rfl Try.ntmps46 rfl (by repeat (first | exact has00 | refine has01 ?_)) fun w0 => ?_
  repeat' first|(refine gca ?_; first|(refine ca (none_tr b r st used false) ?_; rintro _ _ ⟨rfl, rfl⟩))|(refine wo ?_; first|(refine ao ?_; first|refine aw ?_|refine aw6 ?_|refine oa ?_|refine adiv ?_|refine amod ?_|refine shr1 ?_|refine shr ?_|refine umod ?_|refine isl ?_|refine ipe ?_|refine ipn ?_|refine ibe ?_)|refine acw ?_|refine ucv ?_|refine anw ?_|refine oa ?_|refine ld ?_|refine ldl ?_|refine lnm ?_|refine ixmn ?_|refine ixm ?_|refine li ?_|refine lv ?_|refine ln ?_|refine ixn ?_|refine ix ?_|refine le ?_|refine sr ?_|refine soi ?_|refine scm ?_|refine sclm ?_|refine schm ?_|refine gy ?_|refine gn ?_|refine gnn ?_|refine gu ?_|(refine gsi (fun hB => ?_) (fun hB => ?_) <;> try (exfalso; omega))|(refine gsn (fun hB => ?_) (fun hB => ?_) <;> try (exfalso; omega))|(refine gs (fun hB => ?_) (fun hB => ?_) <;> try (exfalso; omega)))|(refine gc ?_; first|refine ct ?_|refine cf ?_|(refine ci (fun hB => ?_) (fun hB => ?_) <;> try (exfalso; omega))|(refine cn (fun hB => ?_) (fun hB => ?_) <;> try (exfalso; omega))|(refine cb (fun hB => ?_) (fun hB => ?_) <;> try (exfalso; omega)))|refine sq ?_|refine rg ?_|refine xc ?_|refine nl ?_|refine sk ?_|refine bk ?_|refine xe ?_|refine rt ?_|refine xb ?_
  · rw [hl1 (by omega)]; exact r2 ⟨rfl, rfl⟩
  · rw [hl1 (by omega)]; exact r2 ⟨rfl, rfl⟩
  have hn : 1 ≤ n ∧ n ≤ 1099511627776 := by omega
  rw [show ldraw n st used = ((((sdraw n.toNat st).1 : Int), 0), ((sdraw n.toNat st).2, used + 1)) from if_pos hn]
  refine civ (seedDraw_tr r st n hn) ?_ (method_seeded _)
  rintro _ _ ⟨rfl, rfl⟩
  repeat' first|(refine wo ?_; first|(refine ao ?_; first|refine aw ?_|refine aw6 ?_|refine oa ?_|refine adiv ?_|refine amod ?_|refine shr1 ?_|refine shr ?_|refine umod ?_|refine isl ?_|refine ipe ?_|refine ipn ?_|refine ibe ?_)|refine acw ?_|refine ucv ?_|refine anw ?_|refine oa ?_|refine ld ?_|refine ldl ?_|refine lnm ?_|refine ixmn ?_|refine ixm ?_|refine li ?_|refine lv ?_|refine ln ?_|refine ixn ?_|refine ix ?_|refine le ?_|refine sr ?_|refine soi ?_|refine scm ?_|refine sclm ?_|refine schm ?_|refine gy ?_|refine gn ?_|refine gnn ?_|refine gu ?_|(refine gsi (fun hB => ?_) (fun hB => ?_) <;> try (exfalso; omega))|(refine gsn (fun hB => ?_) (fun hB => ?_) <;> try (exfalso; omega))|(refine gs (fun hB => ?_) (fun hB => ?_) <;> try (exfalso; omega)))|(refine gc ?_; first|refine ct ?_|refine cf ?_|(refine ci (fun hB => ?_) (fun hB => ?_) <;> try (exfalso; omega))|(refine cn (fun hB => ?_) (fun hB => ?_) <;> try (exfalso; omega))|(refine cb (fun hB => ?_) (fun hB => ?_) <;> try (exfalso; omega)))|refine sq ?_|refine rg ?_|refine xc ?_|refine nl ?_|refine sk ?_|refine bk ?_|refine xe ?_|refine rt ?_|refine xb ?_
  exact r2 ⟨rfl, rfl⟩
end Go.Art
