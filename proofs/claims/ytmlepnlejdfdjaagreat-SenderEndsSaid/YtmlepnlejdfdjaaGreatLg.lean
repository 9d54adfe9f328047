/- Texts put together: Re Eq Pg Mf Mg Mp Pd Ck. Conditions: none. -/
import Derived.Test.YtmlepnlejdfdjaaGreatLf
set_option linter.unusedSimpArgs false
set_option linter.unusedVariables false
namespace Go.Art
open Go Go.Proofs Go.RowKit

/-- Bytes as a number, the high one first. -/
def beV (l : List Int) : Int := l.foldl (fun n c => n * 256 + c) 0
theorem beV_snoc (l : List Int) (c : Int) : beV (l ++ [c]) = beV l * 256 + c := by unfold beV; rw [List.foldl_append]; rfl
theorem beV_acc : ∀ (l : List Int) (a : Int), inB l → 0 ≤ a → 0 ≤ l.foldl (fun n c => n * 256 + c) a ∧ l.foldl (fun n c => n * 256 + c) a < (a + 1) * 256 ^ l.length
  | [], a, _, ha => by simp; omega
  | c :: l, a, h, ha => by
    have hc := h c (by simp)
    obtain ⟨h1, h2⟩ := beV_acc l (a * 256 + c) (fun x hx => h x (by simp [hx])) (by omega)
    refine ⟨h1, ?_⟩
    have h3 : (a * 256 + c + 1) * 256 ^ l.length ≤ ((a + 1) * 256) * 256 ^ l.length := Int.mul_le_mul_of_nonneg_right (by omega) (Int.le_of_lt (Int.pow_pos (by decide)))
    rw [List.length_cons, Int.pow_succ, Int.mul_comm (256 ^ l.length) 256, ← Int.mul_assoc]
    exact Int.lt_of_lt_of_le h2 h3
theorem beV_bound {l : List Int} (h : inB l) : 0 ≤ beV l ∧ beV l < 256 ^ l.length := by
  have := beV_acc l 0 h (by decide)
  simpa [beV] using this
/-- Where a reader is: how far, its fault. -/
structure RdS where
  at_ : Int
  fe : Int
  fa : Int
/-- What it takes. -/
def takesR (l : List Int) (s : RdS) (n : Int) (may : Bool) : List Int × RdS :=
  if s.fe = 0 then
    if may = true ∧ 0 ≤ n then
      if (l.length : Int) - s.at_ < n then ([], ⟨s.at_, 7, l.length⟩) else ((l.take (s.at_ + n).toNat).drop s.at_.toNat, ⟨s.at_ + n, 0, s.fa⟩)
    else ([], ⟨s.at_, 2, s.at_⟩)
  else ([], s)
def wideB (w : Int) : Bool := decide (w = 1 ∨ w = 2 ∨ w = 4 ∨ w = 8)
def getR (l : List Int) (s : RdS) (w : Int) : Int × RdS :=
  if beV (takesR l s w (wideB w)).1 < 9223372036854775808 then (beV (takesR l s w (wideB w)).1, (takesR l s w (wideB w)).2)
  else (0, ⟨(takesR l s w (wideB w)).2.at_ - w, 3, (takesR l s w (wideB w)).2.at_ - w⟩)
/-- Its place is in the bytes. -/
def RdS.ok (s : RdS) (l : List Int) : Prop := 0 ≤ s.at_ ∧ s.at_ ≤ l.length
theorem takesR_ok {l : List Int} {s : RdS} (h : s.ok l) (n : Int) (may : Bool) : (takesR l s n may).2.ok l := by
  unfold takesR RdS.ok at *
  split
  · split
    · split
      · exact h
      · dsimp only; omega
    · exact h
  · exact h
theorem takesR_len {l : List Int} {s : RdS} (h : s.ok l) (n : Int) (may : Bool) : (takesR l s n may).1 = [] ∨ (((takesR l s n may).1.length : Int) = n ∧ (takesR l s n may).2 = ⟨s.at_ + n, 0, s.fa⟩ ∧ may = true ∧ s.fe = 0) := by
  unfold takesR RdS.ok at *
  split
  · split
    · split
      · exact .inl rfl
      · rename_i h1 h2 h3
        refine .inr ⟨?_, rfl, h2.1, h1⟩
        simp only [List.length_drop, List.length_take]; omega
    · exact .inl rfl
  · exact .inl rfl
theorem takesR_in {l : List Int} (hl : inB l) (s : RdS) (n : Int) (may : Bool) : inB (takesR l s n may).1 := by
  unfold takesR
  split
  · split
    · split
      · exact inB.nil
      · exact fun x hx => hl x (List.mem_of_mem_take (List.mem_of_mem_drop hx))
    · exact inB.nil
  · exact inB.nil
theorem wideB_le {w : Int} (h : wideB w = true) : 1 ≤ w ∧ w ≤ 8 := by
  have := of_decide_eq_true h
  omega
theorem getR_ok {l : List Int} {s : RdS} (h : s.ok l) (w : Int) : (getR l s w).2.ok l := by
  have h1 := takesR_ok h w (wideB w)
  unfold getR
  split
  · exact h1
  · rename_i hn
    rcases takesR_len h w (wideB w) with e | ⟨_, e, _⟩
    · rw [e] at hn; exact absurd (by decide) hn
    · rw [e]; unfold RdS.ok at *; dsimp only; omega
/-- u64 arithmetic, as numbers. -/
def or64 (p q : Int) : Int := ((BitVec.ofInt 64 p ||| BitVec.ofInt 64 q).toNat : Int)
theorem or64_add {n c : Int} (hn : 0 ≤ n ∧ n < 72057594037927936) (hc : 0 ≤ c ∧ c ≤ 255) : or64 (n * 256) c = n * 256 + c := by
  obtain ⟨a, rfl⟩ := Int.eq_ofNat_of_zero_le hn.1
  obtain ⟨b, rfl⟩ := Int.eq_ofNat_of_zero_le hc.1
  unfold or64
  have e1 : (BitVec.ofInt 64 ((a : Int) * 256)).toNat = 2 ^ 8 * a := by rw [BitVec.toNat_ofInt]; omega
  have e2 : (BitVec.ofInt 64 (b : Int)).toNat = b := by rw [BitVec.toNat_ofInt]; omega
  rw [BitVec.toNat_or, e1, e2, ← Nat.two_pow_add_eq_or_of_lt (by omega)]
  omega
section
variable {P : Program} {E : Env P} {n : Sh} {X : Cx} {s : List K} {fr : Fr} {A A' : List Ch} {ops : Array Oper} {rest : List Oper} {d : Nat} {ty t t' : TypeId} {pos : String} {after : Array Edge} {x y : Operand} {w : World} {p q : Int}
abbrev c64v (m : Int) : Value := .int .u64 m
theorem R_or64 (hx : ev fr x = some (c64v p)) (hy : ev fr y = some (c64v q)) : OpV P n fr (.binOp .or t x y t') ty w (c64v (or64 p q)) w := R_bin hx hy (by
  simp only [binOp, Op.intBits]
  show Result.ok (Value.int .u64 (IntKind.u64.wrap (((BitVec.ofInt 64 p) ||| (BitVec.ofInt 64 q)).toNat : Int))) w = _
  rw [wrap_u64, ofInt_toNat]; rfl)
theorem R_shl8 (hx : ev fr x = some (c64v p)) (hy : ev fr y = some (c64v 8)) (hp : 0 ≤ p ∧ p < 72057594037927936) : OpV P n fr (.binOp .shl t x y t') ty w (c64v (p * 256)) w := ⟨fun a ha _ _ _ _ => by
  have hg : (eqGuard .shl t x y (c64v p) (c64v 8)).run P w = .ok () w := rfl
  have e : IntKind.u64.wrap (p * 2 ^ (min (8 : Int).toNat IntKind.u64.bits)) = p * 256 := by
    rw [show (min (8 : Int).toNat IntKind.u64.bits) = 8 from rfl, show (2 : Int) ^ 8 = 256 from rfl, show IntKind.u64.wrap (p * 256) = (p * 256) % 18446744073709551616 by simp [IntKind.wrap, IntKind.bits, IntKind.signed]]; omega
  simp only [execOp, ha.ev hx, ha.ev hy]
  simp only [hg, Sem.run_bind, Result.andThen_ok]
  show (Result.andThen ((binOp .shl t (.int .u64 p) (.int .u64 8)).run P w) _) = _
  simp only [binOp, Op.shift]
  rw [if_neg (by decide)]
  show Result.ok (Next.value (.int .u64 (IntKind.u64.wrap (p * 2 ^ (min (8 : Int).toNat IntKind.u64.bits))))) w = _
  rw [e]⟩
theorem or6 (k : TO E n X s ops rest ((d, c64v (or64 p q)) :: fr) A) (hx : ev fr x = some (c64v p) := by rfl) (hy : ev fr y = some (c64v q) := by rfl) (hd : Nat.blt d n.n = true := by rfl) : TO E n X s ops (⟨some d, .binOp .or t x y t', ty, pos, after, none⟩ :: rest) fr A := TO.val (fun _ _ => R_or64 hx hy) k hd
theorem sh8 (k : TO E n X s ops rest ((d, c64v (p * 256)) :: fr) A) (hx : ev fr x = some (c64v p) := by rfl) (hy : ev fr y = some (c64v 8) := by rfl) (hp : 0 ≤ p ∧ p < 72057594037927936 := by omega) (hd : Nat.blt d n.n = true := by rfl) : TO E n X s ops (⟨some d, .binOp .shl t x y t', ty, pos, after, none⟩ :: rest) fr A := TO.val (fun _ _ => R_shl8 hx hy hp) k hd
end
attribute [local irreducible] Fit pt own ro vw mpc lpt vels rels mow lrc dfr
attribute [local irreducible] lmp lme mit velg relg
abbrev TRd : TypeId := 132
abbrev TpR : TypeId := 77
abbrev rdP (p : Nat) (bv : Value) (s : RdS) (l : List Int) : List Ch := [pt p [bv, .bool true, I s.at_, I s.fe, I s.fa] TRd, own TyB bv (By l)]
theorem rnone_tr (p : Nat) (bv x y z : Value) : Tr Tryz.prog 73 [ptr p] [lpt p [bv, .bool true, x, y, z] TRd] [] fun v D => v = .bool false ∧ D = [] := by
  refine Tr.enter env _ Tryz.func73 (by kernel_rfl) rfl Tryz.ntmps73 rfl (by repeat (first | exact has00 | refine has01 ?_)) fun w0 => ?_
  repeat' first|(refine wo ?_; first|(refine ao ?_; first|refine ipe ?_)|refine oa ?_|refine ldl ?_|refine gy ?_)|refine sq ?_|refine rg ?_|refine xc ?_|refine nl ?_|refine rt ?_
  exact r1 ⟨rfl, rfl⟩
theorem NewReader_tr (b : Value) (l : List Int) (hl : l.length ≤ 1099511627776) : Tr Tryz.prog 35 [b] [vw b (By l)] [] fun v D => ∃ p bv, v = ptr p ∧ bv.oneCell' = true ∧ D = rdP p bv ⟨0, 0, 0⟩ l := by
  refine Tr.enter env _ Tryz.func35 (by kernel_rfl) rfl Tryz.ntmps35 rfl (by repeat (first | exact has00 | refine has01 ?_)) fun w0 => ?_
  repeat' first|(refine gca ?_; first|(refine ca (Clone_tr b l hl) ?_; rintro o _ ⟨ho, rfl⟩))|refine bdz ?_|refine bdg ?_|refine bx fun p => ?_|(refine wo ?_; first|refine oa ?_)|refine sq ?_|refine rg ?_|refine xc ?_|refine nl ?_|refine rt ?_
  exact r1 ⟨_, o, rfl, ho, rfl⟩
theorem takes_tr (p : Nat) (bv : Value) (s : RdS) (l : List Int) (n : Int) (may : Bool) (hs : s.ok l) (hl : l.length ≤ 1099511627776) : Tr Tryz.prog 71 [ptr p, I n, .bool may] [] (rdP p bv s l)
    fun v D => v.oneCell' = true ∧ D = own TyB v (By (takesR l s n may).1) :: rdP p bv (takesR l s n may).2 l := by
  obtain ⟨a, fe, fa⟩ := s
  unfold RdS.ok at hs
  dsimp only at hs
  refine Tr.enter env _ Tryz.func71 (by kernel_rfl) rfl Tryz.ntmps71 rfl (by repeat (first | exact has00 | refine has01 ?_)) fun w0 => ?_
  refine TC.im (B := [pt p [bv, .bool true, I a, I fe, I fa] TRd, own TyB bv (By l)]) (Im.refl _) ?_
  by_cases hf : fe = 0
  rotate_left
  · rw [show takesR l ⟨a, fe, fa⟩ n may = ([], ⟨a, fe, fa⟩) from if_neg hf]
    repeat' first|(refine gca ?_; first|(refine ca (rnone_tr p bv _ _ _) ?_; rintro _ _ ⟨rfl, rfl⟩))|(refine wo ?_; first|(refine ao ?_; first|refine oa ?_)|refine oa ?_|refine ld ?_|refine gy ?_)|(refine gc ?_; first|(refine cn (fun hB => ?_) (fun hB => ?_) <;> try (exfalso; omega)))|refine sq ?_|refine rg ?_|refine xc ?_|refine nl ?_|refine rt ?_
    refine TX.im (own_nil TyB _) ?_
    exact r1 ⟨rfl, rfl⟩
  subst hf
  by_cases hm : may = true ∧ 0 ≤ n
  rotate_left
  · rw [show takesR l ⟨a, 0, fa⟩ n may = ([], ⟨a, 2, a⟩) by unfold takesR; rw [if_pos rfl, if_neg hm]]
    cases may
    · repeat' first|(refine gca ?_; first|(refine ca (rnone_tr p bv _ _ _) ?_; rintro _ _ ⟨rfl, rfl⟩))|refine bdz ?_|refine srz ?_ (hj := Nat.le_of_ble_eq_true rfl)|(refine wo ?_; first|(refine ao ?_; first|refine oa ?_)|refine oa ?_|refine ld ?_|refine gy ?_|refine gn ?_)|(refine gc ?_; first|refine ct ?_|refine cf ?_)|refine sq ?_|refine rg ?_|refine xc ?_|refine nl ?_|refine sk ?_|refine bk ?_|refine rt ?_|refine xb ?_
      refine TX.im (own_nil TyB _) ?_
      exact r1 ⟨rfl, rfl⟩
    · have hn : n < 0 := by simp at hm; omega
      repeat' first|(refine gca ?_; first|(refine ca (rnone_tr p bv _ _ _) ?_; rintro _ _ ⟨rfl, rfl⟩))|refine bdz ?_|refine srz ?_ (hj := Nat.le_of_ble_eq_true rfl)|(refine wo ?_; first|(refine ao ?_; first|refine oa ?_)|refine oa ?_|refine ld ?_|refine gy ?_)|(refine gc ?_; first|refine cf ?_|(refine ci (fun hB => ?_) (fun hB => ?_) <;> try (exfalso; omega)))|refine sq ?_|refine rg ?_|refine xc ?_|refine nl ?_|refine sk ?_|refine bk ?_|refine rt ?_|refine xb ?_
      refine TX.im (own_nil TyB _) ?_
      exact r1 ⟨rfl, rfl⟩
  obtain ⟨rfl, hn⟩ := hm
  refine TC.fact (p := l.length ≤ 9223372036854775807) (fun w hw => by have := (has_sl hw (v := bv) (xs := By l) (by first | (apply has_vw; (repeat (first | apply List.Mem.head | apply List.Mem.tail)); first | done | fail) | (apply has_own; (repeat (first | apply List.Mem.head | apply List.Mem.tail)); first | done | fail) | (apply has_ro; (repeat (first | apply List.Mem.head | apply List.Mem.tail)); first | done | fail) | apply has_nil | ((with_reducible apply has_el); (focus (first | (apply has_vels; (repeat (first | apply List.Mem.head | apply List.Mem.tail)); first | done | fail) | (apply has_rels; (repeat (first | apply List.Mem.head | apply List.Mem.tail)); first | done | fail))); omega) | (apply has_pt; (repeat (first | apply List.Mem.head | apply List.Mem.tail)); first | done | fail) | (apply has_lpt; (repeat (first | apply List.Mem.head | apply List.Mem.tail)); first | done | fail) | (apply has_vels; (repeat (first | apply List.Mem.head | apply List.Mem.tail)); first | done | fail) | (apply has_rels; (repeat (first | apply List.Mem.head | apply List.Mem.tail)); first | done | fail) | with_reducible assumption | ((with_reducible apply has_elg); (focus (first | (apply has_velg; (repeat (first | apply List.Mem.head | apply List.Mem.tail)); first | done | fail) | (apply has_relg; (repeat (first | apply List.Mem.head | apply List.Mem.tail)); first | done | fail))); omega) | (apply has_velg; (repeat (first | apply List.Mem.head | apply List.Mem.tail)); first | done | fail) | (apply has_relg; (repeat (first | apply List.Mem.head | apply List.Mem.tail)); first | done | fail) | (apply has_vwf; (repeat (first | apply List.Mem.head | apply List.Mem.tail)); first | done | fail))).len; rwa [By_len] at this) fun hln => ?_
  by_cases hsh : (l.length : Int) - a < n
  · rw [show takesR l ⟨a, 0, fa⟩ n true = ([], ⟨a, 7, l.length⟩) by unfold takesR; rw [if_pos rfl, if_pos ⟨rfl, hn⟩, if_pos hsh]]
    repeat' first|(refine gca ?_; first|(refine ca (rnone_tr p bv _ _ _) ?_; rintro _ _ ⟨rfl, rfl⟩))|refine bdz ?_|refine srz ?_ (hj := Nat.le_of_ble_eq_true rfl)|(refine wo ?_; first|(refine ao ?_; first|refine oa ?_)|refine oa ?_|refine ld ?_|refine lnm ?_|refine gy ?_)|(refine gc ?_; first|refine cf ?_|(refine ci (fun hB => ?_) (fun hB => ?_) <;> try (exfalso; omega)))|refine sq ?_|refine rg ?_|refine xc ?_|refine nl ?_|refine sk ?_|refine bk ?_|refine rt ?_|refine xb ?_|refine rq ?_|refine nq ?_|(refine wq ?_; first|(refine qao ?_; first|refine qaw ?_|refine qa ?_)|refine qa ?_|refine qld ?_|refine qlnm ?_)
    refine TX.im (own_nil TyB _) ?_
    exact r1 ⟨rfl, rfl⟩
  · rw [show takesR l ⟨a, 0, fa⟩ n true = ((l.take (a + n).toNat).drop a.toNat, ⟨a + n, 0, fa⟩) by unfold takesR; rw [if_pos rfl, if_pos ⟨rfl, hn⟩, if_neg hsh]]
    have hB := By_len l
    have hsub : ((By l).take (a + n).toNat).drop a.toNat = By ((l.take (a + n).toNat).drop a.toNat) := by simp
    have hlt : ((l.take (a + n).toNat).drop a.toNat).length ≤ 1099511627776 := by simp; omega
    have hh : ∀ F : List Ch, Has F (vw bv (By l)) → Has F (vw (slSub bv a.toNat (a + n).toNat) (By ((l.take (a + n).toNat).drop a.toNat))) := fun F h => by
      rw [← hsub]; exact has_sub h (by omega) (by rw [By_len]; omega)
    repeat' first|(refine gca ?_; first|(refine ca (rnone_tr p bv _ _ _) ?_; rintro _ _ ⟨rfl, rfl⟩))|(refine wo ?_; first|(refine ao ?_; first|refine oa ?_)|refine oa ?_|refine ld ?_|refine gy ?_)|(refine gc ?_; first|refine cf ?_|(refine ci (fun hB => ?_) (fun hB => ?_) <;> try (exfalso; omega)))|refine sq ?_|refine rg ?_|refine xc ?_|refine nl ?_|refine sk ?_|refine bk ?_|refine rs (id := 3) (fun w => w.heap[p]? = some (.cells [bv, .bool true, I a, I 0, I fa].toArray TRd (0, 0)) ∧ Sl w bv (By l)) ?_ (fun w hw => ⟨pt_at (by (repeat (first | apply List.Mem.head | apply List.Mem.tail)); first | done | fail) hw, has_sl hw (by first | (apply has_vw; (repeat (first | apply List.Mem.head | apply List.Mem.tail)); first | done | fail) | (apply has_own; (repeat (first | apply List.Mem.head | apply List.Mem.tail)); first | done | fail) | (apply has_ro; (repeat (first | apply List.Mem.head | apply List.Mem.tail)); first | done | fail) | apply has_nil | ((with_reducible apply has_el); (focus (first | (apply has_vels; (repeat (first | apply List.Mem.head | apply List.Mem.tail)); first | done | fail) | (apply has_rels; (repeat (first | apply List.Mem.head | apply List.Mem.tail)); first | done | fail))); omega) | (apply has_pt; (repeat (first | apply List.Mem.head | apply List.Mem.tail)); first | done | fail) | (apply has_lpt; (repeat (first | apply List.Mem.head | apply List.Mem.tail)); first | done | fail) | (apply has_vels; (repeat (first | apply List.Mem.head | apply List.Mem.tail)); first | done | fail) | (apply has_rels; (repeat (first | apply List.Mem.head | apply List.Mem.tail)); first | done | fail) | with_reducible assumption | ((with_reducible apply has_elg); (focus (first | (apply has_velg; (repeat (first | apply List.Mem.head | apply List.Mem.tail)); first | done | fail) | (apply has_relg; (repeat (first | apply List.Mem.head | apply List.Mem.tail)); first | done | fail))); omega) | (apply has_velg; (repeat (first | apply List.Mem.head | apply List.Mem.tail)); first | done | fail) | (apply has_relg; (repeat (first | apply List.Mem.head | apply List.Mem.tail)); first | done | fail) | (apply has_vwf; (repeat (first | apply List.Mem.head | apply List.Mem.tail)); first | done | fail))⟩)|refine rq ?_|refine nq ?_|(refine wq ?_; first|(refine qao ?_; first|refine qaw ?_|refine qa ?_)|refine qa ?_|refine qld ?_|refine qlnm ?_)
    refine tka 0 ?_
    refine tka 1 ?_
    refine tka 2 ?_
    refine tka 3 ?_
    refine tkl 4 (cs := [bv, .bool true, I a, I 0, I fa]) (fun w h => h.1) ?_
    refine tka 5 ?_
    refine tka 6 ?_
    refine tka 7 ?_
    refine tkl 8 (cs := [bv, .bool true, I a, I 0, I fa]) (fun w h => h.1) ?_
    refine tka 9 ?_
    refine tka 10 ?_
    refine tka 11 ?_
    refine tkl 12 (cs := [bv, .bool true, I a, I 0, I fa]) (fun w h => h.1) ?_
    refine tka 13 ?_
    refine tkw 14 (a + n) ?_
    refine tk 15 (v := slSub bv a.toNat (a + n).toNat) (hi := rfl) (fun w h => by exact R_slice (E := env) rfl rfl rfl rfl rfl h.2 (by rw [By_len]; omega)) ?_
    refine t1 16 ?_
    refine ca (Clone_tr _ ((l.take (a + n).toNat).drop a.toNat) hlt) ?_ (hp := has1 (hh _ (by first | (apply has_vw; (repeat (first | apply List.Mem.head | apply List.Mem.tail)); first | done | fail) | (apply has_own; (repeat (first | apply List.Mem.head | apply List.Mem.tail)); first | done | fail) | (apply has_ro; (repeat (first | apply List.Mem.head | apply List.Mem.tail)); first | done | fail) | apply has_nil | ((with_reducible apply has_el); (focus (first | (apply has_vels; (repeat (first | apply List.Mem.head | apply List.Mem.tail)); first | done | fail) | (apply has_rels; (repeat (first | apply List.Mem.head | apply List.Mem.tail)); first | done | fail))); omega) | (apply has_pt; (repeat (first | apply List.Mem.head | apply List.Mem.tail)); first | done | fail) | (apply has_lpt; (repeat (first | apply List.Mem.head | apply List.Mem.tail)); first | done | fail) | (apply has_vels; (repeat (first | apply List.Mem.head | apply List.Mem.tail)); first | done | fail) | (apply has_rels; (repeat (first | apply List.Mem.head | apply List.Mem.tail)); first | done | fail) | with_reducible assumption | ((with_reducible apply has_elg); (focus (first | (apply has_velg; (repeat (first | apply List.Mem.head | apply List.Mem.tail)); first | done | fail) | (apply has_relg; (repeat (first | apply List.Mem.head | apply List.Mem.tail)); first | done | fail))); omega) | (apply has_velg; (repeat (first | apply List.Mem.head | apply List.Mem.tail)); first | done | fail) | (apply has_relg; (repeat (first | apply List.Mem.head | apply List.Mem.tail)); first | done | fail) | (apply has_vwf; (repeat (first | apply List.Mem.head | apply List.Mem.tail)); first | done | fail))) has0)
    rintro o _ ⟨ho, rfl⟩
    refine nl ?_
    refine te (fun w hw => ⟨pt_at (by (repeat (first | apply List.Mem.head | apply List.Mem.tail)); first | done | fail) hw, has_sl hw (by first | (apply has_vw; (repeat (first | apply List.Mem.head | apply List.Mem.tail)); first | done | fail) | (apply has_own; (repeat (first | apply List.Mem.head | apply List.Mem.tail)); first | done | fail) | (apply has_ro; (repeat (first | apply List.Mem.head | apply List.Mem.tail)); first | done | fail) | apply has_nil | ((with_reducible apply has_el); (focus (first | (apply has_vels; (repeat (first | apply List.Mem.head | apply List.Mem.tail)); first | done | fail) | (apply has_rels; (repeat (first | apply List.Mem.head | apply List.Mem.tail)); first | done | fail))); omega) | (apply has_pt; (repeat (first | apply List.Mem.head | apply List.Mem.tail)); first | done | fail) | (apply has_lpt; (repeat (first | apply List.Mem.head | apply List.Mem.tail)); first | done | fail) | (apply has_vels; (repeat (first | apply List.Mem.head | apply List.Mem.tail)); first | done | fail) | (apply has_rels; (repeat (first | apply List.Mem.head | apply List.Mem.tail)); first | done | fail) | with_reducible assumption | ((with_reducible apply has_elg); (focus (first | (apply has_velg; (repeat (first | apply List.Mem.head | apply List.Mem.tail)); first | done | fail) | (apply has_relg; (repeat (first | apply List.Mem.head | apply List.Mem.tail)); first | done | fail))); omega) | (apply has_velg; (repeat (first | apply List.Mem.head | apply List.Mem.tail)); first | done | fail) | (apply has_relg; (repeat (first | apply List.Mem.head | apply List.Mem.tail)); first | done | fail) | (apply has_vwf; (repeat (first | apply List.Mem.head | apply List.Mem.tail)); first | done | fail))⟩) ?_
    refine tka 17 ?_
    refine t0 ?_
    repeat' first|(refine wo ?_; first|(refine ao ?_; first|refine aw ?_)|refine oa ?_|refine ld ?_|refine sr ?_)|refine sq ?_|refine rg ?_|refine xc ?_|refine nl ?_|refine rt ?_|refine xb ?_
    exact r1 ⟨ho, rfl⟩
theorem width_tr (n : Int) : Tr Tryz.prog 72 [I n] [] [] fun v D => v = .bool (wideB n) ∧ D = [] := by
  refine Tr.enter env _ Tryz.func72 (by kernel_rfl) rfl Tryz.ntmps72 rfl (by repeat (first | exact has00 | refine has01 ?_)) fun w0 => ?_
  repeat' first|(refine wo ?_; first|(refine ao ?_; first|refine oa ?_)|refine oa ?_|refine gy ?_|refine gn ?_|(refine gsi (fun hB => ?_) (fun hB => ?_) <;> try (exfalso; omega)))|refine sq ?_|refine rg ?_|refine xc ?_|refine nl ?_|refine rt ?_
  all_goals refine r1 ⟨?_, rfl⟩
  all_goals unfold wideB
  all_goals first
    | rw [decide_eq_true (show n = 1 ∨ n = 2 ∨ n = 4 ∨ n = 8 by omega)]
    | (congr 1; exact decide_eq_decide.2 ⟨fun h => by omega, fun h => by omega⟩)
theorem beV_lt7 {m : List Int} (h : inB m) (hl : m.length ≤ 7) : 0 ≤ beV m ∧ beV m < 72057594037927936 := by
  have h1 := beV_bound h
  have h2 : m.length = 0 ∨ m.length = 1 ∨ m.length = 2 ∨ m.length = 3 ∨ m.length = 4 ∨ m.length = 5 ∨ m.length = 6 ∨ m.length = 7 := by omega
  rcases h2 with e | e | e | e | e | e | e | e <;> rw [e] at h1 <;> omega
theorem beV_lt8 {m : List Int} (h : inB m) (hl : m.length ≤ 8) : 0 ≤ beV m ∧ beV m < 18446744073709551616 := by
  rcases Nat.lt_or_ge m.length 8 with h7 | h8
  · have := beV_lt7 h (by omega); omega
  · have h1 := beV_bound h
    rw [show m.length = 8 by omega] at h1
    omega
set_option maxRecDepth 4000 in
theorem Get_tr (p : Nat) (bv : Value) (s : RdS) (l : List Int) (n : Int) (hs : s.ok l) (hl : l.length ≤ 1099511627776) (hin : inB l) : Tr Tryz.prog 36 [ptr p, I n] [] (rdP p bv s l)
    fun v D => v = I (getR l s n).1 ∧ D = rdP p bv (getR l s n).2 l := by
  have hT := takes_tr p bv s l n (wideB n) hs hl
  have hok := takesR_ok hs n (wideB n)
  have hlen := takesR_len hs n (wideB n)
  have hmi := takesR_in hin s n (wideB n)
  have hm8 : (takesR l s n (wideB n)).1.length ≤ 8 := by
    rcases hlen with h | ⟨h1, _, h2, _⟩
    · rw [h]; simp
    · have := wideB_le h2; omega
  have hn8 : (takesR l s n (wideB n)).1 = [] ∨ (1 ≤ n ∧ n ≤ 8) := by
    rcases hlen with h | ⟨h1, _, h2, _⟩
    · exact .inl h
    · exact .inr (wideB_le h2)
  unfold getR
  clear hlen
  generalize takesR l s n (wideB n) = T at *
  obtain ⟨m, a, fe, fa⟩ := T
  unfold RdS.ok at hok
  dsimp only at hT hok hmi hm8 hn8 ⊢
  refine Tr.enter env _ Tryz.func36 (by kernel_rfl) rfl Tryz.ntmps36 rfl (by repeat (first | exact has00 | refine has01 ?_)) fun w0 => ?_
  refine TC.im (B := rdP p bv s l) (Im.refl _) ?_
  repeat' first|(refine gca ?_; first|(refine ca (width_tr n) ?_; rintro _ _ ⟨rfl, rfl⟩)|(refine ca hT ?_; rintro v _ ⟨hv, rfl⟩))|(refine wo ?_; first|refine oa ?_|refine lnm ?_)|refine sq ?_|refine rg ?_|refine xc ?_|refine nl ?_|refine bk ?_
  refine TC.loop (ι := Nat) (fun i => [(14, I i), (5, c64v (beV (m.take i)))]) (fun i => [own TyB v (By m), pt p [bv, .bool true, I a, I fe, I fa] TRd, own TyB bv (By l)]) (fun i => i ≤ m.length) (fun i => m.length - i) 0 [0, 1, 12, 13] (by omega) ?_
  intro i hi
  by_cases h : i < m.length
  · have ht : beV (m.take (i + 1)) = beV (m.take i) * 256 + m.getD i 0 := by rw [take_succ' h 0, beV_snoc]
    have h7 := beV_lt7 (m := m.take i) (fun x hx => hmi x (List.mem_of_mem_take hx)) (by simp; omega)
    have hc := hmi _ (mem_getD.2 ⟨i, h, rfl⟩)
    have ho := or64_add h7 hc
    generalize hx2 : beV (m.take (i + 1)) = x2 at *
    generalize beV (m.take i) = x1 at *
    generalize hcc : m.getD i 0 = c at *
    repeat' first|refine sh8 ?_|refine or6 ?_|refine ucv ?_|(refine wo ?_; first|(refine ao ?_; first|refine aw ?_|refine oa ?_)|refine oa ?_|refine ixmn ?_|refine lb ?_)|(refine gc ?_; first|(refine ci (fun hB => ?_) (fun hB => ?_) <;> try (exfalso; omega)))|refine sq ?_|refine rg ?_|refine xc ?_|refine nl ?_|refine sk ?_|refine bk ?_|refine xb ?_
    rw [hcc, ho]
    skip
    exact lp (i + 1) (by omega) (hs := by rw [hx2, ht]; (repeat (refine Sub.cons rfl (by first | rfl | go_num) ?_)); exact Sub.nil)
  · have hml : m.take i = m := List.take_of_length_le (by omega)
    have h8 := beV_lt8 hmi hm8
    rw [hml]
    by_cases hbig : beV m < 9223372036854775808
    · rw [if_pos hbig]
      repeat' first|(refine wo ?_; first|(refine ao ?_; first|refine oa ?_)|refine acw ?_|refine oa ?_)|(refine gc ?_; first|(refine ci (fun hB => ?_) (fun hB => ?_) <;> try (exfalso; omega)))|refine sq ?_|refine rg ?_|refine xc ?_|refine nl ?_|refine sk ?_|refine xe ?_|refine rt ?_
      exact r1 ⟨rfl, rfl⟩
    · rw [if_neg hbig]
      have hn9 : 1 ≤ n ∧ n ≤ 8 := by
        rcases hn8 with e | e
        · rw [e] at hbig; exact absurd (by decide) hbig
        · exact e
      repeat' first|refine bdz ?_|refine srz ?_ (hj := Nat.le_of_ble_eq_true rfl)|(refine wo ?_; first|(refine ao ?_; first|refine aw ?_|refine oa ?_)|refine oa ?_|refine ld ?_|refine sr ?_)|(refine gc ?_; first|(refine ci (fun hB => ?_) (fun hB => ?_) <;> try (exfalso; omega)))|refine sq ?_|refine rg ?_|refine xc ?_|refine nl ?_|refine xe ?_|refine rt ?_
      exact r1 ⟨rfl, rfl⟩
theorem RRaw_tr (p : Nat) (bv : Value) (s : RdS) (l : List Int) (n : Int) (hs : s.ok l) (hl : l.length ≤ 1099511627776) : Tr Tryz.prog 40 [ptr p, I n] [] (rdP p bv s l)
    fun v D => v.oneCell' = true ∧ D = own TyB v (By (takesR l s n true).1) :: rdP p bv (takesR l s n true).2 l := by
  refine Tr.enter env _ Tryz.func40 (by kernel_rfl) rfl Tryz.ntmps40 rfl (by repeat (first | exact has00 | refine has01 ?_)) fun w0 => ?_
  refine TC.im (B := rdP p bv s l) (Im.refl _) ?_
  repeat' first|(refine gca ?_; first|(refine ca (takes_tr p bv s l n true hs hl) ?_; rintro v _ ⟨hv, rfl⟩))|(refine wo ?_; first|refine oa ?_)|refine sq ?_|refine rg ?_|refine xc ?_|refine nl ?_|refine rt ?_
  exact r1 ⟨hv, rfl⟩
def restR (l : List Int) (s : RdS) : Int := if s.fe = 0 then l.length - s.at_ else 0
theorem Rest_tr (p : Nat) (bv : Value) (s : RdS) (l : List Int) (hs : s.ok l) : Tr Tryz.prog 41 [ptr p] [lpt p [bv, .bool true, I s.at_, I s.fe, I s.fa] TRd, vw bv (By l)] [] fun v D => v = I (restR l s) ∧ D = [] := by
  obtain ⟨a, fe, fa⟩ := s
  unfold RdS.ok at hs
  dsimp only at hs ⊢
  refine Tr.enter env _ Tryz.func41 (by kernel_rfl) rfl Tryz.ntmps41 rfl (by repeat (first | exact has00 | refine has01 ?_)) fun w0 => ?_
  refine TC.fact (p := l.length ≤ 9223372036854775807) (fun w hw => by have := (has_sl hw (v := bv) (xs := By l) (by first | (apply has_vw; (repeat (first | apply List.Mem.head | apply List.Mem.tail)); first | done | fail) | (apply has_own; (repeat (first | apply List.Mem.head | apply List.Mem.tail)); first | done | fail) | (apply has_ro; (repeat (first | apply List.Mem.head | apply List.Mem.tail)); first | done | fail) | apply has_nil | ((with_reducible apply has_el); (focus (first | (apply has_vels; (repeat (first | apply List.Mem.head | apply List.Mem.tail)); first | done | fail) | (apply has_rels; (repeat (first | apply List.Mem.head | apply List.Mem.tail)); first | done | fail))); omega) | (apply has_pt; (repeat (first | apply List.Mem.head | apply List.Mem.tail)); first | done | fail) | (apply has_lpt; (repeat (first | apply List.Mem.head | apply List.Mem.tail)); first | done | fail) | (apply has_vels; (repeat (first | apply List.Mem.head | apply List.Mem.tail)); first | done | fail) | (apply has_rels; (repeat (first | apply List.Mem.head | apply List.Mem.tail)); first | done | fail) | with_reducible assumption | ((with_reducible apply has_elg); (focus (first | (apply has_velg; (repeat (first | apply List.Mem.head | apply List.Mem.tail)); first | done | fail) | (apply has_relg; (repeat (first | apply List.Mem.head | apply List.Mem.tail)); first | done | fail))); omega) | (apply has_velg; (repeat (first | apply List.Mem.head | apply List.Mem.tail)); first | done | fail) | (apply has_relg; (repeat (first | apply List.Mem.head | apply List.Mem.tail)); first | done | fail) | (apply has_vwf; (repeat (first | apply List.Mem.head | apply List.Mem.tail)); first | done | fail))).len; rwa [By_len] at this) fun hln => ?_
  repeat' first|(refine gca ?_; first|(refine ca (rnone_tr p bv _ _ _) ?_; rintro _ _ ⟨rfl, rfl⟩))|(refine wo ?_; first|(refine ao ?_; first|refine oa ?_)|refine oa ?_|refine ldl ?_|refine gy ?_)|(refine gc ?_; first|(refine cn (fun hB => ?_) (fun hB => ?_) <;> try (exfalso; omega)))|refine sq ?_|refine rg ?_|refine xc ?_|refine nl ?_|refine sk ?_|refine rt ?_|refine rq ?_|refine nq ?_|(refine wq ?_; first|(refine qao ?_; first|refine qaw ?_)|refine qa ?_|refine qldl ?_|refine qlnm ?_)
  · rw [show restR l ⟨a, fe, fa⟩ = 0 from if_neg (by assumption)]
    exact r1 ⟨rfl, rfl⟩
  · rw [show restR l ⟨a, fe, fa⟩ = l.length - a from if_pos (by assumption)]
    exact r1 ⟨rfl, rfl⟩
def endR (l : List Int) (s : RdS) : Int × Int := if s.fe = 0 ∧ s.at_ < l.length then (4, s.at_) else (s.fe, s.fa)
theorem End_tr (p : Nat) (bv : Value) (s : RdS) (l : List Int) (hs : s.ok l) : Tr Tryz.prog 42 [ptr p] [lpt p [bv, .bool true, I s.at_, I s.fe, I s.fa] TRd, vw bv (By l)] [] fun v D => v = .agg #[I (endR l s).1, I (endR l s).2] ∧ D = [] := by
  obtain ⟨a, fe, fa⟩ := s
  unfold RdS.ok at hs
  dsimp only at hs ⊢
  refine Tr.enter env _ Tryz.func42 (by kernel_rfl) rfl Tryz.ntmps42 rfl (by repeat (first | exact has00 | refine has01 ?_)) fun w0 => ?_
  refine TC.fact (p := l.length ≤ 9223372036854775807) (fun w hw => by have := (has_sl hw (v := bv) (xs := By l) (by first | (apply has_vw; (repeat (first | apply List.Mem.head | apply List.Mem.tail)); first | done | fail) | (apply has_own; (repeat (first | apply List.Mem.head | apply List.Mem.tail)); first | done | fail) | (apply has_ro; (repeat (first | apply List.Mem.head | apply List.Mem.tail)); first | done | fail) | apply has_nil | ((with_reducible apply has_el); (focus (first | (apply has_vels; (repeat (first | apply List.Mem.head | apply List.Mem.tail)); first | done | fail) | (apply has_rels; (repeat (first | apply List.Mem.head | apply List.Mem.tail)); first | done | fail))); omega) | (apply has_pt; (repeat (first | apply List.Mem.head | apply List.Mem.tail)); first | done | fail) | (apply has_lpt; (repeat (first | apply List.Mem.head | apply List.Mem.tail)); first | done | fail) | (apply has_vels; (repeat (first | apply List.Mem.head | apply List.Mem.tail)); first | done | fail) | (apply has_rels; (repeat (first | apply List.Mem.head | apply List.Mem.tail)); first | done | fail) | with_reducible assumption | ((with_reducible apply has_elg); (focus (first | (apply has_velg; (repeat (first | apply List.Mem.head | apply List.Mem.tail)); first | done | fail) | (apply has_relg; (repeat (first | apply List.Mem.head | apply List.Mem.tail)); first | done | fail))); omega) | (apply has_velg; (repeat (first | apply List.Mem.head | apply List.Mem.tail)); first | done | fail) | (apply has_relg; (repeat (first | apply List.Mem.head | apply List.Mem.tail)); first | done | fail) | (apply has_vwf; (repeat (first | apply List.Mem.head | apply List.Mem.tail)); first | done | fail))).len; rwa [By_len] at this) fun hln => ?_
  repeat' first|(refine gca ?_; first|(refine ca (rnone_tr p bv _ _ _) ?_; rintro _ _ ⟨rfl, rfl⟩))|refine bdz ?_|refine srz ?_ (hj := Nat.le_of_ble_eq_true rfl)|refine al fun q => ?_|refine ldla ?_|(refine wo ?_; first|refine oa ?_|refine ldl ?_)|(refine gc ?_; first|refine cf ?_|(refine ci (fun hB => ?_) (fun hB => ?_) <;> try (exfalso; omega)))|refine sq ?_|refine rg ?_|refine xc ?_|refine nl ?_|refine sk ?_|refine bk ?_|refine rt ?_|refine xb ?_|refine rq ?_|refine nq ?_|(refine wq ?_; first|(refine qao ?_; first|refine qa ?_)|refine qa ?_|refine qldl ?_|refine qlnm ?_|refine qgy ?_|refine qgn ?_|(refine qgsi (fun hB => ?_) (fun hB => ?_) <;> try (exfalso; omega)))
  · rw [show endR l ⟨a, fe, fa⟩ = (4, a) from if_pos (by dsimp only; omega)]
    exact rca1 (vs := [I 4, I a]) ⟨rfl, rfl⟩
  · rw [show endR l ⟨a, fe, fa⟩ = (fe, fa) from if_neg (by dsimp only; omega)]
    exact rca1 (vs := [I fe, I fa]) ⟨rfl, rfl⟩
  · rw [show endR l ⟨a, fe, fa⟩ = (fe, fa) from if_neg (by dsimp only; omega)]
    exact rca1 (vs := [I fe, I fa]) ⟨rfl, rfl⟩
end Go.Art
set_option linter.unusedSimpArgs false
set_option linter.unusedVariables false
namespace Go.Art
open Go Go.Proofs Go.RowKit

section
variable {P : Program} {E : Env P} {n : Sh} {X : Cx} {s : List K} {fr : Fr} {A : List Ch} {ops : Array Oper} {rest : List Oper} {d : Nat} {ty t t' : TypeId} {pos : String} {after : Array Edge} {x y : Operand} {w : World} {a b c e : Int} {f0 f1 : Field}
theorem run_part1 {cs : Array Value} {tt : TypeId} {k : IntKind} {i : Nat} {v : Value} (h : P.underlying tt = some (.int k)) (hv : cs[i]? = some v) : (part tt cs i).run P w = .ok v w := by
  simp [part, isAgg, run_underlying h, hv]
theorem run_eqI (m : Nat) {tt : TypeId} {k : IntKind} (h : P.underlying tt = some (.int k)) (a c : Int) : (Op.equalIn (m + 1) tt (I a) (I c)).run P w = .ok (a == c) w := by
  simp [Op.equalIn, run_underlying h]
theorem run_eq2 {k0 k1 : IntKind} (ht : P.underlying t = some (.struct #[f0, f1])) (h0 : P.underlying f0.type = some (.int k0)) (h1 : P.underlying f1.type = some (.int k1)) (hn0 : f0.name ≠ "_") (hn1 : f1.name ≠ "_") (ho0 : f0.offset = 0) (ho1 : f1.offset = 1) (hs : P.stoodInHeld t = false) :
    (Op.equal t (.agg #[I a, I b]) (.agg #[I c, I e])).run P w = .ok (decide (a = c ∧ b = e)) w := by
  show (Op.equalIn (9998 + 1 + 1) t (.agg #[I a, I b]) (.agg #[I c, I e])).run P w = _
  rw [Op.equalIn]
  have e1 : ∀ m : Nat, (Op.equalIn (m + 1) f0.type (I a) (I c)).run P w = .ok (a == c) w := fun m => run_eqI m h0 a c
  have e2 : ∀ m : Nat, (Op.equalIn (m + 1) f1.type (I b) (I e)).run P w = .ok (b == e) w := fun m => run_eqI m h1 b e
  have p1 : (part f0.type #[I a, I b] 0).run P w = .ok (I a) w := run_part1 h0 rfl
  have p2 : (part f0.type #[I c, I e] 0).run P w = .ok (I c) w := run_part1 h0 rfl
  have p3 : (part f1.type #[I a, I b] 1).run P w = .ok (I b) w := run_part1 h1 rfl
  have p4 : (part f1.type #[I c, I e] 1).run P w = .ok (I e) w := run_part1 h1 rfl
  have hp : (program : Sem Program).run P w = .ok P w := rfl
  have g1 := e1 9998
  have g2 := e2 9998
  simp only [Nat.reduceAdd] at g1 g2
  simp [run_underlying ht, Sem.run_bind, hp, hs, hn0, hn1, ho0, ho1, p1, p2, p3, p4, g1, g2]
  by_cases c1 : a = c
  · by_cases c2 : b = e
    · simp [c1, c2]
    · simp [c1, c2]
  · simp [c1]
theorem R_ne2 {k0 k1 : IntKind} (ht : lk E.und t = some (.struct #[f0, f1])) (h0 : lk E.und f0.type = some (.int k0)) (h1 : lk E.und f1.type = some (.int k1)) (hn0 : f0.name ≠ "_") (hn1 : f1.name ≠ "_") (ho0 : f0.offset = 0) (ho1 : f1.offset = 1) (hs : P.stoodInHeld t = false) (hg : P.eqGuardType P.depth t = false)
    (hx : ev fr x = some (.agg #[I a, I b])) (hy : ev fr y = some (.agg #[I c, I e])) : OpV P n fr (.binOp .neq t x y t') ty w (.bool (!decide (a = c ∧ b = e))) w := ⟨fun ac ha _ _ _ _ => by
  have hp : (program : Sem Program).run P w = .ok P w := rfl
  have hg' : (eqGuard .neq t x y (.agg #[I a, I b]) (.agg #[I c, I e])).run P w = .ok () w := by
    unfold eqGuard
    simp [Sem.run_bind, hp, hg]
  have he := run_eq2 (P := P) (w := w) (a := a) (b := b) (c := c) (e := e) (E.un ht) (E.un h0) (E.un h1) hn0 hn1 ho0 ho1 hs
  simp only [execOp, ha.ev hx, ha.ev hy]
  simp [hg', binOp, he]⟩
end
end Go.Art
set_option linter.unusedSimpArgs false
set_option linter.unusedVariables false
namespace Go.Art
open Go Go.Proofs Go.RowKit

section
variable {P : Program} {E : Env P} {n : Sh} {X : Cx} {s : List K} {fr : Fr} {A : List Ch} {a b : Code}
/-- What comes behind is shown once, from what stays, whatever was made; where the rest already waits. -/
theorem cutK {ι : Type} (p : ι → Prop) (fr' : ι → Fr) (B : ι → List Ch) (hb : ∀ i, p i → TC E n X s b (fr' i) (B i)) (ha : (∀ i, p i → ∀ fr2 A2, Sub (fr' i) fr2 → ∀ {G}, Fit A2 (B i) G → TC E n X s b fr2 A2) → TC E n X (.code b :: s) a fr A) : TC E n X (.code b :: s) a fr A :=
  ha fun i hp fr2 A2 hs _ hf => ⟨fun w hw => SC_sub (fr' i) hs ((hb i hp).run w ((hw.im hf).im (Im.drop _ _)))⟩
/-- .. and the rest is out of sight meanwhile. -/
theorem sq_cutY {ι : Type} (p : ι → Prop) (fr' : ι → Fr) (B : ι → List Ch) (hb : ∀ i, p i → TC E n X s b (fr' i) (B i)) (ha : ∀ b' : Code, (∀ i, p i → ∀ fr2 A2, Sub (fr' i) fr2 → ∀ {G}, Fit A2 (B i) G → TC E n X s b' fr2 A2) → TC E n X (.code b' :: s) a fr A) : TC E n X s (.seq a b) fr A :=
  sq (ha b fun i hp fr2 A2 hs _ hf => ⟨fun w hw => SC_sub (fr' i) hs ((hb i hp).run w ((hw.im hf).im (Im.drop _ _)))⟩)
theorem cutY {ι : Type} (p : ι → Prop) (fr' : ι → Fr) (B : ι → List Ch) (hb : ∀ i, p i → TC E n X s b (fr' i) (B i)) (ha : ∀ b' : Code, (∀ i, p i → ∀ fr2 A2, Sub (fr' i) fr2 → ∀ {G}, Fit A2 (B i) G → TC E n X s b' fr2 A2) → TC E n X (.code b' :: s) a fr A) : TC E n X (.code b :: s) a fr A :=
  ha b fun i hp fr2 A2 hs _ hf => ⟨fun w hw => SC_sub (fr' i) hs ((hb i hp).run w ((hw.im hf).im (Im.drop _ _)))⟩
end
structure PkS where
  kd : Int
  sn : Int
  bn : Int
  pn : Int
  rn : Int
  l : List Int
def PkS.zero : PkS := ⟨0, 0, 0, 0, 0, []⟩
def rs0 : RdS := ⟨0, 0, 0⟩
def gk (B : List Int) : Int × RdS := getR B rs0 1
def gs_ (B : List Int) : Int × RdS := getR B (gk B).2 4
def gIf (b : Bool) (B : List Int) (s : RdS) (w : Int) : Int × RdS := bif b then getR B s w else (0, s)
def gb (B : List Int) : Int × RdS := gIf (frmB (gk B).1) B (gs_ B).2 4
def gp (B : List Int) : Int × RdS := gIf (frmB (gk B).1 && frmD (gk B).1) B (gb B).2 4
def gr (B : List Int) : Int × RdS := gIf (decide (0 < frmR (gk B).1)) B (gp B).2 1
def gd (B : List Int) : List Int × RdS := bif frmD (gk B).1 then takesR B (gr B).2 (restR B (gr B).2) true else ([], (gr B).2)
def gAll (B : List Int) : PkS := ⟨(gk B).1, (gs_ B).1, (gb B).1, (gp B).1, (gr B).1, (gd B).1⟩
/-- What Get makes of a body; of bytes. -/
def bodyR (B : List Int) : PkS × Int := if 1 ≤ (gk B).1 ∧ (gk B).1 ≤ 5 then
    if endR B (gd B).2 = (0, 0) ∧ pkOk (gk B).1 (gs_ B).1 (gb B).1 (gp B).1 (gr B).1 (gd B).1.length then (gAll B, 0) else (PkS.zero, 6)
  else (PkS.zero, 6)
def pgetR (l : List Int) : PkS × Int := if (openR l).2 = 0 then bodyR (openR l).1 else (PkS.zero, (openR l).2)
theorem rs0_ok (B : List Int) : rs0.ok B := ⟨Int.le_refl _, by show (0 : Int) ≤ _; omega⟩
theorem gIf_ok {B : List Int} {s : RdS} (h : s.ok B) (b : Bool) (w : Int) : (gIf b B s w).2.ok B := by
  unfold gIf; cases b
  · exact h
  · exact getR_ok h w
theorem gk_ok (B : List Int) : (gk B).2.ok B := getR_ok (rs0_ok B) 1
theorem gs_ok (B : List Int) : (gs_ B).2.ok B := getR_ok (gk_ok B) 4
theorem gb_ok (B : List Int) : (gb B).2.ok B := gIf_ok (gs_ok B) _ 4
theorem gp_ok (B : List Int) : (gp B).2.ok B := gIf_ok (gb_ok B) _ 4
theorem gr_ok (B : List Int) : (gr B).2.ok B := gIf_ok (gp_ok B) _ 1
theorem gd_ok (B : List Int) : (gd B).2.ok B := by
  unfold gd; cases frmD (gk B).1
  · exact gr_ok B
  · exact takesR_ok (gr_ok B) _ _
attribute [local irreducible] Fit pt own ro vw mpc lpt vels rels mow lrc dfr
attribute [local irreducible] lmp lme mit velg relg
theorem take_tr (p q t j : Nat) (b : Bool) (bv : Value) (s : RdS) (B : List Int) (cs : List Value) (w : Int) (hj : j < cs.length) (h0 : b = false → cs.set j (I 0) = cs) (hs : s.ok B) (hl : B.length ≤ 1099511627776) (hin : inB B) :
    Tr Tryz.prog 39 [.bool b, I w, .pointer (some ⟨q, j, none⟩), ptr t] [lpt t [ptr p] TpR] (pt q cs TPk :: rdP p bv s B) fun _ D => D = pt q (cs.set j (I (gIf b B s w).1)) TPk :: rdP p bv (gIf b B s w).2 B := by
  refine Tr.enter env _ Tryz.func39 (by kernel_rfl) rfl Tryz.ntmps39 rfl (by repeat (first | exact has00 | refine has01 ?_)) fun w0 => ?_
  refine TC.im (B := lpt t [ptr p] TpR :: pt q cs TPk :: rdP p bv s B) (Im.refl _) ?_
  cases b
  · unfold gIf
    rw [cond_false]
    dsimp only
    rw [h0 rfl]
    repeat' first|(refine wo ?_; first|refine oa ?_)|(refine gc ?_; first|refine cf ?_)|refine sq ?_|refine rg ?_|refine xc ?_|refine nl ?_|refine sk ?_
    exact e0 rfl
  · unfold gIf
    rw [cond_true]
    repeat' first|(refine gca ?_; first|(refine ca (Get_tr p bv s B w hs hl hin) ?_; rintro _ _ ⟨rfl, rfl⟩))|(refine wo ?_; first|refine oa ?_|refine ldl ?_)|(refine gc ?_; first|refine ct ?_)|refine sq ?_|refine rg ?_|refine xc ?_|refine nl ?_
    refine sr (b := q) (j := j) (cs := cs) (cs' := cs.set j (I (getR B s w).1)) (T := TPk) (v := I (getR B s w).1) ?_ (hs := SetAt.of _ _ _ hj)
    repeat' first|refine nl ?_
    exact e0 rfl
set_option maxHeartbeats 2000000 in
theorem PGet_tr (b : Value) (l : List Int) (hl : l.length ≤ 1099511627776) (hin : inB l) : Tr Tryz.prog 12 [b] [vw b (By l)] []
    fun v D => ∃ dv, v = tup2 (.agg #[I (pgetR l).1.kd, I (pgetR l).1.sn, I (pgetR l).1.bn, I (pgetR l).1.pn, I (pgetR l).1.rn, dv]) (I (pgetR l).2) ∧ dv.oneCell' = true ∧ D = [own TyB dv (By (pgetR l).1.l)] := by
  have hO := Open_tr b l hl
  have hBl : (openR l).1.length ≤ 1099511627776 := by unfold openR; split <;> (try split) <;> simp <;> omega
  have hBi : inB (openR l).1 := by
    unfold openR; split
    · exact inB.nil
    · split
      · exact fun x hx => hin x (List.mem_of_mem_take hx)
      · exact inB.nil
  unfold pgetR
  generalize openR l = O at *
  obtain ⟨B, oe⟩ := O
  dsimp only at hO hBl hBi ⊢
  refine Tr.enter env _ Tryz.func12 (by kernel_rfl) rfl Tryz.ntmps12 rfl (by repeat (first | exact has00 | refine has01 ?_)) fun w0 => ?_
  by_cases he : oe = 0
  rotate_left
  · rw [if_neg he]
    repeat' first|(refine gca ?_; first|(refine ca hO ?_; rintro _ _ ⟨o, rfl, ho, rfl⟩))|refine al fun z => ?_|refine bdz ?_|refine srz ?_|(refine wo ?_; first|(refine ao ?_; first|refine oa ?_)|refine oa ?_)|(refine gc ?_; first|(refine cn (fun hB => ?_) (fun hB => ?_) <;> try (exfalso; omega)))|refine sq ?_|refine rg ?_|refine xc ?_|refine nl ?_|refine rt ?_
    refine TX.im (own_nil TyB _) ?_
    exact rca (vs := [I 0, I 0, I 0, I 0, I 0, nS]) ⟨nS, rfl, rfl, rfl⟩
  subst he
  rw [if_pos rfl]
  have G1 := fun p bv => Get_tr p bv rs0 B 1 (rs0_ok B) hBl hBi
  have G2 := fun p bv => Get_tr p bv (gk B).2 B 4 (gk_ok B) hBl hBi
  repeat' first|(refine gca ?_; first|(refine ca hO ?_; rintro _ _ ⟨o, rfl, ho, rfl⟩)|(refine ca (NewReader_tr o B hBl) ?_; rintro _ _ ⟨p, bv, rfl, hbv, rfl⟩))|refine al fun z => ?_|(refine wo ?_; first|(refine ao ?_; first|refine oa ?_)|refine oa ?_|refine sr ?_)|(refine gc ?_; first|refine cf ?_)|refine sq ?_|refine rg ?_|refine xc ?_|refine nl ?_|refine sk ?_
  rename_i zr
  replace G1 := G1 p bv
  replace G2 := G2 p bv
  refine cutK (a := .region 5 _ _) (ι := Nat) (fun _ => True) (fun q => [(2, ptr zr), (3, I 0), (6, ptr z), (7, ptr q)]) (fun q => [pt zr [I 0, I 0, I 0, I 0, I 0, nS] TPk, pt z [ptr p] TpR, pt q [I (gk B).1, I (gs_ B).1, I 0, I 0, I 0, nS] TPk, pt p [bv, .bool true, I (gs_ B).2.at_, I (gs_ B).2.fe, I (gs_ B).2.fa] TRd, own TyB bv (By B)]) ?_ (fun kb => ?_)
  rotate_left
  · refine rs (id := 5) (fun w => w.heap[z]? = some (.cells [ptr p].toArray TpR (0, 0))) ?_ (fun w hw => pt_at (by (repeat (first | apply List.Mem.head | apply List.Mem.tail)); first | done | fail) hw)
    refine tkl 0 (cs := [ptr p]) (fun w h => h) ?_
    refine tkl 2 (cs := [ptr p]) (fun w h => h) ?_
    refine t2 1 5 ?_ ?_
    · refine ca G1 ?_
      rintro _ _ ⟨rfl, rfl⟩
      refine nl ?_
      refine te (fun w hw => pt_at (by (repeat (first | apply List.Mem.head | apply List.Mem.tail)); first | done | fail) hw) ?_
      refine t2 3 5 ?_ ?_
      · refine ca G2 ?_
        rintro _ _ ⟨rfl, rfl⟩
        refine nl ?_
        refine te (fun w hw => pt_at (by (repeat (first | apply List.Mem.head | apply List.Mem.tail)); first | done | fail) hw) ?_
        refine t2 4 5 ?_ ?_
        · refine bdz ?_
          refine nl ?_
          refine te (fun w hw => pt_at (by (repeat (first | apply List.Mem.head | apply List.Mem.tail)); first | done | fail) hw) ?_
          refine t1 5 ?_
          refine al fun q => ?_
          refine nl ?_
          refine te (fun w hw => pt_at (by (repeat (first | apply List.Mem.head | apply List.Mem.tail)); first | done | fail) hw) ?_
          refine t1 6 ?_
          refine srz ?_
          refine nl ?_
          refine te (fun w hw => pt_at (by (repeat (first | apply List.Mem.head | apply List.Mem.tail)); first | done | fail) hw) ?_
          refine t0 ?_
          refine xc ?_
          exact kb q trivial _ _ (by (repeat (refine Sub.cons rfl (by first | rfl | go_num) ?_)); exact Sub.nil) (by first | apply Fit.all | ((repeat (first | (apply Fit.nilN; (repeat (first | apply nrm_nil | apply nrm_cons)); try apply nrm_rfl) | (apply Fit.cons; focus ((repeat (first | apply Tk.here | apply Tk.there)); first | done | fail)))); first | done | fail))
        · refine al fun q => ?_
          refine nl ?_
          refine te (fun w hw => pt_at (by (repeat (first | apply List.Mem.head | apply List.Mem.tail)); first | done | fail) hw) ?_
          refine t1 4 ?_
          refine bdz ?_
          refine nl ?_
          refine te (fun w hw => pt_at (by (repeat (first | apply List.Mem.head | apply List.Mem.tail)); first | done | fail) hw) ?_
          refine t1 6 ?_
          refine srz ?_
          refine nl ?_
          refine te (fun w hw => pt_at (by (repeat (first | apply List.Mem.head | apply List.Mem.tail)); first | done | fail) hw) ?_
          refine t0 ?_
          refine xc ?_
          exact kb q trivial _ _ (by (repeat (refine Sub.cons rfl (by first | rfl | go_num) ?_)); exact Sub.nil) (by first | apply Fit.all | ((repeat (first | (apply Fit.nilN; (repeat (first | apply nrm_nil | apply nrm_cons)); try apply nrm_rfl) | (apply Fit.cons; focus ((repeat (first | apply Tk.here | apply Tk.there)); first | done | fail)))); first | done | fail))
      · refine al fun q => ?_
        refine nl ?_
        refine te (fun w hw => pt_at (by (repeat (first | apply List.Mem.head | apply List.Mem.tail)); first | done | fail) hw) ?_
        refine t1 3 ?_
        refine ca G2 ?_
        rintro _ _ ⟨rfl, rfl⟩
        refine nl ?_
        refine te (fun w hw => pt_at (by (repeat (first | apply List.Mem.head | apply List.Mem.tail)); first | done | fail) hw) ?_
        refine t1 4 ?_
        refine bdz ?_
        refine nl ?_
        refine te (fun w hw => pt_at (by (repeat (first | apply List.Mem.head | apply List.Mem.tail)); first | done | fail) hw) ?_
        refine t1 6 ?_
        refine srz ?_
        refine nl ?_
        refine te (fun w hw => pt_at (by (repeat (first | apply List.Mem.head | apply List.Mem.tail)); first | done | fail) hw) ?_
        refine t0 ?_
        refine xc ?_
        exact kb q trivial _ _ (by (repeat (refine Sub.cons rfl (by first | rfl | go_num) ?_)); exact Sub.nil) (by first | apply Fit.all | ((repeat (first | (apply Fit.nilN; (repeat (first | apply nrm_nil | apply nrm_cons)); try apply nrm_rfl) | (apply Fit.cons; focus ((repeat (first | apply Tk.here | apply Tk.there)); first | done | fail)))); first | done | fail))
    · refine al fun q => ?_
      refine nl ?_
      refine te (fun w hw => pt_at (by (repeat (first | apply List.Mem.head | apply List.Mem.tail)); first | done | fail) hw) ?_
      refine t1 1 ?_
      refine ca G1 ?_
      rintro _ _ ⟨rfl, rfl⟩
      refine nl ?_
      refine te (fun w hw => pt_at (by (repeat (first | apply List.Mem.head | apply List.Mem.tail)); first | done | fail) hw) ?_
      refine t1 3 ?_
      refine ca G2 ?_
      rintro _ _ ⟨rfl, rfl⟩
      refine nl ?_
      refine te (fun w hw => pt_at (by (repeat (first | apply List.Mem.head | apply List.Mem.tail)); first | done | fail) hw) ?_
      refine t1 4 ?_
      refine bdz ?_
      refine nl ?_
      refine te (fun w hw => pt_at (by (repeat (first | apply List.Mem.head | apply List.Mem.tail)); first | done | fail) hw) ?_
      refine t1 6 ?_
      refine srz ?_
      refine nl ?_
      refine te (fun w hw => pt_at (by (repeat (first | apply List.Mem.head | apply List.Mem.tail)); first | done | fail) hw) ?_
      refine t0 ?_
      refine xc ?_
      exact kb q trivial _ _ (by (repeat (refine Sub.cons rfl (by first | rfl | go_num) ?_)); exact Sub.nil) (by first | apply Fit.all | ((repeat (first | (apply Fit.nilN; (repeat (first | apply nrm_nil | apply nrm_cons)); try apply nrm_rfl) | (apply Fit.cons; focus ((repeat (first | apply Tk.here | apply Tk.there)); first | done | fail)))); first | done | fail))
  intro q _
  have hbody : bodyR B = if 1 ≤ (gk B).1 ∧ (gk B).1 ≤ 5 then (if endR B (gd B).2 = (0, 0) ∧ pkOk (gk B).1 (gs_ B).1 (gb B).1 (gp B).1 (gr B).1 (gd B).1.length then (gAll B, 0) else (PkS.zero, 6)) else (PkS.zero, 6) := rfl
  rw [hbody]
  by_cases hk : 1 ≤ (gk B).1 ∧ (gk B).1 ≤ 5
  rotate_left
  · rw [if_neg hk]
    repeat' first|(refine gca ?_; first|(refine ca (within_tr _ 1 5) ?_; rintro _ _ ⟨rfl, rfl⟩; rw [decide_eq_false hk]))|refine bdz ?_|refine srz ?_|(refine wo ?_; first|refine oa ?_|refine ld ?_)|(refine gc ?_; first|refine ct ?_)|refine sq ?_|refine rg ?_|refine xc ?_|refine nl ?_|refine rt ?_
    refine TX.im (own_nil TyB _) ?_
    exact rca (b := zr) (vs := [I 0, I 0, I 0, I 0, I 0, nS]) ⟨nS, rfl, rfl, rfl⟩
  rw [if_pos hk]
  repeat' first|(refine gca ?_; first|(refine ca (within_tr _ 1 5) ?_; rintro _ _ ⟨rfl, rfl⟩; rw [decide_eq_true hk]))|(refine wo ?_; first|refine oa ?_|refine ld ?_)|(refine gc ?_; first|refine cf ?_)|refine sq ?_|refine rg ?_|refine xc ?_|refine nl ?_|refine sk ?_
  refine cutK (a := .region 8 _ _) (ι := Nat) (fun _ => True) (fun t => [(2, ptr zr), (3, I 0), (6, ptr z), (7, ptr q), (8, ptr t)]) (fun t => [pt zr [I 0, I 0, I 0, I 0, I 0, nS] TPk, pt z [ptr p] TpR, pt q [I (gk B).1, I (gs_ B).1, I 0, I 0, I 0, nS] TPk, pt p [bv, .bool true, I (gs_ B).2.at_, I (gs_ B).2.fe, I (gs_ B).2.fa] TRd, own TyB bv (By B), pt t (frm (gk B).1) TFm]) ?_ (fun kb => ?_)
  rotate_left
  · have hkd : 1 ≤ (gk B).1 ∧ (gk B).1 ≤ 5 := hk
    refine rs (id := 8) (fun w => w.heap[q]? = some (.cells [I (gk B).1, I (gs_ B).1, I 0, I 0, I 0, nS].toArray TPk (0, 0))) ?_ (fun w hw => pt_at (by (repeat (first | apply List.Mem.head | apply List.Mem.tail)); first | done | fail) hw)
    refine tka 1 ?_
    refine tkl 2 (cs := [I (gk B).1, I (gs_ B).1, I 0, I 0, I 0, nS]) (fun w h => h) ?_
    refine t2 0 4 ?_ ?_
    · refine ca forms_tr ?_
      rintro _ _ ⟨rfl, rfl⟩
      refine nl ?_
      refine te (fun w hw => pt_at (by (repeat (first | apply List.Mem.head | apply List.Mem.tail)); first | done | fail) hw) ?_
      refine tk 3 (v := .agg (frm (gk B).1).toArray) (hi := rfl) (fun w h => by exact R_indexA (E := env) (cs := formL) rfl rfl rfl rfl rfl rfl (by omega) (frm_at hkd)) ?_
      refine t1 4 ?_
      refine al fun p3 => ?_
      refine nl ?_
      refine te (fun w hw => pt_at (by (repeat (first | apply List.Mem.head | apply List.Mem.tail)); first | done | fail) hw) ?_
      refine t1 5 ?_
      refine srz (vs := frm (gk B).1) (cs' := frm (gk B).1) ?_ (hl := rfl) (h1 := frm_one _) (hj := Nat.le_of_ble_eq_true rfl) (hs := rfl)
      refine nl ?_
      refine te (fun w hw => pt_at (by (repeat (first | apply List.Mem.head | apply List.Mem.tail)); first | done | fail) hw) ?_
      refine t0 ?_
      refine xc ?_
      exact kb p3 trivial _ _ (by (repeat (refine Sub.cons rfl (by first | rfl | go_num) ?_)); exact Sub.nil) (by first | apply Fit.all | ((repeat (first | (apply Fit.nilN; (repeat (first | apply nrm_nil | apply nrm_cons)); try apply nrm_rfl) | (apply Fit.cons; focus ((repeat (first | apply Tk.here | apply Tk.there)); first | done | fail)))); first | done | fail))
    · refine al fun p3 => ?_
      refine nl ?_
      refine te (fun w hw => pt_at (by (repeat (first | apply List.Mem.head | apply List.Mem.tail)); first | done | fail) hw) ?_
      refine t1 0 ?_
      refine ca forms_tr ?_
      rintro _ _ ⟨rfl, rfl⟩
      refine nl ?_
      refine te (fun w hw => pt_at (by (repeat (first | apply List.Mem.head | apply List.Mem.tail)); first | done | fail) hw) ?_
      refine tk 3 (v := .agg (frm (gk B).1).toArray) (hi := rfl) (fun w h => by exact R_indexA (E := env) (cs := formL) rfl rfl rfl rfl rfl rfl (by omega) (frm_at hkd)) ?_
      refine t1 5 ?_
      refine srz (vs := frm (gk B).1) (cs' := frm (gk B).1) ?_ (hl := rfl) (h1 := frm_one _) (hj := Nat.le_of_ble_eq_true rfl) (hs := rfl)
      refine nl ?_
      refine te (fun w hw => pt_at (by (repeat (first | apply List.Mem.head | apply List.Mem.tail)); first | done | fail) hw) ?_
      refine t0 ?_
      refine xc ?_
      exact kb p3 trivial _ _ (by (repeat (refine Sub.cons rfl (by first | rfl | go_num) ?_)); exact Sub.nil) (by first | apply Fit.all | ((repeat (first | (apply Fit.nilN; (repeat (first | apply nrm_nil | apply nrm_cons)); try apply nrm_rfl) | (apply Fit.cons; focus ((repeat (first | apply Tk.here | apply Tk.there)); first | done | fail)))); first | done | fail))
  intro t _
  have e3 : gIf (frmB (gk B).1) B (gs_ B).2 4 = gb B := rfl
  have e4 : gIf (frmB (gk B).1 && frmD (gk B).1) B (gb B).2 4 = gp B := rfl
  have e5 : gIf (decide (0 < frmR (gk B).1)) B (gp B).2 1 = gr B := rfl
  have ed : gd B = bif frmD (gk B).1 then takesR B (gr B).2 (restR B (gr B).2) true else ([], (gr B).2) := rfl
  have T3 := fun b w cs hj h0 => take_tr p q z 2 b bv (gs_ B).2 B cs w hj h0 (gs_ok B) hBl hBi
  have T4 := fun b w cs hj h0 => take_tr p q z 3 b bv (gb B).2 B cs w hj h0 (gb_ok B) hBl hBi
  have T5 := fun b w cs hj h0 => take_tr p q z 4 b bv (gp B).2 B cs w hj h0 (gp_ok B) hBl hBi
  have hgr := gr_ok B
  have hgd := gd_ok B
  have hAll : gAll B = ⟨(gk B).1, (gs_ B).1, (gb B).1, (gp B).1, (gr B).1, (gd B).1⟩ := rfl
  rw [hAll]
  unfold frm
  generalize gk B = K at *
  generalize gs_ B = S at *
  generalize gb B = Bk at *
  generalize gp B = Pn at *
  generalize gr B = Rn at *
  generalize frmR K.1 = fr at *
  generalize frmD K.1 = fd at *
  generalize frmB K.1 = fb at *
  have lt : ∀ {j : Nat} {x0 x1 x2 x3 x4 x5 : Value}, Nat.ble (j + 1) 6 = true → j < [x0, x1, x2, x3, x4, x5].length := fun h => Nat.le_of_ble_eq_true h
  repeat' first|(refine wo ?_; first|refine oa ?_|refine ld ?_)|refine sq ?_|refine rg ?_|refine xc ?_|refine nl ?_
  refine cav (vs := [.bool fb, I 4, .pointer (some ⟨q, 2, none⟩)]) (cap := #[ptr z]) (T3 fb 4 [I K.1, I S.1, I 0, I 0, I 0, nS] (lt rfl) (fun _ => rfl)) ?_
  rintro _ _ rfl
  rw [e3]
  repeat' first|refine sq_cutX (a := .region 11 _ _) (ι := Unit) (fun _ => True) (fun _ => [(2, ptr zr), (3, I 0), (6, ptr z), (7, ptr q), (8, ptr t), (9, .func (.func 39) #[] #[ptr z])]) (fun _ => [pt zr [I 0, I 0, I 0, I 0, I 0, nS] TPk, pt z [ptr p] TpR, pt q [I K.1, I S.1, I Bk.1, I Pn.1, I 0, nS] TPk, pt p [bv, .bool true, I Pn.2.at_, I Pn.2.fe, I Pn.2.fa] TRd, own TyB bv (By B), pt t [.bool fb, .bool fd, I fr] TFm]) ?_ (fun kb => ?_)|(refine wo ?_; first|refine oa ?_|refine ld ?_|refine gy ?_|refine gn ?_|(refine gs (fun hB => ?_) (fun hB => ?_) <;> try (exfalso; omega)))|refine rg ?_|refine xc ?_|refine nl ?_
  rotate_left
  · rw [hB, Bool.true_and] at e4
    refine cav (vs := [.bool fd, I 4, .pointer (some ⟨q, 3, none⟩)]) (cap := #[ptr z]) (T4 fd 4 [I K.1, I S.1, I Bk.1, I 0, I 0, nS] (lt rfl) (fun _ => rfl)) ?_
    rintro _ _ rfl
    rw [e4]
    refine nl ?_
    refine xc ?_
    exact kb () trivial _ _ (by (repeat (refine Sub.cons rfl (by first | rfl | go_num) ?_)); exact Sub.nil) (by first | apply Fit.all | ((repeat (first | (apply Fit.nilN; (repeat (first | apply nrm_nil | apply nrm_cons)); try apply nrm_rfl) | (apply Fit.cons; focus ((repeat (first | apply Tk.here | apply Tk.there)); first | done | fail)))); first | done | fail))
  · rw [hB, Bool.false_and] at e4
    refine cav (vs := [.bool false, I 4, .pointer (some ⟨q, 3, none⟩)]) (cap := #[ptr z]) (T4 false 4 [I K.1, I S.1, I Bk.1, I 0, I 0, nS] (lt rfl) (fun _ => rfl)) ?_
    rintro _ _ rfl
    rw [e4]
    refine nl ?_
    refine xc ?_
    exact kb () trivial _ _ (by (repeat (refine Sub.cons rfl (by first | rfl | go_num) ?_)); exact Sub.nil) (by first | apply Fit.all | ((repeat (first | (apply Fit.nilN; (repeat (first | apply nrm_nil | apply nrm_cons)); try apply nrm_rfl) | (apply Fit.cons; focus ((repeat (first | apply Tk.here | apply Tk.there)); first | done | fail)))); first | done | fail))
  clear T3 T4
  intro _ _
  repeat' first|(refine wo ?_; first|(refine ao ?_; first|refine oa ?_)|refine oa ?_|refine ld ?_)|refine sq ?_|refine rg ?_
  refine cav (vs := [.bool (decide (0 < fr)), I 1, .pointer (some ⟨q, 4, none⟩)]) (cap := #[ptr z]) (T5 (decide (0 < fr)) 1 [I K.1, I S.1, I Bk.1, I Pn.1, I 0, nS] (lt rfl) (fun _ => rfl)) ?_
  rintro _ _ rfl
  rw [e5]
  repeat' first|refine sq_cutY (a := .seq (.region 13 _ _) _) (ι := Value) (fun dv => dv.oneCell' = true) (fun dv => [(2, ptr zr), (3, I 0), (6, ptr z), (7, ptr q)]) (fun dv => [pt zr [I 0, I 0, I 0, I 0, I 0, nS] TPk, pt z [ptr p] TpR, pt q [I K.1, I S.1, I Bk.1, I Pn.1, I Rn.1, dv] TPk, pt p [bv, .bool true, I (gd B).2.at_, I (gd B).2.fe, I (gd B).2.fa] TRd, own TyB bv (By B), own TyB dv (By (gd B).1)]) ?_ (fun b' kb => ?_)|(refine wo ?_; first|refine oa ?_|refine ld ?_)|(refine gc ?_; first|(refine cb (fun hB => ?_) (fun hB => ?_) <;> try (exfalso; omega)))|refine sq ?_|refine rg ?_|refine xc ?_|refine nl ?_|refine sk ?_
  rotate_left
  · rw [hB, cond_true] at ed
    refine rs (id := 14) (fun w => w.heap[z]? = some (.cells [ptr p].toArray TpR (0, 0))) ?_ (fun w hw => pt_at (by (repeat (first | apply List.Mem.head | apply List.Mem.tail)); first | done | fail) hw)
    refine tkl 0 (cs := [ptr p]) (fun w h => h) ?_
    refine tkl 1 (cs := [ptr p]) (fun w h => h) ?_
    refine t1 2 ?_
    refine ca (Rest_tr p bv Rn.2 B hgr) ?_
    rintro _ _ ⟨rfl, rfl⟩
    refine nl ?_
    refine te (fun w hw => pt_at (by (repeat (first | apply List.Mem.head | apply List.Mem.tail)); first | done | fail) hw) ?_
    refine t1 3 ?_
    refine ca (RRaw_tr p bv Rn.2 B (restR B Rn.2) hgr hBl) ?_
    rintro dv _ ⟨hdv, rfl⟩
    refine nl ?_
    refine te (fun w hw => pt_at (by (repeat (first | apply List.Mem.head | apply List.Mem.tail)); first | done | fail) hw) ?_
    refine tka 4 ?_
    refine t1 5 ?_
    refine sr ?_
    refine nl ?_
    refine te (fun w hw => pt_at (by (repeat (first | apply List.Mem.head | apply List.Mem.tail)); first | done | fail) hw) ?_
    refine t0 ?_
    refine xc ?_
    exact kb dv hdv _ _ (by (repeat (refine Sub.cons rfl (by first | rfl | go_num) ?_)); exact Sub.nil) (by rw [ed]; first | apply Fit.all | ((repeat (first | (apply Fit.nilN; (repeat (first | apply nrm_nil | apply nrm_cons)); try apply nrm_rfl) | (apply Fit.cons; focus ((repeat (first | apply Tk.here | apply Tk.there)); first | done | fail)))); first | done | fail))
  · rw [hB, cond_false] at ed
    refine TC.im (own_nil TyB _) ?_
    exact kb nS rfl _ _ (by (repeat (refine Sub.cons rfl (by first | rfl | go_num) ?_)); exact Sub.nil) (by rw [ed]; first | apply Fit.all | ((repeat (first | (apply Fit.nilN; (repeat (first | apply nrm_nil | apply nrm_cons)); try apply nrm_rfl) | (apply Fit.cons; focus ((repeat (first | apply Tk.here | apply Tk.there)); first | done | fail)))); first | done | fail))
  intro dv hdv
  generalize gd B = Dd at *
  have hC := PCheck_tr K.1 S.1 Bk.1 Pn.1 Rn.1 dv Dd.1 hdv
  by_cases hE : endR B Dd.2 = (0, 0) ∧ pkOk K.1 S.1 Bk.1 Pn.1 Rn.1 Dd.1.length
  · rw [if_pos hE]
    rw [show pkE K.1 S.1 Bk.1 Pn.1 Rn.1 Dd.1.length = 0 from if_pos hE.2] at hC
    repeat' first|(refine gca ?_; first|(refine ca (End_tr p bv Dd.2 B hgd) ?_; rintro _ _ ⟨rfl, rfl⟩; rw [hE.1])|(refine ca hC ?_; rintro _ _ ⟨rfl, rfl⟩)|(refine ca (Clip_tr dv Dd.1) ?_; rintro dv2 _ ⟨hdv2, rfl⟩))|refine bdz ?_|refine TO.val (fun _ _ => by exact R_ne2 (E := env) rfl rfl rfl (by decide) (by decide) rfl rfl (by kernel_rfl) (by kernel_rfl) rfl rfl) ?_|refine lda ?_|refine srz ?_ (hj := Nat.le_of_ble_eq_true rfl)|(refine wo ?_; first|(refine ao ?_; first|refine oa ?_)|refine oa ?_|refine ld ?_|refine sr ?_|refine gy ?_)|(refine gc ?_; first|refine cf ?_)|refine sq ?_|refine rg ?_|refine xc ?_|refine nl ?_|refine sk ?_|refine rt ?_
    exact rca (b := zr) (vs := [I K.1, I S.1, I Bk.1, I Pn.1, I Rn.1, dv2]) ⟨dv2, rfl, hdv2, rfl⟩
  · rw [if_neg hE]
    have hE2 : ¬ ((endR B Dd.2).1 = 0 ∧ (endR B Dd.2).2 = 0) ∨ pkE K.1 S.1 Bk.1 Pn.1 Rn.1 Dd.1.length ≠ 0 := by
      by_cases h1 : (endR B Dd.2).1 = 0 ∧ (endR B Dd.2).2 = 0
      · refine .inr fun h2 => hE ⟨Prod.ext h1.1 h1.2, ?_⟩
        unfold pkE at h2
        split at h2
        · assumption
        · cases h2
      · exact .inl h1
    repeat' first|(refine gca ?_; first|(refine ca (End_tr p bv Dd.2 B hgd) ?_; rintro _ _ ⟨rfl, rfl⟩)|(refine ca hC ?_; rintro _ _ ⟨rfl, rfl⟩))|refine bdz ?_|refine TO.val (fun _ _ => by exact R_ne2 (E := env) rfl rfl rfl (by decide) (by decide) rfl rfl (by kernel_rfl) (by kernel_rfl) rfl rfl) ?_|refine lda ?_|refine srz ?_ (hj := Nat.le_of_ble_eq_true rfl)|(refine wo ?_; first|(refine ao ?_; first|refine oa ?_)|refine oa ?_|refine ld ?_|refine gy ?_|refine gn ?_|(refine gsn (fun hB => ?_) (fun hB => ?_) <;> try (exfalso; omega)))|(refine gc ?_; first|refine ct ?_|(refine cn (fun hB => ?_) (fun hB => ?_) <;> try (exfalso; omega)))|refine sq ?_|refine rg ?_|refine xc ?_|refine nl ?_|refine rt ?_
    all_goals
      refine TX.im (own_nil TyB _) ?_
      exact rca (b := zr) (vs := [I 0, I 0, I 0, I 0, I 0, nS]) ⟨nS, rfl, rfl, rfl⟩
end Go.Art
set_option linter.unusedSimpArgs false
set_option linter.unusedVariables false
namespace Go.Art
open Go Go.Proofs Go.RowKit

def minI (p q : Int) : Int := if q < p then q else p
theorem minI_le (p q : Int) : minI p q ≤ p ∧ minI p q ≤ q ∧ (minI p q = p ∨ minI p q = q) := by unfold minI; split <;> omega
section
variable {P : Program} {E : Env P} {n : Sh} {X : Cx} {s : List K} {fr : Fr} {A A' : List Ch} {ops : Array Oper} {rest : List Oper} {d m b j sz by_ : Nat} {ty t t' el : TypeId} {pos : String} {after : Array Edge} {x y : Operand} {w : World} {p q i : Int} {k1 : IntKind} {cs vs : List Value} {v z : Value} {dt : TypeDesc}
theorem R_min2 (hx : ev fr x = some (I p)) (hy : ev fr y = some (I q)) : OpV P n fr (.call ⟨.builtin .min, #[x, y], #[t, t']⟩) ty w (I (minI p q)) w := ⟨fun a ha _ _ _ _ => by
  simp only [execOp, resolve]
  simp [ha.ev hx, ha.ev hy, invoke, builtin, Builtin.min_, Builtin.min2, minI]⟩
theorem mn2 (k : TO E n X s ops rest ((d, I (minI p q)) :: fr) A) (hx : ev fr x = some (I p) := by rfl) (hy : ev fr y = some (I q) := by rfl) (hd : Nat.blt d n.n = true := by rfl) : TO E n X s ops (⟨some d, .call ⟨.builtin .min, #[x, y], #[t, t']⟩, ty, pos, after, none⟩ :: rest) fr A := TO.val (fun _ _ => R_min2 hx hy) k hd
/-- An element of an array that is a value. -/
theorem ixv (k : TO E n X s ops rest ((d, v) :: fr) A) (hx : ev fr x = some (.agg cs.toArray) := by rfl) (hy : ev fr y = some (.int k1 i) := by rfl) (ht : lk E.und t = some (.array m el) := by rfl) (hdt : lk E.und el = some dt := by rfl) (hg : aggB dt = false := by rfl) (h1 : lk E.inf el = some (z, 1, by_) := by rfl) (hi : 0 ≤ i ∧ i < m := by omega) (hv : cs[i.toNat]? = some v := by rfl)
    (hd : Nat.blt d n.n = true := by rfl) : TO E n X s ops (⟨some d, .index t x y, ty, pos, after, none⟩ :: rest) fr A := TO.val (fun _ _ => R_index1 ht hdt hg h1 hx hy hi hv) k hd
theorem ixw (k : TO E n X s ops rest ((d, .agg vs.toArray) :: fr) A) (hx : ev fr x = some (.agg cs.toArray) := by rfl) (hy : ev fr y = some (.int k1 i) := by rfl) (ht : lk E.und t = some (.array m el) := by rfl) (hdt : lk E.und el = some dt := by rfl) (hg : aggB dt = true := by rfl) (h1 : lk E.inf el = some (z, sz, by_) := by rfl) (hi : 0 ≤ i ∧ i < m := by omega) (hv : (cs.drop (i.toNat * sz)).take sz = vs := by rfl)
    (hd : Nat.blt d n.n = true := by rfl) : TO E n X s ops (⟨some d, .index t x y, ty, pos, after, none⟩ :: rest) fr A := TO.val (fun _ _ => R_indexA ht hdt hg h1 hx hy hi hv) k hd
/-- A place in an array of structs that lies in memory. -/
theorem R_idxS {m : Nat} (ht : lk E.und t = some (.array m el)) (he : lk E.inf el = some (z, sz, by_)) (hx : ev fr x = some (.pointer (some ⟨b, j, none⟩))) (hy : ev fr y = some (.int k1 i)) (h : 0 ≤ i ∧ i < m) :
    OpV P n fr (.indexAddr t x y) ty w (.pointer (some ⟨b, j + i.toNat * sz, none⟩)) w := ⟨fun a ha _ _ _ _ => by
  obtain ⟨inf, hi, _, hsz, _⟩ := E.info he
  simp only [execOp, ha.ev hx, ha.ev hy]
  simp [Instr.indexAt, asIntOf, run_underlying (P := P) (E.un ht) w, h, sizeOf, typeInfo, hi, hsz, Instr.sureAddr, Addr.add_lit]⟩
theorem ixs (k : TO E n X s ops rest ((d, .pointer (some ⟨b, j + i.toNat * sz, none⟩)) :: fr) A) (hx : ev fr x = some (.pointer (some ⟨b, j, none⟩)) := by rfl) (hy : ev fr y = some (.int k1 i) := by rfl) (ht : lk E.und t = some (.array m el) := by rfl) (he : lk E.inf el = some (z, sz, by_) := by rfl) (hi : 0 ≤ i ∧ i < m := by omega)
    (hd : Nat.blt d n.n = true := by rfl) : TO E n X s ops (⟨some d, .indexAddr t x y, ty, pos, after, none⟩ :: rest) fr A := TO.val (fun _ _ => R_idxS ht he hx hy hi) k hd
end
/-- A manifest. -/
structure MfS where
  size : Int
  sym : Int
  k : Int
  seed : Int
  t : List Int
def wBad (w : Int) : Bool := !decide (0 ≤ w ∧ w ≤ 16777215)
def wSome (w : Int) : Bool := decide (0 < w)
def mtB (t : List Int) (m : Int) : Bool := decide ((t.length : Int) ≤ m) && (!t.any wBad && t.any wSome)
def MfS.ok (m : MfS) : Prop := (0 ≤ m.size ∧ m.size ≤ 4294967295) ∧ (1 ≤ m.sym ∧ m.sym ≤ 65535) ∧ (1 ≤ m.k ∧ m.k ≤ 65536) ∧ 0 ≤ m.seed ∧ mtB m.t (minI m.k 10000) = true
instance (m : MfS) : Decidable m.ok := by unfold MfS.ok; infer_instance
def mfE (m : MfS) : Int := if m.ok then 0 else 2
def MfS.full (m : MfS) : Int := m.k * m.sym
def MfS.blocks (m : MfS) : Int := if m.ok then (m.size + m.full - 1) / m.full else 0
theorem MfS.full_in {m : MfS} (h : m.ok) : 1 ≤ m.full ∧ m.full ≤ 4294901760 := by
  obtain ⟨_, h1, h2, _⟩ := h
  unfold MfS.full
  have a := Int.mul_le_mul (show (1 : Int) ≤ m.k by omega) (show (1 : Int) ≤ m.sym by omega) (by omega) (by omega)
  have b := Int.mul_le_mul (show m.k ≤ 65536 by omega) (show m.sym ≤ 65535 by omega) (by omega) (by omega)
  omega
theorem mtB_sol {t : List Int} {k : Int} (hk : 1 ≤ k ∧ k ≤ 65536) (h : mtB t (minI k 10000) = true) : solE t k = 0 ∧ t.length ≤ 10000 := by
  unfold mtB at h
  rw [Bool.and_eq_true, Bool.and_eq_true, decide_eq_true_iff, Bool.not_eq_true'] at h
  obtain ⟨h1, h2, h3⟩ := h
  have hm := minI_le k 10000
  have h4 := List.any_eq_true.1 h3
  obtain ⟨x, hx, hx2⟩ := h4
  have hne : 1 ≤ t.length := by cases t with
    | nil => cases hx
    | cons => simp
  refine ⟨?_, by omega⟩
  unfold solE
  rw [if_neg (by omega), if_pos]
  rw [Bool.and_eq_true, List.all_eq_true, List.any_eq_true]
  refine ⟨fun w hw => ?_, x, hx, hx2⟩
  have := List.any_eq_false.1 h2 w hw
  simpa [wBad, wOk] using this
attribute [local irreducible] Fit pt own ro vw mpc lpt vels rels mow lrc dfr
attribute [local irreducible] lmp lme mit velg relg
abbrev TMf : TypeId := 24
theorem mwithin_tr (n lo hi : Int) : Tr Tryz.prog 76 [I n, I lo, I hi] [] [] fun v D => v = .bool (decide (lo ≤ n ∧ n ≤ hi)) ∧ D = [] := by
  refine Tr.enter env _ Tryz.func76 (by kernel_rfl) rfl Tryz.ntmps76 rfl (by repeat (first | exact has00 | refine has01 ?_)) fun w0 => ?_
  repeat' first|(refine wo ?_; first|(refine ao ?_; first|refine oa ?_)|refine oa ?_|refine gy ?_|refine gn ?_|(refine gsi (fun hB => ?_) (fun hB => ?_) <;> try (exfalso; omega)))|refine sq ?_|refine rg ?_|refine xc ?_|refine nl ?_|refine rt ?_
  all_goals refine r1 ⟨?_, rfl⟩
  all_goals first
    | rw [decide_eq_false (fun h : lo ≤ n ∧ n ≤ hi => by omega)]
    | (congr 1; exact decide_eq_decide.2 ⟨fun h => by omega, fun h => by omega⟩)
theorem odd_tr (x : Int) : Tr Tryz.prog 96 [I x] [] [] fun v D => v = .bool (wBad x) ∧ D = [] := by
  refine Tr.enter env _ Tryz.func96 (by kernel_rfl) rfl Tryz.ntmps96 rfl (by repeat (first | exact has00 | refine has01 ?_)) fun w0 => ?_
  repeat' first|(refine gca ?_; first|(refine ca (mwithin_tr x _ _) ?_; rintro _ _ ⟨rfl, rfl⟩))|(refine wo ?_; first|refine oa ?_)|refine sq ?_|refine rg ?_|refine xc ?_|refine nl ?_|refine rt ?_
  exact r1 ⟨rfl, rfl⟩
theorem some_tr (x : Int) : Tr Tryz.prog 97 [I x] [] [] fun v D => v = .bool (wSome x) ∧ D = [] := by
  refine Tr.enter env _ Tryz.func97 (by kernel_rfl) rfl Tryz.ntmps97 rfl (by repeat (first | exact has00 | refine has01 ?_)) fun w0 => ?_
  repeat' first|(refine wo ?_; first|(refine ao ?_; first|refine oa ?_)|refine oa ?_)|refine sq ?_|refine rg ?_|refine xc ?_|refine nl ?_|refine rt ?_
  exact r1 ⟨rfl, rfl⟩
theorem table_tr (s : Value) (t : List Int) (m : Int) : Tr Tryz.prog 77 [s, I m] [vw s (Is t)] [] fun v D => v = .bool (mtB t m) ∧ D = [] := by
  refine Tr.enter env _ Tryz.func77 (by kernel_rfl) rfl Tryz.ntmps77 rfl (by repeat (first | exact has00 | refine has01 ?_)) fun w0 => ?_
  refine TC.leni (l := t) fun htl => ?_
  repeat' first|(refine gca ?_; first|(refine ca (IContainsFunc_tr s t 96 [] [] wBad hpl_nil (fun x _ => odd_tr x)) ?_; rintro _ _ ⟨rfl, rfl⟩)|(refine ca (IContainsFunc_tr s t 97 [] [] wSome hpl_nil (fun x _ => some_tr x)) ?_; rintro _ _ ⟨rfl, rfl⟩))|(refine wo ?_; first|(refine ao ?_; first|refine oa ?_)|refine oa ?_|refine lnm ?_|refine gy ?_|refine gn ?_|(refine gsi (fun hB => ?_) (fun hB => ?_) <;> try (exfalso; omega))|(refine gs (fun hB => ?_) (fun hB => ?_) <;> try (exfalso; omega)))|refine sq ?_|refine rg ?_|refine xc ?_|refine nl ?_|refine rt ?_
  all_goals refine r1 ⟨?_, rfl⟩
  all_goals unfold mtB
  all_goals generalize t.any wBad = b1 at *
  all_goals generalize t.any wSome = b2 at *
  all_goals cases b1 <;> cases b2 <;> simp_all
  all_goals omega
theorem MCheck_tr (m : MfS) (tv : Value) (hv : tv.oneCell' = true) : Tr Tryz.prog 54 [.agg #[I m.size, I m.sym, I m.k, I m.seed, tv]] [vw tv (Is m.t)] [] fun v D => v = I (mfE m) ∧ D = [] := by
  have hE : mfE m = if (0 ≤ m.size ∧ m.size ≤ 4294967295) then if (1 ≤ m.sym ∧ m.sym ≤ 65535) then if (1 ≤ m.k ∧ m.k ≤ 65536) then if m.seed < 0 then 2 else if mtB m.t (minI m.k 10000) = true then 0 else 2 else 2 else 2 else 2 := by
    unfold mfE
    by_cases h1 : (0 ≤ m.size ∧ m.size ≤ 4294967295)
    · rw [if_pos h1]
      by_cases h2 : (1 ≤ m.sym ∧ m.sym ≤ 65535)
      · rw [if_pos h2]
        by_cases h3 : (1 ≤ m.k ∧ m.k ≤ 65536)
        · rw [if_pos h3]
          by_cases h4 : m.seed < 0
          · rw [if_pos h4, if_neg fun g => by obtain ⟨_, _, _, g, _⟩ := g; omega]
          · rw [if_neg h4]
            by_cases h5 : mtB m.t (minI m.k 10000) = true
            · rw [if_pos h5, if_pos ⟨h1, h2, h3, by omega, h5⟩]
            · rw [if_neg h5, if_neg fun g => h5 g.2.2.2.2]
        · rw [if_neg h3, if_neg fun g => h3 g.2.2.1]
      · rw [if_neg h2, if_neg fun g => h2 g.2.1]
    · rw [if_neg h1, if_neg fun g => h1 g.1]
  rw [hE]
  clear hE
  obtain ⟨size, sym, k, seed, t⟩ := m
  dsimp only
  refine Tr.enter env _ Tryz.func54 (by kernel_rfl) rfl Tryz.ntmps54 rfl (by repeat (first | exact has00 | refine has01 ?_)) fun w0 => ?_
  repeat' first|(refine gca ?_; first|(refine ca (mwithin_tr _ _ _) ?_; rintro _ _ ⟨rfl, rfl⟩)|(refine ca (table_tr tv t _) ?_; rintro _ _ ⟨rfl, rfl⟩))|refine bx fun b => ?_|refine mn2 ?_|(refine wo ?_; first|(refine ao ?_; first|refine oa ?_)|refine oa ?_|refine ld ?_|refine gy ?_|refine gn ?_|(refine gsi (fun hB => ?_) (fun hB => ?_) <;> try (exfalso; omega))|(refine gsn (fun hB => ?_) (fun hB => ?_) <;> try (exfalso; omega)))|(refine gc ?_; first|refine ct ?_|(refine cb (fun hB => ?_) (fun hB => ?_) <;> try (exfalso; omega)))|refine sq ?_|refine rg ?_|refine xc ?_|refine nl ?_|refine sk ?_|refine rt ?_
  all_goals refine r1 ⟨?_, rfl⟩
  all_goals simp [*]
  all_goals simp_all
end Go.Art
set_option linter.unusedSimpArgs false
set_option linter.unusedVariables false
namespace Go.Art
open Go Go.Proofs Go.RowKit
/-- A part of the object: from where, how many bytes, the error. -/
def MfS.part (m : MfS) (n : Int) : (Int × Int) × Int := if m.ok then (if 0 ≤ n ∧ n ≤ m.blocks - 1 then ((n * m.full, minI m.full (m.size - n * m.full)), 0) else ((0, 0), 3)) else ((0, 0), 2)
theorem MfS.blocks_in {m : MfS} (h : m.ok) : 0 ≤ m.blocks ∧ m.blocks ≤ 4294967295 ∧ (0 < m.size → (m.blocks - 1) * m.full < m.size ∧ m.size ≤ m.blocks * m.full) := by
  have hf := MfS.full_in h
  have hs := h.1
  unfold MfS.blocks
  rw [if_pos h]
  generalize m.full = f at *
  have h0 : 0 ≤ (m.size + f - 1) / f := Int.ediv_nonneg (by omega) (by omega)
  have h1 := Int.emod_add_mul_ediv (m.size + f - 1) f
  have h2 := Int.emod_nonneg (m.size + f - 1) (show f ≠ 0 by omega)
  have h3 := Int.emod_lt_of_pos (m.size + f - 1) (show 0 < f by omega)
  generalize (m.size + f - 1) / f = q at *
  generalize (m.size + f - 1) % f = r at *
  have hq : q ≤ f * q := by
    have := Int.mul_le_mul_of_nonneg_right (show (1 : Int) ≤ f by omega) h0
    omega
  have hc : q * f = f * q := Int.mul_comm q f
  have hc2 : (q - 1) * f = f * q - f := by rw [Int.sub_mul, Int.one_mul, hc]
  refine ⟨h0, ?_, fun _ => ⟨by rw [hc2]; omega, by rw [hc]; omega⟩⟩
  by_cases hz : m.size = 0
  · have : f * q < f * 1 := by omega
    have := Int.lt_of_mul_lt_mul_left this (by omega)
    omega
  · by_cases hq1 : q ≤ 1
    · omega
    · have : (q - 1) ≤ (q - 1) * f := by
        have := Int.mul_le_mul_of_nonneg_left (show (1 : Int) ≤ f by omega) (show 0 ≤ q - 1 by omega)
        omega
      omega
attribute [local irreducible] Fit pt own ro vw mpc lpt vels rels mow lrc dfr
attribute [local irreducible] lmp lme mit velg relg
theorem full_tr (m : MfS) (tv : Value) (hb : -9223372036854775808 ≤ m.full ∧ m.full ≤ 9223372036854775807) : Tr Tryz.prog 55 [.agg #[I m.size, I m.sym, I m.k, I m.seed, tv]] [] [] fun v D => v = I m.full ∧ D = [] := by
  obtain ⟨size, sym, k, seed, t⟩ := m
  unfold MfS.full at *
  dsimp only at *
  refine Tr.enter env _ Tryz.func55 (by kernel_rfl) rfl Tryz.ntmps55 rfl (by repeat (first | exact has00 | refine has01 ?_)) fun w0 => ?_
  repeat' first|refine bx fun b => ?_|(refine wo ?_; first|(refine ao ?_; first|refine aw ?_)|refine oa ?_|refine ld ?_)|refine sq ?_|refine rg ?_|refine xc ?_|refine nl ?_|refine rt ?_
  exact r1 ⟨rfl, rfl⟩
theorem Blocks_tr (m : MfS) (tv : Value) (hv : tv.oneCell' = true) : Tr Tryz.prog 25 [.agg #[I m.size, I m.sym, I m.k, I m.seed, tv]] [vw tv (Is m.t)] [] fun v D => v = I m.blocks ∧ D = [] := by
  have hC := MCheck_tr m tv hv
  refine Tr.enter env _ Tryz.func25 (by kernel_rfl) rfl Tryz.ntmps25 rfl (by repeat (first | exact has00 | refine has01 ?_)) fun w0 => ?_
  by_cases h : m.ok
  · rw [show mfE m = 0 from if_pos h] at hC
    have hf := MfS.full_in h
    have hs := h.1
    have hF := full_tr m tv (by omega)
    rw [show m.blocks = (m.size + m.full - 1) / m.full from if_pos h]
    generalize m.full = f at *
    repeat' first|(refine gca ?_; first|(refine ca hC ?_; rintro _ _ ⟨rfl, rfl⟩))|refine bx fun b => ?_|refine lda ?_|(refine wo ?_; first|(refine ao ?_; first|refine oa ?_)|refine oa ?_)|(refine gc ?_; first|refine cf ?_)|refine sq ?_|refine rg ?_|refine xc ?_|refine nl ?_|refine sk ?_
    refine rs (fun w => w.heap[b]? = some (.cells [I m.size, I m.sym, I m.k, I m.seed, tv].toArray TMf (0, 0))) ?_ (fun w hw => pt_at (by (repeat (first | apply List.Mem.head | apply List.Mem.tail)); first | done | fail) hw)
    refine tka 0 ?_
    refine tkl 1 (cs := [I m.size, I m.sym, I m.k, I m.seed, tv]) (fun w h => h) ?_
    refine tk 2 (v := .agg #[I m.size, I m.sym, I m.k, I m.seed, tv]) (hi := rfl) (fun w h => by exact R_loadA (E := env) (cs := [I m.size, I m.sym, I m.k, I m.seed, tv]) (vs := [I m.size, I m.sym, I m.k, I m.seed, tv]) rfl rfl rfl rfl h rfl rfl) ?_
    refine tk 6 (v := .agg #[I m.size, I m.sym, I m.k, I m.seed, tv]) (hi := rfl) (fun w h => by exact R_loadA (E := env) (cs := [I m.size, I m.sym, I m.k, I m.seed, tv]) (vs := [I m.size, I m.sym, I m.k, I m.seed, tv]) rfl rfl rfl rfl h rfl rfl) ?_
    refine t1 3 ?_
    refine ca hF ?_
    rintro _ _ ⟨rfl, rfl⟩
    refine nl ?_
    refine te (fun w hw => pt_at (by (repeat (first | apply List.Mem.head | apply List.Mem.tail)); first | done | fail) hw) ?_
    refine tkw 4 (m.size + f) ?_
    refine tkw 5 (m.size + f - 1) ?_
    refine t1 7 ?_
    refine ca hF ?_
    rintro _ _ ⟨rfl, rfl⟩
    refine nl ?_
    refine te (fun w hw => pt_at (by (repeat (first | apply List.Mem.head | apply List.Mem.tail)); first | done | fail) hw) ?_
    refine tk 8 (v := I ((m.size + f - 1) / f)) (hi := rfl) (fun w h => by exact R_quo64 rfl rfl (by omega)) ?_
    refine tka 9 ?_
    refine t0 ?_
    repeat' first|refine xc ?_|refine rt ?_
    exact r1 ⟨rfl, rfl⟩
  · rw [show mfE m = 2 from if_neg h] at hC
    rw [show m.blocks = 0 from if_neg h]
    repeat' first|(refine gca ?_; first|(refine ca hC ?_; rintro _ _ ⟨rfl, rfl⟩))|refine bx fun b => ?_|refine lda ?_|(refine wo ?_; first|(refine ao ?_; first|refine oa ?_)|refine oa ?_)|(refine gc ?_; first|refine ct ?_)|refine sq ?_|refine rg ?_|refine xc ?_|refine nl ?_|refine rt ?_
    exact r1 ⟨rfl, rfl⟩
theorem Part_tr (m : MfS) (tv : Value) (n : Int) (hv : tv.oneCell' = true) : Tr Tryz.prog 63 [.agg #[I m.size, I m.sym, I m.k, I m.seed, tv], I n] [vw tv (Is m.t)] []
    fun v D => v = .tuple #[I (m.part n).1.1, I (m.part n).1.2, I (m.part n).2] ∧ D = [] := by
  have hC := MCheck_tr m tv hv
  have hBl := Blocks_tr m tv hv
  refine Tr.enter env _ Tryz.func63 (by kernel_rfl) rfl Tryz.ntmps63 rfl (by repeat (first | exact has00 | refine has01 ?_)) fun w0 => ?_
  by_cases h : m.ok
  rotate_left
  · rw [show mfE m = 2 from if_neg h] at hC
    rw [show m.part n = ((0, 0), 2) from if_neg h]
    repeat' first|(refine gca ?_; first|(refine ca hC ?_; rintro _ _ ⟨rfl, rfl⟩))|refine bx fun b => ?_|refine lda ?_|(refine wo ?_; first|(refine ao ?_; first|refine oa ?_)|refine oa ?_)|(refine gc ?_; first|refine ct ?_)|refine sq ?_|refine rg ?_|refine xc ?_|refine nl ?_|refine bk ?_|refine rt ?_
    exact r3 ⟨rfl, rfl⟩
  rw [show mfE m = 0 from if_pos h] at hC
  have hf := MfS.full_in h
  have hs := h.1
  have hF := full_tr m tv (by omega)
  have hb := MfS.blocks_in h
  by_cases hn : 0 ≤ n ∧ n ≤ m.blocks - 1
  rotate_left
  · rw [show m.part n = ((0, 0), 3) by unfold MfS.part; rw [if_pos h, if_neg hn]]
    generalize m.blocks = bl at *
    repeat' first|(refine gca ?_; first|(refine ca hC ?_; rintro _ _ ⟨rfl, rfl⟩)|(refine ca hBl ?_; rintro _ _ ⟨rfl, rfl⟩)|(refine ca (mwithin_tr n 0 _) ?_; rintro _ _ ⟨rfl, rfl⟩; rw [decide_eq_false hn]))|refine bx fun b => ?_|refine lda ?_|(refine wo ?_; first|(refine ao ?_; first|refine aw ?_|refine oa ?_)|refine oa ?_)|(refine gc ?_; first|refine ct ?_|refine cf ?_)|refine sq ?_|refine rg ?_|refine xc ?_|refine nl ?_|refine bk ?_|refine rt ?_
    exact r3 ⟨rfl, rfl⟩
  rw [show m.part n = ((n * m.full, minI m.full (m.size - n * m.full)), 0) by unfold MfS.part; rw [if_pos h, if_pos hn]]
  have hpos : 0 < m.size := by
    refine Classical.byContradiction fun hz => ?_
    have hz0 : m.size = 0 := by omega
    have : m.blocks = 0 := by
      unfold MfS.blocks
      rw [if_pos h, hz0, Int.ediv_eq_zero_of_lt (by omega) (by omega)]
    omega
  obtain ⟨_, _, hb2⟩ := hb
  have hb3 := (hb2 hpos).1
  have hnf : 0 ≤ n * m.full ∧ n * m.full < m.size := by
    refine ⟨Int.mul_nonneg hn.1 (by omega), Int.lt_of_le_of_lt (Int.mul_le_mul_of_nonneg_right hn.2 (by omega)) hb3⟩
  generalize m.blocks = bl at *
  generalize m.full = f at *
  repeat' first|(refine gca ?_; first|(refine ca hC ?_; rintro _ _ ⟨rfl, rfl⟩)|(refine ca hBl ?_; rintro _ _ ⟨rfl, rfl⟩)|(refine ca (mwithin_tr n 0 _) ?_; rintro _ _ ⟨rfl, rfl⟩; rw [decide_eq_true hn])|(refine ca hF ?_; rintro _ _ ⟨rfl, rfl⟩))|refine bx fun b => ?_|refine lda ?_|(refine wo ?_; first|(refine ao ?_; first|refine aw ?_|refine oa ?_)|refine oa ?_)|(refine gc ?_; first|refine cf ?_)|refine sq ?_|refine rg ?_|refine xc ?_|refine nl ?_|refine sk ?_|refine bk ?_|refine xb ?_
  refine rs (id := 6) (fun w => w.heap[b]? = some (.cells [I m.size, I m.sym, I m.k, I m.seed, tv].toArray TMf (0, 0))) ?_ (fun w hw => pt_at (by (repeat (first | apply List.Mem.head | apply List.Mem.tail)); first | done | fail) hw)
  refine tka 0 ?_
  refine tk 1 (v := .agg #[I m.size, I m.sym, I m.k, I m.seed, tv]) (hi := rfl) (fun w h => by exact R_loadA (E := env) (cs := [I m.size, I m.sym, I m.k, I m.seed, tv]) (vs := [I m.size, I m.sym, I m.k, I m.seed, tv]) rfl rfl rfl rfl h rfl rfl) ?_
  refine tka 3 ?_
  refine tkl 4 (cs := [I m.size, I m.sym, I m.k, I m.seed, tv]) (fun w h => h) ?_
  refine tka 5 ?_
  refine tkw 6 (m.size - n * f) ?_
  refine t1 2 ?_
  refine ca hF ?_
  rintro _ _ ⟨rfl, rfl⟩
  refine nl ?_
  refine te (fun w hw => pt_at (by (repeat (first | apply List.Mem.head | apply List.Mem.tail)); first | done | fail) hw) ?_
  refine tk 7 (v := I (minI f (m.size - n * f))) (hi := rfl) (fun w h => by exact R_min2 rfl rfl) ?_
  refine tka 8 ?_
  refine tka 9 ?_
  refine tka 10 ?_
  refine t0 ?_
  repeat' first|refine xc ?_|refine rt ?_
  exact r3 ⟨rfl, rfl⟩
theorem widths_tr : Tr Tryz.prog 62 [] [] [] fun v D => v = .agg #[I 4, I 2, I 4, I 8, I 2] ∧ D = [] := by
  refine Tr.enter env _ Tryz.func62 (by kernel_rfl) rfl Tryz.ntmps62 rfl (by repeat (first | exact has00 | refine has01 ?_)) fun w0 => ?_
  repeat' first|refine al fun b => ?_|refine bda ?_|refine srz ?_|refine sq ?_|refine rg ?_|refine xc ?_|refine nl ?_|refine rt ?_
  exact rca1 (vs := [I 4, I 2, I 4, I 8, I 2]) ⟨rfl, rfl⟩
end Go.Art
set_option linter.unusedSimpArgs false
set_option linter.unusedVariables false
namespace Go.Art
open Go Go.Proofs Go.RowKit
def wB (t : List Int) (i : Nat) : List Int := ((t.take i).map (beB 4)).flatten
theorem wB_succ {t : List Int} {i : Nat} (h : i < t.length) : wB t (i + 1) = wB t i ++ beB 4 (t.getD i 0) := by unfold wB; rw [take_succ' h 0, List.map_append, List.flatten_append]; simp
theorem wB_len (t : List Int) : ∀ i, i ≤ t.length → (wB t i).length = 4 * i
  | 0, _ => rfl
  | i + 1, h => by rw [wB_succ (by omega), List.length_append, wB_len t i (by omega), beB_len]; omega
def headB (m : MfS) : Nat → List Int
  | 0 => []
  | 1 => [] ++ beB 4 m.size
  | 2 => [] ++ beB 4 m.size ++ beB 2 m.sym
  | 3 => [] ++ beB 4 m.size ++ beB 2 m.sym ++ beB 4 m.k
  | 4 => [] ++ beB 4 m.size ++ beB 2 m.sym ++ beB 4 m.k ++ beB 8 m.seed
  | _ => [] ++ beB 4 m.size ++ beB 2 m.sym ++ beB 4 m.k ++ beB 8 m.seed ++ beB 2 m.t.length
def MfS.bytes (m : MfS) : List Int := headB m 5 ++ wB m.t m.t.length
def fls (m : MfS) : Nat → List Value
  | 0 => [I 0, I 0, I 0, I 0, I 0, I 0, I 0, I 0, I 0, I 0]
  | 1 => [I 4, I m.size, I 0, I 0, I 0, I 0, I 0, I 0, I 0, I 0]
  | 2 => [I 4, I m.size, I 2, I m.sym, I 0, I 0, I 0, I 0, I 0, I 0]
  | 3 => [I 4, I m.size, I 2, I m.sym, I 4, I m.k, I 0, I 0, I 0, I 0]
  | 4 => [I 4, I m.size, I 2, I m.sym, I 4, I m.k, I 8, I m.seed, I 0, I 0]
  | _ => [I 4, I m.size, I 2, I m.sym, I 4, I m.k, I 8, I m.seed, I 2, I m.t.length]
attribute [local irreducible] Fit pt own ro vw mpc lpt vels rels mow lrc dfr
attribute [local irreducible] lmp lme mit velg relg
abbrev TFd : TypeId := 109
abbrev TFs : TypeId := 110
theorem five_cases {i : Nat} (h : i ≤ 5) : i = 0 ∨ i = 1 ∨ i = 2 ∨ i = 3 ∨ i = 4 ∨ i = 5 := by omega
set_option maxHeartbeats 2000000 in
theorem MPut_tr (m : MfS) (tv : Value) (hv : tv.oneCell' = true) (hsd : m.seed ≤ 9223372036854775807) : Tr Tryz.prog 29 [.agg #[I m.size, I m.sym, I m.k, I m.seed, tv]] [vw tv (Is m.t)] []
    fun v D => ∃ o, v = tup2 o (I (mfE m)) ∧ o.oneCell' = true ∧ D = [own TyB o (By (if m.ok then m.bytes else []))] := by
  have hC := MCheck_tr m tv hv
  refine Tr.enter env _ Tryz.func29 (by kernel_rfl) rfl Tryz.ntmps29 rfl (by repeat (first | exact has00 | refine has01 ?_)) fun w0 => ?_
  refine TC.leni (v := tv) (l := m.t) fun htl => ?_
  by_cases h : m.ok
  rotate_left
  · rw [show mfE m = 2 from if_neg h] at hC ⊢
    rw [if_neg h]
    repeat' first|(refine gca ?_; first|(refine ca hC ?_; rintro _ _ ⟨rfl, rfl⟩))|refine bx fun b => ?_|refine lda ?_|(refine wo ?_; first|(refine ao ?_; first|refine oa ?_)|refine oa ?_)|(refine gc ?_; first|refine ct ?_)|refine sq ?_|refine rg ?_|refine xc ?_|refine nl ?_|refine rt ?_
    refine TX.im (own_nil TyB _) ?_
    exact r2 ⟨nS, rfl, rfl, rfl⟩
  rw [show mfE m = 0 from if_pos h] at hC ⊢
  rw [if_pos h]
  obtain ⟨h1, h2, h3, h4, h5⟩ := id h
  have hsol := mtB_sol h3 h5
  have hws : ∀ x ∈ m.t, 0 ≤ x ∧ x ≤ 16777215 := (solE_zero hsol.1).2.2.1
  have htl2 := hsol.2
  have hNW := NewWriter_tr (20 + 4 * m.t.length) (by omega)
  obtain ⟨size, sym, k, seed, t⟩ := m
  dsimp only at *
  repeat' first|(refine gca ?_; first|(refine ca hC ?_; rintro _ _ ⟨rfl, rfl⟩)|(refine ca hNW ?_; rintro _ _ ⟨p, rfl, rfl⟩))|refine bx fun b => ?_|refine lda ?_|refine al fun q => ?_|refine bda ?_|(refine wo ?_; first|(refine ao ?_; first|refine aw ?_|refine oa ?_)|refine oa ?_|refine ld ?_|refine lnm ?_)|(refine gc ?_; first|refine cf ?_)|refine sq ?_|refine rg ?_|refine xc ?_|refine nl ?_|refine sk ?_|refine bk ?_
  refine TC.loop (ι := Nat) (fun i => [(43, I i)]) (fun i => [pt q (fls ⟨size, sym, k, seed, t⟩ i) TFs]) (fun i => i ≤ 5) (fun i => 5 - i) 0 [1, 5, 7, 42] (by omega) ?_
  intro i hi
  rcases five_cases hi with rfl | rfl | rfl | rfl | rfl | rfl
  · repeat' first|(refine gca ?_; first|(refine ca widths_tr ?_; rintro _ _ ⟨rfl, rfl⟩))|refine ixv ?_|refine bdz ?_|refine ixs ?_|refine srz ?_ (hj := Nat.le_of_ble_eq_true rfl)|(refine wo ?_; first|(refine ao ?_; first|refine aw ?_|refine oa ?_)|refine oa ?_)|(refine gc ?_; first|refine ct ?_)|refine sq ?_|refine rg ?_|refine xc ?_|refine nl ?_|refine sk ?_|refine bk ?_|refine xb ?_
    exact lp 1 (by omega)
  · repeat' first|(refine gca ?_; first|(refine ca widths_tr ?_; rintro _ _ ⟨rfl, rfl⟩))|refine ixv ?_|refine bdz ?_|refine ixs ?_|refine srz ?_ (hj := Nat.le_of_ble_eq_true rfl)|(refine wo ?_; first|(refine ao ?_; first|refine aw ?_|refine oa ?_)|refine oa ?_)|(refine gc ?_; first|refine ct ?_)|refine sq ?_|refine rg ?_|refine xc ?_|refine nl ?_|refine sk ?_|refine bk ?_|refine xb ?_
    exact lp 2 (by omega)
  · repeat' first|(refine gca ?_; first|(refine ca widths_tr ?_; rintro _ _ ⟨rfl, rfl⟩))|refine ixv ?_|refine bdz ?_|refine ixs ?_|refine srz ?_ (hj := Nat.le_of_ble_eq_true rfl)|(refine wo ?_; first|(refine ao ?_; first|refine aw ?_|refine oa ?_)|refine oa ?_)|(refine gc ?_; first|refine ct ?_)|refine sq ?_|refine rg ?_|refine xc ?_|refine nl ?_|refine sk ?_|refine bk ?_|refine xb ?_
    exact lp 3 (by omega)
  · repeat' first|(refine gca ?_; first|(refine ca widths_tr ?_; rintro _ _ ⟨rfl, rfl⟩))|refine ixv ?_|refine bdz ?_|refine ixs ?_|refine srz ?_ (hj := Nat.le_of_ble_eq_true rfl)|(refine wo ?_; first|(refine ao ?_; first|refine aw ?_|refine oa ?_)|refine oa ?_)|(refine gc ?_; first|refine ct ?_)|refine sq ?_|refine rg ?_|refine xc ?_|refine nl ?_|refine sk ?_|refine bk ?_|refine xb ?_
    exact lp 4 (by omega)
  · repeat' first|(refine gca ?_; first|(refine ca widths_tr ?_; rintro _ _ ⟨rfl, rfl⟩))|refine ixv ?_|refine bdz ?_|refine ixs ?_|refine srz ?_ (hj := Nat.le_of_ble_eq_true rfl)|(refine wo ?_; first|(refine ao ?_; first|refine aw ?_|refine oa ?_)|refine oa ?_)|(refine gc ?_; first|refine ct ?_)|refine sq ?_|refine rg ?_|refine xc ?_|refine nl ?_|refine sk ?_|refine bk ?_|refine xb ?_
    exact lp 5 (by omega)
  · repeat' first|refine lda ?_|(refine wo ?_; first|(refine ao ?_; first|refine oa ?_)|refine oa ?_)|(refine gc ?_; first|refine cf ?_)|refine sq ?_|refine rg ?_|refine xc ?_|refine nl ?_|refine bk ?_|refine xe ?_
    refine TC.loop (ι := Nat × Value) (fun g => [(56, I g.1)]) (fun g => [pt p [g.2, .bool true, I (20 + 4 * t.length), I 0] TWr, own TyB g.2 (By (headB ⟨size, sym, k, seed, t⟩ g.1))]) (fun g => g.1 ≤ 5) (fun g => 5 - g.1) (0, nS) [1, 5, 55] (by simp) ?_
    rintro ⟨i, bv⟩ hi2
    dsimp only at hi2 ⊢
    rcases five_cases hi2 with rfl | rfl | rfl | rfl | rfl | rfl
    · have hP := fun bv => Put_tr p bv (20 + 4 * t.length) size 4 ([]) (.inr (.inr (.inl rfl))) (by omega) (by simp [beB_len]; omega)
      repeat' first|(refine gca ?_; first|(refine ca (hP _) ?_; rintro _ _ ⟨rfl, bv2, hv2, rfl⟩))|refine ixw ?_|refine al fun z => ?_|refine srz ?_ (hj := Nat.le_of_ble_eq_true rfl)|(refine wo ?_; first|(refine ao ?_; first|refine aw ?_|refine oa ?_)|refine oa ?_|refine ld ?_)|(refine gc ?_; first|refine ct ?_)|refine sq ?_|refine rg ?_|refine xc ?_|refine nl ?_|refine sk ?_|refine bk ?_|refine xb ?_
      exact lp (1, bv2) (by dsimp only; omega)
    · have hP := fun bv => Put_tr p bv (20 + 4 * t.length) sym 2 ([] ++ beB 4 size) (.inr (.inl rfl)) (by omega) (by simp [beB_len]; omega)
      repeat' first|(refine gca ?_; first|(refine ca (hP _) ?_; rintro _ _ ⟨rfl, bv2, hv2, rfl⟩))|refine ixw ?_|refine al fun z => ?_|refine srz ?_ (hj := Nat.le_of_ble_eq_true rfl)|(refine wo ?_; first|(refine ao ?_; first|refine aw ?_|refine oa ?_)|refine oa ?_|refine ld ?_)|(refine gc ?_; first|refine ct ?_)|refine sq ?_|refine rg ?_|refine xc ?_|refine nl ?_|refine sk ?_|refine bk ?_|refine xb ?_
      exact lp (2, bv2) (by dsimp only; omega)
    · have hP := fun bv => Put_tr p bv (20 + 4 * t.length) k 4 ([] ++ beB 4 size ++ beB 2 sym) (.inr (.inr (.inl rfl))) (by omega) (by simp [beB_len]; omega)
      repeat' first|(refine gca ?_; first|(refine ca (hP _) ?_; rintro _ _ ⟨rfl, bv2, hv2, rfl⟩))|refine ixw ?_|refine al fun z => ?_|refine srz ?_ (hj := Nat.le_of_ble_eq_true rfl)|(refine wo ?_; first|(refine ao ?_; first|refine aw ?_|refine oa ?_)|refine oa ?_|refine ld ?_)|(refine gc ?_; first|refine ct ?_)|refine sq ?_|refine rg ?_|refine xc ?_|refine nl ?_|refine sk ?_|refine bk ?_|refine xb ?_
      exact lp (3, bv2) (by dsimp only; omega)
    · have hP := fun bv => Put_tr p bv (20 + 4 * t.length) seed 8 ([] ++ beB 4 size ++ beB 2 sym ++ beB 4 k) (.inr (.inr (.inr rfl))) (by omega) (by simp [beB_len]; omega)
      repeat' first|(refine gca ?_; first|(refine ca (hP _) ?_; rintro _ _ ⟨rfl, bv2, hv2, rfl⟩))|refine ixw ?_|refine al fun z => ?_|refine srz ?_ (hj := Nat.le_of_ble_eq_true rfl)|(refine wo ?_; first|(refine ao ?_; first|refine aw ?_|refine oa ?_)|refine oa ?_|refine ld ?_)|(refine gc ?_; first|refine ct ?_)|refine sq ?_|refine rg ?_|refine xc ?_|refine nl ?_|refine sk ?_|refine bk ?_|refine xb ?_
      exact lp (4, bv2) (by dsimp only; omega)
    · have hP := fun bv => Put_tr p bv (20 + 4 * t.length) t.length 2 ([] ++ beB 4 size ++ beB 2 sym ++ beB 4 k ++ beB 8 seed) (.inr (.inl rfl)) (by omega) (by simp [beB_len]; omega)
      repeat' first|(refine gca ?_; first|(refine ca (hP _) ?_; rintro _ _ ⟨rfl, bv2, hv2, rfl⟩))|refine ixw ?_|refine al fun z => ?_|refine srz ?_ (hj := Nat.le_of_ble_eq_true rfl)|(refine wo ?_; first|(refine ao ?_; first|refine aw ?_|refine oa ?_)|refine oa ?_|refine ld ?_)|(refine gc ?_; first|refine ct ?_)|refine sq ?_|refine rg ?_|refine xc ?_|refine nl ?_|refine sk ?_|refine bk ?_|refine xb ?_
      exact lp (5, bv2) (by dsimp only; omega)
    · have hlen : (headB ⟨size, sym, k, seed, t⟩ 5).length = 20 := by simp [headB, beB_len]
      have hbt : MfS.bytes ⟨size, sym, k, seed, t⟩ = headB ⟨size, sym, k, seed, t⟩ 5 ++ wB t t.length := rfl
      rw [hbt]
      generalize headB ⟨size, sym, k, seed, t⟩ 5 = H at *
      repeat' first|(refine wo ?_; first|(refine ao ?_; first|refine oa ?_)|refine oa ?_|refine ld ?_|refine lnm ?_)|(refine gc ?_; first|refine cf ?_)|refine sq ?_|refine rg ?_|refine xc ?_|refine nl ?_|refine bk ?_|refine xe ?_
      refine TC.loop (ι := Nat × Value) (fun g => [(69, I g.1)]) (fun g => [pt p [g.2, .bool true, I (20 + 4 * t.length), I 0] TWr, own TyB g.2 (By (H ++ wB t g.1))]) (fun g => g.1 ≤ t.length) (fun g => t.length - g.1) (0, bv) [1, 5, 67, 68] (by simp) ?_ (hf := by dsimp only; rw [show H ++ wB t 0 = H from List.append_nil H]; first | apply Fit.all | ((repeat (first | (apply Fit.nilN; (repeat (first | apply nrm_nil | apply nrm_cons)); try apply nrm_rfl) | (apply Fit.cons; focus ((repeat (first | apply Tk.here | apply Tk.there)); first | done | fail)))); first | done | fail))
      rintro ⟨j, bv⟩ hj
      dsimp only at hj ⊢
      have hwl := wB_len t j hj
      by_cases hlt : j < t.length
      · have hx := hws _ (mem_getD.2 ⟨j, hlt, rfl⟩)
        have hP := fun bv => Put_tr p bv (20 + 4 * t.length) (t.getD j 0) 4 (H ++ wB t j) (.inr (.inr (.inl rfl))) (by omega) (by rw [List.length_append, hlen, hwl]; omega)
        rw [List.append_assoc, ← wB_succ hlt] at hP
        repeat' first|(refine gca ?_; first|(refine ca (hP _) ?_; rintro _ _ ⟨rfl, bv2, hv2, rfl⟩))|(refine wo ?_; first|(refine ao ?_; first|refine aw ?_|refine oa ?_)|refine oa ?_|refine ixmn ?_|refine li ?_)|(refine gc ?_; first|(refine ci (fun hB => ?_) (fun hB => ?_) <;> try (exfalso; omega)))|refine sq ?_|refine rg ?_|refine xc ?_|refine nl ?_|refine sk ?_|refine bk ?_|refine xb ?_
        exact lp (j + 1, bv2) (by dsimp only; omega)
      · obtain rfl : j = t.length := by omega
        repeat' first|(refine gca ?_; first|(refine ca (Bytes_tr p bv _ (H ++ wB t t.length) (by rw [List.length_append, hlen, hwl]; omega)) ?_; rintro _ _ ⟨o, rfl, ho, rfl⟩))|(refine wo ?_; first|(refine ao ?_; first|refine oa ?_)|refine oa ?_)|(refine gc ?_; first|(refine ci (fun hB => ?_) (fun hB => ?_) <;> try (exfalso; omega)))|refine sq ?_|refine rg ?_|refine xc ?_|refine nl ?_|refine xe ?_|refine rt ?_
        exact r2 ⟨o, rfl, ho, rfl⟩
end Go.Art
set_option linter.unusedSimpArgs false
set_option linter.unusedVariables false
namespace Go.Art
open Go Go.Proofs Go.RowKit
section
variable {P : Program} {E : Env P} {n : Sh} {X : Cx} {s : List K} {fr : Fr} {A A' : List Ch} {ops : Array Oper} {rest : List Oper} {d : Nat} {ty t t' : TypeId} {pos : String} {after : Array Edge} {x y : Operand} {v u z : Value} {by_ : Nat} {xs : List Value} {w : World}
theorem R_copy0 {e : TypeId} {o o2 : Option Addr} {m c c2 : Nat} (ht : lk E.und t = some (.slice e)) (he : lk E.inf e = some (z, 1, by_)) (hx : ev fr x = some (.slice o m c)) (hy : ev fr y = some (.slice o2 0 c2)) :
    OpV P n fr (.call ⟨.builtin .copy, #[x, y], #[t, t']⟩) ty w (I 0) w := ⟨fun a ha _ _ _ _ => by
  obtain ⟨inf, hi, _, hsz, _⟩ := E.info he
  have hl : ∀ b : Addr, (loadCells b 0).run P w = .ok #[] w := fun b => run_loadCells_list (P := P) w b [] (by intro j v h; cases h)
  simp only [execOp, resolve]
  simp only [List.map_toArray, List.map_cons, List.map_nil, ha.ev hx, ha.ev hy]
  cases o <;> cases o2 <;> simp [invoke, builtin, Builtin.copy_, run_underlying (P := P) (E.un ht), Builtin.lenOf, Builtin.firstCells, sizeOf, typeInfo, hi, hsz, hl, storeCells, goInt]⟩
/-- copy to the front of an own slice, of what lies elsewhere. -/
theorem cpf {e : TypeId} {cs : List Value} (kk : TO E n X s ops rest ((d, I cs.length) :: fr) (own e v (cs ++ xs.drop cs.length) :: A')) (hx : ev fr x = some v := by rfl) (hy : ev fr y = some u := by rfl) (hm : Tk (own e v xs) A A' := by (repeat (first | apply Tk.here | apply Tk.there)); first | done | fail) (hu : Has A' (vw u cs) := by first | (apply has_vw; (repeat (first | apply List.Mem.head | apply List.Mem.tail)); first | done | fail) | (apply has_own; (repeat (first | apply List.Mem.head | apply List.Mem.tail)); first | done | fail) | (apply has_ro; (repeat (first | apply List.Mem.head | apply List.Mem.tail)); first | done | fail) | apply has_nil | ((with_reducible apply has_el); (focus (first | (apply has_vels; (repeat (first | apply List.Mem.head | apply List.Mem.tail)); first | done | fail) | (apply has_rels; (repeat (first | apply List.Mem.head | apply List.Mem.tail)); first | done | fail))); omega) | (apply has_pt; (repeat (first | apply List.Mem.head | apply List.Mem.tail)); first | done | fail) | (apply has_lpt; (repeat (first | apply List.Mem.head | apply List.Mem.tail)); first | done | fail) | (apply has_vels; (repeat (first | apply List.Mem.head | apply List.Mem.tail)); first | done | fail) | (apply has_rels; (repeat (first | apply List.Mem.head | apply List.Mem.tail)); first | done | fail) | with_reducible assumption | ((with_reducible apply has_elg); (focus (first | (apply has_velg; (repeat (first | apply List.Mem.head | apply List.Mem.tail)); first | done | fail) | (apply has_relg; (repeat (first | apply List.Mem.head | apply List.Mem.tail)); first | done | fail))); omega) | (apply has_velg; (repeat (first | apply List.Mem.head | apply List.Mem.tail)); first | done | fail) | (apply has_relg; (repeat (first | apply List.Mem.head | apply List.Mem.tail)); first | done | fail) | (apply has_vwf; (repeat (first | apply List.Mem.head | apply List.Mem.tail)); first | done | fail)) (hk : cs.length ≤ xs.length := by omega)
    (h1 : ∀ c ∈ cs, c.oneCell' = true) (ht : lk E.und t = some (.slice e) := by rfl) (he : lk E.inf e = some (z, 1, by_) := by rfl) (hd : Nat.blt d n.n = true := by rfl) :
    TO E n X s ops (⟨some d, .call ⟨.builtin .copy, #[x, y], #[t, t']⟩, ty, pos, after, none⟩ :: rest) fr A := ⟨fun w hw => by
  have h2 := hw.im hm
  have h3 : OwnO w e v xs := h2.mem (List.Mem.head _)
  have h4 : Sl w u cs := has_sl (Sat.cons.1 h2.sat).2.2 hu
  obtain ⟨o, c, e1, g1, g2, g3⟩ := h4
  subst e1
  cases cs with
  | nil =>
    obtain ⟨o', c', e2, _⟩ := h3.sl
    subst e2
    exact (TO.val (fun _ _ => R_copy0 ht he hx hy) (A := A) ⟨fun w' hw' => kk.run w' (hw'.im hm)⟩ hd).run w hw
  | cons a l =>
    obtain ⟨ad, e2, _⟩ := g3 0 _ rfl
    subst e2
    refine SO_copyO hd ht he h3 (Tl.zero h3.sl) (by omega) (by simp) hx hy (fun j u hj => ?_) h1 fun w' hU hO => kk.run w' (h2.set hU (fun b hb => .inl (by show v.ownBlock = some b; simpa using hb)) (show OwnO w' e v _ from by simpa using hO) ?_ (fun _ h => h))
    · obtain ⟨ad2, e3, h5⟩ := g3 j u hj
      cases e3; exact h5
    · rintro b (hb | hb | hb); exact .inl hb; exact hb.elim; exact hb.elim⟩
end
attribute [local irreducible] Fit pt own ro vw mpc lpt vels rels mow lrc dfr
attribute [local irreducible] lmp lme mit velg relg
/-- Bytes with noughts behind them. -/
def padL (m : List Int) (n : Nat) : List Int := m ++ List.replicate (n - m.length) 0
theorem padL_len {m : List Int} {n : Nat} (h : m.length ≤ n) : (padL m n).length = n := by unfold padL; simp; omega
theorem padL_in {m : List Int} (n : Nat) (h : inB m) : inB (padL m n) := fun x hx => by
  rcases List.mem_append.1 hx with hx | hx
  · exact h x hx
  · obtain ⟨_, rfl⟩ := List.mem_replicate.1 hx; exact ⟨by decide, by decide⟩
theorem psized_tr (m : Int) : Tr Tryz.prog 113 [I m] [] [] fun v D => v = .bool (decide (0 ≤ m) && decide (m ≤ 65535)) ∧ D = [] := by
  by_cases h : 0 ≤ m
  · rw [decide_eq_true h]
    refine Tr.enter env _ Tryz.func113 (by kernel_rfl) rfl Tryz.ntmps113 rfl (by repeat (first | exact has00 | refine has01 ?_)) fun w0 => ?_
    repeat' first|(refine wo ?_; first|(refine ao ?_; first|refine oa ?_)|refine oa ?_|refine gy ?_|(refine gsi (fun hB => ?_) (fun hB => ?_) <;> try (exfalso; omega)))|refine sq ?_|refine rg ?_|refine xc ?_|refine nl ?_|refine rt ?_
    exact r1 ⟨rfl, rfl⟩
  · rw [decide_eq_false h]
    refine Tr.enter env _ Tryz.func113 (by kernel_rfl) rfl Tryz.ntmps113 rfl (by repeat (first | exact has00 | refine has01 ?_)) fun w0 => ?_
    repeat' first|(refine wo ?_; first|(refine ao ?_; first|refine oa ?_)|refine oa ?_|refine gn ?_|(refine gsi (fun hB => ?_) (fun hB => ?_) <;> try (exfalso; omega)))|refine sq ?_|refine rg ?_|refine xc ?_|refine nl ?_|refine rt ?_
    exact r1 ⟨rfl, rfl⟩
theorem Pad_tr (b : Value) (m : List Int) (n : Nat) (hm : m.length ≤ n) (hn : n ≤ 65535) : Tr Tryz.prog 102 [b, I n] [vw b (By m)] [] fun v D => ∃ o, v = tup2 o (I 0) ∧ o.oneCell' = true ∧ D = [own TyB o (By (padL m n))] := by
  have hml := By_len m
  refine Tr.enter env _ Tryz.func102 (by kernel_rfl) rfl Tryz.ntmps102 rfl (by repeat (first | exact has00 | refine has01 ?_)) fun w0 => ?_
  repeat' first|(refine gca ?_; first|(refine ca (psized_tr n) ?_; rintro _ _ ⟨rfl, rfl⟩; rw [show (decide (0 ≤ (n : Int)) && decide ((n : Int) ≤ 65535)) = true from by rw [decide_eq_true (Int.natCast_nonneg n), decide_eq_true (by omega)]; rfl]))|refine ln (xs := By m) ?_|(refine wo ?_; first|(refine ao ?_; first|refine oa ?_)|refine oa ?_)|(refine gc ?_; first|refine cf ?_|(refine ci (fun hB => ?_) (fun hB => ?_) <;> try (exfalso; omega)))|refine sq ?_|refine rg ?_|refine xc ?_|refine nl ?_|refine sk ?_|refine bk ?_|refine xb ?_
  refine mkb fun o => ?_
  rw [Int.toNat_natCast]
  refine TO.one (v := o) (xs := By (List.replicate n 0)) fun ho => ?_
  have hrl : (By (List.replicate n 0)).length = n := by rw [By_len, List.length_replicate]
  repeat' first|refine cpf (xs := By (List.replicate n 0)) (cs := By m) ?_ (h1 := By_one _)|(refine wo ?_; first|refine oa ?_)|refine sq ?_|refine rg ?_|refine xc ?_|refine nl ?_|refine rt ?_
  have e : By m ++ (By (List.replicate n 0)).drop (By m).length = By (padL m n) := by
    unfold padL By
    rw [List.map_append, ← List.map_drop, List.length_map, List.drop_replicate]
  rw [e]
  skip
  exact r2 ⟨o, rfl, ho, rfl⟩
abbrev TSz : TypeId := 148
theorem padded_tr (b : Value) (m : List Int) (k : Int) (n : Nat) (hm : m.length ≤ n) (hn : n ≤ 65535) : Tr Tryz.prog 86 [.agg #[I k, I n], b] [vw b (By m)] [] fun v D => v.oneCell' = true ∧ D = [own TyB v (By (padL m n))] := by
  refine Tr.enter env _ Tryz.func86 (by kernel_rfl) rfl Tryz.ntmps86 rfl (by repeat (first | exact has00 | refine has01 ?_)) fun w0 => ?_
  repeat' first|(refine gca ?_; first|(refine ca (Pad_tr b m n hm hn) ?_; rintro _ _ ⟨o, rfl, ho, rfl⟩))|refine bx fun p => ?_|(refine wo ?_; first|refine oa ?_|refine ld ?_)|refine sq ?_|refine rg ?_|refine xc ?_|refine nl ?_|refine rt ?_
  exact r1 ⟨ho, rfl⟩
end Go.Art
set_option linter.unusedSimpArgs false
set_option linter.unusedVariables false
namespace Go.Art
open Go Go.Proofs Go.RowKit
theorem Sl.clip {w : World} {v : Value} {xs : List Value} (h : Sl w v xs) : Sl w (clipV v xs.length) xs := by
  obtain ⟨o, c, rfl, g1, g2, g3⟩ := h
  exact ⟨o, xs.length, rfl, Nat.le_refl _, by omega, g3⟩
/-- A piece with no spare room. -/
def slCl (v : Value) (lo hi : Nat) : Value := clipV (slSub v lo hi) (hi - lo)
theorem slCl_sl {w : World} {v : Value} {xs : List Value} {lo hi : Nat} (h : Sl w v xs) (h1 : lo ≤ hi) (h2 : hi ≤ xs.length) : Sl w (slCl v lo hi) ((xs.take hi).drop lo) := by
  have := (h.sub h1 h2).clip
  rwa [show ((xs.take hi).drop lo).length = hi - lo by simp; omega] at this
theorem slCl_block (v : Value) (lo hi : Nat) : (slCl v lo hi).ownBlock = v.ownBlock := by
  rw [← slSub_block v lo hi, slCl]
  cases slSub v lo hi <;> first | rfl | (rename_i a _ _; cases a <;> rfl)
theorem has_cl {F : List Ch} {v : Value} {xs : List Value} {lo hi : Nat} (h : Has F (vw v xs)) (h1 : lo < hi) (h2 : hi ≤ xs.length) : Has F (vw (slCl v lo hi) ((xs.take hi).drop lo)) :=
  ⟨fun w hw => slCl_sl (h.P w hw) (by omega) h2, fun _ h => h, fun _ h => h, fun b hb => h.ft b (by
    rcases hb with hb | hb | hb
    · exact hb.elim
    · exact hb.elim
    · refine .inr (.inr ⟨fun e => hb.1 (by subst e; simp), ?_⟩)
      rw [← slCl_block v lo hi]; exact hb.2)⟩
section
variable {P : Program} {E : Env P} {n : Sh} {X : Cx} {s : List K} {fr : Fr} {A A' : List Ch} {ops : Array Oper} {rest : List Oper} {d : Nat} {ty t t' : TypeId} {pos : String} {after : Array Edge} {x y y2 y3 : Operand} {v u z : Value} {by_ : Nat} {xs : List Value} {w : World} {lo hi : Int} {k1 k2 k3 : IntKind}
theorem R_sl3 {e : TypeId} (ht : lk E.und t = some (.slice e)) (he : lk E.inf e = some (z, 1, by_)) (hx : ev fr x = some v) (h1 : ev fr y = some (.int k1 lo)) (h2 : ev fr y2 = some (.int k2 hi)) (h3 : ev fr y3 = some (.int k3 hi)) (hS : Sl w v xs) (hb : 0 ≤ lo ∧ lo < hi ∧ hi ≤ xs.length) :
    OpV P n fr (.slice t x (some y) (some y2) (some y3)) ty w (slCl v lo.toNat hi.toNat) w := ⟨fun a ha _ _ _ _ => by
  obtain ⟨inf, hi', _, hsz, _⟩ := E.info he
  obtain ⟨o, c, rfl, g1, g2, g3⟩ := hS
  obtain ⟨p, rfl⟩ : ∃ p : Nat, lo = p := ⟨lo.toNat, by omega⟩
  obtain ⟨q, rfl⟩ : ∃ q : Nat, hi = q := ⟨hi.toNat, by omega⟩
  obtain ⟨r, e0, _⟩ := g3 p _ (List.getElem?_eq_getElem (by omega))
  subst e0
  have b1 : ∀ (k : IntKind) (i m : Nat) (cd : BoundsCode), i ≤ m → (Instr.sliceBound (.int k (i : Int)) m cd).run P w = .ok i w := fun k i m cd hm => by
    have : (0 : Int) ≤ (i : Int) ∧ (i : Int) ≤ (m : Int) := by omega
    simp [Instr.sliceBound, asIntOf, this]
  have hne : ¬ c = p := by omega
  have hne2 : ¬ q = p := by omega
  simp only [execOp, ha.ev hx]
  simp only [Option.map, ha.ev h1, ha.ev h2, ha.ev h3]
  simp [Instr.sliceAt, Instr.slice, run_underlying (P := P) (E.un ht) w, Instr.sliceBounds, sizeOf, typeInfo, hi', hsz, b1 _ q c _ (by omega), b1 _ q q _ (Nat.le_refl _), b1 _ p q _ (by omega), slCl, clipV, slSub, hne, hne2]⟩
theorem sl3 {el : TypeId} (k : TO E n X s ops rest ((d, slCl v lo.toNat hi.toNat) :: fr) A) (hx : ev fr x = some v := by rfl) (h1 : ev fr y = some (.int k1 lo) := by rfl) (h2 : ev fr y2 = some (.int k2 hi) := by rfl) (h3 : ev fr y3 = some (.int k3 hi) := by rfl) (hs : Has A (vw v xs) := by first | (apply has_vw; (repeat (first | apply List.Mem.head | apply List.Mem.tail)); first | done | fail) | (apply has_own; (repeat (first | apply List.Mem.head | apply List.Mem.tail)); first | done | fail) | (apply has_ro; (repeat (first | apply List.Mem.head | apply List.Mem.tail)); first | done | fail) | apply has_nil | ((with_reducible apply has_el); (focus (first | (apply has_vels; (repeat (first | apply List.Mem.head | apply List.Mem.tail)); first | done | fail) | (apply has_rels; (repeat (first | apply List.Mem.head | apply List.Mem.tail)); first | done | fail))); omega) | (apply has_pt; (repeat (first | apply List.Mem.head | apply List.Mem.tail)); first | done | fail) | (apply has_lpt; (repeat (first | apply List.Mem.head | apply List.Mem.tail)); first | done | fail) | (apply has_vels; (repeat (first | apply List.Mem.head | apply List.Mem.tail)); first | done | fail) | (apply has_rels; (repeat (first | apply List.Mem.head | apply List.Mem.tail)); first | done | fail) | with_reducible assumption | ((with_reducible apply has_elg); (focus (first | (apply has_velg; (repeat (first | apply List.Mem.head | apply List.Mem.tail)); first | done | fail) | (apply has_relg; (repeat (first | apply List.Mem.head | apply List.Mem.tail)); first | done | fail))); omega) | (apply has_velg; (repeat (first | apply List.Mem.head | apply List.Mem.tail)); first | done | fail) | (apply has_relg; (repeat (first | apply List.Mem.head | apply List.Mem.tail)); first | done | fail) | (apply has_vwf; (repeat (first | apply List.Mem.head | apply List.Mem.tail)); first | done | fail)) (hb : 0 ≤ lo ∧ lo < hi ∧ hi ≤ xs.length := by omega)
    (ht : lk E.und t = some (.slice el) := by rfl) (he : lk E.inf el = some (z, 1, by_) := by rfl) (hd : Nat.blt d n.n = true := by rfl) : TO E n X s ops (⟨some d, .slice t x (some y) (some y2) (some y3), ty, pos, after, none⟩ :: rest) fr A :=
  TO.val (fun _ h => R_sl3 ht he hx h1 h2 h3 (has_sl h hs) hb) k hd
end
attribute [local irreducible] Fit pt own ro vw mpc lpt vels rels mow lrc dfr
attribute [local irreducible] lmp lme mit velg relg
abbrev TB : TypeId := 25
theorem Chunk_tr (b : Value) (S : Int) (hS : 1 ≤ S) (hb : b.oneCell' = true) : Tr Tryz.prog 85 [b, I S] [] [] fun v D => ∃ c1 c2, v = .func (.func 101) #[] #[ptr c1, ptr c2] ∧ D = [pt c1 [b] TB, pt c2 [I S] 3] := by
  refine Tr.enter env _ Tryz.func85 (by kernel_rfl) rfl Tryz.ntmps85 rfl (by repeat (first | exact has00 | refine has01 ?_)) fun w0 => ?_
  repeat' first|refine bx1 fun c => ?_|(refine wo ?_; first|(refine ao ?_; first|refine oa ?_)|refine oa ?_|refine ld ?_)|(refine gc ?_; first|(refine ci (fun hB => ?_) (fun hB => ?_) <;> try (exfalso; omega)))|refine sq ?_|refine rg ?_|refine xc ?_|refine nl ?_|refine sk ?_|refine rt ?_
  rename_i c1
  exact r1 ⟨c1, c, rfl, rfl⟩
/-- The i-th piece, with noughts behind it; the first j. -/
def chP (m : List Int) (S i : Nat) : List Int := padL ((m.drop (i * S)).take S) S
def chL (m : List Int) (S j : Nat) : List (List Int) := (List.range j).map (chP m S)
theorem chL_succ (m : List Int) (S j : Nat) : chL m S (j + 1) = chL m S j ++ [chP m S j] := by unfold chL; rw [List.range_succ, List.map_append]; rfl
theorem chL_len (m : List Int) (S j : Nat) : (chL m S j).length = j := by unfold chL; simp
structure CkG where
  j : Nat
  at_ : Nat
  o : Value
  hs : List Value
abbrev ckJ (p8 p9 k S : Nat) (m : List Int) (j : Nat) (o : Value) (hs : List Value) : List Ch := [pt p8 [I k, I S] TSz, pt p9 [o] 40, own TyV o hs, relg y8 hs (chL m S j)]
theorem Chunk1_tr (l Dm c1 c2 p8 p9 k S : Nat) (rec : Loop) (b : Value) (m : List Int) (hS : 1 ≤ S ∧ S ≤ 65535) (hm : m.length ≤ 1099511627776)
    (hy : ∀ (j : Nat) (o : Value) (hs : List Value) (h : Value), hs.length = j → o.oneCell' = true → j * S < m.length → Ty Tryz.prog l [h] [vw h (By ((m.drop (j * S)).take S))] ([lrc l rec .ready none, dfr Dm, pt p8 [I k, I S] TSz, pt p9 [o] 40, own TyV o hs, relg y8 hs (chL m S j)])
      fun ok B => ok = true ∧ ∃ o' hs', hs'.length = j + 1 ∧ o'.oneCell' = true ∧ B = [lrc l rec .ready none, dfr Dm, pt p8 [I k, I S] TSz, pt p9 [o'] 40, own TyV o' hs', relg y8 hs' (chL m S (j + 1))]) :
    Tr Tryz.prog 101 [yv l, ptr c1, ptr c2] [lpt c1 [b] TB, lpt c2 [I S] 3, vw b (By m)] [lrc l rec .ready none, dfr Dm, pt p8 [I k, I S] TSz, pt p9 [nS] 40, own TyV nS [], relg y8 [] (chL m S 0)]
      fun _ B => ∃ j o hs, m.length ≤ j * S ∧ (j = 0 ∨ (j - 1) * S < m.length) ∧ hs.length = j ∧ o.oneCell' = true ∧ B = [lrc l rec .ready none, dfr Dm, pt p8 [I k, I S] TSz, pt p9 [o] 40, own TyV o hs, relg y8 hs (chL m S j)] := by
  have hml := By_len m
  refine Tr.enter env _ Tryz.func101 (by kernel_rfl) rfl Tryz.ntmps101 rfl (by repeat (first | exact has00 | refine has01 ?_)) fun w0 => ?_
  repeat' first|(refine wo ?_; first|refine oa ?_)|refine sq ?_|refine rg ?_|refine xc ?_|refine nl ?_|refine bk ?_
  refine TC.loop (ι := CkG) (fun g => [(4, I g.at_)]) (fun g => [lrc l rec .ready none, dfr Dm, pt p8 [I k, I S] TSz, pt p9 [g.o] 40, own TyV g.o g.hs, relg y8 g.hs (chL m S g.j)]) (fun g => g.at_ = g.j * S ∧ (g.j = 0 ∨ (g.j - 1) * S < m.length) ∧ g.hs.length = g.j ∧ g.o.oneCell' = true) (fun g => m.length - g.at_) ⟨0, 0, nS, []⟩ [0, 1, 2] ⟨by simp, .inl rfl, rfl, rfl⟩ ?_ (hf := by dsimp only; first | apply Fit.all | ((repeat (first | (apply Fit.nilN; (repeat (first | apply nrm_nil | apply nrm_cons)); try apply nrm_rfl) | (apply Fit.cons; focus ((repeat (first | apply Tk.here | apply Tk.there)); first | done | fail)))); first | done | fail))
  rintro ⟨j, at_, o, hs⟩ ⟨ha, hp, hl, ho⟩
  dsimp only at ha hp hl ho ⊢
  by_cases hlt : at_ < m.length
  · repeat' first|refine ln (xs := By m) ?_|(refine wo ?_; first|(refine ao ?_; first|refine oa ?_)|refine oa ?_|refine ldl ?_)|(refine gc ?_; first|(refine ci (fun hB => ?_) (fun hB => ?_) <;> try (exfalso; omega)))|refine sq ?_|refine rg ?_|refine xc ?_|refine nl ?_|refine sk ?_|refine bk ?_
    have hmi : minI (S : Int) ((m.length - at_ : Nat) : Int) = ((min S (m.length - at_) : Nat) : Int) := by unfold minI; split <;> omega
    have hpc : ((By m).take (at_ + min S (m.length - at_))).drop at_ = By ((m.drop (j * S)).take S) := by
      rw [← ha]; unfold By; rw [← List.map_take, ← List.map_drop, List.drop_take, Nat.add_sub_cancel_left, Nat.min_def]
      split
      · rfl
      · rw [List.take_of_length_le (by simp), List.take_of_length_le (by simp; omega)]
    have he1 : 1 ≤ min S (m.length - at_) ∧ at_ + min S (m.length - at_) ≤ m.length ∧ min S (m.length - at_) ≤ S := by omega
    generalize min S (m.length - at_) = e at *
    refine TC.fact (p := Tl b b m.length 0) (fun w hw => by have := Tl.zero (has_sl hw (v := b) (xs := By m) (by first | (apply has_vw; (repeat (first | apply List.Mem.head | apply List.Mem.tail)); first | done | fail) | (apply has_own; (repeat (first | apply List.Mem.head | apply List.Mem.tail)); first | done | fail) | (apply has_ro; (repeat (first | apply List.Mem.head | apply List.Mem.tail)); first | done | fail) | apply has_nil | ((with_reducible apply has_el); (focus (first | (apply has_vels; (repeat (first | apply List.Mem.head | apply List.Mem.tail)); first | done | fail) | (apply has_rels; (repeat (first | apply List.Mem.head | apply List.Mem.tail)); first | done | fail))); omega) | (apply has_pt; (repeat (first | apply List.Mem.head | apply List.Mem.tail)); first | done | fail) | (apply has_lpt; (repeat (first | apply List.Mem.head | apply List.Mem.tail)); first | done | fail) | (apply has_vels; (repeat (first | apply List.Mem.head | apply List.Mem.tail)); first | done | fail) | (apply has_rels; (repeat (first | apply List.Mem.head | apply List.Mem.tail)); first | done | fail) | with_reducible assumption | ((with_reducible apply has_elg); (focus (first | (apply has_velg; (repeat (first | apply List.Mem.head | apply List.Mem.tail)); first | done | fail) | (apply has_relg; (repeat (first | apply List.Mem.head | apply List.Mem.tail)); first | done | fail))); omega) | (apply has_velg; (repeat (first | apply List.Mem.head | apply List.Mem.tail)); first | done | fail) | (apply has_relg; (repeat (first | apply List.Mem.head | apply List.Mem.tail)); first | done | fail) | (apply has_vwf; (repeat (first | apply List.Mem.head | apply List.Mem.tail)); first | done | fail))); rwa [hml] at this) fun tz => ?_
    have tl := tz.next (m := at_) (by omega)
    rw [Nat.sub_zero, Nat.zero_add] at tl
    refine rs (fun w => w.heap[c1]? = some (.cells [b].toArray TB (0, 0)) ∧ w.heap[c2]? = some (.cells [I S].toArray 3 (0, 0))) ?_ (fun w hw => ⟨lpt_at (by (repeat (first | apply List.Mem.head | apply List.Mem.tail)); first | done | fail) hw, lpt_at (by (repeat (first | apply List.Mem.head | apply List.Mem.tail)); first | done | fail) hw⟩)
    refine tkl 0 (cs := [I S]) (fun w h => h.2) ?_
    refine tkl 1 (cs := [b]) (fun w h => h.1) ?_
    refine tka 2 ?_
    refine t1 3 ?_
    refine scl (xs := By m) ?_
    rw [hml, Int.toNat_natCast]
    refine nl ?_
    refine te (fun w hw => ⟨lpt_at (by (repeat (first | apply List.Mem.head | apply List.Mem.tail)); first | done | fail) hw, lpt_at (by (repeat (first | apply List.Mem.head | apply List.Mem.tail)); first | done | fail) hw⟩) ?_
    refine t1 4 ?_
    refine lnt (xs := By m) hml tl ?_
    refine nl ?_
    refine te (fun w hw => ⟨lpt_at (by (repeat (first | apply List.Mem.head | apply List.Mem.tail)); first | done | fail) hw, lpt_at (by (repeat (first | apply List.Mem.head | apply List.Mem.tail)); first | done | fail) hw⟩) ?_
    refine t1 5 ?_
    refine mn2 ?_
    rw [hmi]
    refine nl ?_
    refine te (fun w hw => ⟨lpt_at (by (repeat (first | apply List.Mem.head | apply List.Mem.tail)); first | done | fail) hw, lpt_at (by (repeat (first | apply List.Mem.head | apply List.Mem.tail)); first | done | fail) hw⟩) ?_
    refine tka 6 ?_
    refine t0 ?_
    refine xc ?_
    repeat' first|refine sl3 (xs := By m) ?_|(refine wo ?_; first|(refine ao ?_; first|refine aw ?_)|refine oa ?_|refine ldl ?_)|refine sq ?_|refine rg ?_
    rw [show ((at_ : Int) + (e : Int)).toNat = at_ + e by omega, Int.toNat_natCast]
    refine cy (hy j o hs (slCl b at_ (at_ + e)) hl ho (by omega)) ?_ (hp := has1 (by rw [← hpc]; exact has_cl (by first | (apply has_vw; (repeat (first | apply List.Mem.head | apply List.Mem.tail)); first | done | fail) | (apply has_own; (repeat (first | apply List.Mem.head | apply List.Mem.tail)); first | done | fail) | (apply has_ro; (repeat (first | apply List.Mem.head | apply List.Mem.tail)); first | done | fail) | apply has_nil | ((with_reducible apply has_el); (focus (first | (apply has_vels; (repeat (first | apply List.Mem.head | apply List.Mem.tail)); first | done | fail) | (apply has_rels; (repeat (first | apply List.Mem.head | apply List.Mem.tail)); first | done | fail))); omega) | (apply has_pt; (repeat (first | apply List.Mem.head | apply List.Mem.tail)); first | done | fail) | (apply has_lpt; (repeat (first | apply List.Mem.head | apply List.Mem.tail)); first | done | fail) | (apply has_vels; (repeat (first | apply List.Mem.head | apply List.Mem.tail)); first | done | fail) | (apply has_rels; (repeat (first | apply List.Mem.head | apply List.Mem.tail)); first | done | fail) | with_reducible assumption | ((with_reducible apply has_elg); (focus (first | (apply has_velg; (repeat (first | apply List.Mem.head | apply List.Mem.tail)); first | done | fail) | (apply has_relg; (repeat (first | apply List.Mem.head | apply List.Mem.tail)); first | done | fail))); omega) | (apply has_velg; (repeat (first | apply List.Mem.head | apply List.Mem.tail)); first | done | fail) | (apply has_relg; (repeat (first | apply List.Mem.head | apply List.Mem.tail)); first | done | fail) | (apply has_vwf; (repeat (first | apply List.Mem.head | apply List.Mem.tail)); first | done | fail)) (by omega) (by omega)) has0)
    rintro _ _ ⟨rfl, o', hs', hl', ho', rfl⟩
    repeat' first|(refine wo ?_; first|(refine ao ?_; first|refine aw ?_)|refine oa ?_|refine ldl ?_)|(refine gc ?_; first|refine cf ?_)|refine rg ?_|refine xc ?_|refine nl ?_|refine sk ?_|refine xb ?_
    rw [show ((at_ : Int) + (S : Int)) = ((at_ + S : Nat) : Int) by omega]
    exact lp ⟨j + 1, at_ + S, o', hs'⟩ ⟨by dsimp only; rw [ha, Nat.add_mul, Nat.one_mul], by dsimp only; right; rw [Nat.add_sub_cancel]; omega, hl', ho'⟩ (by dsimp only; omega) (hs := by dsimp only; (repeat (refine Sub.cons rfl (by first | rfl | go_num) ?_)); exact Sub.nil) (hf := by dsimp only; first | apply Fit.all | ((repeat (first | (apply Fit.nilN; (repeat (first | apply nrm_nil | apply nrm_cons)); try apply nrm_rfl) | (apply Fit.cons; focus ((repeat (first | apply Tk.here | apply Tk.there)); first | done | fail)))); first | done | fail))
  · repeat' first|refine ln (xs := By m) ?_|(refine wo ?_; first|(refine ao ?_; first|refine oa ?_)|refine oa ?_|refine ldl ?_)|(refine gc ?_; first|(refine ci (fun hB => ?_) (fun hB => ?_) <;> try (exfalso; omega)))|refine sq ?_|refine rg ?_|refine xc ?_|refine nl ?_|refine xe ?_
    exact e0 ⟨j, o, hs, by omega, hp, hl, ho, rfl⟩
end Go.Art
