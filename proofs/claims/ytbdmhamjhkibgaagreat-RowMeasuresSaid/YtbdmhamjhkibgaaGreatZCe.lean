/- Texts put together: Nu Bg Nv Qa Ob Qb Qc Ss Ql Qm So Al Qn Qp Zf Qq Gl Rw Hp Hq. Conditions: none. -/
import Derived.Test.YtbdmhamjhkibgaaGreatZCd
set_option linter.unusedSimpArgs false
set_option linter.unusedVariables false
namespace Go.Art
open Go Go.Proofs Go.RowKit
abbrev TIt : TypeId := 33
abbrev IR (z : Int) (u : Value) (D : List Ch) : Prop := ∃ o, u = .agg #[.bool (decide (z < 0)), o] ∧ o.oneCell' = true ∧ D = [own T64 o (Us (dg z.natAbs))]
def sg (b : Bool) (n : Nat) : Int := if b then -(n : Int) else n
theorem sg_abs (b : Bool) (n : Nat) : (sg b n).natAbs = n := by unfold sg; split <;> omega
theorem sg_neg (b : Bool) (n : Nat) : decide (sg b n < 0) = (b && decide (0 < n)) := by
  unfold sg
  cases b
  · simp
  · simp
attribute [local irreducible] Fit pt own ro vw mpc lpt vels rels mow lrc dfr
theorem IMake_tr (b : Bool) (v : Value) (l : List Nat) (hd : Dg l) (hl : l.length ≤ 1099511627776) : Tr Tryz.prog 52 [.bool b, v] [vw v (Us l)] [] (IR (sg b (nv l))) := by
  have hlp : 0 < (dg (nv l)).length ↔ 0 < nv l := ⟨fun h => Nat.pos_of_ne_zero fun e => by rw [e, dg_zero] at h; simp at h, fun h => dg_len_pos (by omega)⟩
  have hll := dg_len_le hd
  unfold IR
  rw [sg_abs, sg_neg]
  refine Tr.enter env _ Tryz.func52 (by kernel_rfl) rfl Tryz.ntmps52 rfl (by repeat (first | exact has00 | refine has01 ?_)) fun w0 => ?_
  repeat' first|(refine gca ?_; first|(refine ca (Trim_tr v l hd (by omega)) ?_; rintro o _ ⟨ho, rfl⟩))|refine al fun c => ?_|refine bdz ?_|refine srz ?_|refine lda ?_|(refine wo ?_; first|(refine ao ?_; first|refine oa ?_)|refine oa ?_|refine ld ?_|refine lnm ?_|refine sr ?_|refine gy ?_|refine gn ?_|(refine gs (fun hB => ?_) (fun hB => ?_) <;> try (exfalso; omega)))|refine sq ?_|refine rg ?_|refine xc ?_|refine nl ?_|refine rt ?_
  · rename_i b0; subst hB
    exact rca1 (b := b0) (cs := [.bool (decide (0 < ((dg (nv l)).length : Int))), o]) (vs := [.bool (decide (0 < ((dg (nv l)).length : Int))), o]) (T := TIt) ⟨o, by simp [hlp], ho, rfl⟩
  · rename_i b0; subst hB
    exact rca1 (b := b0) (cs := [.bool false, o]) (vs := [.bool false, o]) (T := TIt) ⟨o, rfl, ho, rfl⟩
end Go.Art
set_option linter.unusedSimpArgs false
set_option linter.unusedVariables false
namespace Go.Art
open Go Go.Proofs Go.RowKit
structure Cel (ps : List (Nat × Value)) (qs : List (Nat × List Value)) : Prop where
  eq : ps.map (fun p => (p.1, p.2.cells.toList)) = qs
theorem Cel.nil : Cel [] [] := ⟨rfl⟩
theorem Cel.one {i : Nat} {v : Value} {ps : List (Nat × Value)} {qs : List (Nat × List Value)} (h : v.oneCell' = true) (k : Cel ps qs) : Cel ((i, v) :: ps) ((i, [v]) :: qs) := ⟨by
  rw [List.map_cons, k.eq, oneCell_cells h]⟩
theorem Cel.agg {i : Nat} {cs : List Value} {ps : List (Nat × Value)} {qs : List (Nat × List Value)} (k : Cel ps qs) : Cel ((i, .agg cs.toArray) :: ps) ((i, cs) :: qs) := ⟨by
  rw [List.map_cons, k.eq]
  rfl⟩
def setPartsC (pl : List (Nat × Nat)) : List Value → List (Nat × List Value) → Option (List Value)
  | cs, [] => some cs
  | cs, (i, us) :: r => match pl[i]? with
    | some (off, sz) => bif Nat.beq us.length sz && Nat.ble (off + sz) cs.length then setPartsC pl (cs.take off ++ us ++ cs.drop (off + sz)) r else none
    | none => none
theorem setParts_C {pl : List (Nat × Nat)} : ∀ {ps : List (Nat × Value)} {qs : List (Nat × List Value)} {cs cs' : List Value}, Cel ps qs → setPartsC pl cs qs = some cs' → setParts pl cs ps = some cs'
  | [], qs, cs, cs', h, k => by
    obtain ⟨h⟩ := h
    subst h
    exact k
  | (i, v) :: ps, qs, cs, cs', h, k => by
    obtain ⟨h⟩ := h
    subst h
    simp only [List.map_cons, setPartsC] at k
    simp only [setParts]
    cases hp : pl[i]? with
    | none => rw [hp] at k; cases k
    | some q =>
      obtain ⟨off, sz⟩ := q
      rw [hp] at k
      simp only [Array.length_toList] at k ⊢
      cases hc : Nat.beq v.cells.size sz && Nat.ble (off + sz) cs.length with
      | false => rw [hc] at k; cases k
      | true => rw [hc] at k; exact setParts_C ⟨rfl⟩ k
section
variable {P : Program} {E : Env P} {n : Sh} {X : Cx} {s : List K} {fr : Fr} {A A' : List Ch} {ops : Array Oper} {rest : List Oper} {d : Nat} {ty t : TypeId} {pos : String} {after : Array Edge}
theorem bdg {sz by_ : Nat} {cs : List Value} {fl : List Field} {zs : List Value} {pl : List (Nat × Nat)} {parts : List (Nat × Operand)} {ps : List (Nat × Value)} (k : TO E n X s ops rest ((d, .agg cs.toArray) :: fr) A) (hv : evps fr parts = some ps := by rfl)
    (ht : lk E.und t = some (.struct fl.toArray) := by rfl) (he : lk E.inf t = some (.agg zs.toArray, sz, by_) := by rfl) (hpl : places E.inf fl = some pl := by rfl) (hs : setParts pl zs ps = some cs := by rfl) (hd : Nat.blt d n.n = true := by rfl) :
    TO E n X s ops (⟨some d, .build t parts.toArray, ty, pos, after, none⟩ :: rest) fr A := TO.val (fun _ _ => R_build ht he hpl hv hs) k hd
theorem bdm {sz by_ : Nat} {cs : List Value} {fl : List Field} {zs : List Value} {pl : List (Nat × Nat)} {parts : List (Nat × Operand)} {ps : List (Nat × Value)} {qs : List (Nat × List Value)} (k : TO E n X s ops rest ((d, .agg cs.toArray) :: fr) A) (hv : evps fr parts = some ps := by rfl)
    (ht : lk E.und t = some (.struct fl.toArray) := by rfl) (he : lk E.inf t = some (.agg zs.toArray, sz, by_) := by rfl) (hpl : places E.inf fl = some pl := by rfl) (hq : Cel ps qs := by (repeat (first | exact Cel.nil | apply Cel.agg | (apply Cel.one; focus (first | rfl | assumption)))); first | done | fail) (hs : setPartsC pl zs qs = some cs := by rfl) (hd : Nat.blt d n.n = true := by rfl) :
    TO E n X s ops (⟨some d, .build t parts.toArray, ty, pos, after, none⟩ :: rest) fr A := bdg k hv ht he hpl (setParts_C hq hs) hd
end
end Go.Art
set_option linter.unusedSimpArgs false
set_option linter.unusedVariables false
namespace Go.Art
open Go Go.Proofs Go.RowKit
abbrev iv (z : Int) (o : Value) : Value := .agg #[.bool (decide (z < 0)), o]
abbrev dz (z : Int) : List Nat := dg z.natAbs
theorem ifc {α : Type} {p q : Prop} [Decidable p] [Decidable q] (h : p ↔ q) (a b : α) : (if p then a else b) = if q then a else b := by
  by_cases hp : p
  · rw [if_pos hp, if_pos (h.1 hp)]
  · rw [if_neg hp, if_neg fun hq => hp (h.2 hq)]
theorem dg_len1 {n : Nat} (h : n < 18446744073709551616) : (dg n).length ≤ 1 := (dg_len n 1).2 (by simpa using h)
attribute [local irreducible] Fit pt own ro vw mpc lpt vels rels mow lrc dfr
theorem IOf_tr (x : Nat) (hx : x < 9223372036854775808) : Tr Tryz.prog 81 [I x] [] [] (IR (x : Int)) := by
  have h1 := dg_len1 (n := x) (by omega)
  have hM := fun o => IMake_tr false o (dg x) (Dg_dg x) (by omega)
  have hs : sg false x = (x : Int) := rfl
  simp only [nv_dg, hs] at hM
  unfold IR at hM ⊢
  refine Tr.enter env _ Tryz.func81 (by kernel_rfl) rfl Tryz.ntmps81 rfl (by repeat (first | exact has00 | refine has01 ?_)) fun w0 => ?_
  repeat' first|(refine gca ?_; first|(refine ca (Of_tr x (by omega)) ?_; rintro o _ ⟨ho, rfl⟩)|(refine ca (hM o) ?_; rintro _ _ ⟨o2, rfl, ho2, rfl⟩))|refine al fun c => ?_|refine srz ?_|(refine wo ?_; first|(refine ao ?_; first|refine oa ?_)|refine ntu ?_|refine oa ?_)|(refine gc ?_; first|refine cf ?_)|refine sq ?_|refine rg ?_|refine xc ?_|refine nl ?_|refine sk ?_|refine rt ?_
  exact rca1 (cs := [.bool (decide ((x : Int) < 0)), o2]) (vs := [.bool (decide ((x : Int) < 0)), o2]) (T := TIt) ⟨o2, rfl, ho2, rfl⟩
theorem ICheck_tr (b : Bool) (o : Value) (l : List Nat) : Tr Tryz.prog 87 [.agg #[.bool b, o]] [vw o (Us l)] [] fun u D => u = I (if (b = true ∧ l.length = 0) ∨ (0 < l.length ∧ l.getD (l.length - 1) 0 = 0) then 6 else 0) ∧ D = [] := by
  have hC := Check_tr o l
  obtain ⟨c, hc⟩ : ∃ c : Int, c = (if 0 < l.length ∧ l.getD (l.length - 1) 0 = 0 then 6 else 0) := ⟨_, rfl⟩
  rw [← hc] at hC
  refine Tr.enter env _ Tryz.func87 (by kernel_rfl) rfl Tryz.ntmps87 rfl (by repeat (first | exact has00 | refine has01 ?_)) fun w0 => ?_
  repeat' first|(refine gca ?_; first|(refine ca hC ?_; rintro _ _ ⟨rfl, rfl⟩))|refine bx fun q => ?_|refine lda ?_|(refine wo ?_; first|(refine ao ?_; first|refine oa ?_)|refine oa ?_|refine ld ?_|refine lnm ?_|refine gy ?_|refine gn ?_|(refine gs (fun hB => ?_) (fun hB => ?_) <;> try (exfalso; omega)))|(refine gc ?_; first|refine cf ?_|(refine ci (fun hB => ?_) (fun hB => ?_) <;> try (exfalso; omega)))|refine sq ?_|refine rg ?_|refine xc ?_|refine nl ?_|refine sk ?_|refine rt ?_
  · exact r1 ⟨by rw [if_pos (.inl ⟨by assumption, by omega⟩)], rfl⟩
  · exact r1 ⟨(congrArg I hc).trans (congrArg I (ifc ⟨.inr, fun h => h.resolve_left fun k => by omega⟩ _ _)), rfl⟩
  · exact r1 ⟨(congrArg I hc).trans (congrArg I (ifc ⟨.inr, fun h => h.resolve_left fun k => by rw [hB] at k; cases k.1⟩ _ _)), rfl⟩
theorem by_tr (va vb : Value) (a b : List Nat) (ha : Dg a) (hb : Dg b) (hla : a.length ≤ 549755813888) (hlb : b.length ≤ 549755813888) (hb0 : nv b ≠ 0) : Tr Tryz.prog 126 [va, vb] [vw va (Us a), vw vb (Us b)] [] fun u D => u.oneCell' = true ∧ D = [own T64 u (Us (dg (nv a / nv b)))] := by
  have hD := NDiv_tr va vb a b ha hb hla hlb hb0
  obtain ⟨m, hm⟩ : ∃ m, m = nv a / nv b := ⟨_, rfl⟩
  unfold DivR at hD
  simp only [← hm] at hD
  rw [← hm]
  refine Tr.enter env _ Tryz.func126 (by kernel_rfl) rfl Tryz.ntmps126 rfl (by repeat (first | exact has00 | refine has01 ?_)) fun w0 => ?_
  repeat' first|(refine gca ?_; first|(refine ca hD ?_; rintro _ _ ⟨qv, rv, rfl, hqv, hrv, rfl⟩))|(refine wo ?_; first|refine oa ?_)|refine sq ?_|refine rg ?_|refine xc ?_|refine nl ?_|refine rt ?_
  exact r1 ⟨hqv, rfl⟩
end Go.Art
set_option linter.unusedSimpArgs false
set_option linter.unusedVariables false
namespace Go.Art
open Go Go.Proofs Go.RowKit
abbrev TRt : TypeId := 35
abbrev rv (q : Rat) (vn vd : Value) : Value := .agg #[.bool (decide (q.num < 0)), vn, vd]
abbrev FQ (q : Rat) (u : Value) (D : List Ch) : Prop := ∃ vn vd, u = rv q vn vd ∧ vn.oneCell' = true ∧ vd.oneCell' = true ∧ D = [own T64 vn (Us (dg q.num.natAbs)), own T64 vd (Us (dg q.den))]
abbrev rv0 : Value := .agg #[.bool false, nS, nS]
theorem mk_num (z : Int) {m : Nat} (hm : m ≠ 0) : (mkRat z m).num = z / (Nat.gcd z.natAbs m : Nat) := by
  rw [Rat.mkRat_def, dif_neg hm, Rat.normalize_eq]
theorem mk_den (z : Int) {m : Nat} (hm : m ≠ 0) : (mkRat z m).den = m / Nat.gcd z.natAbs m := by
  rw [Rat.mkRat_def, dif_neg hm, Rat.normalize_eq]
theorem natAbs_div (z : Int) (g : Nat) (h : (g : Int) ∣ z) : (z / (g : Int)).natAbs = z.natAbs / g := by
  obtain ⟨c, rfl⟩ := h
  by_cases hg : g = 0
  · subst hg; simp
  · rw [Int.mul_ediv_cancel_left _ (by omega), Int.natAbs_mul, Int.natAbs_natCast, Nat.mul_div_cancel_left _ (by omega)]
theorem mk_abs (z : Int) {m : Nat} (hm : m ≠ 0) : (mkRat z m).num.natAbs = z.natAbs / Nat.gcd z.natAbs m := by
  rw [mk_num z hm, natAbs_div]
  exact Int.ofNat_dvd_left.2 (Nat.gcd_dvd_left _ _)
theorem mk_neg (z : Int) {m : Nat} (hm : m ≠ 0) : (mkRat z m).num < 0 ↔ z < 0 := by
  have hg : 0 < Nat.gcd z.natAbs m := Nat.gcd_pos_of_pos_right _ (by omega)
  rw [mk_num z hm]
  constructor
  · intro h
    rcases Int.lt_or_le z 0 with h1 | h1
    · exact h1
    · have := Int.ediv_nonneg h1 (Int.natCast_nonneg (Nat.gcd z.natAbs m)); omega
  · intro h; exact Int.ediv_neg_of_neg_of_pos h (by omega)
theorem sg_mk (b : Bool) (n : Nat) {m : Nat} (hm : m ≠ 0) : decide ((mkRat (sg b n) m).num < 0) = (b && decide (0 < n / Nat.gcd n m)) := by
  have hg : 0 < Nat.gcd n m := Nat.gcd_pos_of_pos_right _ (by omega)
  rw [decide_eq_decide.2 (mk_neg _ hm), sg_neg]
  congr 1
  refine decide_eq_decide.2 ⟨fun h => Nat.div_pos (Nat.le_of_dvd h (Nat.gcd_dvd_left _ _)) hg, fun h => ?_⟩
  rcases Nat.eq_zero_or_pos n with h0 | h0
  · subst h0; simp at h
  · exact h0
theorem dg_le {l : List Nat} (hd : Dg l) {n : Nat} (h : n ≤ nv l) : (dg n).length ≤ l.length := Nat.le_trans (dg_mono h) (dg_len_le hd)
attribute [local irreducible] Fit pt own ro vw mpc lpt vels rels mow lrc dfr
theorem lowest_tr (b : Bool) (o dv : Value) (l m : List Nat) (hl : Dg l) (hm : Dg m) (hll : l.length ≤ 68719476736) (hlm : m.length ≤ 68719476736) (hm0 : nv m ≠ 0) :
    Tr Tryz.prog 89 [.agg #[.bool b, o], dv] [vw o (Us l), vw dv (Us m)] [] (FQ (mkRat (sg b (nv l)) (nv m))) := by
  have e1 := mk_abs (sg b (nv l)) hm0
  have e2 := mk_den (sg b (nv l)) hm0
  have e3 := sg_mk b (nv l) hm0
  rw [sg_abs] at e1 e2
  have hg0 : Nat.gcd (nv l) (nv m) ≠ 0 := Nat.ne_of_gt (Nat.gcd_pos_of_pos_right _ (by omega))
  have hgl : (dg (Nat.gcd (nv l) (nv m))).length ≤ m.length := dg_le hm (Nat.gcd_le_right _ (by omega))
  have hB1 := fun g => by_tr o g l (dg (Nat.gcd (nv l) (nv m))) hl (Dg_dg _) (by omega) (by omega) (by rw [nv_dg]; exact hg0)
  have hB2 := fun g => by_tr dv g m (dg (Nat.gcd (nv l) (nv m))) hm (Dg_dg _) (by omega) (by omega) (by rw [nv_dg]; exact hg0)
  have hG := NGcd_tr o dv l m hl hm (by omega) (by omega)
  have hql : (dg (nv l / Nat.gcd (nv l) (nv m))).length ≤ l.length := dg_le hl (Nat.div_le_self _ _)
  have hM := fun u => IMake_tr b u (dg (nv l / Nat.gcd (nv l) (nv m))) (Dg_dg _) (by omega)
  simp only [nv_dg] at hB1 hB2 hM
  unfold IR at hM
  simp only [sg_abs, sg_neg] at hM
  simp only [← e3] at hM
  rw [← e2] at hB2
  rw [← e1] at hB1 hM
  obtain ⟨q, hq⟩ : ∃ q, q = mkRat (sg b (nv l)) (nv m) := ⟨_, rfl⟩
  obtain ⟨g, hgg⟩ : ∃ g, g = Nat.gcd (nv l) (nv m) := ⟨_, rfl⟩
  rw [← hq] at hB1 hB2 hM ⊢
  rw [← hgg] at hB1 hB2 hG
  clear e1 e2 e3 hg0 hgl hql hq hgg
  refine Tr.enter env _ Tryz.func89 (by kernel_rfl) rfl Tryz.ntmps89 rfl (by repeat (first | exact has00 | refine has01 ?_)) fun w0 => ?_
  repeat' first|(refine gca ?_; first|(refine ca hG ?_; rintro gv _ ⟨hgv, rfl⟩))|refine bx fun q1 => ?_|refine al fun c => ?_|(refine wo ?_; first|refine oa ?_|refine ld ?_)|refine sq ?_|refine rg ?_|refine xc ?_|refine nl ?_
  refine rs (fun w => w.heap[q1]? = some (.cells [.bool b, o].toArray TIt (0, 0))) ?_ (fun w hw => pt_at (b := q1) (cs := [.bool b, o]) (T := TIt) (by (repeat (first | apply List.Mem.head | apply List.Mem.tail)); first | done | fail) hw)
  refine tka 0 ?_
  refine tkl 1 (cs := [.bool b, o]) (fun w h => h) ?_
  refine tka 2 ?_
  refine tkl 3 (cs := [.bool b, o]) (fun w h => h) ?_
  refine tka 4 ?_
  refine tka 7 ?_
  refine tka 8 ?_
  refine t1 5 ?_
  refine ca (hB1 gv) ?_
  rintro u1 _ ⟨hu1, rfl⟩
  refine nl ?_
  refine te (fun w hw => pt_at (b := q1) (cs := [.bool b, o]) (T := TIt) (by (repeat (first | apply List.Mem.head | apply List.Mem.tail)); first | done | fail) hw) ?_
  refine t1 6 ?_
  refine ca (hM u1) ?_
  rintro _ _ ⟨u2, rfl, hu2, rfl⟩
  refine nl ?_
  refine te (fun w hw => pt_at (b := q1) (cs := [.bool b, o]) (T := TIt) (by (repeat (first | apply List.Mem.head | apply List.Mem.tail)); first | done | fail) hw) ?_
  refine t1 9 ?_
  refine ca (hB2 gv) ?_
  rintro u3 _ ⟨hu3, rfl⟩
  refine nl ?_
  refine te (fun w hw => pt_at (b := q1) (cs := [.bool b, o]) (T := TIt) (by (repeat (first | apply List.Mem.head | apply List.Mem.tail)); first | done | fail) hw) ?_
  refine t1 10 ?_
  refine bdm ?_
  refine nl ?_
  refine te (fun w hw => pt_at (b := q1) (cs := [.bool b, o]) (T := TIt) (by (repeat (first | apply List.Mem.head | apply List.Mem.tail)); first | done | fail) hw) ?_
  refine t1 11 ?_
  refine srz ?_
  refine nl ?_
  refine te (fun w hw => pt_at (b := q1) (cs := [.bool b, o]) (T := TIt) (by (repeat (first | apply List.Mem.head | apply List.Mem.tail)); first | done | fail) hw) ?_
  refine t0 ?_
  repeat' first|refine xc ?_|refine rt ?_
  exact rca1 (cs := [.bool (decide (q.num < 0)), u2, u3]) (vs := [.bool (decide (q.num < 0)), u2, u3]) (T := TRt) ⟨u2, u3, rfl, hu2, hu3, rfl⟩
end Go.Art
set_option linter.unusedSimpArgs false
set_option linter.unusedVariables false
namespace Go.Art
open Go Go.Proofs Go.RowKit
section
variable {P : Program} {E : Env P} {n : Sh} {X : Cx} {s : List K} {fr : Fr} {A : List Ch} {ops : Array Oper} {rest : List Oper} {d : Nat} {ty t t' : TypeId} {pos : String} {after : Array Edge} {x y : Operand} {b1 b2 : Bool}
theorem R_bne {w : World} (hx : ev fr x = some (.bool b1)) (hy : ev fr y = some (.bool b2)) (ht : lk E.und t = some .bool) : OpV P n fr (.binOp .neq t x y t') ty w (.bool (!(b1 == b2))) w := ⟨fun a ha _ _ _ _ => by
  have hg : (eqGuard .neq t x y (.bool b1) (.bool b2)).run P w = .ok () w := rfl
  simp only [execOp, ha.ev hx, ha.ev hy]
  simp [hg, run_neq_bool (P := P) w t b1 b2 (E.un ht)]⟩
end
def bnd (C : List Ch) : Ch where
  wr := wrs C
  rd := rds C
  bd := fun b => ∃ c ∈ C, c.bd b
  P := Sat C
  loc := fun h hb => ⟨h.ap, fun c hc => c.loc (h.h c hc) fun b hf => hb b (by
    rcases hf with hf | hf | hf
    · exact .inl ⟨c, hc, hf⟩
    · exact .inr (.inl ⟨c, hc, hf⟩)
    · exact .inr (.inr ⟨c, hc, hf⟩))⟩
  lt := fun h hb => h.lt (by
    rcases hb with ⟨c, hc, hf⟩ | ⟨c, hc, hf⟩ | ⟨c, hc, hf⟩
    · exact ⟨c, hc, .inl hf⟩
    · exact ⟨c, hc, .inr (.inl hf)⟩
    · exact ⟨c, hc, .inr (.inr hf)⟩)
theorem bnd_ft {C : List Ch} {b : Nat} : (bnd C).ft b ↔ fts C b := by
  constructor
  · rintro (⟨c, hc, hf⟩ | ⟨c, hc, hf⟩ | ⟨c, hc, hf⟩)
    · exact ⟨c, hc, .inl hf⟩
    · exact ⟨c, hc, .inr (.inl hf)⟩
    · exact ⟨c, hc, .inr (.inr hf)⟩
  · rintro ⟨c, hc, hf | hf | hf⟩
    · exact .inl ⟨c, hc, hf⟩
    · exact .inr (.inl ⟨c, hc, hf⟩)
    · exact .inr (.inr ⟨c, hc, hf⟩)
theorem bnd_wrs {C F : List Ch} {b : Nat} : wrs (bnd C :: F) b ↔ wrs (C ++ F) b := by
  rw [wrs_app]
  constructor
  · rintro ⟨x, hx, hb⟩
    rcases List.mem_cons.1 hx with rfl | hx
    · exact .inl hb
    · exact .inr ⟨x, hx, hb⟩
  · rintro (h | ⟨x, hx, hb⟩)
    · exact ⟨_, List.Mem.head _, h⟩
    · exact ⟨x, List.mem_cons_of_mem _ hx, hb⟩
theorem bnd_rds {C F : List Ch} {b : Nat} : rds (bnd C :: F) b ↔ rds (C ++ F) b := by
  rw [rds_app]
  constructor
  · rintro ⟨x, hx, hb⟩
    rcases List.mem_cons.1 hx with rfl | hx
    · exact .inl hb
    · exact .inr ⟨x, hx, hb⟩
  · rintro (h | ⟨x, hx, hb⟩)
    · exact ⟨_, List.Mem.head _, h⟩
    · exact ⟨x, List.mem_cons_of_mem _ hx, hb⟩
theorem bnd_fts {C F : List Ch} {b : Nat} : fts (bnd C :: F) b ↔ fts (C ++ F) b := by
  rw [fts_app]
  constructor
  · rintro ⟨x, hx, hb⟩
    rcases List.mem_cons.1 hx with rfl | hx
    · exact .inl (bnd_ft.1 hb)
    · exact .inr ⟨x, hx, hb⟩
  · rintro (h | ⟨x, hx, hb⟩)
    · exact ⟨_, List.Mem.head _, bnd_ft.2 h⟩
    · exact ⟨x, List.mem_cons_of_mem _ hx, hb⟩
theorem bnd_sat {C F : List Ch} {w : World} : Sat (bnd C :: F) w ↔ Sat (C ++ F) w := by
  rw [Sat.cons, Sat.app]
  constructor
  · rintro ⟨h1, h2, h3⟩
    refine ⟨h1, h3, fun a ha f hf => ⟨fun b hb hft => (h2 f hf).1 b ⟨a, ha, hb⟩ hft, fun b hb hft => (h2 f hf).2 b hb (bnd_ft.2 ⟨a, ha, hft⟩)⟩⟩
  · rintro ⟨h1, h3, h2⟩
    refine ⟨h1, fun f hf => ⟨fun b hb hft => ?_, fun b hb hft => ?_⟩, h3⟩
    · obtain ⟨a, ha, hb⟩ := hb; exact (h2 a ha f hf).1 b hb hft
    · obtain ⟨a, ha, hft⟩ := bnd_ft.1 hft; exact (h2 a ha f hf).2 b hb hft
theorem im_bnd (C F : List Ch) : Im (C ++ F) (bnd C :: F) := ⟨fun _ h => bnd_sat.2 h, fun _ h => bnd_wrs.1 h, fun _ h => .inr (bnd_rds.1 h), fun _ h => bnd_fts.1 h⟩
theorem un_bnd (C F : List Ch) : Im (bnd C :: F) (C ++ F) := ⟨fun _ h => bnd_sat.1 h, fun _ h => bnd_wrs.2 h, fun _ h => .inr (bnd_rds.2 h), fun _ h => bnd_fts.2 h⟩
theorem bnd_nil (F : List Ch) : Im F (bnd [] :: F) := im_bnd [] F
theorem perm_bnd {C D : List Ch} (p : C.Perm D) (F : List Ch) : Im (bnd C :: F) (bnd D :: F) := (un_bnd C F).trans ((Im.perm (p.append_right F)).trans (im_bnd D F))
theorem bnd_cons (c : Ch) (C F : List Ch) : Im (c :: bnd C :: F) (bnd (c :: C) :: F) := (Im.cons c (un_bnd C F)).trans (im_bnd (c :: C) F)
theorem bnd_snoc (c : Ch) (C F : List Ch) : Im (c :: bnd C :: F) (bnd (C ++ [c]) :: F) := (bnd_cons c C F).trans (perm_bnd (by simpa using (List.perm_append_comm (l₁ := [c]) (l₂ := C))) F)
theorem bnd_uncons (c : Ch) (C F : List Ch) : Im (bnd (c :: C) :: F) (c :: bnd C :: F) := (un_bnd (c :: C) F).trans (Im.cons c (im_bnd C F))
theorem perm_get {α : Type} : ∀ {C : List α} {i : Nat} {c : α}, C[i]? = some c → C.Perm (c :: C.eraseIdx i)
  | [], _, _, h => by simp at h
  | a :: C, 0, c, h => by simp at h; subst h; exact List.Perm.refl _
  | a :: C, i + 1, c, h => by
    have := perm_get (C := C) (i := i) (c := c) (by simpa using h)
    simp only [List.eraseIdx_cons_succ]
    exact (this.cons a).trans (List.Perm.swap _ _ _)
theorem bnd_take {C : List Ch} {i : Nat} {c : Ch} (h : C[i]? = some c) (F : List Ch) : Im (bnd C :: F) (c :: bnd (C.eraseIdx i) :: F) := (perm_bnd (perm_get h) F).trans (bnd_uncons c _ F)
def owls (e : TypeId) (g : Int → Value) (hs : List Value) (ls : List (List Int)) : List Ch := List.zipWith (fun h l => own e h (l.map g)) hs ls
def owl (e : TypeId) (g : Int → Value) (hs : List Value) (ls : List (List Int)) : Ch := bnd (owls e g hs ls)
theorem owls_nb {e : TypeId} {g : Int → Value} {hs : List Value} {ls : List (List Int)} : ∀ c ∈ owls e g hs ls, ∀ b, ¬ c.bd b := fun c hc b hb => by
  unfold owls at hc
  rw [List.mem_iff_getElem] at hc
  obtain ⟨i, hi, rfl⟩ := hc
  rw [List.getElem_zipWith] at hb
  exact hb
instance {e : TypeId} {g : Int → Value} {hs : List Value} {ls : List (List Int)} : NoB (owl e g hs ls) := ⟨fun b ⟨c, hc, hb⟩ => owls_nb c hc b hb⟩
theorem owls_get {e : TypeId} {g : Int → Value} {hs : List Value} {ls : List (List Int)} (hl : hs.length = ls.length) {i : Nat} (h : i < ls.length) : (owls e g hs ls)[i]? = some (own e (hs.getD i nS) ((ls.getD i []).map g)) := by
  unfold owls
  rw [List.getElem?_zipWith, List.getD_eq_getElem?_getD, List.getD_eq_getElem?_getD, List.getElem?_eq_getElem h, List.getElem?_eq_getElem (show i < hs.length by omega)]
  rfl
theorem owl_nil {e : TypeId} {g : Int → Value} (F : List Ch) : Im F (owl e g [] [] :: F) := bnd_nil F
theorem owl_snoc {e : TypeId} {g : Int → Value} {hs : List Value} {ls : List (List Int)} (hl : hs.length = ls.length) (v : Value) (l : List Int) (F : List Ch) : Im (own e v (l.map g) :: owl e g hs ls :: F) (owl e g (hs ++ [v]) (ls ++ [l]) :: F) := by
  have h : owls e g (hs ++ [v]) (ls ++ [l]) = owls e g hs ls ++ [own e v (l.map g)] := by unfold owls; rw [List.zipWith_append hl]; rfl
  unfold owl
  rw [h]
  exact bnd_snoc _ _ F
theorem owl_push {e : TypeId} {g : Int → Value} {hs : List Value} {ls : List (List Int)} {v : Value} {l : List Int} {A F : List Ch} (hl : hs.length = ls.length) (hf : Fit A [own e v (l.map g), owl e g hs ls] F) : Im A (owl e g (hs ++ [v]) (ls ++ [l]) :: F) := Im.trans hf (owl_snoc hl v l F)
theorem owl_take {e : TypeId} {g : Int → Value} {hs : List Value} {ls : List (List Int)} (hl : hs.length = ls.length) {i : Nat} (h : i < ls.length) (F : List Ch) : Im (owl e g hs ls :: F) (own e (hs.getD i nS) ((ls.getD i []).map g) :: bnd ((owls e g hs ls).eraseIdx i) :: F) := bnd_take (owls_get hl h) F
theorem has_owl {e : TypeId} {g : Int → Value} {hs : List Value} {ls : List (List Int)} {F : List Ch} (hl : hs.length = ls.length) (h : owl e g hs ls ∈ F) : Has F (velg g hs ls) := by
  refine ⟨fun w hw => ⟨hl, fun i hi => ?_⟩, fun b h => h, fun b h => h, fun b hb => ⟨_, h, ?_⟩⟩
  · have h1 : Sat (owls e g hs ls) w := hw.h _ h
    have h2 : OwnO w e (hs.getD i nS) ((ls.getD i []).map g) := h1.h _ (List.mem_of_getElem? (owls_get hl hi))
    exact h2.sl
  · rcases hb with hb | hb | ⟨i, hi, _, hx⟩
    · exact hb.elim
    · exact hb.elim
    · exact .inl ⟨_, List.mem_of_getElem? (owls_get hl hi), hx⟩
end Go.Art
set_option linter.unusedSimpArgs false
set_option linter.unusedVariables false
namespace Go.Art
open Go Go.Proofs Go.RowKit
abbrev FQ2 (q : Rat) (e : Int) (u : Value) (D : List Ch) : Prop := ∃ vn vd, u = tup2 (rv q vn vd) (I e) ∧ vn.oneCell' = true ∧ vd.oneCell' = true ∧ D = [own T64 vn (Us (dg q.num.natAbs)), own T64 vd (Us (dg q.den))]
theorem Tm_top {l : List Nat} (h : Tm l) : ¬ (0 < l.length ∧ l.getD (l.length - 1) 0 = 0) := fun ⟨h1, h2⟩ => h.top h1 h2
theorem icheck_ok (z : Int) : ¬ ((decide (z < 0) = true ∧ (dz z).length = 0) ∨ (0 < (dz z).length ∧ (dz z).getD ((dz z).length - 1) 0 = 0)) := by
  rintro (⟨h1, h2⟩ | h)
  · have h3 := dg_nil.1 (List.eq_nil_of_length_eq_zero h2)
    simp at h1; omega
  · exact Tm_top (Tm_dg _) h
attribute [local irreducible] Fit pt own ro vw mpc lpt vels rels mow lrc dfr
theorem FMake_tr (z : Int) (o dv : Value) (m : List Nat) (hm : Dg m) (hll : (dz z).length ≤ 68719476736) (hlm : m.length ≤ 68719476736) (hm0 : nv m ≠ 0) :
    Tr Tryz.prog 51 [iv z o, dv] [vw o (Us (dz z)), vw dv (Us m)] [] (FQ2 (mkRat z (nv m)) 0) := by
  have hC := ICheck_tr (decide (z < 0)) o (dz z)
  rw [if_neg (icheck_ok z)] at hC
  have hN := NLen_tr dv m hm (by omega)
  have hL := lowest_tr (decide (z < 0)) o dv (dz z) m (Dg_dg _) hm hll hlm hm0
  have hs : sg (decide (z < 0)) (nv (dz z)) = z := by
    unfold sg; rw [nv_dg]
    by_cases h : z < 0
    · rw [if_pos (by simpa using h)]; omega
    · rw [if_neg (by simpa using h)]; omega
  rw [hs] at hL
  unfold FQ at hL
  obtain ⟨q, hq⟩ : ∃ q, q = mkRat z (nv m) := ⟨_, rfl⟩
  rw [← hq] at hL ⊢
  refine Tr.enter env _ Tryz.func51 (by kernel_rfl) rfl Tryz.ntmps51 rfl (by repeat (first | exact has00 | refine has01 ?_)) fun w0 => ?_
  repeat' first|(refine gca ?_; first|(refine ca hC ?_; rintro _ _ ⟨rfl, rfl⟩)|(refine ca hN ?_; rintro _ _ ⟨⟨nb, rfl, hnb⟩, rfl⟩)|(refine ca hL ?_; rintro _ _ ⟨vn, vd, rfl, hvn, hvd, rfl⟩))|refine bx fun q1 => ?_|refine al fun c => ?_|refine lda ?_|refine srz ?_|(refine wo ?_; first|(refine ao ?_; first|refine aw ?_|refine aw6 ?_|refine oa ?_|refine adiv ?_|refine amod ?_|refine shr1 ?_|refine shr ?_|refine umod ?_|refine isl ?_|refine ipe ?_|refine ipn ?_|refine ibe ?_)|refine acw ?_|refine ucv ?_|refine anw ?_|refine oa ?_|refine ld ?_|refine ldl ?_|refine lnm ?_|refine ixmn ?_|refine ixm ?_|refine li ?_|refine lb ?_|refine lv ?_|refine ln ?_|refine ixn ?_|refine ix ?_|refine le ?_|refine sr ?_|refine soi ?_|refine sob ?_|refine scm ?_|refine sclm ?_|refine schm ?_|refine gy ?_|refine gn ?_|refine gnn ?_|refine gu ?_|(refine gsi (fun hB => ?_) (fun hB => ?_) <;> try (exfalso; omega))|(refine gsn (fun hB => ?_) (fun hB => ?_) <;> try (exfalso; omega))|(refine gs (fun hB => ?_) (fun hB => ?_) <;> try (exfalso; omega)))|(refine gc ?_; first|refine ct ?_|refine cf ?_|(refine ci (fun hB => ?_) (fun hB => ?_) <;> try (exfalso; omega))|(refine cn (fun hB => ?_) (fun hB => ?_) <;> try (exfalso; omega))|(refine cb (fun hB => ?_) (fun hB => ?_) <;> try (exfalso; omega)))|refine sq ?_|refine rg ?_|refine xc ?_|refine nl ?_|refine sk ?_|refine bk ?_|refine xe ?_|refine rt ?_|refine xb ?_
  exact rca (cs := [.bool (decide (q.num < 0)), vn, vd]) (vs := [.bool (decide (q.num < 0)), vn, vd]) (T := TRt) ⟨vn, vd, rfl, hvn, hvd, rfl⟩
theorem FPair_tr (x y : Nat) (hx : x < 9223372036854775808) (hy : y < 9223372036854775808) (hy0 : y ≠ 0) : Tr Tryz.prog 42 [I x, I y] [] [] (FQ2 (mkRat x y) 0) := by
  have hx1 := dg_len1 (n := x) (by omega)
  have hy1 := dg_len1 (n := y) (by omega)
  have hO := IOf_tr x hx
  have hP := IOf_tr y hy
  have hM := fun o => IMake_tr false o (dg x) (Dg_dg x) (by omega)
  have hs : sg false x = (x : Int) := rfl
  have hR := fun o dv => FMake_tr (x : Int) o dv (dg y) (Dg_dg y) (by unfold dz; rw [Int.natAbs_natCast]; omega) (by omega) (by rw [nv_dg]; exact hy0)
  simp only [nv_dg, hs] at hM hR
  unfold IR at hO hP hM
  unfold dz at hR
  simp only [Int.natAbs_natCast] at hO hP hM hR
  have hxn : decide ((x : Int) < 0) = false := by simp
  have hyn : decide ((y : Int) < 0) = false := by simp
  rw [hxn] at hO
  rw [hyn] at hP
  unfold FQ2 at hR
  obtain ⟨q, hq⟩ : ∃ q, q = mkRat (x : Int) y := ⟨_, rfl⟩
  simp only [← hq] at hR ⊢
  clear hq
  refine Tr.enter env _ Tryz.func42 (by kernel_rfl) rfl Tryz.ntmps42 rfl (by repeat (first | exact has00 | refine has01 ?_)) fun w0 => ?_
  repeat' first|(refine gca ?_; first|(refine ca hO ?_; rintro _ _ ⟨o, rfl, ho, rfl⟩)|(refine ca hP ?_; rintro _ _ ⟨o2, rfl, ho2, rfl⟩))|refine al fun c => ?_|refine srz ?_|(refine wo ?_; first|(refine ao ?_; first|refine aw ?_|refine aw6 ?_|refine oa ?_|refine adiv ?_|refine amod ?_|refine shr1 ?_|refine shr ?_|refine umod ?_|refine isl ?_|refine ipe ?_|refine ipn ?_|refine ibe ?_)|refine acw ?_|refine ucv ?_|refine anw ?_|refine oa ?_|refine ld ?_|refine ldl ?_|refine lnm ?_|refine ixmn ?_|refine ixm ?_|refine li ?_|refine lb ?_|refine lv ?_|refine ln ?_|refine ixn ?_|refine ix ?_|refine le ?_|refine sr ?_|refine soi ?_|refine sob ?_|refine scm ?_|refine sclm ?_|refine schm ?_|refine gy ?_|refine gn ?_|refine gnn ?_|refine gu ?_|(refine gsi (fun hB => ?_) (fun hB => ?_) <;> try (exfalso; omega))|(refine gsn (fun hB => ?_) (fun hB => ?_) <;> try (exfalso; omega))|(refine gs (fun hB => ?_) (fun hB => ?_) <;> try (exfalso; omega)))|(refine gc ?_; first|refine ct ?_|refine cf ?_|(refine ci (fun hB => ?_) (fun hB => ?_) <;> try (exfalso; omega))|(refine cn (fun hB => ?_) (fun hB => ?_) <;> try (exfalso; omega))|(refine cb (fun hB => ?_) (fun hB => ?_) <;> try (exfalso; omega)))|refine sq ?_|refine rg ?_|refine xc ?_|refine nl ?_|refine sk ?_|refine bk ?_|refine xe ?_|refine rt ?_|refine xb ?_
  rename_i d0 d1
  rename Nat => d2
  refine rs (fun w => w.heap[d1]? = some (.cells [.bool false, o2].toArray TIt (0, 0)) ∧ w.heap[d2]? = some (.cells [.bool false, o].toArray TIt (0, 0))) ?_ (fun w hw => ⟨pt_at (b := d1) (cs := [.bool false, o2]) (T := TIt) (by (repeat (first | apply List.Mem.head | apply List.Mem.tail)); first | done | fail) hw, pt_at (b := d2) (cs := [.bool false, o]) (T := TIt) (by (repeat (first | apply List.Mem.head | apply List.Mem.tail)); first | done | fail) hw⟩)
  refine tka 0 ?_
  refine tkl 1 (cs := [.bool false, o]) (fun w h => h.2) ?_
  refine tka 2 ?_
  refine tkl 3 (cs := [.bool false, o2]) (fun w h => h.1) ?_
  refine tk 4 (v := .bool false) (fun _ _ => R_bne (E := env) (b1 := false) (b2 := false) rfl rfl rfl) ?_
  refine tka 5 ?_
  refine tkl 6 (cs := [.bool false, o]) (fun w h => h.2) ?_
  refine tka 8 ?_
  refine tkl 9 (cs := [.bool false, o2]) (fun w h => h.1) ?_
  refine t1 7 ?_
  refine ca (hM o) ?_
  rintro _ _ ⟨o3, rfl, ho3, rfl⟩
  refine nl ?_
  refine te (fun w hw => ⟨pt_at (b := d1) (cs := [.bool false, o2]) (T := TIt) (by (repeat (first | apply List.Mem.head | apply List.Mem.tail)); first | done | fail) hw, pt_at (b := d2) (cs := [.bool false, o]) (T := TIt) (by (repeat (first | apply List.Mem.head | apply List.Mem.tail)); first | done | fail) hw⟩) ?_
  refine t1 10 ?_
  refine ca (hR o3 o2) ?_
  rintro _ _ ⟨vn, vd, rfl, hvn, hvd, rfl⟩
  refine nl ?_
  refine te (fun w hw => ⟨pt_at (b := d1) (cs := [.bool false, o2]) (T := TIt) (by (repeat (first | apply List.Mem.head | apply List.Mem.tail)); first | done | fail) hw, pt_at (b := d2) (cs := [.bool false, o]) (T := TIt) (by (repeat (first | apply List.Mem.head | apply List.Mem.tail)); first | done | fail) hw⟩) ?_
  refine tka 11 ?_
  refine tka 12 ?_
  refine t1 13 ?_
  refine srz ?_
  refine nl ?_
  refine te (fun w hw => ⟨pt_at (b := d1) (cs := [.bool false, o2]) (T := TIt) (by (repeat (first | apply List.Mem.head | apply List.Mem.tail)); first | done | fail) hw, pt_at (b := d2) (cs := [.bool false, o]) (T := TIt) (by (repeat (first | apply List.Mem.head | apply List.Mem.tail)); first | done | fail) hw⟩) ?_
  refine tka 14 ?_
  refine t0 ?_
  repeat' first|(refine wo ?_; first|(refine ao ?_; first|refine aw ?_|refine aw6 ?_|refine oa ?_|refine adiv ?_|refine amod ?_|refine shr1 ?_|refine shr ?_|refine umod ?_|refine isl ?_|refine ipe ?_|refine ipn ?_|refine ibe ?_)|refine acw ?_|refine ucv ?_|refine anw ?_|refine oa ?_|refine ld ?_|refine ldl ?_|refine lnm ?_|refine ixmn ?_|refine ixm ?_|refine li ?_|refine lb ?_|refine lv ?_|refine ln ?_|refine ixn ?_|refine ix ?_|refine le ?_|refine sr ?_|refine soi ?_|refine sob ?_|refine scm ?_|refine sclm ?_|refine schm ?_|refine gy ?_|refine gn ?_|refine gnn ?_|refine gu ?_|(refine gsi (fun hB => ?_) (fun hB => ?_) <;> try (exfalso; omega))|(refine gsn (fun hB => ?_) (fun hB => ?_) <;> try (exfalso; omega))|(refine gs (fun hB => ?_) (fun hB => ?_) <;> try (exfalso; omega)))|(refine gc ?_; first|refine ct ?_|refine cf ?_|(refine ci (fun hB => ?_) (fun hB => ?_) <;> try (exfalso; omega))|(refine cn (fun hB => ?_) (fun hB => ?_) <;> try (exfalso; omega))|(refine cb (fun hB => ?_) (fun hB => ?_) <;> try (exfalso; omega)))|refine sq ?_|refine rg ?_|refine xc ?_|refine nl ?_|refine sk ?_|refine bk ?_|refine xe ?_|refine rt ?_|refine xb ?_
  exact rca (cs := [.bool (decide (q.num < 0)), vn, vd]) (vs := [.bool (decide (q.num < 0)), vn, vd]) (T := TRt) ⟨vn, vd, rfl, hvn, hvd, rfl⟩
end Go.Art
set_option linter.unusedSimpArgs false
set_option linter.unusedVariables false
namespace Go.Art
open Go Go.Proofs Go.RowKit
def fall (n : Nat) : Nat → Nat
  | 0 => 1
  | k + 1 => fall n k * (n - k)
def chs : Nat → Nat → Nat
  | _, 0 => 1
  | 0, _ + 1 => 0
  | n + 1, k + 1 => chs n k + chs n (k + 1)
theorem chs_zero (n : Nat) : chs n 0 = 1 := by cases n <;> rfl
theorem chs_succ (n k : Nat) : chs (n + 1) (k + 1) = chs n k + chs n (k + 1) := rfl
theorem chs_over : ∀ {n k : Nat}, n < k → chs n k = 0
  | 0, k + 1, _ => rfl
  | n + 1, k + 1, h => by rw [chs_succ, chs_over (by omega), chs_over (by omega)]
theorem chs_self : ∀ n : Nat, chs n n = 1
  | 0 => rfl
  | n + 1 => by rw [chs_succ, chs_self n, chs_over (by omega)]
theorem chs_next : ∀ (n k : Nat), chs n (k + 1) * (k + 1) = chs n k * (n - k)
  | 0, 0 => rfl
  | 0, k + 1 => by simp [chs]
  | n + 1, 0 => by
    rw [chs_succ, chs_zero, chs_zero]
    have := chs_next n 0
    rw [chs_zero] at this
    omega
  | n + 1, k + 1 => by
    have h1 := chs_next n k
    have h2 := chs_next n (k + 1)
    rw [chs_succ n (k + 1), chs_succ n k]
    rcases Nat.lt_or_ge k n with h | h
    · obtain ⟨m, rfl⟩ : ∃ m, n = k + 1 + m := ⟨n - (k + 1), by omega⟩
      have e1 : k + 1 + m - k = m + 1 := by omega
      have e2 : k + 1 + m - (k + 1) = m := by omega
      have e3 : k + 1 + m + 1 - (k + 1) = m + 1 := by omega
      rw [e1] at h1
      rw [e2] at h2
      rw [e3]
      generalize chs (k + 1 + m) k = a at *
      generalize chs (k + 1 + m) (k + 1) = b at *
      generalize chs (k + 1 + m) (k + 1 + 1) = c at *
      rw [Nat.add_mul, h2, Nat.add_mul, ← h1]
      simp only [Nat.mul_add, Nat.mul_one]
      omega
    · rw [chs_over (k := k + 1) (by omega), chs_over (k := k + 1 + 1) (by omega), show n + 1 - (k + 1) = 0 by omega]
      simp
theorem chs_symm : ∀ {n k : Nat}, k ≤ n → chs n (n - k) = chs n k
  | 0, k, h => by
    obtain rfl : k = 0 := (by omega)
    rfl
  | n + 1, 0, _ => by rw [Nat.sub_zero, chs_self, chs_zero]
  | n + 1, k + 1, h => by
    rcases Nat.lt_or_ge k n with h1 | h1
    · rw [show n + 1 - (k + 1) = (n - (k + 1)) + 1 by omega, chs_succ, chs_succ, chs_symm (n := n) (k := k + 1) (by omega), show n - (k + 1) + 1 = n - k by omega, chs_symm (n := n) (k := k) (by omega)]
      omega
    · obtain rfl : k = n := by omega
      rw [show k + 1 - (k + 1) = 0 by omega, chs_zero, chs_self]
theorem chs_pos {n k : Nat} (h : k ≤ n) : chs n k ≠ 0 := by
  induction n generalizing k with
  | zero =>
    obtain rfl : k = 0 := (by omega)
    exact Nat.one_ne_zero
  | succ n ih =>
    cases k with
    | zero => rw [chs_zero]; exact Nat.one_ne_zero
    | succ k => rw [chs_succ]; have := ih (k := k) (by omega); omega
theorem chs_le (n k : Nat) : chs n k ≤ 2 ^ n := by
  induction n generalizing k with
  | zero => cases k <;> simp [chs]
  | succ n ih =>
    cases k with
    | zero => rw [chs_zero]; exact Nat.one_le_two_pow
    | succ k => rw [chs_succ, Nat.pow_succ]; have := ih k; have := ih (k + 1); omega
theorem chs_len (n k : Nat) : (dg (chs n k)).length ≤ n + 1 := (dg_len _ _).2 (by
  refine Nat.lt_of_le_of_lt (chs_le n k) (Nat.lt_of_lt_of_le (Nat.pow_lt_pow_right (a := 2) (by decide) (Nat.lt_succ_self n)) (Nat.pow_le_pow_left (by decide) _))
)
theorem fall_pos {n k : Nat} (h : k ≤ n) : fall n k ≠ 0 := by
  induction k with
  | zero => exact Nat.one_ne_zero
  | succ k ih =>
    have := ih (by omega)
    exact Nat.mul_ne_zero this (by omega)
theorem fall_lt {n : Nat} (hn : n ≤ 65536) (k : Nat) : fall n k < 18446744073709551616 ^ (k + 1) := by
  induction k with
  | zero => show 1 < _; simp
  | succ k ih =>
    rw [Nat.pow_succ]
    exact Nat.mul_lt_mul_of_lt_of_le ih (by omega) (by decide)
theorem fall_len {n : Nat} (hn : n ≤ 65536) (k : Nat) : (dg (fall n k)).length ≤ k + 1 := (dg_len _ _).2 (fall_lt hn k)
theorem chs_step {n i : Nat} : chs n i * (n - i) / (i + 1) = chs n (i + 1) := by
  rw [← chs_next, Nat.mul_div_cancel _ (by omega)]
attribute [local irreducible] Fit pt own ro vw mpc lpt vels rels mow lrc dfr
abbrev eNat (u : Value) (D : List Ch) (m : Nat) (e : Int) : Prop := ∃ o, u = tup2 o (I e) ∧ o.oneCell' = true ∧ D = [own T64 o (Us (dg m))]
theorem Falling_tr (n k : Nat) (hn : n ≤ 65536) (hk : k ≤ n) : Tr Tryz.prog 43 [I n, I k] [] [] fun u D => eNat u D (fall n k) 0 := by
  refine Tr.enter env _ Tryz.func43 (by kernel_rfl) rfl Tryz.ntmps43 rfl (by repeat (first | exact has00 | refine has01 ?_)) fun w0 => ?_
  repeat' first|(refine gca ?_; first|(refine ca (Of_tr 1 (by decide)) ?_; rintro o _ ⟨ho, rfl⟩))|(refine wo ?_; first|(refine ao ?_; first|refine oa ?_)|refine oa ?_|refine gy ?_|(refine gsi (fun hB => ?_) (fun hB => ?_) <;> try (exfalso; omega)))|(refine gc ?_; first|refine cf ?_)|refine sq ?_|refine rg ?_|refine xc ?_|refine nl ?_|refine sk ?_|refine bk ?_
  refine TC.loop (ι := Nat × Value) (fun g => [(7, I g.1), (6, g.2)]) (fun g => [own T64 g.2 (Us (dg (fall n g.1)))]) (fun g => g.1 ≤ k ∧ g.2.oneCell' = true) (fun g => k - g.1) (0, o) [0, 1] ⟨Nat.zero_le _, ho⟩ ?_ (hf := by dsimp only; rw [show fall n 0 = 1 from rfl]; first | apply Fit.all | ((repeat (first | (apply Fit.nilN; (repeat (first | apply nrm_nil | apply nrm_cons)); try apply nrm_rfl) | (apply Fit.cons; focus ((repeat (first | apply Tk.here | apply Tk.there)); first | done | fail)))); first | done | fail))
  rintro ⟨i, v⟩ ⟨hi, hv⟩
  dsimp only at hi hv ⊢
  have hG := NGrow_tr v (dg (fall n i)) (n - i) (Dg_dg _) (by omega) (by have := fall_len hn i; omega)
  rw [nv_dg] at hG
  have hm : (I ((n : Int) - i)) = I ((n - i : Nat) : Int) := by rw [Int.ofNat_sub (by omega)]
  have hf : fall n i * (n - i) = fall n (i + 1) := rfl
  rw [hf] at hG
  by_cases hlt : i < k
  · repeat' first|(refine gca ?_; first|(refine ca hG ?_; rintro v2 _ ⟨hv2, rfl⟩))|refine mnn ?_|(refine ntu (m := (n : Int) - i) ?_; rw [show ((n : Int) - i).toNat = n - i by omega])|(refine wo ?_; first|(refine ao ?_; first|refine aw ?_|refine oa ?_)|refine oa ?_)|(refine gc ?_; first|(refine ci (fun hB => ?_) (fun hB => ?_) <;> try (exfalso; omega)))|refine sq ?_|refine rg ?_|refine xc ?_|refine nl ?_|refine sk ?_|refine bk ?_|refine xb ?_
    exact lp (i + 1, v2) ⟨hlt, hv2⟩
  · obtain rfl : i = k := by omega
    repeat' first|refine mnn ?_|(refine wo ?_; first|(refine ao ?_; first|refine aw ?_|refine oa ?_)|refine oa ?_)|(refine gc ?_; first|(refine ci (fun hB => ?_) (fun hB => ?_) <;> try (exfalso; omega)))|refine sq ?_|refine rg ?_|refine xc ?_|refine nl ?_|refine xe ?_|refine rt ?_
    exact r2 ⟨v, rfl, hv, rfl⟩
theorem Choose_tr (n k : Nat) (hn : n ≤ 65536) (hk : k ≤ n) : Tr Tryz.prog 50 [I n, I k] [] [] fun u D => eNat u D (chs n k) 0 := by
  obtain ⟨m, hm⟩ : ∃ m, m = min k (n - k) := ⟨_, rfl⟩
  have hcm : chs n m = chs n k := by
    rw [hm]
    rcases Nat.le_total k (n - k) with h | h
    · rw [Nat.min_eq_left h]
    · rw [Nat.min_eq_right h, chs_symm hk]
  have hmn : m ≤ n := by omega
  have hmi : min (k : Int) ((n : Int) - k) = (m : Int) := by omega
  rw [← hcm]
  clear hcm
  refine Tr.enter env _ Tryz.func50 (by kernel_rfl) rfl Tryz.ntmps50 rfl (by repeat (first | exact has00 | refine has01 ?_)) fun w0 => ?_
  repeat' first|(refine gca ?_; first|(refine ca (Of_tr 1 (by decide)) ?_; rintro o _ ⟨ho, rfl⟩))|(refine mnn ?_; rw [hmi])|(refine wo ?_; first|(refine ao ?_; first|refine aw ?_|refine oa ?_)|refine oa ?_|refine gy ?_)|(refine gc ?_; first|(refine ci (fun hB => ?_) (fun hB => ?_) <;> try (exfalso; omega)))|refine sq ?_|refine rg ?_|refine xc ?_|refine nl ?_|refine sk ?_|refine bk ?_
  clear hmi hm
  refine TC.loop (ι := Nat × Value) (fun g => [(7, I ((g.1 : Int) + 1)), (6, g.2), (8, I ((n : Int) - g.1)), (9, I ((m : Int) - g.1))]) (fun g => [own T64 g.2 (Us (dg (chs n g.1)))]) (fun g => g.1 ≤ m ∧ g.2.oneCell' = true) (fun g => m - g.1) (0, o) [] ⟨Nat.zero_le _, ho⟩ ?_ (hf := by dsimp only; rw [chs_zero]; first | apply Fit.all | ((repeat (first | (apply Fit.nilN; (repeat (first | apply nrm_nil | apply nrm_cons)); try apply nrm_rfl) | (apply Fit.cons; focus ((repeat (first | apply Tk.here | apply Tk.there)); first | done | fail)))); first | done | fail)) (hs := by dsimp only; simp only [Int.natCast_zero, Int.sub_zero, Int.zero_add]; (repeat (refine Sub.cons rfl (by first | rfl | go_num) ?_)); exact Sub.nil)
  rintro ⟨i, v⟩ ⟨hi, hv⟩
  dsimp only at hi hv ⊢
  by_cases hlt : i < m
  · have hG := NGrow_tr v (dg (chs n i)) (n - i) (Dg_dg _) (by omega) (by have := chs_len n i; omega)
    have hl1 : (dg (chs n i * (n - i))).length ≤ n + 2 := by
      have h1 := (dg_len _ _).1 (chs_len n i)
      exact (dg_len _ _).2 (by rw [Nat.pow_succ]; exact Nat.mul_lt_mul_of_lt_of_le h1 (by omega) (by decide))
    have hP := fun v => Part_tr v (dg (chs n i * (n - i))) (i + 1) (Dg_dg _) (by omega) (by omega) (by omega)
    simp only [nv_dg, chs_step] at hG hP
    repeat' first|(refine gca ?_; first|(refine ca hG ?_; rintro v2 _ ⟨hv2, rfl⟩)|(refine ca (hP v2) ?_; rintro _ _ ⟨v3, rfl, hv3, rfl⟩))|(refine ntu (m := (n : Int) - i) ?_; rw [show ((n : Int) - i).toNat = n - i by omega])|(refine ntu (m := (i : Int) + 1) ?_; rw [show ((i : Int) + 1).toNat = i + 1 by omega])|(refine wo ?_; first|(refine ao ?_; first|refine aw ?_|refine oa ?_)|refine oa ?_)|(refine gc ?_; first|(refine ci (fun hB => ?_) (fun hB => ?_) <;> try (exfalso; omega)))|refine sq ?_|refine rg ?_|refine xc ?_|refine nl ?_|refine sk ?_|refine bk ?_|refine xb ?_
    exact lp (i + 1, v3) ⟨hlt, hv3⟩ (hs := by dsimp only; (repeat (refine Sub.cons rfl (by first | rfl | go_num) ?_)); exact Sub.nil)
  · obtain rfl : i = m := by omega
    repeat' first|(refine wo ?_; first|(refine ao ?_; first|refine oa ?_)|refine oa ?_)|(refine gc ?_; first|(refine ci (fun hB => ?_) (fun hB => ?_) <;> try (exfalso; omega)))|refine sq ?_|refine rg ?_|refine xc ?_|refine nl ?_|refine xe ?_|refine rt ?_
    exact r2 ⟨v, rfl, hv, rfl⟩
end Go.Art
set_option linter.unusedSimpArgs false
set_option linter.unusedVariables false
namespace Go.Art
open Go Go.Proofs Go.RowKit

def upto (k : Nat) : List Int := (List.range k).map (fun i : Nat => (i : Int))
theorem upto_length (k : Nat) : (upto k).length = k := by simp [upto]
theorem upto_get (k i : Nat) (h : i < k) : (upto k).getD i 0 = i := by simp [upto, List.getD_eq_getElem?_getD, h]
def swp (l : List Int) (i j : Nat) : List Int := (l.set j (l.getD i 0)).set i (l.getD j 0)
theorem swp_length (l : List Int) (i j : Nat) : (swp l i j).length = l.length := by simp [swp]
theorem swp_get (l : List Int) {i j : Nat} (t : Nat) (hi : i < l.length) (hj : j < l.length) : (swp l i j).getD t 0 = if t = i then l.getD j 0 else if t = j then l.getD i 0 else l.getD t 0 := by
  simp only [swp, List.getD_eq_getElem?_getD, List.getElem?_set, List.length_set]
  by_cases h1 : t = i
  · subst h1; simp [hi]
  · by_cases h2 : t = j
    · subst h2; simp [Ne.symm h1, h1, hj]
    · simp [Ne.symm h1, Ne.symm h2, h1, h2]


def ordL (k : Nat) : Nat → Nat → List Int → BitVec 64 → List Int × BitVec 64
  | 0, _, _, st => ([], st)
  | m + 1, i, l, st => (l.getD (i + (sdraw (k - i) st).1) 0 :: (ordL k m (i + 1) (swp l i (i + (sdraw (k - i) st).1)) (sdraw (k - i) st).2).1, (ordL k m (i + 1) (swp l i (i + (sdraw (k - i) st).1)) (sdraw (k - i) st).2).2)
def Sized (k d : Int) : Prop := 1 ≤ k ∧ k ≤ 65536 ∧ 1 ≤ d ∧ d ≤ k
instance (k d : Int) : Decidable (Sized k d) := by unfold Sized; infer_instance
def ordR (k d : Int) (st : BitVec 64) : (List Int × Int) × (BitVec 64 × Int) := if Sized k d then (((ordL k.toNat d.toNat 0 (upto k.toNat) st).1, 0), ((ordL k.toNat d.toNat 0 (upto k.toNat) st).2, d)) else (([], 3), (st, 0))

def mps (b : Nat) (f : Int → Option Value) (k : Int) (st : Nat) : Ch where
  wr := fun x => x = b
  rd := fun _ => False
  bd := fun _ => False
  P := fun w => MapS w b f k st
  loc := fun {w w'} h hb => by obtain ⟨es, c, h1, h2⟩ := h.ex; exact ⟨es, c, (hb b (.inl rfl)).trans h1, h2⟩
  lt := fun h hb => by rcases hb with rfl | hb | hb; (obtain ⟨es, c, h1, h2⟩ := h.ex; exact lt_of_heap h1); exact hb.elim; exact hb.elim
section
variable {P : Program} {E : Env P} {n : Sh} {X : Cx} {s : List K} {fr : Fr} {A A' : List Ch} {ops : Array Oper} {rest : List Oper} {d : Nat} {ty t kt et : TypeId} {pos : String} {after : Array Edge} {x y u : Operand} {b sz by_ st : Nat} {f : Int → Option Value} {k : Int} {v z : Value}
theorem mpe (kk : ∀ st : Nat, TO E n X s ops rest ((d, .tuple #[(f k).getD z, I st]) :: fr) (mps b (updF f k ((f k).getD z)) k st :: A')) (hx : ev fr x = some (mp b) := by rfl) (hm : Tk (mpc b f) A A' := by (repeat (first | apply Tk.here | apply Tk.there)); first | done | fail) (hy : ev fr y = some (I k) := by rfl)
    (ht : lk E.und t = some (.map kt et) := by rfl) (hk : lk E.und kt = some dI := by rfl) (he : lk E.inf et = some (z, sz, by_) := by rfl) (hd : Nat.blt d n.n = true := by rfl) : TO E n X s ops (⟨some d, .mapEntry t x y, ty, pos, after, none⟩ :: rest) fr A := ⟨fun w hw => by
  have h1 := hw.im hm
  exact SO_mapEntry hd ht hk he hx hy (h1.mem (List.Mem.head _)) fun w' st hU hM => (kk st).run w' (h1.set (d := mps b (updF f k ((f k).getD z)) k st) hU (fun x hb => .inl (List.mem_singleton.1 hb)) hM (by rintro x (rfl | h | h); exact .inl rfl; exact h.elim; exact h.elim) (fun _ h => h))⟩
theorem mes (kk : TO E n X s ops rest fr (mpc b (updF f k v) :: A')) (hx : ev fr x = some (mp b) := by rfl) (hm : Tk (mps b f k st) A A' := by (repeat (first | apply Tk.here | apply Tk.there)); first | done | fail) (hy : ev fr y = some (I st) := by rfl) (hu : ev fr u = some v := by rfl) : TO E n X s ops (⟨none, .entryStore t x y u, ty, pos, after, none⟩ :: rest) fr A := ⟨fun w hw => by
  have h1 := hw.im hm
  exact SO_entryStore hx hy hu (h1.mem (List.Mem.head _)) fun w' hU hM => kk.run w' (h1.set (d := mpc b (updF f k v)) hU (fun x hb => .inl (List.mem_singleton.1 hb)) hM (by rintro x (rfl | h | h); exact .inl rfl; exact h.elim; exact h.elim) (fun _ h => h))⟩
end
attribute [local irreducible] Fit pt own ro vw mpc lpt vels rels mow lrc dfr
attribute [local irreducible] mps lmp lme mit

theorem sized_tr (k d : Int) : Tr Tryz.prog 132 [I k, I d] [] [] fun v D => v = .bool (decide (Sized k d)) ∧ D = [] := by
  refine Tr.enter env _ Tryz.func132 (by kernel_rfl) rfl Tryz.ntmps132 rfl (by repeat (first | exact has00 | refine has01 ?_)) fun w0 => ?_
  repeat' first|(refine wo ?_; first|(refine ao ?_; first|refine oa ?_)|refine oa ?_|refine gy ?_|refine gn ?_|(refine gsi (fun hB => ?_) (fun hB => ?_) <;> try (exfalso; omega)))|refine sq ?_|refine rg ?_|refine xc ?_|refine nl ?_|refine rt ?_
  all_goals refine r1 ⟨?_, rfl⟩
  all_goals first
    | rw [decide_eq_false (fun h : Sized k d => by unfold Sized at h; omega)]
    | (congr 1; exact decide_eq_decide.2 ⟨fun h => by unfold Sized; omega, fun h => by unfold Sized at h; omega⟩)
theorem updF_twice (f : Int → Option Value) (k : Int) (v v' : Value) : updF (updF f k v) k v' = updF f k v' := by
  funext i; unfold updF; by_cases e : i = k
  · rw [if_pos e, if_pos e]
  · rw [if_neg e, if_neg e, if_neg e]
def PlcF (f : Int → Option Value) (g : Int → Int) : Prop := ∀ i, (f i = none ∧ g i = i) ∨ f i = some (I (g i))
def upg (g : Int → Int) (k v : Int) : Int → Int := fun k' => if k' = k then v else g k'
theorem PlcF.put {f : Int → Option Value} {g : Int → Int} (h : PlcF f g) (k v : Int) : PlcF (updF f k (I v)) (upg g k v) := fun i => by
  unfold updF upg
  by_cases e : i = k
  · rw [if_pos e, if_pos e]; exact .inr rfl
  · rw [if_neg e, if_neg e]; exact h i
theorem at_tr (b : Nat) (f : Int → Option Value) (g : Int → Int) (i : Int) (h : PlcF f g) : Tr Tryz.prog 134 [mp b, I i] [] [mpc b f] fun v D => v = I (g i) ∧ D = [mpc b f] := by
  refine Tr.enter env _ Tryz.func134 (by kernel_rfl) rfl Tryz.ntmps134 rfl (by repeat (first | exact has00 | refine has01 ?_)) fun w0 => ?_
  rcases h i with ⟨h1, h2⟩ | h1
  · repeat' first|refine mlN ?_ h1|(refine wo ?_; first|refine oa ?_)|(refine gc ?_; first|refine cf ?_)|refine sq ?_|refine rg ?_|refine xc ?_|refine nl ?_|refine sk ?_|refine rt ?_
    exact r1 ⟨by rw [h2], rfl⟩
  · repeat' first|refine mlS ?_ h1|(refine wo ?_; first|refine oa ?_)|(refine gc ?_; first|refine ct ?_)|refine sq ?_|refine rg ?_|refine xc ?_|refine nl ?_|refine rt ?_
    exact r1 ⟨rfl, rfl⟩
theorem exchange_tr (b : Nat) (f : Int → Option Value) (g : Int → Int) (i j : Int) (h : PlcF f g) : Tr Tryz.prog 133 [mp b, I i, I j] [] [mpc b f] fun _ D => ∃ f', D = [mpc b f'] ∧ PlcF f' (upg (upg g i (g j)) j (g i)) := by
  refine Tr.enter env _ Tryz.func133 (by kernel_rfl) rfl Tryz.ntmps133 rfl (by repeat (first | exact has00 | refine has01 ?_)) fun w0 => ?_
  repeat' first|(refine gca ?_; first|(refine ca (at_tr b f g _ h) ?_; rintro _ _ ⟨rfl, rfl⟩))|refine mpe fun st => ?_|refine mes ?_|refine mu ?_|(refine wo ?_; first|refine oa ?_)|refine rg ?_|refine nl ?_
  rw [updF_twice]
  exact e0 ⟨_, rfl, (h.put i (g j)).put j (g i)⟩
theorem Values_tr (s : Value) (hs : s.oneCell' = true) : Tr Tryz.prog 100 [s] [] [] fun v D => ∃ c, v = .func (.func 137) #[] #[ptr c] ∧ D = [pt c [s] 22] := by
  refine Tr.enter env _ Tryz.func100 (by kernel_rfl) rfl Tryz.ntmps100 rfl (by repeat (first | exact has00 | refine has01 ?_)) fun w0 => ?_
  repeat' first|refine bx1 fun c => ?_|(refine wo ?_; first|refine oa ?_)|refine sq ?_|refine rg ?_|refine xc ?_|refine nl ?_|refine rt ?_
  exact r1 ⟨c, rfl, rfl⟩
theorem Values1_seq (c : Nat) (s : Value) (xs : List Int) : SeqC Tryz.prog 137 #[ptr c] [lpt c [s] 22, vw s (Is xs)] xs.length (· = xs) := by
  refine ⟨?_, fun zs h => by rw [h]; exact Nat.le_refl _, by (repeat (first | exact has00 | refine has01 ?_)); first | done | fail⟩
  intro α l J el a0 h0 hnb hy
  refine Tr.enter env _ Tryz.func137 (by kernel_rfl) rfl Tryz.ntmps137 rfl (by repeat (first | exact has00 | refine has01 ?_)) fun w0 => ?_
  refine TC.leni (l := xs) fun hxl => ?_
  repeat' first|(refine wo ?_; first|refine oa ?_|refine ldl ?_|refine lnm ?_)|refine sq ?_|refine rg ?_|refine xc ?_|refine nl ?_|refine bk ?_
  refine TC.loop (ι := Nat × α) (fun i => [(7, I i.1)]) (fun i => lpt c [s] 22 :: vw s (Is xs) :: J i.2) (fun i => i.1 ≤ xs.length ∧ el i.2 = xs.take i.1) (fun i => xs.length - i.1) (0, a0) [0, 5, 6] ⟨by simp, by rw [h0]; rfl⟩ ?_ (hf := Fit.all)
  rintro ⟨i, a⟩ ⟨h1, h2⟩
  have hF : Fit (lpt c [s] 22 :: vw s (Is xs) :: J a) (J a) [lpt c [s] 22, vw s (Is xs)] := Fit.app [lpt c [s] 22, vw s (Is xs)] (J a)
  refine TC.im (B := lpt c [s] 22 :: vw s (Is xs) :: J a) (by exact Im.perm (by simp)) ?_
  by_cases hi : i < xs.length
  · have hts := take_succ' hi 0
    repeat' first|refine cy (hy a (xs.getD i 0) (by rw [h2, List.length_take]; omega)) ?_ (hs := hF)|(refine wo ?_; first|(refine ao ?_; first|refine oa ?_)|refine oa ?_|refine ixmn ?_|refine li ?_)|(refine gc ?_; first|(refine ci (fun hB => ?_) (fun hB => ?_) <;> try (exfalso; omega)))|refine sq ?_|refine rg ?_|refine xc ?_|refine nl ?_|refine sk ?_|refine bk ?_
    rintro ok B ⟨rfl, a', ha', rfl⟩
    repeat' first|(refine wo ?_; first|(refine ao ?_; first|refine aw ?_)|refine oa ?_)|(refine gc ?_; first|refine cf ?_)|refine rg ?_|refine xc ?_|refine nl ?_|refine sk ?_|refine xb ?_
    refine lp (i + 1, a') ⟨by dsimp only; omega, by dsimp only; rw [ha', h2, hts]⟩ (G := []) (hf := ?_)
    dsimp only; rw [List.append_nil]; exact Fit.comm [lpt c [s] 22, vw s (Is xs)] (J a')
  · obtain rfl : i = xs.length := by dsimp only at h1; omega
    rw [List.take_length] at h2
    repeat' first|(refine wo ?_; first|(refine ao ?_; first|refine oa ?_))|(refine gc ?_; first|(refine ci (fun hB => ?_) (fun hB => ?_) <;> try (exfalso; omega)))|refine sq ?_|refine rg ?_|refine xc ?_|refine nl ?_|refine xe ?_
    exact e0 (D := J a) ⟨a, h2, rfl⟩ (hf := hF) (nb := hnb a)
def RelG (k : Nat) (l : List Int) (g : Int → Int) : Prop := l.length = k ∧ ∀ t : Nat, t < k → g t = l.getD t 0
theorem RelG.step {k : Nat} {l : List Int} {g : Int → Int} (h : RelG k l g) {i j : Nat} (hi : i < k) (hj : j < k) : RelG k (swp l i j) (upg (upg g i (g j)) j (g i)) ∧ upg (upg g i (g j)) j (g i) i = l.getD j 0 := by
  have key : ∀ t : Nat, t < k → upg (upg g i (g j)) j (g i) t = (swp l i j).getD t 0 := fun t ht => by
    rw [swp_get l t (by rw [h.1]; exact hi) (by rw [h.1]; exact hj)]
    unfold upg
    by_cases e1 : t = i
    · subst e1
      rw [if_pos rfl]
      by_cases e2 : (t : Int) = j
      · have e3 : t = j := by omega
        subst e3; rw [if_pos rfl, if_pos rfl, h.2 t ht]
      · rw [if_neg e2, if_pos rfl, h.2 j hj]
    · rw [if_neg e1]
      by_cases e2 : t = j
      · subst e2; rw [if_pos rfl, if_pos rfl, h.2 i hi]
      · rw [if_neg e2, if_neg (by omega), if_neg (by omega), h.2 t ht]
  refine ⟨⟨by rw [swp_length, h.1], key⟩, ?_⟩
  rw [key i hi, swp_get l i (by rw [h.1]; exact hi) (by rw [h.1]; exact hj), if_pos rfl]
structure OrG where
  i : Nat
  o : Value
  f : Int → Option Value
  l : List Int
  outs : List Int
  st : BitVec 64
def pickR (k d : Int) (st : BitVec 64) : List Int × Int := (srt (ordR k d st).1.1, (ordR k d st).1.2)
end Go.Art
set_option linter.unusedSimpArgs false
set_option linter.unusedVariables false
namespace Go.Art
open Go Go.Proofs Go.RowKit
theorem TrB {P : Program} {f : FuncId} {args : List Value} {pre C : List Ch} {R : Value → List Ch → Prop} (h : Tr P f args pre C R) : Tr P f args pre [bnd C] fun v D => ∃ D', R v D' ∧ D = [bnd D'] := by
  refine ⟨fun w hw => ?_, h.lent⟩
  have hw' : Sat (pre ++ C) w := by
    have h1 : Sat (bnd C :: pre) w := hw.perm (List.perm_append_comm (l₁ := pre) (l₂ := [bnd C]))
    exact (bnd_sat.1 h1).perm List.perm_append_comm
  refine (h.run w hw').mono fun v w' ⟨B, hR, hS, hM, hB⟩ => ⟨[bnd B], ⟨B, hR, rfl⟩, ?_, ?_, ?_⟩
  · exact bnd_sat.2 (by rw [List.append_nil]; exact hS)
  · have e1 : ∀ (C : List Ch) (b : Nat), wrs [bnd C] b ↔ wrs C b := fun C b => by have := bnd_wrs (C := C) (F := []) (b := b); rwa [List.append_nil] at this
    have e2 : ∀ (C : List Ch) (b : Nat), rds [bnd C] b ↔ rds C b := fun C b => by have := bnd_rds (C := C) (F := []) (b := b); rwa [List.append_nil] at this
    exact ⟨hM.os, hM.tape, hM.output, hM.size, fun k hk hn => hM.block k hk fun h => hn ((e1 C k).2 h), fun b hb => (hM.wr b ((e1 B b).1 hb)).imp_left (e1 C b).2,
      fun b hb => (hM.rd b ((e2 B b).1 hb)).imp (e1 C b).2 (Or.imp_left (e2 C b).2)⟩
  · intro c hc b hb
    obtain rfl := List.mem_singleton.1 hc
    obtain ⟨x, hx, hb⟩ := hb
    exact hB x hx b hb
theorem TrB1 {P : Program} {f : FuncId} {args : List Value} {pre C : List Ch} {R R' : Value → List Ch → Prop} (h : Tr P f args pre C R) (k : ∀ v D, R v D → R' v [bnd D]) : Tr P f args pre [bnd C] R' := (TrB h).mono fun v D ⟨D', h1, h2⟩ => by rw [h2]; exact k v D' h1
abbrev Lw := BitVec 64 ⊕ (List Int × Bool)
def rowOk (n : Int) (l : List Int) (br : Bool) : Prop := br = false ∧ 0 < l.length ∧ 0 ≤ l.getD 0 0 ∧ l.getD 0 0 < n
instance (n : Int) (l : List Int) (br : Bool) : Decidable (rowOk n l br) := by unfold rowOk; infer_instance
def drw (n : Int) : Lw → (Int × Int) × Lw
  | .inl st => if 1 ≤ n ∧ n ≤ 1099511627776 then ((((sdraw n.toNat st).1 : Int), 0), .inl (sdraw n.toNat st).2) else ((0, 3), .inl st)
  | .inr (l, br) => if 1 ≤ n ∧ n ≤ 1099511627776 then (if rowOk n l br then ((l.getD 0 0, 0), .inr (l.drop 1, false)) else ((0, 12), .inr (l, true))) else ((0, 3), .inr (l, br))
def dru (n : Int) (x : Lw) : Int := if (drw n x).1.2 = 0 then 1 else 0
theorem drw_inl (n : Int) (st : BitVec 64) : drw n (.inl st) = if 1 ≤ n ∧ n ≤ 1099511627776 then ((((sdraw n.toNat st).1 : Int), 0), .inl (sdraw n.toNat st).2) else ((0, 3), .inl st) := rfl
theorem drw_inr (n : Int) (l : List Int) (br : Bool) : drw n (.inr (l, br)) = if 1 ≤ n ∧ n ≤ 1099511627776 then (if rowOk n l br then ((l.getD 0 0, 0), .inr (l.drop 1, false)) else ((0, 12), .inr (l, true))) else ((0, 3), .inr (l, br)) := rfl
theorem drw_rng {n : Int} {x : Lw} (h : (drw n x).1.2 = 0) : 0 ≤ (drw n x).1.1 ∧ (drw n x).1.1 < n := by
  cases x with
  | inl st =>
    rw [drw_inl] at h ⊢
    split
    · have := sdraw_lt (n := n.toNat) (by omega) st
      dsimp only; omega
    · rename_i hn; rw [if_neg hn] at h; cases h
  | inr p =>
    obtain ⟨l, br⟩ := p
    rw [drw_inr] at h ⊢
    split
    · rename_i hn
      rw [if_pos hn] at h
      split
      · rename_i hr
        exact ⟨hr.2.2.1, hr.2.2.2⟩
      · rename_i hr; rw [if_neg hr] at h; cases h
    · rename_i hn; rw [if_neg hn] at h; cases h
theorem drw_bad {n : Int} (x : Lw) (h : ¬ (1 ≤ n ∧ n ≤ 1099511627776)) : drw n x = ((0, 3), x) := by
  cases x with
  | inl st => exact if_neg h
  | inr p => exact if_neg h
abbrev TLr : TypeId := 91
abbrev TpR : TypeId := 89
abbrev TLI : TypeId := 3
def okL (_ : Lw) : Prop := True
theorem okL_row (l : List Int) (br : Bool) : okL (.inr (l, br)) := trivial
theorem okL_drw (n : Int) {x : Lw} (h : okL x) : okL (drw n x).2 := trivial
def lotC (b r : Nat) (sv : Value) (x : Lw) (used : Int) : List Ch :=
  match x with
  | .inl st => lotP b r st used false
  | .inr (l, br) => [pt b [.iface TpR (ptr r), I used, .bool br] TLo, pt r [sv] TLr, own TLI sv (Is l)]
abbrev lot (b r : Nat) (sv : Value) (x : Lw) (used : Int) : Ch := bnd (lotC b r sv x used)
theorem lotC_nb (b r : Nat) (sv : Value) (x : Lw) (used : Int) : ∀ c ∈ lotC b r sv x used, ∀ b, ¬ c.bd b := by
  cases x with
  | inl st => unfold lotC; (repeat (first | exact nb0 | refine nb1 ?_))
  | inr p => unfold lotC; (repeat (first | exact nb0 | refine nb1 ?_))
instance (b r : Nat) (sv : Value) (x : Lw) (used : Int) : NoB (lot b r sv x used) := ⟨fun b h => by obtain ⟨c, hc, h1⟩ := h; exact lotC_nb _ _ _ _ _ c hc b h1⟩
theorem fit_bnd {A C G : List Ch} (h : Fit A C G) : Fit A [bnd C] G := Im.trans h (im_bnd C G)
attribute [local irreducible] Fit pt own ro vw mpc lpt vels rels mow lrc dfr
attribute [local irreducible] lmp lme mit velg relg
theorem ICloneN_tr (v : Value) (l : List Int) (hl : l.length ≤ 17592186044416) : Tr Tryz.prog 63 [v] [vw v (Is l)] [] fun u D => u.oneCell' = true ∧ D = [own TLI u (Is l)] := by
  refine Tr.enter env _ Tryz.func63 (by kernel_rfl) rfl Tryz.ntmps63 rfl (by repeat (first | exact has00 | refine has01 ?_)) fun w0 => ?_
  refine TC.slf (v := v) (xs := Is l) fun a c hv hn => ?_
  rw [Is_len] at hv
  cases a with
  | none =>
    have hl0 : l = [] := by have := hn rfl; simpa using this
    subst hl0 hv
    repeat' first|(refine wo ?_; first|(refine ao ?_; first|refine isl ?_)|refine oa ?_)|(refine gc ?_; first|refine ct ?_)|refine sq ?_|refine rg ?_|refine xc ?_|refine nl ?_|refine rt ?_
    refine TX.im (own_nil TLI _) ?_
    exact r1 ⟨rfl, rfl⟩
  | some a =>
    subst hv
    repeat' first|(refine sl0 fun o => ?_)|(refine api (l := []) (news := l) (fun o => ?_); refine TO.one (v := o) (xs := Is ([] ++ l)) fun ho => ?_)|(refine wo ?_; first|(refine ao ?_; first|refine isl ?_)|refine oa ?_)|(refine gc ?_; first|refine cf ?_)|refine sq ?_|refine rg ?_|refine xc ?_|refine nl ?_|refine sk ?_|refine rt ?_
    exact r1 ⟨ho, rfl⟩
theorem LRow_tr (v : Value) (l : List Int) (hl : l.length ≤ 17592186044416) : Tr Tryz.prog 22 [v] [vw v (Is l)] [] fun u D => ∃ b r sv, u = ptr b ∧ D = [lot b r sv (.inr (l, false)) 0] := by
  refine Tr.enter env _ Tryz.func22 (by kernel_rfl) rfl Tryz.ntmps22 rfl (by repeat (first | exact has00 | refine has01 ?_)) fun w0 => ?_
  repeat' first|(refine gca ?_; first|(refine ca (ICloneN_tr v l hl) ?_; rintro o _ ⟨ho, rfl⟩))|refine bdz ?_|refine bx fun b1 => ?_|(refine wo ?_; first|refine oa ?_)|refine sq ?_|refine rg ?_|refine xc ?_|refine nl ?_|refine rt ?_
  rename_i b0
  exact r1 (D := [lot b1 b0 o (.inr (l, false)) 0]) ⟨b1, b0, o, rfl, rfl⟩ (hf := fit_bnd (C := [pt b1 [.iface TpR (ptr b0), I 0, .bool false] TLo, pt b0 [o] TLr, own TLI o (Is l)]) (by first | apply Fit.all | ((repeat (first | (apply Fit.nilN; (repeat (first | apply nrm_nil | apply nrm_cons)); try apply nrm_rfl) | (apply Fit.cons; focus ((repeat (first | apply Tk.here | apply Tk.there)); first | done | fail)))); first | done | fail)))
theorem rowDraw_tr (r : Nat) (sv : Value) (l : List Int) (n : Int) (h : rowOk n l false) : Tr Tryz.prog 213 [ptr r, I n] [] [pt r [sv] TLr, own TLI sv (Is l)]
    fun v D => v = tup2 (I (l.getD 0 0)) (.bool true) ∧ D = [pt r [slSub sv 1 l.length] TLr, own TLI (slSub sv 1 l.length) (Is (l.drop 1))] := by
  unfold rowOk at h
  have e0 : l.getD (Int.toNat 0) 0 = l.getD 0 0 := rfl
  refine Tr.enter env _ Tryz.func213 (by kernel_rfl) rfl Tryz.ntmps213 rfl (by repeat (first | exact has00 | refine has01 ?_)) fun w0 => ?_
  refine TC.leni (l := l) fun hll => ?_
  refine TC.one (v := sv) (xs := Is l) fun hsv => ?_
  have hs1 := one_slSub hsv 1 l.length
  repeat' first|(refine wo ?_; first|(refine ao ?_; first|refine oa ?_)|refine oa ?_|refine ld ?_|refine lnm ?_|refine ixm ?_|refine li ?_|refine sr ?_|refine sclm ?_|refine gy ?_|(refine gsi (fun hB => ?_) (fun hB => ?_) <;> try (exfalso; omega)))|(refine gc ?_; first|(refine ci (fun hB => ?_) (fun hB => ?_) <;> try (exfalso; omega)))|refine sq ?_|refine rg ?_|refine xc ?_|refine nl ?_|refine sk ?_|refine rt ?_
  refine TX.im (sub_own (e := TLI) (v := sv) (l := l) (lo := 1) (hi := l.length) (by omega) (Nat.le_refl _) (by first | apply Fit.all | ((repeat (first | (apply Fit.nilN; (repeat (first | apply nrm_nil | apply nrm_cons)); try apply nrm_rfl) | (apply Fit.cons; focus ((repeat (first | apply Tk.here | apply Tk.there)); first | done | fail)))); first | done | fail))) ?_
  rw [List.take_length]
  exact r2 ⟨rfl, rfl⟩
theorem rowDraw0_tr (r : Nat) (sv : Value) (l : List Int) (n : Int) (h : ¬ rowOk n l false) : Tr Tryz.prog 213 [ptr r, I n] [] [pt r [sv] TLr, own TLI sv (Is l)]
    fun v D => v = tup2 (I 0) (.bool false) ∧ D = [pt r [sv] TLr, own TLI sv (Is l)] := by
  have h' : ¬ (0 < l.length ∧ 0 ≤ l.getD 0 0 ∧ l.getD 0 0 < n) := fun k => h ⟨rfl, k⟩
  have e0 : l.getD (Int.toNat 0) 0 = l.getD 0 0 := rfl
  refine Tr.enter env _ Tryz.func213 (by kernel_rfl) rfl Tryz.ntmps213 rfl (by repeat (first | exact has00 | refine has01 ?_)) fun w0 => ?_
  refine TC.leni (l := l) fun hll => ?_
  repeat' first|(refine wo ?_; first|(refine ao ?_; first|refine oa ?_)|refine oa ?_|refine ld ?_|refine lnm ?_|refine ixm ?_|refine li ?_|refine gy ?_|refine gn ?_|(refine gsi (fun hB => ?_) (fun hB => ?_) <;> try (exfalso; omega)))|(refine gc ?_; first|refine ct ?_|(refine ci (fun hB => ?_) (fun hB => ?_) <;> try (exfalso; omega)))|refine sq ?_|refine rg ?_|refine xc ?_|refine nl ?_|refine rt ?_
  all_goals first | (exfalso; omega) | exact r2 ⟨rfl, rfl⟩
theorem method_row (a : Addr) (w : World) : (method (Tryz.prog.types.size + Made.depth) 89 (.pointer (some a)) "artesian/lots.draw").run Tryz.prog w = .ok (213, .pointer (some a)) w := by kernel_rfl
theorem noneR_tr (b r : Nat) (used : Int) (br : Bool) : Tr Tryz.prog 71 [ptr b] [lpt b [.iface TpR (ptr r), I used, .bool br] TLo] [] fun v D => v = .bool false ∧ D = [] := by
  refine Tr.enter env _ Tryz.func71 (by kernel_rfl) rfl Tryz.ntmps71 rfl (by repeat (first | exact has00 | refine has01 ?_)) fun w0 => ?_
  repeat' first|refine ife ?_|refine ifn ?_|(refine wo ?_; first|(refine ao ?_; first|refine ipe ?_)|refine oa ?_|refine ldl ?_|refine gy ?_)|refine sq ?_|refine rg ?_|refine xc ?_|refine nl ?_|refine rt ?_
  exact r1 ⟨rfl, rfl⟩
theorem DrawRow_tr (b r : Nat) (sv : Value) (l : List Int) (br : Bool) (used n : Int) (hu : 0 ≤ used ∧ used ≤ 4611686018427387904) : Tr Tryz.prog 96 [ptr b, I n] [] (lotC b r sv (.inr (l, br)) used)
    fun v D => v = tup2 (I (drw n (.inr (l, br))).1.1) (I (drw n (.inr (l, br))).1.2) ∧ ∃ sv', D = lotC b r sv' (drw n (.inr (l, br))).2 (used + dru n (.inr (l, br))) := by
  show Tr _ _ _ _ [pt b [.iface TpR (ptr r), I used, .bool br] TLo, pt r [sv] TLr, own TLI sv (Is l)] _
  by_cases hn : 1 ≤ n ∧ n ≤ 1099511627776
  rotate_left
  · rw [show dru n (.inr (l, br)) = 0 by unfold dru; rw [drw_bad _ hn]; rfl, drw_bad _ hn, Int.add_zero]
    refine Tr.mono (R := fun v D => v = tup2 (I 0) (I 3) ∧ D = [pt b [.iface TpR (ptr r), I used, .bool br] TLo, pt r [sv] TLr, own TLI sv (Is l)]) ?_ (fun v D h => ⟨h.1, sv, h.2⟩)
    refine Tr.enter env _ Tryz.func96 (by kernel_rfl) rfl Tryz.ntmps96 rfl (by repeat (first | exact has00 | refine has01 ?_)) fun w0 => ?_
    repeat' first|(refine gca ?_; first|(refine ca (noneR_tr b r used br) ?_; rintro _ _ ⟨rfl, rfl⟩))|(refine wo ?_; first|(refine ao ?_; first|refine oa ?_)|refine oa ?_|refine gy ?_|refine gn ?_|(refine gsi (fun hB => ?_) (fun hB => ?_) <;> try (exfalso; omega)))|(refine gc ?_; first|refine ct ?_|refine cf ?_|(refine ci (fun hB => ?_) (fun hB => ?_) <;> try (exfalso; omega)))|refine sq ?_|refine rg ?_|refine xc ?_|refine nl ?_|refine bk ?_|refine rt ?_
    all_goals exact r2 ⟨rfl, rfl⟩
  by_cases hr : rowOk n l br
  · have e1 : drw n (.inr (l, br)) = ((l.getD 0 0, 0), .inr (l.drop 1, false)) := by rw [drw_inr, if_pos hn, if_pos hr]
    rw [show dru n (.inr (l, br)) = 1 by unfold dru; rw [e1]; rfl, e1]
    obtain rfl : br = false := hr.1
    refine Tr.mono (R := fun v D => v = tup2 (I (l.getD 0 0)) (I 0) ∧ D = [pt b [.iface TpR (ptr r), I (used + 1), .bool false] TLo, pt r [slSub sv 1 l.length] TLr, own TLI (slSub sv 1 l.length) (Is (l.drop 1))]) ?_ (fun v D h => ⟨h.1, slSub sv 1 l.length, h.2⟩)
    refine Tr.enter env _ Tryz.func96 (by kernel_rfl) rfl Tryz.ntmps96 rfl (by repeat (first | exact has00 | refine has01 ?_)) fun w0 => ?_
    repeat' first|(refine gca ?_; first|(refine ca (noneR_tr b r used false) ?_; rintro _ _ ⟨rfl, rfl⟩))|(refine civ (rowDraw_tr r sv l n hr) ?_ (method_row _); rintro _ _ ⟨rfl, rfl⟩)|(refine wo ?_; first|(refine ao ?_; first|refine aw ?_|refine oa ?_)|refine oa ?_|refine ld ?_|refine sr ?_|refine gy ?_|(refine gsi (fun hB => ?_) (fun hB => ?_) <;> try (exfalso; omega)))|(refine gc ?_; first|refine cf ?_|(refine ci (fun hB => ?_) (fun hB => ?_) <;> try (exfalso; omega)))|refine sq ?_|refine rg ?_|refine xc ?_|refine nl ?_|refine sk ?_|refine bk ?_|refine rt ?_|refine xb ?_
    exact r2 ⟨rfl, rfl⟩
  · have e1 : drw n (.inr (l, br)) = ((0, 12), .inr (l, true)) := by rw [drw_inr, if_pos hn, if_neg hr]
    rw [show dru n (.inr (l, br)) = 0 by unfold dru; rw [e1]; rfl, e1, Int.add_zero]
    refine Tr.mono (R := fun v D => v = tup2 (I 0) (I 12) ∧ D = [pt b [.iface TpR (ptr r), I used, .bool true] TLo, pt r [sv] TLr, own TLI sv (Is l)]) ?_ (fun v D h => ⟨h.1, sv, h.2⟩)
    cases br with
    | true =>
      refine Tr.enter env _ Tryz.func96 (by kernel_rfl) rfl Tryz.ntmps96 rfl (by repeat (first | exact has00 | refine has01 ?_)) fun w0 => ?_
      repeat' first|(refine gca ?_; first|(refine ca (noneR_tr b r used true) ?_; rintro _ _ ⟨rfl, rfl⟩))|(refine wo ?_; first|(refine ao ?_; first|refine oa ?_)|refine oa ?_|refine ld ?_|refine gy ?_|(refine gsi (fun hB => ?_) (fun hB => ?_) <;> try (exfalso; omega)))|(refine gc ?_; first|refine ct ?_|refine cf ?_|(refine ci (fun hB => ?_) (fun hB => ?_) <;> try (exfalso; omega)))|refine sq ?_|refine rg ?_|refine xc ?_|refine nl ?_|refine bk ?_|refine rt ?_
      exact r2 ⟨rfl, rfl⟩
    | false =>
      refine Tr.enter env _ Tryz.func96 (by kernel_rfl) rfl Tryz.ntmps96 rfl (by repeat (first | exact has00 | refine has01 ?_)) fun w0 => ?_
      repeat' first|(refine gca ?_; first|(refine ca (noneR_tr b r used false) ?_; rintro _ _ ⟨rfl, rfl⟩))|(refine civ (rowDraw0_tr r sv l n hr) ?_ (method_row _); rintro _ _ ⟨rfl, rfl⟩)|(refine wo ?_; first|(refine ao ?_; first|refine oa ?_)|refine oa ?_|refine ld ?_|refine sr ?_|refine gy ?_|(refine gsi (fun hB => ?_) (fun hB => ?_) <;> try (exfalso; omega)))|(refine gc ?_; first|refine ct ?_|refine cf ?_|(refine ci (fun hB => ?_) (fun hB => ?_) <;> try (exfalso; omega)))|refine sq ?_|refine rg ?_|refine xc ?_|refine nl ?_|refine sk ?_|refine bk ?_|refine rt ?_|refine xb ?_
      exact r2 ⟨rfl, rfl⟩
theorem DrawL_tr (b r : Nat) (sv : Value) (x : Lw) (used n : Int) (hx : okL x) (hu : 0 ≤ used ∧ used ≤ 4611686018427387904) : Tr Tryz.prog 96 [ptr b, I n] [] [lot b r sv x used]
    fun v D => v = tup2 (I (drw n x).1.1) (I (drw n x).1.2) ∧ ∃ sv', D = [lot b r sv' (drw n x).2 (used + dru n x)] := by
  cases x with
  | inl st =>
    refine TrB1 (C := lotC b r sv (.inl st) used) (Draw_tr b r st used n hu) fun v D h => ?_
    have e : ldraw n st used = ((drw n (.inl st)).1, ((if 1 ≤ n ∧ n ≤ 1099511627776 then (sdraw n.toNat st).2 else st), used + dru n (.inl st))) ∧ (drw n (.inl st)).2 = .inl (if 1 ≤ n ∧ n ≤ 1099511627776 then (sdraw n.toNat st).2 else st) := by
      unfold dru ldraw
      rw [drw_inl]
      split
      · exact ⟨rfl, rfl⟩
      · rw [if_neg (show ¬ (3 : Int) = 0 by decide), Int.add_zero]; exact ⟨rfl, rfl⟩
    rw [e.1] at h
    rw [e.2]
    exact ⟨h.1, sv, by rw [h.2]; rfl⟩
  | inr p =>
    obtain ⟨l, br⟩ := p
    exact TrB1 (DrawRow_tr b r sv l br used n hu) fun v D ⟨h1, sv', h2⟩ => ⟨h1, sv', by rw [h2]⟩
end Go.Art
set_option linter.unusedSimpArgs false
set_option linter.unusedVariables false
namespace Go.Art
open Go Go.Proofs Go.RowKit
def ordW (k : Nat) : Nat → Nat → List Int → Lw → (List Int × Int) × Lw
  | 0, _, _, x => (([], 0), x)
  | m + 1, i, l, x =>
    if (drw ((k : Int) - i) x).1.2 = 0 then
      ((l.getD (i + (drw ((k : Int) - i) x).1.1.toNat) 0 :: (ordW k m (i + 1) (swp l i (i + (drw ((k : Int) - i) x).1.1.toNat)) (drw ((k : Int) - i) x).2).1.1,
        (ordW k m (i + 1) (swp l i (i + (drw ((k : Int) - i) x).1.1.toNat)) (drw ((k : Int) - i) x).2).1.2), (ordW k m (i + 1) (swp l i (i + (drw ((k : Int) - i) x).1.1.toNat)) (drw ((k : Int) - i) x).2).2)
    else (([], (drw ((k : Int) - i) x).1.2), (drw ((k : Int) - i) x).2)
theorem ordW_len (k : Nat) : ∀ (m i : Nat) (l : List Int) (x : Lw), (ordW k m i l x).1.1.length ≤ m ∧ ((ordW k m i l x).1.2 = 0 → (ordW k m i l x).1.1.length = m)
  | 0, _, _, _ => ⟨Nat.le_refl _, fun _ => rfl⟩
  | m + 1, i, l, x => by
    unfold ordW
    split
    · have := ordW_len k m (i + 1) (swp l i (i + (drw ((k : Int) - i) x).1.1.toNat)) (drw ((k : Int) - i) x).2
      refine ⟨by dsimp only; rw [List.length_cons]; omega, fun h => ?_⟩
      dsimp only at h ⊢
      rw [List.length_cons, this.2 h]
    · rename_i h; exact ⟨Nat.zero_le _, fun h1 => absurd h1 h⟩
def ordO (k d : Int) (x : Lw) : (List Int × Int) × (Lw × Int) :=
  if Sized k d then ((if (ordW k.toNat d.toNat 0 (upto k.toNat) x).1.2 = 0 then (ordW k.toNat d.toNat 0 (upto k.toNat) x).1.1 else [], (ordW k.toNat d.toNat 0 (upto k.toNat) x).1.2), ((ordW k.toNat d.toNat 0 (upto k.toNat) x).2, ((ordW k.toNat d.toNat 0 (upto k.toNat) x).1.1.length : Int)))
  else (([], 3), (x, 0))
theorem ordO_len (k d : Int) (x : Lw) : (ordO k d x).1.1.length ≤ 65536 := by
  unfold ordO
  split
  · rename_i h
    unfold Sized at h
    have := ordW_len k.toNat d.toNat 0 (upto k.toNat) x
    dsimp only
    split
    · omega
    · simp
  · simp
def pickO (k d : Int) (x : Lw) : List Int × Int := (srt (ordO k d x).1.1, (ordO k d x).1.2)
structure OwG where
  i : Nat
  o : Value
  f : Int → Option Value
  l : List Int
  outs : List Int
  sv : Value
  x : Lw
attribute [local irreducible] Fit pt own ro vw mpc lpt vels rels mow lrc dfr
attribute [local irreducible] mps lmp lme mit
theorem OrderL_tr (b r : Nat) (sv : Value) (x : Lw) (used k d : Int) (hx : okL x) (hu : 0 ≤ used ∧ used ≤ 1152921504606846976) : Tr Tryz.prog 98 [ptr b, I k, I d] [] [lot b r sv x used]
    fun v D => ∃ o sv', v = tup2 o (I (ordO k d x).1.2) ∧ D = [own TLI o (Is (ordO k d x).1.1), lot b r sv' (ordO k d x).2.1 (used + (ordO k d x).2.2)] := by
  have hl0 : drw 0 x = ((0, 3), x) := drw_bad x (by omega)
  have hu0 : dru 0 x = 0 := by unfold dru; rw [hl0]; rfl
  have hD0 := DrawL_tr b r sv x used 0 hx (by omega)
  rw [hl0, hu0, Int.add_zero] at hD0
  clear hl0 hu0
  by_cases hsz : Sized k d
  rotate_left
  · rw [show ordO k d x = (([], 3), (x, 0)) from if_neg hsz, Int.add_zero]
    refine Tr.enter env _ Tryz.func98 (by kernel_rfl) rfl Tryz.ntmps98 rfl (by repeat (first | exact has00 | refine has01 ?_)) fun w0 => ?_
    refine TC.im (own_nil TLI _) ?_
    repeat' first|(refine gca ?_; first|(refine ca hD0 ?_; rintro _ _ ⟨rfl, sv1, rfl⟩)|(refine ca (sized_tr k d) ?_; rintro _ _ ⟨rfl, rfl⟩; rw [decide_eq_false hsz]))|(refine wo ?_; first|(refine ao ?_; first|refine oa ?_)|refine oa ?_)|(refine gc ?_; first|refine ct ?_|refine cf ?_)|refine sq ?_|refine rg ?_|refine xc ?_|refine nl ?_|refine sk ?_|refine rt ?_
    exact r2 ⟨nS, sv1, rfl, rfl⟩
  have hO : ordO k d x = _ := if_pos hsz
  rw [hO]
  clear hO
  obtain ⟨k1, k2, d1, d2⟩ := id hsz
  refine Tr.enter env _ Tryz.func98 (by kernel_rfl) rfl Tryz.ntmps98 rfl (by repeat (first | exact has00 | refine has01 ?_)) fun w0 => ?_
  refine TC.im (own_nil TLI _) ?_
  repeat' first|(refine gca ?_; first|(refine ca hD0 ?_; rintro _ _ ⟨rfl, sv1, rfl⟩)|(refine ca (sized_tr k d) ?_; rintro _ _ ⟨rfl, rfl⟩; rw [decide_eq_true hsz]))|refine mm fun p => ?_|(refine wo ?_; first|(refine ao ?_; first|refine oa ?_)|refine oa ?_)|(refine gc ?_; first|refine cf ?_)|refine sq ?_|refine rg ?_|refine xc ?_|refine nl ?_|refine sk ?_|refine bk ?_
  generalize hF : ordW k.toNat d.toNat 0 (upto k.toNat) x = Fn at *
  refine TC.loop (ι := OwG) (fun u => [(29, I u.i), (11, u.o)]) (fun u => [own TLI u.o (Is u.outs), mpc p u.f, lot b r u.sv u.x (used + u.i)]) (fun u => okL u.x ∧ u.i ≤ d.toNat ∧ u.outs.length = u.i ∧ (∃ g, PlcF u.f g ∧ RelG k.toNat u.l g) ∧ u.outs ++ (ordW k.toNat (d.toNat - u.i) u.i u.l u.x).1.1 = Fn.1.1 ∧ (ordW k.toNat (d.toNat - u.i) u.i u.l u.x).1.2 = Fn.1.2 ∧ (ordW k.toNat (d.toNat - u.i) u.i u.l u.x).2 = Fn.2)
    (fun u => d.toNat - u.i) ⟨0, nS, fun _ => none, upto k.toNat, [], sv1, x⟩ [0, 1, 2, 10, 28] ⟨hx, by simp, rfl, ⟨fun i => i, fun i => .inl ⟨rfl, rfl⟩, upto_length _, fun t ht => (upto_get _ _ ht).symm⟩, by simp [hF], by simp [hF], by simp [hF]⟩ ?_ (hf := by dsimp only; rw [show used + ((0 : Nat) : Int) = used by omega]; first | apply Fit.all | ((repeat (first | (apply Fit.nilN; (repeat (first | apply nrm_nil | apply nrm_cons)); try apply nrm_rfl) | (apply Fit.cons; focus ((repeat (first | apply Tk.here | apply Tk.there)); first | done | fail)))); first | done | fail))
  rintro ⟨i, o, f, l, outs, sv2, x2⟩ ⟨hx2, h1, h2, ⟨g, hg1, hg2⟩, h3, h4, h5⟩
  dsimp only at hx2 h1 h2 hg1 hg2 h3 h4 h5 ⊢
  by_cases hi : i < d.toNat
  · have hki : 1 ≤ k - (i : Int) ∧ k - (i : Int) ≤ 1099511627776 := by omega
    have hkn : (k.toNat : Int) - (i : Int) = k - i := by omega
    rw [show d.toNat - i = (d.toNat - (i + 1)) + 1 by omega] at h3 h4 h5
    unfold ordW at h3 h4 h5
    rw [hkn] at h3 h4 h5
    have hD := DrawL_tr b r sv2 x2 (used + i) (k - i) hx2 (by omega)
    by_cases he : (drw (k - (i : Int)) x2).1.2 = 0
    · rw [if_pos he] at h3 h4 h5
      dsimp only at h3 h4 h5
      obtain ⟨q3, q4⟩ := drw_rng he
      rw [show dru (k - i) x2 = 1 from if_pos he, he] at hD
      obtain ⟨s, hs⟩ : ∃ s : Nat, (drw (k - (i : Int)) x2).1.1 = s := ⟨(drw (k - (i : Int)) x2).1.1.toNat, by omega⟩
      have hok3 := okL_drw (k - i) hx2
      obtain ⟨x3, hx3⟩ : ∃ x3, x3 = (drw (k - (i : Int)) x2).2 := ⟨_, rfl⟩
      rw [hs] at h3 h4 h5 q3 q4 hD
      rw [← hx3] at h3 h4 h5 hD hok3
      rw [Int.toNat_natCast] at h3 h4 h5
      clear hs hx3 he
      obtain ⟨q1, q2⟩ := hg2.step (i := i) (j := i + s) (by omega) (by omega)
      have hl3 := congrArg List.length h3
      rw [List.length_append, List.length_cons] at hl3
      rw [show ((i + s : Nat) : Int) = (i : Int) + s by omega] at q1 q2
      repeat' first|(refine gca ?_; first|(refine ca hD ?_; rintro _ _ ⟨rfl, sv3, rfl⟩)|(refine ca (exchange_tr p f g i _ hg1) ?_; rintro _ _ ⟨f', rfl, hg'⟩)|(refine ca (at_tr p f' _ i hg') ?_; rintro _ _ ⟨rfl, rfl⟩))|(refine wo ?_; first|(refine ao ?_; first|refine aw ?_|refine oa ?_)|refine oa ?_)|(refine gc ?_; first|refine cf ?_|(refine ci (fun hB => ?_) (fun hB => ?_) <;> try (exfalso; omega)))|refine sq ?_|refine rg ?_|refine xc ?_|refine nl ?_|refine sk ?_|refine bk ?_
      rw [q2]
      refine slii [l.getD (i + s) 0] fun v1 => ?_
      refine api (v := o) (l := outs) (news := [l.getD (i + s) 0]) fun v2 => ?_
      repeat' first|(refine wo ?_; first|(refine ao ?_; first|refine aw ?_)|refine oa ?_)|refine rg ?_|refine xc ?_|refine nl ?_|refine xb ?_
      refine lp ⟨i + 1, v2, f', swp l i (i + s), outs ++ [l.getD (i + s) 0], sv3, x3⟩ ⟨hok3, by dsimp only; omega, by simp [h2], ⟨_, hg', q1⟩, by rw [List.append_assoc]; exact h3, h4, h5⟩ (hf := by dsimp only; rw [show used + ((i + 1 : Nat) : Int) = used + i + 1 by omega]; first | apply Fit.all | ((repeat (first | (apply Fit.nilN; (repeat (first | apply nrm_nil | apply nrm_cons)); try apply nrm_rfl) | (apply Fit.cons; focus ((repeat (first | apply Tk.here | apply Tk.there)); first | done | fail)))); first | done | fail))
    · rw [if_neg he] at h3 h4 h5
      dsimp only at h3 h4 h5
      rw [List.append_nil] at h3
      rw [show dru (k - i) x2 = 0 from if_neg he, Int.add_zero] at hD
      have hf0 : ¬ Fn.1.2 = 0 := by rw [← h4]; exact he
      rw [if_neg hf0]
      rw [← h4, ← h5, ← h3, h2]
      obtain ⟨dr, hdr⟩ : ∃ dr, dr = drw (k - (i : Int)) x2 := ⟨_, rfl⟩
      rw [← hdr] at hD he ⊢
      repeat' first|(refine gca ?_; first|(refine ca hD ?_; rintro _ _ ⟨rfl, sv3, rfl⟩))|(refine wo ?_; first|(refine ao ?_; first|refine aw ?_|refine oa ?_)|refine oa ?_)|(refine gc ?_; first|(refine ci (fun hB => ?_) (fun hB => ?_) <;> try (exfalso; omega))|(refine cn (fun hB => ?_) (fun hB => ?_) <;> try (exfalso; omega)))|refine sq ?_|refine rg ?_|refine xc ?_|refine nl ?_|refine sk ?_|refine bk ?_|refine rt ?_
      refine TX.im (own_nil TLI _) ?_
      exact r2 ⟨nS, sv3, rfl, rfl⟩
  · obtain rfl : i = d.toNat := by omega
    rw [Nat.sub_self] at h3 h4 h5
    unfold ordW at h3 h4 h5
    dsimp only at h3 h4 h5
    rw [List.append_nil] at h3
    rw [if_pos h4.symm]
    rw [← h4, ← h5, ← h3, h2]
    repeat' first|(refine wo ?_; first|(refine ao ?_; first|refine oa ?_)|refine oa ?_)|(refine gc ?_; first|(refine ci (fun hB => ?_) (fun hB => ?_) <;> try (exfalso; omega)))|refine sq ?_|refine rg ?_|refine xc ?_|refine nl ?_|refine xe ?_|refine rt ?_
    exact r2 ⟨o, sv2, rfl, rfl⟩
theorem PickL_tr (b r : Nat) (sv : Value) (x : Lw) (used k d : Int) (hx : okL x) (hu : 0 ≤ used ∧ used ≤ 1152921504606846976) : Tr Tryz.prog 65 [ptr b, I k, I d] [] [lot b r sv x used]
    fun v D => ∃ o sv', v = tup2 o (I (pickO k d x).2) ∧ D = [own TLI o (Is (pickO k d x).1), lot b r sv' (ordO k d x).2.1 (used + (ordO k d x).2.2)] := by
  have hlen := ordO_len k d x
  refine Tr.enter env _ Tryz.func65 (by kernel_rfl) rfl Tryz.ntmps65 rfl (by repeat (first | exact has00 | refine has01 ?_)) fun w0 => ?_
  repeat' first|(refine gca ?_; first|(refine ca (OrderL_tr b r sv x used k d hx hu) ?_; rintro _ _ ⟨o, sv1, rfl, rfl⟩; refine TO.one (v := o) (xs := Is (ordO k d x).1.1) fun ho => ?_)|(refine ca (Values_tr _ (by assumption)) ?_; rintro _ _ ⟨c, rfl, rfl⟩))|(refine wo ?_; first|refine oa ?_)|refine sq ?_|refine rg ?_|refine xc ?_|refine nl ?_
  refine ca (Sorted_tr (Values1_seq c o (ordO k d x).1.1) (by omega)) ?_
  rintro v _ ⟨zs, rfl, rfl⟩
  repeat' first|(refine wo ?_; first|refine oa ?_)|refine xc ?_|refine nl ?_|refine rt ?_
  exact r2 ⟨v, sv1, rfl, rfl⟩
end Go.Art
set_option linter.unusedSimpArgs false
set_option linter.unusedVariables false
namespace Go.Art
open Go Go.Proofs Go.RowKit
attribute [local irreducible] Fit pt own ro vw mpc lpt vels rels mow lrc dfr
attribute [local irreducible] lmp lme mit

def wOk (w : Int) : Bool := decide (0 ≤ w ∧ w ≤ 16777215)
def wPos (w : Int) : Bool := decide (0 < w)
def solE (t : List Int) (k : Int) : Int := if k < 1 ∨ 65536 < k ∨ t.length < 1 ∨ k < t.length then 13 else if t.all wOk && t.any wPos then 0 else 13
theorem solE_zero {t : List Int} {k : Int} (h : solE t k = 0) : (1 ≤ k ∧ k ≤ 65536) ∧ (1 ≤ t.length ∧ t.length ≤ k) ∧ (∀ w ∈ t, 0 ≤ w ∧ w ≤ 16777215) ∧ ∃ w ∈ t, 0 < w := by
  unfold solE at h
  split at h
  · cases h
  · split at h
    · rename_i h1 h2
      rw [Bool.and_eq_true, List.all_eq_true, List.any_eq_true] at h2
      refine ⟨by omega, by omega, fun w hw => by simpa [wOk] using h2.1 w hw, ?_⟩
      obtain ⟨w, hw, hp⟩ := h2.2
      exact ⟨w, hw, by simpa [wPos] using hp⟩
    · cases h
theorem solE_cases (t : List Int) (k : Int) : solE t k = 0 ∨ solE t k = 13 := by unfold solE; split; exact .inr rfl; split; exact .inl rfl; exact .inr rfl
theorem take_all {p : Int → Bool} {t : List Int} {i : Nat} (hi : i < t.length) : (t.take (i + 1)).all p = ((t.take i).all p && p (t.getD i 0)) := by rw [take_succ' hi 0, List.all_append]; simp
theorem take_any {p : Int → Bool} {t : List Int} {i : Nat} (hi : i < t.length) : (t.take (i + 1)).any p = ((t.take i).any p || p (t.getD i 0)) := by rw [take_succ' hi 0, List.any_append]; simp
theorem all_of_take {p : Int → Bool} {t : List Int} {i : Nat} (hi : i < t.length) (h : p (t.getD i 0) = false) : t.all p = false := by
  cases hc : t.all p with
  | false => rfl
  | true => rw [List.all_eq_true] at hc; rw [hc _ (mem_getD.2 ⟨i, hi, rfl⟩)] at h; cases h
theorem SoCheck_tr (s : Value) (t : List Int) (k : Int) : Tr Tryz.prog 49 [s, I k] [vw s (Is t)] [] fun v D => v = I (solE t k) ∧ D = [] := by
  refine Tr.enter env _ Tryz.func49 (by kernel_rfl) rfl Tryz.ntmps49 rfl (by repeat (first | exact has00 | refine has01 ?_)) fun w0 => ?_
  refine TC.leni (l := t) fun htl => ?_
  repeat' first|(refine wo ?_; first|(refine ao ?_; first|refine oa ?_)|refine oa ?_|refine lnm ?_|refine gy ?_|refine gn ?_|(refine gsi (fun hB => ?_) (fun hB => ?_) <;> try (exfalso; omega)))|(refine gc ?_; first|refine ct ?_|(refine ci (fun hB => ?_) (fun hB => ?_) <;> try (exfalso; omega)))|refine sq ?_|refine rg ?_|refine xc ?_|refine nl ?_|refine sk ?_|refine bk ?_|refine rt ?_
  · exact r1 ⟨by rw [solE, if_pos (by omega)], rfl⟩
  · exact r1 ⟨by rw [solE, if_pos (by omega)], rfl⟩
  · exact r1 ⟨by rw [solE, if_pos (by omega)], rfl⟩
  · exact r1 ⟨by rw [solE, if_pos (by omega)], rfl⟩
  rw [show solE t k = if t.all wOk && t.any wPos then 0 else 13 by rw [solE, if_neg (by omega)]]
  refine TC.loop (ι := Nat × Bool) (fun i => [(27, I i.1), (5, .bool i.2)]) (fun _ => []) (fun i => i.1 ≤ t.length ∧ (t.take i.1).all wOk = true ∧ i.2 = (t.take i.1).any wPos) (fun i => t.length - i.1) (0, false) [25, 26] ⟨by simp, rfl, rfl⟩ ?_
  rintro ⟨i, so⟩ ⟨h1, h2, h3⟩
  dsimp only at h1 h2 h3 ⊢
  by_cases hi : i < t.length
  · have ha := take_all (p := wOk) hi
    have hb := take_any (p := wPos) hi
    have hc := all_of_take (p := wOk) hi
    generalize hy : t.getD i 0 = y at *
    repeat' first|refine lie hy ?_|(refine wo ?_; first|(refine ao ?_; first|refine aw ?_|refine oa ?_)|refine oa ?_|refine ixmn ?_|refine gy ?_|refine gn ?_|(refine gsi (fun hB => ?_) (fun hB => ?_) <;> try (exfalso; omega))|(refine gs (fun hB => ?_) (fun hB => ?_) <;> try (exfalso; omega)))|(refine gc ?_; first|refine ct ?_|(refine ci (fun hB => ?_) (fun hB => ?_) <;> try (exfalso; omega)))|refine sq ?_|refine rg ?_|refine xc ?_|refine nl ?_|refine sk ?_|refine bk ?_|refine rt ?_|refine xb ?_
    · refine r1 ⟨?_, rfl⟩
      rw [hc (by simp [wOk]; omega)]; rfl
    · refine r1 ⟨?_, rfl⟩
      rw [hc (by simp [wOk]; omega)]; rfl
    · have hw : wOk y = true := by simp [wOk]; omega
      exact lp (i + 1, true) ⟨by dsimp only; omega, by dsimp only; rw [ha, h2, hw]; rfl, by dsimp only; rw [hb, ← h3, hB]; rfl⟩
    · have hw : wOk y = true := by simp [wOk]; omega
      exact lp (i + 1, decide (0 < y)) ⟨by dsimp only; omega, by dsimp only; rw [ha, h2, hw]; rfl, by dsimp only; rw [hb, ← h3, hB]; rfl⟩
  · obtain rfl : i = t.length := by omega
    rw [List.take_length] at h2 h3
    repeat' first|(refine wo ?_; first|(refine ao ?_; first|refine oa ?_)|refine oa ?_)|(refine gc ?_; first|(refine ci (fun hB => ?_) (fun hB => ?_) <;> try (exfalso; omega))|(refine cb (fun hB => ?_) (fun hB => ?_) <;> try (exfalso; omega)))|refine sq ?_|refine rg ?_|refine xc ?_|refine nl ?_|refine sk ?_|refine xe ?_|refine rt ?_
    · refine r1 ⟨?_, rfl⟩
      rw [h2, ← h3, show so = false by simpa using hB]; rfl
    · refine r1 ⟨?_, rfl⟩
      rw [h2, ← h3, show so = true by simpa using hB]; rfl
def total (t : List Int) : Int := t.sum
theorem take_sum {t : List Int} {i : Nat} (hi : i < t.length) : (t.take (i + 1)).sum = (t.take i).sum + t.getD i 0 := by rw [take_succ' hi 0, List.sum_append]; simp
theorem sum_bound {t : List Int} (h : ∀ w ∈ t, 0 ≤ w ∧ w ≤ 16777215) : 0 ≤ t.sum ∧ t.sum ≤ 16777215 * t.length := by
  induction t with
  | nil => simp
  | cons a r ih =>
    have h1 := h a (by simp)
    have h2 := ih fun w hw => h w (by simp [hw])
    simp only [List.sum_cons, List.length_cons]
    omega
end Go.Art
set_option linter.unusedSimpArgs false
set_option linter.unusedVariables false
namespace Go.Art
open Go Go.Proofs Go.RowKit
attribute [local irreducible] Fit pt own ro vw mpc lpt vels rels mow lrc dfr
attribute [local irreducible] lmp lme mit velg relg

theorem IIndexFunc_tr (s : Value) (l : List Int) (f : FuncId) (cap : List Value) (pre : List Ch) (p : Int → Bool)
    (hp : ∀ c ∈ pre, ∀ A : List Ch, c ∈ A → Has A c) (hf : ∀ x, x ∈ l → Tr Tryz.prog f (I x :: cap) pre [] fun v D => v = .bool (p x) ∧ D = []) :
    Tr Tryz.prog 139 [s, .func (.func f) #[] cap.toArray] (vw s (Is l) :: pre) [] fun v D => (∃ i : Int, v = I i ∧ (0 ≤ i ↔ l.any p = true)) ∧ D = [] := by
  refine Tr.enter env _ Tryz.func139 (by kernel_rfl) rfl Tryz.ntmps139 rfl (has01 fun c hc b => ⟨(hp c hc [c] (by simp)).wr b, (hp c hc [c] (by simp)).rd b⟩) fun w0 => ?_
  refine TC.leni (l := l) fun hlen => ?_
  repeat' first|(refine wo ?_; first|refine oa ?_|refine lnm ?_)|refine sq ?_|refine rg ?_|refine xc ?_|refine nl ?_|refine bk ?_
  refine TC.loop (ι := Nat) (fun i => [(8, I i)]) (fun _ => []) (fun i => i ≤ l.length ∧ ∀ j, j < i → p (l.getD j 0) = false) (fun i => l.length - i) 0 [0, 1, 6, 7] ⟨by omega, by omega⟩ ?_
  rintro i ⟨h1, h2⟩
  by_cases hi : i < l.length
  · have hmem : l.getD i 0 ∈ l := mem_getD.2 ⟨i, hi, rfl⟩
    generalize hy : l.getD i 0 = y at *
    repeat' first|refine lie hy ?_|(refine cav (vs := [I y]) (cap := cap.toArray) (hf _ hmem) ?_ rfl rfl Fit.nil (fun c hc => hp c hc _ (by simp [hc])) rfl; rintro _ _ ⟨rfl, rfl⟩)|(refine wo ?_; first|(refine ao ?_; first|refine aw ?_|refine oa ?_)|refine oa ?_|refine ixmn ?_)|(refine gc ?_; first|(refine ci (fun hB => ?_) (fun hB => ?_) <;> try (exfalso; omega))|(refine cb (fun hB => ?_) (fun hB => ?_) <;> try (exfalso; omega)))|refine sq ?_|refine rg ?_|refine xc ?_|refine nl ?_|refine sk ?_|refine bk ?_|refine rt ?_|refine xb ?_
    · exact r1 ⟨⟨i, rfl, fun _ => List.any_eq_true.2 ⟨_, hmem, hB⟩, fun _ => by omega⟩, rfl⟩
    · refine lp (i + 1) ⟨by omega, fun j hj => ?_⟩
      by_cases e : j = i
      · rw [e, hy]; exact hB
      · exact h2 j (by omega)
  · repeat' first|(refine wo ?_; first|(refine ao ?_; first|refine oa ?_)|refine oa ?_)|(refine gc ?_; first|(refine ci (fun hB => ?_) (fun hB => ?_) <;> try (exfalso; omega)))|refine sq ?_|refine rg ?_|refine xc ?_|refine nl ?_|refine xe ?_|refine rt ?_
    refine r1 ⟨⟨-1, rfl, by omega, fun h => ?_⟩, rfl⟩
    obtain ⟨x, hl1, hl2⟩ := List.any_eq_true.1 h
    obtain ⟨j, hj, rfl⟩ := mem_getD.1 hl1
    have := h2 j (by omega)
    rw [hl2] at this; cases this
theorem IContainsFunc_tr (s : Value) (l : List Int) (f : FuncId) (cap : List Value) (pre : List Ch) (p : Int → Bool)
    (hp : ∀ c ∈ pre, ∀ A : List Ch, c ∈ A → Has A c) (hf : ∀ x, x ∈ l → Tr Tryz.prog f (I x :: cap) pre [] fun v D => v = .bool (p x) ∧ D = []) :
    Tr Tryz.prog 107 [s, .func (.func f) #[] cap.toArray] (vw s (Is l) :: pre) [] fun v D => v = .bool (l.any p) ∧ D = [] := by
  refine Tr.enter env _ Tryz.func107 (by kernel_rfl) rfl Tryz.ntmps107 rfl (has01 fun c hc b => ⟨(hp c hc [c] (by simp)).wr b, (hp c hc [c] (by simp)).rd b⟩) fun w0 => ?_
  repeat' first|(refine gca ?_; first|(refine ca (vs := [s, .func (.func f) #[] cap.toArray]) (IIndexFunc_tr s l f cap pre p hp hf) ?_ rfl Fit.nil (has1 (has_vw (by simp)) (fun c hc => hp c hc _ (by simp [hc]))) rfl; rintro _ _ ⟨⟨i, rfl, hi⟩, rfl⟩))|(refine wo ?_; first|(refine ao ?_; first|refine oa ?_)|refine oa ?_)|refine sq ?_|refine rg ?_|refine xc ?_|refine nl ?_|refine rt ?_
  refine r1 ⟨?_, rfl⟩
  congr 1; rw [Bool.eq_iff_iff, decide_eq_true_iff]; exact hi
abbrev TAl : TypeId := 24
def farB (m x : Int) : Bool := decide (x < 0 ∨ m < x)
def alE (tot : Int) (cut oth : List Int) : Int := if tot < 1 ∨ 1099511627776 < tot ∨ cut.length < 1 ∨ 65536 < cut.length ∨ oth.length ≠ cut.length then 6 else if cut.any (farB tot) || oth.any (farB (cut.length - 1)) then 6 else 0
theorem far1_tr (m x : Int) (b : Nat) : Tr Tryz.prog 106 [I x, ptr b] [lpt b [I m] 3] [] fun v D => v = .bool (farB m x) ∧ D = [] := by
  refine Tr.enter env _ Tryz.func106 (by kernel_rfl) rfl Tryz.ntmps106 rfl (by repeat (first | exact has00 | refine has01 ?_)) fun w0 => ?_
  repeat' first|(refine wo ?_; first|(refine ao ?_; first|refine oa ?_)|refine oa ?_|refine ldl ?_|refine gy ?_|refine gn ?_|(refine gsi (fun hB => ?_) (fun hB => ?_) <;> try (exfalso; omega)))|refine sq ?_|refine rg ?_|refine xc ?_|refine nl ?_|refine rt ?_
  all_goals refine r1 ⟨?_, rfl⟩
  all_goals unfold farB
  all_goals first
    | rw [decide_eq_true (show x < 0 ∨ m < x by omega)]
    | (congr 1; exact decide_eq_decide.2 ⟨fun h => by omega, fun h => by omega⟩)
theorem far_tr (m : Int) : Tr Tryz.prog 105 [I m] [] [] fun v D => ∃ b, v = .func (.func 106) #[] #[ptr b] ∧ D = [pt b [I m] 3] := by
  refine Tr.enter env _ Tryz.func105 (by kernel_rfl) rfl Tryz.ntmps105 rfl (by repeat (first | exact has00 | refine has01 ?_)) fun w0 => ?_
  repeat' first|refine bx1 fun b => ?_|(refine wo ?_; first|refine oa ?_)|refine sq ?_|refine rg ?_|refine xc ?_|refine nl ?_|refine rt ?_
  exact r1 ⟨b, rfl, rfl⟩
theorem AlCheck_tr (tot : Int) (cv ov : Value) (cut oth : List Int) (hc : cv.oneCell' = true) (ho : ov.oneCell' = true) : Tr Tryz.prog 72 [.agg #[I tot, cv, ov]] [vw cv (Is cut), vw ov (Is oth)] [] fun v D => v = I (alE tot cut oth) ∧ D = [] := by
  refine Tr.enter env _ Tryz.func72 (by kernel_rfl) rfl Tryz.ntmps72 rfl (by repeat (first | exact has00 | refine has01 ?_)) fun w0 => ?_
  refine TC.leni (l := cut) fun hl1 => ?_
  refine TC.leni (l := oth) fun hl2 => ?_
  repeat' first|refine bx fun b => ?_|(refine wo ?_; first|(refine ao ?_; first|refine oa ?_)|refine oa ?_|refine ld ?_|refine lnm ?_|refine gy ?_|refine gn ?_|(refine gsi (fun hB => ?_) (fun hB => ?_) <;> try (exfalso; omega)))|(refine gc ?_; first|refine ct ?_|(refine cn (fun hB => ?_) (fun hB => ?_) <;> try (exfalso; omega)))|refine sq ?_|refine rg ?_|refine xc ?_|refine nl ?_|refine sk ?_|refine rt ?_
  · exact r1 ⟨by rw [alE, if_pos (by omega)], rfl⟩
  · exact r1 ⟨by rw [alE, if_pos (by omega)], rfl⟩
  · exact r1 ⟨by rw [alE, if_pos (by omega)], rfl⟩
  · exact r1 ⟨by rw [alE, if_pos (by omega)], rfl⟩
  · exact r1 ⟨by rw [alE, if_pos (by omega)], rfl⟩
  rw [show alE tot cut oth = if cut.any (farB tot) || oth.any (farB (cut.length - 1)) then 6 else 0 by rw [alE, if_neg (by omega)]]
  have hcl : cut.length ≤ 65536 := by omega
  refine rs (fun w => w.heap[b]? = some (.cells #[I tot, cv, ov] TAl (0, 0))) ?_ (fun w hw => pt_at (by (repeat (first | apply List.Mem.head | apply List.Mem.tail)); first | done | fail) hw)
  refine tka 0 ?_
  refine tkl 1 (cs := [I tot, cv, ov]) (fun w h => h) ?_
  refine tka 2 ?_
  refine tka 3 ?_
  refine tkl 4 (cs := [I tot, cv, ov]) (fun w h => h) ?_
  refine t1 5 ?_
  refine cav (vs := [I tot]) (cap := #[]) (far_tr tot) ?_
  rintro _ _ ⟨b1, rfl, rfl⟩
  repeat' first|refine nl ?_
  refine te (fun w hw => pt_at (by (repeat (first | apply List.Mem.head | apply List.Mem.tail)); first | done | fail) hw) ?_
  refine t1 6 ?_
  refine ca (IContainsFunc_tr cv cut _ [ptr b1] [lpt b1 [I tot] 3] (farB tot) lpt_has (fun x _ => far1_tr tot x b1)) ?_
  rintro _ _ ⟨rfl, rfl⟩
  repeat' first|refine nl ?_
  refine te (fun w hw => pt_at (by (repeat (first | apply List.Mem.head | apply List.Mem.tail)); first | done | fail) hw) ?_
  refine tka 7 ?_
  refine TS.split (t := 38) (fun h1 => ?_) (fun h1 => ?_) rfl
  · rw [h1]
    refine tkn 8 ?_
    refine tkn 9 ?_
    refine tkn 10 ?_
    refine tkn 11 ?_
    refine tkn 12 ?_
    refine t1 13 ?_
    repeat' first|(refine wo ?_; first|refine gn ?_)|refine nl ?_
    refine te (fun w hw => pt_at (by (repeat (first | apply List.Mem.head | apply List.Mem.tail)); first | done | fail) hw) ?_
    refine t1 14 ?_
    repeat' first|(refine wo ?_; first|refine gn ?_)|refine nl ?_
    refine te (fun w hw => pt_at (by (repeat (first | apply List.Mem.head | apply List.Mem.tail)); first | done | fail) hw) ?_
    refine tka 15 ?_
    refine t0 ?_
    repeat' first|(refine wo ?_; first|refine oa ?_)|(refine gc ?_; first|refine ct ?_)|refine sq ?_|refine rg ?_|refine xc ?_|refine nl ?_|refine rt ?_
    exact r1 ⟨rfl, rfl⟩
  · rw [h1]
    refine tkga 8 ?_
    refine tkg 9 (v := ov) (fun w h => R_load (E := env) rfl rfl rfl (blk_cell h rfl)) ?_
    refine tkga 10 ?_
    refine tkga 11 ?_
    refine tkg 12 (v := I ((cut.length : Int) - 1)) (fun w h => R_wrap (R_auto (E := env) rfl) (by omega)) ?_
    refine t1 13 ?_
    refine gy ?_
    refine cav (vs := [I ((cut.length : Int) - 1)]) (cap := #[]) (far_tr _) ?_
    rintro _ _ ⟨b2, rfl, rfl⟩
    repeat' first|refine nl ?_
    refine te (fun w hw => pt_at (by (repeat (first | apply List.Mem.head | apply List.Mem.tail)); first | done | fail) hw) ?_
    refine t1 14 ?_
    refine gy ?_
    refine ca (IContainsFunc_tr ov oth _ [ptr b2] [lpt b2 [I ((cut.length : Int) - 1)] 3] (farB (cut.length - 1)) lpt_has (fun x _ => far1_tr _ x b2)) ?_
    rintro _ _ ⟨rfl, rfl⟩
    repeat' first|refine nl ?_
    refine te (fun w hw => pt_at (by (repeat (first | apply List.Mem.head | apply List.Mem.tail)); first | done | fail) hw) ?_
    refine tka 15 ?_
    refine t0 ?_
    repeat' first|(refine wo ?_; first|refine oa ?_)|(refine gc ?_; first|(refine cb (fun hB => ?_) (fun hB => ?_) <;> try (exfalso; omega)))|refine sq ?_|refine rg ?_|refine xc ?_|refine nl ?_|refine sk ?_|refine rt ?_
    · exact r1 ⟨by rw [hB]; first | done | rfl, rfl⟩
    · exact r1 ⟨by rw [hB]; first | done | rfl, rfl⟩
def alPick (tot : Int) (cut oth : List Int) (c l : Int) : Int := if l < cut.getD c.toNat 0 then c else oth.getD c.toNat 0
theorem AlPick_tr (tot c l : Int) (cv ov : Value) (cut oth : List Int) (hc : cv.oneCell' = true) (ho : ov.oneCell' = true) (hE : alE tot cut oth = 0) (h1 : 0 ≤ c ∧ c < cut.length) (h2 : 0 ≤ l ∧ l < tot) :
    Tr Tryz.prog 97 [.agg #[I tot, cv, ov], I c, I l] [vw cv (Is cut), vw ov (Is oth)] [] fun v D => v = tup2 (I (alPick tot cut oth c l)) (I 0) ∧ D = [] := by
  have hol : oth.length = cut.length := by
    unfold alE at hE
    split at hE
    · cases hE
    · omega
  refine Tr.enter env _ Tryz.func97 (by kernel_rfl) rfl Tryz.ntmps97 rfl (by repeat (first | exact has00 | refine has01 ?_)) fun w0 => ?_
  repeat' first|(refine gca ?_; first|(refine ca (AlCheck_tr tot cv ov cut oth hc ho) ?_; rintro _ _ ⟨rfl, rfl⟩; rw [hE]))|refine bx fun b => ?_|refine lda ?_|(refine wo ?_; first|(refine ao ?_; first|refine oa ?_)|refine oa ?_|refine ld ?_|refine lnm ?_|refine ixm ?_|refine li ?_|refine gy ?_|(refine gsi (fun hB => ?_) (fun hB => ?_) <;> try (exfalso; omega)))|(refine gc ?_; first|refine cf ?_|(refine ci (fun hB => ?_) (fun hB => ?_) <;> try (exfalso; omega)))|refine sq ?_|refine rg ?_|refine xc ?_|refine nl ?_|refine sk ?_|refine bk ?_|refine rt ?_|refine xb ?_
  · refine r2 ⟨?_, rfl⟩
    unfold alPick; rw [if_pos hB]
  · refine r2 ⟨?_, rfl⟩
    unfold alPick; rw [if_neg hB]
end Go.Art
set_option linter.unusedSimpArgs false
set_option linter.unusedVariables false
namespace Go.Art
open Go Go.Proofs Go.RowKit
def rwE (tot : Int) (cut oth : List Int) (k : Int) : Int := if alE tot cut oth = 0 then (if k < 1 ∨ 65536 < k ∨ k < cut.length then 3 else 0) else 6
theorem alE_or (tot : Int) (cut oth : List Int) : alE tot cut oth = 0 ∨ alE tot cut oth = 6 := by
  unfold alE
  split
  · exact .inr rfl
  · split
    · exact .inr rfl
    · exact .inl rfl
theorem alE_bnd {tot : Int} {cut oth : List Int} (hE : alE tot cut oth = 0) : (1 ≤ tot ∧ tot ≤ 1099511627776) ∧ 1 ≤ cut.length ∧ cut.length ≤ 65536 := by
  unfold alE at hE
  split at hE
  · cases hE
  · omega
theorem rwE_ok {tot : Int} {cut oth : List Int} {k : Int} (h : rwE tot cut oth k = 0) : alE tot cut oth = 0 ∧ 1 ≤ k ∧ k ≤ 65536 ∧ cut.length ≤ k := by
  unfold rwE at h
  split at h
  · rename_i h1
    split at h
    · cases h
    · exact ⟨h1, by omega, by omega, by omega⟩
  · cases h
theorem alPick_in {tot : Int} {cut oth : List Int} (hE : alE tot cut oth = 0) {c l : Int} (h1 : 0 ≤ c ∧ c < cut.length) : 0 ≤ alPick tot cut oth c l ∧ alPick tot cut oth c l < cut.length := by
  unfold alE at hE
  split at hE
  · cases hE
  · split at hE
    · cases hE
    · rename_i h3 h2
      unfold alPick
      split
      · omega
      · have hm : oth.getD c.toNat 0 ∈ oth := mem_getD.2 ⟨_, by omega, rfl⟩
        refine Classical.byContradiction fun hn => h2 ?_
        rw [Bool.or_eq_true]
        refine .inr (List.any_eq_true.2 ⟨_, hm, decide_eq_true ?_⟩)
        omega
def plcW (tot : Int) (cut oth : List Int) (x : Lw) : (Int × Int) × (Lw × Int) :=
  if (drw cut.length x).1.2 = 0 then
    (if (drw tot (drw cut.length x).2).1.2 = 0 then ((alPick tot cut oth (drw cut.length x).1.1 (drw tot (drw cut.length x).2).1.1, 0), ((drw tot (drw cut.length x).2).2, 2))
      else ((0, (drw tot (drw cut.length x).2).1.2), ((drw tot (drw cut.length x).2).2, 1)))
  else ((0, (drw cut.length x).1.2), ((drw cut.length x).2, 0))
theorem plcW_in {tot : Int} {cut oth : List Int} {x : Lw} (hE : alE tot cut oth = 0) (h : (plcW tot cut oth x).1.2 = 0) : 0 ≤ (plcW tot cut oth x).1.1 ∧ (plcW tot cut oth x).1.1 < cut.length := by
  unfold plcW at h ⊢
  split
  · rename_i h1
    rw [if_pos h1] at h
    split
    · exact alPick_in hE (drw_rng h1)
    · rename_i h2; rw [if_neg h2] at h; exact absurd h h2
  · rename_i h1; rw [if_neg h1] at h; exact absurd h h1
theorem plcW_u (tot : Int) (cut oth : List Int) (x : Lw) : 0 ≤ (plcW tot cut oth x).2.2 ∧ (plcW tot cut oth x).2.2 ≤ 2 := by
  unfold plcW
  split
  · split
    · dsimp only; omega
    · dsimp only; omega
  · dsimp only; omega
theorem okL_plc (tot : Int) (cut oth : List Int) {x : Lw} (h : okL x) : okL (plcW tot cut oth x).2.1 := by
  unfold plcW
  split
  · split
    · exact okL_drw _ (okL_drw _ h)
    · exact okL_drw _ (okL_drw _ h)
  · exact okL_drw _ h
def setW (tot : Int) (cut oth : List Int) (k : Int) (x : Lw) : (List Int × Int) × (Lw × Int) :=
  if rwE tot cut oth k = 0 then
    (if (plcW tot cut oth x).1.2 = 0 then (pickO k ((plcW tot cut oth x).1.1 + 1) (plcW tot cut oth x).2.1, ((ordO k ((plcW tot cut oth x).1.1 + 1) (plcW tot cut oth x).2.1).2.1, (plcW tot cut oth x).2.2 + (ordO k ((plcW tot cut oth x).1.1 + 1) (plcW tot cut oth x).2.1).2.2))
      else (([], (plcW tot cut oth x).1.2), (plcW tot cut oth x).2))
  else (([], rwE tot cut oth k), (x, 0))
attribute [local irreducible] Fit pt own ro vw mpc lpt vels rels mow lrc dfr
attribute [local irreducible] lmp lme mit velg relg
theorem RwE_tr (tot k : Int) (cv ov : Value) (cut oth : List Int) (hc : cv.oneCell' = true) (ho : ov.oneCell' = true) : Tr Tryz.prog 29 [.agg #[I tot, cv, ov], I k] [vw cv (Is cut), vw ov (Is oth)] []
    fun v D => v = I (rwE tot cut oth k) ∧ D = [] := by
  have hA := AlCheck_tr tot cv ov cut oth hc ho
  unfold rwE
  rcases alE_or tot cut oth with hE | hE
  · rw [hE] at hA
    rw [if_pos hE]
    refine Tr.enter env _ Tryz.func29 (by kernel_rfl) rfl Tryz.ntmps29 rfl (by repeat (first | exact has00 | refine has01 ?_)) fun w0 => ?_
    repeat' first|(refine gca ?_; first|(refine ca hA ?_; rintro _ _ ⟨rfl, rfl⟩))|refine bx fun b => ?_|refine lda ?_|(refine wo ?_; first|(refine ao ?_; first|refine oa ?_)|refine oa ?_|refine ld ?_|refine lnm ?_|refine gy ?_|refine gn ?_|(refine gsi (fun hB => ?_) (fun hB => ?_) <;> try (exfalso; omega)))|(refine gc ?_; first|refine ct ?_|refine cf ?_|(refine ci (fun hB => ?_) (fun hB => ?_) <;> try (exfalso; omega)))|refine sq ?_|refine rg ?_|refine xc ?_|refine nl ?_|refine sk ?_|refine bk ?_|refine rt ?_|refine xb ?_
    · exact r1 ⟨by rw [if_pos (by omega)], rfl⟩
    · exact r1 ⟨by rw [if_pos (by omega)], rfl⟩
    · exact r1 ⟨by rw [if_pos (by omega)], rfl⟩
    · exact r1 ⟨by rw [if_neg (by omega)], rfl⟩
  · rw [hE] at hA
    rw [if_neg (by omega)]
    refine Tr.enter env _ Tryz.func29 (by kernel_rfl) rfl Tryz.ntmps29 rfl (by repeat (first | exact has00 | refine has01 ?_)) fun w0 => ?_
    repeat' first|(refine gca ?_; first|(refine ca hA ?_; rintro _ _ ⟨rfl, rfl⟩))|refine bx fun b => ?_|refine lda ?_|(refine wo ?_; first|(refine ao ?_; first|refine oa ?_)|refine oa ?_)|(refine gc ?_; first|refine ct ?_)|refine sq ?_|refine rg ?_|refine xc ?_|refine nl ?_|refine bk ?_|refine rt ?_
    exact r1 ⟨rfl, rfl⟩
theorem placeW_tr (tot : Int) (cv ov : Value) (cut oth : List Int) (b r : Nat) (sv : Value) (x : Lw) (used : Int) (hx : okL x) (hu : 0 ≤ used ∧ used ≤ 1000) (hc : cv.oneCell' = true) (ho : ov.oneCell' = true) (hE : alE tot cut oth = 0) :
    Tr Tryz.prog 64 [.agg #[I tot, cv, ov], ptr b] [vw cv (Is cut), vw ov (Is oth)] [lot b r sv x used] fun v D => v = tup2 (I (plcW tot cut oth x).1.1) (I (plcW tot cut oth x).1.2) ∧ ∃ sv', D = [lot b r sv' (plcW tot cut oth x).2.1 (used + (plcW tot cut oth x).2.2)] := by
  have hb := alE_bnd hE
  have h1 := DrawL_tr b r sv x used cut.length hx (by omega)
  unfold plcW
  by_cases he1 : (drw cut.length x).1.2 = 0
  · rw [if_pos he1]
    rw [show dru cut.length x = 1 from if_pos he1, he1] at h1
    have l1 := drw_rng he1
    have hx1 := okL_drw cut.length hx
    clear he1
    generalize (drw cut.length x).1.1 = c at *
    generalize (drw cut.length x).2 = x1 at *
    have h2 := fun sv1 => DrawL_tr b r sv1 x1 (used + 1) tot hx1 (by omega)
    by_cases he2 : (drw tot x1).1.2 = 0
    · rw [if_pos he2]
      rw [show dru tot x1 = 1 from if_pos he2, he2] at h2
      have l2 := drw_rng he2
      clear he2
      generalize (drw tot x1).1.1 = l at *
      generalize (drw tot x1).2 = x2 at *
      rw [show used + 1 + 1 = used + 2 by omega] at h2
      refine Tr.enter env _ Tryz.func64 (by kernel_rfl) rfl Tryz.ntmps64 rfl (by repeat (first | exact has00 | refine has01 ?_)) fun w0 => ?_
      repeat' first|(refine gca ?_; first|(refine ca h1 ?_; rintro _ _ ⟨rfl, sv1, rfl⟩)|(refine ca (h2 sv1) ?_; rintro _ _ ⟨rfl, sv2, rfl⟩)|(refine ca (AlPick_tr tot c l cv ov cut oth hc ho hE (by omega) (by omega)) ?_; rintro _ _ ⟨rfl, rfl⟩))|refine bx fun b => ?_|refine lda ?_|(refine wo ?_; first|(refine ao ?_; first|refine oa ?_)|refine oa ?_|refine ld ?_|refine lnm ?_)|(refine gc ?_; first|refine cf ?_)|refine sq ?_|refine rg ?_|refine xc ?_|refine nl ?_|refine sk ?_|refine rt ?_
      exact r2 ⟨rfl, sv2, rfl⟩
    · rw [if_neg he2]
      rw [show dru tot x1 = 0 from if_neg he2, Int.add_zero] at h2
      generalize (drw tot x1).1.1 = n2 at *
      generalize (drw tot x1).1.2 = e2 at *
      generalize (drw tot x1).2 = x2 at *
      refine Tr.enter env _ Tryz.func64 (by kernel_rfl) rfl Tryz.ntmps64 rfl (by repeat (first | exact has00 | refine has01 ?_)) fun w0 => ?_
      repeat' first|(refine gca ?_; first|(refine ca h1 ?_; rintro _ _ ⟨rfl, sv1, rfl⟩)|(refine ca (h2 sv1) ?_; rintro _ _ ⟨rfl, sv2, rfl⟩))|refine bx fun b => ?_|refine lda ?_|(refine wo ?_; first|(refine ao ?_; first|refine oa ?_)|refine oa ?_|refine ld ?_|refine lnm ?_)|(refine gc ?_; first|refine cf ?_|(refine cn (fun hB => ?_) (fun hB => ?_) <;> try (exfalso; omega)))|refine sq ?_|refine rg ?_|refine xc ?_|refine nl ?_|refine sk ?_|refine rt ?_
      exact r2 ⟨rfl, sv2, rfl⟩
  · rw [if_neg he1]
    rw [show dru cut.length x = 0 from if_neg he1, Int.add_zero] at h1
    rw [Int.add_zero]
    generalize (drw cut.length x).1.1 = n2 at *
    generalize (drw cut.length x).1.2 = e2 at *
    generalize (drw cut.length x).2 = x2 at *
    refine Tr.enter env _ Tryz.func64 (by kernel_rfl) rfl Tryz.ntmps64 rfl (by repeat (first | exact has00 | refine has01 ?_)) fun w0 => ?_
    repeat' first|(refine gca ?_; first|(refine ca h1 ?_; rintro _ _ ⟨rfl, sv1, rfl⟩))|refine bx fun b => ?_|refine lda ?_|(refine wo ?_; first|(refine ao ?_; first|refine oa ?_)|refine oa ?_|refine ld ?_|refine lnm ?_)|(refine gc ?_; first|(refine cn (fun hB => ?_) (fun hB => ?_) <;> try (exfalso; omega)))|refine sq ?_|refine rg ?_|refine xc ?_|refine nl ?_|refine rt ?_
    exact r2 ⟨rfl, sv1, rfl⟩
theorem SetW_tr (tot k : Int) (cv ov : Value) (cut oth : List Int) (b r : Nat) (sv : Value) (x : Lw) (hx : okL x) (hc : cv.oneCell' = true) (ho : ov.oneCell' = true) :
    Tr Tryz.prog 24 [.agg #[I tot, cv, ov], I k, ptr b] [vw cv (Is cut), vw ov (Is oth)] [lot b r sv x 0] fun v D => ∃ o sv', v = tup2 o (I (setW tot cut oth k x).1.2) ∧ D = [own TLI o (Is (setW tot cut oth k x).1.1), lot b r sv' (setW tot cut oth k x).2.1 (setW tot cut oth k x).2.2] := by
  have hck := RwE_tr tot k cv ov cut oth hc ho
  unfold setW
  by_cases hk : rwE tot cut oth k = 0
  rotate_left
  · rw [if_neg hk]
    generalize rwE tot cut oth k = e at *
    refine Tr.enter env _ Tryz.func24 (by kernel_rfl) rfl Tryz.ntmps24 rfl (by repeat (first | exact has00 | refine has01 ?_)) fun w0 => ?_
    repeat' first|(refine gca ?_; first|(refine ca hck ?_; rintro _ _ ⟨rfl, rfl⟩))|refine bx fun b => ?_|refine lda ?_|(refine wo ?_; first|(refine ao ?_; first|refine oa ?_)|refine oa ?_)|(refine gc ?_; first|(refine cn (fun hB => ?_) (fun hB => ?_) <;> try (exfalso; omega)))|refine sq ?_|refine rg ?_|refine xc ?_|refine nl ?_|refine rt ?_
    refine TX.im (own_nil TLI _) ?_
    exact r2 ⟨nS, sv, rfl, rfl⟩
  rw [hk] at hck
  rw [if_pos hk]
  obtain ⟨hE, k1, k2, k3⟩ := rwE_ok hk
  clear hk
  have h1 := placeW_tr tot cv ov cut oth b r sv x 0 hx (by omega) hc ho hE
  have hpu := plcW_u tot cut oth x
  have hpx := okL_plc tot cut oth hx
  rw [Int.zero_add] at h1
  by_cases hp : (plcW tot cut oth x).1.2 = 0
  · have hat := plcW_in hE hp
    rw [if_pos hp]
    rw [hp] at h1
    generalize (plcW tot cut oth x).1.1 = at1 at *
    generalize (plcW tot cut oth x).2.1 = x2 at *
    generalize (plcW tot cut oth x).2.2 = u2 at *
    have h2 := fun sv1 => PickL_tr b r sv1 x2 u2 k (at1 + 1) hpx (by omega)
    generalize pickO k (at1 + 1) x2 = pk at *
    generalize ordO k (at1 + 1) x2 = oo at *
    refine Tr.enter env _ Tryz.func24 (by kernel_rfl) rfl Tryz.ntmps24 rfl (by repeat (first | exact has00 | refine has01 ?_)) fun w0 => ?_
    repeat' first|(refine gca ?_; first|(refine ca hck ?_; rintro _ _ ⟨rfl, rfl⟩)|(refine ca h1 ?_; rintro _ _ ⟨rfl, sv1, rfl⟩)|(refine ca (h2 sv1) ?_; rintro _ _ ⟨o, sv2, rfl, rfl⟩))|refine bx fun b => ?_|refine lda ?_|(refine wo ?_; first|(refine ao ?_; first|refine aw ?_|refine oa ?_)|refine oa ?_)|(refine gc ?_; first|refine cf ?_)|refine sq ?_|refine rg ?_|refine xc ?_|refine nl ?_|refine sk ?_|refine rt ?_
    exact r2 ⟨o, sv2, rfl, rfl⟩
  · rw [if_neg hp]
    generalize plcW tot cut oth x = pl at *
    refine Tr.enter env _ Tryz.func24 (by kernel_rfl) rfl Tryz.ntmps24 rfl (by repeat (first | exact has00 | refine has01 ?_)) fun w0 => ?_
    repeat' first|(refine gca ?_; first|(refine ca hck ?_; rintro _ _ ⟨rfl, rfl⟩)|(refine ca h1 ?_; rintro _ _ ⟨rfl, sv1, rfl⟩))|refine bx fun b => ?_|refine lda ?_|(refine wo ?_; first|(refine ao ?_; first|refine oa ?_)|refine oa ?_)|(refine gc ?_; first|refine cf ?_|(refine cn (fun hB => ?_) (fun hB => ?_) <;> try (exfalso; omega)))|refine sq ?_|refine rg ?_|refine xc ?_|refine nl ?_|refine sk ?_|refine rt ?_
    refine TX.im (own_nil TLI _) ?_
    exact r2 ⟨nS, sv1, rfl, rfl⟩
end Go.Art
set_option linter.unusedSimpArgs false
set_option linter.unusedVariables false
namespace Go.Art
open Go Go.Proofs Go.RowKit
abbrev Fr3 := Bool × List Nat × List Nat
abbrev rqf (q : Rat) : Fr3 := (decide (q.num < 0), dg q.num.natAbs, dg q.den)
abbrev rqn : Fr3 := (false, [], [])
abbrev FW (t : Fr3 × Int) (u : Value) (D : List Ch) : Prop := ∃ vn vd, u = tup2 (.agg #[.bool t.1.1, vn, vd]) (I t.2) ∧ vn.oneCell' = true ∧ vd.oneCell' = true ∧ D = [own T64 vn (Us t.1.2.1), own T64 vd (Us t.1.2.2)]
theorem FW.of0 {e : Int} {u : Value} {D : List Ch} (h : u = tup2 rv0 (I e) ∧ D = [own T64 nS (Us []), own T64 nS (Us [])]) : FW (rqn, e) u D := ⟨nS, nS, h.1, rfl, rfl, h.2⟩
def meaW (tot : Int) (cut oth : List Int) (k d : Int) : Fr3 × Int :=
  if rwE tot cut oth k = 0 then (if d < 1 ∨ cut.length < d then (rqn, 3) else (rqf (mkRat 1 (fall k.toNat d.toNat * cut.length * tot.toNat)), 0)) else (rqn, rwE tot cut oth k)
def chaW (t : List Int) (k d : Int) : Fr3 × Int :=
  if solE t k = 0 then (if d < 1 ∨ t.length < d then (rqn, 3) else (rqf (mkRat (t.getD (d - 1).toNat 0) (chs k.toNat d.toNat * t.sum.toNat)), 0)) else (rqn, 13)
section
variable {P : Program} {E : Env P} {X : Cx} {fr : Fr} {A D G : List Ch}
theorem rcc {w0 : World} {A0 : List Ch} {R' : Value → List Ch → Prop} {fn : Func} {t nn : Nat} {ty T : TypeId} {dt : TypeDesc} {b : Nat} {cs : List Value} {v : Value} (h : R' v D) (hr : fn.results = #[.cell t ty] := by rfl) (ht : lk E.und ty = some dt := by rfl) (hg : aggB dt = false := by rfl)
    (hv : get fr t = some (ptr b) := by rfl) (hm : pt b cs T ∈ A := by (repeat (first | apply List.Mem.head | apply List.Mem.tail)); first | done | fail) (hc : cs[0]? = some v := by rfl) (hf : Fit A D G := by first | apply Fit.all | ((repeat (first | (apply Fit.nilN; (repeat (first | apply nrm_nil | apply nrm_cons)); try apply nrm_rfl) | (apply Fit.cons; focus ((repeat (first | apply Tk.here | apply Tk.there)); first | done | fail)))); first | done | fail)) (nb : ∀ c ∈ D, ∀ b, ¬ c.bd b := by (repeat (first | exact nb0 | refine nb1 ?_)); first | done | fail) :
    TX E ⟨nn, [], none⟩ ⟨bodyPost P fn (RetP (PR w0 A0 R')), w0, A0⟩ [] .ret fr A := ⟨fun w hw => ⟨fun a ha =>
  bodyPost_ret (res_c (E := E) ha hr ht hg hv (ptcell hw.sat hm hc)) (ha.defers.trans rfl) ⟨_, rfl, PR.mk h hw hf nb⟩⟩⟩
end
attribute [local irreducible] Fit pt own ro vw mpc lpt vels rels mow lrc dfr
attribute [local irreducible] lmp lme mit velg relg
theorem soAdd_tr (c : Nat) (m w : Int) (h : -9223372036854775808 ≤ m + w ∧ m + w ≤ 9223372036854775807) : Tr Tryz.prog 91 [I w, ptr c] [] [pt c [I m] TLI] fun _ D => D = [pt c [I (m + w)] TLI] := by
  refine Tr.enter env _ Tryz.func91 (by kernel_rfl) rfl Tryz.ntmps91 rfl (by repeat (first | exact has00 | refine has01 ?_)) fun w0 => ?_
  repeat' first|(refine wo ?_; first|(refine ao ?_; first|refine aw ?_)|refine oa ?_|refine ld ?_|refine sr ?_)|refine rg ?_|refine nl ?_
  exact e0 rfl
theorem SoTotal_tr (s : Value) (t : List Int) (h1 : 1 ≤ t.length ∧ t.length ≤ 65536) (hw : ∀ w ∈ t, 0 ≤ w ∧ w ≤ 16777215) : Tr Tryz.prog 54 [s] [vw s (Is t)] [] fun v D => v = I t.sum ∧ D = [] := by
  refine Tr.enter env _ Tryz.func54 (by kernel_rfl) rfl Tryz.ntmps54 rfl (by repeat (first | exact has00 | refine has01 ?_)) fun w0 => ?_
  repeat' first|refine al fun c => ?_|(refine wo ?_; first|refine oa ?_|refine lnm ?_)|refine sq ?_|refine rg ?_|refine xc ?_|refine nl ?_|refine bk ?_
  refine TC.loop (ι := Nat) (fun i => [(9, I i)]) (fun i => [pt c [I (t.take i).sum] TLI]) (fun i => i ≤ t.length) (fun i => t.length - i) 0 [2, 3, 7, 8] (by simp) ?_
  rintro i h2
  by_cases hi : i < t.length
  · have hs := take_sum hi
    have hb := hw _ (mem_getD.2 ⟨i, hi, rfl⟩)
    have hc := sum_bound (t := t.take i) fun w h => hw w (List.mem_of_mem_take h)
    rw [List.length_take] at hc
    generalize hy : t.getD i 0 = y at *
    generalize (t.take i).sum = m at *
    repeat' first|refine lie hy ?_|(refine cav (cap := #[ptr c]) (vs := [I y]) (soAdd_tr c m y (by omega)) ?_; rintro _ _ rfl)|(refine wo ?_; first|(refine ao ?_; first|refine aw ?_|refine oa ?_)|refine oa ?_|refine ixmn ?_)|(refine gc ?_; first|(refine ci (fun hB => ?_) (fun hB => ?_) <;> try (exfalso; omega)))|refine sq ?_|refine rg ?_|refine xc ?_|refine nl ?_|refine sk ?_|refine bk ?_|refine xb ?_
    exact lp (i + 1) (by omega) (hf := by rw [hs]; first | apply Fit.all | ((repeat (first | (apply Fit.nilN; (repeat (first | apply nrm_nil | apply nrm_cons)); try apply nrm_rfl) | (apply Fit.cons; focus ((repeat (first | apply Tk.here | apply Tk.there)); first | done | fail)))); first | done | fail))
  · obtain rfl : i = t.length := by omega
    rw [List.take_length]
    repeat' first|(refine wo ?_; first|(refine ao ?_; first|refine oa ?_)|refine ld ?_|refine sr ?_)|(refine gc ?_; first|(refine ci (fun hB => ?_) (fun hB => ?_) <;> try (exfalso; omega)))|refine sq ?_|refine rg ?_|refine xc ?_|refine nl ?_|refine xe ?_|refine rt ?_
    exact rcc (cs := [I t.sum]) (T := TLI) ⟨rfl, rfl⟩
theorem over1_tr (v : Value) (l : List Nat) (hd : Dg l) (hl : l.length ≤ 68719476736) (h0 : nv l ≠ 0) : Tr Tryz.prog 44 [v] [vw v (Us l)] [] (FQ (mkRat 1 (nv l))) := by
  have hO := IOf_tr 1 (by decide)
  have hd1 : (dz ((1 : Nat) : Int)).length ≤ 1 := dg_len1 (by decide)
  have hM := fun o => FMake_tr ((1 : Nat) : Int) o v l hd (by omega) hl h0
  unfold IR at hO
  rw [show (((1 : Nat) : Int)).natAbs = 1 from rfl] at hO
  unfold dz at hM
  simp only [show (((1 : Nat) : Int)).natAbs = 1 from rfl] at hM
  unfold FQ2 at hM
  simp only [show ((1 : Nat) : Int) = 1 from rfl] at hM hO
  obtain ⟨q, hq⟩ : ∃ q, q = mkRat 1 (nv l) := ⟨_, rfl⟩
  simp only [← hq] at hM ⊢
  refine Tr.enter env _ Tryz.func44 (by kernel_rfl) rfl Tryz.ntmps44 rfl (by repeat (first | exact has00 | refine has01 ?_)) fun w0 => ?_
  repeat' first|(refine gca ?_; first|(refine ca hO ?_; rintro _ _ ⟨o, rfl, ho, rfl⟩)|(refine ca (hM o) ?_; rintro _ _ ⟨vn, vd, rfl, hvn, hvd, rfl⟩))|refine al fun c => ?_|refine lda ?_|refine srz ?_|(refine wo ?_; first|refine oa ?_)|refine sq ?_|refine rg ?_|refine xc ?_|refine nl ?_|refine rt ?_
  exact rca1 (cs := [.bool (decide (q.num < 0)), vn, vd]) (vs := [.bool (decide (q.num < 0)), vn, vd]) (T := TRt) ⟨vn, vd, rfl, hvn, hvd, rfl⟩
end Go.Art
set_option linter.unusedSimpArgs false
set_option linter.unusedVariables false
namespace Go.Art
open Go Go.Proofs Go.RowKit
attribute [local irreducible] Fit pt own ro vw mpc lpt vels rels mow lrc dfr
theorem RGcd_tr (va vb : Value) (a b : List Nat) (ha : Dg a) (hb : Dg b) (hla : a.length ≤ 262144) (hlb : b.length ≤ 262144) : Tr Tryz.prog 130 [va, vb] [vw va (Us a), vw vb (Us b)] [] fun u D => u.oneCell' = true ∧ D = [own T64 u (Us (dg (Nat.gcd (nv a) (nv b))))] := by
  have h1 := dg_len_le ha
  have h2 := dg_len_le hb
  obtain ⟨na, hna⟩ : ∃ na, na = nv a := ⟨_, rfl⟩
  obtain ⟨nb, hnb⟩ : ∃ nb, nb = nv b := ⟨_, rfl⟩
  have hTa := RTrim_tr va a ha (by omega)
  have hTb := RTrim_tr vb b hb (by omega)
  rw [← hna] at h1 hTa ⊢
  rw [← hnb] at h2 hTb ⊢
  clear hna hnb
  refine Tr.enter env _ Tryz.func130 (by kernel_rfl) rfl Tryz.ntmps130 rfl (by repeat (first | exact has00 | refine has01 ?_)) fun w0 => ?_
  repeat' first|(refine gca ?_; first|(refine ca hTa ?_; rintro u1 _ ⟨hu1, rfl⟩)|(refine ca hTb ?_; rintro u2 _ ⟨hu2, rfl⟩))|(refine wo ?_; first|refine oa ?_)|refine sq ?_|refine rg ?_|refine xc ?_|refine nl ?_|refine bk ?_
  refine TC.loop (ι := Nat × Nat × Value × Value) (fun k => [(0, k.2.2.1), (1, k.2.2.2)]) (fun k => [own T64 k.2.2.1 (Us (dg k.1)), own T64 k.2.2.2 (Us (dg k.2.1))]) (fun k => (dg k.1).length ≤ 262144 ∧ (dg k.2.1).length ≤ 262144 ∧ Nat.gcd k.1 k.2.1 = Nat.gcd na nb ∧ k.2.2.1.oneCell' = true ∧ k.2.2.2.oneCell' = true) (fun k => k.2.1) (na, nb, u1, u2) [] ⟨by dsimp only; omega, by dsimp only; omega, rfl, hu1, hu2⟩ ?_
  rintro ⟨p, q, v1, v2⟩ ⟨g1, g2, g3, g4, g5⟩
  dsimp only at g1 g2 g3 g4 g5 ⊢
  by_cases hq : q = 0
  · subst hq
    have hl : (dg 0).length = 0 := by rw [dg_zero]; rfl
    rw [Nat.gcd_zero_right] at g3
    rw [← g3]
    repeat' first|(refine wo ?_; first|(refine ao ?_; first|refine oa ?_)|refine oa ?_|refine lnm ?_)|(refine gc ?_; first|(refine ci (fun hB => ?_) (fun hB => ?_) <;> try (exfalso; omega)))|refine sq ?_|refine rg ?_|refine xc ?_|refine nl ?_|refine xe ?_|refine rt ?_
    exact r1 ⟨g4, rfl⟩
  · have hl := dg_len_pos hq
    have hD := RDiv_tr v1 v2 (dg p) (dg q) (Dg_dg p) (Dg_dg q) (by omega) (by omega) (by rw [nv_dg]; exact hq)
    rw [nv_dg, nv_dg] at hD
    have hm : p % q < q := Nat.mod_lt _ (by omega)
    have hml := Nat.le_trans (dg_mono (Nat.le_of_lt hm)) g2
    have hg : Nat.gcd q (p % q) = Nat.gcd na nb := by rw [← g3, Nat.gcd_comm p q, Nat.gcd_rec q p, Nat.gcd_comm]
    obtain ⟨r, hr⟩ : ∃ r, r = p % q := ⟨_, rfl⟩
    unfold DivR at hD
    rw [← hr] at hm hml hg hD
    repeat' first|(refine gca ?_; first|(refine ca hD ?_; rintro _ _ ⟨qv, rv, rfl, hqv, hrv, rfl⟩))|(refine wo ?_; first|(refine ao ?_; first|refine oa ?_)|refine oa ?_|refine lnm ?_)|(refine gc ?_; first|(refine ci (fun hB => ?_) (fun hB => ?_) <;> try (exfalso; omega)))|refine sq ?_|refine rg ?_|refine xc ?_|refine nl ?_|refine sk ?_|refine bk ?_|refine xb ?_
    exact lp (q, r, v2, rv) ⟨g2, hml, hg, g5, hrv⟩
theorem RIMake_tr (b : Bool) (v : Value) (l : List Nat) (hd : Dg l) (hl : l.length ≤ 1099511627776) : Tr Tryz.prog 95 [.bool b, v] [vw v (Us l)] [] (IR (sg b (nv l))) := by
  have hlp : 0 < (dg (nv l)).length ↔ 0 < nv l := ⟨fun h => Nat.pos_of_ne_zero fun e => by rw [e, dg_zero] at h; simp at h, fun h => dg_len_pos (by omega)⟩
  have hll := dg_len_le hd
  unfold IR
  rw [sg_abs, sg_neg]
  refine Tr.enter env _ Tryz.func95 (by kernel_rfl) rfl Tryz.ntmps95 rfl (by repeat (first | exact has00 | refine has01 ?_)) fun w0 => ?_
  repeat' first|(refine gca ?_; first|(refine ca (RTrim_tr v l hd (by omega)) ?_; rintro o _ ⟨ho, rfl⟩))|refine al fun c => ?_|refine bdz ?_|refine srz ?_|(refine wo ?_; first|(refine ao ?_; first|refine oa ?_)|refine oa ?_|refine lnm ?_|refine gy ?_|refine gn ?_|(refine gs (fun hB => ?_) (fun hB => ?_) <;> try (exfalso; omega)))|refine sq ?_|refine rg ?_|refine xc ?_|refine nl ?_|refine rt ?_
  · subst hB
    exact rca1 (b := c) (cs := [.bool (decide (0 < ((dg (nv l)).length : Int))), o]) (vs := [.bool (decide (0 < ((dg (nv l)).length : Int))), o]) (T := TIt) ⟨o, by simp [hlp], ho, rfl⟩
  · subst hB
    exact rca1 (b := c) (cs := [.bool false, o]) (vs := [.bool false, o]) (T := TIt) ⟨o, rfl, ho, rfl⟩
theorem RIOf_tr (x : Nat) (hx : x < 9223372036854775808) : Tr Tryz.prog 58 [I x] [] [] (IR (x : Int)) := by
  have h1 := dg_len1 (n := x) (by omega)
  have hM := fun o => RIMake_tr false o (dg x) (Dg_dg x) (by omega)
  have hs : sg false x = (x : Int) := rfl
  simp only [nv_dg, hs] at hM
  unfold IR at hM ⊢
  refine Tr.enter env _ Tryz.func58 (by kernel_rfl) rfl Tryz.ntmps58 rfl (by repeat (first | exact has00 | refine has01 ?_)) fun w0 => ?_
  repeat' first|(refine gca ?_; first|(refine ca (ROf_tr x (by omega)) ?_; rintro o _ ⟨ho, rfl⟩)|(refine ca (hM o) ?_; rintro _ _ ⟨o2, rfl, ho2, rfl⟩))|refine al fun c => ?_|refine srz ?_|(refine wo ?_; first|(refine ao ?_; first|refine oa ?_)|refine ntu ?_|refine oa ?_)|(refine gc ?_; first|refine cf ?_)|refine sq ?_|refine rg ?_|refine xc ?_|refine nl ?_|refine sk ?_|refine rt ?_
  exact rca1 (cs := [.bool (decide ((x : Int) < 0)), o2]) (vs := [.bool (decide ((x : Int) < 0)), o2]) (T := TIt) ⟨o2, rfl, ho2, rfl⟩
theorem RICheck_tr (z : Int) (o : Value) : Tr Tryz.prog 93 [iv z o] [vw o (Us (dz z))] [] fun u D => u = I 0 ∧ D = [] := by
  have hC := RNCheck_tr o (dz z)
  have hk := icheck_ok z
  rw [if_neg fun h => hk (.inr h)] at hC
  have hk2 : z < 0 → (dz z).length ≠ 0 := fun h1 h2 => hk (.inl ⟨decide_eq_true h1, h2⟩)
  clear hk
  refine Tr.enter env _ Tryz.func93 (by kernel_rfl) rfl Tryz.ntmps93 rfl (by repeat (first | exact has00 | refine has01 ?_)) fun w0 => ?_
  repeat' first|(refine gca ?_; first|(refine ca hC ?_; rintro _ _ ⟨rfl, rfl⟩))|refine bx fun q => ?_|(refine wo ?_; first|(refine ao ?_; first|refine oa ?_)|refine oa ?_|refine ld ?_|refine lnm ?_|refine gy ?_|refine gn ?_|(refine gsi (fun hB => ?_) (fun hB => ?_) <;> try (exfalso; omega)))|(refine gc ?_; first|refine cf ?_|(refine ci (fun hB => ?_) (fun hB => ?_) <;> try (exfalso; omega)))|refine sq ?_|refine rg ?_|refine xc ?_|refine nl ?_|refine sk ?_|refine rt ?_
  all_goals first | (exfalso; have := hk2 (by assumption); omega) | exact r1 ⟨rfl, rfl⟩
theorem Rlowest_tr (b : Bool) (o dv : Value) (l m : List Nat) (hl : Dg l) (hm : Dg m) (hll : l.length ≤ 262144) (hlm : m.length ≤ 262144) (hm0 : nv m ≠ 0) :
    Tr Tryz.prog 94 [.agg #[.bool b, o], dv] [vw o (Us l), vw dv (Us m)] [] (FQ (mkRat (sg b (nv l)) (nv m))) := by
  have e1 := mk_abs (sg b (nv l)) hm0
  have e2 := mk_den (sg b (nv l)) hm0
  have e3 := sg_mk b (nv l) hm0
  rw [sg_abs] at e1 e2
  have hg0 : Nat.gcd (nv l) (nv m) ≠ 0 := Nat.ne_of_gt (Nat.gcd_pos_of_pos_right _ (by omega))
  have hgl : (dg (Nat.gcd (nv l) (nv m))).length ≤ m.length := dg_le hm (Nat.gcd_le_right _ (by omega))
  have hB1 := fun g => RDiv_tr o g l (dg (Nat.gcd (nv l) (nv m))) hl (Dg_dg _) (by omega) (by omega) (by rw [nv_dg]; exact hg0)
  have hB2 := fun g => RDiv_tr dv g m (dg (Nat.gcd (nv l) (nv m))) hm (Dg_dg _) (by omega) (by omega) (by rw [nv_dg]; exact hg0)
  have hG := RGcd_tr o dv l m hl hm (by omega) (by omega)
  have hql : (dg (nv l / Nat.gcd (nv l) (nv m))).length ≤ l.length := dg_le hl (Nat.div_le_self _ _)
  have hM := fun u => RIMake_tr b u (dg (nv l / Nat.gcd (nv l) (nv m))) (Dg_dg _) (by omega)
  simp only [nv_dg] at hB1 hB2 hM
  unfold IR at hM
  unfold DivR at hB1 hB2
  simp only [sg_abs, sg_neg] at hM
  simp only [← e3] at hM
  simp only [← e2] at hB2
  simp only [← e1] at hB1 hM
  obtain ⟨q, hq⟩ : ∃ q, q = mkRat (sg b (nv l)) (nv m) := ⟨_, rfl⟩
  obtain ⟨g, hgg⟩ : ∃ g, g = Nat.gcd (nv l) (nv m) := ⟨_, rfl⟩
  simp only [← hq] at hB1 hB2 hM ⊢
  simp only [← hgg] at hB1 hB2 hG
  generalize nv l % g = m1 at *
  generalize nv m % g = m2 at *
  clear e1 e2 e3 hg0 hgl hql hq hgg
  refine Tr.enter env _ Tryz.func94 (by kernel_rfl) rfl Tryz.ntmps94 rfl (by repeat (first | exact has00 | refine has01 ?_)) fun w0 => ?_
  repeat' first|(refine gca ?_; first|(refine ca hG ?_; rintro gv _ ⟨hgv, rfl⟩)|(refine ca (hB1 gv) ?_; rintro _ _ ⟨u1, u2, rfl, hu1, hu2, rfl⟩)|(refine ca (hB2 gv) ?_; rintro _ _ ⟨u3, u4, rfl, hu3, hu4, rfl⟩)|(refine ca (hM u1) ?_; rintro _ _ ⟨u5, rfl, hu5, rfl⟩))|refine bx fun q1 => ?_|refine al fun c => ?_|refine bdm ?_|refine srz ?_|(refine wo ?_; first|refine oa ?_|refine ld ?_)|refine sq ?_|refine rg ?_|refine xc ?_|refine nl ?_|refine rt ?_
  exact rca1 (cs := [.bool (decide (q.num < 0)), u5, u3]) (vs := [.bool (decide (q.num < 0)), u5, u3]) (T := TRt) ⟨u5, u3, rfl, hu5, hu3, rfl⟩
theorem RFMake_tr (z : Int) (o dv : Value) (m : List Nat) (hm : Dg m) (hll : (dz z).length ≤ 262144) (hlm : m.length ≤ 262144) (hm0 : nv m ≠ 0) :
    Tr Tryz.prog 57 [iv z o, dv] [vw o (Us (dz z)), vw dv (Us m)] [] (FQ2 (mkRat z (nv m)) 0) := by
  have hC := RICheck_tr z o
  have hT := RTrim_tr dv m hm (by omega)
  have hpos := dg_len_pos hm0
  have hL := Rlowest_tr (decide (z < 0)) o dv (dz z) m (Dg_dg _) hm hll hlm hm0
  have hs : sg (decide (z < 0)) (nv (dz z)) = z := by
    unfold sg; rw [nv_dg]
    by_cases h : z < 0
    · rw [if_pos (by simpa using h)]; omega
    · rw [if_neg (by simpa using h)]; omega
  rw [hs] at hL
  unfold FQ at hL
  obtain ⟨q, hq⟩ : ∃ q, q = mkRat z (nv m) := ⟨_, rfl⟩
  rw [← hq] at hL ⊢
  refine Tr.enter env _ Tryz.func57 (by kernel_rfl) rfl Tryz.ntmps57 rfl (by repeat (first | exact has00 | refine has01 ?_)) fun w0 => ?_
  repeat' first|(refine gca ?_; first|(refine ca hC ?_; rintro _ _ ⟨rfl, rfl⟩)|(refine ca hT ?_; rintro tv _ ⟨htv, rfl⟩)|(refine ca hL ?_; rintro _ _ ⟨vn, vd, rfl, hvn, hvd, rfl⟩))|refine bx fun q1 => ?_|refine al fun c => ?_|refine lda ?_|refine srz ?_|(refine wo ?_; first|(refine ao ?_; first|refine oa ?_)|refine oa ?_|refine lnm ?_)|(refine gc ?_; first|refine cf ?_|(refine ci (fun hB => ?_) (fun hB => ?_) <;> try (exfalso; omega)))|refine sq ?_|refine rg ?_|refine xc ?_|refine nl ?_|refine sk ?_|refine bk ?_|refine rt ?_|refine xb ?_
  exact rca (cs := [.bool (decide (q.num < 0)), vn, vd]) (vs := [.bool (decide (q.num < 0)), vn, vd]) (T := TRt) ⟨vn, vd, rfl, hvn, hvd, rfl⟩
theorem RFalling_tr (n k : Nat) (hn : n ≤ 65536) (hk : k ≤ n) : Tr Tryz.prog 46 [I n, I k] [] [] fun u D => eNat u D (fall n k) 0 := by
  refine Tr.enter env _ Tryz.func46 (by kernel_rfl) rfl Tryz.ntmps46 rfl (by repeat (first | exact has00 | refine has01 ?_)) fun w0 => ?_
  repeat' first|(refine gca ?_; first|(refine ca (ROf_tr 1 (by decide)) ?_; rintro o _ ⟨ho, rfl⟩))|(refine wo ?_; first|(refine ao ?_; first|refine oa ?_)|refine oa ?_|refine gy ?_|(refine gsi (fun hB => ?_) (fun hB => ?_) <;> try (exfalso; omega)))|(refine gc ?_; first|refine cf ?_|(refine ci (fun hB => ?_) (fun hB => ?_) <;> try (exfalso; omega)))|refine sq ?_|refine rg ?_|refine xc ?_|refine nl ?_|refine sk ?_|refine bk ?_
  refine TC.loop (ι := Nat × Value) (fun g => [(7, I g.1), (6, g.2)]) (fun g => [own T64 g.2 (Us (dg (fall n g.1)))]) (fun g => g.1 ≤ k ∧ g.2.oneCell' = true) (fun g => k - g.1) (0, o) [0, 1] ⟨Nat.zero_le _, ho⟩ ?_ (hf := by dsimp only; rw [show fall n 0 = 1 from rfl]; first | apply Fit.all | ((repeat (first | (apply Fit.nilN; (repeat (first | apply nrm_nil | apply nrm_cons)); try apply nrm_rfl) | (apply Fit.cons; focus ((repeat (first | apply Tk.here | apply Tk.there)); first | done | fail)))); first | done | fail))
  rintro ⟨i, v⟩ ⟨hi, hv⟩
  dsimp only at hi hv ⊢
  have hG := RGrow_tr v (dg (fall n i)) (n - i) (Dg_dg _) (by omega) (by have := fall_len hn i; omega)
  rw [nv_dg] at hG
  have hf : fall n i * (n - i) = fall n (i + 1) := rfl
  rw [hf] at hG
  by_cases hlt : i < k
  · repeat' first|(refine gca ?_; first|(refine ca hG ?_; rintro v2 _ ⟨hv2, rfl⟩))|(refine ntu (m := (n : Int) - i) ?_; rw [show ((n : Int) - i).toNat = n - i by omega])|(refine wo ?_; first|(refine ao ?_; first|refine aw ?_|refine oa ?_)|refine oa ?_)|(refine gc ?_; first|(refine ci (fun hB => ?_) (fun hB => ?_) <;> try (exfalso; omega)))|refine sq ?_|refine rg ?_|refine xc ?_|refine nl ?_|refine sk ?_|refine bk ?_|refine xb ?_
    exact lp (i + 1, v2) ⟨hlt, hv2⟩
  · obtain rfl : i = k := by omega
    repeat' first|(refine wo ?_; first|(refine ao ?_; first|refine oa ?_)|refine oa ?_)|(refine gc ?_; first|(refine ci (fun hB => ?_) (fun hB => ?_) <;> try (exfalso; omega)))|refine sq ?_|refine rg ?_|refine xc ?_|refine nl ?_|refine xe ?_|refine rt ?_
    exact r2 ⟨v, rfl, hv, rfl⟩
theorem RSoTotal_tr (s : Value) (t : List Int) (h1 : 1 ≤ t.length ∧ t.length ≤ 65536) (hw : ∀ w ∈ t, 0 ≤ w ∧ w ≤ 16777215) : Tr Tryz.prog 59 [s] [vw s (Is t)] [] fun v D => v = I t.sum ∧ D = [] := by
  refine Tr.enter env _ Tryz.func59 (by kernel_rfl) rfl Tryz.ntmps59 rfl (by repeat (first | exact has00 | refine has01 ?_)) fun w0 => ?_
  repeat' first|(refine wo ?_; first|refine oa ?_)|refine sq ?_|refine rg ?_|refine xc ?_|refine nl ?_|refine bk ?_
  refine TC.loop (ι := Nat) (fun i => [(4, I i), (3, I (t.take i).sum)]) (fun _ => []) (fun i => i ≤ t.length) (fun i => t.length - i) 0 [0] (by simp) ?_
  rintro i h2
  by_cases hi : i < t.length
  · have hs := take_sum hi
    have hb := hw _ (mem_getD.2 ⟨i, hi, rfl⟩)
    have hc := sum_bound (t := t.take i) fun w h => hw w (List.mem_of_mem_take h)
    rw [List.length_take] at hc
    generalize hy : t.getD i 0 = y at *
    repeat' first|refine lie hy ?_|(refine wo ?_; first|(refine ao ?_; first|refine aw ?_|refine oa ?_)|refine oa ?_|refine lnm ?_|refine ixmn ?_)|(refine gc ?_; first|(refine ci (fun hB => ?_) (fun hB => ?_) <;> try (exfalso; omega)))|refine sq ?_|refine rg ?_|refine xc ?_|refine nl ?_|refine sk ?_|refine bk ?_|refine xb ?_
    exact lp (i + 1) (by omega) (hs := by rw [hs]; (repeat (refine Sub.cons rfl (by first | rfl | go_num) ?_)); exact Sub.nil)
  · obtain rfl : i = t.length := by omega
    rw [List.take_length]
    repeat' first|(refine wo ?_; first|(refine ao ?_; first|refine oa ?_)|refine oa ?_|refine lnm ?_)|(refine gc ?_; first|(refine ci (fun hB => ?_) (fun hB => ?_) <;> try (exfalso; omega)))|refine sq ?_|refine rg ?_|refine xc ?_|refine nl ?_|refine xe ?_|refine rt ?_
    exact r1 ⟨rfl, rfl⟩
theorem Rone_tr (v : Value) (l : List Nat) (hd : Dg l) (hl : l.length ≤ 262144) (h0 : nv l ≠ 0) : Tr Tryz.prog 47 [v] [vw v (Us l)] [] (FQ (mkRat 1 (nv l))) := by
  have hO := RIOf_tr 1 (by decide)
  have hd1 : (dz ((1 : Nat) : Int)).length ≤ 1 := dg_len1 (by decide)
  have hM := fun o => RFMake_tr ((1 : Nat) : Int) o v l hd (by omega) hl h0
  unfold IR at hO
  rw [show (((1 : Nat) : Int)).natAbs = 1 from rfl] at hO
  unfold dz at hM
  simp only [show (((1 : Nat) : Int)).natAbs = 1 from rfl] at hM
  unfold FQ2 at hM
  simp only [show ((1 : Nat) : Int) = 1 from rfl] at hM hO
  obtain ⟨q, hq⟩ : ∃ q, q = mkRat 1 (nv l) := ⟨_, rfl⟩
  simp only [← hq] at hM ⊢
  refine Tr.enter env _ Tryz.func47 (by kernel_rfl) rfl Tryz.ntmps47 rfl (by repeat (first | exact has00 | refine has01 ?_)) fun w0 => ?_
  repeat' first|(refine gca ?_; first|(refine ca hO ?_; rintro _ _ ⟨o, rfl, ho, rfl⟩)|(refine ca (hM o) ?_; rintro _ _ ⟨vn, vd, rfl, hvn, hvd, rfl⟩))|refine al fun c => ?_|refine lda ?_|refine srz ?_|(refine wo ?_; first|refine oa ?_)|refine sq ?_|refine rg ?_|refine xc ?_|refine nl ?_|refine rt ?_
  exact rca1 (cs := [.bool (decide (q.num < 0)), vn, vd]) (vs := [.bool (decide (q.num < 0)), vn, vd]) (T := TRt) ⟨vn, vd, rfl, hvn, hvd, rfl⟩
end Go.Art
set_option linter.unusedSimpArgs false
set_option linter.unusedVariables false
namespace Go.Art
open Go Go.Proofs Go.RowKit
theorem R_ntu {P : Program} {E : Env P} {n : Sh} {fr : Fr} {w : World} {t t' ty : TypeId} {x : Operand} {k0 : IntKind} {m : Int} (ht : lk E.und t' = some (.int .u64)) (hs : (lk E.und t).isSome = true) (hx : ev fr x = some (.int k0 m)) (hb : 0 ≤ m ∧ m < 18446744073709551616) : OpV P n fr (.convert t t' x) ty w (Un m.toNat) w := by
  have := R_conv (P := P) (n := n) (w := w) (ty := ty) ht hs hx; rwa [wrapN m m.toNat (by omega)] at this
theorem R_ntuk {P : Program} {E : Env P} {n : Sh} {fr : Fr} {w : World} {t t' ty : TypeId} {x : Operand} {k0 : IntKind} {m : Nat} (ht : lk E.und t' = some (.int .u64)) (hs : (lk E.und t).isSome = true) (hx : ev fr x = some (.int k0 (m : Int))) (hb : m < 18446744073709551616) : OpV P n fr (.convert t t' x) ty w (Un m) w := by
  have := R_ntu (P := P) (n := n) (w := w) (ty := ty) ht hs hx (by omega); rwa [Int.toNat_natCast] at this
theorem dg_grow_len {a x L : Nat} (h : (dg a).length ≤ L) (hx : x < 18446744073709551616) : (dg (a * x)).length ≤ L + 1 := (dg_len _ _).2 (by
  rw [Nat.pow_succ]; exact Nat.mul_lt_mul_of_lt_of_le ((dg_len _ _).1 h) (by omega) (by decide))
theorem meaW_ok {tot : Int} {cut oth : List Int} {k d : Int} (hk : rwE tot cut oth k = 0) (hd : ¬ (d < 1 ∨ cut.length < d)) : meaW tot cut oth k d = (rqf (mkRat 1 (fall k.toNat d.toNat * cut.length * tot.toNat)), 0) := by
  unfold meaW; rw [if_pos hk, if_neg hd]
theorem sum_wOk {t : List Int} (h : ∀ w ∈ t, 0 ≤ w ∧ w ≤ 16777215) : 0 ≤ t.sum ∧ t.sum ≤ 16777215 * t.length := sum_bound h
theorem sum_posT {t : List Int} (h : ∀ w ∈ t, 0 ≤ w ∧ w ≤ 16777215) (hp : ∃ w ∈ t, 0 < w) : 0 < t.sum := by
  induction t with
  | nil => obtain ⟨w, hw, _⟩ := hp; cases hw
  | cons a r ih =>
    have h1 := h a (by simp)
    have h2 := sum_bound (t := r) fun w hw => h w (by simp [hw])
    rw [List.sum_cons]
    obtain ⟨w, hw, hw0⟩ := hp
    rcases List.mem_cons.1 hw with rfl | hw
    · omega
    · have := ih (fun w hw => h w (by simp [hw])) ⟨w, hw, hw0⟩; omega
attribute [local irreducible] Fit pt own ro vw mpc lpt vels rels mow lrc dfr
attribute [local irreducible] lmp lme mit velg relg
theorem MeaW_tr (tot k d : Int) (cv ov : Value) (cut oth : List Int) (hc : cv.oneCell' = true) (ho : ov.oneCell' = true) : Tr Tryz.prog 14 [.agg #[I tot, cv, ov], I k, I d] [vw cv (Is cut), vw ov (Is oth)] []
    (FW (meaW tot cut oth k d)) := by
  have hck := RwE_tr tot k cv ov cut oth hc ho
  by_cases hk : rwE tot cut oth k = 0
  rotate_left
  · unfold meaW
    rw [if_neg hk]
    generalize rwE tot cut oth k = e at *
    refine Tr.mono (R := fun u D => u = tup2 rv0 (I e) ∧ D = [own T64 nS (Us []), own T64 nS (Us [])]) ?_ fun u D h => FW.of0 h
    refine Tr.enter env _ Tryz.func14 (by kernel_rfl) rfl Tryz.ntmps14 rfl (by repeat (first | exact has00 | refine has01 ?_)) fun w0 => ?_
    repeat' first|(refine gca ?_; first|(refine ca hck ?_; rintro _ _ ⟨rfl, rfl⟩))|refine bx fun b => ?_|refine al fun b2 => ?_|refine lda ?_|refine bdm ?_|refine srz ?_|(refine wo ?_; first|(refine ao ?_; first|refine oa ?_)|refine oa ?_)|(refine gc ?_; first|(refine cn (fun hB => ?_) (fun hB => ?_) <;> try (exfalso; omega)))|refine sq ?_|refine rg ?_|refine xc ?_|refine nl ?_|refine rt ?_
    refine TX.im (own_nil T64 _) (TX.im (own_nil T64 _) ?_)
    exact rca (cs := [.bool false, nS, nS]) (vs := [.bool false, nS, nS]) (T := TRt) ⟨rfl, rfl⟩
  rw [hk] at hck
  obtain ⟨hE, k1, k2, k3⟩ := rwE_ok hk
  have hb := alE_bnd hE
  by_cases hd : d < 1 ∨ cut.length < d
  · unfold meaW
    rw [if_pos hk, if_pos hd]
    clear hk hE
    refine Tr.mono (R := fun u D => u = tup2 rv0 (I 3) ∧ D = [own T64 nS (Us []), own T64 nS (Us [])]) ?_ fun u D h => FW.of0 h
    refine Tr.enter env _ Tryz.func14 (by kernel_rfl) rfl Tryz.ntmps14 rfl (by repeat (first | exact has00 | refine has01 ?_)) fun w0 => ?_
    repeat' first|(refine gca ?_; first|(refine ca hck ?_; rintro _ _ ⟨rfl, rfl⟩))|refine bx fun b => ?_|refine al fun b2 => ?_|refine lda ?_|refine bdm ?_|refine srz ?_|(refine wo ?_; first|(refine ao ?_; first|refine oa ?_)|refine oa ?_|refine ld ?_|refine lnm ?_|refine gy ?_|refine gn ?_|(refine gsi (fun hB => ?_) (fun hB => ?_) <;> try (exfalso; omega)))|(refine gc ?_; first|refine ct ?_|refine cf ?_|(refine ci (fun hB => ?_) (fun hB => ?_) <;> try (exfalso; omega)))|refine sq ?_|refine rg ?_|refine xc ?_|refine nl ?_|refine sk ?_|refine rt ?_
    all_goals
      refine TX.im (own_nil T64 _) (TX.im (own_nil T64 _) ?_)
      exact rca (cs := [.bool false, nS, nS]) (vs := [.bool false, nS, nS]) (T := TRt) ⟨rfl, rfl⟩
  rw [meaW_ok hk hd]
  obtain ⟨kn, rfl⟩ : ∃ kn : Nat, k = kn := ⟨k.toNat, by omega⟩
  obtain ⟨dn, rfl⟩ : ∃ dn : Nat, d = dn := ⟨d.toNat, by omega⟩
  obtain ⟨tn, rfl⟩ : ∃ tn : Nat, tot = tn := ⟨tot.toNat, by omega⟩
  simp only [Int.toNat_natCast]
  have hF := Falling_tr kn dn (by omega) (by omega)
  have hfl := fall_len (n := kn) (by omega) dn
  have hfp := fall_pos (n := kn) (k := dn) (by omega)
  obtain ⟨f0, hf0⟩ : ∃ f0, f0 = fall kn dn := ⟨_, rfl⟩
  rw [← hf0] at hF hfl hfp ⊢
  have hG1 := fun v => NGrow_tr v (dg f0) cut.length (Dg_dg _) (by omega) (by omega)
  have hl2 := dg_grow_len (x := cut.length) hfl (by omega)
  have hG2 := fun v => NGrow_tr v (dg (f0 * cut.length)) tn (Dg_dg _) (by omega) (by omega)
  have hl3 := dg_grow_len (x := tn) hl2 (by omega)
  have hp3 : f0 * cut.length * tn ≠ 0 := Nat.mul_ne_zero (Nat.mul_ne_zero hfp (by omega)) (by omega)
  have hO := fun v => over1_tr v (dg (f0 * cut.length * tn)) (Dg_dg _) (by omega) (by rw [nv_dg]; exact hp3)
  simp only [nv_dg] at hG1 hG2 hO
  clear hk hE hf0 hfp hp3 hl2 hl3
  obtain ⟨f1, hf1⟩ : ∃ f1, f1 = f0 * cut.length := ⟨_, rfl⟩
  simp only [← hf1] at hG1 hG2 hO ⊢
  obtain ⟨f2, hf2⟩ : ∃ f2, f2 = f1 * tn := ⟨_, rfl⟩
  simp only [← hf2] at hG2 hO ⊢
  obtain ⟨q, hq⟩ : ∃ q, q = mkRat 1 f2 := ⟨_, rfl⟩
  simp only [← hq] at hO ⊢
  clear hq hf1 hf2
  unfold FQ at hO
  refine Tr.enter env _ Tryz.func14 (by kernel_rfl) rfl Tryz.ntmps14 rfl (by repeat (first | exact has00 | refine has01 ?_)) fun w0 => ?_
  repeat' first|(refine gca ?_; first|(refine ca hck ?_; rintro _ _ ⟨rfl, rfl⟩)|(refine ca hF ?_; rintro _ _ ⟨o, rfl, ho2, rfl⟩))|refine bx fun b => ?_|refine al fun b2 => ?_|refine lda ?_|(refine wo ?_; first|(refine ao ?_; first|refine oa ?_)|refine oa ?_|refine ld ?_|refine lnm ?_|refine gy ?_|(refine gsi (fun hB => ?_) (fun hB => ?_) <;> try (exfalso; omega)))|(refine gc ?_; first|refine cf ?_|(refine ci (fun hB => ?_) (fun hB => ?_) <;> try (exfalso; omega)))|refine sq ?_|refine rg ?_|refine xc ?_|refine nl ?_|refine sk ?_
  refine rs (fun w => w.heap[b]? = some (.cells [I tn, cv, ov].toArray TAl (0, 0)) ∧ Sl w cv (Is cut)) ?_ (fun w hw => ⟨pt_at (b := b) (cs := [I tn, cv, ov]) (T := TAl) (by (repeat (first | apply List.Mem.head | apply List.Mem.tail)); first | done | fail) hw, vw_sl (hw.h (vw cv (Is cut)) (by (repeat (first | apply List.Mem.head | apply List.Mem.tail)); first | done | fail))⟩)
  refine tka 0 ?_
  refine tka 1 ?_
  refine tkl 2 (cs := [I tn, cv, ov]) (fun w h => h.1) ?_
  refine tke 3 (v := I cut.length) (by rw [Is_len]) (fun w h => R_len (E := env) (xs := Is cut) rfl rfl h.2) ?_
  refine tk 4 (v := Un cut.length) (fun w h => R_ntuk (E := env) (m := cut.length) rfl rfl rfl (by omega)) ?_
  refine tka 6 ?_
  refine tkl 7 (cs := [I tn, cv, ov]) (fun w h => h.1) ?_
  refine tk 8 (v := Un tn) (fun w h => R_ntuk (E := env) (m := tn) rfl rfl rfl (by omega)) ?_
  refine t1 5 ?_
  refine ca (hG1 o) ?_
  rintro u1 _ ⟨hu1, rfl⟩
  refine nl ?_
  refine te (fun w hw => ⟨pt_at (b := b) (cs := [I tn, cv, ov]) (T := TAl) (by (repeat (first | apply List.Mem.head | apply List.Mem.tail)); first | done | fail) hw, vw_sl (hw.h (vw cv (Is cut)) (by (repeat (first | apply List.Mem.head | apply List.Mem.tail)); first | done | fail))⟩) ?_
  refine t1 9 ?_
  refine ca (hG2 u1) ?_
  rintro u2 _ ⟨hu2, rfl⟩
  refine nl ?_
  refine te (fun w hw => ⟨pt_at (b := b) (cs := [I tn, cv, ov]) (T := TAl) (by (repeat (first | apply List.Mem.head | apply List.Mem.tail)); first | done | fail) hw, vw_sl (hw.h (vw cv (Is cut)) (by (repeat (first | apply List.Mem.head | apply List.Mem.tail)); first | done | fail))⟩) ?_
  refine t1 10 ?_
  refine ca (hO u2) ?_
  rintro _ _ ⟨vn, vd, rfl, hvn, hvd, rfl⟩
  refine nl ?_
  refine te (fun w hw => ⟨pt_at (b := b) (cs := [I tn, cv, ov]) (T := TAl) (by (repeat (first | apply List.Mem.head | apply List.Mem.tail)); first | done | fail) hw, vw_sl (hw.h (vw cv (Is cut)) (by (repeat (first | apply List.Mem.head | apply List.Mem.tail)); first | done | fail))⟩) ?_
  refine t1 11 ?_
  refine srz ?_
  refine nl ?_
  refine te (fun w hw => ⟨pt_at (b := b) (cs := [I tn, cv, ov]) (T := TAl) (by (repeat (first | apply List.Mem.head | apply List.Mem.tail)); first | done | fail) hw, vw_sl (hw.h (vw cv (Is cut)) (by (repeat (first | apply List.Mem.head | apply List.Mem.tail)); first | done | fail))⟩) ?_
  refine tka 12 ?_
  refine t0 ?_
  repeat' first|refine xc ?_|refine rt ?_
  exact rca (cs := [.bool (decide (q.num < 0)), vn, vd]) (vs := [.bool (decide (q.num < 0)), vn, vd]) (T := TRt) ⟨vn, vd, rfl, hvn, hvd, rfl⟩
theorem ChaW_tr (s : Value) (t : List Int) (k d : Int) : Tr Tryz.prog 16 [s, I k, I d] [vw s (Is t)] [] (FW (chaW t k d)) := by
  have hck := SoCheck_tr s t k
  by_cases hk : solE t k = 0
  rotate_left
  · unfold chaW
    rw [if_neg hk]
    rw [(solE_cases t k).resolve_left hk] at hck
    refine Tr.mono (R := fun u D => u = tup2 rv0 (I 13) ∧ D = [own T64 nS (Us []), own T64 nS (Us [])]) ?_ fun u D h => FW.of0 h
    refine Tr.enter env _ Tryz.func16 (by kernel_rfl) rfl Tryz.ntmps16 rfl (by repeat (first | exact has00 | refine has01 ?_)) fun w0 => ?_
    repeat' first|(refine gca ?_; first|(refine ca hck ?_; rintro _ _ ⟨rfl, rfl⟩))|refine al fun b2 => ?_|refine bdm ?_|refine srz ?_|(refine wo ?_; first|(refine ao ?_; first|refine oa ?_)|refine oa ?_)|(refine gc ?_; first|refine ct ?_)|refine sq ?_|refine rg ?_|refine xc ?_|refine nl ?_|refine bk ?_|refine rt ?_
    refine TX.im (own_nil T64 _) (TX.im (own_nil T64 _) ?_)
    exact rca (cs := [.bool false, nS, nS]) (vs := [.bool false, nS, nS]) (T := TRt) ⟨rfl, rfl⟩
  rw [hk] at hck
  obtain ⟨⟨k1, k2⟩, ⟨t1, t2⟩, hw, hpos⟩ := solE_zero hk
  by_cases hd : d < 1 ∨ t.length < d
  · unfold chaW
    rw [if_pos hk, if_pos hd]
    clear hk hpos
    refine Tr.mono (R := fun u D => u = tup2 rv0 (I 3) ∧ D = [own T64 nS (Us []), own T64 nS (Us [])]) ?_ fun u D h => FW.of0 h
    refine Tr.enter env _ Tryz.func16 (by kernel_rfl) rfl Tryz.ntmps16 rfl (by repeat (first | exact has00 | refine has01 ?_)) fun w0 => ?_
    repeat' first|(refine gca ?_; first|(refine ca hck ?_; rintro _ _ ⟨rfl, rfl⟩))|refine al fun b2 => ?_|refine bdm ?_|refine srz ?_|(refine wo ?_; first|(refine ao ?_; first|refine oa ?_)|refine oa ?_|refine lnm ?_|refine gy ?_|refine gn ?_|(refine gsi (fun hB => ?_) (fun hB => ?_) <;> try (exfalso; omega)))|(refine gc ?_; first|refine ct ?_|refine cf ?_|(refine ci (fun hB => ?_) (fun hB => ?_) <;> try (exfalso; omega)))|refine sq ?_|refine rg ?_|refine xc ?_|refine nl ?_|refine bk ?_|refine rt ?_
    all_goals
      refine TX.im (own_nil T64 _) (TX.im (own_nil T64 _) ?_)
      exact rca (cs := [.bool false, nS, nS]) (vs := [.bool false, nS, nS]) (T := TRt) ⟨rfl, rfl⟩
  rw [show chaW t k d = (rqf (mkRat (t.getD (d - 1).toNat 0) (chs k.toNat d.toNat * t.sum.toNat)), 0) by unfold chaW; rw [if_pos hk, if_neg hd]]
  obtain ⟨kn, rfl⟩ : ∃ kn : Nat, k = kn := ⟨k.toNat, by omega⟩
  obtain ⟨dn, rfl⟩ : ∃ dn : Nat, d = dn := ⟨d.toNat, by omega⟩
  have hT := SoTotal_tr s t ⟨by omega, by omega⟩ hw
  have hsb := sum_wOk hw
  have hsp : 0 < t.sum := sum_posT hw hpos
  obtain ⟨tn, htn⟩ : ∃ tn : Nat, t.sum = tn := ⟨t.sum.toNat, by omega⟩
  rw [htn] at hT hsb hsp ⊢
  have hwb := hw (t.getD ((dn : Int) - 1).toNat 0) (mem_getD.2 ⟨_, by omega, rfl⟩)
  obtain ⟨wn, hwn⟩ : ∃ wn : Nat, t.getD ((dn : Int) - 1).toNat 0 = wn := ⟨(t.getD ((dn : Int) - 1).toNat 0).toNat, by omega⟩
  rw [hwn] at hwb ⊢
  simp only [Int.toNat_natCast]
  have hF := Choose_tr kn dn (by omega) (by omega)
  have hfl := chs_len kn dn
  have hfp := chs_pos (n := kn) (k := dn) (by omega)
  obtain ⟨f0, hf0⟩ : ∃ f0, f0 = chs kn dn := ⟨_, rfl⟩
  rw [← hf0] at hF hfl hfp ⊢
  have hG1 := fun v => NGrow_tr v (dg f0) tn (Dg_dg _) (by omega) (by omega)
  have hl2 := dg_grow_len (x := tn) hfl (by omega)
  have hp2 : f0 * tn ≠ 0 := Nat.mul_ne_zero hfp (by omega)
  have hw1 := dg_len1 (n := wn) (by omega)
  have hM := fun o => IMake_tr false o (dg wn) (Dg_dg wn) (by omega)
  have hs : sg false wn = (wn : Int) := rfl
  have hR := fun o dv => FMake_tr (wn : Int) o dv (dg (f0 * tn)) (Dg_dg _) (by unfold dz; rw [Int.natAbs_natCast]; omega) (by omega) (by rw [nv_dg]; exact hp2)
  simp only [nv_dg, hs] at hG1 hM hR
  unfold IR at hM
  unfold dz at hR
  simp only [Int.natAbs_natCast] at hM hR
  unfold FQ2 at hR
  clear hk hpos hf0 hfp hp2 hl2 hs hw
  obtain ⟨f1, hf1⟩ : ∃ f1, f1 = f0 * tn := ⟨_, rfl⟩
  simp only [← hf1] at hG1 hR ⊢
  obtain ⟨q, hq⟩ : ∃ q, q = mkRat (wn : Int) f1 := ⟨_, rfl⟩
  simp only [← hq] at hR ⊢
  clear hq hf1
  refine Tr.enter env _ Tryz.func16 (by kernel_rfl) rfl Tryz.ntmps16 rfl (by repeat (first | exact has00 | refine has01 ?_)) fun w0 => ?_
  repeat' first|(refine gca ?_; first|(refine ca hck ?_; rintro _ _ ⟨rfl, rfl⟩)|(refine ca hF ?_; rintro _ _ ⟨o, rfl, ho, rfl⟩)|(refine ca (Of_tr wn (by omega)) ?_; rintro o1 _ ⟨ho1, rfl⟩)|(refine ca (hM o1) ?_; rintro _ _ ⟨o2, rfl, ho2, rfl⟩)|(refine ca hT ?_; rintro _ _ ⟨rfl, rfl⟩)|(refine ca (hG1 o) ?_; rintro u1 _ ⟨hu1, rfl⟩)|(refine ca (hR o2 u1) ?_; rintro _ _ ⟨vn, vd, rfl, hvn, hvd, rfl⟩))|refine al fun b2 => ?_|(refine lie hwn ?_)|(refine ntu (m := (wn : Int)) ?_; rw [Int.toNat_natCast])|(refine ntu (m := (tn : Int)) ?_; rw [Int.toNat_natCast])|refine srz ?_|(refine wo ?_; first|(refine ao ?_; first|refine aw ?_|refine oa ?_)|refine oa ?_|refine lnm ?_|refine ixm ?_|refine gy ?_|(refine gsi (fun hB => ?_) (fun hB => ?_) <;> try (exfalso; omega)))|(refine gc ?_; first|refine cf ?_|(refine ci (fun hB => ?_) (fun hB => ?_) <;> try (exfalso; omega)))|refine sq ?_|refine rg ?_|refine xc ?_|refine nl ?_|refine sk ?_|refine bk ?_|refine rt ?_|refine xb ?_
  exact rca (cs := [.bool (decide (q.num < 0)), vn, vd]) (vs := [.bool (decide (q.num < 0)), vn, vd]) (T := TRt) ⟨vn, vd, rfl, hvn, hvd, rfl⟩
end Go.Art
set_option linter.unusedSimpArgs false
set_option linter.unusedVariables false
namespace Go.Art
open Go Go.Proofs Go.RowKit
def over (n : Int) : BitVec 64 := c64 18446744073709551615 % c64 n
attribute [local irreducible] Fit pt own ro vw mpc lpt vels rels mow lrc dfr
abbrev TRl : TypeId := 57
abbrev rloP (b : Nat) (st : BitVec 64) (used : Int) : List Ch := [pt b [nS, .bool true, U st, I used, .bool false] TRl]
end Go.Art
set_option linter.unusedSimpArgs false
set_option linter.unusedVariables false
namespace Go.Art
open Go Go.Proofs Go.RowKit
attribute [local irreducible] Fit pt own ro vw mpc lpt vels rels mow lrc dfr
attribute [local irreducible] lmp lme mit velg relg

def plcR (tot : Int) (cut oth : List Int) (st : BitVec 64) : Int × BitVec 64 :=
  (alPick tot cut oth (sdraw cut.length st).1 (sdraw tot.toNat (sdraw cut.length st).2).1, (sdraw tot.toNat (sdraw cut.length st).2).2)
def setR (tot : Int) (cut oth : List Int) (k : Int) (st : BitVec 64) : List Int × Int := pickR k ((plcR tot cut oth st).1 + 1) (plcR tot cut oth st).2
end Go.Art
set_option linter.unusedSimpArgs false
set_option linter.unusedVariables false
namespace Go.Art
open Go Go.Proofs Go.RowKit

def par (j : Nat) : Nat := (j - 1) / 2
structure HpUp (l : List Int) (i : Nat) : Prop where
  a : ∀ j, 0 < j → j < l.length → j ≠ i → l.getD (par j) 0 ≤ l.getD j 0
  b : ∀ j, 0 < j → j < l.length → par j = i → 0 < i → l.getD (par i) 0 ≤ l.getD j 0
structure HpDn (l : List Int) (i : Nat) : Prop where
  a : ∀ j, 0 < j → j < l.length → par j ≠ i → l.getD (par j) 0 ≤ l.getD j 0
  b : ∀ j, 0 < j → j < l.length → par j = i → 0 < i → l.getD (par i) 0 ≤ l.getD j 0
def Heap (l : List Int) : Prop := ∀ j, 0 < j → j < l.length → l.getD (par j) 0 ≤ l.getD j 0
def swq (l : List Int) (i j : Nat) : List Int := (l.set i (l.getD j 0)).set j (l.getD i 0)
end Go.Art
set_option linter.unusedSimpArgs false
set_option linter.unusedVariables false
namespace Go.Art
open Go Go.Proofs Go.RowKit
attribute [local irreducible] Fit pt own ro vw mpc lpt vels rels mow lrc dfr
attribute [local irreducible] lmp lme mit velg relg

section
variable {P : Program} {E : Env P} {n : Sh} {X : Cx} {s : List K} {fr : Fr} {A : List Ch} {ops : Array Oper} {d : Nat} {ty t el : TypeId} {pos : String} {after : Array Edge} {v z : Value} {fuel by_ : Nat} {listed : Array Bool} {S : World → Prop} {x y : Operand} {k1 : IntKind}
end
section
variable {P : Program} {E : Env P} {n : Sh} {X : Cx} {s : List K} {fr : Fr} {A : List Ch} {ops : Array Oper} {rest : List Oper} {d : Nat} {ty t t' : TypeId} {pos : String} {after : Array Edge} {x y : Operand} {m q : Int}
end
section
variable {P : Program} {E : Env P} {n : Sh} {X : Cx} {s : List K} {fr : Fr} {A : List Ch} {ops : Array Oper} {rest : List Oper} {d : Nat} {ty t : TypeId} {pos : String} {after : Array Edge} {v : Value} {x : Operand}
theorem qlie {l : List Int} {j : Nat} {c : Int} {dt : TypeDesc} (he : l.getD j 0 = c) (k : TQ E n X s ops rest ((d, I c) :: fr) A) (hx : ev fr x = some (.pointer (some (addrAt v j))) := by rfl) (hh : Has A (vw v (Is l)) := by first | (apply has_vw; (repeat (first | apply List.Mem.head | apply List.Mem.tail)); first | done | fail) | (apply has_own; (repeat (first | apply List.Mem.head | apply List.Mem.tail)); first | done | fail) | (apply has_ro; (repeat (first | apply List.Mem.head | apply List.Mem.tail)); first | done | fail) | apply has_nil | ((with_reducible apply has_el); (focus (first | (apply has_vels; (repeat (first | apply List.Mem.head | apply List.Mem.tail)); first | done | fail) | (apply has_rels; (repeat (first | apply List.Mem.head | apply List.Mem.tail)); first | done | fail))); omega) | (apply has_pt; (repeat (first | apply List.Mem.head | apply List.Mem.tail)); first | done | fail) | (apply has_lpt; (repeat (first | apply List.Mem.head | apply List.Mem.tail)); first | done | fail) | (apply has_vels; (repeat (first | apply List.Mem.head | apply List.Mem.tail)); first | done | fail) | (apply has_rels; (repeat (first | apply List.Mem.head | apply List.Mem.tail)); first | done | fail) | with_reducible assumption | ((with_reducible apply has_elg); (focus (first | (apply has_velg; (repeat (first | apply List.Mem.head | apply List.Mem.tail)); first | done | fail) | (apply has_relg; (repeat (first | apply List.Mem.head | apply List.Mem.tail)); first | done | fail))); omega) | (apply has_velg; (repeat (first | apply List.Mem.head | apply List.Mem.tail)); first | done | fail) | (apply has_relg; (repeat (first | apply List.Mem.head | apply List.Mem.tail)); first | done | fail) | (apply has_vwf; (repeat (first | apply List.Mem.head | apply List.Mem.tail)); first | done | fail)) (hj : j < l.length := by omega)
    (ht : lk E.und t = some dt := by rfl) (hg : aggB dt = false := by rfl) (hd : Nat.blt d n.n = true := by rfl) : TQ E n X s ops (⟨some d, .load t x, ty, pos, after, none⟩ :: rest) fr A := qli (l := l) (by rw [he]; exact k) hx hh hj ht hg hd
end
section
variable {n : Sh} {X : Cx} {s : List K} {fr : Fr} {A : List Ch} {ops : Array Oper} {rest : List Oper} {d : Nat} {ty : TypeId} {pos : String} {after : Array Edge} {x y : Operand} {a b : Int} {parts : List (Nat × Operand)}
end
abbrev THp : TypeId := 139
def hcut (h : List Int) : List Int := (h.set 0 (h.getD (h.length - 1) 0)).take (h.length - 1)
end Go.Art
