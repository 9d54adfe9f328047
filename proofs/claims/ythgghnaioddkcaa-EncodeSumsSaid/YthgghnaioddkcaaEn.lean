/- The encoder: the program's. Conditions: none. -/
import Derived.Test.YthgghnaioddkcaaEr
set_option linter.unusedSimpArgs false
set_option linter.unusedVariables false
namespace Go.Art
open Go Go.Proofs Go.RowKit
section
variable {P : Program} {E : Env P} {n : Sh} {X : Cx} {s : List K} {fr : Fr} {A A' : List Ch} {ops : Array Oper} {rest : List Oper} {d : Nat} {ty t : TypeId} {pos : String} {after : Array Edge}
/-- A struct literal that holds structs. -/
theorem bdg {sz by_ : Nat} {cs : List Value} {fl : List Field} {zs : List Value} {pl : List (Nat × Nat)} {parts : List (Nat × Operand)} {ps : List (Nat × Value)} (k : TO E n X s ops rest ((d, .agg cs.toArray) :: fr) A) (hv : evps fr parts = some ps := by rfl)
    (ht : lk E.und t = some (.struct fl.toArray) := by rfl) (he : lk E.inf t = some (.agg zs.toArray, sz, by_) := by rfl) (hpl : places E.inf fl = some pl := by rfl) (hs : setParts pl zs ps = some cs := by rfl) (hd : Nat.blt d n.n = true := by rfl) :
    TO E n X s ops (⟨some d, .build t parts.toArray, ty, pos, after, none⟩ :: rest) fr A := TO.val (fun _ _ => R_build ht he hpl hv hs) k hd
/-- A struct is loaded from a lent block. -/
theorem ldla {b j sz by_ : Nat} {cs vs : List Value} {T : TypeId} {dt : TypeDesc} {z : Value} {x : Operand} (k : TO E n X s ops rest ((d, .agg vs.toArray) :: fr) A) (hx : ev fr x = some (.pointer (some ⟨b, j, none⟩)) := by rfl) (hm : lpt b cs T ∈ A := by (repeat (first | apply List.Mem.head | apply List.Mem.tail)); first | done | fail) (ht : lk E.und t = some dt := by rfl) (hg : aggB dt = true := by rfl) (hi : lk E.inf t = some (z, sz, by_) := by rfl)
    (hv : (cs.drop j).take sz = vs := by rfl) (hl : vs.length = sz := by rfl) (hd : Nat.blt d n.n = true := by rfl) : TO E n X s ops (⟨some d, .load t x, ty, pos, after, none⟩ :: rest) fr A := TO.val (fun _ h => R_loadA ht hg hi hx (h.h (lpt b cs T) hm) hv hl) k hd
end
attribute [local irreducible] Fit pt own ro vw mpc lpt vels rels mow lrc dfr
attribute [local irreducible] lmp lme mit velg relg
abbrev TEnc : TypeId := 30
abbrev TSam : TypeId := 27
abbrev nP : Value := .pointer none
theorem number_tr (n : Int) : Tr Try.prog 28 [I n] [] [] fun v D => v = .bool (decide (numOk n)) ∧ D = [] := by
  refine Tr.enter env _ Try.func28 (by kernel_rfl) rfl Try.ntmps28 rfl (by repeat (first | exact has00 | refine has01 ?_)) fun w0 => ?_
  repeat' first|(refine wo ?_; first|(refine ao ?_; first|refine aw ?_|refine aw6 ?_|refine oa ?_|refine adiv ?_|refine amod ?_|refine shr1 ?_|refine shr ?_|refine umod ?_|refine isl ?_|refine ipe ?_|refine ipn ?_|refine ibe ?_)|refine acw ?_|refine ucv ?_|refine anw ?_|refine oa ?_|refine ld ?_|refine ldl ?_|refine lnm ?_|refine ixmn ?_|refine ixm ?_|refine li ?_|refine lv ?_|refine ln ?_|refine ixn ?_|refine ix ?_|refine le ?_|refine sr ?_|refine soi ?_|refine scm ?_|refine sclm ?_|refine schm ?_|refine gy ?_|refine gn ?_|refine gnn ?_|refine gu ?_|(refine gsi (fun hB => ?_) (fun hB => ?_) <;> try (exfalso; omega))|(refine gsn (fun hB => ?_) (fun hB => ?_) <;> try (exfalso; omega))|(refine gs (fun hB => ?_) (fun hB => ?_) <;> try (exfalso; omega)))|(refine gc ?_; first|refine ct ?_|refine cf ?_|(refine ci (fun hB => ?_) (fun hB => ?_) <;> try (exfalso; omega))|(refine cn (fun hB => ?_) (fun hB => ?_) <;> try (exfalso; omega))|(refine cb (fun hB => ?_) (fun hB => ?_) <;> try (exfalso; omega)))|refine sq ?_|refine rg ?_|refine xc ?_|refine nl ?_|refine sk ?_|refine bk ?_|refine xe ?_|refine rt ?_|refine xb ?_
  all_goals refine r1 ⟨?_, rfl⟩
  all_goals first
    | rw [decide_eq_false (fun h : numOk n => by unfold numOk at h; omega)]
    | (congr 1; exact decide_eq_decide.2 ⟨fun h => by unfold numOk; omega, fun h => by unfold numOk at h; omega⟩)
def setW (t : List Int) (k seed blk id : Int) : List Int × Int := if numOk id then (setT t k seed blk id, 0) else ([], 3)
theorem sset_tr (t : List Int) (k seed blk id : Int) (cv ov : Value) (hE : solE t k = 0) (hc : cv.oneCell' = true) (ho : ov.oneCell' = true) :
    Tr Try.prog 22 [.agg #[I t.sum, cv, ov, I k, I seed, I blk], I id] [vw cv (Is (alF t).cut), vw ov (Is (alF t).oth)] []
      fun v D => ∃ o, v = tup2 o (I (setW t k seed blk id).2) ∧ D = [own 3 o (Is (setW t k seed blk id).1)] := by
  obtain ⟨h1, h2, h3, h4⟩ := solE_zero hE
  obtain ⟨g1, g2, g3⟩ := alF_ok h3 (by omega) (sum_pos' h3 h4)
  refine Tr.enter env _ Try.func22 (by kernel_rfl) rfl Try.ntmps22 rfl (by repeat (first | exact has00 | refine has01 ?_)) fun w0 => ?_
  repeat' first|(refine gca ?_; first|(refine ca (number_tr id) ?_; rintro _ _ ⟨rfl, rfl⟩))|refine bx fun b => ?_|(refine wo ?_; first|(refine ao ?_; first|refine aw ?_|refine aw6 ?_|refine oa ?_|refine adiv ?_|refine amod ?_|refine shr1 ?_|refine shr ?_|refine umod ?_|refine isl ?_|refine ipe ?_|refine ipn ?_|refine ibe ?_)|refine acw ?_|refine ucv ?_|refine anw ?_|refine oa ?_|refine ld ?_|refine ldl ?_|refine lnm ?_|refine ixmn ?_|refine ixm ?_|refine li ?_|refine lv ?_|refine ln ?_|refine ixn ?_|refine ix ?_|refine le ?_|refine sr ?_|refine soi ?_|refine scm ?_|refine sclm ?_|refine schm ?_|refine gy ?_|refine gn ?_|refine gnn ?_|refine gu ?_|(refine gsi (fun hB => ?_) (fun hB => ?_) <;> try (exfalso; omega))|(refine gsn (fun hB => ?_) (fun hB => ?_) <;> try (exfalso; omega))|(refine gs (fun hB => ?_) (fun hB => ?_) <;> try (exfalso; omega)))|(refine gc ?_; first|refine ct ?_|refine cf ?_|(refine ci (fun hB => ?_) (fun hB => ?_) <;> try (exfalso; omega))|(refine cn (fun hB => ?_) (fun hB => ?_) <;> try (exfalso; omega))|(refine cb (fun hB => ?_) (fun hB => ?_) <;> try (exfalso; omega)))|refine sq ?_|refine rg ?_|refine xc ?_|refine nl ?_|refine sk ?_|refine bk ?_|refine xe ?_|refine rt ?_|refine xb ?_
  · refine TX.im (own_nil 3 _) ?_
    rw [show setW t k seed blk id = ([], 3) from if_neg (by assumption)]
    exact r2 ⟨nS, rfl, rfl⟩
  have hn : numOk id := by assumption
  have hz := (setR_ok hE (seedOf (c64 seed) (c64 blk) (c64 id))).1
  refine rs (fun w => w.heap[b]? = some (.cells #[I t.sum, cv, ov, I k, I seed, I blk] TSam (0, 0))) ?_ (fun w hw => pt_at (by (repeat (first | apply List.Mem.head | apply List.Mem.tail)); first | done | fail) hw)
  refine tka 0 ?_
  refine tk 1 (v := .agg #[I t.sum, cv, ov]) (hi := rfl) (fun w h => by exact R_loadA (E := env) (cs := [I t.sum, cv, ov, I k, I seed, I blk]) (vs := [I t.sum, cv, ov]) rfl rfl rfl rfl h rfl rfl) ?_
  refine tka 2 ?_
  refine tkl 3 (cs := [I t.sum, cv, ov, I k, I seed, I blk]) (fun w h => h) ?_
  refine tka 4 ?_
  refine tkl 5 (cs := [I t.sum, cv, ov, I k, I seed, I blk]) (fun w h => h) ?_
  refine tk 6 (v := U (c64 seed)) (hi := rfl) (fun w h => by exact R_toU (E := env) rfl rfl rfl) ?_
  refine tka 7 ?_
  refine tkl 8 (cs := [I t.sum, cv, ov, I k, I seed, I blk]) (fun w h => h) ?_
  refine tk 9 (v := U (c64 blk)) (hi := rfl) (fun w h => by exact R_toU (E := env) rfl rfl rfl) ?_
  refine tka 10 ?_
  refine tk 11 (v := U (c64 id)) (hi := rfl) (fun w h => by exact R_toU (E := env) rfl rfl rfl) ?_
  refine t1 12 ?_
  refine ca (Seeded_tr _ _ _) ?_
  rintro _ _ ⟨lb, lr, rfl, rfl⟩
  repeat' first|(refine wo ?_; first|(refine ao ?_; first|refine aw ?_|refine aw6 ?_|refine oa ?_|refine adiv ?_|refine amod ?_|refine shr1 ?_|refine shr ?_|refine umod ?_|refine isl ?_|refine ipe ?_|refine ipn ?_|refine ibe ?_)|refine acw ?_|refine ucv ?_|refine anw ?_|refine oa ?_|refine ld ?_|refine ldl ?_|refine lnm ?_|refine ixmn ?_|refine ixm ?_|refine li ?_|refine lv ?_|refine ln ?_|refine ixn ?_|refine ix ?_|refine le ?_|refine sr ?_|refine soi ?_|refine scm ?_|refine sclm ?_|refine schm ?_|refine gy ?_|refine gn ?_|refine gnn ?_|refine gu ?_|(refine gsi (fun hB => ?_) (fun hB => ?_) <;> try (exfalso; omega))|(refine gsn (fun hB => ?_) (fun hB => ?_) <;> try (exfalso; omega))|(refine gs (fun hB => ?_) (fun hB => ?_) <;> try (exfalso; omega)))|(refine gc ?_; first|refine ct ?_|refine cf ?_|(refine ci (fun hB => ?_) (fun hB => ?_) <;> try (exfalso; omega))|(refine cn (fun hB => ?_) (fun hB => ?_) <;> try (exfalso; omega))|(refine cb (fun hB => ?_) (fun hB => ?_) <;> try (exfalso; omega)))|refine sq ?_|refine rg ?_|refine xc ?_|refine nl ?_|refine sk ?_|refine bk ?_|refine xe ?_|refine rt ?_|refine xb ?_
  refine te (fun w hw => pt_at (by (repeat (first | apply List.Mem.head | apply List.Mem.tail)); first | done | fail) hw) ?_
  refine t1 13 ?_
  refine ca (RwSet_tr t.sum k cv ov (alF t).cut (alF t).oth lb lr _ hc ho g1 (by omega)) ?_
  rintro _ _ ⟨o, st', u, rfl, rfl⟩
  repeat' first|(refine wo ?_; first|(refine ao ?_; first|refine aw ?_|refine aw6 ?_|refine oa ?_|refine adiv ?_|refine amod ?_|refine shr1 ?_|refine shr ?_|refine umod ?_|refine isl ?_|refine ipe ?_|refine ipn ?_|refine ibe ?_)|refine acw ?_|refine ucv ?_|refine anw ?_|refine oa ?_|refine ld ?_|refine ldl ?_|refine lnm ?_|refine ixmn ?_|refine ixm ?_|refine li ?_|refine lv ?_|refine ln ?_|refine ixn ?_|refine ix ?_|refine le ?_|refine sr ?_|refine soi ?_|refine scm ?_|refine sclm ?_|refine schm ?_|refine gy ?_|refine gn ?_|refine gnn ?_|refine gu ?_|(refine gsi (fun hB => ?_) (fun hB => ?_) <;> try (exfalso; omega))|(refine gsn (fun hB => ?_) (fun hB => ?_) <;> try (exfalso; omega))|(refine gs (fun hB => ?_) (fun hB => ?_) <;> try (exfalso; omega)))|(refine gc ?_; first|refine ct ?_|refine cf ?_|(refine ci (fun hB => ?_) (fun hB => ?_) <;> try (exfalso; omega))|(refine cn (fun hB => ?_) (fun hB => ?_) <;> try (exfalso; omega))|(refine cb (fun hB => ?_) (fun hB => ?_) <;> try (exfalso; omega)))|refine sq ?_|refine rg ?_|refine xc ?_|refine nl ?_|refine sk ?_|refine bk ?_|refine xe ?_|refine rt ?_|refine xb ?_
  refine te (fun w hw => pt_at (by (repeat (first | apply List.Mem.head | apply List.Mem.tail)); first | done | fail) hw) ?_
  refine tka 14 ?_
  refine tka 15 ?_
  refine tka 16 ?_
  refine tka 17 ?_
  refine t0 ?_
  rw [hz]
  repeat' first|(refine wo ?_; first|(refine ao ?_; first|refine aw ?_|refine aw6 ?_|refine oa ?_|refine adiv ?_|refine amod ?_|refine shr1 ?_|refine shr ?_|refine umod ?_|refine isl ?_|refine ipe ?_|refine ipn ?_|refine ibe ?_)|refine acw ?_|refine ucv ?_|refine anw ?_|refine oa ?_|refine ld ?_|refine ldl ?_|refine lnm ?_|refine ixmn ?_|refine ixm ?_|refine li ?_|refine lv ?_|refine ln ?_|refine ixn ?_|refine ix ?_|refine le ?_|refine sr ?_|refine soi ?_|refine scm ?_|refine sclm ?_|refine schm ?_|refine gy ?_|refine gn ?_|refine gnn ?_|refine gu ?_|(refine gsi (fun hB => ?_) (fun hB => ?_) <;> try (exfalso; omega))|(refine gsn (fun hB => ?_) (fun hB => ?_) <;> try (exfalso; omega))|(refine gs (fun hB => ?_) (fun hB => ?_) <;> try (exfalso; omega)))|(refine gc ?_; first|refine ct ?_|refine cf ?_|(refine ci (fun hB => ?_) (fun hB => ?_) <;> try (exfalso; omega))|(refine cn (fun hB => ?_) (fun hB => ?_) <;> try (exfalso; omega))|(refine cb (fun hB => ?_) (fun hB => ?_) <;> try (exfalso; omega)))|refine sq ?_|refine rg ?_|refine xc ?_|refine nl ?_|refine sk ?_|refine bk ?_|refine xe ?_|refine rt ?_|refine xb ?_
  rw [show setW t k seed blk id = (setT t k seed blk id, 0) from if_pos hn]
  exact r2 ⟨o, rfl, rfl⟩
def smpE (t : List Int) (k blk : Int) : Int := if solE t k = 0 then (if numOk blk then 0 else 3) else 13
theorem smpE_zero {t : List Int} {k blk : Int} (h : smpE t k blk = 0) : solE t k = 0 ∧ numOk blk := by
  unfold smpE at h
  split at h
  · split at h
    · exact ⟨by assumption, by assumption⟩
    · cases h
  · cases h
theorem sampled_tr (s : Value) (t : List Int) (k seed blk : Int) : Tr Try.prog 24 [s, I k, I seed, I blk] [vw s (Is t)] []
    fun v D => (smpE t k blk = 0 ∧ ∃ cv ov, v = tup2 (.agg #[I t.sum, cv, ov, I k, I seed, I blk]) (I 0) ∧ D = [own 3 cv (Is (alF t).cut), own 3 ov (Is (alF t).oth)] ∧ cv.oneCell' = true ∧ ov.oneCell' = true) ∨
      (smpE t k blk ≠ 0 ∧ v = tup2 (.agg #[I 0, nS, nS, I 0, I 0, I 0]) (I (smpE t k blk)) ∧ D = []) := by
  refine Tr.enter env _ Try.func24 (by kernel_rfl) rfl Try.ntmps24 rfl (by repeat (first | exact has00 | refine has01 ?_)) fun w0 => ?_
  rcases solE_cases t k with hE | hE
  · obtain ⟨h1, h2, h3, h4⟩ := solE_zero hE
    repeat' first|(refine gca ?_; first|(refine ca (SoCheck_tr s t k) ?_; rintro _ _ ⟨rfl, rfl⟩; rw [hE])|(refine ca (number_tr blk) ?_; rintro _ _ ⟨rfl, rfl⟩)|(refine ca (Make_tr s t (by omega) h3 (sum_pos' h3 h4)) ?_; rintro _ _ ⟨cv, ov, rfl, rfl, hc, ho⟩))|refine al fun b => ?_|refine bdz ?_|refine srz ?_|refine lda ?_|(refine wo ?_; first|(refine ao ?_; first|refine aw ?_|refine aw6 ?_|refine oa ?_|refine adiv ?_|refine amod ?_|refine shr1 ?_|refine shr ?_|refine umod ?_|refine isl ?_|refine ipe ?_|refine ipn ?_|refine ibe ?_)|refine acw ?_|refine ucv ?_|refine anw ?_|refine oa ?_|refine ld ?_|refine ldl ?_|refine lnm ?_|refine ixmn ?_|refine ixm ?_|refine li ?_|refine lv ?_|refine ln ?_|refine ixn ?_|refine ix ?_|refine le ?_|refine sr ?_|refine soi ?_|refine scm ?_|refine sclm ?_|refine schm ?_|refine gy ?_|refine gn ?_|refine gnn ?_|refine gu ?_|(refine gsi (fun hB => ?_) (fun hB => ?_) <;> try (exfalso; omega))|(refine gsn (fun hB => ?_) (fun hB => ?_) <;> try (exfalso; omega))|(refine gs (fun hB => ?_) (fun hB => ?_) <;> try (exfalso; omega)))|(refine gc ?_; first|refine ct ?_|refine cf ?_|(refine ci (fun hB => ?_) (fun hB => ?_) <;> try (exfalso; omega))|(refine cn (fun hB => ?_) (fun hB => ?_) <;> try (exfalso; omega))|(refine cb (fun hB => ?_) (fun hB => ?_) <;> try (exfalso; omega)))|refine sq ?_|refine rg ?_|refine xc ?_|refine nl ?_|refine sk ?_|refine bk ?_|refine xe ?_|refine rt ?_|refine xb ?_
    · have e : smpE t k blk = 3 := by rw [smpE, if_pos hE, if_neg (by assumption)]
      rw [e]
      exact rca (.inr ⟨by decide, rfl, rfl⟩)
    · have e : smpE t k blk = 0 := by rw [smpE, if_pos hE, if_pos (by assumption)]
      rw [e]
      exact rca (.inl ⟨rfl, cv, ov, rfl, rfl, hc, ho⟩)
  · have e : smpE t k blk = 13 := by rw [smpE, if_neg (by omega)]
    rw [e]
    repeat' first|(refine gca ?_; first|(refine ca (SoCheck_tr s t k) ?_; rintro _ _ ⟨rfl, rfl⟩; rw [hE]))|refine al fun b => ?_|refine bdz ?_|refine srz ?_|(refine wo ?_; first|(refine ao ?_; first|refine aw ?_|refine aw6 ?_|refine oa ?_|refine adiv ?_|refine amod ?_|refine shr1 ?_|refine shr ?_|refine umod ?_|refine isl ?_|refine ipe ?_|refine ipn ?_|refine ibe ?_)|refine acw ?_|refine ucv ?_|refine anw ?_|refine oa ?_|refine ld ?_|refine ldl ?_|refine lnm ?_|refine ixmn ?_|refine ixm ?_|refine li ?_|refine lv ?_|refine ln ?_|refine ixn ?_|refine ix ?_|refine le ?_|refine sr ?_|refine soi ?_|refine scm ?_|refine sclm ?_|refine schm ?_|refine gy ?_|refine gn ?_|refine gnn ?_|refine gu ?_|(refine gsi (fun hB => ?_) (fun hB => ?_) <;> try (exfalso; omega))|(refine gsn (fun hB => ?_) (fun hB => ?_) <;> try (exfalso; omega))|(refine gs (fun hB => ?_) (fun hB => ?_) <;> try (exfalso; omega)))|(refine gc ?_; first|refine ct ?_|refine cf ?_|(refine ci (fun hB => ?_) (fun hB => ?_) <;> try (exfalso; omega))|(refine cn (fun hB => ?_) (fun hB => ?_) <;> try (exfalso; omega))|(refine cb (fun hB => ?_) (fun hB => ?_) <;> try (exfalso; omega)))|refine sq ?_|refine rg ?_|refine xc ?_|refine nl ?_|refine sk ?_|refine bk ?_|refine xe ?_|refine rt ?_|refine xb ?_
    exact rca (.inr ⟨by decide, rfl, rfl⟩)
/-- What SetOf tells. -/
def setofR (t : List Int) (k seed blk id : Int) : List Int × Int := if smpE t k blk = 0 then setW t k seed blk id else ([], smpE t k blk)
theorem SetOf_tr (s : Value) (t : List Int) (k seed blk id : Int) : Tr Try.prog 17 [s, I k, I seed, I blk, I id] [vw s (Is t)] [] fun v D => ∃ o, v = tup2 o (I (setofR t k seed blk id).2) ∧ D = [own 3 o (Is (setofR t k seed blk id).1)] := by
  have hS := sampled_tr s t k seed blk
  refine Tr.enter env _ Try.func17 (by kernel_rfl) rfl Try.ntmps17 rfl (by repeat (first | exact has00 | refine has01 ?_)) fun w0 => ?_
  repeat' first|(refine gca ?_; first|(refine ca hS ?_; rintro _ _ (⟨he, cv, ov, rfl, rfl, hc, ho⟩ | ⟨he, rfl, rfl⟩)))|refine al fun b => ?_|refine srz ?_|(refine wo ?_; first|(refine ao ?_; first|refine aw ?_|refine aw6 ?_|refine oa ?_|refine adiv ?_|refine amod ?_|refine shr1 ?_|refine shr ?_|refine umod ?_|refine isl ?_|refine ipe ?_|refine ipn ?_|refine ibe ?_)|refine acw ?_|refine ucv ?_|refine anw ?_|refine oa ?_|refine ld ?_|refine ldl ?_|refine lnm ?_|refine ixmn ?_|refine ixm ?_|refine li ?_|refine lv ?_|refine ln ?_|refine ixn ?_|refine ix ?_|refine le ?_|refine sr ?_|refine soi ?_|refine scm ?_|refine sclm ?_|refine schm ?_|refine gy ?_|refine gn ?_|refine gnn ?_|refine gu ?_|(refine gsi (fun hB => ?_) (fun hB => ?_) <;> try (exfalso; omega))|(refine gsn (fun hB => ?_) (fun hB => ?_) <;> try (exfalso; omega))|(refine gs (fun hB => ?_) (fun hB => ?_) <;> try (exfalso; omega)))|(refine gc ?_; first|refine ct ?_|refine cf ?_|(refine ci (fun hB => ?_) (fun hB => ?_) <;> try (exfalso; omega))|(refine cn (fun hB => ?_) (fun hB => ?_) <;> try (exfalso; omega))|(refine cb (fun hB => ?_) (fun hB => ?_) <;> try (exfalso; omega)))|refine sq ?_|refine rg ?_|refine xc ?_|refine nl ?_|refine sk ?_|refine bk ?_|refine xe ?_|refine rt ?_|refine xb ?_
  · have hE := (smpE_zero he).1
    rw [show setofR t k seed blk id = setW t k seed blk id from if_pos he]
    repeat' first|(refine gca ?_; first|(refine ca (sset_tr t k seed blk id cv ov hE hc ho) ?_; rintro _ _ ⟨o, rfl, rfl⟩))|refine lda ?_|(refine wo ?_; first|(refine ao ?_; first|refine aw ?_|refine aw6 ?_|refine oa ?_|refine adiv ?_|refine amod ?_|refine shr1 ?_|refine shr ?_|refine umod ?_|refine isl ?_|refine ipe ?_|refine ipn ?_|refine ibe ?_)|refine acw ?_|refine ucv ?_|refine anw ?_|refine oa ?_|refine ld ?_|refine ldl ?_|refine lnm ?_|refine ixmn ?_|refine ixm ?_|refine li ?_|refine lv ?_|refine ln ?_|refine ixn ?_|refine ix ?_|refine le ?_|refine sr ?_|refine soi ?_|refine scm ?_|refine sclm ?_|refine schm ?_|refine gy ?_|refine gn ?_|refine gnn ?_|refine gu ?_|(refine gsi (fun hB => ?_) (fun hB => ?_) <;> try (exfalso; omega))|(refine gsn (fun hB => ?_) (fun hB => ?_) <;> try (exfalso; omega))|(refine gs (fun hB => ?_) (fun hB => ?_) <;> try (exfalso; omega)))|(refine gc ?_; first|refine ct ?_|refine cf ?_|(refine ci (fun hB => ?_) (fun hB => ?_) <;> try (exfalso; omega))|(refine cn (fun hB => ?_) (fun hB => ?_) <;> try (exfalso; omega))|(refine cb (fun hB => ?_) (fun hB => ?_) <;> try (exfalso; omega)))|refine sq ?_|refine rg ?_|refine xc ?_|refine nl ?_|refine sk ?_|refine bk ?_|refine xe ?_|refine rt ?_|refine xb ?_
    exact r2 ⟨o, rfl, rfl⟩
  · rw [show setofR t k seed blk id = ([], smpE t k blk) from if_neg he]
    repeat' first|(refine wo ?_; first|(refine ao ?_; first|refine aw ?_|refine aw6 ?_|refine oa ?_|refine adiv ?_|refine amod ?_|refine shr1 ?_|refine shr ?_|refine umod ?_|refine isl ?_|refine ipe ?_|refine ipn ?_|refine ibe ?_)|refine acw ?_|refine ucv ?_|refine anw ?_|refine oa ?_|refine ld ?_|refine ldl ?_|refine lnm ?_|refine ixmn ?_|refine ixm ?_|refine li ?_|refine lv ?_|refine ln ?_|refine ixn ?_|refine ix ?_|refine le ?_|refine sr ?_|refine soi ?_|refine scm ?_|refine sclm ?_|refine schm ?_|refine gy ?_|refine gn ?_|refine gnn ?_|refine gu ?_|(refine gsi (fun hB => ?_) (fun hB => ?_) <;> try (exfalso; omega))|(refine gsn (fun hB => ?_) (fun hB => ?_) <;> try (exfalso; omega))|(refine gs (fun hB => ?_) (fun hB => ?_) <;> try (exfalso; omega)))|(refine gc ?_; first|refine ct ?_|refine cf ?_|(refine ci (fun hB => ?_) (fun hB => ?_) <;> try (exfalso; omega))|(refine cn (fun hB => ?_) (fun hB => ?_) <;> try (exfalso; omega))|(refine cb (fun hB => ?_) (fun hB => ?_) <;> try (exfalso; omega)))|refine sq ?_|refine rg ?_|refine xc ?_|refine nl ?_|refine sk ?_|refine bk ?_|refine xe ?_|refine rt ?_|refine xb ?_
    refine TX.im (own_nil 3 _) ?_
    exact r2 ⟨nS, rfl, rfl⟩
/-- A list of slices: one more, that was owned. -/
theorem snoc_own {g : Int → Value} {e : TypeId} {hs : List Value} {ls : List (List Int)} {v : Value} {l : List Int} {A F : List Ch} (hl : hs.length = ls.length) (hf : Fit A [relg g hs ls, own e v (l.map g)] F) : Im A (relg g (hs ++ [v]) (ls ++ [l]) :: F) :=
by
  unfold Fit at hf
  exact Im.trans hf (Im.trans (Im.cons _ ((im_freeze e v (l.map g)).im F)) (relg_snoc hl v l F))
def newE (t : List Int) (blk : Int) (ls : List (List Int)) : Int := if blkE ls = 0 then smpE t ls.length blk else blkE ls
/-- An encoder's pieces. -/
abbrev encP (b : Nat) (cv ov sy : Value) (hs : List Value) (t : List Int) (seed blk : Int) (ls : List (List Int)) : List Ch :=
  [pt b [I t.sum, cv, ov, I ls.length, I seed, I blk, sy] TEnc, own 3 cv (Is (alF t).cut), own 3 ov (Is (alF t).oth), own TyV sy hs, relg y8 hs ls]
structure NwG where
  i : Nat
  sy : Value
  hs : List Value
theorem New_tr (s sv : Value) (hs : List Value) (ls : List (List Int)) (t : List Int) (seed blk : Int) : Tr Try.prog 12 [s, sv, I seed, I blk] [vw s hs, velg y8 hs ls, vw sv (Is t)] []
    fun v D => (newE t blk ls = 0 ∧ ∃ b cv ov sy hs', v = tup2 (ptr b) (I 0) ∧ D = encP b cv ov sy hs' t seed blk ls ∧ cv.oneCell' = true ∧ ov.oneCell' = true ∧ sy.oneCell' = true) ∨ (newE t blk ls ≠ 0 ∧ v = tup2 nP (I (newE t blk ls)) ∧ D = []) := by
  have hS := sampled_tr sv t ls.length seed blk
  refine Tr.enter env _ Try.func12 (by kernel_rfl) rfl Try.ntmps12 rfl (by repeat (first | exact has00 | refine has01 ?_)) fun w0 => ?_
  refine TC.elg (g := y8) (hs := hs) (ls := ls) (fun hl => ?_)
  refine TC.fact (vw_len (v := s) (xs := hs) (by first | (apply has_vw; (repeat (first | apply List.Mem.head | apply List.Mem.tail)); first | done | fail) | (apply has_own; (repeat (first | apply List.Mem.head | apply List.Mem.tail)); first | done | fail) | (apply has_ro; (repeat (first | apply List.Mem.head | apply List.Mem.tail)); first | done | fail) | apply has_nil | ((with_reducible apply has_el); (focus (first | (apply has_vels; (repeat (first | apply List.Mem.head | apply List.Mem.tail)); first | done | fail) | (apply has_rels; (repeat (first | apply List.Mem.head | apply List.Mem.tail)); first | done | fail))); omega) | (apply has_pt; (repeat (first | apply List.Mem.head | apply List.Mem.tail)); first | done | fail) | (apply has_lpt; (repeat (first | apply List.Mem.head | apply List.Mem.tail)); first | done | fail) | (apply has_vels; (repeat (first | apply List.Mem.head | apply List.Mem.tail)); first | done | fail) | (apply has_rels; (repeat (first | apply List.Mem.head | apply List.Mem.tail)); first | done | fail) | with_reducible assumption | ((with_reducible apply has_elg); (focus (first | (apply has_velg; (repeat (first | apply List.Mem.head | apply List.Mem.tail)); first | done | fail) | (apply has_relg; (repeat (first | apply List.Mem.head | apply List.Mem.tail)); first | done | fail))); omega) | (apply has_velg; (repeat (first | apply List.Mem.head | apply List.Mem.tail)); first | done | fail) | (apply has_relg; (repeat (first | apply List.Mem.head | apply List.Mem.tail)); first | done | fail))) fun hsl => ?_
  repeat' first|(refine gca ?_; first|(refine ca (BCheck_tr s hs ls) ?_; rintro _ _ ⟨rfl, rfl⟩))|(refine wo ?_; first|(refine ao ?_; first|refine aw ?_|refine aw6 ?_|refine oa ?_|refine adiv ?_|refine amod ?_|refine shr1 ?_|refine shr ?_|refine umod ?_|refine isl ?_|refine ipe ?_|refine ipn ?_|refine ibe ?_)|refine acw ?_|refine ucv ?_|refine anw ?_|refine oa ?_|refine ld ?_|refine ldl ?_|refine lnm ?_|refine ixmn ?_|refine ixm ?_|refine li ?_|refine lv ?_|refine ln ?_|refine ixn ?_|refine ix ?_|refine le ?_|refine sr ?_|refine soi ?_|refine scm ?_|refine sclm ?_|refine schm ?_|refine gy ?_|refine gn ?_|refine gnn ?_|refine gu ?_|(refine gsi (fun hB => ?_) (fun hB => ?_) <;> try (exfalso; omega))|(refine gsn (fun hB => ?_) (fun hB => ?_) <;> try (exfalso; omega))|(refine gs (fun hB => ?_) (fun hB => ?_) <;> try (exfalso; omega)))|(refine gc ?_; first|refine ct ?_|refine cf ?_|(refine ci (fun hB => ?_) (fun hB => ?_) <;> try (exfalso; omega))|(refine cn (fun hB => ?_) (fun hB => ?_) <;> try (exfalso; omega))|(refine cb (fun hB => ?_) (fun hB => ?_) <;> try (exfalso; omega)))|refine sq ?_|refine rg ?_|refine xc ?_|refine nl ?_|refine sk ?_|refine bk ?_|refine xe ?_|refine rt ?_|refine xb ?_
  · rw [show newE t blk ls = blkE ls from if_neg (by assumption)]
    exact r2 (.inr ⟨by assumption, rfl, rfl⟩)
  have hb0 : blkE ls = 0 := by omega
  rw [show newE t blk ls = smpE t ls.length blk from if_pos hb0]
  obtain ⟨hk, hsz, hal⟩ := blkE_zero hb0
  rw [hl]
  repeat' first|(refine gca ?_; first|(refine ca hS ?_; rintro _ _ (⟨he, cv, ov, rfl, rfl, hc, ho⟩ | ⟨he, rfl, rfl⟩)))|refine al fun b => ?_|refine srz ?_|(refine wo ?_; first|(refine ao ?_; first|refine aw ?_|refine aw6 ?_|refine oa ?_|refine adiv ?_|refine amod ?_|refine shr1 ?_|refine shr ?_|refine umod ?_|refine isl ?_|refine ipe ?_|refine ipn ?_|refine ibe ?_)|refine acw ?_|refine ucv ?_|refine anw ?_|refine oa ?_|refine ld ?_|refine ldl ?_|refine lnm ?_|refine ixmn ?_|refine ixm ?_|refine li ?_|refine lv ?_|refine ln ?_|refine ixn ?_|refine ix ?_|refine le ?_|refine sr ?_|refine soi ?_|refine scm ?_|refine sclm ?_|refine schm ?_|refine gy ?_|refine gn ?_|refine gnn ?_|refine gu ?_|(refine gsi (fun hB => ?_) (fun hB => ?_) <;> try (exfalso; omega))|(refine gsn (fun hB => ?_) (fun hB => ?_) <;> try (exfalso; omega))|(refine gs (fun hB => ?_) (fun hB => ?_) <;> try (exfalso; omega)))|(refine gc ?_; first|refine ct ?_|refine cf ?_|(refine ci (fun hB => ?_) (fun hB => ?_) <;> try (exfalso; omega))|(refine cn (fun hB => ?_) (fun hB => ?_) <;> try (exfalso; omega))|(refine cb (fun hB => ?_) (fun hB => ?_) <;> try (exfalso; omega)))|refine sq ?_|refine rg ?_|refine xc ?_|refine nl ?_|refine sk ?_|refine bk ?_|refine xe ?_|refine rt ?_|refine xb ?_
  · repeat' first|refine lda ?_|refine bdg ?_|refine bx fun xp => ?_|(refine wo ?_; first|(refine ao ?_; first|refine aw ?_|refine aw6 ?_|refine oa ?_|refine adiv ?_|refine amod ?_|refine shr1 ?_|refine shr ?_|refine umod ?_|refine isl ?_|refine ipe ?_|refine ipn ?_|refine ibe ?_)|refine acw ?_|refine ucv ?_|refine anw ?_|refine oa ?_|refine ld ?_|refine ldl ?_|refine lnm ?_|refine ixmn ?_|refine ixm ?_|refine li ?_|refine lv ?_|refine ln ?_|refine ixn ?_|refine ix ?_|refine le ?_|refine sr ?_|refine soi ?_|refine scm ?_|refine sclm ?_|refine schm ?_|refine gy ?_|refine gn ?_|refine gnn ?_|refine gu ?_|(refine gsi (fun hB => ?_) (fun hB => ?_) <;> try (exfalso; omega))|(refine gsn (fun hB => ?_) (fun hB => ?_) <;> try (exfalso; omega))|(refine gs (fun hB => ?_) (fun hB => ?_) <;> try (exfalso; omega)))|(refine gc ?_; first|refine ct ?_|refine cf ?_|(refine ci (fun hB => ?_) (fun hB => ?_) <;> try (exfalso; omega))|(refine cn (fun hB => ?_) (fun hB => ?_) <;> try (exfalso; omega))|(refine cb (fun hB => ?_) (fun hB => ?_) <;> try (exfalso; omega)))|refine sq ?_|refine rg ?_|refine xc ?_|refine nl ?_|refine sk ?_|refine bk ?_|refine xe ?_|refine rt ?_|refine xb ?_
    have ht0 : ls.take 0 = [] := rfl
    refine TC.im (relg_nil (g := y8) _) ?_
    refine TC.im (own_nil TyV _) ?_
    refine TC.loop (ι := NwG) (fun g => [(38, I g.i)]) (fun g => [pt xp [I t.sum, cv, ov, I ls.length, I seed, I blk, g.sy] TEnc, own TyV g.sy g.hs, relg y8 g.hs (ls.take g.i)]) (fun g => g.i ≤ ls.length ∧ g.sy.oneCell' = true ∧ g.hs.length = g.i) (fun g => ls.length - g.i) ⟨0, nS, []⟩ [36, 37, 13] ⟨by simp, rfl, rfl⟩ ?_ (hf := by dsimp only; first | apply Fit.all | ((repeat (first | (apply Fit.nilN; (repeat (first | apply nrm_nil | apply nrm_cons)); try apply nrm_rfl) | (apply Fit.cons; focus ((repeat (first | apply Tk.here | apply Tk.there)); first | done | fail)))); first | done | fail))
    rintro ⟨i, sy, hs2⟩ ⟨g1, g2, g3⟩
    dsimp only at g1 g2 g3 ⊢
    by_cases hi : i < ls.length
    · repeat' first|refine rs (id := 11) (fun _ => True) ?_ (fun _ _ => trivial)|(refine wo ?_; first|(refine ao ?_; first|refine aw ?_|refine aw6 ?_|refine oa ?_|refine adiv ?_|refine amod ?_|refine shr1 ?_|refine shr ?_|refine umod ?_|refine isl ?_|refine ipe ?_|refine ipn ?_|refine ibe ?_)|refine acw ?_|refine ucv ?_|refine anw ?_|refine oa ?_|refine ld ?_|refine ldl ?_|refine lnm ?_|refine ixmn ?_|refine ixm ?_|refine li ?_|refine lv ?_|refine ln ?_|refine ixn ?_|refine ix ?_|refine le ?_|refine sr ?_|refine soi ?_|refine scm ?_|refine sclm ?_|refine schm ?_|refine gy ?_|refine gn ?_|refine gnn ?_|refine gu ?_|(refine gsi (fun hB => ?_) (fun hB => ?_) <;> try (exfalso; omega))|(refine gsn (fun hB => ?_) (fun hB => ?_) <;> try (exfalso; omega))|(refine gs (fun hB => ?_) (fun hB => ?_) <;> try (exfalso; omega)))|(refine gc ?_; first|refine ct ?_|refine cf ?_|(refine ci (fun hB => ?_) (fun hB => ?_) <;> try (exfalso; omega))|(refine cn (fun hB => ?_) (fun hB => ?_) <;> try (exfalso; omega))|(refine cb (fun hB => ?_) (fun hB => ?_) <;> try (exfalso; omega)))|refine sq ?_|refine rg ?_|refine xc ?_|refine nl ?_|refine sk ?_|refine bk ?_|refine xe ?_|refine rt ?_|refine xb ?_
      refine tka 0 ?_
      refine tka 1 ?_
      refine tka 2 ?_
      refine tka 3 ?_
      refine tka 5 ?_
      refine t2 4 6 ?_ ?_
      · refine ld ?_
        refine nl ?_
        refine te (fun _ _ => trivial) ?_
        refine t1 6 ?_
        refine ca (Clone_tr _ (ls.getD i []) (by have := hal _ (getD_memL hi); omega)) ?_ (hp := has1 (has_elg (has_velg (by (repeat (first | apply List.Mem.head | apply List.Mem.tail)); first | done | fail)) hi) has0)
        rintro c _ ⟨hc1, rfl⟩
        refine nl ?_
        refine te (fun _ _ => trivial) ?_
        refine t1 7 ?_
        refine sli (vs := [c]) (fun v1 => ?_) (h1 := one_cons hc1 one_nil)
        refine nl ?_
        refine te (fun _ _ => trivial) ?_
        refine t1 8 ?_
        refine ap (xs := hs2) (news := [c]) (fun sy2 => ?_) (h1 := one_cons hc1 one_nil)
        refine TO.one (v := sy2) (xs := hs2 ++ [c]) fun hsy => ?_
        refine nl ?_
        refine te (fun _ _ => trivial) ?_
        refine tka 9 ?_
        refine tka 10 ?_
        refine t1 11 ?_
        refine sr ?_
        refine nl ?_
        refine te (fun _ _ => trivial) ?_
        refine t0 ?_
        refine TX.im (snoc_own (g := y8) (e := TyB) (hs := hs2) (ls := ls.take i) (v := c) (l := ls.getD i []) (by rw [g3, List.length_take]; omega) (by first | apply Fit.all | ((repeat (first | (apply Fit.nilN; (repeat (first | apply nrm_nil | apply nrm_cons)); try apply nrm_rfl) | (apply Fit.cons; focus ((repeat (first | apply Tk.here | apply Tk.there)); first | done | fail)))); first | done | fail))) ?_
        rw [← take_succ' hi []]
        repeat' first|(refine wo ?_; first|(refine ao ?_; first|refine aw ?_|refine aw6 ?_|refine oa ?_|refine adiv ?_|refine amod ?_|refine shr1 ?_|refine shr ?_|refine umod ?_|refine isl ?_|refine ipe ?_|refine ipn ?_|refine ibe ?_)|refine acw ?_|refine ucv ?_|refine anw ?_|refine oa ?_|refine ld ?_|refine ldl ?_|refine lnm ?_|refine ixmn ?_|refine ixm ?_|refine li ?_|refine lv ?_|refine ln ?_|refine ixn ?_|refine ix ?_|refine le ?_|refine sr ?_|refine soi ?_|refine scm ?_|refine sclm ?_|refine schm ?_|refine gy ?_|refine gn ?_|refine gnn ?_|refine gu ?_|(refine gsi (fun hB => ?_) (fun hB => ?_) <;> try (exfalso; omega))|(refine gsn (fun hB => ?_) (fun hB => ?_) <;> try (exfalso; omega))|(refine gs (fun hB => ?_) (fun hB => ?_) <;> try (exfalso; omega)))|(refine gc ?_; first|refine ct ?_|refine cf ?_|(refine ci (fun hB => ?_) (fun hB => ?_) <;> try (exfalso; omega))|(refine cn (fun hB => ?_) (fun hB => ?_) <;> try (exfalso; omega))|(refine cb (fun hB => ?_) (fun hB => ?_) <;> try (exfalso; omega)))|refine sq ?_|refine rg ?_|refine xc ?_|refine nl ?_|refine sk ?_|refine bk ?_|refine xe ?_|refine rt ?_|refine xb ?_
        exact lp ⟨i + 1, sy2, hs2 ++ [c]⟩ ⟨by dsimp only; omega, hsy, by simp [g3]⟩
      · refine ca (Clone_tr _ (ls.getD i []) (by have := hal _ (getD_memL hi); omega)) ?_ (hp := has1 (has_elg (has_velg (by (repeat (first | apply List.Mem.head | apply List.Mem.tail)); first | done | fail)) hi) has0)
        rintro c _ ⟨hc1, rfl⟩
        refine nl ?_
        refine te (fun _ _ => trivial) ?_
        refine t2 4 7 ?_ ?_
        · refine ld ?_
          refine nl ?_
          refine te (fun _ _ => trivial) ?_
          refine t1 7 ?_
          refine sli (vs := [c]) (fun v1 => ?_) (h1 := one_cons hc1 one_nil)
          refine nl ?_
          refine te (fun _ _ => trivial) ?_
          refine t1 8 ?_
          refine ap (xs := hs2) (news := [c]) (fun sy2 => ?_) (h1 := one_cons hc1 one_nil)
          refine TO.one (v := sy2) (xs := hs2 ++ [c]) fun hsy => ?_
          refine nl ?_
          refine te (fun _ _ => trivial) ?_
          refine tka 9 ?_
          refine tka 10 ?_
          refine t1 11 ?_
          refine sr ?_
          refine nl ?_
          refine te (fun _ _ => trivial) ?_
          refine t0 ?_
          refine TX.im (snoc_own (g := y8) (e := TyB) (hs := hs2) (ls := ls.take i) (v := c) (l := ls.getD i []) (by rw [g3, List.length_take]; omega) (by first | apply Fit.all | ((repeat (first | (apply Fit.nilN; (repeat (first | apply nrm_nil | apply nrm_cons)); try apply nrm_rfl) | (apply Fit.cons; focus ((repeat (first | apply Tk.here | apply Tk.there)); first | done | fail)))); first | done | fail))) ?_
          rw [← take_succ' hi []]
          repeat' first|(refine wo ?_; first|(refine ao ?_; first|refine aw ?_|refine aw6 ?_|refine oa ?_|refine adiv ?_|refine amod ?_|refine shr1 ?_|refine shr ?_|refine umod ?_|refine isl ?_|refine ipe ?_|refine ipn ?_|refine ibe ?_)|refine acw ?_|refine ucv ?_|refine anw ?_|refine oa ?_|refine ld ?_|refine ldl ?_|refine lnm ?_|refine ixmn ?_|refine ixm ?_|refine li ?_|refine lv ?_|refine ln ?_|refine ixn ?_|refine ix ?_|refine le ?_|refine sr ?_|refine soi ?_|refine scm ?_|refine sclm ?_|refine schm ?_|refine gy ?_|refine gn ?_|refine gnn ?_|refine gu ?_|(refine gsi (fun hB => ?_) (fun hB => ?_) <;> try (exfalso; omega))|(refine gsn (fun hB => ?_) (fun hB => ?_) <;> try (exfalso; omega))|(refine gs (fun hB => ?_) (fun hB => ?_) <;> try (exfalso; omega)))|(refine gc ?_; first|refine ct ?_|refine cf ?_|(refine ci (fun hB => ?_) (fun hB => ?_) <;> try (exfalso; omega))|(refine cn (fun hB => ?_) (fun hB => ?_) <;> try (exfalso; omega))|(refine cb (fun hB => ?_) (fun hB => ?_) <;> try (exfalso; omega)))|refine sq ?_|refine rg ?_|refine xc ?_|refine nl ?_|refine sk ?_|refine bk ?_|refine xe ?_|refine rt ?_|refine xb ?_
          exact lp ⟨i + 1, sy2, hs2 ++ [c]⟩ ⟨by dsimp only; omega, hsy, by simp [g3]⟩
        · refine sli (vs := [c]) (fun v1 => ?_) (h1 := one_cons hc1 one_nil)
          refine nl ?_
          refine te (fun _ _ => trivial) ?_
          refine t1 4 ?_
          refine ld ?_
          refine nl ?_
          refine te (fun _ _ => trivial) ?_
          refine t1 8 ?_
          refine ap (xs := hs2) (news := [c]) (fun sy2 => ?_) (h1 := one_cons hc1 one_nil)
          refine TO.one (v := sy2) (xs := hs2 ++ [c]) fun hsy => ?_
          refine nl ?_
          refine te (fun _ _ => trivial) ?_
          refine tka 9 ?_
          refine tka 10 ?_
          refine t1 11 ?_
          refine sr ?_
          refine nl ?_
          refine te (fun _ _ => trivial) ?_
          refine t0 ?_
          refine TX.im (snoc_own (g := y8) (e := TyB) (hs := hs2) (ls := ls.take i) (v := c) (l := ls.getD i []) (by rw [g3, List.length_take]; omega) (by first | apply Fit.all | ((repeat (first | (apply Fit.nilN; (repeat (first | apply nrm_nil | apply nrm_cons)); try apply nrm_rfl) | (apply Fit.cons; focus ((repeat (first | apply Tk.here | apply Tk.there)); first | done | fail)))); first | done | fail))) ?_
          rw [← take_succ' hi []]
          repeat' first|(refine wo ?_; first|(refine ao ?_; first|refine aw ?_|refine aw6 ?_|refine oa ?_|refine adiv ?_|refine amod ?_|refine shr1 ?_|refine shr ?_|refine umod ?_|refine isl ?_|refine ipe ?_|refine ipn ?_|refine ibe ?_)|refine acw ?_|refine ucv ?_|refine anw ?_|refine oa ?_|refine ld ?_|refine ldl ?_|refine lnm ?_|refine ixmn ?_|refine ixm ?_|refine li ?_|refine lv ?_|refine ln ?_|refine ixn ?_|refine ix ?_|refine le ?_|refine sr ?_|refine soi ?_|refine scm ?_|refine sclm ?_|refine schm ?_|refine gy ?_|refine gn ?_|refine gnn ?_|refine gu ?_|(refine gsi (fun hB => ?_) (fun hB => ?_) <;> try (exfalso; omega))|(refine gsn (fun hB => ?_) (fun hB => ?_) <;> try (exfalso; omega))|(refine gs (fun hB => ?_) (fun hB => ?_) <;> try (exfalso; omega)))|(refine gc ?_; first|refine ct ?_|refine cf ?_|(refine ci (fun hB => ?_) (fun hB => ?_) <;> try (exfalso; omega))|(refine cn (fun hB => ?_) (fun hB => ?_) <;> try (exfalso; omega))|(refine cb (fun hB => ?_) (fun hB => ?_) <;> try (exfalso; omega)))|refine sq ?_|refine rg ?_|refine xc ?_|refine nl ?_|refine sk ?_|refine bk ?_|refine xe ?_|refine rt ?_|refine xb ?_
          exact lp ⟨i + 1, sy2, hs2 ++ [c]⟩ ⟨by dsimp only; omega, hsy, by simp [g3]⟩
    · obtain rfl : i = ls.length := by omega
      rw [List.take_length]
      repeat' first|(refine wo ?_; first|(refine ao ?_; first|refine aw ?_|refine aw6 ?_|refine oa ?_|refine adiv ?_|refine amod ?_|refine shr1 ?_|refine shr ?_|refine umod ?_|refine isl ?_|refine ipe ?_|refine ipn ?_|refine ibe ?_)|refine acw ?_|refine ucv ?_|refine anw ?_|refine oa ?_|refine ld ?_|refine ldl ?_|refine lnm ?_|refine ixmn ?_|refine ixm ?_|refine li ?_|refine lv ?_|refine ln ?_|refine ixn ?_|refine ix ?_|refine le ?_|refine sr ?_|refine soi ?_|refine scm ?_|refine sclm ?_|refine schm ?_|refine gy ?_|refine gn ?_|refine gnn ?_|refine gu ?_|(refine gsi (fun hB => ?_) (fun hB => ?_) <;> try (exfalso; omega))|(refine gsn (fun hB => ?_) (fun hB => ?_) <;> try (exfalso; omega))|(refine gs (fun hB => ?_) (fun hB => ?_) <;> try (exfalso; omega)))|(refine gc ?_; first|refine ct ?_|refine cf ?_|(refine ci (fun hB => ?_) (fun hB => ?_) <;> try (exfalso; omega))|(refine cn (fun hB => ?_) (fun hB => ?_) <;> try (exfalso; omega))|(refine cb (fun hB => ?_) (fun hB => ?_) <;> try (exfalso; omega)))|refine sq ?_|refine rg ?_|refine xc ?_|refine nl ?_|refine sk ?_|refine bk ?_|refine xe ?_|refine rt ?_|refine xb ?_
      exact r2 (.inl ⟨he, xp, cv, ov, sy, hs2, rfl, rfl, hc, ho, g2⟩)
  · repeat' first|(refine wo ?_; first|(refine ao ?_; first|refine aw ?_|refine aw6 ?_|refine oa ?_|refine adiv ?_|refine amod ?_|refine shr1 ?_|refine shr ?_|refine umod ?_|refine isl ?_|refine ipe ?_|refine ipn ?_|refine ibe ?_)|refine acw ?_|refine ucv ?_|refine anw ?_|refine oa ?_|refine ld ?_|refine ldl ?_|refine lnm ?_|refine ixmn ?_|refine ixm ?_|refine li ?_|refine lv ?_|refine ln ?_|refine ixn ?_|refine ix ?_|refine le ?_|refine sr ?_|refine soi ?_|refine scm ?_|refine sclm ?_|refine schm ?_|refine gy ?_|refine gn ?_|refine gnn ?_|refine gu ?_|(refine gsi (fun hB => ?_) (fun hB => ?_) <;> try (exfalso; omega))|(refine gsn (fun hB => ?_) (fun hB => ?_) <;> try (exfalso; omega))|(refine gs (fun hB => ?_) (fun hB => ?_) <;> try (exfalso; omega)))|(refine gc ?_; first|refine ct ?_|refine cf ?_|(refine ci (fun hB => ?_) (fun hB => ?_) <;> try (exfalso; omega))|(refine cn (fun hB => ?_) (fun hB => ?_) <;> try (exfalso; omega))|(refine cb (fun hB => ?_) (fun hB => ?_) <;> try (exfalso; omega)))|refine sq ?_|refine rg ?_|refine xc ?_|refine nl ?_|refine sk ?_|refine bk ?_|refine xe ?_|refine rt ?_|refine xb ?_
    exact r2 (.inr ⟨by assumption, rfl, rfl⟩)
/-- What an encoder lends. -/
abbrev encL (b : Nat) (cv ov sy : Value) (hs : List Value) (t : List Int) (seed blk : Int) (ls : List (List Int)) : List Ch :=
  [lpt b [I t.sum, cv, ov, I ls.length, I seed, I blk, sy] TEnc, vw cv (Is (alF t).cut), vw ov (Is (alF t).oth), vw sy hs, velg y8 hs ls]
theorem Enone_tr (b : Nat) (x0 x1 x2 x3 x4 x5 sy : Value) (hs : List Value) : Tr Try.prog 21 [ptr b] [lpt b [x0, x1, x2, x3, x4, x5, sy] TEnc, vw sy hs] [] fun v D => v = .bool (decide ((hs.length : Int) = 0)) ∧ D = [] := by
  refine Tr.enter env _ Try.func21 (by kernel_rfl) rfl Try.ntmps21 rfl (by repeat (first | exact has00 | refine has01 ?_)) fun w0 => ?_
  repeat' first|(refine wo ?_; first|(refine ao ?_; first|refine aw ?_|refine aw6 ?_|refine oa ?_|refine adiv ?_|refine amod ?_|refine shr1 ?_|refine shr ?_|refine umod ?_|refine isl ?_|refine ipe ?_|refine ipn ?_|refine ibe ?_)|refine acw ?_|refine ucv ?_|refine anw ?_|refine oa ?_|refine ld ?_|refine ldl ?_|refine lnm ?_|refine ixmn ?_|refine ixm ?_|refine li ?_|refine lv ?_|refine ln ?_|refine ixn ?_|refine ix ?_|refine le ?_|refine sr ?_|refine soi ?_|refine scm ?_|refine sclm ?_|refine schm ?_|refine gy ?_|refine gn ?_|refine gnn ?_|refine gu ?_|(refine gsi (fun hB => ?_) (fun hB => ?_) <;> try (exfalso; omega))|(refine gsn (fun hB => ?_) (fun hB => ?_) <;> try (exfalso; omega))|(refine gs (fun hB => ?_) (fun hB => ?_) <;> try (exfalso; omega)))|(refine gc ?_; first|refine ct ?_|refine cf ?_|(refine ci (fun hB => ?_) (fun hB => ?_) <;> try (exfalso; omega))|(refine cn (fun hB => ?_) (fun hB => ?_) <;> try (exfalso; omega))|(refine cb (fun hB => ?_) (fun hB => ?_) <;> try (exfalso; omega)))|refine sq ?_|refine rg ?_|refine xc ?_|refine nl ?_|refine sk ?_|refine bk ?_|refine xe ?_|refine rt ?_|refine xb ?_
  exact r1 ⟨rfl, rfl⟩
theorem EnoneN_tr : Tr Try.prog 21 [nP] [] [] fun v D => v = .bool true ∧ D = [] := by
  refine Tr.enter env _ Try.func21 (by kernel_rfl) rfl Try.ntmps21 rfl (by repeat (first | exact has00 | refine has01 ?_)) fun w0 => ?_
  repeat' first|(refine wo ?_; first|(refine ao ?_; first|refine aw ?_|refine aw6 ?_|refine oa ?_|refine adiv ?_|refine amod ?_|refine shr1 ?_|refine shr ?_|refine umod ?_|refine isl ?_|refine ipe ?_|refine ipn ?_|refine ibe ?_)|refine acw ?_|refine ucv ?_|refine anw ?_|refine oa ?_|refine ld ?_|refine ldl ?_|refine lnm ?_|refine ixmn ?_|refine ixm ?_|refine li ?_|refine lv ?_|refine ln ?_|refine ixn ?_|refine ix ?_|refine le ?_|refine sr ?_|refine soi ?_|refine scm ?_|refine sclm ?_|refine schm ?_|refine gy ?_|refine gn ?_|refine gnn ?_|refine gu ?_|(refine gsi (fun hB => ?_) (fun hB => ?_) <;> try (exfalso; omega))|(refine gsn (fun hB => ?_) (fun hB => ?_) <;> try (exfalso; omega))|(refine gs (fun hB => ?_) (fun hB => ?_) <;> try (exfalso; omega)))|(refine gc ?_; first|refine ct ?_|refine cf ?_|(refine ci (fun hB => ?_) (fun hB => ?_) <;> try (exfalso; omega))|(refine cn (fun hB => ?_) (fun hB => ?_) <;> try (exfalso; omega))|(refine cb (fun hB => ?_) (fun hB => ?_) <;> try (exfalso; omega)))|refine sq ?_|refine rg ?_|refine xc ?_|refine nl ?_|refine sk ?_|refine bk ?_|refine xe ?_|refine rt ?_|refine xb ?_
  exact r1 ⟨rfl, rfl⟩
theorem ESet_tr (b : Nat) (cv ov sy : Value) (hs : List Value) (t : List Int) (seed blk : Int) (ls : List (List Int)) (id : Int) (hE : newE t blk ls = 0) (hc : cv.oneCell' = true) (ho : ov.oneCell' = true) :
    Tr Try.prog 8 [ptr b, I id] (encL b cv ov sy hs t seed blk ls) [] fun v D => ∃ o, v = tup2 o (I (setW t ls.length seed blk id).2) ∧ D = [own 3 o (Is (setW t ls.length seed blk id).1)] := by
  have hb0 : blkE ls = 0 := by unfold newE at hE; split at hE <;> omega
  have hs0 : solE t ls.length = 0 := by rw [newE, if_pos hb0] at hE; exact (smpE_zero hE).1
  obtain ⟨hk, hsz, hal⟩ := blkE_zero hb0
  refine Tr.enter env _ Try.func8 (by kernel_rfl) rfl Try.ntmps8 rfl (by repeat (first | exact has00 | refine has01 ?_)) fun w0 => ?_
  refine TC.elg (g := y8) (hs := hs) (ls := ls) (fun hl => ?_)
  repeat' first|(refine gca ?_; first|(refine ca (Enone_tr b _ _ _ _ _ _ sy hs) ?_; rintro _ _ ⟨rfl, rfl⟩; rw [decide_eq_false (show ¬ (hs.length : Int) = 0 by omega)])|(refine ca (sset_tr t ls.length seed blk id cv ov hs0 hc ho) ?_; rintro _ _ ⟨o, rfl, rfl⟩))|refine ldla ?_|(refine wo ?_; first|(refine ao ?_; first|refine aw ?_|refine aw6 ?_|refine oa ?_|refine adiv ?_|refine amod ?_|refine shr1 ?_|refine shr ?_|refine umod ?_|refine isl ?_|refine ipe ?_|refine ipn ?_|refine ibe ?_)|refine acw ?_|refine ucv ?_|refine anw ?_|refine oa ?_|refine ld ?_|refine ldl ?_|refine lnm ?_|refine ixmn ?_|refine ixm ?_|refine li ?_|refine lv ?_|refine ln ?_|refine ixn ?_|refine ix ?_|refine le ?_|refine sr ?_|refine soi ?_|refine scm ?_|refine sclm ?_|refine schm ?_|refine gy ?_|refine gn ?_|refine gnn ?_|refine gu ?_|(refine gsi (fun hB => ?_) (fun hB => ?_) <;> try (exfalso; omega))|(refine gsn (fun hB => ?_) (fun hB => ?_) <;> try (exfalso; omega))|(refine gs (fun hB => ?_) (fun hB => ?_) <;> try (exfalso; omega)))|(refine gc ?_; first|refine ct ?_|refine cf ?_|(refine ci (fun hB => ?_) (fun hB => ?_) <;> try (exfalso; omega))|(refine cn (fun hB => ?_) (fun hB => ?_) <;> try (exfalso; omega))|(refine cb (fun hB => ?_) (fun hB => ?_) <;> try (exfalso; omega)))|refine sq ?_|refine rg ?_|refine xc ?_|refine nl ?_|refine sk ?_|refine bk ?_|refine xe ?_|refine rt ?_|refine xb ?_
  exact r2 ⟨o, rfl, rfl⟩
/-- Of what is no encoder. -/
abbrev NoEnc (p : Value) (pre : List Ch) : Prop := Tr Try.prog 21 [p] pre [] fun v D => v = .bool true ∧ D = []
theorem ESet0_tr (p : Value) (pre : List Ch) (id : Int) (hN : NoEnc p pre) (hp : ∀ c ∈ pre, ∀ A : List Ch, c ∈ A → Has A c) : Tr Try.prog 8 [p, I id] pre [] fun v D => v = tup2 nS (I 1) ∧ D = [] := by
  refine Tr.enter env _ Try.func8 (by kernel_rfl) rfl Try.ntmps8 rfl (fun c hc b => ⟨(hp c hc [c] (by simp)).wr b, (hp c hc [c] (by simp)).rd b⟩) fun w0 => ?_
  repeat' first|(refine gca ?_; first|(refine ca hN ?_ rfl Fit.nil (fun c hc => hp c hc _ (by simp [hc])) rfl; rintro _ _ ⟨rfl, rfl⟩))|(refine wo ?_; first|(refine ao ?_; first|refine aw ?_|refine aw6 ?_|refine oa ?_|refine adiv ?_|refine amod ?_|refine shr1 ?_|refine shr ?_|refine umod ?_|refine isl ?_|refine ipe ?_|refine ipn ?_|refine ibe ?_)|refine acw ?_|refine ucv ?_|refine anw ?_|refine oa ?_|refine ld ?_|refine ldl ?_|refine lnm ?_|refine ixmn ?_|refine ixm ?_|refine li ?_|refine lv ?_|refine ln ?_|refine ixn ?_|refine ix ?_|refine le ?_|refine sr ?_|refine soi ?_|refine scm ?_|refine sclm ?_|refine schm ?_|refine gy ?_|refine gn ?_|refine gnn ?_|refine gu ?_|(refine gsi (fun hB => ?_) (fun hB => ?_) <;> try (exfalso; omega))|(refine gsn (fun hB => ?_) (fun hB => ?_) <;> try (exfalso; omega))|(refine gs (fun hB => ?_) (fun hB => ?_) <;> try (exfalso; omega)))|(refine gc ?_; first|refine ct ?_|refine cf ?_|(refine ci (fun hB => ?_) (fun hB => ?_) <;> try (exfalso; omega))|(refine cn (fun hB => ?_) (fun hB => ?_) <;> try (exfalso; omega))|(refine cb (fun hB => ?_) (fun hB => ?_) <;> try (exfalso; omega)))|refine sq ?_|refine rg ?_|refine xc ?_|refine nl ?_|refine sk ?_|refine bk ?_|refine xe ?_|refine rt ?_|refine xb ?_
  exact r2 ⟨rfl, rfl⟩
theorem EPacket0_tr (p : Value) (pre : List Ch) (id : Int) (hN : NoEnc p pre) (hp : ∀ c ∈ pre, ∀ A : List Ch, c ∈ A → Has A c) : Tr Try.prog 7 [p, I id] pre [] fun v D => v = tup2 nS (I 1) ∧ D = [] := by
  refine Tr.enter env _ Try.func7 (by kernel_rfl) rfl Try.ntmps7 rfl (fun c hc b => ⟨(hp c hc [c] (by simp)).wr b, (hp c hc [c] (by simp)).rd b⟩) fun w0 => ?_
  repeat' first|(refine gca ?_; first|(refine ca (ESet0_tr p pre id hN hp) ?_ rfl Fit.nil (fun c hc => hp c hc _ (by simp [hc])) rfl; rintro _ _ ⟨rfl, rfl⟩))|(refine wo ?_; first|(refine ao ?_; first|refine aw ?_|refine aw6 ?_|refine oa ?_|refine adiv ?_|refine amod ?_|refine shr1 ?_|refine shr ?_|refine umod ?_|refine isl ?_|refine ipe ?_|refine ipn ?_|refine ibe ?_)|refine acw ?_|refine ucv ?_|refine anw ?_|refine oa ?_|refine ld ?_|refine ldl ?_|refine lnm ?_|refine ixmn ?_|refine ixm ?_|refine li ?_|refine lv ?_|refine ln ?_|refine ixn ?_|refine ix ?_|refine le ?_|refine sr ?_|refine soi ?_|refine scm ?_|refine sclm ?_|refine schm ?_|refine gy ?_|refine gn ?_|refine gnn ?_|refine gu ?_|(refine gsi (fun hB => ?_) (fun hB => ?_) <;> try (exfalso; omega))|(refine gsn (fun hB => ?_) (fun hB => ?_) <;> try (exfalso; omega))|(refine gs (fun hB => ?_) (fun hB => ?_) <;> try (exfalso; omega)))|(refine gc ?_; first|refine ct ?_|refine cf ?_|(refine ci (fun hB => ?_) (fun hB => ?_) <;> try (exfalso; omega))|(refine cn (fun hB => ?_) (fun hB => ?_) <;> try (exfalso; omega))|(refine cb (fun hB => ?_) (fun hB => ?_) <;> try (exfalso; omega)))|refine sq ?_|refine rg ?_|refine xc ?_|refine nl ?_|refine sk ?_|refine bk ?_|refine xe ?_|refine rt ?_|refine xb ?_
  exact r2 ⟨rfl, rfl⟩
theorem EK0_tr (p : Value) (pre : List Ch) (hN : NoEnc p pre) (hp : ∀ c ∈ pre, ∀ A : List Ch, c ∈ A → Has A c) : Tr Try.prog 9 [p] pre [] fun v D => v = I 0 ∧ D = [] := by
  refine Tr.enter env _ Try.func9 (by kernel_rfl) rfl Try.ntmps9 rfl (fun c hc b => ⟨(hp c hc [c] (by simp)).wr b, (hp c hc [c] (by simp)).rd b⟩) fun w0 => ?_
  repeat' first|(refine gca ?_; first|(refine ca hN ?_ rfl Fit.nil (fun c hc => hp c hc _ (by simp [hc])) rfl; rintro _ _ ⟨rfl, rfl⟩))|(refine wo ?_; first|(refine ao ?_; first|refine aw ?_|refine aw6 ?_|refine oa ?_|refine adiv ?_|refine amod ?_|refine shr1 ?_|refine shr ?_|refine umod ?_|refine isl ?_|refine ipe ?_|refine ipn ?_|refine ibe ?_)|refine acw ?_|refine ucv ?_|refine anw ?_|refine oa ?_|refine ld ?_|refine ldl ?_|refine lnm ?_|refine ixmn ?_|refine ixm ?_|refine li ?_|refine lv ?_|refine ln ?_|refine ixn ?_|refine ix ?_|refine le ?_|refine sr ?_|refine soi ?_|refine scm ?_|refine sclm ?_|refine schm ?_|refine gy ?_|refine gn ?_|refine gnn ?_|refine gu ?_|(refine gsi (fun hB => ?_) (fun hB => ?_) <;> try (exfalso; omega))|(refine gsn (fun hB => ?_) (fun hB => ?_) <;> try (exfalso; omega))|(refine gs (fun hB => ?_) (fun hB => ?_) <;> try (exfalso; omega)))|(refine gc ?_; first|refine ct ?_|refine cf ?_|(refine ci (fun hB => ?_) (fun hB => ?_) <;> try (exfalso; omega))|(refine cn (fun hB => ?_) (fun hB => ?_) <;> try (exfalso; omega))|(refine cb (fun hB => ?_) (fun hB => ?_) <;> try (exfalso; omega)))|refine sq ?_|refine rg ?_|refine xc ?_|refine nl ?_|refine sk ?_|refine bk ?_|refine xe ?_|refine rt ?_|refine xb ?_
  exact r1 ⟨rfl, rfl⟩
theorem newE_zero {t : List Int} {blk : Int} {ls : List (List Int)} (hE : newE t blk ls = 0) : blkE ls = 0 ∧ solE t ls.length = 0 ∧ numOk blk := by
  have hb0 : blkE ls = 0 := by unfold newE at hE; split at hE <;> omega
  rw [newE, if_pos hb0] at hE
  exact ⟨hb0, smpE_zero hE⟩
/-- What Packet tells. -/
def pktW (t : List Int) (ls : List (List Int)) (seed blk id : Int) : List Int × Int := if numOk id then (sumL ls (setT t ls.length seed blk id), 0) else ([], 3)
theorem EPacket_tr (b : Nat) (cv ov sy : Value) (hs : List Value) (t : List Int) (seed blk : Int) (ls : List (List Int)) (id : Int) (hE : newE t blk ls = 0) (hc : cv.oneCell' = true) (ho : ov.oneCell' = true) :
    Tr Try.prog 7 [ptr b, I id] (encL b cv ov sy hs t seed blk ls) [] fun v D => ∃ o, v = tup2 o (I (pktW t ls seed blk id).2) ∧ o.oneCell' = true ∧ D = [own TyB o (By (pktW t ls seed blk id).1)] := by
  obtain ⟨hb0, hs0, hn0⟩ := newE_zero hE
  obtain ⟨hz, hr, hl1, hl2⟩ := setR_ok hs0 (seedOf (c64 seed) (c64 blk) (c64 id))
  change Rise (setT t ls.length seed blk id) ls.length at hr
  change 1 ≤ (setT t ls.length seed blk id).length ∧ _ at hl1
  have hS := ESet_tr b cv ov sy hs t seed blk ls id hE hc ho
  by_cases hn : numOk id
  · rw [show pktW t ls seed blk id = (sumL ls (setT t ls.length seed blk id), 0) from if_pos hn]
    rw [show setW t ls.length seed blk id = (setT t ls.length seed blk id, 0) from if_pos hn] at hS
    generalize setT t ls.length seed blk id = is at *
    refine Tr.enter env _ Try.func7 (by kernel_rfl) rfl Try.ntmps7 rfl (by repeat (first | exact has00 | refine has01 ?_)) fun w0 => ?_
    repeat' first|(refine gca ?_; first|(refine ca hS ?_; rintro _ _ ⟨o, rfl, rfl⟩)|(refine ca (Sum_tr sy o hs ls is hb0 hr (by omega)) ?_; rintro _ _ ⟨q, rfl, hq, rfl⟩))|(refine wo ?_; first|(refine ao ?_; first|refine aw ?_|refine aw6 ?_|refine oa ?_|refine adiv ?_|refine amod ?_|refine shr1 ?_|refine shr ?_|refine umod ?_|refine isl ?_|refine ipe ?_|refine ipn ?_|refine ibe ?_)|refine acw ?_|refine ucv ?_|refine anw ?_|refine oa ?_|refine ld ?_|refine ldl ?_|refine lnm ?_|refine ixmn ?_|refine ixm ?_|refine li ?_|refine lv ?_|refine ln ?_|refine ixn ?_|refine ix ?_|refine le ?_|refine sr ?_|refine soi ?_|refine scm ?_|refine sclm ?_|refine schm ?_|refine gy ?_|refine gn ?_|refine gnn ?_|refine gu ?_|(refine gsi (fun hB => ?_) (fun hB => ?_) <;> try (exfalso; omega))|(refine gsn (fun hB => ?_) (fun hB => ?_) <;> try (exfalso; omega))|(refine gs (fun hB => ?_) (fun hB => ?_) <;> try (exfalso; omega)))|(refine gc ?_; first|refine ct ?_|refine cf ?_|(refine ci (fun hB => ?_) (fun hB => ?_) <;> try (exfalso; omega))|(refine cn (fun hB => ?_) (fun hB => ?_) <;> try (exfalso; omega))|(refine cb (fun hB => ?_) (fun hB => ?_) <;> try (exfalso; omega)))|refine sq ?_|refine rg ?_|refine xc ?_|refine nl ?_|refine sk ?_|refine bk ?_|refine xe ?_|refine rt ?_|refine xb ?_
    exact r2 ⟨q, rfl, hq, rfl⟩
  · rw [show pktW t ls seed blk id = ([], 3) from if_neg hn]
    rw [show setW t ls.length seed blk id = ([], 3) from if_neg hn] at hS
    refine Tr.enter env _ Try.func7 (by kernel_rfl) rfl Try.ntmps7 rfl (by repeat (first | exact has00 | refine has01 ?_)) fun w0 => ?_
    repeat' first|(refine gca ?_; first|(refine ca hS ?_; rintro _ _ ⟨o, rfl, rfl⟩))|(refine wo ?_; first|(refine ao ?_; first|refine aw ?_|refine aw6 ?_|refine oa ?_|refine adiv ?_|refine amod ?_|refine shr1 ?_|refine shr ?_|refine umod ?_|refine isl ?_|refine ipe ?_|refine ipn ?_|refine ibe ?_)|refine acw ?_|refine ucv ?_|refine anw ?_|refine oa ?_|refine ld ?_|refine ldl ?_|refine lnm ?_|refine ixmn ?_|refine ixm ?_|refine li ?_|refine lv ?_|refine ln ?_|refine ixn ?_|refine ix ?_|refine le ?_|refine sr ?_|refine soi ?_|refine scm ?_|refine sclm ?_|refine schm ?_|refine gy ?_|refine gn ?_|refine gnn ?_|refine gu ?_|(refine gsi (fun hB => ?_) (fun hB => ?_) <;> try (exfalso; omega))|(refine gsn (fun hB => ?_) (fun hB => ?_) <;> try (exfalso; omega))|(refine gs (fun hB => ?_) (fun hB => ?_) <;> try (exfalso; omega)))|(refine gc ?_; first|refine ct ?_|refine cf ?_|(refine ci (fun hB => ?_) (fun hB => ?_) <;> try (exfalso; omega))|(refine cn (fun hB => ?_) (fun hB => ?_) <;> try (exfalso; omega))|(refine cb (fun hB => ?_) (fun hB => ?_) <;> try (exfalso; omega)))|refine sq ?_|refine rg ?_|refine xc ?_|refine nl ?_|refine sk ?_|refine bk ?_|refine xe ?_|refine rt ?_|refine xb ?_
    refine TX.im (own_nil TyB _) ?_
    exact r2 ⟨nS, rfl, rfl, rfl⟩
theorem EK_tr (b : Nat) (cv ov sy : Value) (hs : List Value) (t : List Int) (seed blk : Int) (ls : List (List Int)) (hE : newE t blk ls = 0) :
    Tr Try.prog 9 [ptr b] (encL b cv ov sy hs t seed blk ls) [] fun v D => v = I ls.length ∧ D = [] := by
  obtain ⟨hb0, hs0, hn0⟩ := newE_zero hE
  obtain ⟨hk, hsz, hal⟩ := blkE_zero hb0
  refine Tr.enter env _ Try.func9 (by kernel_rfl) rfl Try.ntmps9 rfl (by repeat (first | exact has00 | refine has01 ?_)) fun w0 => ?_
  refine TC.elg (g := y8) (hs := hs) (ls := ls) (fun hl => ?_)
  repeat' first|(refine gca ?_; first|(refine ca (Enone_tr b _ _ _ _ _ _ sy hs) ?_; rintro _ _ ⟨rfl, rfl⟩; rw [decide_eq_false (show ¬ (hs.length : Int) = 0 by omega)]))|(refine wo ?_; first|(refine ao ?_; first|refine aw ?_|refine aw6 ?_|refine oa ?_|refine adiv ?_|refine amod ?_|refine shr1 ?_|refine shr ?_|refine umod ?_|refine isl ?_|refine ipe ?_|refine ipn ?_|refine ibe ?_)|refine acw ?_|refine ucv ?_|refine anw ?_|refine oa ?_|refine ld ?_|refine ldl ?_|refine lnm ?_|refine ixmn ?_|refine ixm ?_|refine li ?_|refine lv ?_|refine ln ?_|refine ixn ?_|refine ix ?_|refine le ?_|refine sr ?_|refine soi ?_|refine scm ?_|refine sclm ?_|refine schm ?_|refine gy ?_|refine gn ?_|refine gnn ?_|refine gu ?_|(refine gsi (fun hB => ?_) (fun hB => ?_) <;> try (exfalso; omega))|(refine gsn (fun hB => ?_) (fun hB => ?_) <;> try (exfalso; omega))|(refine gs (fun hB => ?_) (fun hB => ?_) <;> try (exfalso; omega)))|(refine gc ?_; first|refine ct ?_|refine cf ?_|(refine ci (fun hB => ?_) (fun hB => ?_) <;> try (exfalso; omega))|(refine cn (fun hB => ?_) (fun hB => ?_) <;> try (exfalso; omega))|(refine cb (fun hB => ?_) (fun hB => ?_) <;> try (exfalso; omega)))|refine sq ?_|refine rg ?_|refine xc ?_|refine nl ?_|refine sk ?_|refine bk ?_|refine xe ?_|refine rt ?_|refine xb ?_
  exact r1 ⟨rfl, rfl⟩
end Go.Art
