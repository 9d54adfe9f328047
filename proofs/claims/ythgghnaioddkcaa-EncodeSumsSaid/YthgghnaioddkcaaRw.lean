/- Which symbols a row draws. Conditions: none. -/
import Derived.Test.YthgghnaioddkcaaAl
set_option linter.unusedSimpArgs false
set_option linter.unusedVariables false
namespace Go.Art
open Go Go.Proofs Go.RowKit
attribute [local irreducible] Fit pt own ro vw mpc lpt vels rels mow lrc dfr
attribute [local irreducible] lmp lme mit velg relg

theorem RwCheck_tr (tot k : Int) (cv ov : Value) (cut oth : List Int) (hc : cv.oneCell' = true) (ho : ov.oneCell' = true) (hE : alE tot cut oth = 0) : Tr Try.prog 37 [.agg #[I tot, cv, ov], I k] [vw cv (Is cut), vw ov (Is oth)] []
    fun v D => v = I (if k < 1 ∨ 65536 < k ∨ k < cut.length then 3 else 0) ∧ D = [] := by
  refine Tr.enter env _ Try.func37 (by kernel_rfl) rfl Try.ntmps37 rfl (by repeat (first | exact has00 | refine has01 ?_)) fun w0 => ?_
  repeat' first|(refine gca ?_; first|(refine ca (AlCheck_tr tot cv ov cut oth hc ho) ?_; rintro _ _ ⟨rfl, rfl⟩; rw [hE]))|refine bx fun b => ?_|refine lda ?_|(refine wo ?_; first|(refine ao ?_; first|refine aw ?_|refine aw6 ?_|refine oa ?_|refine adiv ?_|refine amod ?_|refine shr1 ?_|refine shr ?_|refine umod ?_|refine isl ?_|refine ipe ?_|refine ipn ?_|refine ibe ?_)|refine acw ?_|refine ucv ?_|refine anw ?_|refine oa ?_|refine ld ?_|refine ldl ?_|refine lnm ?_|refine ixmn ?_|refine ixm ?_|refine li ?_|refine lv ?_|refine ln ?_|refine ixn ?_|refine ix ?_|refine le ?_|refine sr ?_|refine soi ?_|refine scm ?_|refine sclm ?_|refine schm ?_|refine gy ?_|refine gn ?_|refine gnn ?_|refine gu ?_|(refine gsi (fun hB => ?_) (fun hB => ?_) <;> try (exfalso; omega))|(refine gsn (fun hB => ?_) (fun hB => ?_) <;> try (exfalso; omega))|(refine gs (fun hB => ?_) (fun hB => ?_) <;> try (exfalso; omega)))|(refine gc ?_; first|refine ct ?_|refine cf ?_|(refine ci (fun hB => ?_) (fun hB => ?_) <;> try (exfalso; omega))|(refine cn (fun hB => ?_) (fun hB => ?_) <;> try (exfalso; omega))|(refine cb (fun hB => ?_) (fun hB => ?_) <;> try (exfalso; omega)))|refine sq ?_|refine rg ?_|refine xc ?_|refine nl ?_|refine sk ?_|refine bk ?_|refine xe ?_|refine rt ?_|refine xb ?_
  · exact r1 ⟨by rw [if_pos (by omega)], rfl⟩
  · exact r1 ⟨by rw [if_pos (by omega)], rfl⟩
  · exact r1 ⟨by rw [if_pos (by omega)], rfl⟩
  · exact r1 ⟨by rw [if_neg (by omega)], rfl⟩
/-- The place that is drawn, and the state behind. -/
def plcR (tot : Int) (cut oth : List Int) (st : BitVec 64) : Int × BitVec 64 :=
  (alPick tot cut oth (sdraw cut.length st).1 (sdraw tot.toNat (sdraw cut.length st).2).1, (sdraw tot.toNat (sdraw cut.length st).2).2)
theorem place_tr (tot : Int) (cv ov : Value) (cut oth : List Int) (b r : Nat) (st : BitVec 64) (used : Int) (hu : 0 ≤ used ∧ used ≤ 1000) (hc : cv.oneCell' = true) (ho : ov.oneCell' = true) (hE : alE tot cut oth = 0) :
    Tr Try.prog 38 [.agg #[I tot, cv, ov], ptr b] [vw cv (Is cut), vw ov (Is oth)] (lotP b r st used false) fun v D => v = tup2 (I (plcR tot cut oth st).1) (I 0) ∧ D = lotP b r (plcR tot cut oth st).2 (used + 2) false := by
  have hb : (1 ≤ tot ∧ tot ≤ 1099511627776) ∧ 1 ≤ cut.length ∧ cut.length ≤ 65536 := by
    unfold alE at hE
    split at hE
    · cases hE
    · omega
  have e1 : ldraw cut.length st used = ((((sdraw cut.length st).1 : Int), 0), ((sdraw cut.length st).2, used + 1)) := by
    unfold ldraw; rw [if_pos (by omega), Int.toNat_natCast]
  have h1 := Draw_tr b r st used cut.length (by omega)
  rw [e1] at h1
  dsimp only at h1
  have l1 := sdraw_lt (n := cut.length) (by omega) st
  unfold plcR
  generalize (sdraw cut.length st).1 = c at *
  generalize (sdraw cut.length st).2 = st1 at *
  have e2 : ldraw tot st1 (used + 1) = ((((sdraw tot.toNat st1).1 : Int), 0), ((sdraw tot.toNat st1).2, used + 1 + 1)) := by
    unfold ldraw; rw [if_pos (by omega)]
  have h2 := Draw_tr b r st1 (used + 1) tot (by omega)
  rw [e2] at h2
  dsimp only at h2
  have l2 := sdraw_lt (n := tot.toNat) (by omega) st1
  generalize (sdraw tot.toNat st1).1 = l at *
  generalize (sdraw tot.toNat st1).2 = st2 at *
  rw [show used + 1 + 1 = used + 2 by omega] at h2
  refine Tr.enter env _ Try.func38 (by kernel_rfl) rfl Try.ntmps38 rfl (by repeat (first | exact has00 | refine has01 ?_)) fun w0 => ?_
  repeat' first|(refine gca ?_; first|(refine ca h1 ?_; rintro _ _ ⟨rfl, rfl⟩)|(refine ca h2 ?_; rintro _ _ ⟨rfl, rfl⟩)|(refine ca (AlPick_tr tot c l cv ov cut oth hc ho hE (by omega) (by omega)) ?_; rintro _ _ ⟨rfl, rfl⟩))|refine bx fun b => ?_|refine lda ?_|(refine wo ?_; first|(refine ao ?_; first|refine aw ?_|refine aw6 ?_|refine oa ?_|refine adiv ?_|refine amod ?_|refine shr1 ?_|refine shr ?_|refine umod ?_|refine isl ?_|refine ipe ?_|refine ipn ?_|refine ibe ?_)|refine acw ?_|refine ucv ?_|refine anw ?_|refine oa ?_|refine ld ?_|refine ldl ?_|refine lnm ?_|refine ixmn ?_|refine ixm ?_|refine li ?_|refine lv ?_|refine ln ?_|refine ixn ?_|refine ix ?_|refine le ?_|refine sr ?_|refine soi ?_|refine scm ?_|refine sclm ?_|refine schm ?_|refine gy ?_|refine gn ?_|refine gnn ?_|refine gu ?_|(refine gsi (fun hB => ?_) (fun hB => ?_) <;> try (exfalso; omega))|(refine gsn (fun hB => ?_) (fun hB => ?_) <;> try (exfalso; omega))|(refine gs (fun hB => ?_) (fun hB => ?_) <;> try (exfalso; omega)))|(refine gc ?_; first|refine ct ?_|refine cf ?_|(refine ci (fun hB => ?_) (fun hB => ?_) <;> try (exfalso; omega))|(refine cn (fun hB => ?_) (fun hB => ?_) <;> try (exfalso; omega))|(refine cb (fun hB => ?_) (fun hB => ?_) <;> try (exfalso; omega)))|refine sq ?_|refine rg ?_|refine xc ?_|refine nl ?_|refine sk ?_|refine bk ?_|refine xe ?_|refine rt ?_|refine xb ?_
  exact r2 ⟨rfl, rfl⟩
theorem plc_in {tot : Int} {cut oth : List Int} (hE : alE tot cut oth = 0) (st : BitVec 64) : 0 ≤ (plcR tot cut oth st).1 ∧ (plcR tot cut oth st).1 < cut.length := by
  unfold alE at hE
  split at hE
  · cases hE
  · split at hE
    · cases hE
    · rename_i h1 h2
      have l1 := sdraw_lt (n := cut.length) (by omega) st
      unfold plcR alPick
      dsimp only
      split
      · omega
      · rw [Int.toNat_natCast]
        have hm : oth.getD (sdraw cut.length st).1 0 ∈ oth := mem_getD.2 ⟨_, by omega, rfl⟩
        refine Classical.byContradiction fun hn => h2 ?_
        rw [Bool.or_eq_true]
        refine .inr (List.any_eq_true.2 ⟨_, hm, decide_eq_true ?_⟩)
        omega
/-- The set that a row draws. -/
def setR (tot : Int) (cut oth : List Int) (k : Int) (st : BitVec 64) : List Int × Int := pickR k ((plcR tot cut oth st).1 + 1) (plcR tot cut oth st).2
theorem RwSet_tr (tot k : Int) (cv ov : Value) (cut oth : List Int) (b r : Nat) (st : BitVec 64) (hc : cv.oneCell' = true) (ho : ov.oneCell' = true) (hE : alE tot cut oth = 0) (hk : (1 ≤ k ∧ k ≤ 65536) ∧ cut.length ≤ k) :
    Tr Try.prog 29 [.agg #[I tot, cv, ov], I k, ptr b] [vw cv (Is cut), vw ov (Is oth)] (lotP b r st 0 false) fun v D => ∃ o st' u, v = tup2 o (I (setR tot cut oth k st).2) ∧ D = own 3 o (Is (setR tot cut oth k st).1) :: lotP b r st' u false := by
  have hck := RwCheck_tr tot k cv ov cut oth hc ho hE
  rw [if_neg (by omega)] at hck
  have hat := plc_in hE st
  have h1 := place_tr tot cv ov cut oth b r st 0 (by omega) hc ho hE
  unfold setR
  generalize (plcR tot cut oth st).1 = at1 at *
  generalize (plcR tot cut oth st).2 = st2 at *
  have h2 := SPick_tr b r st2 (0 + 2) k (at1 + 1) (by omega)
  refine Tr.enter env _ Try.func29 (by kernel_rfl) rfl Try.ntmps29 rfl (by repeat (first | exact has00 | refine has01 ?_)) fun w0 => ?_
  repeat' first|(refine gca ?_; first|(refine ca hck ?_; rintro _ _ ⟨rfl, rfl⟩)|(refine ca h1 ?_; rintro _ _ ⟨rfl, rfl⟩)|(refine ca h2 ?_; rintro _ _ ⟨o, rfl, rfl⟩))|refine bx fun b => ?_|refine lda ?_|(refine wo ?_; first|(refine ao ?_; first|refine aw ?_|refine aw6 ?_|refine oa ?_|refine adiv ?_|refine amod ?_|refine shr1 ?_|refine shr ?_|refine umod ?_|refine isl ?_|refine ipe ?_|refine ipn ?_|refine ibe ?_)|refine acw ?_|refine ucv ?_|refine anw ?_|refine oa ?_|refine ld ?_|refine ldl ?_|refine lnm ?_|refine ixmn ?_|refine ixm ?_|refine li ?_|refine lv ?_|refine ln ?_|refine ixn ?_|refine ix ?_|refine le ?_|refine sr ?_|refine soi ?_|refine scm ?_|refine sclm ?_|refine schm ?_|refine gy ?_|refine gn ?_|refine gnn ?_|refine gu ?_|(refine gsi (fun hB => ?_) (fun hB => ?_) <;> try (exfalso; omega))|(refine gsn (fun hB => ?_) (fun hB => ?_) <;> try (exfalso; omega))|(refine gs (fun hB => ?_) (fun hB => ?_) <;> try (exfalso; omega)))|(refine gc ?_; first|refine ct ?_|refine cf ?_|(refine ci (fun hB => ?_) (fun hB => ?_) <;> try (exfalso; omega))|(refine cn (fun hB => ?_) (fun hB => ?_) <;> try (exfalso; omega))|(refine cb (fun hB => ?_) (fun hB => ?_) <;> try (exfalso; omega)))|refine sq ?_|refine rg ?_|refine xc ?_|refine nl ?_|refine sk ?_|refine bk ?_|refine xe ?_|refine rt ?_|refine xb ?_
  exact r2 ⟨_, _, _, rfl, rfl⟩
end Go.Art
