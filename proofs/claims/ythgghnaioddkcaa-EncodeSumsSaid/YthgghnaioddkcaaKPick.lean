/- The statements' kit: Pick. Conditions: none. -/
import Derived.Test.YthgghnaioddkcaaKa
set_option linter.unusedSimpArgs false
set_option linter.unusedVariables false
namespace Go.Art
open Go Go.Proofs Go.RowKit
attribute [local irreducible] Fit pt own ro vw mpc lpt vels rels mow lrc dfr
theorem Pick_tr (x m : Int) (hm : m ≤ 9223372036854775807) : Tr Try.prog 15 [I x, I m] [] [] fun v D => v = I (pick x m) ∧ D = [] := by
  have hf : m ≤ 0 ∨ (0 < m ∧ 0 ≤ x % m ∧ x % m < m ∧ (x.tmod m < 0 → x.tmod m = x % m - m) ∧ (¬ x.tmod m < 0 → x.tmod m = x % m)) := by
    by_cases h : m ≤ 0
    · exact .inl h
    · have h1 := tmod_pick x m (by omega)
      refine .inr ⟨by omega, Int.emod_nonneg x (by omega), Int.emod_lt_of_pos x (by omega), fun hc => ?_, fun hc => ?_⟩
      · rw [if_pos hc] at h1; exact h1
      · rw [if_neg hc] at h1; exact h1
  refine Tr.enter env _ Try.func15 (by kernel_rfl) rfl Try.ntmps15 rfl (by repeat (first | exact has00 | refine has01 ?_)) fun w0 => ?_
  repeat' first|refine amodw ?_|(refine wo ?_; first|(refine ao ?_; first|refine aw ?_|refine aw6 ?_|refine oa ?_|refine adiv ?_|refine amod ?_|refine shr1 ?_|refine shr ?_|refine umod ?_|refine isl ?_|refine ipe ?_|refine ipn ?_|refine ibe ?_)|refine acw ?_|refine ucv ?_|refine anw ?_|refine oa ?_|refine ld ?_|refine ldl ?_|refine lnm ?_|refine ixmn ?_|refine ixm ?_|refine li ?_|refine lv ?_|refine ln ?_|refine ixn ?_|refine ix ?_|refine le ?_|refine sr ?_|refine soi ?_|refine scm ?_|refine sclm ?_|refine schm ?_|refine gy ?_|refine gn ?_|refine gnn ?_|refine gu ?_|(refine gsi (fun hB => ?_) (fun hB => ?_) <;> try (exfalso; omega))|(refine gsn (fun hB => ?_) (fun hB => ?_) <;> try (exfalso; omega))|(refine gs (fun hB => ?_) (fun hB => ?_) <;> try (exfalso; omega)))|(refine gc ?_; first|refine ct ?_|refine cf ?_|(refine ci (fun hB => ?_) (fun hB => ?_) <;> try (exfalso; omega))|(refine cn (fun hB => ?_) (fun hB => ?_) <;> try (exfalso; omega))|(refine cb (fun hB => ?_) (fun hB => ?_) <;> try (exfalso; omega)))|refine sq ?_|refine rg ?_|refine xc ?_|refine nl ?_|refine sk ?_|refine bk ?_|refine xe ?_|refine rt ?_|refine xb ?_
  all_goals refine r1 ⟨?_, rfl⟩; simp only [pick]
  · rw [if_pos hB]
  · rw [if_neg (by omega)]; congr 1; omega
  · rw [if_neg (by omega)]; congr 1; omega

end Go.Art
