/- The statements' kit: SameInts. Conditions: none. -/
import Derived.Test.YthgghnaioddkcaaKa
set_option linter.unusedSimpArgs false
set_option linter.unusedVariables false
namespace Go.Art
open Go Go.Proofs Go.RowKit
attribute [local irreducible] Fit pt own ro vw mpc lpt vels rels mow lrc dfr
theorem SameInts_tr (a b : Value) (xs ys : List Int) : Tr Try.prog 14 [a, b] [vw a (Is xs), vw b (Is ys)] [] fun v D => v = .bool (decide (xs = ys)) ∧ D = [] := by
  refine Tr.enter env _ Try.func14 (by kernel_rfl) rfl Try.ntmps14 rfl (by repeat (first | exact has00 | refine has01 ?_)) fun w0 => ?_
  refine TC.leni (l := xs) fun hl => ?_
  repeat' first|(refine wo ?_; first|(refine ao ?_; first|refine aw ?_|refine aw6 ?_|refine oa ?_|refine adiv ?_|refine amod ?_|refine shr1 ?_|refine shr ?_|refine umod ?_|refine isl ?_|refine ipe ?_|refine ipn ?_|refine ibe ?_)|refine acw ?_|refine ucv ?_|refine anw ?_|refine oa ?_|refine ld ?_|refine ldl ?_|refine lnm ?_|refine ixmn ?_|refine ixm ?_|refine li ?_|refine lv ?_|refine ln ?_|refine ixn ?_|refine ix ?_|refine le ?_|refine sr ?_|refine soi ?_|refine scm ?_|refine sclm ?_|refine schm ?_|refine gy ?_|refine gn ?_|refine gnn ?_|refine gu ?_|(refine gsi (fun hB => ?_) (fun hB => ?_) <;> try (exfalso; omega))|(refine gsn (fun hB => ?_) (fun hB => ?_) <;> try (exfalso; omega))|(refine gs (fun hB => ?_) (fun hB => ?_) <;> try (exfalso; omega)))|(refine gc ?_; first|refine ct ?_|refine cf ?_|(refine ci (fun hB => ?_) (fun hB => ?_) <;> try (exfalso; omega))|(refine cn (fun hB => ?_) (fun hB => ?_) <;> try (exfalso; omega))|(refine cb (fun hB => ?_) (fun hB => ?_) <;> try (exfalso; omega)))|refine sq ?_|refine rg ?_|refine xc ?_|refine nl ?_|refine sk ?_|refine bk ?_|refine xe ?_|refine rt ?_|refine xb ?_
  · refine r1 ⟨?_, rfl⟩
    rw [decide_eq_false]; intro e; subst e; omega
  · refine TC.loop (ι := Nat) (fun k => [(5, I k)]) (fun _ => []) (fun k => k ≤ xs.length ∧ ∀ j, j < k → xs.getD j 0 = ys.getD j 0) (fun k => xs.length - k) 0 [0, 1] ⟨by omega, by omega⟩ ?_
    rintro k ⟨hk, heq⟩
    repeat' first|(refine wo ?_; first|(refine ao ?_; first|refine aw ?_|refine aw6 ?_|refine oa ?_|refine adiv ?_|refine amod ?_|refine shr1 ?_|refine shr ?_|refine umod ?_|refine isl ?_|refine ipe ?_|refine ipn ?_|refine ibe ?_)|refine acw ?_|refine ucv ?_|refine anw ?_|refine oa ?_|refine ld ?_|refine ldl ?_|refine lnm ?_|refine ixmn ?_|refine ixm ?_|refine li ?_|refine lv ?_|refine ln ?_|refine ixn ?_|refine ix ?_|refine le ?_|refine sr ?_|refine soi ?_|refine scm ?_|refine sclm ?_|refine schm ?_|refine gy ?_|refine gn ?_|refine gnn ?_|refine gu ?_|(refine gsi (fun hB => ?_) (fun hB => ?_) <;> try (exfalso; omega))|(refine gsn (fun hB => ?_) (fun hB => ?_) <;> try (exfalso; omega))|(refine gs (fun hB => ?_) (fun hB => ?_) <;> try (exfalso; omega)))|(refine gc ?_; first|refine ct ?_|refine cf ?_|(refine ci (fun hB => ?_) (fun hB => ?_) <;> try (exfalso; omega))|(refine cn (fun hB => ?_) (fun hB => ?_) <;> try (exfalso; omega))|(refine cb (fun hB => ?_) (fun hB => ?_) <;> try (exfalso; omega)))|refine sq ?_|refine rg ?_|refine xc ?_|refine nl ?_|refine sk ?_|refine bk ?_|refine xe ?_|refine rt ?_|refine xb ?_|refine rq ?_|refine nq ?_|(refine wq ?_; first|(refine qao ?_; first|refine qaw ?_|refine qa ?_|refine qibe ?_)|refine qacw ?_|refine qa ?_|refine qld ?_|refine qldl ?_|refine qlnm ?_|refine qixmn ?_|refine qixm ?_|refine qli ?_|refine qlv ?_|refine qln ?_|refine qixn ?_|refine qix ?_|refine qle ?_|refine qgy ?_|refine qgn ?_|refine qgu ?_|(refine qgsi (fun hB => ?_) (fun hB => ?_) <;> try (exfalso; omega))|(refine qgsn (fun hB => ?_) (fun hB => ?_) <;> try (exfalso; omega))|(refine qgs (fun hB => ?_) (fun hB => ?_) <;> try (exfalso; omega)))
    · refine r1 ⟨?_, rfl⟩
      rw [decide_eq_false]; intro e; exact hB (by rw [e])
    · refine lp (k + 1) ⟨by omega, fun j hj => ?_⟩
      by_cases hjk : j < k
      · exact heq j hjk
      · obtain rfl : j = k := by omega
        assumption
    · refine r1 ⟨?_, rfl⟩
      rw [decide_eq_true]
      exact eq_of_getD (by omega) (fun j hj => heq j (by omega))

end Go.Art
