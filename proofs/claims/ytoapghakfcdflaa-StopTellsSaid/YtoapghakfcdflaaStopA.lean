/- Sets of symbols: which lists are sets. Conditions: none. -/
import Derived.Test.YtoapghakfcdflaaY
import Derived.Test.YtoapghakfcdflaaEnv
set_option linter.unusedSimpArgs false
set_option linter.unusedVariables false
namespace Go.Art
open Go Go.Proofs Go.RowKit
attribute [local irreducible] Fit pt own ro vw mpc lpt vels rels mow lrc dfr

/-- A list goes up from last, below k. -/
def upFrom (k : Int) : Int → List Int → Bool
  | _, [] => true
  | last, x :: r => decide (last < x) && (decide (x < k) && upFrom k x r)
def isSet (k : Int) (l : List Int) : Bool := upFrom k (-1) l && decide (0 < l.length)
theorem drop_cons {l : List Int} {i : Nat} (h : i < l.length) : l.drop i = l.getD i 0 :: l.drop (i + 1) := by
  rw [List.drop_eq_getElem_cons h]; simp [List.getD_eq_getElem?_getD, h]
theorem and3_no {p q : Prop} [Decidable p] [Decidable q] (h : ¬ (p ∧ q)) (b c : Bool) : ((decide p && (decide q && b)) && c) = false := by
  by_cases hp : p <;> by_cases hq : q <;> simp_all
theorem and3_yes {p q : Prop} [Decidable p] [Decidable q] (h : p ∧ q) (b : Bool) : (decide p && (decide q && b)) = b := by simp [h.1, h.2]

theorem Set20_tr (k : Int) (s : Value) (l : List Int) : Tr Try.prog 82 [I k, s] [vw s (Is l)] [] fun v D => v = .bool (isSet k l) ∧ D = [] := by
  refine Tr.enter env _ Try.func82 (by kernel_rfl) rfl Try.ntmps82 rfl (by repeat (first | exact has00 | refine has01 ?_)) fun w0 => ?_
  refine TC.leni (l := l) fun hl => ?_
  repeat' first|(refine wo ?_; first|(refine ao ?_; first|refine aw ?_|refine aw6 ?_|refine oa ?_|refine adiv ?_|refine amod ?_|refine shr1 ?_|refine shr ?_|refine umod ?_|refine isl ?_|refine ipe ?_|refine ipn ?_|refine ibe ?_)|refine acw ?_|refine ucv ?_|refine anw ?_|refine oa ?_|refine ld ?_|refine ldl ?_|refine lnm ?_|refine ixmn ?_|refine ixm ?_|refine li ?_|refine lv ?_|refine ln ?_|refine ixn ?_|refine ix ?_|refine le ?_|refine sr ?_|refine soi ?_|refine scm ?_|refine sclm ?_|refine schm ?_|refine gy ?_|refine gn ?_|refine gnn ?_|refine gu ?_|(refine gsi (fun hB => ?_) (fun hB => ?_) <;> try (exfalso; omega))|(refine gsn (fun hB => ?_) (fun hB => ?_) <;> try (exfalso; omega))|(refine gs (fun hB => ?_) (fun hB => ?_) <;> try (exfalso; omega)))|(refine gc ?_; first|refine ct ?_|refine cf ?_|(refine ci (fun hB => ?_) (fun hB => ?_) <;> try (exfalso; omega))|(refine cn (fun hB => ?_) (fun hB => ?_) <;> try (exfalso; omega))|(refine cb (fun hB => ?_) (fun hB => ?_) <;> try (exfalso; omega)))|refine sq ?_|refine rg ?_|refine xc ?_|refine nl ?_|refine sk ?_|refine bk ?_|refine xe ?_|refine rt ?_|refine xb ?_
  refine TC.loop (ι := Nat × Int) (fun i => [(5, I i.1)]) (fun _ => []) (fun i => i.1 ≤ l.length ∧ upFrom k (-1) l = upFrom k i.2 (l.drop i.1) ∧ -1 ≤ i.2 ∧ (i.1 = 0 → i.2 = -1) ∧ (0 < i.1 → i.2 = l.getD (i.1 - 1) 0)) (fun i => l.length - i.1) (0, -1) [0, 1] ⟨by simp, rfl, by simp, by simp, by simp⟩ ?_
  rintro ⟨i, la⟩ ⟨hi, hu, h1, h0, hp⟩
  dsimp only at hi hu h1 h0 hp ⊢
  by_cases hlt : i < l.length
  · rw [drop_cons hlt] at hu
    simp only [upFrom] at hu
    have e1 : ((i : Int) - 1).toNat = i - 1 := by omega
    repeat' first|(refine wo ?_; first|(refine ao ?_; first|refine aw ?_|refine aw6 ?_|refine oa ?_|refine adiv ?_|refine amod ?_|refine shr1 ?_|refine shr ?_|refine umod ?_|refine isl ?_|refine ipe ?_|refine ipn ?_|refine ibe ?_)|refine acw ?_|refine ucv ?_|refine anw ?_|refine oa ?_|refine ld ?_|refine ldl ?_|refine lnm ?_|refine ixmn ?_|refine ixm ?_|refine li ?_|refine lv ?_|refine ln ?_|refine ixn ?_|refine ix ?_|refine le ?_|refine sr ?_|refine soi ?_|refine scm ?_|refine sclm ?_|refine schm ?_|refine gy ?_|refine gn ?_|refine gnn ?_|refine gu ?_|(refine gsi (fun hB => ?_) (fun hB => ?_) <;> try (exfalso; omega))|(refine gsn (fun hB => ?_) (fun hB => ?_) <;> try (exfalso; omega))|(refine gs (fun hB => ?_) (fun hB => ?_) <;> try (exfalso; omega)))|(refine gc ?_; first|refine ct ?_|refine cf ?_|(refine ci (fun hB => ?_) (fun hB => ?_) <;> try (exfalso; omega))|(refine cn (fun hB => ?_) (fun hB => ?_) <;> try (exfalso; omega))|(refine cb (fun hB => ?_) (fun hB => ?_) <;> try (exfalso; omega)))|refine sq ?_|refine rg ?_|refine xc ?_|refine nl ?_|refine sk ?_|refine bk ?_|refine xe ?_|refine rt ?_|refine xb ?_|refine rq ?_|refine nq ?_|(refine wq ?_; first|(refine qao ?_; first|refine qaw ?_|refine qa ?_|refine qibe ?_)|refine qacw ?_|refine qa ?_|refine qld ?_|refine qldl ?_|refine qlnm ?_|refine qixmn ?_|refine qixm ?_|refine qli ?_|refine qlv ?_|refine qln ?_|refine qixn ?_|refine qix ?_|refine qle ?_|refine qgy ?_|refine qgn ?_|refine qgu ?_|(refine qgsi (fun hB => ?_) (fun hB => ?_) <;> try (exfalso; omega))|(refine qgsn (fun hB => ?_) (fun hB => ?_) <;> try (exfalso; omega))|(refine qgs (fun hB => ?_) (fun hB => ?_) <;> try (exfalso; omega)))
    all_goals try simp only [e1] at hB
    all_goals first
      | exact lp (i + 1, l.getD i 0) ⟨by dsimp only; omega, by rw [hu, and3_yes (by omega)], by dsimp only; omega, by simp, by simp⟩
      | (refine r1 ⟨?_, rfl⟩; rw [isSet, hu, and3_no (by omega)])
  · repeat' first|(refine wo ?_; first|(refine ao ?_; first|refine aw ?_|refine aw6 ?_|refine oa ?_|refine adiv ?_|refine amod ?_|refine shr1 ?_|refine shr ?_|refine umod ?_|refine isl ?_|refine ipe ?_|refine ipn ?_|refine ibe ?_)|refine acw ?_|refine ucv ?_|refine anw ?_|refine oa ?_|refine ld ?_|refine ldl ?_|refine lnm ?_|refine ixmn ?_|refine ixm ?_|refine li ?_|refine lv ?_|refine ln ?_|refine ixn ?_|refine ix ?_|refine le ?_|refine sr ?_|refine soi ?_|refine scm ?_|refine sclm ?_|refine schm ?_|refine gy ?_|refine gn ?_|refine gnn ?_|refine gu ?_|(refine gsi (fun hB => ?_) (fun hB => ?_) <;> try (exfalso; omega))|(refine gsn (fun hB => ?_) (fun hB => ?_) <;> try (exfalso; omega))|(refine gs (fun hB => ?_) (fun hB => ?_) <;> try (exfalso; omega)))|(refine gc ?_; first|refine ct ?_|refine cf ?_|(refine ci (fun hB => ?_) (fun hB => ?_) <;> try (exfalso; omega))|(refine cn (fun hB => ?_) (fun hB => ?_) <;> try (exfalso; omega))|(refine cb (fun hB => ?_) (fun hB => ?_) <;> try (exfalso; omega)))|refine sq ?_|refine rg ?_|refine xc ?_|refine nl ?_|refine sk ?_|refine bk ?_|refine xe ?_|refine rt ?_|refine xb ?_
    rw [List.drop_of_length_le (by omega)] at hu
    refine r1 ⟨?_, rfl⟩
    rw [isSet, hu]; simp [upFrom]

theorem fine_tr (k : Int) (s : Value) (l : List Int) : Tr Try.prog 70 [I k, s] [vw s (Is l)] [] fun v D => v = .bool (isSet k l) ∧ D = [] := by
  refine Tr.enter env _ Try.func70 (by kernel_rfl) rfl Try.ntmps70 rfl (by repeat (first | exact has00 | refine has01 ?_)) fun w0 => ?_
  refine TC.leni (l := l) fun hl => ?_
  repeat' first|(refine wo ?_; first|(refine ao ?_; first|refine aw ?_|refine aw6 ?_|refine oa ?_|refine adiv ?_|refine amod ?_|refine shr1 ?_|refine shr ?_|refine umod ?_|refine isl ?_|refine ipe ?_|refine ipn ?_|refine ibe ?_)|refine acw ?_|refine ucv ?_|refine anw ?_|refine oa ?_|refine ld ?_|refine ldl ?_|refine lnm ?_|refine ixmn ?_|refine ixm ?_|refine li ?_|refine lv ?_|refine ln ?_|refine ixn ?_|refine ix ?_|refine le ?_|refine sr ?_|refine soi ?_|refine scm ?_|refine sclm ?_|refine schm ?_|refine gy ?_|refine gn ?_|refine gnn ?_|refine gu ?_|(refine gsi (fun hB => ?_) (fun hB => ?_) <;> try (exfalso; omega))|(refine gsn (fun hB => ?_) (fun hB => ?_) <;> try (exfalso; omega))|(refine gs (fun hB => ?_) (fun hB => ?_) <;> try (exfalso; omega)))|(refine gc ?_; first|refine ct ?_|refine cf ?_|(refine ci (fun hB => ?_) (fun hB => ?_) <;> try (exfalso; omega))|(refine cn (fun hB => ?_) (fun hB => ?_) <;> try (exfalso; omega))|(refine cb (fun hB => ?_) (fun hB => ?_) <;> try (exfalso; omega)))|refine sq ?_|refine rg ?_|refine xc ?_|refine nl ?_|refine sk ?_|refine bk ?_|refine xe ?_|refine rt ?_|refine xb ?_
  refine TC.loop (ι := Nat × Int) (fun i => [(5, I i.2), (10, I i.1)]) (fun _ => []) (fun i => i.1 ≤ l.length ∧ upFrom k (-1) l = upFrom k i.2 (l.drop i.1)) (fun i => l.length - i.1) (0, -1) [0, 1, 8, 9] ⟨by simp, rfl⟩ ?_
  rintro ⟨i, la⟩ ⟨hi, hu⟩
  dsimp only at hi hu ⊢
  by_cases hlt : i < l.length
  · rw [drop_cons hlt] at hu
    simp only [upFrom] at hu
    repeat' first|(refine wo ?_; first|(refine ao ?_; first|refine aw ?_|refine aw6 ?_|refine oa ?_|refine adiv ?_|refine amod ?_|refine shr1 ?_|refine shr ?_|refine umod ?_|refine isl ?_|refine ipe ?_|refine ipn ?_|refine ibe ?_)|refine acw ?_|refine ucv ?_|refine anw ?_|refine oa ?_|refine ld ?_|refine ldl ?_|refine lnm ?_|refine ixmn ?_|refine ixm ?_|refine li ?_|refine lv ?_|refine ln ?_|refine ixn ?_|refine ix ?_|refine le ?_|refine sr ?_|refine soi ?_|refine scm ?_|refine sclm ?_|refine schm ?_|refine gy ?_|refine gn ?_|refine gnn ?_|refine gu ?_|(refine gsi (fun hB => ?_) (fun hB => ?_) <;> try (exfalso; omega))|(refine gsn (fun hB => ?_) (fun hB => ?_) <;> try (exfalso; omega))|(refine gs (fun hB => ?_) (fun hB => ?_) <;> try (exfalso; omega)))|(refine gc ?_; first|refine ct ?_|refine cf ?_|(refine ci (fun hB => ?_) (fun hB => ?_) <;> try (exfalso; omega))|(refine cn (fun hB => ?_) (fun hB => ?_) <;> try (exfalso; omega))|(refine cb (fun hB => ?_) (fun hB => ?_) <;> try (exfalso; omega)))|refine sq ?_|refine rg ?_|refine xc ?_|refine nl ?_|refine sk ?_|refine bk ?_|refine xe ?_|refine rt ?_|refine xb ?_|refine rq ?_|refine nq ?_|(refine wq ?_; first|(refine qao ?_; first|refine qaw ?_|refine qa ?_|refine qibe ?_)|refine qacw ?_|refine qa ?_|refine qld ?_|refine qldl ?_|refine qlnm ?_|refine qixmn ?_|refine qixm ?_|refine qli ?_|refine qlv ?_|refine qln ?_|refine qixn ?_|refine qix ?_|refine qle ?_|refine qgy ?_|refine qgn ?_|refine qgu ?_|(refine qgsi (fun hB => ?_) (fun hB => ?_) <;> try (exfalso; omega))|(refine qgsn (fun hB => ?_) (fun hB => ?_) <;> try (exfalso; omega))|(refine qgs (fun hB => ?_) (fun hB => ?_) <;> try (exfalso; omega)))
    all_goals first
      | exact lp (i + 1, l.getD i 0) ⟨by dsimp only; omega, by rw [hu, and3_yes (by omega)]⟩
      | (refine r1 ⟨?_, rfl⟩; rw [isSet, hu, and3_no (by omega)])
  · repeat' first|(refine wo ?_; first|(refine ao ?_; first|refine aw ?_|refine aw6 ?_|refine oa ?_|refine adiv ?_|refine amod ?_|refine shr1 ?_|refine shr ?_|refine umod ?_|refine isl ?_|refine ipe ?_|refine ipn ?_|refine ibe ?_)|refine acw ?_|refine ucv ?_|refine anw ?_|refine oa ?_|refine ld ?_|refine ldl ?_|refine lnm ?_|refine ixmn ?_|refine ixm ?_|refine li ?_|refine lv ?_|refine ln ?_|refine ixn ?_|refine ix ?_|refine le ?_|refine sr ?_|refine soi ?_|refine scm ?_|refine sclm ?_|refine schm ?_|refine gy ?_|refine gn ?_|refine gnn ?_|refine gu ?_|(refine gsi (fun hB => ?_) (fun hB => ?_) <;> try (exfalso; omega))|(refine gsn (fun hB => ?_) (fun hB => ?_) <;> try (exfalso; omega))|(refine gs (fun hB => ?_) (fun hB => ?_) <;> try (exfalso; omega)))|(refine gc ?_; first|refine ct ?_|refine cf ?_|(refine ci (fun hB => ?_) (fun hB => ?_) <;> try (exfalso; omega))|(refine cn (fun hB => ?_) (fun hB => ?_) <;> try (exfalso; omega))|(refine cb (fun hB => ?_) (fun hB => ?_) <;> try (exfalso; omega)))|refine sq ?_|refine rg ?_|refine xc ?_|refine nl ?_|refine sk ?_|refine bk ?_|refine xe ?_|refine rt ?_|refine xb ?_
    rw [List.drop_of_length_le (by omega)] at hu
    refine r1 ⟨?_, rfl⟩
    rw [isSet, hu]; simp [upFrom]
end Go.Art
