/- Tables of weights: the check. Conditions: none. -/
import Derived.Test.YthgghnaioddkcaaSs
set_option linter.unusedSimpArgs false
set_option linter.unusedVariables false
namespace Go.Art
open Go Go.Proofs Go.RowKit
attribute [local irreducible] Fit pt own ro vw mpc lpt vels rels mow lrc dfr
attribute [local irreducible] lmp lme mit

def wOk (w : Int) : Bool := decide (0 ≤ w ∧ w ≤ 16777215)
def wPos (w : Int) : Bool := decide (0 < w)
/-- Why a list is no table of k. -/
def solE (t : List Int) (k : Int) : Int := if k < 1 ∨ 65536 < k ∨ t.length < 1 ∨ k < t.length then 13 else if t.all wOk && t.any wPos then 0 else 13
theorem solE_zero {t : List Int} {k : Int} (h : solE t k = 0) : (1 ≤ k ∧ k ≤ 65536) ∧ (1 ≤ t.length ∧ t.length ≤ k) ∧ (∀ w ∈ t, 0 ≤ w ∧ w ≤ 16777215) ∧ ∃ w ∈ t, 0 < w := by
  unfold solE at h
  split at h
  · cases h
  · split at h
    · rename_i h1 h2
      rw [Bool.and_eq_true, List.all_eq_true, List.any_eq_true] at h2
      refine ⟨by omega, by omega, fun w hw => by simpa [wOk] using h2.1 w hw, ?_⟩
      obtain ⟨w, hw, hp⟩ := h2.2
      exact ⟨w, hw, by simpa [wPos] using hp⟩
    · cases h
theorem solE_cases (t : List Int) (k : Int) : solE t k = 0 ∨ solE t k = 13 := by unfold solE; split; exact .inr rfl; split; exact .inl rfl; exact .inr rfl
theorem take_all {p : Int → Bool} {t : List Int} {i : Nat} (hi : i < t.length) : (t.take (i + 1)).all p = ((t.take i).all p && p (t.getD i 0)) := by rw [take_succ' hi 0, List.all_append]; simp
theorem take_any {p : Int → Bool} {t : List Int} {i : Nat} (hi : i < t.length) : (t.take (i + 1)).any p = ((t.take i).any p || p (t.getD i 0)) := by rw [take_succ' hi 0, List.any_append]; simp
theorem all_of_take {p : Int → Bool} {t : List Int} {i : Nat} (hi : i < t.length) (h : p (t.getD i 0) = false) : t.all p = false := by
  cases hc : t.all p with
  | false => rfl
  | true => rw [List.all_eq_true] at hc; rw [hc _ (mem_getD.2 ⟨i, hi, rfl⟩)] at h; cases h
theorem SoCheck_tr (s : Value) (t : List Int) (k : Int) : Tr Try.prog 16 [s, I k] [vw s (Is t)] [] fun v D => v = I (solE t k) ∧ D = [] := by
  refine Tr.enter env _ Try.func16 (by kernel_rfl) rfl Try.ntmps16 rfl (by repeat (first | exact has00 | refine has01 ?_)) fun w0 => ?_
  refine TC.leni (l := t) fun htl => ?_
  repeat' first|(refine wo ?_; first|(refine ao ?_; first|refine aw ?_|refine aw6 ?_|refine oa ?_|refine adiv ?_|refine amod ?_|refine shr1 ?_|refine shr ?_|refine umod ?_|refine isl ?_|refine ipe ?_|refine ipn ?_|refine ibe ?_)|refine acw ?_|refine ucv ?_|refine anw ?_|refine oa ?_|refine ld ?_|refine ldl ?_|refine lnm ?_|refine ixmn ?_|refine ixm ?_|refine li ?_|refine lv ?_|refine ln ?_|refine ixn ?_|refine ix ?_|refine le ?_|refine sr ?_|refine soi ?_|refine scm ?_|refine sclm ?_|refine schm ?_|refine gy ?_|refine gn ?_|refine gnn ?_|refine gu ?_|(refine gsi (fun hB => ?_) (fun hB => ?_) <;> try (exfalso; omega))|(refine gsn (fun hB => ?_) (fun hB => ?_) <;> try (exfalso; omega))|(refine gs (fun hB => ?_) (fun hB => ?_) <;> try (exfalso; omega)))|(refine gc ?_; first|refine ct ?_|refine cf ?_|(refine ci (fun hB => ?_) (fun hB => ?_) <;> try (exfalso; omega))|(refine cn (fun hB => ?_) (fun hB => ?_) <;> try (exfalso; omega))|(refine cb (fun hB => ?_) (fun hB => ?_) <;> try (exfalso; omega)))|refine sq ?_|refine rg ?_|refine xc ?_|refine nl ?_|refine sk ?_|refine bk ?_|refine xe ?_|refine rt ?_|refine xb ?_
  · exact r1 ⟨by rw [solE, if_pos (by omega)], rfl⟩
  · exact r1 ⟨by rw [solE, if_pos (by omega)], rfl⟩
  · exact r1 ⟨by rw [solE, if_pos (by omega)], rfl⟩
  · exact r1 ⟨by rw [solE, if_pos (by omega)], rfl⟩
  rw [show solE t k = if t.all wOk && t.any wPos then 0 else 13 by rw [solE, if_neg (by omega)]]
  refine TC.loop (ι := Nat × Bool) (fun i => [(27, I i.1), (5, .bool i.2)]) (fun _ => []) (fun i => i.1 ≤ t.length ∧ (t.take i.1).all wOk = true ∧ i.2 = (t.take i.1).any wPos) (fun i => t.length - i.1) (0, false) [25, 26] ⟨by simp, rfl, rfl⟩ ?_
  rintro ⟨i, so⟩ ⟨h1, h2, h3⟩
  dsimp only at h1 h2 h3 ⊢
  by_cases hi : i < t.length
  · have ha := take_all (p := wOk) hi
    have hb := take_any (p := wPos) hi
    have hc := all_of_take (p := wOk) hi
    generalize hy : t.getD i 0 = y at *
    repeat' first|refine lie hy ?_|(refine wo ?_; first|(refine ao ?_; first|refine aw ?_|refine aw6 ?_|refine oa ?_|refine adiv ?_|refine amod ?_|refine shr1 ?_|refine shr ?_|refine umod ?_|refine isl ?_|refine ipe ?_|refine ipn ?_|refine ibe ?_)|refine acw ?_|refine ucv ?_|refine anw ?_|refine oa ?_|refine ld ?_|refine ldl ?_|refine lnm ?_|refine ixmn ?_|refine ixm ?_|refine li ?_|refine lv ?_|refine ln ?_|refine ixn ?_|refine ix ?_|refine le ?_|refine sr ?_|refine soi ?_|refine scm ?_|refine sclm ?_|refine schm ?_|refine gy ?_|refine gn ?_|refine gnn ?_|refine gu ?_|(refine gsi (fun hB => ?_) (fun hB => ?_) <;> try (exfalso; omega))|(refine gsn (fun hB => ?_) (fun hB => ?_) <;> try (exfalso; omega))|(refine gs (fun hB => ?_) (fun hB => ?_) <;> try (exfalso; omega)))|(refine gc ?_; first|refine ct ?_|refine cf ?_|(refine ci (fun hB => ?_) (fun hB => ?_) <;> try (exfalso; omega))|(refine cn (fun hB => ?_) (fun hB => ?_) <;> try (exfalso; omega))|(refine cb (fun hB => ?_) (fun hB => ?_) <;> try (exfalso; omega)))|refine sq ?_|refine rg ?_|refine xc ?_|refine nl ?_|refine sk ?_|refine bk ?_|refine xe ?_|refine rt ?_|refine xb ?_
    · refine r1 ⟨?_, rfl⟩
      rw [hc (by simp [wOk]; omega)]; rfl
    · refine r1 ⟨?_, rfl⟩
      rw [hc (by simp [wOk]; omega)]; rfl
    · have hw : wOk y = true := by simp [wOk]; omega
      exact lp (i + 1, true) ⟨by dsimp only; omega, by dsimp only; rw [ha, h2, hw]; rfl, by dsimp only; rw [hb, ← h3, hB]; rfl⟩
    · have hw : wOk y = true := by simp [wOk]; omega
      exact lp (i + 1, decide (0 < y)) ⟨by dsimp only; omega, by dsimp only; rw [ha, h2, hw]; rfl, by dsimp only; rw [hb, ← h3, hB]; rfl⟩
  · obtain rfl : i = t.length := by omega
    rw [List.take_length] at h2 h3
    repeat' first|(refine wo ?_; first|(refine ao ?_; first|refine aw ?_|refine aw6 ?_|refine oa ?_|refine adiv ?_|refine amod ?_|refine shr1 ?_|refine shr ?_|refine umod ?_|refine isl ?_|refine ipe ?_|refine ipn ?_|refine ibe ?_)|refine acw ?_|refine ucv ?_|refine anw ?_|refine oa ?_|refine ld ?_|refine ldl ?_|refine lnm ?_|refine ixmn ?_|refine ixm ?_|refine li ?_|refine lv ?_|refine ln ?_|refine ixn ?_|refine ix ?_|refine le ?_|refine sr ?_|refine soi ?_|refine scm ?_|refine sclm ?_|refine schm ?_|refine gy ?_|refine gn ?_|refine gnn ?_|refine gu ?_|(refine gsi (fun hB => ?_) (fun hB => ?_) <;> try (exfalso; omega))|(refine gsn (fun hB => ?_) (fun hB => ?_) <;> try (exfalso; omega))|(refine gs (fun hB => ?_) (fun hB => ?_) <;> try (exfalso; omega)))|(refine gc ?_; first|refine ct ?_|refine cf ?_|(refine ci (fun hB => ?_) (fun hB => ?_) <;> try (exfalso; omega))|(refine cn (fun hB => ?_) (fun hB => ?_) <;> try (exfalso; omega))|(refine cb (fun hB => ?_) (fun hB => ?_) <;> try (exfalso; omega)))|refine sq ?_|refine rg ?_|refine xc ?_|refine nl ?_|refine sk ?_|refine bk ?_|refine xe ?_|refine rt ?_|refine xb ?_
    · refine r1 ⟨?_, rfl⟩
      rw [h2, ← h3, show so = false by simpa using hB]; rfl
    · refine r1 ⟨?_, rfl⟩
      rw [h2, ← h3, show so = true by simpa using hB]; rfl
def total (t : List Int) : Int := t.sum
theorem take_sum {t : List Int} {i : Nat} (hi : i < t.length) : (t.take (i + 1)).sum = (t.take i).sum + t.getD i 0 := by rw [take_succ' hi 0, List.sum_append]; simp
theorem sum_bound {t : List Int} (h : ∀ w ∈ t, 0 ≤ w ∧ w ≤ 16777215) : 0 ≤ t.sum ∧ t.sum ≤ 16777215 * t.length := by
  induction t with
  | nil => simp
  | cons a r ih =>
    have h1 := h a (by simp)
    have h2 := ih fun w hw => h w (by simp [hw])
    simp only [List.sum_cons, List.length_cons]
    omega
/-- alias.total: of a table. -/
theorem Total_tr (s : Value) (t : List Int) (h1 : 1 ≤ t.length ∧ t.length ≤ 65536) (hw : ∀ w ∈ t, 0 ≤ w ∧ w ≤ 16777215) : Tr Try.prog 42 [s] [vw s (Is t)] [] fun v D => v = I t.sum ∧ D = [] := by
  refine Tr.enter env _ Try.func42 (by kernel_rfl) rfl Try.ntmps42 rfl (by repeat (first | exact has00 | refine has01 ?_)) fun w0 => ?_
  repeat' first|(refine wo ?_; first|(refine ao ?_; first|refine aw ?_|refine aw6 ?_|refine oa ?_|refine adiv ?_|refine amod ?_|refine shr1 ?_|refine shr ?_|refine umod ?_|refine isl ?_|refine ipe ?_|refine ipn ?_|refine ibe ?_)|refine acw ?_|refine ucv ?_|refine anw ?_|refine oa ?_|refine ld ?_|refine ldl ?_|refine lnm ?_|refine ixmn ?_|refine ixm ?_|refine li ?_|refine lv ?_|refine ln ?_|refine ixn ?_|refine ix ?_|refine le ?_|refine sr ?_|refine soi ?_|refine scm ?_|refine sclm ?_|refine schm ?_|refine gy ?_|refine gn ?_|refine gnn ?_|refine gu ?_|(refine gsi (fun hB => ?_) (fun hB => ?_) <;> try (exfalso; omega))|(refine gsn (fun hB => ?_) (fun hB => ?_) <;> try (exfalso; omega))|(refine gs (fun hB => ?_) (fun hB => ?_) <;> try (exfalso; omega)))|(refine gc ?_; first|refine ct ?_|refine cf ?_|(refine ci (fun hB => ?_) (fun hB => ?_) <;> try (exfalso; omega))|(refine cn (fun hB => ?_) (fun hB => ?_) <;> try (exfalso; omega))|(refine cb (fun hB => ?_) (fun hB => ?_) <;> try (exfalso; omega)))|refine sq ?_|refine rg ?_|refine xc ?_|refine nl ?_|refine sk ?_|refine bk ?_|refine xe ?_|refine rt ?_|refine xb ?_
  refine TC.loop (ι := Nat) (fun i => [(15, I i), (2, I (t.take i).sum)]) (fun _ => []) (fun i => i ≤ t.length) (fun i => t.length - i) 0 [13, 14] (by simp) ?_
  rintro i h2
  by_cases hi : i < t.length
  · have hs := take_sum hi
    have hb := hw _ (mem_getD.2 ⟨i, hi, rfl⟩)
    have hc := sum_bound (t := t.take i) fun w h => hw w (List.mem_of_mem_take h)
    rw [List.length_take] at hc
    generalize hy : t.getD i 0 = y at *
    repeat' first|refine lie hy ?_|(refine wo ?_; first|(refine ao ?_; first|refine aw ?_|refine aw6 ?_|refine oa ?_|refine adiv ?_|refine amod ?_|refine shr1 ?_|refine shr ?_|refine umod ?_|refine isl ?_|refine ipe ?_|refine ipn ?_|refine ibe ?_)|refine acw ?_|refine ucv ?_|refine anw ?_|refine oa ?_|refine ld ?_|refine ldl ?_|refine lnm ?_|refine ixmn ?_|refine ixm ?_|refine li ?_|refine lv ?_|refine ln ?_|refine ixn ?_|refine ix ?_|refine le ?_|refine sr ?_|refine soi ?_|refine scm ?_|refine sclm ?_|refine schm ?_|refine gy ?_|refine gn ?_|refine gnn ?_|refine gu ?_|(refine gsi (fun hB => ?_) (fun hB => ?_) <;> try (exfalso; omega))|(refine gsn (fun hB => ?_) (fun hB => ?_) <;> try (exfalso; omega))|(refine gs (fun hB => ?_) (fun hB => ?_) <;> try (exfalso; omega)))|(refine gc ?_; first|refine ct ?_|refine cf ?_|(refine ci (fun hB => ?_) (fun hB => ?_) <;> try (exfalso; omega))|(refine cn (fun hB => ?_) (fun hB => ?_) <;> try (exfalso; omega))|(refine cb (fun hB => ?_) (fun hB => ?_) <;> try (exfalso; omega)))|refine sq ?_|refine rg ?_|refine xc ?_|refine nl ?_|refine sk ?_|refine bk ?_|refine xe ?_|refine rt ?_|refine xb ?_
    exact lp (i + 1) (by omega) (hs := by rw [hs]; (repeat (refine Sub.cons rfl (by first | rfl | go_num) ?_)); exact Sub.nil)
  · obtain rfl : i = t.length := by omega
    rw [List.take_length]
    repeat' first|(refine wo ?_; first|(refine ao ?_; first|refine aw ?_|refine aw6 ?_|refine oa ?_|refine adiv ?_|refine amod ?_|refine shr1 ?_|refine shr ?_|refine umod ?_|refine isl ?_|refine ipe ?_|refine ipn ?_|refine ibe ?_)|refine acw ?_|refine ucv ?_|refine anw ?_|refine oa ?_|refine ld ?_|refine ldl ?_|refine lnm ?_|refine ixmn ?_|refine ixm ?_|refine li ?_|refine lv ?_|refine ln ?_|refine ixn ?_|refine ix ?_|refine le ?_|refine sr ?_|refine soi ?_|refine scm ?_|refine sclm ?_|refine schm ?_|refine gy ?_|refine gn ?_|refine gnn ?_|refine gu ?_|(refine gsi (fun hB => ?_) (fun hB => ?_) <;> try (exfalso; omega))|(refine gsn (fun hB => ?_) (fun hB => ?_) <;> try (exfalso; omega))|(refine gs (fun hB => ?_) (fun hB => ?_) <;> try (exfalso; omega)))|(refine gc ?_; first|refine ct ?_|refine cf ?_|(refine ci (fun hB => ?_) (fun hB => ?_) <;> try (exfalso; omega))|(refine cn (fun hB => ?_) (fun hB => ?_) <;> try (exfalso; omega))|(refine cb (fun hB => ?_) (fun hB => ?_) <;> try (exfalso; omega)))|refine sq ?_|refine rg ?_|refine xc ?_|refine nl ?_|refine sk ?_|refine bk ?_|refine xe ?_|refine rt ?_|refine xb ?_
    exact r1 ⟨rfl, rfl⟩
end Go.Art
