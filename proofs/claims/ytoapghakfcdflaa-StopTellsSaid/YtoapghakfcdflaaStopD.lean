/- Stopping sets: the reference's count. Conditions: none. -/
import Derived.Test.YtoapghakfcdflaaStopC
set_option linter.unusedSimpArgs false
set_option linter.unusedVariables false
namespace Go.Art
open Go Go.Proofs Go.RowKit
attribute [local irreducible] Fit pt own ro vw mpc lpt vels rels mow lrc dfr

def meetC (l t : List Int) : Nat := (t.map fun x => l.count x).sum
theorem meetN_cons {x : Int} {r : List Int} (hx : x ∉ r) : ∀ l : List Int, meetN l (x :: r) = l.count x + meetN l r
  | [] => rfl
  | y :: l => by
    have ih := meetN_cons hx l
    unfold meetN at ih ⊢
    rw [List.filter_cons, List.filter_cons, List.count_cons]
    by_cases hyx : y = x
    · subst hyx
      rw [if_pos (by simp), if_neg (c := decide (y ∈ r) = true) (by simpa using hx), if_pos (by simp), List.length_cons, ih]; omega
    · rw [if_neg (c := (y == x) = true) (by simpa using hyx)]
      by_cases hyr : y ∈ r
      · rw [if_pos (by simp [hyr]), if_pos (by simpa using hyr), List.length_cons, List.length_cons, ih]; omega
      · rw [if_neg (by simp [hyr, hyx]), if_neg (by simpa using hyr), ih]; omega
theorem meetC_eq : ∀ (t l : List Int), t.Nodup → meetC l t = meetN l t
  | [], l, _ => by
    have : l.filter (fun x => decide (x ∈ ([] : List Int))) = [] := by rw [List.filter_eq_nil_iff]; simp
    unfold meetN; rw [this]; rfl
  | x :: r, l, h => by
    obtain ⟨hx, hr⟩ := List.nodup_cons.1 h
    rw [meetN_cons hx, ← meetC_eq r l hr]; simp [meetC]
theorem nodup_sorted {l : List Int} (h : ∀ i j, i < j → j < l.length → l.getD i 0 < l.getD j 0) : l.Nodup := by
  rw [List.nodup_iff_pairwise_ne, List.pairwise_iff_getElem]
  intro i j hi hj hij e
  have := h i j hij hj
  simp [List.getD_eq_getElem?_getD, hi, hj, e] at this
theorem count_snoc (l : List Int) (i : Nat) (x : Int) (h : i < l.length) : (l.take (i + 1)).count x = (l.take i).count x + if l.getD i 0 = x then 1 else 0 := by
  rw [take_succ' h 0, List.count_append]
  congr 1
  by_cases e : l.getD i 0 = x
  · rw [if_pos e, e]; simp
  · rw [if_neg e]; simp only [List.count_cons, List.count_nil, Nat.zero_add, beq_iff_eq, if_neg e]
theorem meetC_snoc (l t : List Int) (i : Nat) (h : i < t.length) : meetC l (t.take (i + 1)) = meetC l (t.take i) + l.count (t.getD i 0) := by
  rw [take_succ' h 0]; simp [meetC]
theorem count_le' (l : List Int) (x : Int) : l.count x ≤ l.length := List.count_le_length
theorem meetC_le (l : List Int) : ∀ (t : List Int), meetC l t ≤ t.length * l.length
  | [] => by simp [meetC]
  | x :: r => by
    have h1 := meetC_le l r
    have h2 := count_le' l x
    simp only [meetC, List.map_cons, List.sum_cons, List.length_cons, Nat.add_mul, Nat.one_mul] at h1 ⊢
    omega

set_option maxHeartbeats 1000000 in
theorem RStopping_tr (k : Int) (s t : Value) (hs : List Value) (ls : List (List Int)) (tl : List Int) : Tr Try.prog 61 [I k, s, t] [vw s hs, vels hs ls, vw t (Is tl)] []
    fun v D => v = tup2 (.bool (stopping k ls tl).1) (I (stopping k ls tl).2) ∧ D = [] := by
  refine Tr.enter env _ Try.func61 (by kernel_rfl) rfl Try.ntmps61 rfl (by repeat (first | exact has00 | refine has01 ?_)) fun w0 => ?_
  refine TC.leni (l := tl) fun hl => ?_
  refine TC.els (hs := hs) (ls := ls) (fun hll => ?_)
  refine TC.fact (vw_len (v := s) (xs := hs) (by first | (apply has_vw; (repeat (first | apply List.Mem.head | apply List.Mem.tail)); first | done | fail) | (apply has_own; (repeat (first | apply List.Mem.head | apply List.Mem.tail)); first | done | fail) | (apply has_ro; (repeat (first | apply List.Mem.head | apply List.Mem.tail)); first | done | fail) | apply has_nil | ((with_reducible apply has_el); (focus (first | (apply has_vels; (repeat (first | apply List.Mem.head | apply List.Mem.tail)); first | done | fail) | (apply has_rels; (repeat (first | apply List.Mem.head | apply List.Mem.tail)); first | done | fail))); omega) | (apply has_pt; (repeat (first | apply List.Mem.head | apply List.Mem.tail)); first | done | fail) | (apply has_lpt; (repeat (first | apply List.Mem.head | apply List.Mem.tail)); first | done | fail) | (apply has_vels; (repeat (first | apply List.Mem.head | apply List.Mem.tail)); first | done | fail) | (apply has_rels; (repeat (first | apply List.Mem.head | apply List.Mem.tail)); first | done | fail) | with_reducible assumption)) fun hlen => ?_
  repeat' first|(refine gca ?_; first|(refine ca (rrefuses_tr _ _ _ ls) ?_; rintro _ _ ⟨rfl, rfl⟩)|(refine ca (Set20_tr _ _ tl) ?_; rintro _ _ ⟨rfl, rfl⟩))|(refine wo ?_; first|(refine ao ?_; first|refine aw ?_|refine aw6 ?_|refine oa ?_|refine adiv ?_|refine amod ?_|refine shr1 ?_|refine shr ?_|refine umod ?_|refine isl ?_|refine ipe ?_|refine ipn ?_|refine ibe ?_)|refine acw ?_|refine ucv ?_|refine anw ?_|refine oa ?_|refine ld ?_|refine ldl ?_|refine lnm ?_|refine ixmn ?_|refine ixm ?_|refine li ?_|refine lv ?_|refine ln ?_|refine ixn ?_|refine ix ?_|refine le ?_|refine sr ?_|refine soi ?_|refine scm ?_|refine sclm ?_|refine schm ?_|refine gy ?_|refine gn ?_|refine gnn ?_|refine gu ?_|(refine gsi (fun hB => ?_) (fun hB => ?_) <;> try (exfalso; omega))|(refine gsn (fun hB => ?_) (fun hB => ?_) <;> try (exfalso; omega))|(refine gs (fun hB => ?_) (fun hB => ?_) <;> try (exfalso; omega)))|(refine gc ?_; first|refine ct ?_|refine cf ?_|(refine ci (fun hB => ?_) (fun hB => ?_) <;> try (exfalso; omega))|(refine cn (fun hB => ?_) (fun hB => ?_) <;> try (exfalso; omega))|(refine cb (fun hB => ?_) (fun hB => ?_) <;> try (exfalso; omega)))|refine sq ?_|refine rg ?_|refine xc ?_|refine nl ?_|refine sk ?_|refine bk ?_|refine xe ?_|refine rt ?_|refine xb ?_
  · exact r2 ⟨by rw [stopping, if_pos hB], rfl⟩
  · refine r2 ⟨?_, rfl⟩
    rw [stopping, if_neg (by simp [*]), if_pos (by simpa using hB)]
  rename_i he0
  have hset : isSet k tl = true := by simpa using hB
  have hk : (tl.length : Int) ≤ k := isSet_len hset
  have hK : 1 ≤ k ∧ k ≤ 65536 := by
    by_cases h : k < 1 ∨ 65536 < k
    · rw [stopE, if_pos h] at he0; cases he0
    · omega
  have hall : ∀ i, i < ls.length → isSet k (ls.getD i []) = true := by
    intro i hi
    rw [stopE, if_neg (by omega)] at he0
    by_cases h : ls.any (fun l => !isSet k l) = true
    · rw [if_pos h] at he0; cases he0
    · have h2 : ¬ (!isSet k (ls.getD i [])) = true := fun e => h (List.any_eq_true.2 ⟨_, by rw [List.getD_eq_getElem?_getD, List.getElem?_eq_getElem hi]; exact List.getElem_mem hi, e⟩)
      simpa using h2
  have hst : stopping k ls tl = (isStop ls tl, 0) := by rw [stopping, if_neg (by simp [he0]), if_neg (by simp [hset])]
  have hnd := nodup_sorted (isSet_sorted hset).2
  rw [hst]
  refine TC.loop (ι := Nat) (fun i => [(9, I i)]) (fun _ => []) (fun i => i ≤ ls.length ∧ ∀ j, j < i → ¬ (meetN (ls.getD j []) tl : Int) = 1) (fun i => ls.length - i) 0 [0, 1, 2] ⟨by omega, by omega⟩ ?_
  rintro i ⟨h1, h2⟩
  by_cases hi : i < ls.length
  · have hli := hall i hi
    have hlk := isSet_len hli
    generalize hL : ls.getD i [] = L at *
    repeat' first|(refine wo ?_; first|(refine ao ?_; first|refine aw ?_|refine aw6 ?_|refine oa ?_|refine adiv ?_|refine amod ?_|refine shr1 ?_|refine shr ?_|refine umod ?_|refine isl ?_|refine ipe ?_|refine ipn ?_|refine ibe ?_)|refine acw ?_|refine ucv ?_|refine anw ?_|refine oa ?_|refine ld ?_|refine ldl ?_|refine lnm ?_|refine ixmn ?_|refine ixm ?_|refine li ?_|refine lv ?_|refine ln ?_|refine ixn ?_|refine ix ?_|refine le ?_|refine sr ?_|refine soi ?_|refine scm ?_|refine sclm ?_|refine schm ?_|refine gy ?_|refine gn ?_|refine gnn ?_|refine gu ?_|(refine gsi (fun hB => ?_) (fun hB => ?_) <;> try (exfalso; omega))|(refine gsn (fun hB => ?_) (fun hB => ?_) <;> try (exfalso; omega))|(refine gs (fun hB => ?_) (fun hB => ?_) <;> try (exfalso; omega)))|(refine gc ?_; first|refine ct ?_|refine cf ?_|(refine ci (fun hB => ?_) (fun hB => ?_) <;> try (exfalso; omega))|(refine cn (fun hB => ?_) (fun hB => ?_) <;> try (exfalso; omega))|(refine cb (fun hB => ?_) (fun hB => ?_) <;> try (exfalso; omega)))|refine sq ?_|refine rg ?_|refine xc ?_|refine nl ?_|refine sk ?_|refine bk ?_|refine xe ?_|refine rt ?_|refine xb ?_
    refine TC.loop (ι := Nat) (fun j => [(11, I j), (10, I (meetC L (tl.take j)))]) (fun _ => []) (fun j => j ≤ tl.length) (fun j => tl.length - j) 0 [0, 1, 2, 9] (by omega) ?_
    intro j hj
    have hc1 : meetC L (tl.take j) ≤ 4294967296 := by
      have := meetC_le L (tl.take j)
      have h3 : (tl.take j).length * L.length ≤ 65536 * 65536 := Nat.mul_le_mul (by have := List.length_take_le j tl; omega) (by omega)
      omega
    by_cases hj2 : j < tl.length
    · repeat' first|(refine wo ?_; first|(refine ao ?_; first|refine aw ?_|refine aw6 ?_|refine oa ?_|refine adiv ?_|refine amod ?_|refine shr1 ?_|refine shr ?_|refine umod ?_|refine isl ?_|refine ipe ?_|refine ipn ?_|refine ibe ?_)|refine acw ?_|refine ucv ?_|refine anw ?_|refine oa ?_|refine ld ?_|refine ldl ?_|refine lnm ?_|refine ixmn ?_|refine ixm ?_|refine li ?_|refine lv ?_|refine ln ?_|refine ixn ?_|refine ix ?_|refine le ?_|refine sr ?_|refine soi ?_|refine scm ?_|refine sclm ?_|refine schm ?_|refine gy ?_|refine gn ?_|refine gnn ?_|refine gu ?_|(refine gsi (fun hB => ?_) (fun hB => ?_) <;> try (exfalso; omega))|(refine gsn (fun hB => ?_) (fun hB => ?_) <;> try (exfalso; omega))|(refine gs (fun hB => ?_) (fun hB => ?_) <;> try (exfalso; omega)))|(refine gc ?_; first|refine ct ?_|refine cf ?_|(refine ci (fun hB => ?_) (fun hB => ?_) <;> try (exfalso; omega))|(refine cn (fun hB => ?_) (fun hB => ?_) <;> try (exfalso; omega))|(refine cb (fun hB => ?_) (fun hB => ?_) <;> try (exfalso; omega)))|refine sq ?_|refine rg ?_|refine xc ?_|refine nl ?_|refine sk ?_|refine bk ?_|refine xe ?_|refine rt ?_|refine xb ?_
      refine TC.loop (ι := Nat) (fun m => [(12, I m), (10, I ((meetC L (tl.take j) + (L.take m).count (tl.getD j 0) : Nat) : Int))]) (fun _ => []) (fun m => m ≤ L.length) (fun m => L.length - m) 0 [0, 1, 2, 9, 11] (by omega) ?_
      intro m hm
      have hc2 := count_le' (L.take m) (tl.getD j 0)
      have hc3 := List.length_take_le m L
      subst hL
      by_cases hm2 : m < (ls.getD i []).length
      · have hcs := count_snoc (ls.getD i []) m (tl.getD j 0) hm2
        repeat' first|(refine wo ?_; first|(refine ao ?_; first|refine aw ?_|refine aw6 ?_|refine oa ?_|refine adiv ?_|refine amod ?_|refine shr1 ?_|refine shr ?_|refine umod ?_|refine isl ?_|refine ipe ?_|refine ipn ?_|refine ibe ?_)|refine acw ?_|refine ucv ?_|refine anw ?_|refine oa ?_|refine ld ?_|refine ldl ?_|refine lnm ?_|refine ixmn ?_|refine ixm ?_|refine li ?_|refine lv ?_|refine ln ?_|refine ixn ?_|refine ix ?_|refine le ?_|refine sr ?_|refine soi ?_|refine scm ?_|refine sclm ?_|refine schm ?_|refine gy ?_|refine gn ?_|refine gnn ?_|refine gu ?_|(refine gsi (fun hB => ?_) (fun hB => ?_) <;> try (exfalso; omega))|(refine gsn (fun hB => ?_) (fun hB => ?_) <;> try (exfalso; omega))|(refine gs (fun hB => ?_) (fun hB => ?_) <;> try (exfalso; omega)))|(refine gc ?_; first|refine ct ?_|refine cf ?_|(refine ci (fun hB => ?_) (fun hB => ?_) <;> try (exfalso; omega))|(refine cn (fun hB => ?_) (fun hB => ?_) <;> try (exfalso; omega))|(refine cb (fun hB => ?_) (fun hB => ?_) <;> try (exfalso; omega)))|refine sq ?_|refine rg ?_|refine xc ?_|refine nl ?_|refine sk ?_|refine bk ?_|refine xe ?_|refine rt ?_|refine xb ?_|refine rq ?_|refine nq ?_|(refine wq ?_; first|(refine qao ?_; first|refine qaw ?_|refine qa ?_|refine qibe ?_)|refine qacw ?_|refine qa ?_|refine qld ?_|refine qldl ?_|refine qlnm ?_|refine qixmn ?_|refine qixm ?_|refine qli ?_|refine qlv ?_|refine qln ?_|refine qixn ?_|refine qix ?_|refine qle ?_|refine qgy ?_|refine qgn ?_|refine qgu ?_|(refine qgsi (fun hB => ?_) (fun hB => ?_) <;> try (exfalso; omega))|(refine qgsn (fun hB => ?_) (fun hB => ?_) <;> try (exfalso; omega))|(refine qgs (fun hB => ?_) (fun hB => ?_) <;> try (exfalso; omega)))
        · rw [if_pos hB] at hcs
          exact lp (m + 1) (by omega) (by refine Sub.cons rfl rfl (Sub.cons rfl (by rw [hcs]; rfl) ?_); (repeat (refine Sub.cons rfl (by first | rfl | go_num) ?_)); exact Sub.nil)
        · rw [if_neg hB] at hcs
          exact lp (m + 1) (by omega) (by refine Sub.cons rfl rfl (Sub.cons rfl (by rw [hcs]; rfl) ?_); (repeat (refine Sub.cons rfl (by first | rfl | go_num) ?_)); exact Sub.nil)
      · obtain rfl : m = (ls.getD i []).length := by omega
        repeat' first|(refine wo ?_; first|(refine ao ?_; first|refine aw ?_|refine aw6 ?_|refine oa ?_|refine adiv ?_|refine amod ?_|refine shr1 ?_|refine shr ?_|refine umod ?_|refine isl ?_|refine ipe ?_|refine ipn ?_|refine ibe ?_)|refine acw ?_|refine ucv ?_|refine anw ?_|refine oa ?_|refine ld ?_|refine ldl ?_|refine lnm ?_|refine ixmn ?_|refine ixm ?_|refine li ?_|refine lv ?_|refine ln ?_|refine ixn ?_|refine ix ?_|refine le ?_|refine sr ?_|refine soi ?_|refine scm ?_|refine sclm ?_|refine schm ?_|refine gy ?_|refine gn ?_|refine gnn ?_|refine gu ?_|(refine gsi (fun hB => ?_) (fun hB => ?_) <;> try (exfalso; omega))|(refine gsn (fun hB => ?_) (fun hB => ?_) <;> try (exfalso; omega))|(refine gs (fun hB => ?_) (fun hB => ?_) <;> try (exfalso; omega)))|(refine gc ?_; first|refine ct ?_|refine cf ?_|(refine ci (fun hB => ?_) (fun hB => ?_) <;> try (exfalso; omega))|(refine cn (fun hB => ?_) (fun hB => ?_) <;> try (exfalso; omega))|(refine cb (fun hB => ?_) (fun hB => ?_) <;> try (exfalso; omega)))|refine sq ?_|refine rg ?_|refine xc ?_|refine nl ?_|refine sk ?_|refine bk ?_|refine xe ?_|refine rt ?_|refine xb ?_
        refine lp (j + 1) (by omega) (by refine Sub.cons rfl rfl (Sub.cons rfl (by rw [meetC_snoc _ _ _ hj2, List.take_length]) ?_); (repeat (refine Sub.cons rfl (by first | rfl | go_num) ?_)); exact Sub.nil)
    · obtain rfl : j = tl.length := by omega
      rw [List.take_length, meetC_eq _ _ hnd]
      repeat' first|(refine wo ?_; first|(refine ao ?_; first|refine aw ?_|refine aw6 ?_|refine oa ?_|refine adiv ?_|refine amod ?_|refine shr1 ?_|refine shr ?_|refine umod ?_|refine isl ?_|refine ipe ?_|refine ipn ?_|refine ibe ?_)|refine acw ?_|refine ucv ?_|refine anw ?_|refine oa ?_|refine ld ?_|refine ldl ?_|refine lnm ?_|refine ixmn ?_|refine ixm ?_|refine li ?_|refine lv ?_|refine ln ?_|refine ixn ?_|refine ix ?_|refine le ?_|refine sr ?_|refine soi ?_|refine scm ?_|refine sclm ?_|refine schm ?_|refine gy ?_|refine gn ?_|refine gnn ?_|refine gu ?_|(refine gsi (fun hB => ?_) (fun hB => ?_) <;> try (exfalso; omega))|(refine gsn (fun hB => ?_) (fun hB => ?_) <;> try (exfalso; omega))|(refine gs (fun hB => ?_) (fun hB => ?_) <;> try (exfalso; omega)))|(refine gc ?_; first|refine ct ?_|refine cf ?_|(refine ci (fun hB => ?_) (fun hB => ?_) <;> try (exfalso; omega))|(refine cn (fun hB => ?_) (fun hB => ?_) <;> try (exfalso; omega))|(refine cb (fun hB => ?_) (fun hB => ?_) <;> try (exfalso; omega)))|refine sq ?_|refine rg ?_|refine xc ?_|refine nl ?_|refine sk ?_|refine bk ?_|refine xe ?_|refine rt ?_|refine xb ?_
      · refine r2 ⟨?_, rfl⟩
        rw [show isStop ls tl = false by
          rw [isStop, Bool.not_eq_false']
          exact List.any_eq_true.2 ⟨L, by rw [← hL, List.getD_eq_getElem?_getD, List.getElem?_eq_getElem hi]; exact List.getElem_mem hi, decide_eq_true hB⟩]
      · refine lp (i + 1) ⟨by omega, fun m hm => ?_⟩
        by_cases e : m = i
        · rw [e, hL]; exact hB
        · exact h2 m (by omega)
  · repeat' first|(refine wo ?_; first|(refine ao ?_; first|refine aw ?_|refine aw6 ?_|refine oa ?_|refine adiv ?_|refine amod ?_|refine shr1 ?_|refine shr ?_|refine umod ?_|refine isl ?_|refine ipe ?_|refine ipn ?_|refine ibe ?_)|refine acw ?_|refine ucv ?_|refine anw ?_|refine oa ?_|refine ld ?_|refine ldl ?_|refine lnm ?_|refine ixmn ?_|refine ixm ?_|refine li ?_|refine lv ?_|refine ln ?_|refine ixn ?_|refine ix ?_|refine le ?_|refine sr ?_|refine soi ?_|refine scm ?_|refine sclm ?_|refine schm ?_|refine gy ?_|refine gn ?_|refine gnn ?_|refine gu ?_|(refine gsi (fun hB => ?_) (fun hB => ?_) <;> try (exfalso; omega))|(refine gsn (fun hB => ?_) (fun hB => ?_) <;> try (exfalso; omega))|(refine gs (fun hB => ?_) (fun hB => ?_) <;> try (exfalso; omega)))|(refine gc ?_; first|refine ct ?_|refine cf ?_|(refine ci (fun hB => ?_) (fun hB => ?_) <;> try (exfalso; omega))|(refine cn (fun hB => ?_) (fun hB => ?_) <;> try (exfalso; omega))|(refine cb (fun hB => ?_) (fun hB => ?_) <;> try (exfalso; omega)))|refine sq ?_|refine rg ?_|refine xc ?_|refine nl ?_|refine sk ?_|refine bk ?_|refine xe ?_|refine rt ?_|refine xb ?_
    refine r2 ⟨?_, rfl⟩
    rw [show isStop ls tl = true by
      rw [isStop, Bool.not_eq_true', List.any_eq_false]
      intro l hl
      obtain ⟨m, hm, rfl⟩ := List.mem_iff_getElem.1 hl
      have := h2 m (by omega)
      simpa [List.getD_eq_getElem?_getD, hm] using this]
end Go.Art
