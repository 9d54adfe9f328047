/- Bytes; symbols: the check. Conditions: none. -/
import Derived.Test.YthgghnaioddkcaaSo
import Derived.Test.YthgghnaioddkcaaWg
set_option linter.unusedSimpArgs false
set_option linter.unusedVariables false
namespace Go.Art
open Go Go.Proofs Go.RowKit
attribute [local irreducible] Fit pt own ro vw mpc lpt vels rels mow lrc dfr
attribute [local irreducible] lmp lme mit velg relg

theorem one_nil : ∀ c ∈ ([] : List Value), c.oneCell' = true := fun _ h => nomatch h
theorem one_cons {c : Value} {l : List Value} (h : c.oneCell' = true) (k : ∀ c ∈ l, c.oneCell' = true) : ∀ x ∈ c :: l, x.oneCell' = true := fun x hx => by
  rcases List.mem_cons.1 hx with rfl | hx
  · exact h
  · exact k x hx
section
variable {P : Program} {E : Env P} {n : Sh} {X : Cx} {s : List K} {fr : Fr} {A A' : List Ch} {ops : Array Oper} {rest : List Oper} {d : Nat} {ty t T : TypeId} {pos : String} {after : Array Edge} {z : Value} {x y : Operand} {b j sz by_ : Nat} {cs vs cs' : List Value}
/-- A struct is stored. -/
theorem srz (k : TO E n X s ops rest fr (pt b cs' T :: A')) (ha : ev fr x = some (.pointer (some ⟨b, j, none⟩)) := by rfl) (hm : Tk (pt b cs T) A A' := by (repeat (first | apply Tk.here | apply Tk.there)); first | done | fail) (hx : ev fr y = some (.agg vs.toArray) := by rfl) (hi : lk E.inf t = some (z, sz, by_) := by rfl) (hl : vs.length = sz := by rfl)
    (h1 : ∀ v ∈ vs, v.oneCell' = true := by (repeat (first | exact one_nil | refine one_cons (by first | rfl | assumption) ?_)); first | done | fail) (hj : j + sz ≤ cs.length := by decide) (hs : cs.take j ++ vs ++ cs.drop (j + sz) = cs' := by rfl) : TO E n X s ops (⟨none, .store t x y, ty, pos, after, none⟩ :: rest) fr A := sra k ha hm hx hi hl h1 hj hs
end
abbrev y8 : Int → Value := .int .u8
abbrev By (l : List Int) : List Value := l.map y8
theorem lpt_has {b : Nat} {cs : List Value} {T : TypeId} : ∀ c ∈ [lpt b cs T], ∀ A : List Ch, c ∈ A → Has A c := fun c hc A h => by
  rw [List.mem_singleton.1 hc] at h ⊢; exact has_lpt h
theorem getD_memL {ls : List (List Int)} {i : Nat} (h : i < ls.length) : ls.getD i [] ∈ ls := by rw [List.getD_eq_getElem?_getD, List.getElem?_eq_getElem h]; exact List.getElem_mem h
theorem BIndexFunc_tr (s : Value) (hs : List Value) (ls : List (List Int)) (f : FuncId) (cap : List Value) (pre : List Ch) (p : List Int → Bool)
    (hp : ∀ c ∈ pre, ∀ A : List Ch, c ∈ A → Has A c) (hf : ∀ h l, l ∈ ls → Tr Try.prog f (h :: cap) (vw h (By l) :: pre) [] fun v D => v = .bool (p l) ∧ D = []) :
    Tr Try.prog 41 [s, .func (.func f) #[] cap.toArray] (vw s hs :: velg y8 hs ls :: pre) [] fun v D => (∃ i : Int, v = I i ∧ (0 ≤ i ↔ ls.any p = true)) ∧ D = [] := by
  refine Tr.enter env _ Try.func41 (by kernel_rfl) rfl Try.ntmps41 rfl (has01 (has01 fun c hc b => ⟨(hp c hc [c] (by simp)).wr b, (hp c hc [c] (by simp)).rd b⟩)) fun w0 => ?_
  refine TC.elg (g := y8) (hs := hs) (ls := ls) (fun hl => ?_)
  refine TC.fact (vw_len (v := s) (xs := hs) (by first | (apply has_vw; (repeat (first | apply List.Mem.head | apply List.Mem.tail)); first | done | fail) | (apply has_own; (repeat (first | apply List.Mem.head | apply List.Mem.tail)); first | done | fail) | (apply has_ro; (repeat (first | apply List.Mem.head | apply List.Mem.tail)); first | done | fail) | apply has_nil | ((with_reducible apply has_el); (focus (first | (apply has_vels; (repeat (first | apply List.Mem.head | apply List.Mem.tail)); first | done | fail) | (apply has_rels; (repeat (first | apply List.Mem.head | apply List.Mem.tail)); first | done | fail))); omega) | (apply has_pt; (repeat (first | apply List.Mem.head | apply List.Mem.tail)); first | done | fail) | (apply has_lpt; (repeat (first | apply List.Mem.head | apply List.Mem.tail)); first | done | fail) | (apply has_vels; (repeat (first | apply List.Mem.head | apply List.Mem.tail)); first | done | fail) | (apply has_rels; (repeat (first | apply List.Mem.head | apply List.Mem.tail)); first | done | fail) | with_reducible assumption | ((with_reducible apply has_elg); (focus (first | (apply has_velg; (repeat (first | apply List.Mem.head | apply List.Mem.tail)); first | done | fail) | (apply has_relg; (repeat (first | apply List.Mem.head | apply List.Mem.tail)); first | done | fail))); omega) | (apply has_velg; (repeat (first | apply List.Mem.head | apply List.Mem.tail)); first | done | fail) | (apply has_relg; (repeat (first | apply List.Mem.head | apply List.Mem.tail)); first | done | fail))) fun hlen => ?_
  repeat' first|(refine wo ?_; first|(refine ao ?_; first|refine aw ?_|refine aw6 ?_|refine oa ?_|refine adiv ?_|refine amod ?_|refine shr1 ?_|refine shr ?_|refine umod ?_|refine isl ?_|refine ipe ?_|refine ipn ?_|refine ibe ?_)|refine acw ?_|refine ucv ?_|refine anw ?_|refine oa ?_|refine ld ?_|refine ldl ?_|refine lnm ?_|refine ixmn ?_|refine ixm ?_|refine li ?_|refine lv ?_|refine ln ?_|refine ixn ?_|refine ix ?_|refine le ?_|refine sr ?_|refine soi ?_|refine scm ?_|refine sclm ?_|refine schm ?_|refine gy ?_|refine gn ?_|refine gnn ?_|refine gu ?_|(refine gsi (fun hB => ?_) (fun hB => ?_) <;> try (exfalso; omega))|(refine gsn (fun hB => ?_) (fun hB => ?_) <;> try (exfalso; omega))|(refine gs (fun hB => ?_) (fun hB => ?_) <;> try (exfalso; omega)))|(refine gc ?_; first|refine ct ?_|refine cf ?_|(refine ci (fun hB => ?_) (fun hB => ?_) <;> try (exfalso; omega))|(refine cn (fun hB => ?_) (fun hB => ?_) <;> try (exfalso; omega))|(refine cb (fun hB => ?_) (fun hB => ?_) <;> try (exfalso; omega)))|refine sq ?_|refine rg ?_|refine xc ?_|refine nl ?_|refine sk ?_|refine bk ?_|refine xe ?_|refine rt ?_|refine xb ?_
  refine TC.loop (ι := Nat) (fun i => [(8, I i)]) (fun _ => []) (fun i => i ≤ ls.length ∧ ∀ j, j < i → p (ls.getD j []) = false) (fun i => ls.length - i) 0 [0, 1, 6, 7] ⟨by omega, by omega⟩ ?_
  rintro i ⟨h1, h2⟩
  by_cases hi : i < ls.length
  · have hmem : ls.getD i [] ∈ ls := by rw [List.getD_eq_getElem?_getD, List.getElem?_eq_getElem hi]; exact List.getElem_mem hi
    repeat' first|(refine cav (vs := [hs.getD i nS]) (cap := cap.toArray) (hf _ _ hmem) ?_ rfl rfl Fit.nil (has1 (has_elg (has_velg (by simp)) hi) (fun c hc => hp c hc _ (by simp [hc]))) rfl; rintro _ _ ⟨rfl, rfl⟩)|(refine wo ?_; first|(refine ao ?_; first|refine aw ?_|refine aw6 ?_|refine oa ?_|refine adiv ?_|refine amod ?_|refine shr1 ?_|refine shr ?_|refine umod ?_|refine isl ?_|refine ipe ?_|refine ipn ?_|refine ibe ?_)|refine acw ?_|refine ucv ?_|refine anw ?_|refine oa ?_|refine ld ?_|refine ldl ?_|refine lnm ?_|refine ixmn ?_|refine ixm ?_|refine li ?_|refine lv ?_|refine ln ?_|refine ixn ?_|refine ix ?_|refine le ?_|refine sr ?_|refine soi ?_|refine scm ?_|refine sclm ?_|refine schm ?_|refine gy ?_|refine gn ?_|refine gnn ?_|refine gu ?_|(refine gsi (fun hB => ?_) (fun hB => ?_) <;> try (exfalso; omega))|(refine gsn (fun hB => ?_) (fun hB => ?_) <;> try (exfalso; omega))|(refine gs (fun hB => ?_) (fun hB => ?_) <;> try (exfalso; omega)))|(refine gc ?_; first|refine ct ?_|refine cf ?_|(refine ci (fun hB => ?_) (fun hB => ?_) <;> try (exfalso; omega))|(refine cn (fun hB => ?_) (fun hB => ?_) <;> try (exfalso; omega))|(refine cb (fun hB => ?_) (fun hB => ?_) <;> try (exfalso; omega)))|refine sq ?_|refine rg ?_|refine xc ?_|refine nl ?_|refine sk ?_|refine bk ?_|refine xe ?_|refine rt ?_|refine xb ?_
    · exact r1 ⟨⟨i, rfl, fun _ => List.any_eq_true.2 ⟨_, hmem, hB⟩, fun _ => by omega⟩, rfl⟩
    · refine lp (i + 1) ⟨by omega, fun j hj => ?_⟩
      by_cases e : j = i
      · rw [e]; exact hB
      · exact h2 j (by omega)
  · repeat' first|(refine wo ?_; first|(refine ao ?_; first|refine aw ?_|refine aw6 ?_|refine oa ?_|refine adiv ?_|refine amod ?_|refine shr1 ?_|refine shr ?_|refine umod ?_|refine isl ?_|refine ipe ?_|refine ipn ?_|refine ibe ?_)|refine acw ?_|refine ucv ?_|refine anw ?_|refine oa ?_|refine ld ?_|refine ldl ?_|refine lnm ?_|refine ixmn ?_|refine ixm ?_|refine li ?_|refine lv ?_|refine ln ?_|refine ixn ?_|refine ix ?_|refine le ?_|refine sr ?_|refine soi ?_|refine scm ?_|refine sclm ?_|refine schm ?_|refine gy ?_|refine gn ?_|refine gnn ?_|refine gu ?_|(refine gsi (fun hB => ?_) (fun hB => ?_) <;> try (exfalso; omega))|(refine gsn (fun hB => ?_) (fun hB => ?_) <;> try (exfalso; omega))|(refine gs (fun hB => ?_) (fun hB => ?_) <;> try (exfalso; omega)))|(refine gc ?_; first|refine ct ?_|refine cf ?_|(refine ci (fun hB => ?_) (fun hB => ?_) <;> try (exfalso; omega))|(refine cn (fun hB => ?_) (fun hB => ?_) <;> try (exfalso; omega))|(refine cb (fun hB => ?_) (fun hB => ?_) <;> try (exfalso; omega)))|refine sq ?_|refine rg ?_|refine xc ?_|refine nl ?_|refine sk ?_|refine bk ?_|refine xe ?_|refine rt ?_|refine xb ?_
    refine r1 ⟨⟨-1, rfl, by omega, fun h => ?_⟩, rfl⟩
    obtain ⟨l, hl1, hl2⟩ := List.any_eq_true.1 h
    obtain ⟨j, hj, rfl⟩ := List.mem_iff_getElem.1 hl1
    have := h2 j (by omega)
    simp [List.getD_eq_getElem?_getD, hj, hl2] at this
theorem BContainsFunc_tr (s : Value) (hs : List Value) (ls : List (List Int)) (f : FuncId) (cap : List Value) (pre : List Ch) (p : List Int → Bool)
    (hp : ∀ c ∈ pre, ∀ A : List Ch, c ∈ A → Has A c) (hf : ∀ h l, l ∈ ls → Tr Try.prog f (h :: cap) (vw h (By l) :: pre) [] fun v D => v = .bool (p l) ∧ D = []) :
    Tr Try.prog 32 [s, .func (.func f) #[] cap.toArray] (vw s hs :: velg y8 hs ls :: pre) [] fun v D => v = .bool (ls.any p) ∧ D = [] := by
  refine Tr.enter env _ Try.func32 (by kernel_rfl) rfl Try.ntmps32 rfl (has01 (has01 fun c hc b => ⟨(hp c hc [c] (by simp)).wr b, (hp c hc [c] (by simp)).rd b⟩)) fun w0 => ?_
  repeat' first|(refine gca ?_; first|(refine ca (vs := [s, .func (.func f) #[] cap.toArray]) (BIndexFunc_tr s hs ls f cap pre p hp hf) ?_ rfl Fit.nil (has1 (has_vw (by simp)) (has1 (has_velg (by simp)) (fun c hc => hp c hc _ (by simp [hc])))) rfl; rintro _ _ ⟨⟨i, rfl, hi⟩, rfl⟩))|(refine wo ?_; first|(refine ao ?_; first|refine aw ?_|refine aw6 ?_|refine oa ?_|refine adiv ?_|refine amod ?_|refine shr1 ?_|refine shr ?_|refine umod ?_|refine isl ?_|refine ipe ?_|refine ipn ?_|refine ibe ?_)|refine acw ?_|refine ucv ?_|refine anw ?_|refine oa ?_|refine ld ?_|refine ldl ?_|refine lnm ?_|refine ixmn ?_|refine ixm ?_|refine li ?_|refine lv ?_|refine ln ?_|refine ixn ?_|refine ix ?_|refine le ?_|refine sr ?_|refine soi ?_|refine scm ?_|refine sclm ?_|refine schm ?_|refine gy ?_|refine gn ?_|refine gnn ?_|refine gu ?_|(refine gsi (fun hB => ?_) (fun hB => ?_) <;> try (exfalso; omega))|(refine gsn (fun hB => ?_) (fun hB => ?_) <;> try (exfalso; omega))|(refine gs (fun hB => ?_) (fun hB => ?_) <;> try (exfalso; omega)))|(refine gc ?_; first|refine ct ?_|refine cf ?_|(refine ci (fun hB => ?_) (fun hB => ?_) <;> try (exfalso; omega))|(refine cn (fun hB => ?_) (fun hB => ?_) <;> try (exfalso; omega))|(refine cb (fun hB => ?_) (fun hB => ?_) <;> try (exfalso; omega)))|refine sq ?_|refine rg ?_|refine xc ?_|refine nl ?_|refine sk ?_|refine bk ?_|refine xe ?_|refine rt ?_|refine xb ?_
  refine r1 ⟨?_, rfl⟩
  congr 1; rw [Bool.eq_iff_iff, decide_eq_true_iff]; exact hi


/-- Why some are no symbols. -/
def blkE (ls : List (List Int)) : Int := if ls.length < 1 ∨ 65536 < ls.length ∨ (ls.getD 0 []).length < 1 ∨ 65535 < (ls.getD 0 []).length then 2 else if ls.any (fun l => decide ((l.length : Int) ≠ ((ls.getD 0 []).length : Int))) then 2 else 0
theorem blkE_zero {ls : List (List Int)} (h : blkE ls = 0) : (1 ≤ ls.length ∧ ls.length ≤ 65536) ∧ (1 ≤ (ls.getD 0 []).length ∧ (ls.getD 0 []).length ≤ 65535) ∧ ∀ l ∈ ls, l.length = (ls.getD 0 []).length := by
  unfold blkE at h
  split at h
  · cases h
  · split at h
    · cases h
    · rename_i h1 h2
      refine ⟨by omega, by omega, fun l hl => Classical.byContradiction fun hn => h2 (List.any_eq_true.2 ⟨l, hl, decide_eq_true (by omega)⟩)⟩
theorem may_tr (k s : Int) : Tr Try.prog 31 [.agg #[I k, I s]] [] [] fun v D => v = .bool (decide ((1 ≤ k ∧ k ≤ 65536) ∧ 1 ≤ s ∧ s ≤ 65535)) ∧ D = [] := by
  refine Tr.enter env _ Try.func31 (by kernel_rfl) rfl Try.ntmps31 rfl (by repeat (first | exact has00 | refine has01 ?_)) fun w0 => ?_
  repeat' first|refine bx fun b => ?_|(refine wo ?_; first|(refine ao ?_; first|refine aw ?_|refine aw6 ?_|refine oa ?_|refine adiv ?_|refine amod ?_|refine shr1 ?_|refine shr ?_|refine umod ?_|refine isl ?_|refine ipe ?_|refine ipn ?_|refine ibe ?_)|refine acw ?_|refine ucv ?_|refine anw ?_|refine oa ?_|refine ld ?_|refine ldl ?_|refine lnm ?_|refine ixmn ?_|refine ixm ?_|refine li ?_|refine lv ?_|refine ln ?_|refine ixn ?_|refine ix ?_|refine le ?_|refine sr ?_|refine soi ?_|refine scm ?_|refine sclm ?_|refine schm ?_|refine gy ?_|refine gn ?_|refine gnn ?_|refine gu ?_|(refine gsi (fun hB => ?_) (fun hB => ?_) <;> try (exfalso; omega))|(refine gsn (fun hB => ?_) (fun hB => ?_) <;> try (exfalso; omega))|(refine gs (fun hB => ?_) (fun hB => ?_) <;> try (exfalso; omega)))|(refine gc ?_; first|refine ct ?_|refine cf ?_|(refine ci (fun hB => ?_) (fun hB => ?_) <;> try (exfalso; omega))|(refine cn (fun hB => ?_) (fun hB => ?_) <;> try (exfalso; omega))|(refine cb (fun hB => ?_) (fun hB => ?_) <;> try (exfalso; omega)))|refine sq ?_|refine rg ?_|refine xc ?_|refine nl ?_|refine sk ?_|refine bk ?_|refine xe ?_|refine rt ?_|refine xb ?_
  all_goals refine r1 ⟨?_, rfl⟩
  all_goals first
    | rw [decide_eq_false (by omega)]
    | (congr 1; exact decide_eq_decide.2 ⟨fun h => by omega, fun h => by omega⟩)
theorem Check1_tr (b : Nat) (k s : Int) (h : Value) (l : List Int) : Tr Try.prog 33 [h, ptr b] [vw h (By l), lpt b [I k, I s] 68] [] fun v D => v = .bool (decide ((l.length : Int) ≠ s)) ∧ D = [] := by
  refine Tr.enter env _ Try.func33 (by kernel_rfl) rfl Try.ntmps33 rfl (by repeat (first | exact has00 | refine has01 ?_)) fun w0 => ?_
  repeat' first|(refine wo ?_; first|(refine ao ?_; first|refine aw ?_|refine aw6 ?_|refine oa ?_|refine adiv ?_|refine amod ?_|refine shr1 ?_|refine shr ?_|refine umod ?_|refine isl ?_|refine ipe ?_|refine ipn ?_|refine ibe ?_)|refine acw ?_|refine ucv ?_|refine anw ?_|refine oa ?_|refine ld ?_|refine ldl ?_|refine lnm ?_|refine ixmn ?_|refine ixm ?_|refine li ?_|refine lv ?_|refine ln ?_|refine ixn ?_|refine ix ?_|refine le ?_|refine sr ?_|refine soi ?_|refine scm ?_|refine sclm ?_|refine schm ?_|refine gy ?_|refine gn ?_|refine gnn ?_|refine gu ?_|(refine gsi (fun hB => ?_) (fun hB => ?_) <;> try (exfalso; omega))|(refine gsn (fun hB => ?_) (fun hB => ?_) <;> try (exfalso; omega))|(refine gs (fun hB => ?_) (fun hB => ?_) <;> try (exfalso; omega)))|(refine gc ?_; first|refine ct ?_|refine cf ?_|(refine ci (fun hB => ?_) (fun hB => ?_) <;> try (exfalso; omega))|(refine cn (fun hB => ?_) (fun hB => ?_) <;> try (exfalso; omega))|(refine cb (fun hB => ?_) (fun hB => ?_) <;> try (exfalso; omega)))|refine sq ?_|refine rg ?_|refine xc ?_|refine nl ?_|refine sk ?_|refine bk ?_|refine xe ?_|refine rt ?_|refine xb ?_
  refine r1 ⟨?_, rfl⟩
  congr 1; simp
theorem BCheck_tr (s : Value) (hs : List Value) (ls : List (List Int)) : Tr Try.prog 23 [s] [vw s hs, velg y8 hs ls] [] fun v D => v = I (blkE ls) ∧ D = [] := by
  refine Tr.enter env _ Try.func23 (by kernel_rfl) rfl Try.ntmps23 rfl (by repeat (first | exact has00 | refine has01 ?_)) fun w0 => ?_
  refine TC.elg (g := y8) (hs := hs) (ls := ls) (fun hl => ?_) (hh := has_velg (by (repeat (first | apply List.Mem.head | apply List.Mem.tail)); first | done | fail))
  repeat' first|(refine gca ?_; first|(refine ca (may_tr _ _) ?_; rintro _ _ ⟨rfl, rfl⟩)|(refine ca (BContainsFunc_tr s hs ls _ [ptr b] [lpt b [I hs.length, I (ls.getD 0 []).length] 68] (fun l => decide ((l.length : Int) ≠ (ls.getD 0 []).length)) lpt_has (fun h l _ => Check1_tr b _ _ h l)) ?_; rintro _ _ ⟨rfl, rfl⟩))|refine bdz ?_|refine al fun b => ?_|refine srz ?_|refine lda ?_|(refine wo ?_; first|(refine ao ?_; first|refine aw ?_|refine aw6 ?_|refine oa ?_|refine adiv ?_|refine amod ?_|refine shr1 ?_|refine shr ?_|refine umod ?_|refine isl ?_|refine ipe ?_|refine ipn ?_|refine ibe ?_)|refine acw ?_|refine ucv ?_|refine anw ?_|refine oa ?_|refine ld ?_|refine ldl ?_|refine lnm ?_|refine ixmn ?_|refine ixm ?_|refine li ?_|refine lv ?_|refine ln ?_|refine ixn ?_|refine ix ?_|refine le ?_|refine sr ?_|refine soi ?_|refine scm ?_|refine sclm ?_|refine schm ?_|refine gy ?_|refine gn ?_|refine gnn ?_|refine gu ?_|(refine gsi (fun hB => ?_) (fun hB => ?_) <;> try (exfalso; omega))|(refine gsn (fun hB => ?_) (fun hB => ?_) <;> try (exfalso; omega))|(refine gs (fun hB => ?_) (fun hB => ?_) <;> try (exfalso; omega)))|(refine gc ?_; first|refine ct ?_|refine cf ?_|(refine ci (fun hB => ?_) (fun hB => ?_) <;> try (exfalso; omega))|(refine cn (fun hB => ?_) (fun hB => ?_) <;> try (exfalso; omega))|(refine cb (fun hB => ?_) (fun hB => ?_) <;> try (exfalso; omega)))|refine sq ?_|refine rg ?_|refine xc ?_|refine nl ?_|refine sk ?_|refine bk ?_|refine xe ?_|refine rt ?_|refine xb ?_
  · exact r1 ⟨by rw [blkE, if_pos (by omega)], rfl⟩
  · change ¬((1 ≤ (hs.length : Int) ∧ (hs.length : Int) ≤ 65536) ∧ 1 ≤ ((ls.getD 0 []).length : Int) ∧ ((ls.getD 0 []).length : Int) ≤ 65535) at hB
    exact r1 ⟨by rw [blkE, if_pos (by omega)], rfl⟩
  all_goals have hsz : ((1 ≤ (hs.length : Int) ∧ (hs.length : Int) ≤ 65536) ∧ 1 ≤ ((ls.getD 0 []).length : Int) ∧ ((ls.getD 0 []).length : Int) ≤ 65535) := by assumption
  · exact r1 ⟨by rw [blkE, if_neg (by omega), if_pos hB], rfl⟩
  · exact r1 ⟨by rw [blkE, if_neg (by omega), if_neg (by rw [hB]; decide)], rfl⟩
end Go.Art
