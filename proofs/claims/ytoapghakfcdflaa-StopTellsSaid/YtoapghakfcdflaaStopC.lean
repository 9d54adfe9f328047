/- Stopping sets: the program's and the reference's. Conditions: none. -/
import Derived.Test.YtoapghakfcdflaaStopB
set_option linter.unusedSimpArgs false
set_option linter.unusedVariables false
namespace Go.Art
open Go Go.Proofs Go.RowKit
attribute [local irreducible] Fit pt own ro vw mpc lpt vels rels mow lrc dfr

def stopE (k : Int) (ls : List (List Int)) : Int := if k < 1 ∨ 65536 < k then 3 else if ls.any (fun l => !isSet k l) then 2 else 0

theorem refuses1_tr (k : Int) (b : Nat) (h : Value) (l : List Int) : Tr Try.prog 83 [h, ptr b] [vw h (Is l), lpt b [I k] 3] [] fun v D => v = .bool (!isSet k l) ∧ D = [] := by
  refine Tr.enter env _ Try.func83 (by kernel_rfl) rfl Try.ntmps83 rfl (by repeat (first | exact has00 | refine has01 ?_)) fun w0 => ?_
  repeat' first|(refine gca ?_; first|(refine ca (fine_tr _ _ _) ?_; rintro _ _ ⟨rfl, rfl⟩))|(refine wo ?_; first|(refine ao ?_; first|refine aw ?_|refine aw6 ?_|refine oa ?_|refine adiv ?_|refine amod ?_|refine shr1 ?_|refine shr ?_|refine umod ?_|refine isl ?_|refine ipe ?_|refine ipn ?_|refine ibe ?_)|refine acw ?_|refine ucv ?_|refine anw ?_|refine oa ?_|refine ld ?_|refine ldl ?_|refine lnm ?_|refine ixmn ?_|refine ixm ?_|refine li ?_|refine lv ?_|refine ln ?_|refine ixn ?_|refine ix ?_|refine le ?_|refine sr ?_|refine soi ?_|refine scm ?_|refine sclm ?_|refine schm ?_|refine gy ?_|refine gn ?_|refine gnn ?_|refine gu ?_|(refine gsi (fun hB => ?_) (fun hB => ?_) <;> try (exfalso; omega))|(refine gsn (fun hB => ?_) (fun hB => ?_) <;> try (exfalso; omega))|(refine gs (fun hB => ?_) (fun hB => ?_) <;> try (exfalso; omega)))|(refine gc ?_; first|refine ct ?_|refine cf ?_|(refine ci (fun hB => ?_) (fun hB => ?_) <;> try (exfalso; omega))|(refine cn (fun hB => ?_) (fun hB => ?_) <;> try (exfalso; omega))|(refine cb (fun hB => ?_) (fun hB => ?_) <;> try (exfalso; omega)))|refine sq ?_|refine rg ?_|refine xc ?_|refine nl ?_|refine sk ?_|refine bk ?_|refine xe ?_|refine rt ?_|refine xb ?_
  exact r1 ⟨rfl, rfl⟩
theorem lpt_has {b : Nat} {cs : List Value} {T : TypeId} : ∀ c ∈ [lpt b cs T], ∀ A : List Ch, c ∈ A → Has A c := fun c hc A h => by
  obtain rfl : c = lpt b cs T := by simpa using hc
  exact has_lpt h
theorem refuses_tr (k : Int) (s : Value) (hs : List Value) (ls : List (List Int)) : Tr Try.prog 69 [I k, s] [vw s hs, vels hs ls] [] fun v D => v = I (stopE k ls) ∧ D = [] := by
  refine Tr.enter env _ Try.func69 (by kernel_rfl) rfl Try.ntmps69 rfl (by repeat (first | exact has00 | refine has01 ?_)) fun w0 => ?_
  repeat' first|(refine gca ?_; first|(refine ca (ContainsFunc_tr s hs ls _ [ptr b] [lpt b [I k] 3] (fun l => !isSet k l) lpt_has (fun h l _ => refuses1_tr k b h l)) ?_; rintro _ _ ⟨rfl, rfl⟩))|refine bx1 fun b => ?_|(refine wo ?_; first|(refine ao ?_; first|refine aw ?_|refine aw6 ?_|refine oa ?_|refine adiv ?_|refine amod ?_|refine shr1 ?_|refine shr ?_|refine umod ?_|refine isl ?_|refine ipe ?_|refine ipn ?_|refine ibe ?_)|refine acw ?_|refine ucv ?_|refine anw ?_|refine oa ?_|refine ld ?_|refine ldl ?_|refine lnm ?_|refine ixmn ?_|refine ixm ?_|refine li ?_|refine lv ?_|refine ln ?_|refine ixn ?_|refine ix ?_|refine le ?_|refine sr ?_|refine soi ?_|refine scm ?_|refine sclm ?_|refine schm ?_|refine gy ?_|refine gn ?_|refine gnn ?_|refine gu ?_|(refine gsi (fun hB => ?_) (fun hB => ?_) <;> try (exfalso; omega))|(refine gsn (fun hB => ?_) (fun hB => ?_) <;> try (exfalso; omega))|(refine gs (fun hB => ?_) (fun hB => ?_) <;> try (exfalso; omega)))|(refine gc ?_; first|refine ct ?_|refine cf ?_|(refine ci (fun hB => ?_) (fun hB => ?_) <;> try (exfalso; omega))|(refine cn (fun hB => ?_) (fun hB => ?_) <;> try (exfalso; omega))|(refine cb (fun hB => ?_) (fun hB => ?_) <;> try (exfalso; omega)))|refine sq ?_|refine rg ?_|refine xc ?_|refine nl ?_|refine sk ?_|refine bk ?_|refine xe ?_|refine rt ?_|refine xb ?_
  · exact r1 ⟨by rw [stopE, if_pos (.inl hB)], rfl⟩
  · exact r1 ⟨by rw [stopE, if_pos (.inr hB)], rfl⟩
  · exact r1 ⟨by rw [stopE, if_neg (by omega), if_pos hB], rfl⟩
  · exact r1 ⟨by rw [stopE, if_neg (by omega), if_neg (by rw [hB]; decide)], rfl⟩
theorem rrefuses_tr (k : Int) (s : Value) (hs : List Value) (ls : List (List Int)) : Tr Try.prog 78 [I k, s] [vw s hs, vels hs ls] [] fun v D => v = I (stopE k ls) ∧ D = [] := by
  refine Tr.enter env _ Try.func78 (by kernel_rfl) rfl Try.ntmps78 rfl (by repeat (first | exact has00 | refine has01 ?_)) fun w0 => ?_
  refine TC.els (hs := hs) (ls := ls) (fun hl => ?_)
  refine TC.fact (vw_len (v := s) (xs := hs) (by first | (apply has_vw; (repeat (first | apply List.Mem.head | apply List.Mem.tail)); first | done | fail) | (apply has_own; (repeat (first | apply List.Mem.head | apply List.Mem.tail)); first | done | fail) | (apply has_ro; (repeat (first | apply List.Mem.head | apply List.Mem.tail)); first | done | fail) | apply has_nil | ((with_reducible apply has_el); (focus (first | (apply has_vels; (repeat (first | apply List.Mem.head | apply List.Mem.tail)); first | done | fail) | (apply has_rels; (repeat (first | apply List.Mem.head | apply List.Mem.tail)); first | done | fail))); omega) | (apply has_pt; (repeat (first | apply List.Mem.head | apply List.Mem.tail)); first | done | fail) | (apply has_lpt; (repeat (first | apply List.Mem.head | apply List.Mem.tail)); first | done | fail) | (apply has_vels; (repeat (first | apply List.Mem.head | apply List.Mem.tail)); first | done | fail) | (apply has_rels; (repeat (first | apply List.Mem.head | apply List.Mem.tail)); first | done | fail) | with_reducible assumption)) fun hlen => ?_
  repeat' first|(refine wo ?_; first|(refine ao ?_; first|refine aw ?_|refine aw6 ?_|refine oa ?_|refine adiv ?_|refine amod ?_|refine shr1 ?_|refine shr ?_|refine umod ?_|refine isl ?_|refine ipe ?_|refine ipn ?_|refine ibe ?_)|refine acw ?_|refine ucv ?_|refine anw ?_|refine oa ?_|refine ld ?_|refine ldl ?_|refine lnm ?_|refine ixmn ?_|refine ixm ?_|refine li ?_|refine lv ?_|refine ln ?_|refine ixn ?_|refine ix ?_|refine le ?_|refine sr ?_|refine soi ?_|refine scm ?_|refine sclm ?_|refine schm ?_|refine gy ?_|refine gn ?_|refine gnn ?_|refine gu ?_|(refine gsi (fun hB => ?_) (fun hB => ?_) <;> try (exfalso; omega))|(refine gsn (fun hB => ?_) (fun hB => ?_) <;> try (exfalso; omega))|(refine gs (fun hB => ?_) (fun hB => ?_) <;> try (exfalso; omega)))|(refine gc ?_; first|refine ct ?_|refine cf ?_|(refine ci (fun hB => ?_) (fun hB => ?_) <;> try (exfalso; omega))|(refine cn (fun hB => ?_) (fun hB => ?_) <;> try (exfalso; omega))|(refine cb (fun hB => ?_) (fun hB => ?_) <;> try (exfalso; omega)))|refine sq ?_|refine rg ?_|refine xc ?_|refine nl ?_|refine sk ?_|refine bk ?_|refine xe ?_|refine rt ?_|refine xb ?_
  · exact r1 ⟨by rw [stopE, if_pos (.inl hB)], rfl⟩
  · exact r1 ⟨by rw [stopE, if_pos (.inr hB)], rfl⟩
  · refine TC.loop (ι := Nat) (fun i => [(5, I i)]) (fun _ => []) (fun i => i ≤ ls.length ∧ ∀ j, j < i → isSet k (ls.getD j []) = true) (fun i => ls.length - i) 0 [0, 1] ⟨by omega, by omega⟩ ?_
    rintro i ⟨h1, h2⟩
    by_cases hi : i < ls.length
    · repeat' first|(refine gca ?_; first|(refine ca (Set20_tr _ _ (ls.getD i [])) ?_; rintro _ _ ⟨rfl, rfl⟩))|(refine wo ?_; first|(refine ao ?_; first|refine aw ?_|refine aw6 ?_|refine oa ?_|refine adiv ?_|refine amod ?_|refine shr1 ?_|refine shr ?_|refine umod ?_|refine isl ?_|refine ipe ?_|refine ipn ?_|refine ibe ?_)|refine acw ?_|refine ucv ?_|refine anw ?_|refine oa ?_|refine ld ?_|refine ldl ?_|refine lnm ?_|refine ixmn ?_|refine ixm ?_|refine li ?_|refine lv ?_|refine ln ?_|refine ixn ?_|refine ix ?_|refine le ?_|refine sr ?_|refine soi ?_|refine scm ?_|refine sclm ?_|refine schm ?_|refine gy ?_|refine gn ?_|refine gnn ?_|refine gu ?_|(refine gsi (fun hB => ?_) (fun hB => ?_) <;> try (exfalso; omega))|(refine gsn (fun hB => ?_) (fun hB => ?_) <;> try (exfalso; omega))|(refine gs (fun hB => ?_) (fun hB => ?_) <;> try (exfalso; omega)))|(refine gc ?_; first|refine ct ?_|refine cf ?_|(refine ci (fun hB => ?_) (fun hB => ?_) <;> try (exfalso; omega))|(refine cn (fun hB => ?_) (fun hB => ?_) <;> try (exfalso; omega))|(refine cb (fun hB => ?_) (fun hB => ?_) <;> try (exfalso; omega)))|refine sq ?_|refine rg ?_|refine xc ?_|refine nl ?_|refine sk ?_|refine bk ?_|refine xe ?_|refine rt ?_|refine xb ?_
      · refine r1 ⟨?_, rfl⟩
        rw [stopE, if_neg (by omega), if_pos]
        refine List.any_eq_true.2 ⟨ls.getD i [], ?_, hB⟩
        rw [List.getD_eq_getElem?_getD, List.getElem?_eq_getElem hi]; exact List.getElem_mem hi
      · refine lp (i + 1) ⟨by omega, fun j hj => ?_⟩
        by_cases e : j = i
        · rw [e]; simpa using hB
        · exact h2 j (by omega)
    · repeat' first|(refine wo ?_; first|(refine ao ?_; first|refine aw ?_|refine aw6 ?_|refine oa ?_|refine adiv ?_|refine amod ?_|refine shr1 ?_|refine shr ?_|refine umod ?_|refine isl ?_|refine ipe ?_|refine ipn ?_|refine ibe ?_)|refine acw ?_|refine ucv ?_|refine anw ?_|refine oa ?_|refine ld ?_|refine ldl ?_|refine lnm ?_|refine ixmn ?_|refine ixm ?_|refine li ?_|refine lv ?_|refine ln ?_|refine ixn ?_|refine ix ?_|refine le ?_|refine sr ?_|refine soi ?_|refine scm ?_|refine sclm ?_|refine schm ?_|refine gy ?_|refine gn ?_|refine gnn ?_|refine gu ?_|(refine gsi (fun hB => ?_) (fun hB => ?_) <;> try (exfalso; omega))|(refine gsn (fun hB => ?_) (fun hB => ?_) <;> try (exfalso; omega))|(refine gs (fun hB => ?_) (fun hB => ?_) <;> try (exfalso; omega)))|(refine gc ?_; first|refine ct ?_|refine cf ?_|(refine ci (fun hB => ?_) (fun hB => ?_) <;> try (exfalso; omega))|(refine cn (fun hB => ?_) (fun hB => ?_) <;> try (exfalso; omega))|(refine cb (fun hB => ?_) (fun hB => ?_) <;> try (exfalso; omega)))|refine sq ?_|refine rg ?_|refine xc ?_|refine nl ?_|refine sk ?_|refine bk ?_|refine xe ?_|refine rt ?_|refine xb ?_
      refine r1 ⟨?_, rfl⟩
      rw [stopE, if_neg (by omega), if_neg]
      intro h
      obtain ⟨l, hl1, hl2⟩ := List.any_eq_true.1 h
      obtain ⟨j, hj, rfl⟩ := List.mem_iff_getElem.1 hl1
      have := h2 j (by omega)
      simp [List.getD_eq_getElem?_getD, hj] at this
      simp [this] at hl2

/-! ### Stopping sets -/
theorem upFrom_sorted {k : Int} : ∀ {l : List Int} {a : Int}, upFrom k a l = true → (∀ i, i < l.length → a < l.getD i 0 ∧ l.getD i 0 < k) ∧ ∀ i j, i < j → j < l.length → l.getD i 0 < l.getD j 0
  | [], _, _ => ⟨fun i h => by simp at h, fun i j _ h => by simp at h⟩
  | x :: r, a, h => by
    simp only [upFrom, Bool.and_eq_true, decide_eq_true_eq] at h
    obtain ⟨h1, h2⟩ := upFrom_sorted h.2.2
    constructor
    · intro i hi
      cases i with
      | zero => exact ⟨h.1, h.2.1⟩
      | succ i => have := h1 i (by simpa using hi); simp only [List.getD_cons_succ]; omega
    · intro i j hij hj
      cases j with
      | zero => omega
      | succ j =>
        cases i with
        | zero => have := h1 j (by simpa using hj); simp only [List.getD_cons_succ, List.getD_cons_zero]; omega
        | succ i => simp only [List.getD_cons_succ]; exact h2 i j (by omega) (by simpa using hj)
theorem upFrom_len {k : Int} : ∀ {l : List Int} {a : Int}, upFrom k a l = true → (l.length : Int) ≤ k - 1 - a ∨ l = []
  | [], _, _ => .inr rfl
  | x :: r, a, h => by
    simp only [upFrom, Bool.and_eq_true, decide_eq_true_eq] at h
    rcases upFrom_len h.2.2 with h1 | h1
    · left; simp only [List.length_cons]; omega
    · subst h1; left; simp only [List.length_cons, List.length_nil]; omega
theorem isSet_sorted {k : Int} {l : List Int} (h : isSet k l = true) : (∀ i, i < l.length → 0 ≤ l.getD i 0 ∧ l.getD i 0 < k) ∧ ∀ i j, i < j → j < l.length → l.getD i 0 < l.getD j 0 := by
  simp only [isSet, Bool.and_eq_true] at h
  have := upFrom_sorted h.1
  exact ⟨fun i hi => by have := this.1 i hi; omega, this.2⟩
theorem isSet_len {k : Int} {l : List Int} (h : isSet k l = true) : (l.length : Int) ≤ k := by
  simp only [isSet, Bool.and_eq_true, decide_eq_true_eq] at h
  rcases upFrom_len h.1 with h1 | h1
  · omega
  · subst h1; simp at h

/-- No set has just one symbol in common with t. -/
def isStop (ls : List (List Int)) (t : List Int) : Bool := !ls.any fun l => decide ((meetN l t : Int) = 1)
def stopping (k : Int) (ls : List (List Int)) (t : List Int) : Bool × Int := if stopE k ls ≠ 0 then (false, stopE k ls) else if isSet k t = false then (false, 2) else (isStop ls t, 0)

theorem Stopping1_tr (b : Nat) (h t : Value) (l tl : List Int) (hs : ∀ i j, i < j → j < tl.length → tl.getD i 0 < tl.getD j 0) (hlen : tl.length ≤ 4611686018427387903) :
    Tr Try.prog 72 [h, ptr b] [vw h (Is l), lpt b [t] 22, vw t (Is tl)] [] fun v D => v = .bool (decide ((meetN l tl : Int) = 1)) ∧ D = [] := by
  refine Tr.enter env _ Try.func72 (by kernel_rfl) rfl Try.ntmps72 rfl (by repeat (first | exact has00 | refine has01 ?_)) fun w0 => ?_
  repeat' first|(refine gca ?_; first|(refine ca (meets_tr _ _ l tl hs hlen) ?_; rintro _ _ ⟨rfl, rfl⟩))|(refine wo ?_; first|(refine ao ?_; first|refine aw ?_|refine aw6 ?_|refine oa ?_|refine adiv ?_|refine amod ?_|refine shr1 ?_|refine shr ?_|refine umod ?_|refine isl ?_|refine ipe ?_|refine ipn ?_|refine ibe ?_)|refine acw ?_|refine ucv ?_|refine anw ?_|refine oa ?_|refine ld ?_|refine ldl ?_|refine lnm ?_|refine ixmn ?_|refine ixm ?_|refine li ?_|refine lv ?_|refine ln ?_|refine ixn ?_|refine ix ?_|refine le ?_|refine sr ?_|refine soi ?_|refine scm ?_|refine sclm ?_|refine schm ?_|refine gy ?_|refine gn ?_|refine gnn ?_|refine gu ?_|(refine gsi (fun hB => ?_) (fun hB => ?_) <;> try (exfalso; omega))|(refine gsn (fun hB => ?_) (fun hB => ?_) <;> try (exfalso; omega))|(refine gs (fun hB => ?_) (fun hB => ?_) <;> try (exfalso; omega)))|(refine gc ?_; first|refine ct ?_|refine cf ?_|(refine ci (fun hB => ?_) (fun hB => ?_) <;> try (exfalso; omega))|(refine cn (fun hB => ?_) (fun hB => ?_) <;> try (exfalso; omega))|(refine cb (fun hB => ?_) (fun hB => ?_) <;> try (exfalso; omega)))|refine sq ?_|refine rg ?_|refine xc ?_|refine nl ?_|refine sk ?_|refine bk ?_|refine xe ?_|refine rt ?_|refine xb ?_
  exact r1 ⟨rfl, rfl⟩
theorem lpt_vw_has {b : Nat} {cs : List Value} {T : TypeId} {t : Value} {xs : List Value} : ∀ c ∈ [lpt b cs T, vw t xs], ∀ A : List Ch, c ∈ A → Has A c := fun c hc A h => by
  simp only [List.mem_cons, List.not_mem_nil, or_false] at hc
  rcases hc with rfl | rfl
  · exact has_lpt h
  · exact has_vw h
theorem Stopping_tr (k : Int) (s t : Value) (hs : List Value) (ls : List (List Int)) (tl : List Int) : Tr Try.prog 45 [I k, s, t] [vw s hs, vels hs ls, vw t (Is tl)] []
    fun v D => v = tup2 (.bool (stopping k ls tl).1) (I (stopping k ls tl).2) ∧ D = [] := by
  refine Tr.enter env _ Try.func45 (by kernel_rfl) rfl Try.ntmps45 rfl (by repeat (first | exact has00 | refine has01 ?_)) fun w0 => ?_
  refine TC.leni (l := tl) fun hl => ?_
  refine TC.one (v := t) (xs := Is tl) fun ht => ?_
  repeat' first|(refine gca ?_; first|(refine ca (refuses_tr _ _ _ ls) ?_; rintro _ _ ⟨rfl, rfl⟩)|(refine ca (fine_tr _ _ tl) ?_; rintro _ _ ⟨rfl, rfl⟩))|refine bx1 fun b => ?_|(refine wo ?_; first|(refine ao ?_; first|refine aw ?_|refine aw6 ?_|refine oa ?_|refine adiv ?_|refine amod ?_|refine shr1 ?_|refine shr ?_|refine umod ?_|refine isl ?_|refine ipe ?_|refine ipn ?_|refine ibe ?_)|refine acw ?_|refine ucv ?_|refine anw ?_|refine oa ?_|refine ld ?_|refine ldl ?_|refine lnm ?_|refine ixmn ?_|refine ixm ?_|refine li ?_|refine lv ?_|refine ln ?_|refine ixn ?_|refine ix ?_|refine le ?_|refine sr ?_|refine soi ?_|refine scm ?_|refine sclm ?_|refine schm ?_|refine gy ?_|refine gn ?_|refine gnn ?_|refine gu ?_|(refine gsi (fun hB => ?_) (fun hB => ?_) <;> try (exfalso; omega))|(refine gsn (fun hB => ?_) (fun hB => ?_) <;> try (exfalso; omega))|(refine gs (fun hB => ?_) (fun hB => ?_) <;> try (exfalso; omega)))|(refine gc ?_; first|refine ct ?_|refine cf ?_|(refine ci (fun hB => ?_) (fun hB => ?_) <;> try (exfalso; omega))|(refine cn (fun hB => ?_) (fun hB => ?_) <;> try (exfalso; omega))|(refine cb (fun hB => ?_) (fun hB => ?_) <;> try (exfalso; omega)))|refine sq ?_|refine rg ?_|refine xc ?_|refine nl ?_|refine sk ?_|refine bk ?_|refine xe ?_|refine rt ?_|refine xb ?_
  · exact r2 ⟨by rw [stopping, if_pos hB], rfl⟩
  · refine r2 ⟨?_, rfl⟩
    rw [stopping, if_neg (by simp [*]), if_pos (by simpa using hB)]
  · have hset : isSet k tl = true := by simpa using hB
    have hk : (tl.length : Int) ≤ k := isSet_len hset
    have hK : k ≤ 65536 := by
      by_cases h : k < 1 ∨ 65536 < k
      · exfalso; rename_i h9; rw [stopE, if_pos h] at h9; cases h9
      · omega
    refine ca (ContainsFunc_tr s hs ls _ [ptr b] [lpt b [t] 22, vw t (Is tl)] (fun l => decide ((meetN l tl : Int) = 1)) lpt_vw_has (fun h l _ => Stopping1_tr b h t l tl (isSet_sorted hset).2 (by omega))) ?_
    rintro _ _ ⟨rfl, rfl⟩
    repeat' first|(refine wo ?_; first|(refine ao ?_; first|refine aw ?_|refine aw6 ?_|refine oa ?_|refine adiv ?_|refine amod ?_|refine shr1 ?_|refine shr ?_|refine umod ?_|refine isl ?_|refine ipe ?_|refine ipn ?_|refine ibe ?_)|refine acw ?_|refine ucv ?_|refine anw ?_|refine oa ?_|refine ld ?_|refine ldl ?_|refine lnm ?_|refine ixmn ?_|refine ixm ?_|refine li ?_|refine lv ?_|refine ln ?_|refine ixn ?_|refine ix ?_|refine le ?_|refine sr ?_|refine soi ?_|refine scm ?_|refine sclm ?_|refine schm ?_|refine gy ?_|refine gn ?_|refine gnn ?_|refine gu ?_|(refine gsi (fun hB => ?_) (fun hB => ?_) <;> try (exfalso; omega))|(refine gsn (fun hB => ?_) (fun hB => ?_) <;> try (exfalso; omega))|(refine gs (fun hB => ?_) (fun hB => ?_) <;> try (exfalso; omega)))|(refine gc ?_; first|refine ct ?_|refine cf ?_|(refine ci (fun hB => ?_) (fun hB => ?_) <;> try (exfalso; omega))|(refine cn (fun hB => ?_) (fun hB => ?_) <;> try (exfalso; omega))|(refine cb (fun hB => ?_) (fun hB => ?_) <;> try (exfalso; omega)))|refine sq ?_|refine rg ?_|refine xc ?_|refine nl ?_|refine sk ?_|refine bk ?_|refine xe ?_|refine rt ?_|refine xb ?_
    refine r2 ⟨?_, rfl⟩
    rw [stopping, if_neg (by simp [*]), if_neg (by simp [hset])]; rfl
end Go.Art
