/- The laws of encode: examples. Conditions: none. -/
import Derived.Test.YthgghnaioddkcaaSz
import Derived.Test.YthgghnaioddkcaaKSame
import Derived.Test.YthgghnaioddkcaaKPick
set_option linter.unusedSimpArgs false
set_option linter.unusedVariables false
namespace Go.Art
open Go Go.Proofs Go.RowKit

theorem rise_full {is : List Int} {k : Int} (h : Rise is k) : ∀ i : Nat, i < is.length → (i : Int) ≤ is.getD i 0
  | 0, hi => by have := (h.lt _ (mem_getD.2 ⟨0, hi, rfl⟩)).1; omega
  | i + 1, hi => by
    have h1 := rise_full h i (by omega)
    have h2 := h.up (i + 1) hi
    unfold lastOf at h2
    rw [if_neg (by omega), Nat.add_sub_cancel] at h2
    omega
theorem rise_two {is : List Int} (h : Rise is 2) (hl : is.length = 2) : is = [0, 1] := by
  have h0 := rise_full h 0 (by omega)
  have h1 := rise_full h 1 (by omega)
  have h2 := h.up 1 (by omega)
  have h3 := h.lt _ (mem_getD.2 ⟨1, by omega, rfl⟩)
  unfold lastOf at h2
  rw [if_neg (by omega)] at h2
  match is, hl with
  | [a, b], _ =>
    simp at h0 h1 h2 h3
    have e1 : a = 0 := by omega
    have e2 : b = 1 := by omega
    rw [e1, e2]
theorem rise_one {is : List Int} (h : Rise is 1) (hl : is.length = 1) : is = [0] := by
  have h3 := h.lt _ (mem_getD.2 ⟨0, by omega, rfl⟩)
  match is, hl with
  | [a], _ =>
    simp at h3
    have e1 : a = 0 := by omega
    rw [e1]
theorem set01 (seed blk id : Int) : setT [0, 1] 2 seed blk id = [0, 1] := by
  obtain ⟨_, h2, h3, h4⟩ := setR_ok (t := [0, 1]) (k := 2) (by decide) (seedOf (c64 seed) (c64 blk) (c64 id))
  change Rise (setT [0, 1] 2 seed blk id) 2 at h2
  change 1 ≤ (setT [0, 1] 2 seed blk id).length ∧ (setT [0, 1] 2 seed blk id).length ≤ 2 at h3
  change 0 < List.getD [0, 1] ((setT [0, 1] 2 seed blk id).length - 1) 0 at h4
  refine rise_two h2 ?_
  have : (setT [0, 1] 2 seed blk id).length ≠ 1 := fun e => by rw [e] at h4; exact absurd h4 (by decide)
  omega
theorem set1 (seed blk id : Int) : setT [1] 1 seed blk id = [0] := by
  obtain ⟨_, h2, h3, h4⟩ := setR_ok (t := [1]) (k := 1) (by decide) (seedOf (c64 seed) (c64 blk) (c64 id))
  change 1 ≤ (setT [1] 1 seed blk id).length ∧ (setT [1] 1 seed blk id).length ≤ 1 at h3
  exact rise_one h2 (by omega)
attribute [local irreducible] Fit pt own ro vw mpc lpt vels rels mow lrc dfr
attribute [local irreducible] lmp lme mit velg relg
theorem two_tr : Tr Try.prog 11 [] [] [] fun v D => ∃ b cv ov sy hs, v = ptr b ∧ D = encP b cv ov sy hs [0, 1] 3 0 [[1, 2], [4, 8]] ∧ cv.oneCell' = true ∧ ov.oneCell' = true ∧ sy.oneCell' = true := by
  have hn : newE [0, 1] 0 [[1, 2], [4, 8]] = 0 := by decide
  refine Tr.enter env _ Try.func11 (by kernel_rfl) rfl Try.ntmps11 rfl (by repeat (first | exact has00 | refine has01 ?_)) fun w0 => ?_
  repeat' first|(refine gca ?_; first|(refine ca (New_tr _ _ [_, _] [[1, 2], [4, 8]] [0, 1] 3 0) ?_ (hp := has1 (by first | (apply has_vw; (repeat (first | apply List.Mem.head | apply List.Mem.tail)); first | done | fail) | (apply has_own; (repeat (first | apply List.Mem.head | apply List.Mem.tail)); first | done | fail) | (apply has_ro; (repeat (first | apply List.Mem.head | apply List.Mem.tail)); first | done | fail) | apply has_nil | ((with_reducible apply has_el); (focus (first | (apply has_vels; (repeat (first | apply List.Mem.head | apply List.Mem.tail)); first | done | fail) | (apply has_rels; (repeat (first | apply List.Mem.head | apply List.Mem.tail)); first | done | fail))); omega) | (apply has_pt; (repeat (first | apply List.Mem.head | apply List.Mem.tail)); first | done | fail) | (apply has_lpt; (repeat (first | apply List.Mem.head | apply List.Mem.tail)); first | done | fail) | (apply has_vels; (repeat (first | apply List.Mem.head | apply List.Mem.tail)); first | done | fail) | (apply has_rels; (repeat (first | apply List.Mem.head | apply List.Mem.tail)); first | done | fail) | with_reducible assumption | ((with_reducible apply has_elg); (focus (first | (apply has_velg; (repeat (first | apply List.Mem.head | apply List.Mem.tail)); first | done | fail) | (apply has_relg; (repeat (first | apply List.Mem.head | apply List.Mem.tail)); first | done | fail))); omega) | (apply has_velg; (repeat (first | apply List.Mem.head | apply List.Mem.tail)); first | done | fail) | (apply has_relg; (repeat (first | apply List.Mem.head | apply List.Mem.tail)); first | done | fail)) (has1 (has_elg_cons (by first | (apply has_vw; (repeat (first | apply List.Mem.head | apply List.Mem.tail)); first | done | fail) | (apply has_own; (repeat (first | apply List.Mem.head | apply List.Mem.tail)); first | done | fail) | (apply has_ro; (repeat (first | apply List.Mem.head | apply List.Mem.tail)); first | done | fail) | apply has_nil | ((with_reducible apply has_el); (focus (first | (apply has_vels; (repeat (first | apply List.Mem.head | apply List.Mem.tail)); first | done | fail) | (apply has_rels; (repeat (first | apply List.Mem.head | apply List.Mem.tail)); first | done | fail))); omega) | (apply has_pt; (repeat (first | apply List.Mem.head | apply List.Mem.tail)); first | done | fail) | (apply has_lpt; (repeat (first | apply List.Mem.head | apply List.Mem.tail)); first | done | fail) | (apply has_vels; (repeat (first | apply List.Mem.head | apply List.Mem.tail)); first | done | fail) | (apply has_rels; (repeat (first | apply List.Mem.head | apply List.Mem.tail)); first | done | fail) | with_reducible assumption | ((with_reducible apply has_elg); (focus (first | (apply has_velg; (repeat (first | apply List.Mem.head | apply List.Mem.tail)); first | done | fail) | (apply has_relg; (repeat (first | apply List.Mem.head | apply List.Mem.tail)); first | done | fail))); omega) | (apply has_velg; (repeat (first | apply List.Mem.head | apply List.Mem.tail)); first | done | fail) | (apply has_relg; (repeat (first | apply List.Mem.head | apply List.Mem.tail)); first | done | fail)) (has_elg_cons (by first | (apply has_vw; (repeat (first | apply List.Mem.head | apply List.Mem.tail)); first | done | fail) | (apply has_own; (repeat (first | apply List.Mem.head | apply List.Mem.tail)); first | done | fail) | (apply has_ro; (repeat (first | apply List.Mem.head | apply List.Mem.tail)); first | done | fail) | apply has_nil | ((with_reducible apply has_el); (focus (first | (apply has_vels; (repeat (first | apply List.Mem.head | apply List.Mem.tail)); first | done | fail) | (apply has_rels; (repeat (first | apply List.Mem.head | apply List.Mem.tail)); first | done | fail))); omega) | (apply has_pt; (repeat (first | apply List.Mem.head | apply List.Mem.tail)); first | done | fail) | (apply has_lpt; (repeat (first | apply List.Mem.head | apply List.Mem.tail)); first | done | fail) | (apply has_vels; (repeat (first | apply List.Mem.head | apply List.Mem.tail)); first | done | fail) | (apply has_rels; (repeat (first | apply List.Mem.head | apply List.Mem.tail)); first | done | fail) | with_reducible assumption | ((with_reducible apply has_elg); (focus (first | (apply has_velg; (repeat (first | apply List.Mem.head | apply List.Mem.tail)); first | done | fail) | (apply has_relg; (repeat (first | apply List.Mem.head | apply List.Mem.tail)); first | done | fail))); omega) | (apply has_velg; (repeat (first | apply List.Mem.head | apply List.Mem.tail)); first | done | fail) | (apply has_relg; (repeat (first | apply List.Mem.head | apply List.Mem.tail)); first | done | fail)) has_elg_nil)) (has1 (by first | (apply has_vw; (repeat (first | apply List.Mem.head | apply List.Mem.tail)); first | done | fail) | (apply has_own; (repeat (first | apply List.Mem.head | apply List.Mem.tail)); first | done | fail) | (apply has_ro; (repeat (first | apply List.Mem.head | apply List.Mem.tail)); first | done | fail) | apply has_nil | ((with_reducible apply has_el); (focus (first | (apply has_vels; (repeat (first | apply List.Mem.head | apply List.Mem.tail)); first | done | fail) | (apply has_rels; (repeat (first | apply List.Mem.head | apply List.Mem.tail)); first | done | fail))); omega) | (apply has_pt; (repeat (first | apply List.Mem.head | apply List.Mem.tail)); first | done | fail) | (apply has_lpt; (repeat (first | apply List.Mem.head | apply List.Mem.tail)); first | done | fail) | (apply has_vels; (repeat (first | apply List.Mem.head | apply List.Mem.tail)); first | done | fail) | (apply has_rels; (repeat (first | apply List.Mem.head | apply List.Mem.tail)); first | done | fail) | with_reducible assumption | ((with_reducible apply has_elg); (focus (first | (apply has_velg; (repeat (first | apply List.Mem.head | apply List.Mem.tail)); first | done | fail) | (apply has_relg; (repeat (first | apply List.Mem.head | apply List.Mem.tail)); first | done | fail))); omega) | (apply has_velg; (repeat (first | apply List.Mem.head | apply List.Mem.tail)); first | done | fail) | (apply has_relg; (repeat (first | apply List.Mem.head | apply List.Mem.tail)); first | done | fail)) has0))); rintro _ _ (⟨_, b, cv, ov, sy, hs, rfl, rfl, hc, ho, hy⟩ | ⟨h, _⟩); rotate_left; exact absurd hn h))|refine slz fun v hv => ?_|refine slbz fun v hv => ?_|refine slw fun v hv => ?_|(refine wo ?_; first|(refine ao ?_; first|refine aw ?_|refine aw6 ?_|refine oa ?_|refine adiv ?_|refine amod ?_|refine shr1 ?_|refine shr ?_|refine umod ?_|refine isl ?_|refine ipe ?_|refine ipn ?_|refine ibe ?_)|refine acw ?_|refine ucv ?_|refine anw ?_|refine oa ?_|refine ld ?_|refine ldl ?_|refine lnm ?_|refine ixmn ?_|refine ixm ?_|refine li ?_|refine lb ?_|refine lv ?_|refine ln ?_|refine ixn ?_|refine ix ?_|refine le ?_|refine sr ?_|refine soi ?_|refine sob ?_|refine scm ?_|refine sclm ?_|refine schm ?_|refine gy ?_|refine gn ?_|refine gnn ?_|refine gu ?_|(refine gsi (fun hB => ?_) (fun hB => ?_) <;> try (exfalso; omega))|(refine gsn (fun hB => ?_) (fun hB => ?_) <;> try (exfalso; omega))|(refine gs (fun hB => ?_) (fun hB => ?_) <;> try (exfalso; omega)))|(refine gc ?_; first|refine ct ?_|refine cf ?_|(refine ci (fun hB => ?_) (fun hB => ?_) <;> try (exfalso; omega))|(refine cn (fun hB => ?_) (fun hB => ?_) <;> try (exfalso; omega))|(refine cb (fun hB => ?_) (fun hB => ?_) <;> try (exfalso; omega)))|refine sq ?_|refine rg ?_|refine xc ?_|refine nl ?_|refine sk ?_|refine bk ?_|refine xe ?_|refine rt ?_|refine xb ?_
  exact r1 ⟨b, cv, ov, sy, hs, rfl, rfl, hc, ho, hy⟩
theorem sets_tr (s w : Value) (t want : List Int) (k seed blk id e : Int) : Tr Try.prog 13 [s, I k, I seed, I blk, I id, I e, w] [vw s (Is t), vw w (Is want)] []
    fun v D => v = .bool (decide ((setofR t k seed blk id).2 = e ∧ (setofR t k seed blk id).1 = want)) ∧ D = [] := by
  refine Tr.enter env _ Try.func13 (by kernel_rfl) rfl Try.ntmps13 rfl (by repeat (first | exact has00 | refine has01 ?_)) fun w0 => ?_
  repeat' first|(refine gca ?_; first|(refine ca (SetOf_tr s t k seed blk id) ?_; rintro _ _ ⟨o, rfl, rfl⟩)|(refine ca (SameInts_tr _ _ (setofR t k seed blk id).1 want) ?_; rintro _ _ ⟨rfl, rfl⟩))|(refine wo ?_; first|(refine ao ?_; first|refine aw ?_|refine aw6 ?_|refine oa ?_|refine adiv ?_|refine amod ?_|refine shr1 ?_|refine shr ?_|refine umod ?_|refine isl ?_|refine ipe ?_|refine ipn ?_|refine ibe ?_)|refine acw ?_|refine ucv ?_|refine anw ?_|refine oa ?_|refine ld ?_|refine ldl ?_|refine lnm ?_|refine ixmn ?_|refine ixm ?_|refine li ?_|refine lb ?_|refine lv ?_|refine ln ?_|refine ixn ?_|refine ix ?_|refine le ?_|refine sr ?_|refine soi ?_|refine sob ?_|refine scm ?_|refine sclm ?_|refine schm ?_|refine gy ?_|refine gn ?_|refine gnn ?_|refine gu ?_|(refine gsi (fun hB => ?_) (fun hB => ?_) <;> try (exfalso; omega))|(refine gsn (fun hB => ?_) (fun hB => ?_) <;> try (exfalso; omega))|(refine gs (fun hB => ?_) (fun hB => ?_) <;> try (exfalso; omega)))|(refine gc ?_; first|refine ct ?_|refine cf ?_|(refine ci (fun hB => ?_) (fun hB => ?_) <;> try (exfalso; omega))|(refine cn (fun hB => ?_) (fun hB => ?_) <;> try (exfalso; omega))|(refine cb (fun hB => ?_) (fun hB => ?_) <;> try (exfalso; omega)))|refine sq ?_|refine rg ?_|refine xc ?_|refine nl ?_|refine sk ?_|refine bk ?_|refine xe ?_|refine rt ?_|refine xb ?_
  · refine r1 ⟨?_, rfl⟩; congr 1; simp [hB]
  · refine r1 ⟨?_, rfl⟩; rw [decide_eq_false (fun h => hB h.1)]
theorem ex_set1 (id : Int) (h : numOk id) : setofR [1] 1 0 0 id = ([0], 0) := by
  rw [setofR, if_pos (by decide), setW, if_pos h, set1]
theorem ex_pkt : pktW [0, 1] [[1, 2], [4, 8]] 3 0 7 = ([5, 10], 0) := by
  rw [pktW, if_pos (by decide)]
  show (sumL [[1, 2], [4, 8]] (setT [0, 1] 2 3 0 7), 0) = _
  rw [set01]; decide
theorem awake19_tr : Tr Try.prog 10 [] [] [] fun v D => v = .bool true ∧ D = [] := by
  have hn : newE [0, 1] 0 [[1, 2], [4, 8]] = 0 := by decide
  have e1 := ex_set1 5 (by decide)
  have hb : inB [5, 10] := by unfold inB; decide
  refine Tr.enter env _ Try.func10 (by kernel_rfl) rfl Try.ntmps10 rfl (by repeat (first | exact has00 | refine has01 ?_)) fun w0 => ?_
  repeat' first|(refine gca ?_; first|(refine ca two_tr ?_; rintro _ _ ⟨b, cv, ov, sy, hs, rfl, rfl, hc, ho, hy⟩)|(refine ca (EPacket_tr b cv ov sy hs [0, 1] 3 0 [[1, 2], [4, 8]] 7 hn hc ho) ?_; rintro _ _ ⟨o, rfl, hoo, rfl⟩; rw [ex_pkt])|(refine ca (SameBytes_tr _ _ [5, 10] [5, 10] hb hb) ?_; rintro _ _ ⟨rfl, rfl⟩)|(refine ca (EK_tr b cv ov sy hs [0, 1] 3 0 [[1, 2], [4, 8]] hn) ?_; rintro _ _ ⟨rfl, rfl⟩)|(refine ca (sets_tr _ _ [1] [0] _ _ _ _ _) ?_; rintro _ _ ⟨rfl, rfl⟩; rw [e1]))|refine slz fun v hv => ?_|refine slbz fun v hv => ?_|(refine wo ?_; first|(refine ao ?_; first|refine aw ?_|refine aw6 ?_|refine oa ?_|refine adiv ?_|refine amod ?_|refine shr1 ?_|refine shr ?_|refine umod ?_|refine isl ?_|refine ipe ?_|refine ipn ?_|refine ibe ?_)|refine acw ?_|refine ucv ?_|refine anw ?_|refine oa ?_|refine ld ?_|refine ldl ?_|refine lnm ?_|refine ixmn ?_|refine ixm ?_|refine li ?_|refine lb ?_|refine lv ?_|refine ln ?_|refine ixn ?_|refine ix ?_|refine le ?_|refine sr ?_|refine soi ?_|refine sob ?_|refine scm ?_|refine sclm ?_|refine schm ?_|refine gy ?_|refine gn ?_|refine gnn ?_|refine gu ?_|(refine gsi (fun hB => ?_) (fun hB => ?_) <;> try (exfalso; omega))|(refine gsn (fun hB => ?_) (fun hB => ?_) <;> try (exfalso; omega))|(refine gs (fun hB => ?_) (fun hB => ?_) <;> try (exfalso; omega)))|(refine gc ?_; first|refine ct ?_|refine cf ?_|(refine ci (fun hB => ?_) (fun hB => ?_) <;> try (exfalso; omega))|(refine cn (fun hB => ?_) (fun hB => ?_) <;> try (exfalso; omega))|(refine cb (fun hB => ?_) (fun hB => ?_) <;> try (exfalso; omega)))|refine sq ?_|refine rg ?_|refine xc ?_|refine nl ?_|refine sk ?_|refine bk ?_|refine xe ?_|refine rt ?_|refine xb ?_
  exact r1 ⟨rfl, rfl⟩
end Go.Art
