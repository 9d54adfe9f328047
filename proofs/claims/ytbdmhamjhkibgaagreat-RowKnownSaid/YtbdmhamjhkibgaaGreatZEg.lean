/- Texts put together: Gs Qv Qw KCopy KOver Qx Rv. Conditions: none. -/
import Derived.Test.YtbdmhamjhkibgaaGreatZEf
set_option linter.unusedSimpArgs false
set_option linter.unusedVariables false
namespace Go.Art
open Go Go.Proofs Go.RowKit
def ins (x : Int) (l : List Int) (k : Nat) : List Int := l.take k ++ x :: l.drop k
attribute [local irreducible] Fit pt own ro vw mpc lpt vels rels mow lrc dfr
attribute [local irreducible] lmp lme mit velg relg
structure RoG where
  i : Nat
  l : List Int
  st : BitVec 64
structure RiG where
  i : Nat
  o : Value
  ds : List Int
end Go.Art
set_option linter.unusedSimpArgs false
set_option linter.unusedVariables false
namespace Go.Art
open Go Go.Proofs Go.RowKit
abbrev w0u : Value := .int .u64 0
def rloC (b : Nat) (sv : Value) (x : Lw) (used : Int) : List Ch :=
  match x with
  | .inl st => rloP b st used
  | .inr (l, br) => [pt b [sv, .bool false, w0u, I used, .bool br] TRl, own TLI sv (Is l)]
abbrev rlot (b : Nat) (sv : Value) (x : Lw) (used : Int) : Ch := bnd (rloC b sv x used)
theorem rloC_nb (b : Nat) (sv : Value) (x : Lw) (used : Int) : ∀ c ∈ rloC b sv x used, ∀ b, ¬ c.bd b := by
  cases x with
  | inl st => unfold rloC; (repeat (first | exact nb0 | refine nb1 ?_))
  | inr p => unfold rloC; (repeat (first | exact nb0 | refine nb1 ?_))
instance (b : Nat) (sv : Value) (x : Lw) (used : Int) : NoB (rlot b sv x used) := ⟨fun b h => by obtain ⟨c, hc, h1⟩ := h; exact rloC_nb _ _ _ _ c hc b h1⟩
structure RwG where
  i : Nat
  l : List Int
  outs : List Int
  sv : Value
  x : Lw
attribute [local irreducible] Fit pt own ro vw mpc lpt vels rels mow lrc dfr
attribute [local irreducible] lmp lme mit velg relg
end Go.Art
set_option linter.unusedSimpArgs false
set_option linter.unusedVariables false
namespace Go.Art
open Go Go.Proofs Go.RowKit
def colBad (tot : Int) (cut oth : List Int) (i : Nat) : Prop := cut.getD i 0 < 0 ∨ tot < cut.getD i 0 ∨ oth.getD i 0 < 0 ∨ (cut.length : Int) ≤ oth.getD i 0
def alFst (tot : Int) (cut oth : List Int) : Prop := (1 ≤ tot ∧ tot ≤ 1099511627776) ∧ (1 ≤ cut.length ∧ cut.length ≤ 65536) ∧ oth.length = cut.length
attribute [local irreducible] Fit pt own ro vw mpc lpt vels rels mow lrc dfr
attribute [local irreducible] lmp lme mit velg relg
end Go.Art
set_option linter.unusedSimpArgs false
set_option linter.unusedVariables false
namespace Go.Art
open Go Go.Proofs Go.RowKit
attribute [local irreducible] Fit pt own ro vw mpc lpt vels rels mow lrc dfr
end Go.Art
set_option linter.unusedSimpArgs false
set_option linter.unusedVariables false
namespace Go.Art
open Go Go.Proofs Go.RowKit
attribute [local irreducible] Fit pt own ro vw mpc lpt vels rels mow lrc dfr
end Go.Art
set_option linter.unusedSimpArgs false
set_option linter.unusedVariables false
namespace Go.Art
open Go Go.Proofs Go.RowKit
def loH (r : Nat) (x : Lw) (used : Int) : List Value :=
  match x with
  | .inl _ => [.iface TpS (ptr r), I used, .bool false]
  | .inr (_, br) => [.iface TpR (ptr r), I used, .bool br]
def rloH (sv : Value) (x : Lw) (used : Int) : List Value :=
  match x with
  | .inl st => [nS, .bool true, U st, I used, .bool false]
  | .inr (_, br) => [sv, .bool false, w0u, I used, .bool br]
section
variable {P : Program} {E : Env P} {n : Sh} {X : Cx} {s : List K} {fr : Fr} {A : List Ch} {ops : Array Oper} {rest : List Oper} {d : Nat} {ty t : TypeId} {pos : String} {after : Array Edge} {x : Operand} {dt : TypeDesc} {sz by_ : Nat} {z : Value} {cs vs : List Value} {b j : Nat} {T : TypeId}
end
attribute [local irreducible] Fit pt own ro vw mpc lpt vels rels mow lrc dfr
attribute [local irreducible] lmp lme mit velg relg
theorem SameIntsT_tr (a b : Value) (xs : List Int) : Tr Tryz.prog 21 [a, b] [vw a (Is xs), vw b (Is xs)] [] fun v D => v = .bool true ∧ D = [] :=
  (SameInts_tr a b xs xs).mono fun v D h => by rw [decide_eq_true rfl] at h; exact h
end Go.Art
set_option linter.unusedSimpArgs false
set_option linter.unusedVariables false
namespace Go.Art
open Go Go.Proofs Go.RowKit
theorem setW_err {tot : Int} {cut oth : List Int} {k : Int} {x : Lw} {at1 e : Int} {x2 : Lw} (h1 : rwE tot cut oth k = 0) (h2 : (plcW tot cut oth x).1 = (at1, 0)) (h3 : (plcW tot cut oth x).2.1 = x2) (h4 : (ordO k (at1 + 1) x2).1 = ([], e)) : (setW tot cut oth k x).1 = ([], e) := by
  unfold setW
  rw [if_pos h1, h2, if_pos rfl, h3]
  unfold pickO
  rw [h4, srt_id .nil]
theorem setW_srt {tot : Int} {cut oth : List Int} {k : Int} {x : Lw} {at1 : Int} {x2 : Lw} {l m : List Int} (h1 : rwE tot cut oth k = 0) (h2 : (plcW tot cut oth x).1 = (at1, 0)) (h3 : (plcW tot cut oth x).2.1 = x2) (h4 : (ordO k (at1 + 1) x2).1 = (l, 0)) (hp : l.Perm m) (hs : m.Pairwise (· ≤ ·)) : (setW tot cut oth k x).1 = (m, 0) := by
  unfold setW
  rw [if_pos h1, h2, if_pos rfl, h3]
  unfold pickO
  rw [h4]
  exact congrArg (·, (0 : Int)) (((srt_perm l).trans hp).eq_of_pairwise (fun a b _ _ h1 h2 => by omega) (srt_sorted l) hs)
theorem few3 : (setW 4 [2, 4] [1, 1] 3 (.inr ([1, 0, 2, 1], false))).1 = ([0, 2], 0) := setW_srt (at1 := 1) (x2 := .inr ([2, 1], false)) (l := [2, 0]) (by decide) (by decide) (by kernel_rfl) (by decide) (List.Perm.swap _ _ _) (by simp)
theorem few4 : (setW 4 [2, 4] [1, 1] 3 (.inr ([0, 1], false))).1 = ([], 12) := setW_err (at1 := 0) (x2 := .inr ([], false)) (by decide) (by decide) (by kernel_rfl) (by decide)
theorem few5 : (setW 4 [2, 4] [1, 1] 1 (.inr ([0, 0], false))).1 = ([], 3) := by decide
theorem mea2 : meaW 4 [2, 4] [1, 1] 3 1 = (rqf (mkRat 1 24), 0) := by
  rw [meaW_ok (by decide) (by decide)]; rfl
theorem mea3 : meaW 4 [2, 4] [1, 1] 3 3 = (rqn, 3) := by
  unfold meaW; rw [if_pos (by decide), if_pos (by decide)]
theorem cha2 : chaW [1, 3] 3 2 = (rqf (mkRat 1 4), 0) := by
  unfold chaW; rw [if_pos (by decide), if_neg (by decide)]; rfl
theorem cha3 : chaW [1, 3] 1 1 = (rqn, 13) := by
  unfold chaW; rw [if_neg (by decide)]
theorem fewL : (allL 4 [2, 4] [1, 1] 3).length = 42 ∧ (allL 4 [2, 4] [1, 1] 3).getD 0 [] = [0, 0, 0] := ⟨by kernel_rfl, by kernel_rfl⟩
theorem rows1 : ∃ L : List (List Int), rowsW 4 [2, 4] [1, 1] 3 = (L, 0) ∧ L.length = 42 ∧ L.getD 0 [] = [0, 0, 0] := by
  refine ⟨allL 4 [2, 4] [1, 1] 3, ?_, fewL.1, fewL.2⟩
  unfold rowsW
  rw [if_pos (by decide), if_neg]
  · rfl
  · rw [show (3 : Int).toNat = 3 from rfl, fewL.1]; decide
attribute [local irreducible] Fit pt own ro vw mpc lpt vels rels mow lrc dfr
attribute [local irreducible] lmp lme mit velg relg bnd owl dfrl
theorem RowKnown_tr : Tr Tryz.prog 6 [] [] [] fun v D => v = .bool true ∧ D = [] := by
  have hM := fun c o hc ho => MeaW_tr 4 3 1 c o [2, 4] [1, 1] hc ho
  have hN := fun c o hc ho => MeaW_tr 4 3 3 c o [2, 4] [1, 1] hc ho
  have hC := fun s => ChaW_tr s [1, 3] 3 2
  have hE := fun s => ChaW_tr s [1, 3] 1 1
  have hR := fun c o hc ho => Rows_tr 4 3 c o [2, 4] [1, 1] hc ho
  obtain ⟨L, hL1, hL2, hL3⟩ := rows1
  simp only [hL1] at hR
  simp only [mea2] at hM
  simp only [mea3] at hN
  simp only [cha2] at hC
  simp only [cha3] at hE
  unfold FW at hM hC hN hE
  dsimp only at hM hC hN hE hR
  have hI1 := fun n1 d1 => is_tr (rqf (mkRat 1 24)) 0 n1 d1 1 24 (by decide) (by decide) (by decide)
  have hI2 := fun n1 d1 => is_tr (rqf (mkRat 1 4)) 0 n1 d1 1 4 (by decide) (by decide) (by decide)
  simp only [show ((1 : Nat) : Int) = 1 from rfl, and_self, decide_true] at hI1 hI2
  have hD1 := fun lv wv => draws_tr 3 0 lv wv [1, 0, 2, 1] [0, 2] (by decide)
  have hD2 := fun lv wv => draws_tr 3 12 lv wv [0, 1] [] (by decide)
  have hD3 := fun lv wv => draws_tr 1 3 lv wv [0, 0] [] (by decide)
  rw [few3] at hD1
  rw [few4] at hD2
  rw [few5] at hD3
  simp only [decide_true] at hD1 hD2 hD3
  generalize mkRat 1 24 = q1 at *
  generalize mkRat 1 4 = q2 at *
  refine Tr.enter env _ Tryz.func6 (by kernel_rfl) rfl Tryz.ntmps6 rfl (by repeat (first | exact has00 | refine has01 ?_)) fun w0 => ?_
  repeat' first|(refine gca ?_; first|(refine ca few_tr ?_; rintro _ _ ⟨c, o, rfl, hc, ho, rfl⟩)|(refine ca (hM c o hc ho) ?_; rintro _ _ ⟨n1, d1, rfl, hn1, hd1, rfl⟩)|(refine ca (hN c o hc ho) ?_; rintro _ _ ⟨n3, d3, rfl, hn3, hd3, rfl⟩)|(refine ca (hR c o hc ho) ?_; rintro _ _ ⟨rv, hs, rfl, hrv, hlr, rfl⟩; have hg0 : hs[0]? = some (hs.getD 0 nS) := (by rw [List.getD_eq_getElem?_getD, List.getElem?_eq_getElem (by omega)]; rfl))|(refine ca (hC _) ?_; rintro _ _ ⟨n2, d2, rfl, hn2, hd2, rfl⟩)|(refine ca (hE _) ?_; rintro _ _ ⟨n4, d4, rfl, hn4, hd4, rfl⟩)|(refine ca (hD1 _ _) ?_; rintro _ _ ⟨rfl, rfl⟩)|(refine ca (hD2 _ _) ?_; rintro _ _ ⟨rfl, rfl⟩)|(refine ca (hD3 _ _) ?_; rintro _ _ ⟨rfl, rfl⟩)|(refine ca (hI1 n1 d1) ?_; rintro _ _ ⟨rfl, rfl⟩)|(refine ca (hI2 n2 d2) ?_; rintro _ _ ⟨rfl, rfl⟩)|(refine ca (SameIntsT_tr (hs.getD 0 nS) _ [0, 0, 0]) ?_ (hp := has1 (by rw [← hL3]; exact has_elg (g := I) (hs := hs) (ls := L) (i := 0) (has_owl (e := TLI) (by omega) (by (repeat (first | apply List.Mem.head | apply List.Mem.tail)); first | done | fail)) (by omega)) (has1 (by first | (apply has_vw; (repeat (first | apply List.Mem.head | apply List.Mem.tail)); first | done | fail) | (apply has_own; (repeat (first | apply List.Mem.head | apply List.Mem.tail)); first | done | fail) | (apply has_ro; (repeat (first | apply List.Mem.head | apply List.Mem.tail)); first | done | fail) | apply has_nil | ((with_reducible apply has_el); (focus (first | (apply has_vels; (repeat (first | apply List.Mem.head | apply List.Mem.tail)); first | done | fail) | (apply has_rels; (repeat (first | apply List.Mem.head | apply List.Mem.tail)); first | done | fail))); omega) | (apply has_pt; (repeat (first | apply List.Mem.head | apply List.Mem.tail)); first | done | fail) | (apply has_lpt; (repeat (first | apply List.Mem.head | apply List.Mem.tail)); first | done | fail) | (apply has_vels; (repeat (first | apply List.Mem.head | apply List.Mem.tail)); first | done | fail) | (apply has_rels; (repeat (first | apply List.Mem.head | apply List.Mem.tail)); first | done | fail) | with_reducible assumption | ((with_reducible apply has_elg); (focus (first | (apply has_velg; (repeat (first | apply List.Mem.head | apply List.Mem.tail)); first | done | fail) | (apply has_relg; (repeat (first | apply List.Mem.head | apply List.Mem.tail)); first | done | fail))); omega) | (apply has_velg; (repeat (first | apply List.Mem.head | apply List.Mem.tail)); first | done | fail) | (apply has_relg; (repeat (first | apply List.Mem.head | apply List.Mem.tail)); first | done | fail) | (apply has_vwf; (repeat (first | apply List.Mem.head | apply List.Mem.tail)); first | done | fail) | (apply has_oww; (repeat (first | apply List.Mem.head | apply List.Mem.tail)); first | done | fail)) has0)); rintro _ _ ⟨rfl, rfl⟩)|(refine ca awake_tr ?_; rintro _ _ ⟨rfl, rfl⟩))|refine slz fun v hv => ?_|refine al fun b1 => ?_|refine srz ?_|refine lda ?_|refine le (xs := hs) (j := 0) ?_ (hj := hg0)|(refine wo ?_; first|(refine ao ?_; first|refine oa ?_)|refine oa ?_|refine ln ?_|refine ix ?_|refine gy ?_|(refine gsn (fun hB => ?_) (fun hB => ?_) <;> try (exfalso; omega)))|(refine gc ?_; first|refine cf ?_)|refine sq ?_|refine rg ?_|refine xc ?_|refine nl ?_|refine sk ?_|refine rt ?_
  exact r1 ⟨rfl, rfl⟩
end Go.Art
