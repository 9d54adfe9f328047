/- Sets as bits; the chapter's examples that every law asks. Conditions: none. -/
import Derived.Test.YtoapghakfcdflaaStopI
set_option linter.unusedSimpArgs false
set_option linter.unusedVariables false
namespace Go.Art
open Go Go.Proofs Go.RowKit
attribute [local irreducible] Fit pt own ro vw mpc lpt vels rels mow lrc dfr
abbrev W64 (n : Int) : Value := .int .u64 n
def bitsL (k n : Int) : List Int := (belowI k).filter fun i => decide (n / 2 ^ i.toNat % 2 = 1)
theorem mem_bits {k n x : Int} : x ∈ bitsL k n ↔ (0 ≤ x ∧ x < k) ∧ n / 2 ^ x.toNat % 2 = 1 := by unfold bitsL; rw [List.mem_filter, mem_belowI]; simp
theorem bits_sorted (k n : Int) : (bitsL k n).Pairwise (· < ·) := (belowI_sorted k).sublist List.filter_sublist
theorem bits_isSet (k n : Int) : isSet k (bitsL k n) = decide (bitsL k n ≠ []) := by
  rw [Bool.eq_iff_iff, isSet_iff, decide_eq_true_iff]
  exact ⟨fun h => h.1, fun h => ⟨h, bits_sorted k n, fun x hx => (mem_bits.1 hx).1⟩⟩
theorem bits_len (k n : Int) : (bitsL k n).length ≤ k.toNat := by unfold bitsL; rw [← belowI_len k]; exact List.length_filter_le _ _

theorem bits_tr (k n : Int) (hk : k ≤ 60) (hn : 0 ≤ n ∧ n < 18446744073709551616) : Tr Try.prog 44 [I k, W64 n] [] [] fun v D => D = [own 3 v (Is (bitsL k n))] := by
  refine Tr.enter env _ Try.func44 (by kernel_rfl) rfl Try.ntmps44 rfl (by repeat (first | exact has00 | refine has01 ?_)) fun w0 => ?_
  refine TC.im (own_nil 3 _) ?_
  repeat' first|(refine wo ?_; first|(refine ao ?_; first|refine aw ?_|refine aw6 ?_|refine oa ?_|refine adiv ?_|refine amod ?_|refine shr1 ?_|refine shr ?_|refine umod ?_|refine isl ?_|refine ipe ?_|refine ipn ?_|refine ibe ?_)|refine acw ?_|refine ucv ?_|refine anw ?_|refine oa ?_|refine ld ?_|refine ldl ?_|refine lnm ?_|refine ixmn ?_|refine ixm ?_|refine li ?_|refine lv ?_|refine ln ?_|refine ixn ?_|refine ix ?_|refine le ?_|refine sr ?_|refine soi ?_|refine scm ?_|refine sclm ?_|refine schm ?_|refine gy ?_|refine gn ?_|refine gnn ?_|refine gu ?_|(refine gsi (fun hB => ?_) (fun hB => ?_) <;> try (exfalso; omega))|(refine gsn (fun hB => ?_) (fun hB => ?_) <;> try (exfalso; omega))|(refine gs (fun hB => ?_) (fun hB => ?_) <;> try (exfalso; omega)))|(refine gc ?_; first|refine ct ?_|refine cf ?_|(refine ci (fun hB => ?_) (fun hB => ?_) <;> try (exfalso; omega))|(refine cn (fun hB => ?_) (fun hB => ?_) <;> try (exfalso; omega))|(refine cb (fun hB => ?_) (fun hB => ?_) <;> try (exfalso; omega)))|refine sq ?_|refine rg ?_|refine xc ?_|refine nl ?_|refine sk ?_|refine bk ?_|refine xe ?_|refine rt ?_|refine xb ?_
  refine TC.loop (ι := Nat × Value) (fun i => [(6, I i.1), (5, i.2)]) (fun i => [own 3 i.2 (Is (((belowI k).take i.1).filter fun i => decide (n / 2 ^ i.toNat % 2 = 1)))]) (fun i => i.1 ≤ k.toNat) (fun i => k.toNat - i.1) (0, nS) [0, 1] (by simp) ?_
  rintro ⟨i, o⟩ hi
  dsimp only at hi ⊢
  by_cases hik : i < k.toNat
  · have hlen : i < (belowI k).length := by rw [belowI_len]; omega
    have hts := take_succ' hlen 0
    rw [belowI_get (by omega)] at hts
    have hfl : (((belowI k).take i).filter fun i => decide (n / 2 ^ i.toNat % 2 = 1)).length ≤ i := Nat.le_trans (List.length_filter_le _ _) (List.length_take_le _ _)
    have hdv : 0 ≤ n / 2 ^ ((i : Int)).toNat := Int.ediv_nonneg hn.1 (Int.le_of_lt (Int.pow_pos (by decide)))
    repeat' first|refine shr (c := (i : Int)) ?_|refine umod ?_|refine slii [(i : Int)] fun v1 => ?_|(refine wo ?_; first|(refine ao ?_; first|refine aw ?_|refine aw6 ?_|refine oa ?_|refine adiv ?_|refine amod ?_|refine shr1 ?_|refine shr ?_|refine umod ?_|refine isl ?_|refine ipe ?_|refine ipn ?_|refine ibe ?_)|refine acw ?_|refine ucv ?_|refine anw ?_|refine oa ?_|refine ld ?_|refine ldl ?_|refine lnm ?_|refine ixmn ?_|refine ixm ?_|refine li ?_|refine lv ?_|refine ln ?_|refine ixn ?_|refine ix ?_|refine le ?_|refine sr ?_|refine soi ?_|refine scm ?_|refine sclm ?_|refine schm ?_|refine gy ?_|refine gn ?_|refine gnn ?_|refine gu ?_|(refine gsi (fun hB => ?_) (fun hB => ?_) <;> try (exfalso; omega))|(refine gsn (fun hB => ?_) (fun hB => ?_) <;> try (exfalso; omega))|(refine gs (fun hB => ?_) (fun hB => ?_) <;> try (exfalso; omega)))|(refine gc ?_; first|refine ct ?_|refine cf ?_|(refine ci (fun hB => ?_) (fun hB => ?_) <;> try (exfalso; omega))|(refine cn (fun hB => ?_) (fun hB => ?_) <;> try (exfalso; omega))|(refine cb (fun hB => ?_) (fun hB => ?_) <;> try (exfalso; omega)))|refine sq ?_|refine rg ?_|refine xc ?_|refine nl ?_|refine sk ?_|refine bk ?_|refine xe ?_|refine rt ?_|refine xb ?_
    · refine api (v := o) (news := [(i : Int)]) fun v2 => ?_
      repeat' first|(refine wo ?_; first|(refine ao ?_; first|refine aw ?_|refine aw6 ?_|refine oa ?_|refine adiv ?_|refine amod ?_|refine shr1 ?_|refine shr ?_|refine umod ?_|refine isl ?_|refine ipe ?_|refine ipn ?_|refine ibe ?_)|refine acw ?_|refine ucv ?_|refine anw ?_|refine oa ?_|refine ld ?_|refine ldl ?_|refine lnm ?_|refine ixmn ?_|refine ixm ?_|refine li ?_|refine lv ?_|refine ln ?_|refine ixn ?_|refine ix ?_|refine le ?_|refine sr ?_|refine soi ?_|refine scm ?_|refine sclm ?_|refine schm ?_|refine gy ?_|refine gn ?_|refine gnn ?_|refine gu ?_|(refine gsi (fun hB => ?_) (fun hB => ?_) <;> try (exfalso; omega))|(refine gsn (fun hB => ?_) (fun hB => ?_) <;> try (exfalso; omega))|(refine gs (fun hB => ?_) (fun hB => ?_) <;> try (exfalso; omega)))|(refine gc ?_; first|refine ct ?_|refine cf ?_|(refine ci (fun hB => ?_) (fun hB => ?_) <;> try (exfalso; omega))|(refine cn (fun hB => ?_) (fun hB => ?_) <;> try (exfalso; omega))|(refine cb (fun hB => ?_) (fun hB => ?_) <;> try (exfalso; omega)))|refine sq ?_|refine rg ?_|refine xc ?_|refine nl ?_|refine sk ?_|refine bk ?_|refine xe ?_|refine rt ?_|refine xb ?_
      have hf1 : ((belowI k).take (i + 1)).filter (fun i => decide (n / 2 ^ i.toNat % 2 = 1)) = ((belowI k).take i).filter (fun i => decide (n / 2 ^ i.toNat % 2 = 1)) ++ [(i : Int)] := by
        rw [hts, List.filter_append, List.filter_cons, if_pos (by simpa using hB)]; rfl
      exact lp (i + 1, v2) (by dsimp only; omega) (hf := by dsimp only; rw [hf1]; first | apply Fit.all | ((repeat (first | (apply Fit.nilN; (repeat (first | apply nrm_nil | apply nrm_cons)); try apply nrm_rfl) | (apply Fit.cons; focus ((repeat (first | apply Tk.here | apply Tk.there)); first | done | fail)))); first | done | fail))
    · have hf1 : ((belowI k).take (i + 1)).filter (fun i => decide (n / 2 ^ i.toNat % 2 = 1)) = ((belowI k).take i).filter (fun i => decide (n / 2 ^ i.toNat % 2 = 1)) := by
        rw [hts, List.filter_append, List.filter_cons, if_neg (by simpa using hB)]; simp
      exact lp (i + 1, o) (by dsimp only; omega) (hf := by dsimp only; rw [hf1]; first | apply Fit.all | ((repeat (first | (apply Fit.nilN; (repeat (first | apply nrm_nil | apply nrm_cons)); try apply nrm_rfl) | (apply Fit.cons; focus ((repeat (first | apply Tk.here | apply Tk.there)); first | done | fail)))); first | done | fail))
  · rw [List.take_of_length_le (by rw [belowI_len]; omega)]
    repeat' first|(refine wo ?_; first|(refine ao ?_; first|refine aw ?_|refine aw6 ?_|refine oa ?_|refine adiv ?_|refine amod ?_|refine shr1 ?_|refine shr ?_|refine umod ?_|refine isl ?_|refine ipe ?_|refine ipn ?_|refine ibe ?_)|refine acw ?_|refine ucv ?_|refine anw ?_|refine oa ?_|refine ld ?_|refine ldl ?_|refine lnm ?_|refine ixmn ?_|refine ixm ?_|refine li ?_|refine lv ?_|refine ln ?_|refine ixn ?_|refine ix ?_|refine le ?_|refine sr ?_|refine soi ?_|refine scm ?_|refine sclm ?_|refine schm ?_|refine gy ?_|refine gn ?_|refine gnn ?_|refine gu ?_|(refine gsi (fun hB => ?_) (fun hB => ?_) <;> try (exfalso; omega))|(refine gsn (fun hB => ?_) (fun hB => ?_) <;> try (exfalso; omega))|(refine gs (fun hB => ?_) (fun hB => ?_) <;> try (exfalso; omega)))|(refine gc ?_; first|refine ct ?_|refine cf ?_|(refine ci (fun hB => ?_) (fun hB => ?_) <;> try (exfalso; omega))|(refine cn (fun hB => ?_) (fun hB => ?_) <;> try (exfalso; omega))|(refine cb (fun hB => ?_) (fun hB => ?_) <;> try (exfalso; omega)))|refine sq ?_|refine rg ?_|refine xc ?_|refine nl ?_|refine sk ?_|refine bk ?_|refine xe ?_|refine rt ?_|refine xb ?_
    exact r1 rfl

/-! ### Examples -/
def knb (ls : List (List Int)) : Nat → Int → Bool
  | 0, _ => false
  | n + 1, s => ls.any fun l => l.contains s && l.all fun x => x == s || knb ls n x
theorem knb_sound {ls : List (List Int)} : ∀ {n : Nat} {s : Int}, knb ls n s = true → Kn ls s
  | 0, _, h => by cases h
  | n + 1, s, h => by
    simp only [knb, List.any_eq_true, Bool.and_eq_true, List.all_eq_true, Bool.or_eq_true, beq_iff_eq] at h
    obtain ⟨l, hl, hs, ha⟩ := h
    exact .mk l s hl (by simpa using hs) fun x hx hne => knb_sound ((ha x hx).resolve_left hne)
theorem known_eval {k : Int} {ls : List (List Int)} (p : Int → Bool) (n : Nat) (h1 : ∀ l ∈ ls, l.Nodup ∧ cnt p l ≠ 1) (h2 : ∀ s ∈ belowI k, p s = false → knb ls n s = true) : knownL k ls = (belowI k).filter (fun s => !p s) ∧ largeL k ls = (belowI k).filter p :=
  known_of p fun s h0 hk => ⟨fun hp hkn => (by rw [hkn.not (p := p) (fun l hl => (h1 l hl).1) (fun l hl => (h1 l hl).2)] at hp; cases hp), fun hkn => by
    cases hp : p s with
    | true => rfl
    | false => exact absurd (knb_sound (h2 s (mem_belowI.2 ⟨h0, hk⟩) hp)) hkn⟩
theorem has_els_nil {F : List Ch} : Has F (vels [] []) := ⟨fun _ _ => by unfold vels; exact ⟨rfl, fun i hi => by simp at hi⟩, fun _ h => by unfold vels at h; exact h, fun _ h => by unfold vels at h; exact h, fun b hb => by
  unfold vels at hb
  rcases hb with hb | hb | ⟨i, hi, _⟩
  · exact hb.elim
  · exact hb.elim
  · simp at hi⟩
theorem has_els_cons {F : List Ch} {v : Value} {l : List Int} {hs : List Value} {ls : List (List Int)} (h : Has F (vw v (Is l))) (k : Has F (vels hs ls)) : Has F (vels (v :: hs) (l :: ls)) := by
  have hb : ∀ b, (vels (v :: hs) (l :: ls)).ft b → (vw v (Is l)).ft b ∨ (vels hs ls).ft b := fun b hb => by
    unfold vels vw at *
    rcases hb with hb | hb | ⟨i, hi, h1, h2⟩
    · exact hb.elim
    · exact hb.elim
    · cases i with
      | zero => exact .inl (.inr (.inr ⟨h1, h2⟩))
      | succ i => exact .inr (.inr (.inr ⟨i, by simpa using hi, h1, h2⟩))
  refine ⟨fun w hw => ?_, fun b h => by unfold vels at h; exact h, fun b h => by unfold vels at h; exact h, fun b hx => ?_⟩
  · have h1 := h.P w hw
    have h2 := k.P w hw
    unfold vels vw at *
    exact ⟨congrArg (· + 1) h2.1, fun i hi => by
      cases i with
      | zero => exact h1
      | succ i => exact h2.2 i (by simpa using hi)⟩
  · rcases hb b hx with h1 | h1
    · exact h.ft b h1
    · exact k.ft b h1

theorem ex1 : stopE 3 [[0, 1], [1]] = 0 ∧ knownR 3 [[0, 1], [1]] = [0, 1] ∧ largeL 3 [[0, 1], [1]] = [2] := by
  obtain ⟨h1, h2⟩ := known_eval (k := 3) (ls := [[0, 1], [1]]) (fun s => s == 2) 2 (by decide) (by decide)
  have h0 : stopE 3 [[0, 1], [1]] = 0 := by decide
  exact ⟨h0, by rw [knownR, if_pos h0, h1]; decide, by rw [h2]; decide⟩
theorem ex2 : stopE 3 [[0, 1], [1, 2]] = 0 ∧ knownR 3 [[0, 1], [1, 2]] = [] ∧ largeL 3 [[0, 1], [1, 2]] = [0, 1, 2] := by
  obtain ⟨h1, h2⟩ := known_eval (k := 3) (ls := [[0, 1], [1, 2]]) (fun _ => true) 0 (by decide) (by decide)
  have h0 : stopE 3 [[0, 1], [1, 2]] = 0 := by decide
  exact ⟨h0, by rw [knownR, if_pos h0, h1]; decide, by rw [h2]; decide⟩
end Go.Art
