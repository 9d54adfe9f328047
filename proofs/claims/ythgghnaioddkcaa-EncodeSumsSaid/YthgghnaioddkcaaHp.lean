/- A heap of numbers: the plain law, and the program's. Conditions: none. -/
import Derived.Test.YthgghnaioddkcaaRw
set_option linter.unusedSimpArgs false
set_option linter.unusedVariables false
namespace Go.Art
open Go Go.Proofs Go.RowKit

/-- The places but i are in order; what stands below i is not less than what stands above it. -/
def par (j : Nat) : Nat := (j - 1) / 2
structure HpUp (l : List Int) (i : Nat) : Prop where
  a : ∀ j, 0 < j → j < l.length → j ≠ i → l.getD (par j) 0 ≤ l.getD j 0
  b : ∀ j, 0 < j → j < l.length → par j = i → 0 < i → l.getD (par i) 0 ≤ l.getD j 0
structure HpDn (l : List Int) (i : Nat) : Prop where
  a : ∀ j, 0 < j → j < l.length → par j ≠ i → l.getD (par j) 0 ≤ l.getD j 0
  b : ∀ j, 0 < j → j < l.length → par j = i → 0 < i → l.getD (par i) 0 ≤ l.getD j 0
def Heap (l : List Int) : Prop := ∀ j, 0 < j → j < l.length → l.getD (par j) 0 ≤ l.getD j 0
theorem par_lt {j : Nat} (h : 0 < j) : par j < j := by unfold par; omega
theorem Heap.head {l : List Int} (h : Heap l) : ∀ j, j < l.length → l.getD 0 0 ≤ l.getD j 0 := fun j => by
  induction j using Nat.strongRecOn with
  | ind j ih =>
    intro hj
    by_cases h0 : j = 0
    · subst h0; exact Int.le_refl _
    · have h1 := par_lt (j := j) (by omega)
      exact Int.le_trans (ih _ h1 (by omega)) (h j (by omega) hj)
/-- Two places' contents change. -/
def swq (l : List Int) (i j : Nat) : List Int := (l.set i (l.getD j 0)).set j (l.getD i 0)
theorem swq_len (l : List Int) (i j : Nat) : (swq l i j).length = l.length := by simp [swq]
theorem swq_get (l : List Int) {i j : Nat} (hi : i < l.length) (hj : j < l.length) (t : Nat) : (swq l i j).getD t 0 = if t = i then l.getD j 0 else if t = j then l.getD i 0 else l.getD t 0 := by
  unfold swq
  rw [getD_set _ _ _ _ (by simpa using hj), getD_set _ _ _ _ hi]
  by_cases h1 : t = i
  · subst h1
    rw [if_pos rfl, if_pos rfl]
    by_cases h2 : j = t
    · subst h2; rw [if_pos rfl]
    · rw [if_neg h2]
  · rw [if_neg h1, if_neg (Ne.symm h1)]
    by_cases h2 : t = j
    · subst h2; rw [if_pos rfl]
    · rw [if_neg h2, if_neg (Ne.symm h2)]
theorem swq_perm (l : List Int) {i j : Nat} (hi : i < l.length) (hj : j < l.length) : (swq l i j).Perm l := by
  have e1 : l.getD j 0 = l[j] := by simp [List.getD_eq_getElem?_getD, hj]
  have e2 : l.getD i 0 = l[i] := by simp [List.getD_eq_getElem?_getD, hi]
  unfold swq
  rw [e1, e2]
  exact List.set_set_perm hi hj
theorem HpUp.snoc {l : List Int} (h : Heap l) (x : Int) : HpUp (l ++ [x]) l.length := by
  refine ⟨fun j h0 hj hne => ?_, fun j h0 hj hp _ => ?_⟩
  · have h1 : j < l.length := by simp at hj; omega
    have h2 := par_lt h0
    rw [getD_snoc, getD_snoc, if_pos h1, if_pos (by omega)]
    exact h j h0 h1
  · have h2 := par_lt h0
    simp at hj; omega
theorem HpUp.stop {l : List Int} {i : Nat} (h : HpUp l i) (hs : i = 0 ∨ l.getD (par i) 0 ≤ l.getD i 0) : Heap l := fun j h0 hj => by
  by_cases e : j = i
  · subst e; rcases hs with hs | hs
    · omega
    · exact hs
  · exact h.a j h0 hj e
theorem HpUp.step {l : List Int} {i : Nat} (h : HpUp l i) (hi : 0 < i) (hil : i < l.length) (hs : ¬ l.getD (par i) 0 ≤ l.getD i 0) : HpUp (swq l (par i) i) (par i) := by
  have hp := par_lt hi
  have G := fun t => swq_get l (i := par i) (j := i) (by omega) hil t
  have hL := swq_len l (par i) i
  refine ⟨fun j h0 hj hne => ?_, fun j h0 hj hpj hpi => ?_⟩
  · rw [hL] at hj
    rw [G, G]
    have hjp := par_lt h0
    by_cases e1 : j = i
    · subst e1; rw [if_pos rfl, if_neg (by omega), if_pos rfl]; omega
    · rw [if_neg hne, if_neg e1]
      by_cases e2 : par j = i
      · rw [if_neg (by omega), if_pos e2]; exact h.b j h0 hj e2 hi
      · by_cases e3 : par j = par i
        · rw [if_pos e3]; have := h.a j h0 hj e1; rw [e3] at this; omega
        · rw [if_neg e3, if_neg e2]; exact h.a j h0 hj e1
  · rw [hL] at hj
    rw [G, G]
    have hjp := par_lt h0
    have hpp := par_lt hpi
    rw [if_neg (by omega), if_neg (by omega)]
    have h1 := h.a (par i) hpi (by omega) (by omega)
    by_cases e1 : j = i
    · subst e1; rw [if_neg (by omega), if_pos rfl]; exact h1
    · rw [if_neg (by omega), if_neg e1]
      have := h.a j h0 hj e1
      rw [hpj] at this; omega
theorem HpDn.stop {l : List Int} {i : Nat} (h : HpDn l i) (h1 : 2 * i + 1 < l.length → l.getD i 0 ≤ l.getD (2 * i + 1) 0) (h2 : 2 * i + 2 < l.length → l.getD i 0 ≤ l.getD (2 * i + 2) 0) : Heap l := fun j h0 hj => by
  by_cases e : par j = i
  · have : j = 2 * i + 1 ∨ j = 2 * i + 2 := by unfold par at e; omega
    rw [e]
    rcases this with rfl | rfl
    · exact h1 hj
    · exact h2 hj
  · exact h.a j h0 hj e
theorem HpDn.step {l : List Int} {i c : Nat} (h : HpDn l i) (hc : c = 2 * i + 1 ∨ c = 2 * i + 2) (hcl : c < l.length) (hs : l.getD c 0 < l.getD i 0) (h1 : 2 * i + 1 < l.length → l.getD c 0 ≤ l.getD (2 * i + 1) 0) (h2 : 2 * i + 2 < l.length → l.getD c 0 ≤ l.getD (2 * i + 2) 0) : HpDn (swq l i c) c := by
  have hpc : par c = i := by unfold par; omega
  have hic : i < c := by omega
  have G := fun t => swq_get l (i := i) (j := c) (by omega) hcl t
  have hL := swq_len l i c
  refine ⟨fun j h0 hj hne => ?_, fun j h0 hj hpj hc0 => ?_⟩
  · rw [hL] at hj
    rw [G, G]
    have hjp := par_lt h0
    by_cases e1 : par j = i
    · rw [if_pos e1, if_neg (by omega)]
      by_cases e2 : j = c
      · rw [if_pos e2]; omega
      · rw [if_neg e2]
        have : j = 2 * i + 1 ∨ j = 2 * i + 2 := by unfold par at e1; omega
        rcases this with rfl | rfl
        · exact h1 hj
        · exact h2 hj
    · rw [if_neg e1, if_neg hne]
      by_cases e2 : j = i
      · subst e2; rw [if_pos rfl]; exact h.b c (by omega) hcl hpc h0
      · rw [if_neg e2, if_neg (fun e => e1 (by rw [e]; exact hpc))]; exact h.a j h0 hj e1
  · rw [hL] at hj
    rw [G, G, hpc, if_pos rfl]
    have hjp := par_lt h0
    rw [if_neg (by omega), if_neg (by omega)]
    have := h.a j h0 hj (by omega)
    rw [hpj] at this; exact this
end Go.Art
