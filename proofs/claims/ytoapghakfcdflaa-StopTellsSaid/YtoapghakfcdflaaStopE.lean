/- What sets make known: the plain law. Conditions: none. -/
import Derived.Test.YtoapghakfcdflaaStopD
set_option linter.unusedSimpArgs false
set_option linter.unusedVariables false
namespace Go.Art
open Go

/-- A symbol is known: some set holds it, and all others of that set are known. -/
inductive Kn (ls : List (List Int)) : Int → Prop
  | mk (l : List Int) (s : Int) (hl : l ∈ ls) (hs : s ∈ l) (h : ∀ x ∈ l, x ≠ s → Kn ls x) : Kn ls s
/-- How many of a list are so. -/
def cnt (p : Int → Bool) (l : List Int) : Nat := (l.filter p).length
theorem cnt_one {p : Int → Bool} {l : List Int} (h : cnt p l = 1) : ∃ s, s ∈ l ∧ p s = true ∧ ∀ x ∈ l, p x = true → x = s := by
  unfold cnt at h
  obtain ⟨s, hs⟩ := List.length_eq_one_iff.1 h
  have hm : ∀ x, x ∈ l ∧ p x = true ↔ x = s := fun x => by rw [← List.mem_filter, hs]; simp
  exact ⟨s, ((hm s).2 rfl).1, ((hm s).2 rfl).2, fun x hx hp => (hm x).1 ⟨hx, hp⟩⟩
theorem cnt_one_of {p : Int → Bool} {l : List Int} (hn : l.Nodup) {s : Int} (hs : s ∈ l) (hp : p s = true) (h : ∀ x ∈ l, x ≠ s → p x = false) : cnt p l = 1 := by
  have hm : ∀ x, x ∈ l.filter p ↔ x = s := fun x => by
    rw [List.mem_filter]
    constructor
    · rintro ⟨h1, h2⟩
      by_cases e : x = s
      · exact e
      · rw [h x h1 e] at h2; cases h2
    · rintro rfl; exact ⟨hs, hp⟩
  have hnd : (l.filter p).Nodup := hn.sublist List.filter_sublist
  unfold cnt
  cases hf : l.filter p with
  | nil => have := (hm s).2 rfl; rw [hf] at this; cases this
  | cons a r =>
    rw [hf] at hm hnd
    cases r with
    | nil => rfl
    | cons b r =>
      have h1 := (hm a).1 (by simp)
      have h2 := (hm b).1 (by simp)
      simp [h1, h2] at hnd
/-- What no set meets in just one symbol is not known. -/
theorem Kn.not {ls : List (List Int)} {p : Int → Bool} (hn : ∀ l ∈ ls, l.Nodup) (h : ∀ l ∈ ls, cnt p l ≠ 1) {s : Int} (hk : Kn ls s) : p s = false := by
  induction hk with
  | mk l s hl hs _ ih =>
    cases hp : p s with
    | false => rfl
    | true => exact absurd (cnt_one_of (hn l hl) hs hp ih) (h l hl)
theorem Kn.mono {ls ls' : List (List Int)} (h : ∀ l ∈ ls, l ∈ ls') {s : Int} (hk : Kn ls s) : Kn ls' s := by
  induction hk with
  | mk l s hl hs _ ih => exact .mk l s (h l hl) hs ih
theorem Kn.mem {ls : List (List Int)} {s : Int} (hk : Kn ls s) : ∃ l ∈ ls, s ∈ l := by
  cases hk with
  | mk l _ hl hs _ => exact ⟨l, hl, hs⟩
/-- The only one of a set that is not known, if all that is so is known but what p says. -/
theorem Kn.of_cnt {ls : List (List Int)} {p : Int → Bool} {l : List Int} (hl : l ∈ ls) (h : cnt p l = 1) (hp : ∀ x ∈ l, p x = false → Kn ls x) {s : Int} (hs : s ∈ l) (hps : p s = true) : Kn ls s := by
  obtain ⟨s', h1, h2, h3⟩ := cnt_one h
  obtain rfl := h3 s hs hps
  exact .mk l s hl hs fun x hx hne => hp x hx (by
    cases hq : p x with
    | false => rfl
    | true => exact absurd (h3 x hx hq) hne)

def belowI (k : Int) : List Int := (List.range k.toNat).map (fun i : Nat => (i : Int))
theorem belowI_len (k : Int) : (belowI k).length = k.toNat := by simp [belowI]
theorem belowI_get {k : Int} {i : Nat} (h : i < k.toNat) : (belowI k).getD i 0 = i := by simp [belowI, List.getD_eq_getElem?_getD, h]
theorem mem_belowI {k x : Int} : x ∈ belowI k ↔ 0 ≤ x ∧ x < k := by
  simp only [belowI, List.mem_map, List.mem_range]
  constructor
  · rintro ⟨i, h, rfl⟩; omega
  · rintro ⟨h1, h2⟩; exact ⟨x.toNat, by omega, by omega⟩
theorem belowI_sorted (k : Int) : (belowI k).Pairwise (· < ·) := by
  unfold belowI
  rw [List.pairwise_map]
  exact List.pairwise_lt_range.imp fun h => by omega
open Classical in
/-- What is known, and what is not, in order. -/
noncomputable def knownL (k : Int) (ls : List (List Int)) : List Int := (belowI k).filter fun s => decide (Kn ls s)
open Classical in
noncomputable def largeL (k : Int) (ls : List (List Int)) : List Int := (belowI k).filter fun s => !decide (Kn ls s)
theorem mem_known {k : Int} {ls : List (List Int)} {s : Int} : s ∈ knownL k ls ↔ (0 ≤ s ∧ s < k) ∧ Kn ls s := by
  unfold knownL; rw [List.mem_filter, mem_belowI]; simp
theorem mem_large {k : Int} {ls : List (List Int)} {s : Int} : s ∈ largeL k ls ↔ (0 ≤ s ∧ s < k) ∧ ¬ Kn ls s := by
  unfold largeL; rw [List.mem_filter, mem_belowI]; simp
theorem known_of {k : Int} {ls : List (List Int)} (p : Int → Bool) (h : ∀ s, 0 ≤ s → s < k → (p s = true ↔ ¬ Kn ls s)) : knownL k ls = (belowI k).filter (fun s => !p s) ∧ largeL k ls = (belowI k).filter p := by
  constructor
  · refine List.filter_congr fun s hs => ?_
    have := h s (mem_belowI.1 hs).1 (mem_belowI.1 hs).2
    cases hp : p s <;> simp_all
  · refine List.filter_congr fun s hs => ?_
    have := h s (mem_belowI.1 hs).1 (mem_belowI.1 hs).2
    cases hp : p s <;> simp_all
theorem known_sorted (k : Int) (ls : List (List Int)) : (knownL k ls).Pairwise (· < ·) := (belowI_sorted k).sublist List.filter_sublist
theorem large_sorted (k : Int) (ls : List (List Int)) : (largeL k ls).Pairwise (· < ·) := (belowI_sorted k).sublist List.filter_sublist
theorem isSet_of {k : Int} : ∀ {l : List Int} {a : Int}, (a :: l).Pairwise (· < ·) → (∀ x ∈ l, x < k) → upFrom k a l = true
  | [], _, _, _ => rfl
  | x :: r, a, h, hk => by
    obtain ⟨h1, h2⟩ := List.pairwise_cons.1 h
    simp only [upFrom, Bool.and_eq_true, decide_eq_true_eq]
    exact ⟨h1 x (by simp), hk x (by simp), isSet_of h2 fun y hy => hk y (by simp [hy])⟩
theorem isSet_iff {k : Int} {l : List Int} : isSet k l = true ↔ l ≠ [] ∧ l.Pairwise (· < ·) ∧ ∀ x ∈ l, 0 ≤ x ∧ x < k := by
  constructor
  · intro h
    have h1 := isSet_sorted h
    refine ⟨fun e => by subst e; simp [isSet] at h, ?_, fun x hx => ?_⟩
    · rw [List.pairwise_iff_getElem]
      intro i j hi hj hij
      have := h1.2 i j hij hj
      simpa [List.getD_eq_getElem?_getD, hi, hj] using this
    · obtain ⟨i, hi, rfl⟩ := mem_getD.1 hx; exact h1.1 i hi
  · rintro ⟨h1, h2, h3⟩
    simp only [isSet, Bool.and_eq_true, decide_eq_true_eq]
    exact ⟨isSet_of (List.pairwise_cons.2 ⟨fun x hx => by have := h3 x hx; omega, h2⟩) fun x hx => (h3 x hx).2, List.length_pos_iff.2 h1⟩
theorem isSet_nodup {k : Int} {l : List Int} (h : isSet k l = true) : l.Nodup := nodup_sorted (isSet_sorted h).2
/-- How many are so, one of them taken away. -/
theorem cnt_drop {p q : Int → Bool} {s : Int} (hs : p s = true) (hq : q s = false) (h : ∀ x, x ≠ s → q x = p x) : ∀ {l : List Int}, l.Nodup → cnt p l = cnt q l + if s ∈ l then 1 else 0
  | [], _ => rfl
  | x :: r, hn => by
    obtain ⟨h1, h2⟩ := List.nodup_cons.1 hn
    have ih := cnt_drop hs hq h h2
    unfold cnt at ih ⊢
    rw [List.filter_cons, List.filter_cons]
    by_cases e : x = s
    · subst e
      rw [if_pos hs, if_neg (by simp [hq]), List.length_cons, ih, if_neg h1, if_pos (by simp)]
    · rw [h x e]
      have hm : s ∈ x :: r ↔ s ∈ r := by simp [Ne.symm e]
      simp only [hm]
      cases p x <;> simp <;> omega
theorem stopE_zero {k : Int} {ls : List (List Int)} (h : stopE k ls = 0) : 1 ≤ k ∧ k ≤ 65536 ∧ ∀ l ∈ ls, isSet k l = true := by
  unfold stopE at h
  split at h
  · cases h
  · split at h
    · cases h
    · rename_i h1 h2
      refine ⟨by omega, by omega, fun l hl => ?_⟩
      cases hs : isSet k l with
      | true => rfl
      | false => exact absurd (List.any_eq_true.2 ⟨l, hl, by simp [hs]⟩) h2
end Go.Art
