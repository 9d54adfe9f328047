/- More sets never make less known: the law. Conditions: none. -/
import Derived.Test.YtoapghakfcdflaaStopK
set_option linter.unusedSimpArgs false
set_option linter.unusedVariables false
namespace Go.Art
open Go Go.Proofs Go.RowKit
attribute [local irreducible] Fit pt own ro vw mpc lpt vels rels mow lrc dfr
theorem has_els_head {F : List Ch} {v : Value} {l : List Int} {hs : List Value} {ls : List (List Int)} (h : Has F (vels (v :: hs) (l :: ls))) : Has F (vw v (Is l)) := has_el (i := 0) h (by simp)
theorem has_els_tail {F : List Ch} {v : Value} {l : List Int} {hs : List Value} {ls : List (List Int)} (h : Has F (vels (v :: hs) (l :: ls))) : Has F (vels hs ls) := by
  have hb : ∀ b, (vels hs ls).ft b → (vels (v :: hs) (l :: ls)).ft b := fun b hb => by
    unfold vels at *
    rcases hb with hb | hb | ⟨i, hi, h1, h2⟩
    · exact hb.elim
    · exact hb.elim
    · exact .inr (.inr ⟨i + 1, by simpa using hi, h1, h2⟩)
  refine ⟨fun w hw => ?_, fun b h => by unfold vels at h; exact h, fun b h => by unfold vels at h; exact h, fun b hx => h.ft b (hb b hx)⟩
  have h1 := h.P w hw
  unfold vels at *
  exact ⟨Nat.succ.inj h1.1, fun i hi => h1.2 (i + 1) (by simpa using hi)⟩
theorem has_els_snoc {F : List Ch} {v : Value} {l : List Int} {hs : List Value} {ls : List (List Int)} (hl : hs.length = ls.length) (k : Has F (vels hs ls)) (h : Has F (vw v (Is l))) : Has F (vels (hs ++ [v]) (ls ++ [l])) := by
  induction hs generalizing ls with
  | nil =>
    cases ls with
    | nil => exact has_els_cons h has_els_nil
    | cons _ _ => simp at hl
  | cons a r ih =>
    cases ls with
    | nil => simp at hl
    | cons b q =>
      have h1 : Has F (vels r q) := has_els_tail k
      exact has_els_cons (has_els_head k) (ih (by simpa using hl) h1)
theorem has_els_rev {F : List Ch} : ∀ {hs : List Value} {ls : List (List Int)}, hs.length = ls.length → Has F (vels hs ls) → Has F (vels hs.reverse ls.reverse)
  | [], [], _, h => h
  | _ :: _, [], hl, _ => by simp at hl
  | [], _ :: _, hl, _ => by simp at hl
  | a :: r, b :: q, hl, h => by
    rw [List.reverse_cons, List.reverse_cons]
    exact has_els_snoc (by simpa using hl) (has_els_rev (by simpa using hl) (has_els_tail h)) (has_els_head h)

theorem Kn_congr {ls ls' : List (List Int)} (h : ∀ l, l ∈ ls ↔ l ∈ ls') (s : Int) : Kn ls s ↔ Kn ls' s := ⟨Kn.mono fun l hl => (h l).1 hl, Kn.mono fun l hl => (h l).2 hl⟩
theorem known_congr {k : Int} {ls ls' : List (List Int)} (h : ∀ s, Kn ls s ↔ Kn ls' s) : knownL k ls = knownL k ls' := by
  unfold knownL
  exact List.filter_congr fun s _ => by rw [decide_eq_decide]; exact h s
theorem Kn_add {k : Int} {ls ls' : List (List Int)} (h : ∀ l, l ∈ ls' ↔ l ∈ ls ∨ l = knownL k ls) (s : Int) : Kn ls' s ↔ Kn ls s := by
  refine ⟨fun hk => ?_, Kn.mono fun l hl => (h l).2 (.inl hl)⟩
  induction hk with
  | mk l s hl hs _ ih =>
    rcases (h l).1 hl with h1 | rfl
    · exact .mk l s h1 hs ih
    · exact (mem_known.1 hs).2
theorem filter_sub {p q : Int → Bool} {l : List Int} (h : ∀ x, p x = true → q x = true) : (l.filter p).Sublist (l.filter q) := by
  have : l.filter p = (l.filter q).filter p := by
    rw [List.filter_filter]
    refine List.filter_congr fun x _ => ?_
    cases hp : p x with
    | false => rfl
    | true => rw [h x hp]; rfl
  rw [this]; exact List.filter_sublist
open Classical in
theorem known_sub {k : Int} {ls ls' : List (List Int)} (h : ∀ l ∈ ls, l ∈ ls') : (knownL k ls).Sublist (knownL k ls') := by
  unfold knownL
  exact filter_sub fun x hx => decide_eq_true ((of_decide_eq_true hx : Kn ls x).mono h)
theorem knownR_sets {k : Int} (hk : 1 ≤ k ∧ k ≤ 65536) {ls : List (List Int)} (h : ∀ l ∈ ls, isSet k l = true) : knownR k ls = knownL k ls := by rw [knownR, if_pos (stopE_sets hk h)]
theorem setsL_len (k : Int) (zs : List Int) : (setsL k zs).length ≤ zs.length := by
  unfold setsL; exact Nat.le_trans (List.length_filter_le _ _) (by simp)
/-- One step of looking a list up in a longer one. -/
theorem sub_step {a b : List Int} {i j : Nat} (h : (a.drop j).Sublist (b.drop i)) (hi : i < b.length) : (j < a.length → b.getD i 0 = a.getD j 0 → (a.drop (j + 1)).Sublist (b.drop (i + 1))) ∧ ((j < a.length → b.getD i 0 ≠ a.getD j 0) → (a.drop j).Sublist (b.drop (i + 1))) := by
  rw [List.drop_eq_getElem_cons hi] at h
  have hb : b.getD i 0 = b[i] := by simp [List.getD_eq_getElem?_getD, hi]
  rw [hb]
  constructor
  · intro hj e
    rw [List.drop_eq_getElem_cons hj] at h
    have ha : a.getD j 0 = a[j] := by simp [List.getD_eq_getElem?_getD, hj]
    rw [e, ha] at h
    exact List.cons_sublist_cons.1 h
  · intro hne
    by_cases hj : j < a.length
    · have ha : a.getD j 0 = a[j] := by simp [List.getD_eq_getElem?_getD, hj]
      rw [List.drop_eq_getElem_cons hj] at h ⊢
      rcases List.sublist_cons_iff.1 h with h1 | ⟨r, h1, h2⟩
      · exact h1
      · exact absurd (List.cons.inj h1).1.symm (ha ▸ hne hj)
    · rw [List.drop_eq_nil_of_le (by omega)]; exact List.nil_sublist _
end Go.Art
