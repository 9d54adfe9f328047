/- The law SubsetBack. Conditions: none. -/
import Derived.Test.YtoapghakfcdflaaSubG
set_option linter.unusedSimpArgs false
set_option linter.unusedVariables false
namespace Go.Art
open Go Go.Proofs Go.RowKit

/-! ### Plain -/
def Inj (l : List Int) : Prop := ∀ s t : Nat, s < l.length → t < l.length → l.getD s 0 = l.getD t 0 → s = t
theorem Inj.upto (k : Nat) : Inj (upto k) := fun s t hs ht h => by
  rw [upto_length] at hs ht
  rw [upto_get k s hs, upto_get k t ht] at h
  omega
theorem Inj.swp {l : List Int} (h : Inj l) {i j : Nat} (hi : i < l.length) (hj : j < l.length) : Inj (swp l i j) := fun s t hs ht e => by
  rw [swp_length] at hs ht
  have hg : ∀ t : Nat, (Art.swp l i j).getD t 0 = l.getD (if t = i then j else if t = j then i else t) 0 := fun t => by
    rw [swp_get l t hi hj]
    by_cases h1 : t = i
    · rw [if_pos h1, if_pos h1]
    · by_cases h2 : t = j
      · rw [if_neg h1, if_neg h1, if_pos h2, if_pos h2]
      · rw [if_neg h1, if_neg h1, if_neg h2, if_neg h2]
  rw [hg s, hg t] at e
  have := h _ _ (by split <;> (try split) <;> omega) (by split <;> (try split) <;> omega) e
  split at this <;> split at this <;> (try split at this) <;> (try split at this) <;> omega
theorem Fit.iff {k : Int} : ∀ {i : Nat} {ds : List Int}, Fit k i ds ↔ ∀ j : Nat, j < ds.length → 0 ≤ ds.getD j 0 ∧ ds.getD j 0 < k - i - j
  | i, [] => by simp [Fit]
  | i, d :: ds => by
    simp only [Fit]
    constructor
    · rintro ⟨h1, h2, h3⟩ j hj
      cases j with
      | zero => exact ⟨h1, by simpa using h2⟩
      | succ j =>
        have := Fit.iff.1 h3 j (by simpa using hj)
        simp only [List.getD_cons_succ]
        exact ⟨this.1, by have := this.2; omega⟩
    · intro h
      have h0 := h 0 (by simp)
      refine ⟨by simpa using h0.1, by simpa using h0.2, Fit.iff.2 fun j hj => ?_⟩
      have := h (j + 1) (by simpa using hj)
      simp only [List.getD_cons_succ] at this
      exact ⟨this.1, by have := this.2; omega⟩
theorem od_length : ∀ (ds l : List Int) (i : Nat), (od l i ds).length = ds.length
  | [], _, _ => rfl
  | d :: ds, l, i => by simp [od, od_length ds]
theorem od_mem : ∀ {ds l : List Int} {i : Nat}, Fit l.length i ds → ∀ y ∈ od l i ds, ∃ t, i ≤ t ∧ t < l.length ∧ l.getD t 0 = y
  | [], _, _, _, y, h => by simp [od] at h
  | d :: ds, l, i, hf, y, h => by
    obtain ⟨h1, h2, h3⟩ := hf
    simp only [od, List.mem_cons] at h
    have hij : i + d.toNat < l.length := by omega
    rcases h with rfl | h
    · exact ⟨i + d.toNat, by omega, hij, rfl⟩
    · obtain ⟨t, ht, htl, rfl⟩ := od_mem (l := swp l i (i + d.toNat)) (by rw [swp_length]; exact h3) y h
      rw [swp_length] at htl
      rw [swp_get l t (by omega) hij, if_neg (by omega)]
      by_cases e : t = i + d.toNat
      · rw [if_pos e]; exact ⟨i, Nat.le_refl _, by omega, rfl⟩
      · rw [if_neg e]; exact ⟨t, by omega, htl, rfl⟩
theorem od_nodup : ∀ {ds l : List Int} {i : Nat}, Fit l.length i ds → Inj l → (od l i ds).Nodup
  | [], _, _, _, _ => by simp [od]
  | d :: ds, l, i, hf, hl => by
    obtain ⟨h1, h2, h3⟩ := hf
    have hij : i + d.toNat < l.length := by omega
    have hi : i < l.length := by omega
    simp only [od, List.nodup_cons]
    have hf' : Fit (swp l i (i + d.toNat)).length (i + 1) ds := by rw [swp_length]; exact h3
    refine ⟨fun hm => ?_, od_nodup hf' (hl.swp hi hij)⟩
    obtain ⟨t, ht, htl, e⟩ := od_mem hf' _ hm
    have hx : (swp l i (i + d.toNat)).getD i 0 = l.getD (i + d.toNat) 0 := by rw [swp_get l i hi hij, if_pos rfl]
    rw [← hx] at e
    have := hl.swp hi hij t i htl (by rw [swp_length]; exact hi) e
    omega
theorem rk_of_od : ∀ {ds l : List Int} {i : Nat}, Fit l.length i ds → Inj l → rk l i (od l i ds) = some ds
  | [], _, _, _, _ => rfl
  | d :: ds, l, i, hf, hl => by
    obtain ⟨h1, h2, h3⟩ := hf
    have hij : i + d.toNat < l.length := by omega
    have hi : i < l.length := by omega
    have hs : seek l i (l.getD (i + d.toNat) 0) = some d.toNat := seek_some hij rfl fun e he q => by
      have := hl _ _ (by omega) hij q
      omega
    simp only [od, rk]
    rw [hs]
    dsimp only
    rw [rk_of_od (by rw [swp_length]; exact h3) (hl.swp hi hij)]
    simp only [Option.map_some, Option.some.injEq, List.cons.injEq, and_true]
    omega

abbrev Bs (l : List Bool) : List Value := l.map Value.bool
theorem Bs_len (l : List Bool) : (Bs l).length = l.length := List.length_map ..
theorem Sl.getb {w : World} {v : Value} {l : List Bool} (h : Sl w v (Bs l)) {i : Nat} (hi : i < l.length) : w.cell? (addrAt v i) = some (.bool (l.getD i false)) :=
  h.cell (by simp [List.getD_eq_getElem?_getD, hi])

structure FineG where
  i : Nat
  o : Value
  og : Option Nat
  ds : List Int
structure SeenG where
  i : Nat
  bs : List Bool

theorem getD_mem {l : List Int} {i : Nat} (h : i < l.length) : l.getD i 0 ∈ l := by
  rw [List.getD_eq_getElem?_getD, List.getElem?_eq_getElem h]; exact List.getElem_mem h
theorem take_mem_iff {l : List Int} (hn : l.Nodup) {i : Nat} (h : i < l.length) : l.getD i 0 ∉ l.take i := by
  intro hm
  have : l = l.take i ++ l.getD i 0 :: l.drop (i + 1) := by rw [← drop_get l i h, List.take_append_drop]
  rw [this] at hn
  exact (List.nodup_append.1 hn).2.2 _ hm _ (List.mem_cons_self ..) rfl
theorem getD_app1 {l m : List Int} {j : Nat} (h : j < l.length) : (l ++ m).getD j 0 = l.getD j 0 := by
  simp [List.getD_eq_getElem?_getD, List.getElem?_append_left h]
theorem take_step {l : List Int} {i : Nat} (h : i < l.length) : l.take (i + 1) = l.take i ++ [l.getD i 0] := by
  rw [List.take_succ_eq_append_getElem h, List.getD_eq_getElem?_getD, List.getElem?_eq_getElem h]; rfl

theorem srt_nodup {l : List Int} (h : l.Nodup) : (srt l).Nodup := (srt_perm l).nodup_iff.2 h
theorem strict {l : List Int} (hs : l.Pairwise (· ≤ ·)) (hn : l.Nodup) {i : Nat} (h : i + 1 < l.length) : l.getD i 0 < l.getD (i + 1) 0 := by
  have h1 := List.pairwise_iff_getElem.1 hs i (i + 1) (by omega) h (by omega)
  have h2 := List.pairwise_iff_getElem.1 hn i (i + 1) (by omega) h (by omega)
  have e1 : l.getD i 0 = l[i] := by rw [List.getD_eq_getElem?_getD, List.getElem?_eq_getElem (by omega)]; rfl
  have e2 : l.getD (i + 1) 0 = l[i + 1] := by rw [List.getD_eq_getElem?_getD, List.getElem?_eq_getElem h]; rfl
  rw [e1, e2]
  omega
theorem Bs_set (l : List Bool) (i : Nat) (x : Bool) : Bs (l.set i x) = (Bs l).set i (.bool x) := List.map_set ..
theorem getB_set (l : List Bool) (i t : Nat) (x : Bool) (h : i < l.length) : (l.set i x).getD t false = if t = i then x else l.getD t false := by
  simp only [List.getD_eq_getElem?_getD, List.getElem?_set]
  by_cases e : t = i
  · subst e; simp [h]
  · simp [Ne.symm e, e]

set_option maxHeartbeats 2000000 in
theorem SubsetBack_fn (k0 d0 : Int) (q : Value) (row : List Int) (w : World) (hq : Sl w q (Is row)) :
    Fn Try.prog 17 [I k0, I d0, q] w fun v w' => v = .bool true ∧ Ext w w' := by
  have hql := Is_len row
  have hqn := hq.len
  have hp := pick_lt k0 60 (by decide)
  have hp2 := pick_lt d0 (1 + pick k0 60) (by omega)
  refine Fn.enter env _ Try.func17 (by kernel_rfl) rfl Try.ntmps17 rfl ?_
  repeat' (first | refine SC_seq ?_ | refine SC_region ?_ | refine SO_nil ?_ | refine SX_code ?_ | refine SC_skip ?_ | refine SC_block ?_ | refine SC_e rfl ?_ | refine SC_r ?_ | refine SX_block ?_ | (refine GO ?_; (first | (refine SO_b ?_; (first | refine SO_v rfl (R_wrap (R_auto (E := env) rfl) (by omega)) ?_ | refine SO_v rfl (R_true (R_auto (E := env) rfl) (by first | with_reducible rfl | omega)) ?_ | refine SO_v rfl (R_false (R_auto (E := env) rfl) (by omega)) ?_ | refine SO_v rfl (R_nfalse (R_auto (E := env) rfl) (by first | with_reducible rfl | omega)) ?_ | refine SO_v rfl (R_ntrue (R_auto (E := env) rfl) (by omega)) ?_ | refine SO_a rfl rfl ?_ | refine SO_v rfl (R_ptrEqNil (E := env) rfl rfl) ?_ | refine SO_v rfl (R_ptrNeNil (E := env) rfl rfl) ?_ | refine SO_v rfl (R_slEqNil (E := env) rfl rfl) ?_ | refine SO_v rfl (R_ifEqNil (E := env) rfl rfl) ?_ | refine SO_v rfl (R_ifNilEqNil (E := env) rfl rfl) ?_ | refine SO_v rfl (R_boolEq (E := env) rfl rfl rfl) ?_)) | refine SO_a rfl rfl ?_ | refine SO_v rfl (R_load (E := env) rfl rfl rfl (by first | exact blk_cell (by assumption) rfl | assumption)) ?_ | refine SO_v rfl (R_len (E := env) rfl rfl (by assumption)) ?_ | refine SO_v rfl (R_idx (E := env) rfl rfl rfl rfl (by assumption) (by omega)) ?_ | refine SO_v rfl (R_pick_ht rfl (by assumption) rfl) ?_ | refine SO_v rfl (R_pick_hf rfl (by assumption) rfl) ?_ | refine SO_yes rfl rfl rfl ?_ | refine SO_no rfl rfl rfl rfl rfl ?_ | refine SO_nu rfl rfl rfl rfl ?_ | (refine SO_gsplit rfl rfl (fun hB => ?_) (fun hB => ?_) <;> (have hP := hB; (try simp only [decide_eq_true_eq, decide_eq_false_iff_not, Bool.not_eq_true', Bool.not_eq_false', Int.not_lt, Int.not_le] at hP); (try (exfalso; omega)))))) | (refine GC_cond ?_; (first | refine SC_cond_t rfl ?_ | refine SC_cond_f rfl ?_ | refine SC_cond_ht rfl (by assumption) ?_ | refine SC_cond_hf rfl (by assumption) ?_ | (refine SC_cond rfl (fun hB => ?_) (fun hB => ?_) <;> (have hP := hB; (try simp only [decide_eq_true_eq, decide_eq_false_iff_not, Bool.not_eq_true', Bool.not_eq_false', Int.not_lt, Int.not_le] at hP); (try (exfalso; omega)))))))
  refine SO_call rfl rfl (SubsetKnown_fn w) ?_
  rintro v w1 ⟨rfl, hE1⟩
  repeat' (first | refine SC_seq ?_ | refine SC_region ?_ | refine SO_nil ?_ | refine SX_code ?_ | refine SC_skip ?_ | refine SC_block ?_ | refine SC_e rfl ?_ | refine SC_r ?_ | refine SX_block ?_ | (refine GO ?_; (first | (refine SO_b ?_; (first | refine SO_v rfl (R_wrap (R_auto (E := env) rfl) (by omega)) ?_ | refine SO_v rfl (R_true (R_auto (E := env) rfl) (by first | with_reducible rfl | omega)) ?_ | refine SO_v rfl (R_false (R_auto (E := env) rfl) (by omega)) ?_ | refine SO_v rfl (R_nfalse (R_auto (E := env) rfl) (by first | with_reducible rfl | omega)) ?_ | refine SO_v rfl (R_ntrue (R_auto (E := env) rfl) (by omega)) ?_ | refine SO_a rfl rfl ?_ | refine SO_v rfl (R_ptrEqNil (E := env) rfl rfl) ?_ | refine SO_v rfl (R_ptrNeNil (E := env) rfl rfl) ?_ | refine SO_v rfl (R_slEqNil (E := env) rfl rfl) ?_ | refine SO_v rfl (R_ifEqNil (E := env) rfl rfl) ?_ | refine SO_v rfl (R_ifNilEqNil (E := env) rfl rfl) ?_ | refine SO_v rfl (R_boolEq (E := env) rfl rfl rfl) ?_)) | refine SO_a rfl rfl ?_ | refine SO_v rfl (R_load (E := env) rfl rfl rfl (by first | exact blk_cell (by assumption) rfl | assumption)) ?_ | refine SO_v rfl (R_len (E := env) rfl rfl (by assumption)) ?_ | refine SO_v rfl (R_idx (E := env) rfl rfl rfl rfl (by assumption) (by omega)) ?_ | refine SO_v rfl (R_pick_ht rfl (by assumption) rfl) ?_ | refine SO_v rfl (R_pick_hf rfl (by assumption) rfl) ?_ | refine SO_yes rfl rfl rfl ?_ | refine SO_no rfl rfl rfl rfl rfl ?_ | refine SO_nu rfl rfl rfl rfl ?_ | (refine SO_gsplit rfl rfl (fun hB => ?_) (fun hB => ?_) <;> (have hP := hB; (try simp only [decide_eq_true_eq, decide_eq_false_iff_not, Bool.not_eq_true', Bool.not_eq_false', Int.not_lt, Int.not_le] at hP); (try (exfalso; omega)))))) | (refine GC_cond ?_; (first | refine SC_cond_t rfl ?_ | refine SC_cond_f rfl ?_ | refine SC_cond_ht rfl (by assumption) ?_ | refine SC_cond_hf rfl (by assumption) ?_ | (refine SC_cond rfl (fun hB => ?_) (fun hB => ?_) <;> (have hP := hB; (try simp only [decide_eq_true_eq, decide_eq_false_iff_not, Bool.not_eq_true', Bool.not_eq_false', Int.not_lt, Int.not_le] at hP); (try (exfalso; omega)))))))
  refine SO_call rfl rfl (Pick_fn _ _ w1 (by decide)) ?_
  rintro v w' ⟨rfl, h'⟩
  subst h'
  repeat' (first | refine SC_seq ?_ | refine SC_region ?_ | refine SO_nil ?_ | refine SX_code ?_ | refine SC_skip ?_ | refine SC_block ?_ | refine SC_e rfl ?_ | refine SC_r ?_ | refine SX_block ?_ | (refine GO ?_; (first | (refine SO_b ?_; (first | refine SO_v rfl (R_wrap (R_auto (E := env) rfl) (by omega)) ?_ | refine SO_v rfl (R_true (R_auto (E := env) rfl) (by first | with_reducible rfl | omega)) ?_ | refine SO_v rfl (R_false (R_auto (E := env) rfl) (by omega)) ?_ | refine SO_v rfl (R_nfalse (R_auto (E := env) rfl) (by first | with_reducible rfl | omega)) ?_ | refine SO_v rfl (R_ntrue (R_auto (E := env) rfl) (by omega)) ?_ | refine SO_a rfl rfl ?_ | refine SO_v rfl (R_ptrEqNil (E := env) rfl rfl) ?_ | refine SO_v rfl (R_ptrNeNil (E := env) rfl rfl) ?_ | refine SO_v rfl (R_slEqNil (E := env) rfl rfl) ?_ | refine SO_v rfl (R_ifEqNil (E := env) rfl rfl) ?_ | refine SO_v rfl (R_ifNilEqNil (E := env) rfl rfl) ?_ | refine SO_v rfl (R_boolEq (E := env) rfl rfl rfl) ?_)) | refine SO_a rfl rfl ?_ | refine SO_v rfl (R_load (E := env) rfl rfl rfl (by first | exact blk_cell (by assumption) rfl | assumption)) ?_ | refine SO_v rfl (R_len (E := env) rfl rfl (by assumption)) ?_ | refine SO_v rfl (R_idx (E := env) rfl rfl rfl rfl (by assumption) (by omega)) ?_ | refine SO_v rfl (R_pick_ht rfl (by assumption) rfl) ?_ | refine SO_v rfl (R_pick_hf rfl (by assumption) rfl) ?_ | refine SO_yes rfl rfl rfl ?_ | refine SO_no rfl rfl rfl rfl rfl ?_ | refine SO_nu rfl rfl rfl rfl ?_ | (refine SO_gsplit rfl rfl (fun hB => ?_) (fun hB => ?_) <;> (have hP := hB; (try simp only [decide_eq_true_eq, decide_eq_false_iff_not, Bool.not_eq_true', Bool.not_eq_false', Int.not_lt, Int.not_le] at hP); (try (exfalso; omega)))))) | (refine GC_cond ?_; (first | refine SC_cond_t rfl ?_ | refine SC_cond_f rfl ?_ | refine SC_cond_ht rfl (by assumption) ?_ | refine SC_cond_hf rfl (by assumption) ?_ | (refine SC_cond rfl (fun hB => ?_) (fun hB => ?_) <;> (have hP := hB; (try simp only [decide_eq_true_eq, decide_eq_false_iff_not, Bool.not_eq_true', Bool.not_eq_false', Int.not_lt, Int.not_le] at hP); (try (exfalso; omega)))))))
  refine SO_call rfl rfl (Pick_fn _ _ _ (by omega)) ?_
  rintro v w' ⟨rfl, h'⟩
  subst h'
  repeat' (first | refine SC_seq ?_ | refine SC_region ?_ | refine SO_nil ?_ | refine SX_code ?_ | refine SC_skip ?_ | refine SC_block ?_ | refine SC_e rfl ?_ | refine SC_r ?_ | refine SX_block ?_ | (refine GO ?_; (first | (refine SO_b ?_; (first | refine SO_v rfl (R_wrap (R_auto (E := env) rfl) (by omega)) ?_ | refine SO_v rfl (R_true (R_auto (E := env) rfl) (by first | with_reducible rfl | omega)) ?_ | refine SO_v rfl (R_false (R_auto (E := env) rfl) (by omega)) ?_ | refine SO_v rfl (R_nfalse (R_auto (E := env) rfl) (by first | with_reducible rfl | omega)) ?_ | refine SO_v rfl (R_ntrue (R_auto (E := env) rfl) (by omega)) ?_ | refine SO_a rfl rfl ?_ | refine SO_v rfl (R_ptrEqNil (E := env) rfl rfl) ?_ | refine SO_v rfl (R_ptrNeNil (E := env) rfl rfl) ?_ | refine SO_v rfl (R_slEqNil (E := env) rfl rfl) ?_ | refine SO_v rfl (R_ifEqNil (E := env) rfl rfl) ?_ | refine SO_v rfl (R_ifNilEqNil (E := env) rfl rfl) ?_ | refine SO_v rfl (R_boolEq (E := env) rfl rfl rfl) ?_)) | refine SO_a rfl rfl ?_ | refine SO_v rfl (R_load (E := env) rfl rfl rfl (by first | exact blk_cell (by assumption) rfl | assumption)) ?_ | refine SO_v rfl (R_len (E := env) rfl rfl (by assumption)) ?_ | refine SO_v rfl (R_idx (E := env) rfl rfl rfl rfl (by assumption) (by omega)) ?_ | refine SO_v rfl (R_pick_ht rfl (by assumption) rfl) ?_ | refine SO_v rfl (R_pick_hf rfl (by assumption) rfl) ?_ | refine SO_yes rfl rfl rfl ?_ | refine SO_no rfl rfl rfl rfl rfl ?_ | refine SO_nu rfl rfl rfl rfl ?_ | (refine SO_gsplit rfl rfl (fun hB => ?_) (fun hB => ?_) <;> (have hP := hB; (try simp only [decide_eq_true_eq, decide_eq_false_iff_not, Bool.not_eq_true', Bool.not_eq_false', Int.not_lt, Int.not_le] at hP); (try (exfalso; omega)))))) | (refine GC_cond ?_; (first | refine SC_cond_t rfl ?_ | refine SC_cond_f rfl ?_ | refine SC_cond_ht rfl (by assumption) ?_ | refine SC_cond_hf rfl (by assumption) ?_ | (refine SC_cond rfl (fun hB => ?_) (fun hB => ?_) <;> (have hP := hB; (try simp only [decide_eq_true_eq, decide_eq_false_iff_not, Bool.not_eq_true', Bool.not_eq_false', Int.not_lt, Int.not_le] at hP); (try (exfalso; omega)))))))
  generalize hk : 1 + pick k0 60 = k at *
  generalize hd : 1 + pick d0 k = d at *
  have hz1 := hE1.size
  refine SC_loop (ι := FineG) (fun g => [(0, I k), (1, I d), (2, q), (7, .bool true), (8, g.o), (9, I g.i)])
    (fun g W => Ext w W ∧ (g.i : Int) ≤ d ∧ Own W 3 g.og g.o (Is g.ds) ∧ (∀ b, g.og = some b → w.heap.size ≤ b) ∧ g.ds.length = g.i ∧ ∀ j : Nat, j < g.i → 0 ≤ g.ds.getD j 0 ∧ g.ds.getD j 0 < k - j)
    (fun g => d.toNat - g.i) ⟨0, .slice none 0 0, none, []⟩ ⟨hE1, by dsimp only; omega, Own.nil _ _, by simp, rfl, fun j hj => by simp at hj⟩ (by (repeat (refine Sub.cons rfl (by first | rfl | go_num) ?_)); exact Sub.nil) ?_
  rintro ⟨i, o, og, ds⟩ W ⟨hE, hi, hO, hog, hds, hfit⟩
  dsimp only at hi hO hog hds hfit ⊢
  have hz := hE.size
  by_cases hid : (i : Int) < d
  · have hstep : ∀ (n : Int), (0 ≤ n ∧ n < k - i) → ∀ (fr : Fr), True := fun _ _ _ => trivial
    by_cases hir : (i : Int) < (Is row).length
    · have hpk := pick_lt (row.getD ((i : Int)).toNat 0) (k - i) (by omega)
      repeat' (first | refine SC_seq ?_ | refine SC_region ?_ | refine SO_nil ?_ | refine SX_code ?_ | refine SC_skip ?_ | refine SC_block ?_ | refine SC_e rfl ?_ | refine SC_r ?_ | refine SX_block ?_ | (refine GO ?_; (first | (refine SO_b ?_; (first | refine SO_v rfl (R_wrap (R_auto (E := env) rfl) (by omega)) ?_ | refine SO_v rfl (R_true (R_auto (E := env) rfl) (by first | with_reducible rfl | omega)) ?_ | refine SO_v rfl (R_false (R_auto (E := env) rfl) (by omega)) ?_ | refine SO_v rfl (R_nfalse (R_auto (E := env) rfl) (by first | with_reducible rfl | omega)) ?_ | refine SO_v rfl (R_ntrue (R_auto (E := env) rfl) (by omega)) ?_ | refine SO_a rfl rfl ?_ | refine SO_v rfl (R_ptrEqNil (E := env) rfl rfl) ?_ | refine SO_v rfl (R_ptrNeNil (E := env) rfl rfl) ?_ | refine SO_v rfl (R_slEqNil (E := env) rfl rfl) ?_ | refine SO_v rfl (R_ifEqNil (E := env) rfl rfl) ?_ | refine SO_v rfl (R_ifNilEqNil (E := env) rfl rfl) ?_ | refine SO_v rfl (R_boolEq (E := env) rfl rfl rfl) ?_)) | refine SO_a rfl rfl ?_ | refine SO_v rfl (R_load (E := env) rfl rfl rfl (by first | exact (hq.ext (by assumption)).geti (by omega) | exact blk_cell (by assumption) rfl | assumption)) ?_ | refine SO_v rfl (R_len (E := env) rfl rfl (by first | exact hq.ext (by assumption) | assumption)) ?_ | refine SO_v rfl (R_idx (E := env) rfl rfl rfl rfl (by first | exact hq.ext (by assumption) | assumption) (by omega)) ?_ | refine SO_v rfl (R_pick_ht rfl (by assumption) rfl) ?_ | refine SO_v rfl (R_pick_hf rfl (by assumption) rfl) ?_ | refine SO_yes rfl rfl rfl ?_ | refine SO_no rfl rfl rfl rfl rfl ?_ | refine SO_nu rfl rfl rfl rfl ?_ | (refine SO_gsplit rfl rfl (fun hB => ?_) (fun hB => ?_) <;> (have hP := hB; (try simp only [decide_eq_true_eq, decide_eq_false_iff_not, Bool.not_eq_true', Bool.not_eq_false', Int.not_lt, Int.not_le] at hP); (try (exfalso; omega)))))) | (refine GC_cond ?_; (first | refine SC_cond_t rfl ?_ | refine SC_cond_f rfl ?_ | refine SC_cond_ht rfl (by assumption) ?_ | refine SC_cond_hf rfl (by assumption) ?_ | (refine SC_cond rfl (fun hB => ?_) (fun hB => ?_) <;> (have hP := hB; (try simp only [decide_eq_true_eq, decide_eq_false_iff_not, Bool.not_eq_true', Bool.not_eq_false', Int.not_lt, Int.not_le] at hP); (try (exfalso; omega)))))))
      refine SO_call rfl rfl (Pick_fn _ _ W (by omega)) ?_
      rintro v w' ⟨rfl, h'⟩
      subst h'
      generalize pick (row.getD ((i : Int)).toNat 0) (k - i) = n at *
      repeat' (first | refine SC_seq ?_ | refine SC_region ?_ | refine SO_nil ?_ | refine SX_code ?_ | refine SC_skip ?_ | refine SC_block ?_ | refine SC_e rfl ?_ | refine SC_r ?_ | refine SX_block ?_ | (refine GO ?_; (first | (refine SO_b ?_; (first | refine SO_v rfl (R_wrap (R_auto (E := env) rfl) (by omega)) ?_ | refine SO_v rfl (R_true (R_auto (E := env) rfl) (by first | with_reducible rfl | omega)) ?_ | refine SO_v rfl (R_false (R_auto (E := env) rfl) (by omega)) ?_ | refine SO_v rfl (R_nfalse (R_auto (E := env) rfl) (by first | with_reducible rfl | omega)) ?_ | refine SO_v rfl (R_ntrue (R_auto (E := env) rfl) (by omega)) ?_ | refine SO_a rfl rfl ?_ | refine SO_v rfl (R_ptrEqNil (E := env) rfl rfl) ?_ | refine SO_v rfl (R_ptrNeNil (E := env) rfl rfl) ?_ | refine SO_v rfl (R_slEqNil (E := env) rfl rfl) ?_ | refine SO_v rfl (R_ifEqNil (E := env) rfl rfl) ?_ | refine SO_v rfl (R_ifNilEqNil (E := env) rfl rfl) ?_ | refine SO_v rfl (R_boolEq (E := env) rfl rfl rfl) ?_)) | refine SO_a rfl rfl ?_ | refine SO_v rfl (R_load (E := env) rfl rfl rfl (by first | exact blk_cell (by assumption) rfl | assumption)) ?_ | refine SO_v rfl (R_len (E := env) rfl rfl (by assumption)) ?_ | refine SO_v rfl (R_idx (E := env) rfl rfl rfl rfl (by assumption) (by omega)) ?_ | refine SO_v rfl (R_pick_ht rfl (by assumption) rfl) ?_ | refine SO_v rfl (R_pick_hf rfl (by assumption) rfl) ?_ | refine SO_yes rfl rfl rfl ?_ | refine SO_no rfl rfl rfl rfl rfl ?_ | refine SO_nu rfl rfl rfl rfl ?_ | (refine SO_gsplit rfl rfl (fun hB => ?_) (fun hB => ?_) <;> (have hP := hB; (try simp only [decide_eq_true_eq, decide_eq_false_iff_not, Bool.not_eq_true', Bool.not_eq_false', Int.not_lt, Int.not_le] at hP); (try (exfalso; omega)))))) | (refine GC_cond ?_; (first | refine SC_cond_t rfl ?_ | refine SC_cond_f rfl ?_ | refine SC_cond_ht rfl (by assumption) ?_ | refine SC_cond_hf rfl (by assumption) ?_ | (refine SC_cond rfl (fun hB => ?_) (fun hB => ?_) <;> (have hP := hB; (try simp only [decide_eq_true_eq, decide_eq_false_iff_not, Bool.not_eq_true', Bool.not_eq_false', Int.not_lt, Int.not_le] at hP); (try (exfalso; omega)))))))
      refine SO_slit rfl rfl rfl rfl rfl (Is_one [n]) rfl rfl rfl fun W5 hE5 hO5 => ?_
      refine SO_append rfl rfl rfl rfl rfl rfl (hO.ext hE5) hO5.sl (Is_one [n]) (by simp; omega) (by simp; omega) fun v W6 og' hO6 hU6 hWas _ _ => ?_
      have hz5 := hE5.size
      have hog' : ∀ b, og' = some b → w.heap.size ≤ b := fun b hb => by
        rcases hWas with hWas | ⟨b', hWas, hlt⟩
        · exact hog b (by rw [← hWas]; exact hb)
        · rw [hWas] at hb; cases hb; omega
      have hE6 : Ext w W6 := (hE.trans hE5).then hU6 (by simp) (fun b hb => .inr (hog b (by simpa using hb)))
      repeat' (first | refine SC_seq ?_ | refine SC_region ?_ | refine SO_nil ?_ | refine SX_code ?_ | refine SC_skip ?_ | refine SC_block ?_ | refine SC_e rfl ?_ | refine SC_r ?_ | refine SX_block ?_ | (refine GO ?_; (first | (refine SO_b ?_; (first | refine SO_v rfl (R_wrap (R_auto (E := env) rfl) (by omega)) ?_ | refine SO_v rfl (R_true (R_auto (E := env) rfl) (by first | with_reducible rfl | omega)) ?_ | refine SO_v rfl (R_false (R_auto (E := env) rfl) (by omega)) ?_ | refine SO_v rfl (R_nfalse (R_auto (E := env) rfl) (by first | with_reducible rfl | omega)) ?_ | refine SO_v rfl (R_ntrue (R_auto (E := env) rfl) (by omega)) ?_ | refine SO_a rfl rfl ?_ | refine SO_v rfl (R_ptrEqNil (E := env) rfl rfl) ?_ | refine SO_v rfl (R_ptrNeNil (E := env) rfl rfl) ?_ | refine SO_v rfl (R_slEqNil (E := env) rfl rfl) ?_ | refine SO_v rfl (R_ifEqNil (E := env) rfl rfl) ?_ | refine SO_v rfl (R_ifNilEqNil (E := env) rfl rfl) ?_ | refine SO_v rfl (R_boolEq (E := env) rfl rfl rfl) ?_)) | refine SO_a rfl rfl ?_ | refine SO_v rfl (R_load (E := env) rfl rfl rfl (by first | exact blk_cell (by assumption) rfl | assumption)) ?_ | refine SO_v rfl (R_len (E := env) rfl rfl (by assumption)) ?_ | refine SO_v rfl (R_idx (E := env) rfl rfl rfl rfl (by assumption) (by omega)) ?_ | refine SO_v rfl (R_pick_ht rfl (by assumption) rfl) ?_ | refine SO_v rfl (R_pick_hf rfl (by assumption) rfl) ?_ | refine SO_yes rfl rfl rfl ?_ | refine SO_no rfl rfl rfl rfl rfl ?_ | refine SO_nu rfl rfl rfl rfl ?_ | (refine SO_gsplit rfl rfl (fun hB => ?_) (fun hB => ?_) <;> (have hP := hB; (try simp only [decide_eq_true_eq, decide_eq_false_iff_not, Bool.not_eq_true', Bool.not_eq_false', Int.not_lt, Int.not_le] at hP); (try (exfalso; omega)))))) | (refine GC_cond ?_; (first | refine SC_cond_t rfl ?_ | refine SC_cond_f rfl ?_ | refine SC_cond_ht rfl (by assumption) ?_ | refine SC_cond_hf rfl (by assumption) ?_ | (refine SC_cond rfl (fun hB => ?_) (fun hB => ?_) <;> (have hP := hB; (try simp only [decide_eq_true_eq, decide_eq_false_iff_not, Bool.not_eq_true', Bool.not_eq_false', Int.not_lt, Int.not_le] at hP); (try (exfalso; omega)))))))
      refine SX_loop ⟨i + 1, v, og', ds ++ [n]⟩ ⟨hE6, by dsimp only; omega, by dsimp only; rw [Is_push]; exact hO6, hog', by simp; omega, fun j hj => ?_⟩ (by (repeat (refine Sub.cons rfl (by first | rfl | go_num) ?_)); exact Sub.nil) (by dsimp only; omega)
      dsimp only at hj ⊢
      by_cases e : j < ds.length
      · rw [getD_app1 e]; exact hfit j (by omega)
      · obtain rfl : j = ds.length := by omega
        simp [List.getD_eq_getElem?_getD]; omega
    · repeat' (first | refine SC_seq ?_ | refine SC_region ?_ | refine SO_nil ?_ | refine SX_code ?_ | refine SC_skip ?_ | refine SC_block ?_ | refine SC_e rfl ?_ | refine SC_r ?_ | refine SX_block ?_ | (refine GO ?_; (first | (refine SO_b ?_; (first | refine SO_v rfl (R_wrap (R_auto (E := env) rfl) (by omega)) ?_ | refine SO_v rfl (R_true (R_auto (E := env) rfl) (by first | with_reducible rfl | omega)) ?_ | refine SO_v rfl (R_false (R_auto (E := env) rfl) (by omega)) ?_ | refine SO_v rfl (R_nfalse (R_auto (E := env) rfl) (by first | with_reducible rfl | omega)) ?_ | refine SO_v rfl (R_ntrue (R_auto (E := env) rfl) (by omega)) ?_ | refine SO_a rfl rfl ?_ | refine SO_v rfl (R_ptrEqNil (E := env) rfl rfl) ?_ | refine SO_v rfl (R_ptrNeNil (E := env) rfl rfl) ?_ | refine SO_v rfl (R_slEqNil (E := env) rfl rfl) ?_ | refine SO_v rfl (R_ifEqNil (E := env) rfl rfl) ?_ | refine SO_v rfl (R_ifNilEqNil (E := env) rfl rfl) ?_ | refine SO_v rfl (R_boolEq (E := env) rfl rfl rfl) ?_)) | refine SO_a rfl rfl ?_ | refine SO_v rfl (R_load (E := env) rfl rfl rfl (by first | exact (hq.ext (by assumption)).geti (by omega) | exact blk_cell (by assumption) rfl | assumption)) ?_ | refine SO_v rfl (R_len (E := env) rfl rfl (by first | exact hq.ext (by assumption) | assumption)) ?_ | refine SO_v rfl (R_idx (E := env) rfl rfl rfl rfl (by first | exact hq.ext (by assumption) | assumption) (by omega)) ?_ | refine SO_v rfl (R_pick_ht rfl (by assumption) rfl) ?_ | refine SO_v rfl (R_pick_hf rfl (by assumption) rfl) ?_ | refine SO_yes rfl rfl rfl ?_ | refine SO_no rfl rfl rfl rfl rfl ?_ | refine SO_nu rfl rfl rfl rfl ?_ | (refine SO_gsplit rfl rfl (fun hB => ?_) (fun hB => ?_) <;> (have hP := hB; (try simp only [decide_eq_true_eq, decide_eq_false_iff_not, Bool.not_eq_true', Bool.not_eq_false', Int.not_lt, Int.not_le] at hP); (try (exfalso; omega)))))) | (refine GC_cond ?_; (first | refine SC_cond_t rfl ?_ | refine SC_cond_f rfl ?_ | refine SC_cond_ht rfl (by assumption) ?_ | refine SC_cond_hf rfl (by assumption) ?_ | (refine SC_cond rfl (fun hB => ?_) (fun hB => ?_) <;> (have hP := hB; (try simp only [decide_eq_true_eq, decide_eq_false_iff_not, Bool.not_eq_true', Bool.not_eq_false', Int.not_lt, Int.not_le] at hP); (try (exfalso; omega)))))))
      refine SO_slit rfl rfl rfl rfl rfl (Is_one [0]) rfl rfl rfl fun W5 hE5 hO5 => ?_
      refine SO_append rfl rfl rfl rfl rfl rfl (hO.ext hE5) hO5.sl (Is_one [0]) (by simp; omega) (by simp; omega) fun v W6 og' hO6 hU6 hWas _ _ => ?_
      have hz5 := hE5.size
      have hog' : ∀ b, og' = some b → w.heap.size ≤ b := fun b hb => by
        rcases hWas with hWas | ⟨b', hWas, hlt⟩
        · exact hog b (by rw [← hWas]; exact hb)
        · rw [hWas] at hb; cases hb; omega
      have hE6 : Ext w W6 := (hE.trans hE5).then hU6 (by simp) (fun b hb => .inr (hog b (by simpa using hb)))
      repeat' (first | refine SC_seq ?_ | refine SC_region ?_ | refine SO_nil ?_ | refine SX_code ?_ | refine SC_skip ?_ | refine SC_block ?_ | refine SC_e rfl ?_ | refine SC_r ?_ | refine SX_block ?_ | (refine GO ?_; (first | (refine SO_b ?_; (first | refine SO_v rfl (R_wrap (R_auto (E := env) rfl) (by omega)) ?_ | refine SO_v rfl (R_true (R_auto (E := env) rfl) (by first | with_reducible rfl | omega)) ?_ | refine SO_v rfl (R_false (R_auto (E := env) rfl) (by omega)) ?_ | refine SO_v rfl (R_nfalse (R_auto (E := env) rfl) (by first | with_reducible rfl | omega)) ?_ | refine SO_v rfl (R_ntrue (R_auto (E := env) rfl) (by omega)) ?_ | refine SO_a rfl rfl ?_ | refine SO_v rfl (R_ptrEqNil (E := env) rfl rfl) ?_ | refine SO_v rfl (R_ptrNeNil (E := env) rfl rfl) ?_ | refine SO_v rfl (R_slEqNil (E := env) rfl rfl) ?_ | refine SO_v rfl (R_ifEqNil (E := env) rfl rfl) ?_ | refine SO_v rfl (R_ifNilEqNil (E := env) rfl rfl) ?_ | refine SO_v rfl (R_boolEq (E := env) rfl rfl rfl) ?_)) | refine SO_a rfl rfl ?_ | refine SO_v rfl (R_load (E := env) rfl rfl rfl (by first | exact blk_cell (by assumption) rfl | assumption)) ?_ | refine SO_v rfl (R_len (E := env) rfl rfl (by assumption)) ?_ | refine SO_v rfl (R_idx (E := env) rfl rfl rfl rfl (by assumption) (by omega)) ?_ | refine SO_v rfl (R_pick_ht rfl (by assumption) rfl) ?_ | refine SO_v rfl (R_pick_hf rfl (by assumption) rfl) ?_ | refine SO_yes rfl rfl rfl ?_ | refine SO_no rfl rfl rfl rfl rfl ?_ | refine SO_nu rfl rfl rfl rfl ?_ | (refine SO_gsplit rfl rfl (fun hB => ?_) (fun hB => ?_) <;> (have hP := hB; (try simp only [decide_eq_true_eq, decide_eq_false_iff_not, Bool.not_eq_true', Bool.not_eq_false', Int.not_lt, Int.not_le] at hP); (try (exfalso; omega)))))) | (refine GC_cond ?_; (first | refine SC_cond_t rfl ?_ | refine SC_cond_f rfl ?_ | refine SC_cond_ht rfl (by assumption) ?_ | refine SC_cond_hf rfl (by assumption) ?_ | (refine SC_cond rfl (fun hB => ?_) (fun hB => ?_) <;> (have hP := hB; (try simp only [decide_eq_true_eq, decide_eq_false_iff_not, Bool.not_eq_true', Bool.not_eq_false', Int.not_lt, Int.not_le] at hP); (try (exfalso; omega)))))))
      refine SX_loop ⟨i + 1, v, og', ds ++ [0]⟩ ⟨hE6, by dsimp only; omega, by dsimp only; rw [Is_push]; exact hO6, hog', by simp; omega, fun j hj => ?_⟩ (by (repeat (refine Sub.cons rfl (by first | rfl | go_num) ?_)); exact Sub.nil) (by dsimp only; omega)
      dsimp only at hj ⊢
      by_cases e : j < ds.length
      · rw [getD_app1 e]; exact hfit j (by omega)
      · obtain rfl : j = ds.length := by omega
        simp [List.getD_eq_getElem?_getD]; omega
  · obtain rfl : i = d.toNat := by omega
    have hF : Fit ((upto k.toNat).length : Int) 0 ds := Fit.iff.2 fun j hj => by rw [upto_length]; have := hfit j (by omega); omega
    have hin := Inj.upto k.toNat
    obtain ⟨A, hA⟩ : ∃ A, A = od (upto k.toNat) 0 ds := ⟨_, rfl⟩
    have hAl : A.length = ds.length := by rw [hA, od_length]
    have hAn : A.Nodup := by rw [hA]; exact od_nodup hF hin
    have hAr : ∀ y ∈ A, 0 ≤ y ∧ y < k := fun y hy => by
      rw [hA] at hy
      obtain ⟨t, _, ht, rfl⟩ := od_mem hF y hy
      rw [upto_length] at ht
      rw [upto_get _ _ ht]; omega
    have hrk : rank k A = (ds, 0) := by
      unfold rank
      rw [if_neg (by omega), hA, rk_of_od hF hin]
    have hSds := hO.sl
    have hdl := Is_len ds
    repeat' (first | refine SC_seq ?_ | refine SC_region ?_ | refine SO_nil ?_ | refine SX_code ?_ | refine SC_skip ?_ | refine SC_block ?_ | refine SC_e rfl ?_ | refine SC_r ?_ | refine SX_block ?_ | (refine GO ?_; (first | (refine SO_b ?_; (first | refine SO_v rfl (R_wrap (R_auto (E := env) rfl) (by omega)) ?_ | refine SO_v rfl (R_true (R_auto (E := env) rfl) (by first | with_reducible rfl | omega)) ?_ | refine SO_v rfl (R_false (R_auto (E := env) rfl) (by omega)) ?_ | refine SO_v rfl (R_nfalse (R_auto (E := env) rfl) (by first | with_reducible rfl | omega)) ?_ | refine SO_v rfl (R_ntrue (R_auto (E := env) rfl) (by omega)) ?_ | refine SO_a rfl rfl ?_ | refine SO_v rfl (R_ptrEqNil (E := env) rfl rfl) ?_ | refine SO_v rfl (R_ptrNeNil (E := env) rfl rfl) ?_ | refine SO_v rfl (R_slEqNil (E := env) rfl rfl) ?_ | refine SO_v rfl (R_ifEqNil (E := env) rfl rfl) ?_ | refine SO_v rfl (R_ifNilEqNil (E := env) rfl rfl) ?_ | refine SO_v rfl (R_boolEq (E := env) rfl rfl rfl) ?_)) | refine SO_a rfl rfl ?_ | refine SO_v rfl (R_load (E := env) rfl rfl rfl (by first | exact blk_cell (by assumption) rfl | assumption)) ?_ | refine SO_v rfl (R_len (E := env) rfl rfl (by assumption)) ?_ | refine SO_v rfl (R_idx (E := env) rfl rfl rfl rfl (by assumption) (by omega)) ?_ | refine SO_v rfl (R_pick_ht rfl (by assumption) rfl) ?_ | refine SO_v rfl (R_pick_hf rfl (by assumption) rfl) ?_ | refine SO_yes rfl rfl rfl ?_ | refine SO_no rfl rfl rfl rfl rfl ?_ | refine SO_nu rfl rfl rfl rfl ?_ | (refine SO_gsplit rfl rfl (fun hB => ?_) (fun hB => ?_) <;> (have hP := hB; (try simp only [decide_eq_true_eq, decide_eq_false_iff_not, Bool.not_eq_true', Bool.not_eq_false', Int.not_lt, Int.not_le] at hP); (try (exfalso; omega)))))) | (refine GC_cond ?_; (first | refine SC_cond_t rfl ?_ | refine SC_cond_f rfl ?_ | refine SC_cond_ht rfl (by assumption) ?_ | refine SC_cond_hf rfl (by assumption) ?_ | (refine SC_cond rfl (fun hB => ?_) (fun hB => ?_) <;> (have hP := hB; (try simp only [decide_eq_true_eq, decide_eq_false_iff_not, Bool.not_eq_true', Bool.not_eq_false', Int.not_lt, Int.not_le] at hP); (try (exfalso; omega)))))))
    refine SO_call rfl rfl (CopyInts_fn o ds W hSds (by omega)) ?_
    rintro c W1 ⟨hEc, gb, hOc, hgb⟩
    have hzc := hEc.size
    have hgl := hOc.lt rfl
    refine SO_slit rfl rfl rfl rfl rfl (Is_one [5]) rfl rfl rfl fun W2 hE2 hO2 => ?_
    refine SO_append rfl rfl rfl rfl rfl rfl (hOc.ext hE2) hO2.sl (Is_one [5]) (by simp; omega) (by simp; omega) fun v W3 g3 hO3 hU3 _ _ _ => ?_
    have hz2 := hE2.size
    have hz3 := hU3.size
    have hEw3 : Ext W W3 := (hEc.trans hE2).then hU3 (by simp) (by simp; omega)
    refine SO_call rfl rfl (Row_fn v (ds ++ [5]) W3 (by rw [Is_push]; exact hO3.sl) (by simp; omega)) ?_
    rintro _ W4 ⟨hE4, b, r, s, rfl, hL, hI⟩
    have hb := lt_of_heap hL.hb
    have hrl := lt_of_heap hL.hr
    have q1 := hI.hb
    have q2 := hI.hr
    have hzw3 := hEw3.size
    have hEw4 := hEw3.trans hE4
    have hF' : Fit k 0 ds := Fit.iff.2 fun j hj => by have := hfit j (by omega); omega
    have hns : ¬ NoSize k d := by unfold NoSize; omega
    repeat' (first | refine SC_seq ?_ | refine SC_region ?_ | refine SO_nil ?_ | refine SX_code ?_ | refine SC_skip ?_ | refine SC_block ?_ | refine SC_e rfl ?_ | refine SC_r ?_ | refine SX_block ?_ | (refine GO ?_; (first | (refine SO_b ?_; (first | refine SO_v rfl (R_wrap (R_auto (E := env) rfl) (by omega)) ?_ | refine SO_v rfl (R_true (R_auto (E := env) rfl) (by first | with_reducible rfl | omega)) ?_ | refine SO_v rfl (R_false (R_auto (E := env) rfl) (by omega)) ?_ | refine SO_v rfl (R_nfalse (R_auto (E := env) rfl) (by first | with_reducible rfl | omega)) ?_ | refine SO_v rfl (R_ntrue (R_auto (E := env) rfl) (by omega)) ?_ | refine SO_a rfl rfl ?_ | refine SO_v rfl (R_ptrEqNil (E := env) rfl rfl) ?_ | refine SO_v rfl (R_ptrNeNil (E := env) rfl rfl) ?_ | refine SO_v rfl (R_slEqNil (E := env) rfl rfl) ?_ | refine SO_v rfl (R_ifEqNil (E := env) rfl rfl) ?_ | refine SO_v rfl (R_ifNilEqNil (E := env) rfl rfl) ?_ | refine SO_v rfl (R_boolEq (E := env) rfl rfl rfl) ?_)) | refine SO_a rfl rfl ?_ | refine SO_v rfl (R_load (E := env) rfl rfl rfl (by first | exact blk_cell (by assumption) rfl | assumption)) ?_ | refine SO_v rfl (R_len (E := env) rfl rfl (by assumption)) ?_ | refine SO_v rfl (R_idx (E := env) rfl rfl rfl rfl (by assumption) (by omega)) ?_ | refine SO_v rfl (R_pick_ht rfl (by assumption) rfl) ?_ | refine SO_v rfl (R_pick_hf rfl (by assumption) rfl) ?_ | refine SO_yes rfl rfl rfl ?_ | refine SO_no rfl rfl rfl rfl rfl ?_ | refine SO_nu rfl rfl rfl rfl ?_ | (refine SO_gsplit rfl rfl (fun hB => ?_) (fun hB => ?_) <;> (have hP := hB; (try simp only [decide_eq_true_eq, decide_eq_false_iff_not, Bool.not_eq_true', Bool.not_eq_false', Int.not_lt, Int.not_le] at hP); (try (exfalso; omega)))))) | (refine GC_cond ?_; (first | refine SC_cond_t rfl ?_ | refine SC_cond_f rfl ?_ | refine SC_cond_ht rfl (by assumption) ?_ | refine SC_cond_hf rfl (by assumption) ?_ | (refine SC_cond rfl (fun hB => ?_) (fun hB => ?_) <;> (have hP := hB; (try simp only [decide_eq_true_eq, decide_eq_false_iff_not, Bool.not_eq_true', Bool.not_eq_false', Int.not_lt, Int.not_le] at hP); (try (exfalso; omega)))))))
    refine SO_call rfl rfl (Order_fn (row_draws b r W4.heap.size hb hrl) (m := 0) (st := ⟨ds ++ [5], 0, false⟩) k d ⟨s, hL, by simp, by simp, hb, hrl, hL.lt⟩ (Nat.le_refl _) (by decide)) ?_
    rintro _ W5 ⟨hU5, a, ga, A', e, st', m', rfl, hOa, hga, hD5, hm5, hord⟩
    have hdet : A = A' ∧ 0 = e ∧ ⟨[5], 0 + ds.length, false⟩ = st' := by
      have h2 : Ordd rowR k d ⟨ds ++ [5], 0, false⟩ (od (upto k.toNat) 0 ds) 0 ⟨[5], 0 + ds.length, false⟩ := .inr ⟨hns, by rw [← hds]; exact od_row (by omega) ds [5] _ 0 0 hF'⟩
      obtain ⟨h3, h4, h5⟩ := hord.det rowR.det h2
      exact ⟨hA.trans h3.symm, h4.symm, h5.symm⟩
    obtain ⟨rfl, rfl, rfl⟩ := hdet
    obtain ⟨s5, hL5, _, _, _, _, hs5⟩ := hD5
    dsimp only at hL5
    have hIA := Is_len A
    have hSa := hOa.sl
    have h55 : Ext W5 W5 := Upd.refl _ _
    have h51 : ((([5] : List Int).length : Nat) : Int) = 1 := rfl
    have hz4 := hE4.size
    have hz5 := hU5.size
    have hogl : ∀ j, og = some j → j < W.heap.size := fun j hj => hO.lt hj
    have hOo5 := (hO.ext hEw4).upd hU5 (fun j hj => by have := hogl j hj; simp; omega)
    have hE5 : Ext w W5 := (hE.trans hEw4).then hU5 (by simp) (by simp; omega)
    repeat' (first | (refine SO_call rfl rfl (Used_fn hL5) ?_; rintro v w' ⟨rfl, h'⟩; replace h' := h'.symm; subst h') | (refine SO_call rfl rfl (Left_fn hL5) ?_; rintro v w' ⟨rfl, h'⟩; replace h' := h'.symm; subst h') | refine SC_seq ?_ | refine SC_region ?_ | refine SO_nil ?_ | refine SX_code ?_ | refine SC_skip ?_ | refine SC_block ?_ | refine SC_e rfl ?_ | refine SC_r ?_ | refine SX_block ?_ | (refine GO ?_; (first | (refine SO_b ?_; (first | refine SO_v rfl (R_wrap (R_auto (E := env) rfl) (by omega)) ?_ | refine SO_v rfl (R_true (R_auto (E := env) rfl) (by first | with_reducible rfl | omega)) ?_ | refine SO_v rfl (R_false (R_auto (E := env) rfl) (by omega)) ?_ | refine SO_v rfl (R_nfalse (R_auto (E := env) rfl) (by first | with_reducible rfl | omega)) ?_ | refine SO_v rfl (R_ntrue (R_auto (E := env) rfl) (by omega)) ?_ | refine SO_a rfl rfl ?_ | refine SO_v rfl (R_ptrEqNil (E := env) rfl rfl) ?_ | refine SO_v rfl (R_ptrNeNil (E := env) rfl rfl) ?_ | refine SO_v rfl (R_slEqNil (E := env) rfl rfl) ?_ | refine SO_v rfl (R_ifEqNil (E := env) rfl rfl) ?_ | refine SO_v rfl (R_ifNilEqNil (E := env) rfl rfl) ?_ | refine SO_v rfl (R_boolEq (E := env) rfl rfl rfl) ?_)) | refine SO_a rfl rfl ?_ | refine SO_v rfl (R_load (E := env) rfl rfl rfl (by first | exact (hSa.ext (by assumption)).geti (by omega) | exact blk_cell (by assumption) rfl | assumption)) ?_ | refine SO_v rfl (R_len (E := env) rfl rfl (by first | exact hSa.ext (by assumption) | assumption)) ?_ | refine SO_v rfl (R_idx (E := env) rfl rfl rfl rfl (by first | exact hSa.ext (by assumption) | assumption) (by omega)) ?_ | refine SO_v rfl (R_pick_ht rfl (by assumption) rfl) ?_ | refine SO_v rfl (R_pick_hf rfl (by assumption) rfl) ?_ | refine SO_yes rfl rfl rfl ?_ | refine SO_no rfl rfl rfl rfl rfl ?_ | refine SO_nu rfl rfl rfl rfl ?_ | (refine SO_gsplit rfl rfl (fun hB => ?_) (fun hB => ?_) <;> (have hP := hB; (try simp only [decide_eq_true_eq, decide_eq_false_iff_not, Bool.not_eq_true', Bool.not_eq_false', Int.not_lt, Int.not_le] at hP); (try (exfalso; omega)))))) | (refine GC_cond ?_; (first | refine SC_cond_t rfl ?_ | refine SC_cond_f rfl ?_ | refine SC_cond_ht rfl (by assumption) ?_ | refine SC_cond_hf rfl (by assumption) ?_ | (refine SC_cond rfl (fun hB => ?_) (fun hB => ?_) <;> (have hP := hB; (try simp only [decide_eq_true_eq, decide_eq_false_iff_not, Bool.not_eq_true', Bool.not_eq_false', Int.not_lt, Int.not_le] at hP); (try (exfalso; omega)))))))
    refine SO_make rfl rfl rfl rfl rfl rfl (by omega) (by omega) (by omega) fun W6 sv hE6 hO6 => ?_
    have hOa6 := hOa.ext hE6
    have hOo6 := hOo5.ext hE6
    have hz6 := hO6.lt rfl
    have hgal := fun j (hj : ga = some j) => hOa.lt hj
    have hrep : List.replicate k.toNat (Value.bool false) = Bs (List.replicate k.toNat false) := by simp
    rw [hrep] at hO6
    have hE06 := hE5.trans hE6
    have hDl : (A.length : Int) = d := by omega
    repeat' (first | refine SC_seq ?_ | refine SC_region ?_ | refine SO_nil ?_ | refine SX_code ?_ | refine SC_skip ?_ | refine SC_block ?_ | refine SC_e rfl ?_ | refine SC_r ?_ | refine SX_block ?_ | (refine GO ?_; (first | (refine SO_b ?_; (first | refine SO_v rfl (R_wrap (R_auto (E := env) rfl) (by omega)) ?_ | refine SO_v rfl (R_true (R_auto (E := env) rfl) (by first | with_reducible rfl | omega)) ?_ | refine SO_v rfl (R_false (R_auto (E := env) rfl) (by omega)) ?_ | refine SO_v rfl (R_nfalse (R_auto (E := env) rfl) (by first | with_reducible rfl | omega)) ?_ | refine SO_v rfl (R_ntrue (R_auto (E := env) rfl) (by omega)) ?_ | refine SO_a rfl rfl ?_ | refine SO_v rfl (R_ptrEqNil (E := env) rfl rfl) ?_ | refine SO_v rfl (R_ptrNeNil (E := env) rfl rfl) ?_ | refine SO_v rfl (R_slEqNil (E := env) rfl rfl) ?_ | refine SO_v rfl (R_ifEqNil (E := env) rfl rfl) ?_ | refine SO_v rfl (R_ifNilEqNil (E := env) rfl rfl) ?_ | refine SO_v rfl (R_boolEq (E := env) rfl rfl rfl) ?_)) | refine SO_a rfl rfl ?_ | refine SO_v rfl (R_load (E := env) rfl rfl rfl (by first | exact blk_cell (by assumption) rfl | assumption)) ?_ | refine SO_v rfl (R_len (E := env) rfl rfl (by assumption)) ?_ | refine SO_v rfl (R_idx (E := env) rfl rfl rfl rfl (by assumption) (by omega)) ?_ | refine SO_v rfl (R_pick_ht rfl (by assumption) rfl) ?_ | refine SO_v rfl (R_pick_hf rfl (by assumption) rfl) ?_ | refine SO_yes rfl rfl rfl ?_ | refine SO_no rfl rfl rfl rfl rfl ?_ | refine SO_nu rfl rfl rfl rfl ?_ | (refine SO_gsplit rfl rfl (fun hB => ?_) (fun hB => ?_) <;> (have hP := hB; (try simp only [decide_eq_true_eq, decide_eq_false_iff_not, Bool.not_eq_true', Bool.not_eq_false', Int.not_lt, Int.not_le] at hP); (try (exfalso; omega)))))) | (refine GC_cond ?_; (first | refine SC_cond_t rfl ?_ | refine SC_cond_f rfl ?_ | refine SC_cond_ht rfl (by assumption) ?_ | refine SC_cond_hf rfl (by assumption) ?_ | (refine SC_cond rfl (fun hB => ?_) (fun hB => ?_) <;> (have hP := hB; (try simp only [decide_eq_true_eq, decide_eq_false_iff_not, Bool.not_eq_true', Bool.not_eq_false', Int.not_lt, Int.not_le] at hP); (try (exfalso; omega)))))))
    refine SC_loop (ι := SeenG) (fun g => [(0, I k), (1, I d), (7, .bool true), (8, o), (12, a), (14, sv), (15, I g.i)])
      (fun g W' => Ext w W' ∧ (g.i : Int) ≤ d ∧ Own W' 4 (some W5.heap.size) sv (Bs g.bs) ∧ g.bs.length = k.toNat ∧ (∀ x : Nat, x < k.toNat → g.bs.getD x false = decide ((x : Int) ∈ A.take g.i)) ∧ Own W' 3 ga a (Is A) ∧ Own W' 3 og o (Is ds))
      (fun g => d.toNat - g.i) ⟨0, List.replicate k.toNat false⟩ ⟨hE06, by dsimp only; omega, hO6, by simp, fun x hx => by simp [List.getD_eq_getElem?_getD, hx], hOa6, hOo6⟩ (by (repeat (refine Sub.cons rfl (by first | rfl | go_num) ?_)); exact Sub.nil) ?_
    clear hE06 hO6 hOa6 hOo6 hOo5
    rintro ⟨i, bs⟩ W7 ⟨hE7, hi, hOs, hbl, hbs, hOa7, hOo7⟩
    dsimp only at hi hOs hbl hbs hOa7 hOo7 ⊢
    have hIb := Bs_len bs
    have hS7 := hOa7.sl
    have hSs7 := hOs.sl
    have h77 : Ext W7 W7 := Upd.refl _ _
    have hz7 := hE7.size
    have hsb7 := hOs.lt rfl
    by_cases hid : (i : Int) < d
    · have hy := hAr _ (getD_mem (l := A) (i := ((i : Int)).toNat) (by omega))
      have hnot : A.getD ((i : Int)).toNat 0 ∉ A.take i := take_mem_iff hAn (by omega)
      have hfalse : W7.cell? (addrAt sv (A.getD ((i : Int)).toNat 0).toNat) = some (.bool false) := by
        have h1 := hSs7.getb (i := (A.getD ((i : Int)).toNat 0).toNat) (by omega)
        rw [h1, hbs _ (by omega)]
        have e : (((A.getD ((i : Int)).toNat 0).toNat : Nat) : Int) = A.getD ((i : Int)).toNat 0 := by omega
        rw [e, decide_eq_false hnot]
      repeat' (first | refine SO_v rfl (R_load (E := env) rfl rfl rfl hfalse) ?_ | refine SC_seq ?_ | refine SC_region ?_ | refine SO_nil ?_ | refine SX_code ?_ | refine SC_skip ?_ | refine SC_block ?_ | refine SC_e rfl ?_ | refine SC_r ?_ | refine SX_block ?_ | (refine GO ?_; (first | (refine SO_b ?_; (first | refine SO_v rfl (R_wrap (R_auto (E := env) rfl) (by omega)) ?_ | refine SO_v rfl (R_true (R_auto (E := env) rfl) (by first | with_reducible rfl | omega)) ?_ | refine SO_v rfl (R_false (R_auto (E := env) rfl) (by omega)) ?_ | refine SO_v rfl (R_nfalse (R_auto (E := env) rfl) (by first | with_reducible rfl | omega)) ?_ | refine SO_v rfl (R_ntrue (R_auto (E := env) rfl) (by omega)) ?_ | refine SO_a rfl rfl ?_ | refine SO_v rfl (R_ptrEqNil (E := env) rfl rfl) ?_ | refine SO_v rfl (R_ptrNeNil (E := env) rfl rfl) ?_ | refine SO_v rfl (R_slEqNil (E := env) rfl rfl) ?_ | refine SO_v rfl (R_ifEqNil (E := env) rfl rfl) ?_ | refine SO_v rfl (R_ifNilEqNil (E := env) rfl rfl) ?_ | refine SO_v rfl (R_boolEq (E := env) rfl rfl rfl) ?_)) | refine SO_a rfl rfl ?_ | refine SO_v rfl (R_load (E := env) rfl rfl rfl (by first | exact (hS7.ext (by assumption)).geti (by omega) | exact (hSs7.ext (by assumption)).geti (by omega) | exact blk_cell (by assumption) rfl | assumption)) ?_ | refine SO_v rfl (R_len (E := env) rfl rfl (by first | exact hS7.ext (by assumption) | exact hSs7.ext (by assumption) | assumption)) ?_ | refine SO_v rfl (R_idx (E := env) rfl rfl rfl rfl (by first | exact hS7.ext (by assumption) | exact hSs7.ext (by assumption) | assumption) (by omega)) ?_ | refine SO_v rfl (R_pick_ht rfl (by assumption) rfl) ?_ | refine SO_v rfl (R_pick_hf rfl (by assumption) rfl) ?_ | refine SO_yes rfl rfl rfl ?_ | refine SO_no rfl rfl rfl rfl rfl ?_ | refine SO_nu rfl rfl rfl rfl ?_ | (refine SO_gsplit rfl rfl (fun hB => ?_) (fun hB => ?_) <;> (have hP := hB; (try simp only [decide_eq_true_eq, decide_eq_false_iff_not, Bool.not_eq_true', Bool.not_eq_false', Int.not_lt, Int.not_le] at hP); (try (exfalso; omega)))))) | (refine GC_cond ?_; (first | refine SC_cond_t rfl ?_ | refine SC_cond_f rfl ?_ | refine SC_cond_ht rfl (by assumption) ?_ | refine SC_cond_hf rfl (by assumption) ?_ | (refine SC_cond rfl (fun hB => ?_) (fun hB => ?_) <;> (have hP := hB; (try simp only [decide_eq_true_eq, decide_eq_false_iff_not, Bool.not_eq_true', Bool.not_eq_false', Int.not_lt, Int.not_le] at hP); (try (exfalso; omega)))))))
      refine SO_storeAt rfl hOs rfl rfl rfl (by omega) fun W8 hU8 hO8 => ?_
      rw [← Bs_set] at hO8
      have hE8 : Ext w W8 := hE7.then hU8 (by simp) (by simp; omega)
      repeat' (first | refine SC_seq ?_ | refine SC_region ?_ | refine SO_nil ?_ | refine SX_code ?_ | refine SC_skip ?_ | refine SC_block ?_ | refine SC_e rfl ?_ | refine SC_r ?_ | refine SX_block ?_ | (refine GO ?_; (first | (refine SO_b ?_; (first | refine SO_v rfl (R_wrap (R_auto (E := env) rfl) (by omega)) ?_ | refine SO_v rfl (R_true (R_auto (E := env) rfl) (by first | with_reducible rfl | omega)) ?_ | refine SO_v rfl (R_false (R_auto (E := env) rfl) (by omega)) ?_ | refine SO_v rfl (R_nfalse (R_auto (E := env) rfl) (by first | with_reducible rfl | omega)) ?_ | refine SO_v rfl (R_ntrue (R_auto (E := env) rfl) (by omega)) ?_ | refine SO_a rfl rfl ?_ | refine SO_v rfl (R_ptrEqNil (E := env) rfl rfl) ?_ | refine SO_v rfl (R_ptrNeNil (E := env) rfl rfl) ?_ | refine SO_v rfl (R_slEqNil (E := env) rfl rfl) ?_ | refine SO_v rfl (R_ifEqNil (E := env) rfl rfl) ?_ | refine SO_v rfl (R_ifNilEqNil (E := env) rfl rfl) ?_ | refine SO_v rfl (R_boolEq (E := env) rfl rfl rfl) ?_)) | refine SO_a rfl rfl ?_ | refine SO_v rfl (R_load (E := env) rfl rfl rfl (by first | exact blk_cell (by assumption) rfl | assumption)) ?_ | refine SO_v rfl (R_len (E := env) rfl rfl (by assumption)) ?_ | refine SO_v rfl (R_idx (E := env) rfl rfl rfl rfl (by assumption) (by omega)) ?_ | refine SO_v rfl (R_pick_ht rfl (by assumption) rfl) ?_ | refine SO_v rfl (R_pick_hf rfl (by assumption) rfl) ?_ | refine SO_yes rfl rfl rfl ?_ | refine SO_no rfl rfl rfl rfl rfl ?_ | refine SO_nu rfl rfl rfl rfl ?_ | (refine SO_gsplit rfl rfl (fun hB => ?_) (fun hB => ?_) <;> (have hP := hB; (try simp only [decide_eq_true_eq, decide_eq_false_iff_not, Bool.not_eq_true', Bool.not_eq_false', Int.not_lt, Int.not_le] at hP); (try (exfalso; omega)))))) | (refine GC_cond ?_; (first | refine SC_cond_t rfl ?_ | refine SC_cond_f rfl ?_ | refine SC_cond_ht rfl (by assumption) ?_ | refine SC_cond_hf rfl (by assumption) ?_ | (refine SC_cond rfl (fun hB => ?_) (fun hB => ?_) <;> (have hP := hB; (try simp only [decide_eq_true_eq, decide_eq_false_iff_not, Bool.not_eq_true', Bool.not_eq_false', Int.not_lt, Int.not_le] at hP); (try (exfalso; omega)))))))
      refine SX_loop ⟨i + 1, bs.set (A.getD ((i : Int)).toNat 0).toNat true⟩ ⟨hE8, by dsimp only; omega, hO8, by simp [hbl], fun x hx => ?_, hOa7.upd hU8 (fun j hj => by have := hgal j hj; simp; omega), hOo7.upd hU8 (fun j hj => by have := hogl j hj; simp; omega)⟩ (by (repeat (refine Sub.cons rfl (by first | rfl | go_num) ?_)); exact Sub.nil) (by dsimp only; omega)
      dsimp only
      rw [getB_set _ _ _ _ (by omega), hbs x hx, take_step (by omega)]
      have hAi : A.getD ((i : Int)).toNat 0 = A.getD i 0 := rfl
      rw [hAi] at hy ⊢
      by_cases e : x = (A.getD i 0).toNat
      · rw [if_pos e, eq_comm, decide_eq_true_eq, List.mem_append, List.mem_singleton]
        exact .inr (by omega)
      · rw [if_neg e, decide_eq_decide, List.mem_append, List.mem_singleton]
        exact ⟨fun h => .inl h, fun h => h.resolve_right (fun q => e (by omega))⟩
    · obtain rfl : i = d.toNat := by omega
      have htA : A.take d.toNat = A := List.take_of_length_le (by omega)
      rw [htA] at hbs
      repeat' (first | refine SC_seq ?_ | refine SC_region ?_ | refine SO_nil ?_ | refine SX_code ?_ | refine SC_skip ?_ | refine SC_block ?_ | refine SC_e rfl ?_ | refine SC_r ?_ | refine SX_block ?_ | (refine GO ?_; (first | (refine SO_b ?_; (first | refine SO_v rfl (R_wrap (R_auto (E := env) rfl) (by omega)) ?_ | refine SO_v rfl (R_true (R_auto (E := env) rfl) (by first | with_reducible rfl | omega)) ?_ | refine SO_v rfl (R_false (R_auto (E := env) rfl) (by omega)) ?_ | refine SO_v rfl (R_nfalse (R_auto (E := env) rfl) (by first | with_reducible rfl | omega)) ?_ | refine SO_v rfl (R_ntrue (R_auto (E := env) rfl) (by omega)) ?_ | refine SO_a rfl rfl ?_ | refine SO_v rfl (R_ptrEqNil (E := env) rfl rfl) ?_ | refine SO_v rfl (R_ptrNeNil (E := env) rfl rfl) ?_ | refine SO_v rfl (R_slEqNil (E := env) rfl rfl) ?_ | refine SO_v rfl (R_ifEqNil (E := env) rfl rfl) ?_ | refine SO_v rfl (R_ifNilEqNil (E := env) rfl rfl) ?_ | refine SO_v rfl (R_boolEq (E := env) rfl rfl rfl) ?_)) | refine SO_a rfl rfl ?_ | refine SO_v rfl (R_load (E := env) rfl rfl rfl (by first | exact blk_cell (by assumption) rfl | assumption)) ?_ | refine SO_v rfl (R_len (E := env) rfl rfl (by assumption)) ?_ | refine SO_v rfl (R_idx (E := env) rfl rfl rfl rfl (by assumption) (by omega)) ?_ | refine SO_v rfl (R_pick_ht rfl (by assumption) rfl) ?_ | refine SO_v rfl (R_pick_hf rfl (by assumption) rfl) ?_ | refine SO_yes rfl rfl rfl ?_ | refine SO_no rfl rfl rfl rfl rfl ?_ | refine SO_nu rfl rfl rfl rfl ?_ | (refine SO_gsplit rfl rfl (fun hB => ?_) (fun hB => ?_) <;> (have hP := hB; (try simp only [decide_eq_true_eq, decide_eq_false_iff_not, Bool.not_eq_true', Bool.not_eq_false', Int.not_lt, Int.not_le] at hP); (try (exfalso; omega)))))) | (refine GC_cond ?_; (first | refine SC_cond_t rfl ?_ | refine SC_cond_f rfl ?_ | refine SC_cond_ht rfl (by assumption) ?_ | refine SC_cond_hf rfl (by assumption) ?_ | (refine SC_cond rfl (fun hB => ?_) (fun hB => ?_) <;> (have hP := hB; (try simp only [decide_eq_true_eq, decide_eq_false_iff_not, Bool.not_eq_true', Bool.not_eq_false', Int.not_lt, Int.not_le] at hP); (try (exfalso; omega)))))))
      refine SO_call rfl rfl (Row_fn o ds W7 hOo7.sl (by omega)) ?_
      rintro _ W8 ⟨hE8, b2, r2, s2, rfl, hL8, hI8⟩
      have hb8 := lt_of_heap hL8.hb
      have hr8 := lt_of_heap hL8.hr
      have p1 := hI8.hb
      have p2 := hI8.hr
      have hz8 := hE8.size
      repeat' (first | refine SC_seq ?_ | refine SC_region ?_ | refine SO_nil ?_ | refine SX_code ?_ | refine SC_skip ?_ | refine SC_block ?_ | refine SC_e rfl ?_ | refine SC_r ?_ | refine SX_block ?_ | (refine GO ?_; (first | (refine SO_b ?_; (first | refine SO_v rfl (R_wrap (R_auto (E := env) rfl) (by omega)) ?_ | refine SO_v rfl (R_true (R_auto (E := env) rfl) (by first | with_reducible rfl | omega)) ?_ | refine SO_v rfl (R_false (R_auto (E := env) rfl) (by omega)) ?_ | refine SO_v rfl (R_nfalse (R_auto (E := env) rfl) (by first | with_reducible rfl | omega)) ?_ | refine SO_v rfl (R_ntrue (R_auto (E := env) rfl) (by omega)) ?_ | refine SO_a rfl rfl ?_ | refine SO_v rfl (R_ptrEqNil (E := env) rfl rfl) ?_ | refine SO_v rfl (R_ptrNeNil (E := env) rfl rfl) ?_ | refine SO_v rfl (R_slEqNil (E := env) rfl rfl) ?_ | refine SO_v rfl (R_ifEqNil (E := env) rfl rfl) ?_ | refine SO_v rfl (R_ifNilEqNil (E := env) rfl rfl) ?_ | refine SO_v rfl (R_boolEq (E := env) rfl rfl rfl) ?_)) | refine SO_a rfl rfl ?_ | refine SO_v rfl (R_load (E := env) rfl rfl rfl (by first | exact blk_cell (by assumption) rfl | assumption)) ?_ | refine SO_v rfl (R_len (E := env) rfl rfl (by assumption)) ?_ | refine SO_v rfl (R_idx (E := env) rfl rfl rfl rfl (by assumption) (by omega)) ?_ | refine SO_v rfl (R_pick_ht rfl (by assumption) rfl) ?_ | refine SO_v rfl (R_pick_hf rfl (by assumption) rfl) ?_ | refine SO_yes rfl rfl rfl ?_ | refine SO_no rfl rfl rfl rfl rfl ?_ | refine SO_nu rfl rfl rfl rfl ?_ | (refine SO_gsplit rfl rfl (fun hB => ?_) (fun hB => ?_) <;> (have hP := hB; (try simp only [decide_eq_true_eq, decide_eq_false_iff_not, Bool.not_eq_true', Bool.not_eq_false', Int.not_lt, Int.not_le] at hP); (try (exfalso; omega)))))) | (refine GC_cond ?_; (first | refine SC_cond_t rfl ?_ | refine SC_cond_f rfl ?_ | refine SC_cond_ht rfl (by assumption) ?_ | refine SC_cond_hf rfl (by assumption) ?_ | (refine SC_cond rfl (fun hB => ?_) (fun hB => ?_) <;> (have hP := hB; (try simp only [decide_eq_true_eq, decide_eq_false_iff_not, Bool.not_eq_true', Bool.not_eq_false', Int.not_lt, Int.not_le] at hP); (try (exfalso; omega)))))))
      refine SO_call rfl rfl (SPick_fn (row_draws b2 r2 W8.heap.size hb8 hr8) (m := 0) (st := ⟨ds, 0, false⟩) k d ⟨s2, hL8, by simp, by simp, hb8, hr8, hL8.lt⟩ (Nat.le_refl _) (by decide)) ?_
      rintro _ W9 ⟨hU9, p, gp, A2, e2, st2, m2, rfl, hOp, hgp, -, -, hord2⟩
      obtain ⟨h2a, h2b⟩ := ordd_row (ws := A) hns (by omega) hF' hA.symm hord2
      subst h2b
      rw [h2a] at hOp
      have hSs9 := ((hOs.ext hE8).upd hU9 (fun j hj => by cases hj; simp; omega)).sl
      have hOa9 := (hOa7.ext hE8).upd hU9 (fun j hj => by have := hgal j hj; simp; omega)
      have hOo9 := (hOo7.ext hE8).upd hU9 (fun j hj => by have := hogl j hj; simp; omega)
      have hE9 : Ext w W9 := (hE7.trans hE8).then hU9 (by simp) (by simp; omega)
      obtain ⟨P, hP⟩ : ∃ P, P = srt A := ⟨_, rfl⟩
      rw [← hP] at hOp
      have hPl : P.length = A.length := by rw [hP, srt_length]
      have hPm : ∀ y ∈ P, y ∈ A := fun y hy => by rw [hP] at hy; exact (srt_perm A).mem_iff.1 hy
      have hPs : P.Pairwise (· ≤ ·) := by rw [hP]; exact srt_sorted A
      have hPn : P.Nodup := by rw [hP]; exact srt_nodup hAn
      have hSp9 := hOp.sl
      have hIP := Is_len P
      repeat' (first | refine SC_seq ?_ | refine SC_region ?_ | refine SO_nil ?_ | refine SX_code ?_ | refine SC_skip ?_ | refine SC_block ?_ | refine SC_e rfl ?_ | refine SC_r ?_ | refine SX_block ?_ | (refine GO ?_; (first | (refine SO_b ?_; (first | refine SO_v rfl (R_wrap (R_auto (E := env) rfl) (by omega)) ?_ | refine SO_v rfl (R_true (R_auto (E := env) rfl) (by first | with_reducible rfl | omega)) ?_ | refine SO_v rfl (R_false (R_auto (E := env) rfl) (by omega)) ?_ | refine SO_v rfl (R_nfalse (R_auto (E := env) rfl) (by first | with_reducible rfl | omega)) ?_ | refine SO_v rfl (R_ntrue (R_auto (E := env) rfl) (by omega)) ?_ | refine SO_a rfl rfl ?_ | refine SO_v rfl (R_ptrEqNil (E := env) rfl rfl) ?_ | refine SO_v rfl (R_ptrNeNil (E := env) rfl rfl) ?_ | refine SO_v rfl (R_slEqNil (E := env) rfl rfl) ?_ | refine SO_v rfl (R_ifEqNil (E := env) rfl rfl) ?_ | refine SO_v rfl (R_ifNilEqNil (E := env) rfl rfl) ?_ | refine SO_v rfl (R_boolEq (E := env) rfl rfl rfl) ?_)) | refine SO_a rfl rfl ?_ | refine SO_v rfl (R_load (E := env) rfl rfl rfl (by first | exact blk_cell (by assumption) rfl | assumption)) ?_ | refine SO_v rfl (R_len (E := env) rfl rfl (by assumption)) ?_ | refine SO_v rfl (R_idx (E := env) rfl rfl rfl rfl (by assumption) (by omega)) ?_ | refine SO_v rfl (R_pick_ht rfl (by assumption) rfl) ?_ | refine SO_v rfl (R_pick_hf rfl (by assumption) rfl) ?_ | refine SO_yes rfl rfl rfl ?_ | refine SO_no rfl rfl rfl rfl rfl ?_ | refine SO_nu rfl rfl rfl rfl ?_ | (refine SO_gsplit rfl rfl (fun hB => ?_) (fun hB => ?_) <;> (have hP := hB; (try simp only [decide_eq_true_eq, decide_eq_false_iff_not, Bool.not_eq_true', Bool.not_eq_false', Int.not_lt, Int.not_le] at hP); (try (exfalso; omega)))))) | (refine GC_cond ?_; (first | refine SC_cond_t rfl ?_ | refine SC_cond_f rfl ?_ | refine SC_cond_ht rfl (by assumption) ?_ | refine SC_cond_hf rfl (by assumption) ?_ | (refine SC_cond rfl (fun hB => ?_) (fun hB => ?_) <;> (have hP := hB; (try simp only [decide_eq_true_eq, decide_eq_false_iff_not, Bool.not_eq_true', Bool.not_eq_false', Int.not_lt, Int.not_le] at hP); (try (exfalso; omega)))))))
      refine SC_loop (ι := Nat) (fun i => [(0, I k), (1, I d), (7, .bool true), (8, o), (12, a), (14, sv), (16, p), (17, I 0), (18, I i)])
        (fun i W' => Ext W9 W' ∧ (i : Int) ≤ d) (fun i => d.toNat - i) 0 ⟨Upd.refl _ _, by omega⟩ (by (repeat (refine Sub.cons rfl (by first | rfl | go_num) ?_)); exact Sub.nil) ?_
      rintro i Wl ⟨hEl, hi'⟩
      by_cases hid' : (i : Int) < (Is P).length
      · have hPi := hPm _ (getD_mem (l := P) (i := ((i : Int)).toNat) (by omega))
        have hy := hAr _ hPi
        have htrue : ∀ w', Ext W9 w' → w'.cell? (addrAt sv (P.getD ((i : Int)).toNat 0).toNat) = some (.bool true) := fun w' e => by
          have h1 := (hSs9.ext e).getb (i := (P.getD ((i : Int)).toNat 0).toNat) (by omega)
          rw [h1, hbs _ (by omega)]
          have e : (((P.getD ((i : Int)).toNat 0).toNat : Nat) : Int) = P.getD ((i : Int)).toNat 0 := by omega
          rw [e, decide_eq_true hPi]
        have hlt : 0 < (i : Int) → P.getD ((i : Int) - 1).toNat 0 < P.getD ((i : Int)).toNat 0 := fun h0 => by
          have := strict hPs hPn (i := ((i : Int) - 1).toNat) (by omega)
          rw [show ((i : Int) - 1).toNat + 1 = ((i : Int)).toNat by omega] at this
          exact this
        repeat' (first | refine SQ_v rfl (fun w' hw' => R_load (E := env) rfl rfl rfl (htrue w' hw')) ?_ | refine SC_seq ?_ | refine SC_region ?_ | refine SO_nil ?_ | refine SX_code ?_ | refine SC_skip ?_ | refine SC_block ?_ | refine SC_e rfl ?_ | refine SC_r ?_ | refine SX_block ?_ | (refine GO ?_; (first | (refine SO_b ?_; (first | refine SO_v rfl (R_wrap (R_auto (E := env) rfl) (by omega)) ?_ | refine SO_v rfl (R_true (R_auto (E := env) rfl) (by first | with_reducible rfl | omega)) ?_ | refine SO_v rfl (R_false (R_auto (E := env) rfl) (by omega)) ?_ | refine SO_v rfl (R_nfalse (R_auto (E := env) rfl) (by first | with_reducible rfl | omega)) ?_ | refine SO_v rfl (R_ntrue (R_auto (E := env) rfl) (by omega)) ?_ | refine SO_a rfl rfl ?_ | refine SO_v rfl (R_ptrEqNil (E := env) rfl rfl) ?_ | refine SO_v rfl (R_ptrNeNil (E := env) rfl rfl) ?_ | refine SO_v rfl (R_slEqNil (E := env) rfl rfl) ?_ | refine SO_v rfl (R_ifEqNil (E := env) rfl rfl) ?_ | refine SO_v rfl (R_ifNilEqNil (E := env) rfl rfl) ?_ | refine SO_v rfl (R_boolEq (E := env) rfl rfl rfl) ?_)) | refine SO_a rfl rfl ?_ | refine SO_v rfl (R_load (E := env) rfl rfl rfl (by first | exact (hSp9.ext (by assumption)).geti (by omega) | exact (hSs9.ext (by assumption)).geti (by omega) | exact blk_cell (by assumption) rfl | assumption)) ?_ | refine SO_v rfl (R_len (E := env) rfl rfl (by first | exact hSp9.ext (by assumption) | exact hSs9.ext (by assumption) | assumption)) ?_ | refine SO_v rfl (R_idx (E := env) rfl rfl rfl rfl (by first | exact hSp9.ext (by assumption) | exact hSs9.ext (by assumption) | assumption) (by omega)) ?_ | refine SO_v rfl (R_pick_ht rfl (by assumption) rfl) ?_ | refine SO_v rfl (R_pick_hf rfl (by assumption) rfl) ?_ | refine SO_yes rfl rfl rfl ?_ | refine SO_no rfl rfl rfl rfl rfl ?_ | refine SO_nu rfl rfl rfl rfl ?_ | (refine SO_gsplit rfl rfl (fun hB => ?_) (fun hB => ?_) <;> (have hP := hB; (try simp only [decide_eq_true_eq, decide_eq_false_iff_not, Bool.not_eq_true', Bool.not_eq_false', Int.not_lt, Int.not_le] at hP); (try (exfalso; omega)))))) | (refine GC_cond ?_; (first | refine SC_cond_t rfl ?_ | refine SC_cond_f rfl ?_ | refine SC_cond_ht rfl (by assumption) ?_ | refine SC_cond_hf rfl (by assumption) ?_ | (refine SC_cond rfl (fun hB => ?_) (fun hB => ?_) <;> (have hP := hB; (try simp only [decide_eq_true_eq, decide_eq_false_iff_not, Bool.not_eq_true', Bool.not_eq_false', Int.not_lt, Int.not_le] at hP); (try (exfalso; omega)))))) | (refine SC_regionQ (fun w2 => Ext W9 w2) (by kernel_rfl) ?_ ?_; focus (exact Ext.trans (by assumption) (Upd.draw _))) | refine SQ_nil (fun wq hq => ?_) | (refine GQ ?_; (first | (refine SQ_b ?_; (first | refine SQ_v rfl (fun w' hw' => R_wrap (R_auto (E := env) rfl) (by omega)) ?_ | refine SQ_v rfl (fun w' hw' => R_true (R_auto (E := env) rfl) (by first | with_reducible rfl | omega)) ?_ | refine SQ_v rfl (fun w' hw' => R_false (R_auto (E := env) rfl) (by omega)) ?_ | refine SQ_v rfl (fun w' hw' => R_nfalse (R_auto (E := env) rfl) (by first | with_reducible rfl | omega)) ?_ | refine SQ_v rfl (fun w' hw' => R_ntrue (R_auto (E := env) rfl) (by omega)) ?_ | refine SQ_a rfl rfl ?_ | refine SQ_v rfl (fun w' hw' => R_ptrEqNil (E := env) rfl rfl) ?_ | refine SQ_v rfl (fun w' hw' => R_ptrNeNil (E := env) rfl rfl) ?_ | refine SQ_v rfl (fun w' hw' => R_slEqNil (E := env) rfl rfl) ?_ | refine SQ_v rfl (fun w' hw' => R_ifEqNil (E := env) rfl rfl) ?_ | refine SQ_v rfl (fun w' hw' => R_ifNilEqNil (E := env) rfl rfl) ?_ | refine SQ_v rfl (fun w' hw' => R_boolEq (E := env) rfl rfl rfl) ?_)) | refine SQ_a rfl rfl ?_ | refine SQ_v rfl (fun w' hw' => R_load (E := env) rfl rfl rfl (by first | exact (hSp9.ext (by assumption)).geti (by omega) | exact (hSs9.ext (by assumption)).geti (by omega) | exact blk_cell (by assumption) rfl | assumption)) ?_ | refine SQ_v rfl (fun w' hw' => R_len (E := env) rfl rfl (by first | exact hSp9.ext (by assumption) | exact hSs9.ext (by assumption) | assumption)) ?_ | refine SQ_v rfl (fun w' hw' => R_idx (E := env) rfl rfl rfl rfl (by first | exact hSp9.ext (by assumption) | exact hSs9.ext (by assumption) | assumption) (by omega)) ?_ | refine SQ_v rfl (fun w' hw' => R_pick_ht rfl (by assumption) rfl) ?_ | refine SQ_v rfl (fun w' hw' => R_pick_hf rfl (by assumption) rfl) ?_ | refine SQ_yes rfl rfl rfl ?_ | refine SQ_no rfl rfl rfl rfl rfl ?_ | refine SQ_nu rfl rfl rfl rfl ?_ | (refine SQ_gsplit rfl rfl (fun hB => ?_) (fun hB => ?_) <;> (have hP := hB; (try simp only [decide_eq_true_eq, decide_eq_false_iff_not, Bool.not_eq_true', Bool.not_eq_false', Int.not_lt, Int.not_le] at hP); (try (exfalso; omega)))))))
        all_goals exact SX_loop (i + 1) ⟨hq, by omega⟩ (by (repeat (refine Sub.cons rfl (by first | rfl | go_num) ?_)); exact Sub.nil) (by omega)
      · repeat' (first | refine SC_seq ?_ | refine SC_region ?_ | refine SO_nil ?_ | refine SX_code ?_ | refine SC_skip ?_ | refine SC_block ?_ | refine SC_e rfl ?_ | refine SC_r ?_ | refine SX_block ?_ | (refine GO ?_; (first | (refine SO_b ?_; (first | refine SO_v rfl (R_wrap (R_auto (E := env) rfl) (by omega)) ?_ | refine SO_v rfl (R_true (R_auto (E := env) rfl) (by first | with_reducible rfl | omega)) ?_ | refine SO_v rfl (R_false (R_auto (E := env) rfl) (by omega)) ?_ | refine SO_v rfl (R_nfalse (R_auto (E := env) rfl) (by first | with_reducible rfl | omega)) ?_ | refine SO_v rfl (R_ntrue (R_auto (E := env) rfl) (by omega)) ?_ | refine SO_a rfl rfl ?_ | refine SO_v rfl (R_ptrEqNil (E := env) rfl rfl) ?_ | refine SO_v rfl (R_ptrNeNil (E := env) rfl rfl) ?_ | refine SO_v rfl (R_slEqNil (E := env) rfl rfl) ?_ | refine SO_v rfl (R_ifEqNil (E := env) rfl rfl) ?_ | refine SO_v rfl (R_ifNilEqNil (E := env) rfl rfl) ?_ | refine SO_v rfl (R_boolEq (E := env) rfl rfl rfl) ?_)) | refine SO_a rfl rfl ?_ | refine SO_v rfl (R_load (E := env) rfl rfl rfl (by first | exact (hSp9.ext (by assumption)).geti (by omega) | exact blk_cell (by assumption) rfl | assumption)) ?_ | refine SO_v rfl (R_len (E := env) rfl rfl (by first | exact hSp9.ext (by assumption) | assumption)) ?_ | refine SO_v rfl (R_idx (E := env) rfl rfl rfl rfl (by first | exact hSp9.ext (by assumption) | assumption) (by omega)) ?_ | refine SO_v rfl (R_pick_ht rfl (by assumption) rfl) ?_ | refine SO_v rfl (R_pick_hf rfl (by assumption) rfl) ?_ | refine SO_yes rfl rfl rfl ?_ | refine SO_no rfl rfl rfl rfl rfl ?_ | refine SO_nu rfl rfl rfl rfl ?_ | (refine SO_gsplit rfl rfl (fun hB => ?_) (fun hB => ?_) <;> (have hP := hB; (try simp only [decide_eq_true_eq, decide_eq_false_iff_not, Bool.not_eq_true', Bool.not_eq_false', Int.not_lt, Int.not_le] at hP); (try (exfalso; omega)))))) | (refine GC_cond ?_; (first | refine SC_cond_t rfl ?_ | refine SC_cond_f rfl ?_ | refine SC_cond_ht rfl (by assumption) ?_ | refine SC_cond_hf rfl (by assumption) ?_ | (refine SC_cond rfl (fun hB => ?_) (fun hB => ?_) <;> (have hP := hB; (try simp only [decide_eq_true_eq, decide_eq_false_iff_not, Bool.not_eq_true', Bool.not_eq_false', Int.not_lt, Int.not_le] at hP); (try (exfalso; omega)))))))
        refine SO_call rfl rfl (ranks_fn k 0 o a ds A Wl (hOo9.sl.ext hEl) (hOa9.sl.ext hEl) hrk) ?_
        rintro _ Wm ⟨rfl, hEm⟩
        repeat' (first | refine SC_seq ?_ | refine SC_region ?_ | refine SO_nil ?_ | refine SX_code ?_ | refine SC_skip ?_ | refine SC_block ?_ | refine SC_e rfl ?_ | refine SC_r ?_ | refine SX_block ?_ | (refine GO ?_; (first | (refine SO_b ?_; (first | refine SO_v rfl (R_wrap (R_auto (E := env) rfl) (by omega)) ?_ | refine SO_v rfl (R_true (R_auto (E := env) rfl) (by first | with_reducible rfl | omega)) ?_ | refine SO_v rfl (R_false (R_auto (E := env) rfl) (by omega)) ?_ | refine SO_v rfl (R_nfalse (R_auto (E := env) rfl) (by first | with_reducible rfl | omega)) ?_ | refine SO_v rfl (R_ntrue (R_auto (E := env) rfl) (by omega)) ?_ | refine SO_a rfl rfl ?_ | refine SO_v rfl (R_ptrEqNil (E := env) rfl rfl) ?_ | refine SO_v rfl (R_ptrNeNil (E := env) rfl rfl) ?_ | refine SO_v rfl (R_slEqNil (E := env) rfl rfl) ?_ | refine SO_v rfl (R_ifEqNil (E := env) rfl rfl) ?_ | refine SO_v rfl (R_ifNilEqNil (E := env) rfl rfl) ?_ | refine SO_v rfl (R_boolEq (E := env) rfl rfl rfl) ?_)) | refine SO_a rfl rfl ?_ | refine SO_v rfl (R_load (E := env) rfl rfl rfl (by first | exact blk_cell (by assumption) rfl | assumption)) ?_ | refine SO_v rfl (R_len (E := env) rfl rfl (by assumption)) ?_ | refine SO_v rfl (R_idx (E := env) rfl rfl rfl rfl (by assumption) (by omega)) ?_ | refine SO_v rfl (R_pick_ht rfl (by assumption) rfl) ?_ | refine SO_v rfl (R_pick_hf rfl (by assumption) rfl) ?_ | refine SO_yes rfl rfl rfl ?_ | refine SO_no rfl rfl rfl rfl rfl ?_ | refine SO_nu rfl rfl rfl rfl ?_ | (refine SO_gsplit rfl rfl (fun hB => ?_) (fun hB => ?_) <;> (have hP := hB; (try simp only [decide_eq_true_eq, decide_eq_false_iff_not, Bool.not_eq_true', Bool.not_eq_false', Int.not_lt, Int.not_le] at hP); (try (exfalso; omega)))))) | (refine GC_cond ?_; (first | refine SC_cond_t rfl ?_ | refine SC_cond_f rfl ?_ | refine SC_cond_ht rfl (by assumption) ?_ | refine SC_cond_hf rfl (by assumption) ?_ | (refine SC_cond rfl (fun hB => ?_) (fun hB => ?_) <;> (have hP := hB; (try simp only [decide_eq_true_eq, decide_eq_false_iff_not, Bool.not_eq_true', Bool.not_eq_false', Int.not_lt, Int.not_le] at hP); (try (exfalso; omega)))))))
        exact SX_ret1 rfl rfl rfl ⟨rfl, (hE9.trans hEl).trans hEm⟩
end Go.Art
