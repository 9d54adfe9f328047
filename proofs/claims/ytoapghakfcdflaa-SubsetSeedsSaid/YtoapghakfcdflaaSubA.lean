/- The law of ranks and orders, in plain lists; the contracts of places. Conditions: none. -/
import Derived.Test.YtoapghakfcdflaaLotsB
import Derived.Test.YtoapghakfcdflaaList
import Derived.Test.YtoapghakfcdflaaMap
set_option linter.unusedSimpArgs false
set_option linter.unusedVariables false
namespace Go.Art
open Go Go.Proofs Go.RowKit

/-! ### Plain: the places 0 to k - 1, exchanged -/
def upto (k : Nat) : List Int := (List.range k).map (fun i : Nat => (i : Int))
theorem upto_length (k : Nat) : (upto k).length = k := by simp [upto]
theorem upto_get (k i : Nat) (h : i < k) : (upto k).getD i 0 = i := by simp [upto, List.getD_eq_getElem?_getD, h]
theorem upto_succ (k : Nat) : upto (k + 1) = upto k ++ [(k : Int)] := by simp [upto, List.range_succ]
def swp (l : List Int) (i j : Nat) : List Int := (l.set j (l.getD i 0)).set i (l.getD j 0)
theorem swp_length (l : List Int) (i j : Nat) : (swp l i j).length = l.length := by simp [swp]
theorem swp_get (l : List Int) {i j : Nat} (t : Nat) (hi : i < l.length) (hj : j < l.length) : (swp l i j).getD t 0 = if t = i then l.getD j 0 else if t = j then l.getD i 0 else l.getD t 0 := by
  simp only [swp, List.getD_eq_getElem?_getD, List.getElem?_set, List.length_set]
  by_cases h1 : t = i
  · subst h1; simp [hi]
  · by_cases h2 : t = j
    · subst h2; simp [Ne.symm h1, h1, hj]
    · simp [Ne.symm h1, Ne.symm h2, h1, h2]

/-- Where x stands in l from place i on. -/
def seek (l : List Int) (i : Nat) (x : Int) : Option Nat := (l.drop i).findIdx? (· == x)
theorem seek_some {l : List Int} {i d : Nat} {x : Int} (h1 : i + d < l.length) (h2 : l.getD (i + d) 0 = x) (h3 : ∀ e, e < d → l.getD (i + e) 0 ≠ x) : seek l i x = some d := by
  unfold seek
  rw [List.findIdx?_eq_some_iff_getElem]
  refine ⟨by simp; omega, ?_, fun j hj => ?_⟩
  · have : (List.drop i l)[d]'(by simp; omega) = l.getD (i + d) 0 := by simp [List.getD_eq_getElem?_getD, h1]
    rw [this, h2]; simp
  · have : (List.drop i l)[j]'(by simp; omega) = l.getD (i + j) 0 := by simp [List.getD_eq_getElem?_getD, show i + j < l.length by omega]
    rw [this]; simpa using h3 j hj
theorem seek_none {l : List Int} {i : Nat} {x : Int} (h : ∀ e, i + e < l.length → l.getD (i + e) 0 ≠ x) : seek l i x = none := by
  unfold seek
  rw [List.findIdx?_eq_none_iff]
  intro y hy
  obtain ⟨e, he, rfl⟩ := List.mem_iff_getElem.1 hy
  have h1 : i + e < l.length := by simp at he; omega
  have := h e h1
  simpa [List.getD_eq_getElem?_getD, h1] using this

/-- The rank of an order. -/
def rk (l : List Int) (i : Nat) : List Int → Option (List Int)
  | [] => some []
  | x :: xs => match seek l i x with
    | none => none
    | some d => (rk (swp l i (i + d)) (i + 1) xs).map ((d : Int) :: ·)
/-- What a rank comes to. -/
def od (l : List Int) (i : Nat) : List Int → List Int
  | [] => []
  | d :: ds => l.getD (i + d.toNat) 0 :: od (swp l i (i + d.toNat)) (i + 1) ds

def rank (k : Int) (order : List Int) : List Int × Int :=
  if k < 1 ∨ 65536 < k ∨ order.length < 1 ∨ k < order.length then ([], 3)
  else match rk (upto k.toNat) 0 order with
    | none => ([], 3)
    | some ds => (ds, 0)

/-! ### sized -/
theorem sized_fn (k d : Int) (w : World) : Fn Try.prog 65 [I k, I d] w fun v w' => v = .bool (decide (1 ≤ k ∧ k ≤ 65536 ∧ 1 ≤ d ∧ d ≤ k)) ∧ w' = w := by
  refine Fn.enter env _ Try.func65 (by kernel_rfl) rfl Try.ntmps65 rfl ?_
  repeat' (first | refine SC_seq ?_ | refine SC_region ?_ | refine SO_nil ?_ | refine SX_code ?_ | refine SC_skip ?_ | refine SC_block ?_ | refine SC_e rfl ?_ | refine SC_r ?_ | refine SX_block ?_ | (refine GO ?_; (first | (refine SO_b ?_; (first | refine SO_v rfl (R_wrap (R_auto (E := env) rfl) (by omega)) ?_ | refine SO_v rfl (R_true (R_auto (E := env) rfl) (by first | with_reducible rfl | omega)) ?_ | refine SO_v rfl (R_false (R_auto (E := env) rfl) (by omega)) ?_ | refine SO_v rfl (R_nfalse (R_auto (E := env) rfl) (by first | with_reducible rfl | omega)) ?_ | refine SO_v rfl (R_ntrue (R_auto (E := env) rfl) (by omega)) ?_ | refine SO_a rfl rfl ?_ | refine SO_v rfl (R_ptrEqNil (E := env) rfl rfl) ?_ | refine SO_v rfl (R_ptrNeNil (E := env) rfl rfl) ?_ | refine SO_v rfl (R_slEqNil (E := env) rfl rfl) ?_ | refine SO_v rfl (R_ifEqNil (E := env) rfl rfl) ?_ | refine SO_v rfl (R_ifNilEqNil (E := env) rfl rfl) ?_ | refine SO_v rfl (R_boolEq (E := env) rfl rfl rfl) ?_)) | refine SO_a rfl rfl ?_ | refine SO_v rfl (R_load (E := env) rfl rfl rfl (by first | exact blk_cell (by assumption) rfl | assumption)) ?_ | refine SO_v rfl (R_len (E := env) rfl rfl (by assumption)) ?_ | refine SO_v rfl (R_idx (E := env) rfl rfl rfl rfl (by assumption) (by omega)) ?_ | refine SO_v rfl (R_pick_ht rfl (by assumption) rfl) ?_ | refine SO_v rfl (R_pick_hf rfl (by assumption) rfl) ?_ | refine SO_yes rfl rfl rfl ?_ | refine SO_no rfl rfl rfl rfl rfl ?_ | refine SO_nu rfl rfl rfl rfl ?_ | (refine SO_gsplit rfl rfl (fun hB => ?_) (fun hB => ?_) <;> (have hP := hB; (try simp only [decide_eq_true_eq, decide_eq_false_iff_not, Bool.not_eq_true', Bool.not_eq_false', Int.not_lt, Int.not_le] at hP); (try (exfalso; omega)))))) | (refine GC_cond ?_; (first | refine SC_cond_t rfl ?_ | refine SC_cond_f rfl ?_ | refine SC_cond_ht rfl (by assumption) ?_ | refine SC_cond_hf rfl (by assumption) ?_ | (refine SC_cond rfl (fun hB => ?_) (fun hB => ?_) <;> (have hP := hB; (try simp only [decide_eq_true_eq, decide_eq_false_iff_not, Bool.not_eq_true', Bool.not_eq_false', Int.not_lt, Int.not_le] at hP); (try (exfalso; omega)))))))
  all_goals
    refine SX_ret1 rfl rfl rfl ⟨?_, rfl⟩
    first
      | exact congrArg Value.bool (decide_eq_true (by omega)).symm
      | exact congrArg Value.bool (decide_eq_false (by omega)).symm
      | exact congrArg Value.bool (decide_eq_decide.2 (by omega))

/-! ### places -/
/-- The map at b tells, of each place, what stands there. -/
structure Plc (w : World) (b : Nat) (g : Int → Int) : Prop where
  ex : ∃ f, MapF w b f ∧ ∀ k, (f k = none ∧ g k = k) ∨ f k = some (I (g k))
theorem Plc.upd {w w' : World} {b : Nat} {g : Int → Int} {S : List Nat} (h : Plc w b g) (u : Upd w w' S) (hb : b ∉ S) : Plc w' b g := by
  obtain ⟨f, h1, h2⟩ := h.ex
  exact ⟨f, h1.upd u hb, h2⟩
theorem Plc.lt {w : World} {b : Nat} {g : Int → Int} (h : Plc w b g) : b < w.heap.size := by
  obtain ⟨f, h1, h2⟩ := h.ex
  exact h1.lt
def upg (g : Int → Int) (k v : Int) : Int → Int := fun k' => if k' = k then v else g k'
theorem Plc.put {w : World} {b : Nat} {f : Int → Option Value} {g : Int → Int} {k v : Int} (h1 : MapF w b (updF f k (I v))) (h2 : ∀ k, (f k = none ∧ g k = k) ∨ f k = some (I (g k))) : Plc w b (upg g k v) := by
  refine ⟨_, h1, fun k' => ?_⟩
  unfold updF upg
  by_cases e : k' = k
  · rw [if_pos e, if_pos e]; exact .inr rfl
  · rw [if_neg e, if_neg e]; exact h2 k'

theorem at_fn {w : World} {b : Nat} {g : Int → Int} (i : Int) (h : Plc w b g) : Fn Try.prog 66 [mp b, I i] w fun v w' => v = I (g i) ∧ w' = w := by
  obtain ⟨f, h1, h2⟩ := h.ex
  refine Fn.enter env _ Try.func66 (by kernel_rfl) rfl Try.ntmps66 rfl ?_
  rcases h2 i with ⟨h3, h4⟩ | h3
  · repeat' (first | refine SO_v rfl (R_lookN (E := env) rfl rfl rfl rfl rfl h1 h3) ?_ | refine SC_seq ?_ | refine SC_region ?_ | refine SO_nil ?_ | refine SX_code ?_ | refine SC_skip ?_ | refine SC_block ?_ | refine SC_e rfl ?_ | refine SC_r ?_ | refine SX_block ?_ | (refine GO ?_; (first | (refine SO_b ?_; (first | refine SO_v rfl (R_wrap (R_auto (E := env) rfl) (by omega)) ?_ | refine SO_v rfl (R_true (R_auto (E := env) rfl) (by first | with_reducible rfl | omega)) ?_ | refine SO_v rfl (R_false (R_auto (E := env) rfl) (by omega)) ?_ | refine SO_v rfl (R_nfalse (R_auto (E := env) rfl) (by first | with_reducible rfl | omega)) ?_ | refine SO_v rfl (R_ntrue (R_auto (E := env) rfl) (by omega)) ?_ | refine SO_a rfl rfl ?_ | refine SO_v rfl (R_ptrEqNil (E := env) rfl rfl) ?_ | refine SO_v rfl (R_ptrNeNil (E := env) rfl rfl) ?_ | refine SO_v rfl (R_slEqNil (E := env) rfl rfl) ?_ | refine SO_v rfl (R_ifEqNil (E := env) rfl rfl) ?_ | refine SO_v rfl (R_ifNilEqNil (E := env) rfl rfl) ?_ | refine SO_v rfl (R_boolEq (E := env) rfl rfl rfl) ?_)) | refine SO_a rfl rfl ?_ | refine SO_v rfl (R_load (E := env) rfl rfl rfl (by first | exact blk_cell (by assumption) rfl | assumption)) ?_ | refine SO_v rfl (R_len (E := env) rfl rfl (by assumption)) ?_ | refine SO_v rfl (R_idx (E := env) rfl rfl rfl rfl (by assumption) (by omega)) ?_ | refine SO_v rfl (R_pick_ht rfl (by assumption) rfl) ?_ | refine SO_v rfl (R_pick_hf rfl (by assumption) rfl) ?_ | refine SO_yes rfl rfl rfl ?_ | refine SO_no rfl rfl rfl rfl rfl ?_ | refine SO_nu rfl rfl rfl rfl ?_ | (refine SO_gsplit rfl rfl (fun hB => ?_) (fun hB => ?_) <;> (have hP := hB; (try simp only [decide_eq_true_eq, decide_eq_false_iff_not, Bool.not_eq_true', Bool.not_eq_false', Int.not_lt, Int.not_le] at hP); (try (exfalso; omega)))))) | (refine GC_cond ?_; (first | refine SC_cond_t rfl ?_ | refine SC_cond_f rfl ?_ | refine SC_cond_ht rfl (by assumption) ?_ | refine SC_cond_hf rfl (by assumption) ?_ | (refine SC_cond rfl (fun hB => ?_) (fun hB => ?_) <;> (have hP := hB; (try simp only [decide_eq_true_eq, decide_eq_false_iff_not, Bool.not_eq_true', Bool.not_eq_false', Int.not_lt, Int.not_le] at hP); (try (exfalso; omega)))))))
    exact SX_ret1 rfl rfl rfl ⟨by rw [h4], rfl⟩
  · repeat' (first | refine SO_v rfl (R_lookS (E := env) rfl rfl rfl rfl h1 h3) ?_ | refine SC_seq ?_ | refine SC_region ?_ | refine SO_nil ?_ | refine SX_code ?_ | refine SC_skip ?_ | refine SC_block ?_ | refine SC_e rfl ?_ | refine SC_r ?_ | refine SX_block ?_ | (refine GO ?_; (first | (refine SO_b ?_; (first | refine SO_v rfl (R_wrap (R_auto (E := env) rfl) (by omega)) ?_ | refine SO_v rfl (R_true (R_auto (E := env) rfl) (by first | with_reducible rfl | omega)) ?_ | refine SO_v rfl (R_false (R_auto (E := env) rfl) (by omega)) ?_ | refine SO_v rfl (R_nfalse (R_auto (E := env) rfl) (by first | with_reducible rfl | omega)) ?_ | refine SO_v rfl (R_ntrue (R_auto (E := env) rfl) (by omega)) ?_ | refine SO_a rfl rfl ?_ | refine SO_v rfl (R_ptrEqNil (E := env) rfl rfl) ?_ | refine SO_v rfl (R_ptrNeNil (E := env) rfl rfl) ?_ | refine SO_v rfl (R_slEqNil (E := env) rfl rfl) ?_ | refine SO_v rfl (R_ifEqNil (E := env) rfl rfl) ?_ | refine SO_v rfl (R_ifNilEqNil (E := env) rfl rfl) ?_ | refine SO_v rfl (R_boolEq (E := env) rfl rfl rfl) ?_)) | refine SO_a rfl rfl ?_ | refine SO_v rfl (R_load (E := env) rfl rfl rfl (by first | exact blk_cell (by assumption) rfl | assumption)) ?_ | refine SO_v rfl (R_len (E := env) rfl rfl (by assumption)) ?_ | refine SO_v rfl (R_idx (E := env) rfl rfl rfl rfl (by assumption) (by omega)) ?_ | refine SO_v rfl (R_pick_ht rfl (by assumption) rfl) ?_ | refine SO_v rfl (R_pick_hf rfl (by assumption) rfl) ?_ | refine SO_yes rfl rfl rfl ?_ | refine SO_no rfl rfl rfl rfl rfl ?_ | refine SO_nu rfl rfl rfl rfl ?_ | (refine SO_gsplit rfl rfl (fun hB => ?_) (fun hB => ?_) <;> (have hP := hB; (try simp only [decide_eq_true_eq, decide_eq_false_iff_not, Bool.not_eq_true', Bool.not_eq_false', Int.not_lt, Int.not_le] at hP); (try (exfalso; omega)))))) | (refine GC_cond ?_; (first | refine SC_cond_t rfl ?_ | refine SC_cond_f rfl ?_ | refine SC_cond_ht rfl (by assumption) ?_ | refine SC_cond_hf rfl (by assumption) ?_ | (refine SC_cond rfl (fun hB => ?_) (fun hB => ?_) <;> (have hP := hB; (try simp only [decide_eq_true_eq, decide_eq_false_iff_not, Bool.not_eq_true', Bool.not_eq_false', Int.not_lt, Int.not_le] at hP); (try (exfalso; omega)))))))
    exact SX_ret1 rfl rfl rfl ⟨rfl, rfl⟩

theorem exchange_fn {w : World} {b : Nat} {g : Int → Int} (i j : Int) (h : Plc w b g) : Fn Try.prog 67 [mp b, I i, I j] w fun _ w' => Upd w w' [b] ∧ Plc w' b (upg (upg g i (g j)) j (g i)) := by
  obtain ⟨f, h1, h2⟩ := h.ex
  refine Fn.enter env _ Try.func67 (by kernel_rfl) rfl Try.ntmps67 rfl ?_
  repeat' (first | (refine SO_call rfl rfl (at_fn _ h) ?_; rintro v w' ⟨rfl, rfl⟩) | refine SC_seq ?_ | refine SC_region ?_ | refine SO_nil ?_ | refine SX_code ?_ | refine SC_skip ?_ | refine SC_block ?_ | refine SC_e rfl ?_ | refine SC_r ?_ | refine SX_block ?_ | (refine GO ?_; (first | (refine SO_b ?_; (first | refine SO_v rfl (R_wrap (R_auto (E := env) rfl) (by omega)) ?_ | refine SO_v rfl (R_true (R_auto (E := env) rfl) (by first | with_reducible rfl | omega)) ?_ | refine SO_v rfl (R_false (R_auto (E := env) rfl) (by omega)) ?_ | refine SO_v rfl (R_nfalse (R_auto (E := env) rfl) (by first | with_reducible rfl | omega)) ?_ | refine SO_v rfl (R_ntrue (R_auto (E := env) rfl) (by omega)) ?_ | refine SO_a rfl rfl ?_ | refine SO_v rfl (R_ptrEqNil (E := env) rfl rfl) ?_ | refine SO_v rfl (R_ptrNeNil (E := env) rfl rfl) ?_ | refine SO_v rfl (R_slEqNil (E := env) rfl rfl) ?_ | refine SO_v rfl (R_ifEqNil (E := env) rfl rfl) ?_ | refine SO_v rfl (R_ifNilEqNil (E := env) rfl rfl) ?_ | refine SO_v rfl (R_boolEq (E := env) rfl rfl rfl) ?_)) | refine SO_a rfl rfl ?_ | refine SO_v rfl (R_load (E := env) rfl rfl rfl (by first | exact blk_cell (by assumption) rfl | assumption)) ?_ | refine SO_v rfl (R_len (E := env) rfl rfl (by assumption)) ?_ | refine SO_v rfl (R_idx (E := env) rfl rfl rfl rfl (by assumption) (by omega)) ?_ | refine SO_v rfl (R_pick_ht rfl (by assumption) rfl) ?_ | refine SO_v rfl (R_pick_hf rfl (by assumption) rfl) ?_ | refine SO_yes rfl rfl rfl ?_ | refine SO_no rfl rfl rfl rfl rfl ?_ | refine SO_nu rfl rfl rfl rfl ?_ | (refine SO_gsplit rfl rfl (fun hB => ?_) (fun hB => ?_) <;> (have hP := hB; (try simp only [decide_eq_true_eq, decide_eq_false_iff_not, Bool.not_eq_true', Bool.not_eq_false', Int.not_lt, Int.not_le] at hP); (try (exfalso; omega)))))) | (refine GC_cond ?_; (first | refine SC_cond_t rfl ?_ | refine SC_cond_f rfl ?_ | refine SC_cond_ht rfl (by assumption) ?_ | refine SC_cond_hf rfl (by assumption) ?_ | (refine SC_cond rfl (fun hB => ?_) (fun hB => ?_) <;> (have hP := hB; (try simp only [decide_eq_true_eq, decide_eq_false_iff_not, Bool.not_eq_true', Bool.not_eq_false', Int.not_lt, Int.not_le] at hP); (try (exfalso; omega)))))))
  refine SO_mapEntry rfl rfl rfl rfl rfl rfl h1 fun w1 st hU1 hS1 => ?_
  repeat' (first | refine SC_seq ?_ | refine SC_region ?_ | refine SO_nil ?_ | refine SX_code ?_ | refine SC_skip ?_ | refine SC_block ?_ | refine SC_e rfl ?_ | refine SC_r ?_ | refine SX_block ?_ | (refine GO ?_; (first | (refine SO_b ?_; (first | refine SO_v rfl (R_wrap (R_auto (E := env) rfl) (by omega)) ?_ | refine SO_v rfl (R_true (R_auto (E := env) rfl) (by first | with_reducible rfl | omega)) ?_ | refine SO_v rfl (R_false (R_auto (E := env) rfl) (by omega)) ?_ | refine SO_v rfl (R_nfalse (R_auto (E := env) rfl) (by first | with_reducible rfl | omega)) ?_ | refine SO_v rfl (R_ntrue (R_auto (E := env) rfl) (by omega)) ?_ | refine SO_a rfl rfl ?_ | refine SO_v rfl (R_ptrEqNil (E := env) rfl rfl) ?_ | refine SO_v rfl (R_ptrNeNil (E := env) rfl rfl) ?_ | refine SO_v rfl (R_slEqNil (E := env) rfl rfl) ?_ | refine SO_v rfl (R_ifEqNil (E := env) rfl rfl) ?_ | refine SO_v rfl (R_ifNilEqNil (E := env) rfl rfl) ?_ | refine SO_v rfl (R_boolEq (E := env) rfl rfl rfl) ?_)) | refine SO_a rfl rfl ?_ | refine SO_v rfl (R_load (E := env) rfl rfl rfl (by first | exact blk_cell (by assumption) rfl | assumption)) ?_ | refine SO_v rfl (R_len (E := env) rfl rfl (by assumption)) ?_ | refine SO_v rfl (R_idx (E := env) rfl rfl rfl rfl (by assumption) (by omega)) ?_ | refine SO_v rfl (R_pick_ht rfl (by assumption) rfl) ?_ | refine SO_v rfl (R_pick_hf rfl (by assumption) rfl) ?_ | refine SO_yes rfl rfl rfl ?_ | refine SO_no rfl rfl rfl rfl rfl ?_ | refine SO_nu rfl rfl rfl rfl ?_ | (refine SO_gsplit rfl rfl (fun hB => ?_) (fun hB => ?_) <;> (have hP := hB; (try simp only [decide_eq_true_eq, decide_eq_false_iff_not, Bool.not_eq_true', Bool.not_eq_false', Int.not_lt, Int.not_le] at hP); (try (exfalso; omega)))))) | (refine GC_cond ?_; (first | refine SC_cond_t rfl ?_ | refine SC_cond_f rfl ?_ | refine SC_cond_ht rfl (by assumption) ?_ | refine SC_cond_hf rfl (by assumption) ?_ | (refine SC_cond rfl (fun hB => ?_) (fun hB => ?_) <;> (have hP := hB; (try simp only [decide_eq_true_eq, decide_eq_false_iff_not, Bool.not_eq_true', Bool.not_eq_false', Int.not_lt, Int.not_le] at hP); (try (exfalso; omega)))))))
  refine SO_entryStore rfl rfl rfl hS1 fun w2 hU2 hM2 => ?_
  refine SO_mapUpdate rfl rfl rfl rfl rfl hM2 fun w3 hU3 hM3 => ?_
  repeat' (first | refine SC_seq ?_ | refine SC_region ?_ | refine SO_nil ?_ | refine SX_code ?_ | refine SC_skip ?_ | refine SC_block ?_ | refine SC_e rfl ?_ | refine SC_r ?_ | refine SX_block ?_ | (refine GO ?_; (first | (refine SO_b ?_; (first | refine SO_v rfl (R_wrap (R_auto (E := env) rfl) (by omega)) ?_ | refine SO_v rfl (R_true (R_auto (E := env) rfl) (by first | with_reducible rfl | omega)) ?_ | refine SO_v rfl (R_false (R_auto (E := env) rfl) (by omega)) ?_ | refine SO_v rfl (R_nfalse (R_auto (E := env) rfl) (by first | with_reducible rfl | omega)) ?_ | refine SO_v rfl (R_ntrue (R_auto (E := env) rfl) (by omega)) ?_ | refine SO_a rfl rfl ?_ | refine SO_v rfl (R_ptrEqNil (E := env) rfl rfl) ?_ | refine SO_v rfl (R_ptrNeNil (E := env) rfl rfl) ?_ | refine SO_v rfl (R_slEqNil (E := env) rfl rfl) ?_ | refine SO_v rfl (R_ifEqNil (E := env) rfl rfl) ?_ | refine SO_v rfl (R_ifNilEqNil (E := env) rfl rfl) ?_ | refine SO_v rfl (R_boolEq (E := env) rfl rfl rfl) ?_)) | refine SO_a rfl rfl ?_ | refine SO_v rfl (R_load (E := env) rfl rfl rfl (by first | exact blk_cell (by assumption) rfl | assumption)) ?_ | refine SO_v rfl (R_len (E := env) rfl rfl (by assumption)) ?_ | refine SO_v rfl (R_idx (E := env) rfl rfl rfl rfl (by assumption) (by omega)) ?_ | refine SO_v rfl (R_pick_ht rfl (by assumption) rfl) ?_ | refine SO_v rfl (R_pick_hf rfl (by assumption) rfl) ?_ | refine SO_yes rfl rfl rfl ?_ | refine SO_no rfl rfl rfl rfl rfl ?_ | refine SO_nu rfl rfl rfl rfl ?_ | (refine SO_gsplit rfl rfl (fun hB => ?_) (fun hB => ?_) <;> (have hP := hB; (try simp only [decide_eq_true_eq, decide_eq_false_iff_not, Bool.not_eq_true', Bool.not_eq_false', Int.not_lt, Int.not_le] at hP); (try (exfalso; omega)))))) | (refine GC_cond ?_; (first | refine SC_cond_t rfl ?_ | refine SC_cond_f rfl ?_ | refine SC_cond_ht rfl (by assumption) ?_ | refine SC_cond_hf rfl (by assumption) ?_ | (refine SC_cond rfl (fun hB => ?_) (fun hB => ?_) <;> (have hP := hB; (try simp only [decide_eq_true_eq, decide_eq_false_iff_not, Bool.not_eq_true', Bool.not_eq_false', Int.not_lt, Int.not_le] at hP); (try (exfalso; omega)))))))
  refine SX_end0 rfl rfl ⟨(hU1.then hU2 (U := [b]) (by simp) (by simp)).then hU3 (by simp) (by simp), ?_⟩
  refine Plc.put hM3 fun k => ?_
  unfold updF upg
  by_cases e : k = i
  · rw [if_pos e, if_pos e]; exact .inr rfl
  · rw [if_neg e, if_neg e, if_neg e]; exact h2 k
end Go.Art
