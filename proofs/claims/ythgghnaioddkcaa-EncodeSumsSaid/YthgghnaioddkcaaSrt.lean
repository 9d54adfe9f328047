/- The library's sort of a slice of integers, on a piece of memory. Conditions: none. -/
import Derived.Test.YthgghnaioddkcaaLaySort
import Derived.Test.YthgghnaioddkcaaKa
import Derived.Shelf.Sort.AssemblyIn
import Derived.Shelf.Slices.In.SortNone
import Derived.Sort.EveryDepth
set_option linter.unusedSimpArgs false
set_option linter.unusedVariables false
namespace Go.Art
open Go Go.Proofs Go.RowKit

def srt (xs : List Int) : List Int := xs.mergeSort fun x y => decide (x ≤ y)
theorem srt_perm (xs : List Int) : (srt xs).Perm xs := List.mergeSort_perm xs _
theorem srt_length (xs : List Int) : (srt xs).length = xs.length := (srt_perm xs).length_eq
theorem srt_sorted (xs : List Int) : (srt xs).Pairwise (· ≤ ·) := by
  have h := List.pairwise_mergeSort (le := fun x y : Int => decide (x ≤ y)) (fun a b c h1 h2 => by simp at *; omega) (fun a b => by simp; omega) xs
  exact h.imp fun h => by simpa using h


theorem Sort_tr (v : Value) (xs : List Int) (hlen : xs.length < 4611686018427387904) : Tr Try.prog 59 [v] [] [own 3 v (Is xs)] fun u D => u = .tuple #[] ∧ D = [own 3 v (Is (srt xs))] := by
  refine ⟨fun w hw => ?_, fun _ h => nomatch h⟩
  have hO : OwnO w 3 v (Is xs) := hw.h (own 3 v (Is xs)) (by simp)
  have fin : ∀ (w' : World) (u : Value), Upd w w' v.ownBlock.toList → OwnO w' 3 v (Is (srt xs)) → u = .tuple #[] → PR w [own 3 v (Is xs)] (fun u D => u = .tuple #[] ∧ D = [own 3 v (Is (srt xs))]) u w' := by
    intro w' u hU hO' hu
    refine ⟨[own 3 v (Is (srt xs))], ⟨hu, rfl⟩, Sat.one hO', Mv.upd hU (fun b hb => .inl (wrs_one.2 (by show v.ownBlock = some b; simpa using hb))) (fun b hb => .inl (wrs_one.2 (by have := wrs_one.1 hb; exact this))) (fun b hb => (by have := rds_one.1 hb; exact this.elim)), fun c hc b hb => ?_⟩
    obtain rfl : c = own 3 v (Is (srt xs)) := by simpa using hc
    exact hb
  refine ⟨⟨_, Try.func59, rfl, rfl⟩, ?_⟩
  have hl := Is_len xs
  rcases hO with ⟨rfl, h0⟩ | ⟨b, o, cap, cur, rfl, hb, h1, h2, h3, h4⟩
  · obtain rfl : xs = [] := by cases xs with | nil => rfl | cons => cases h0
    exact (calls_of_every_depth fun D => AnyS.slices_Sort_int_none_in laysSort D none 0 w).mono fun e w' ⟨he, hw⟩ => by
      subst he hw
      exact ⟨_, rfl, fin _ _ (Upd.refl _ _) (by rw [show srt [] = [] by simp [srt]]; exact .inl ⟨rfl, rfl⟩) rfl⟩
  · have hcell : ∀ j, j < xs.length → w.cell? ⟨b, o + j, none⟩ = some (I (xs.getD j 0)) ∧ w.frozen? ⟨b, o + j, none⟩ = false := fun j hj => by
      have hg := Is_get xs j hj
      rw [← h4, List.getElem?_take, if_pos (by omega), List.getElem?_drop] at hg
      exact ⟨blk_cell hb (by simpa using hg), frozen_of_row w b (o + j) cur _ hb⟩
    have hH : Sort.Holds (Value.int .i64) w b o xs.toArray := fun j hj => by
      have hj' : j < xs.length := by simpa using hj
      obtain ⟨h5, h6⟩ := hcell j hj'
      refine ⟨?_, h6⟩
      rw [h5]
      simp [List.getD_eq_getElem?_getD, hj']
    rw [hl] at fin ⊢
    refine (calls_of_every_depth fun D => AnyS.slices_Sort_int_in laysSort D b o cap xs w hH (lt_of_heap hb) hlen).mono fun e w' ⟨he, n, os, hw⟩ => ?_
    subst he
    refine ⟨_, rfl, fin _ _ ?_ ?_ rfl⟩
    · subst hw
      refine ⟨rfl, rfl, rfl, by simp [Sort.ahead], fun k hk hn => ?_⟩
      have hkb : k ≠ b := fun q => hn (by simp [q, Value.ownBlock])
      rw [Sort.heap_grow_old _ _ (by simpa [Sort.ahead] using hk)]
      simp [Sort.putRow, Sort.mapBlock, Array.getElem?_modify, Ne.symm hkb, Sort.ahead]
    · refine .inr ⟨b, o, cap, Sort.putCells (Value.int .i64) o (srt xs).toArray cur, by rw [Is_len, srt_length], ?_, by rw [Is_len, srt_length]; omega, h2, by simp [Sort.putCells]; omega, ?_⟩
      · subst hw
        rw [Sort.heap_grow_old _ _ (by simpa [Sort.ahead] using lt_of_heap hb)]
        simp [Sort.putRow, Sort.mapBlock, Array.getElem?_modify, hb, Sort.ahead, Sort.onCells, srt]
      · apply List.ext_getElem?
        intro j
        rw [List.getElem?_take, List.getElem?_drop]
        by_cases hj : j < xs.length
        · have hj2 : o + j < cur.size := by omega
          have hj3 : j < (srt xs).length := by rw [srt_length]; exact hj
          rw [Is_len, srt_length, if_pos hj]
          simp [Sort.putCells, hj, hj2, hj3, srt_length]
        · rw [Is_len, srt_length, if_neg hj]
          symm
          rw [List.getElem?_eq_none]
          rw [Is_len, srt_length]; omega
end Go.Art
